/-
  Y25: contracts and lemmas alone; no statement is claimed here.
-/
import Derived.Test.YtboihcigcfmhhaaGreatY17
import Derived.Test.YtboihcigcfmhhaaGreatY5
set_option maxHeartbeats 2000000
namespace Go.Proofs.YtboihcigcfmhhaaGreat
open Go renaming results_cell_row → aZZ
open Go renaming results_tmp → aZK
open Go renaming wpList_store_row → aZE
open _root_.Nat renaming le_refl → aZC
open Go renaming bodyPost_ret → aZB
open Lib renaming hid -> zH
open Go.RowKit
attribute [local go_sem] pureUpon Ords.of
theorem get_any (A : Option Addr) (c N at_ n B : Nat) (l : List UInt8) (w : World) (hN : l.length = N) (hm : N <= 1024) (hr : RS cB w B A l) (hat : at_ + n <= N) (hn : n <= 8) :
  Calls Tryz.prog 90 #[.slice A N c, .int .i64 at_, .int .i64 n] w fun e w' => e = .returned (.int .u64 (fld l at_ n : Nat)) /\ w = w' := by
 have HN := zH hN; have HR := zH hr; clear hN hr;go_enter Tryz.func90, Tryz.ntmps90;go_wp2;go_loop [7, 8, 10] (fun v _ i => ∃ (k x : Nat), k <= n /\ i = .int .i64 k /\ v = .int .u64 x /\ x = le ((l.drop at_).take k)) (fun _ _ i => n - (intOf i).toNat)
 case atStart => exact ⟨0, 0, by omega, rfl, rfl, by simp [le]⟩
 case round =>
  obtain ⟨k, x, hk, rfl, rfl, hx⟩ := hrel;have HX := zH hx; clear hx
  by_cases hlt : k < n
  ·obtain ⟨ad, b, rfl, -, eb, gb⟩ := HR.at_ (k := at_ + k) (by rw [HN.out]; omega)
   change w.cell? (ad.add (at_ + k)) = some (.int .u8 (byt b)) at gb;have EB := zH eb; clear eb;have gk : (at_ : Int) + k < N := by omega
   have r1 := byt_range b;obtain ⟨r1, r2⟩ := r1;go_wp2
   case roundEnd =>
    have hx : x < 256 ^ k := by
     have := le_lt ((l.drop at_).take k);rw [<- HX.out] at this;have e : ((l.drop at_).take k).length = k := by simp; have := HN.out; omega
     rwa [e] at this
    refine ⟨⟨k + 1, x + 256 ^ k * b.toNat, by omega, by go_num, by rw [ld_step x k b (by omega) hx], ?_⟩, by simp [intOf]; omega⟩;have e : (l.drop at_).take (k + 1) = (l.drop at_).take k ++ [b] := by
     rw [List.take_add_one, List.getElem?_drop, EB.out]; rfl
    rw [e, le_snoc, <- HX.out];have e2 : ((l.drop at_).take k).length = k := by simp; have := HN.out; omega
    rw [e2]
  ·obtain rfl : k = n := by omega
   go_wp2;exact aZB (aZK rfl _ _ _) rfl ⟨by rw [HX.out]; rfl, rfl⟩
theorem Trim.all (l : List UInt8) : Trim l l.length := ⟨aZC _, by simp⟩
theorem Trim.less {l : List UInt8} {k : Nat} (h : Trim l (k + 1)) (h0 : l[k]? = some 0) : Trim l k := by
 obtain ⟨h1, h2⟩ := h;refine ⟨by omega, ?_⟩;obtain ⟨h3, h4⟩ := List.getElem?_eq_some_iff.1 h0;have e : l.length - k = (l.length - (k + 1)) + 1 := by omega
 rw [List.drop_eq_getElem_cons h3, h2, h4, e, List.replicate_succ]
theorem trimmed_any (A : Option Addr) (c N : Nat) (l : List UInt8) (w : World) (hl : l.length = N) (hN : N <= 1024) (hc : N <= c) (hcm : c <= 9223372036854775807) (hr : RS cB w w.heap.size A l) :
  Calls Tryz.prog 110 #[.slice A N c] w fun r w' => ∃ (A' : Option Addr) (t c' : Nat), r = .returned (.slice A' t c') /\ Trim l t /\ OS cB w' w.heap.size A' c' (l.take t) /\ Below w.heap.size w w' := by
 have HL := zH hl; have HR := zH hr; have HN3 := zH (OS.nil (cd := cB) w w.heap.size 0 rfl); clear hr;go_enter Tryz.func110, Tryz.ntmps110;go_wp2;go_loop [3] (fun v => ∃ t : Nat, t <= N /\ v = .int .i64 t /\ Trim l t) (fun v => (intOf v).toNat)
 case atStart => exact ⟨N, aZC _, rfl, by rw [<- hl]; exact Trim.all l⟩
 case round =>
  obtain ⟨t, ht, rfl, hT⟩ := hrel;have HT := zH hT; clear hT hl
  by_cases h0 : 0 < t
  ·obtain ⟨k, rfl⟩ : ∃ k, t = k + 1 := ⟨t - 1, by omega⟩
   obtain ⟨ad, b, rfl, -, eb, gb⟩ := HR.at_ (k := k) (by rw [HL.out]; omega);change w.cell? (ad.add k) = some (.int .u8 (byt b)) at gb;have ek : ((k + 1 : Nat) : Int) - 1 = (k : Int) := by omega
   have wk : wrap64 (((k + 1 : Nat) : Int) - 1) = (k : Int) := by unfold wrap64; omega
   have EB := zH eb; clear eb
   by_cases hb : b = 0
   ·subst hb
    go_wp2
    case roundEnd =>
     exact ⟨⟨k, by omega, by go_num, HT.less EB.out⟩, by simp [intOf]⟩
   ·have tb : (byt b == 0) = false := by
     rw [beq_eq_false_iff_ne];intro h;exact hb (UInt8.toNat_inj.1 (Int.ofNat.inj h))
    clear hb;generalize byt b = y at *;go_wp2_with (at_builtin; refine wpList_appB _ rfl (.const (.slice none 0 0)) (.tmp 20) rfl HN3.out rfl rfl (HR.take (k + 1)) rfl (by rw [List.length_take, HL.out]; exact Nat.min_eq_left ht) (by omega) (aZC _) ?_; intro A3 c3 w3 ho3 hg3 hA3; have hb3 := bapp (b0 w) HN3.out hg3; rw [List.nil_append] at ho3);refine aZB (aZK rfl _ _ _) rfl ⟨A3, (k + 1), c3, rfl, HT.out, ho3, hb3⟩
  ·obtain rfl : t = 0 := by omega
   go_wp2_with (at_builtin; refine wpList_appB _ rfl (.const (.slice none 0 0)) (.tmp 20) rfl HN3.out rfl rfl (HR.take 0) rfl (by rw [List.length_take, HL.out]; exact Nat.min_eq_left (Nat.zero_le _)) (by omega) (aZC _) ?_; intro A3 c3 w3 ho3 hg3 hA3; have hb3 := bapp (b0 w) HN3.out hg3; rw [List.nil_append] at ho3);refine aZB (aZK rfl _ _ _) rfl ⟨A3, 0, c3, rfl, HT.out, ho3, hb3⟩
theorem sizes_any (big : Bool) (w : World) : Calls Tryz.prog 49 #[.int .i64 (kOf big)] w fun e w' => e = .returned (.tuple #[.int .i64 (bOf big : Nat), .int .i64 (bOf big : Nat), .int .i64 (bOf big / 4 : Nat)]) /\ w = w' := by
 cases big
 ·exact sizes_small w
 ·exact sizes_big w
theorem rightLen_any (big : Bool) (A : Option Addr) (n c : Nat) (w : World) : Calls Tryz.prog 89 #[.int .i64 (kOf big), .slice A n c] w fun e w' => e = .returned (.int .i64 (if n < bOf big then 3 else if bOf big < n then 2 else 0)) /\ w = w' := by
 have hs := fun W => sizes_any big W
 have h0 : ((bOf big : Int) == 0) = false := by cases big <;> rfl
 generalize bOf big / 4 = q at *;generalize bOf big = m at *;generalize kOf big = k at *;have HS := zH hs; clear hs
 by_cases h1 : n < m
 ·rw [if_pos h1]
  have t1 : decide ((n : Int) < (m : Int)) = true := decide_eq_true (Int.ofNat_lt.2 h1);go_enter Tryz.func89, Tryz.ntmps89;go_wp2_with (go_at_call 49; refine (HS _).mono ?_; rintro e1 w1 ⟨rfl, rfl⟩);exact aZB (aZK rfl _ _ _) rfl ⟨rfl, rfl⟩
 ·rw [if_neg h1]
  have t1 : decide ((n : Int) < (m : Int)) = false := decide_eq_false (fun h => h1 (Int.ofNat_lt.1 h))
  by_cases h2 : m < n
  ·rw [if_pos h2]
   have t2 : decide ((m : Int) < (n : Int)) = true := decide_eq_true (Int.ofNat_lt.2 h2);go_enter Tryz.func89, Tryz.ntmps89;go_wp2_with (go_at_call 49; refine (HS _).mono ?_; rintro e1 w1 ⟨rfl, rfl⟩);exact aZB (aZK rfl _ _ _) rfl ⟨rfl, rfl⟩
  ·rw [if_neg h2]
   have t2 : decide ((m : Int) < (n : Int)) = false := decide_eq_false (fun h => h2 (Int.ofNat_lt.1 h));go_enter Tryz.func89, Tryz.ntmps89;go_wp2_with (go_at_call 49; refine (HS _).mono ?_; rintro e1 w1 ⟨rfl, rfl⟩);exact aZB (aZK rfl _ _ _) rfl ⟨rfl, rfl⟩
def Pr.slk (p : Pr) (s t : Sl) : Pr := { p with salt := s, pers := t }
set_option maxRecDepth 20000 in
theorem normal_any (p : Pr) (ls lp : List UInt8) (w : World) (hls : ls.length = p.salt.n) (hlp : lp.length = p.pers.n) (h1 : p.salt.n <= 1024) (h2 : p.pers.n <= 1024) (hc1 : p.salt.n <= p.salt.c /\ p.salt.c <= 9223372036854775807) (hc2 : p.pers.n <= p.pers.c /\ p.pers.c <= 9223372036854775807) (hrs : RS cB w w.heap.size p.salt.A ls) (hrp : RS cB w w.heap.size p.pers.A lp) :
  Calls Tryz.prog 91 #[p.v] w fun r w' => ∃ s t : Sl, r = .returned (p.slk s t).v /\ Below w.heap.size w w' := by
 have ha := fun W hr => trimmed_any p.salt.A p.salt.c p.salt.n ls W hls h1 hc1.1 hc1.2 hr
 have hb := fun W hr => trimmed_any p.pers.A p.pers.c p.pers.n lp W hlp h2 hc2.1 hc2.2 hr
 have hsz : ∀ s t : Sl, (Tryz.prog.info? 26).map (·.size) = some (p.slk s t).cs.size := fun s t => Pr.size _
 have hall : ∀ s t : Sl, (p.slk s t).cs.all (·.oneCell') = true := fun s t => Pr.ones _
 obtain ⟨d, ky, fo, de, le, of, xo, nd, inn, ⟨sA, sn, sc⟩, ⟨pA, pn, pc⟩⟩ := p;unfold Pr.v Pr.slk Pr.cs Sl.v at *;dsimp only at *;have HA := zH ha; have HBB := zH hb; have HRS := zH hrs; have HRP := zH hrp; have HSZ := zH hsz; have HALL := zH hall;clear ha hb hrs hrp hls hlp h1 h2 hc1 hc2 hsz hall;have hu := zH Tryz.underlying26;go_enter Tryz.func91, Tryz.ntmps91;go_upto_region 1 with fail
 have n0 : Blk ((w.alloc (.cells #[.int .i64 d, .int .i64 ky, .int .i64 fo, .int .i64 de, .int .u32 le, .int .u64 of, .int .u32 xo, .int .i64 nd, .int .i64 inn, .slice sA sn sc, .slice pA pn pc] 26)).alloc (.cells zcs 26)) w.heap.size 26 #[.int .i64 d, .int .i64 ky, .int .i64 fo, .int .i64 de, .int .u32 le, .int .u64 of, .int .u32 xo, .int .i64 nd, .int .i64 inn, .slice sA sn sc, .slice pA pn pc] := (Blk.new _ _ _).alloc _;have n1 : Blk ((w.alloc (.cells #[.int .i64 d, .int .i64 ky, .int .i64 fo, .int .i64 de, .int .u32 le, .int .u64 of, .int .u32 xo, .int .i64 nd, .int .i64 inn, .slice sA sn sc, .slice pA pn pc] 26)).alloc (.cells zcs 26)) (w.heap.size + 1) 26 zcs := Blk.new2 _ _ _ _;have n4 := bal (bal (b0 w) (.cells #[.int .i64 d, .int .i64 ky, .int .i64 fo, .int .i64 de, .int .u32 le, .int .u64 of, .int .u32 xo, .int .i64 nd, .int .i64 inn, .slice sA sn sc, .slice pA pn pc] 26)) (.cells zcs 26);obtain ⟨g, hg⟩ : ∃ g, g = w.heap.size := ⟨_, rfl⟩;rw [<- hg] at n0 n1 ⊢;have hz : zcs = #[.int .i64 0, .int .i64 0, .int .i64 0, .int .i64 0, .int .u32 0, .int .u64 0, .int .u32 0, .int .i64 0, .int .i64 0, .slice none 0 0, .slice none 0 0] := rfl;rw [<- hz];generalize (w.alloc (.cells #[.int .i64 d, .int .i64 ky, .int .i64 fo, .int .i64 de, .int .u32 le, .int .u64 of, .int .u32 xo, .int .i64 nd, .int .i64 inn, .slice sA sn sc, .slice pA pn pc] 26)).alloc (.cells zcs 26) = u at *;have hwg : Hid (w.heap.size <= g) := by (show _ <= _; omega)
 have HK := zH n0; have HZ := zH n1; have HB := zH n4; clear n0 n1 n4 hg hz;refine wrZ (fun _ => True) (fun _ _ h => h) (Ords.of [(0, 0), (0, 3)] (.two 1 4 (Ords.of [] (.two 2 4 (Ords.of [(2, 4), (0, 6), (2, 5), (2, 7), (0, 8), (2, 9)] .fin) (Ords.of [(2, 2), (0, 6), (2, 5), (2, 7), (0, 8), (2, 9)] .fin))) (Ords.of [(2, 1), (2, 2), (0, 6), (2, 5), (2, 7), (0, 8), (2, 9)] .fin))) trivial ?_
 iterate 2 (refine ords_pure rfl (fun K hK => ?_); go_simp; refine hK _ ?_; clear hK K)
 refine ords_two rfl rfl (fun n1 => ?_) (fun n1 => ?_)
 ·replace HK := zH (HK.drewN n1)
  replace HZ := zH (HZ.drewN n1);replace HB := zH (bdr HB n1);generalize u.drewN n1 = u at *;have dC : u.cell? ⟨g, 9, none⟩ = some (.slice sA sn sc) := HK.cell 9;go_wp2_with fail;clear dC;refine ⟨trivial, ?_⟩;refine ords_two rfl rfl (fun n2 => ?_) (fun n2 => ?_)
  ·replace HK := zH (HK.drewN n2)
   replace HZ := zH (HZ.drewN n2);replace HB := zH (bdr HB n2);generalize u.drewN n2 = u at *;go_wp2_with (go_at_call 110; refine (HA _ ((HRS.below HB).more HB.size)).mono ?_; rintro e1 u ⟨A1, t1, c1, rfl, -, -, hb1⟩);replace HK := zH (HK.below hb1 HK.lt);replace HZ := zH (HZ.below hb1 HZ.lt);replace HB := zH (bcall HB hb1);clear hb1;refine ⟨trivial, ?_⟩;refine ords_loud rfl (fun n3 => ?_);replace HK := zH (HK.drewN n3);replace HZ := zH (HZ.drewN n3);replace HB := zH (bdr HB n3);generalize u.drewN n3 = u at *;have dC : u.cell? ⟨g, 10, none⟩ = some (.slice pA pn pc) := HK.cell 10;go_wp2_with fail;clear dC;refine ⟨trivial, ?_⟩;refine ords_pure rfl (fun K hK => ?_); go_simp; refine hK _ ?_; clear hK K;refine ords_loud rfl (fun n4 => ?_);replace HK := zH (HK.drewN n4);replace HZ := zH (HZ.drewN n4);replace HB := zH (bdr HB n4);generalize u.drewN n4 = u at *;go_wp2_with (go_at_call 110; refine (HBB _ ((HRP.below HB).more HB.size)).mono ?_; rintro e1 u ⟨A2, t2, c2, rfl, -, -, hb1⟩);replace HK := zH (HK.below hb1 HK.lt);replace HZ := zH (HZ.below hb1 HZ.lt);replace HB := zH (bcall HB hb1);clear hb1;refine ⟨trivial, ?_⟩;refine ords_loud rfl (fun n5 => ?_);replace HK := zH (HK.drewN n5);replace HZ := zH (HZ.drewN n5);replace HB := zH (bdr HB n5);generalize u.drewN n5 = u at *;have f9 := HK.frozen 9;have hl9 := HK.lt;have dC : u.cell? ⟨g, 9, none⟩ = some (.slice sA sn sc) := HK.cell 9;go_wp2_with fail;replace HK := zH (HK.set_ 9 (.slice A1 t1 c1));replace HZ := zH (HZ.far (p := ⟨g, 9, none⟩) (by show g + 1 ≠ g; omega) (.slice A1 t1 c1));replace HB := zH (bput HB (p := ⟨g, 9, none⟩) hwg.out (.slice A1 t1 c1));clear f9 hl9 dC;generalize u.setCell ⟨g, 9, none⟩ (.slice A1 t1 c1) = u at *;refine ⟨trivial, ?_⟩;refine ords_pure rfl (fun K hK => ?_); go_simp; refine hK _ ?_; clear hK K;refine ords_loud rfl (fun n6 => ?_);replace HK := zH (HK.drewN n6);replace HZ := zH (HZ.drewN n6);replace HB := zH (bdr HB n6);generalize u.drewN n6 = u at *;have f9 := HK.frozen 10;have hl9 := HK.lt;have dC : u.cell? ⟨g, 10, none⟩ = some (.slice pA pn pc) := HK.cell 10;go_wp2_with fail;replace HK := zH (HK.set_ 10 (.slice A2 t2 c2));replace HZ := zH (HZ.far (p := ⟨g, 10, none⟩) (by show g + 1 ≠ g; omega) (.slice A2 t2 c2));replace HB := zH (bput HB (p := ⟨g, 10, none⟩) hwg.out (.slice A2 t2 c2));clear f9 hl9 dC;generalize u.setCell ⟨g, 10, none⟩ (.slice A2 t2 c2) = u at *;refine ⟨trivial, ?_⟩;refine ords_end (fun n7 => ?_);replace HK := zH (HK.drewN n7);replace HZ := zH (HZ.drewN n7);replace HB := zH (bdr HB n7);generalize u.drewN n7 = u at *;have HK2 : Hid (Blk u g 26 #[.int .i64 d, .int .i64 ky, .int .i64 fo, .int .i64 de, .int .u32 le, .int .u64 of, .int .u32 xo, .int .i64 nd, .int .i64 inn, .slice A1 t1 c1, .slice A2 t2 c2]) := HK.out;clear HK;have hs2 := zH (HSZ ⟨A1, t1, c1⟩ ⟨A2, t2, c2⟩);have ha2 := zH (HALL ⟨A1, t1, c1⟩ ⟨A2, t2, c2⟩);go_wp2_with (first
    | (refine wpList_load_row rfl 26 _ rfl g rfl 26 _ (0, 0) _ HK2 hu.out rfl hs2.out ?_)
    | (refine aZE rfl 26 _ _ rfl (g + 1) _ rfl rfl 26 _ HZ hs2.out rfl ha2.out ?_))
   exact aZB (aZZ rfl _ _ (g + 1) _ _ (0, 0) _ rfl (HZ.row _) hu.out rfl hs2.out) rfl ⟨⟨⟨A1, t1, c1⟩, ⟨A2, t2, c2⟩, rfl⟩, brow HB (Nat.le_succ_of_le hwg.out) _⟩
  ·replace HK := zH (HK.drewN n2)
   replace HZ := zH (HZ.drewN n2);replace HB := zH (bdr HB n2);generalize u.drewN n2 = u at *;have dC : u.cell? ⟨g, 10, none⟩ = some (.slice pA pn pc) := HK.cell 10;go_wp2_with fail;clear dC;refine ⟨trivial, ?_⟩;refine ords_loud rfl (fun n3 => ?_);replace HK := zH (HK.drewN n3);replace HZ := zH (HZ.drewN n3);replace HB := zH (bdr HB n3);generalize u.drewN n3 = u at *;go_wp2_with (go_at_call 110; refine (HA _ ((HRS.below HB).more HB.size)).mono ?_; rintro e1 u ⟨A1, t1, c1, rfl, -, -, hb1⟩);replace HK := zH (HK.below hb1 HK.lt);replace HZ := zH (HZ.below hb1 HZ.lt);replace HB := zH (bcall HB hb1);clear hb1;refine ⟨trivial, ?_⟩;refine ords_pure rfl (fun K hK => ?_); go_simp; refine hK _ ?_; clear hK K;refine ords_loud rfl (fun n4 => ?_);replace HK := zH (HK.drewN n4);replace HZ := zH (HZ.drewN n4);replace HB := zH (bdr HB n4);generalize u.drewN n4 = u at *;go_wp2_with (go_at_call 110; refine (HBB _ ((HRP.below HB).more HB.size)).mono ?_; rintro e1 u ⟨A2, t2, c2, rfl, -, -, hb1⟩);replace HK := zH (HK.below hb1 HK.lt);replace HZ := zH (HZ.below hb1 HZ.lt);replace HB := zH (bcall HB hb1);clear hb1;refine ⟨trivial, ?_⟩;refine ords_loud rfl (fun n5 => ?_);replace HK := zH (HK.drewN n5);replace HZ := zH (HZ.drewN n5);replace HB := zH (bdr HB n5);generalize u.drewN n5 = u at *;have f9 := HK.frozen 9;have hl9 := HK.lt;have dC : u.cell? ⟨g, 9, none⟩ = some (.slice sA sn sc) := HK.cell 9;go_wp2_with fail;replace HK := zH (HK.set_ 9 (.slice A1 t1 c1));replace HZ := zH (HZ.far (p := ⟨g, 9, none⟩) (by show g + 1 ≠ g; omega) (.slice A1 t1 c1));replace HB := zH (bput HB (p := ⟨g, 9, none⟩) hwg.out (.slice A1 t1 c1));clear f9 hl9 dC;generalize u.setCell ⟨g, 9, none⟩ (.slice A1 t1 c1) = u at *;refine ⟨trivial, ?_⟩;refine ords_pure rfl (fun K hK => ?_); go_simp; refine hK _ ?_; clear hK K;refine ords_loud rfl (fun n6 => ?_);replace HK := zH (HK.drewN n6);replace HZ := zH (HZ.drewN n6);replace HB := zH (bdr HB n6);generalize u.drewN n6 = u at *;have f9 := HK.frozen 10;have hl9 := HK.lt;have dC : u.cell? ⟨g, 10, none⟩ = some (.slice pA pn pc) := HK.cell 10;go_wp2_with fail;replace HK := zH (HK.set_ 10 (.slice A2 t2 c2));replace HZ := zH (HZ.far (p := ⟨g, 10, none⟩) (by show g + 1 ≠ g; omega) (.slice A2 t2 c2));replace HB := zH (bput HB (p := ⟨g, 10, none⟩) hwg.out (.slice A2 t2 c2));clear f9 hl9 dC;generalize u.setCell ⟨g, 10, none⟩ (.slice A2 t2 c2) = u at *;refine ⟨trivial, ?_⟩;refine ords_end (fun n7 => ?_);replace HK := zH (HK.drewN n7);replace HZ := zH (HZ.drewN n7);replace HB := zH (bdr HB n7);generalize u.drewN n7 = u at *;have HK2 : Hid (Blk u g 26 #[.int .i64 d, .int .i64 ky, .int .i64 fo, .int .i64 de, .int .u32 le, .int .u64 of, .int .u32 xo, .int .i64 nd, .int .i64 inn, .slice A1 t1 c1, .slice A2 t2 c2]) := HK.out;clear HK;have hs2 := zH (HSZ ⟨A1, t1, c1⟩ ⟨A2, t2, c2⟩);have ha2 := zH (HALL ⟨A1, t1, c1⟩ ⟨A2, t2, c2⟩);go_wp2_with (first
    | (refine wpList_load_row rfl 26 _ rfl g rfl 26 _ (0, 0) _ HK2 hu.out rfl hs2.out ?_)
    | (refine aZE rfl 26 _ _ rfl (g + 1) _ rfl rfl 26 _ HZ hs2.out rfl ha2.out ?_))
   exact aZB (aZZ rfl _ _ (g + 1) _ _ (0, 0) _ rfl (HZ.row _) hu.out rfl hs2.out) rfl ⟨⟨⟨A1, t1, c1⟩, ⟨A2, t2, c2⟩, rfl⟩, brow HB (Nat.le_succ_of_le hwg.out) _⟩
 ·replace HK := zH (HK.drewN n1)
  replace HZ := zH (HZ.drewN n1);replace HB := zH (bdr HB n1);generalize u.drewN n1 = u at *;have dC : u.cell? ⟨g, 10, none⟩ = some (.slice pA pn pc) := HK.cell 10;go_wp2_with fail;clear dC;refine ⟨trivial, ?_⟩;refine ords_loud rfl (fun n2 => ?_);replace HK := zH (HK.drewN n2);replace HZ := zH (HZ.drewN n2);replace HB := zH (bdr HB n2);generalize u.drewN n2 = u at *;have dC : u.cell? ⟨g, 9, none⟩ = some (.slice sA sn sc) := HK.cell 9;go_wp2_with fail;clear dC;refine ⟨trivial, ?_⟩;refine ords_loud rfl (fun n3 => ?_);replace HK := zH (HK.drewN n3);replace HZ := zH (HZ.drewN n3);replace HB := zH (bdr HB n3);generalize u.drewN n3 = u at *;go_wp2_with (go_at_call 110; refine (HA _ ((HRS.below HB).more HB.size)).mono ?_; rintro e1 u ⟨A1, t1, c1, rfl, -, -, hb1⟩);replace HK := zH (HK.below hb1 HK.lt);replace HZ := zH (HZ.below hb1 HZ.lt);replace HB := zH (bcall HB hb1);clear hb1;refine ⟨trivial, ?_⟩;refine ords_pure rfl (fun K hK => ?_); go_simp; refine hK _ ?_; clear hK K;refine ords_loud rfl (fun n4 => ?_);replace HK := zH (HK.drewN n4);replace HZ := zH (HZ.drewN n4);replace HB := zH (bdr HB n4);generalize u.drewN n4 = u at *;go_wp2_with (go_at_call 110; refine (HBB _ ((HRP.below HB).more HB.size)).mono ?_; rintro e1 u ⟨A2, t2, c2, rfl, -, -, hb1⟩);replace HK := zH (HK.below hb1 HK.lt);replace HZ := zH (HZ.below hb1 HZ.lt);replace HB := zH (bcall HB hb1);clear hb1;refine ⟨trivial, ?_⟩;refine ords_loud rfl (fun n5 => ?_);replace HK := zH (HK.drewN n5);replace HZ := zH (HZ.drewN n5);replace HB := zH (bdr HB n5);generalize u.drewN n5 = u at *;have f9 := HK.frozen 9;have hl9 := HK.lt;have dC : u.cell? ⟨g, 9, none⟩ = some (.slice sA sn sc) := HK.cell 9;go_wp2_with fail;replace HK := zH (HK.set_ 9 (.slice A1 t1 c1));replace HZ := zH (HZ.far (p := ⟨g, 9, none⟩) (by show g + 1 ≠ g; omega) (.slice A1 t1 c1));replace HB := zH (bput HB (p := ⟨g, 9, none⟩) hwg.out (.slice A1 t1 c1));clear f9 hl9 dC;generalize u.setCell ⟨g, 9, none⟩ (.slice A1 t1 c1) = u at *;refine ⟨trivial, ?_⟩;refine ords_pure rfl (fun K hK => ?_); go_simp; refine hK _ ?_; clear hK K;refine ords_loud rfl (fun n6 => ?_);replace HK := zH (HK.drewN n6);replace HZ := zH (HZ.drewN n6);replace HB := zH (bdr HB n6);generalize u.drewN n6 = u at *;have f9 := HK.frozen 10;have hl9 := HK.lt;have dC : u.cell? ⟨g, 10, none⟩ = some (.slice pA pn pc) := HK.cell 10;go_wp2_with fail;replace HK := zH (HK.set_ 10 (.slice A2 t2 c2));replace HZ := zH (HZ.far (p := ⟨g, 10, none⟩) (by show g + 1 ≠ g; omega) (.slice A2 t2 c2));replace HB := zH (bput HB (p := ⟨g, 10, none⟩) hwg.out (.slice A2 t2 c2));clear f9 hl9 dC;generalize u.setCell ⟨g, 10, none⟩ (.slice A2 t2 c2) = u at *;refine ⟨trivial, ?_⟩;refine ords_end (fun n7 => ?_);replace HK := zH (HK.drewN n7);replace HZ := zH (HZ.drewN n7);replace HB := zH (bdr HB n7);generalize u.drewN n7 = u at *;have HK2 : Hid (Blk u g 26 #[.int .i64 d, .int .i64 ky, .int .i64 fo, .int .i64 de, .int .u32 le, .int .u64 of, .int .u32 xo, .int .i64 nd, .int .i64 inn, .slice A1 t1 c1, .slice A2 t2 c2]) := HK.out;clear HK;have hs2 := zH (HSZ ⟨A1, t1, c1⟩ ⟨A2, t2, c2⟩);have ha2 := zH (HALL ⟨A1, t1, c1⟩ ⟨A2, t2, c2⟩);go_wp2_with (first
   | (refine wpList_load_row rfl 26 _ rfl g rfl 26 _ (0, 0) _ HK2 hu.out rfl hs2.out ?_)
   | (refine aZE rfl 26 _ _ rfl (g + 1) _ rfl rfl 26 _ HZ hs2.out rfl ha2.out ?_))
  exact aZB (aZZ rfl _ _ (g + 1) _ _ (0, 0) _ rfl (HZ.row _) hu.out rfl hs2.out) rfl ⟨⟨⟨A1, t1, c1⟩, ⟨A2, t2, c2⟩, rfl⟩, brow HB (Nat.le_succ_of_le hwg.out) _⟩
end Go.Proofs.YtboihcigcfmhhaaGreat

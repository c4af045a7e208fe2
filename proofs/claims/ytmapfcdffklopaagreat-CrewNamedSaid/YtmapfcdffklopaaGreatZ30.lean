/-
  Z30: contracts and lemmas alone; no statement is claimed here.
-/
import Derived.Test.YtmapfcdffklopaaGreatZx
import Derived.Test.YtmapfcdffklopaaGreatZxb
import Derived.Test.YtmapfcdffklopaaGreatZxc
import Derived.Test.YtmapfcdffklopaaGreatZ28
set_option maxHeartbeats 4000000
set_option maxRecDepth 20000
namespace Go.Proofs.YtmapfcdffklopaaGreat
open _root_.List renaming length_drop → aZS
open _root_.List renaming length_take → aZJ
open _root_.Option.some renaming inj → aZF
open Lib renaming hid -> zH
open Go.RowKit
attribute [local go_sem] pureUpon Ords.of
def hsB (h n : Nat) (F : Nat -> List Nat) : List Nat := h :: (List.range n).flatMap F
theorem mem_hsB {h n k : Nat} {F : Nat -> List Nat} : k ∈ hsB h n F ↔ k = h \/ ∃ i, i < n /\ k ∈ F i := by
 simp [hsB]
def LP.engs (P : LP) (M : List UInt8) (i : Nat) : Eng := (P.eng0 i).feed (laneB (lnOf P.big) (blOf P.big) i M)
theorem LP.engs_nil (P : LP) : P.engs [] = P.eng0 := by funext i; exact Eng.feed_nil _
theorem LP.engs_full (P : LP) (M : List UInt8) (i : Nat) : (P.engs M i).full = bOf P.big := by unfold LP.engs LP.eng0; rw [Eng.feed_full, startK_full]
theorem LP.engs_step (P : LP) (M p : List UInt8) (i : Nat) (hi : i = M.length / blOf P.big % lnOf P.big) (hp : ∀ x, x < p.length -> (M.length + x) / blOf P.big = M.length / blOf P.big) :
  (fun j => if j = i then (P.engs M i).feed p else P.engs M j) = P.engs (M ++ p) := by
 funext j
 show _ = (P.eng0 j).feed _
 rw [laneB_piece _ _ j _ p M hp, <- hi]
 by_cases h : j = i
 ·subst h
  rw [if_pos rfl, if_pos rfl, Eng.feed_append (P.eng0 j) (startK_ok _ _ _)]
  rfl
 ·rw [if_neg h, if_neg (fun e => h e.symm)]
  rfl
theorem taken_facts (big : Bool) (x : Nat) : x % 18446744073709551616 % 512 / blOf big = x / blOf big % lnOf big /\ x % 18446744073709551616 % 512 % blOf big = x % blOf big /\ 0 < blOf big /\ blOf big <= 128 := by
 cases big
 ·show x % 18446744073709551616 % 512 / 64 = x / 64 % 8 /\ x % 18446744073709551616 % 512 % 64 = x % 64 /\ 0 < 64 /\ 64 <= 128
  omega
 ·show x % 18446744073709551616 % 512 / 128 = x / 128 % 4 /\ x % 18446744073709551616 % 512 % 128 = x % 128 /\ 0 < 128 /\ 128 <= 128
  omega
theorem OS.ptr {w : World} {base c g i p : Nat} {ps : List Nat} (h : OS cP w base (some ⟨g, 0, none⟩) c ps) (hp : ps[i]? = some p) : w.cell? ⟨g, i, none⟩ = some (.pointer (some ⟨p, 0, none⟩)) := by
 obtain ⟨g', y, e, -, -, e2, h3, -⟩ := h.at_ (List.getElem?_eq_some_iff.1 hp).1;injection e with e; injection e with e
 subst e;rw [hp] at e2;rw [aZF e2];exact h3
structure WIn (w wr : World) (H h : Nat) (P : LP) (d : Nat) (a b c : Sl) (A : Option Addr) (cap : Nat) (ps : List Nat) (F0 F : Nat -> List Nat) (t : Nat) (e : Nat -> Eng) (L : List UInt8) (k : Nat) (Ab Ar : Option Addr) (cb cr : Nat) : Prop where
  hs : Hs wr H h P d a b c A cap t ps F e
  le : k <= L.length
  fit : L.length - k <= cr
  cr_ : cr <= cb
  rs : RS cB wr w.heap.size Ar (L.drop k)
  bl : Ar.map (·.block) = Ab.map (·.block)
  fin : ∀ i, i < lnOf P.big -> ∀ x, x ∈ F i -> x ∈ F0 i \/ w.heap.size <= x
  but : But (hsB h (lnOf P.big) F0) w wr
section
variable {w wr w' : World} {H h : Nat} {P : LP} {d : Nat} {a b c : Sl} {A : Option Addr} {cap : Nat} {ps : List Nat} {F0 F : Nat -> List Nat} {t : Nat} {e : Nat -> Eng} {L : List UInt8} {k : Nat} {Ab Ar : Option Addr} {cb cr : Nat}
theorem WIn.below (hh : WIn w wr H h P d a b c A cap ps F0 F t e L k Ab Ar cb cr) (hb : Below wr.heap.size wr w') : WIn w w' H h P d a b c A cap ps F0 F t e L k Ab Ar cb cr :=
 ⟨hh.hs.below hb (Nat.le_trans hh.hs.low (Nat.le_of_lt hh.hs.blk.lt)), hh.le, hh.fit, hh.cr_, hh.rs.below (hb.mono hh.but.size), hh.bl, hh.fin, hh.but.below hb⟩
theorem WIn.drewN (hh : WIn w wr H h P d a b c A cap ps F0 F t e L k Ab Ar cb cr) (n : Nat) : WIn w (wr.drewN n) H h P d a b c A cap ps F0 F t e L k Ab Ar cb cr := hh.below (bdr (b0 wr) n)
theorem WIn.at_ (hh : WIn w wr H h P d a b c A cap ps F0 F t e L k Ab Ar cb cr) (hf : L ≠ [] -> ∀ x, Ab = some x -> x.block ∉ hsB h (lnOf P.big) F0) (hlt : L.drop k ≠ []) : ∀ x, Ar = some x -> x.block ≠ h /\ ∀ i, i < lnOf P.big -> x.block ∉ F i := by exact zS61
theorem WIn.wrote (hh : WIn w wr H h P d a b c A cap ps F0 F t e L k Ab Ar cb cr) (hf : L ≠ [] -> ∀ x, Ab = some x -> x.block ∉ hsB h (lnOf P.big) F0) (hlt : L.drop k ≠ []) {i p : Nat} {r : UInt64} {G : List Nat} {e' : Eng} (hi : i < lnOf P.big) (hp : ps[i]? = some p)
  (hN : Nd w' p P.big d (P.blk i) (P.nkey i) (P.nlast i) r e' G) (hG : ∀ x, x ∈ G -> x ∈ F i \/ wr.heap.size <= x) (hb : But (F i) wr w') :
  WIn w w' H h P d a b c A cap ps F0 (fun j => if j = i then G else F j) t (fun j => if j = i then e' else e j) L k Ab Ar cb cr := by open kA in exact zS32
theorem WIn.took (hh : WIn w wr H h P d a b c A cap ps F0 F t e L k Ab Ar cb cr) (hf : L ≠ [] -> ∀ x, Ab = some x -> x.block ∉ hsB h (lnOf P.big) F0) (hlt : L.drop k ≠ []) (t' : Nat) : WIn w (wr.setCell ⟨h, 9, none⟩ (.int .u64 t')) H h P d a b c A cap ps F0 F t' e L k Ab Ar cb cr :=
 ⟨⟨hh.hs.blk.set_ 9 (.int .u64 t'), hh.hs.nds.setFar (p := ⟨h, 9, none⟩) hh.hs.fh hh.hs.ah _, hh.hs.fh, hh.hs.ah, hh.hs.low, hh.hs.set_.below ((Below.refl H wr).setCell (p := ⟨h, 9, none⟩) hh.hs.low _)⟩, hh.le, hh.fit, hh.cr_,
  hh.rs.but hh.but.size ((But.refl [h] wr).setCell (p := ⟨h, 9, none⟩) (.inl (by simp)) _) (fun x hx => by simp; exact (hh.at_ hf hlt x hx).1), hh.bl, hh.fin, hh.but.setCell (p := ⟨h, 9, none⟩) (.inl (mem_hsB.2 (.inl rfl))) _⟩
theorem WIn.cut (hh : WIn w wr H h P d a b c A cap ps F0 F t e L k Ab Ar cb cr) {m : Nat} (hm : m <= L.length - k) : WIn w wr H h P d a b c A cap ps F0 F t e L (k + m) Ab (if cr = m then Ar else Ar.map (·.add m)) cb (cr - m) := by open kA in exact zS80
end
def lnV : Value -> Nat
  | .slice _ n _ => n
  | _ => 0
theorem wnums (big : Bool) (x : Nat) : ∃ q p i at_ : Nat, (((x % 18446744073709551616 : Nat) : Int) % 512 = (at_ : Int) /\ ((x % 18446744073709551616 : Nat) : Int).tmod 512 = (at_ : Int) /\ IntKind.i64.wrap (at_ : Int) = at_) /\
  ((at_ : Int) % ((blOf big : Nat) : Int) = q /\ (at_ : Int).tmod ((blOf big : Nat) : Int) = q /\ ((blOf big : Nat) : Int) - (q : Int) = p /\ (at_ : Int) / ((blOf big : Nat) : Int) = i /\ (at_ : Int).tdiv ((blOf big : Nat) : Int) = i) /\
  (q < blOf big /\ 0 < p /\ p <= 128 /\ i < lnOf big /\ i = x / blOf big % lnOf big /\ ∀ y, y < p -> (x + y) / blOf big = x / blOf big) /\ at_ < 512 /\ x % 18446744073709551616 < 18446744073709551616 := by
 obtain ⟨f1, f2, f3, f4⟩ := taken_facts big x;have hl := lnOf_pos big;have hq := Nat.mod_lt x f3;obtain ⟨z, hz⟩ : ∃ z, z = x % 18446744073709551616 := ⟨_, rfl⟩;have hz2 : z < 18446744073709551616 := by rw [hz]; exact Nat.mod_lt _ (by decide)
 rw [<- hz] at f1 f2 ⊢;have hat : z % 512 < 512 := Nat.mod_lt _ (by decide);refine ⟨x % blOf big, blOf big - x % blOf big, x / blOf big % lnOf big, z % 512, ⟨rfl, rfl, ?_⟩, ⟨?_, ?_, by omega, ?_, ?_⟩, ⟨hq, by omega, by omega, Nat.mod_lt _ (by omega), rfl, fun y hy => ?_⟩, hat, hz2⟩
 ·clear f1 f2 hz
  generalize z % 512 = v at *;simp [IntKind.wrap, IntKind.bits, IntKind.signed]; omega
 ·rw [<- f2]; rfl
 ·rw [<- f2]; rfl
 ·rw [<- f1]; rfl
 ·rw [<- f1]; rfl
 ·have h2 := Nat.div_add_mod x (blOf big)
  rw [Nat.div_eq_iff f3];rw [Nat.mul_comm] at h2;generalize x / blOf big = u at *;generalize x % blOf big = v at *
  constructor <;> omega
theorem wtook (x m : Nat) (hm : m <= 128) : IntKind.u64.wrap (((x % 18446744073709551616 : Nat) : Int) + (m : Int)) = (((x + m) % 18446744073709551616 : Nat) : Int) /\ IntKind.u64.wrap (m : Int) = m := by
 constructor <;> (simp only [IntKind.wrap, IntKind.bits, IntKind.signed]; simp; try omega)
theorem all8_any (big : Bool) (most : Nat) (w : World) : Calls Tryz.prog 114 #[.agg #[.int .i64 (lnOf big : Nat), .int .i64 (blOf big : Nat), .int .i64 most]] w fun r w' => r = .returned (.int .i64 512) /\ Below w.heap.size w w' := by
 have hm : ((lnOf big : Nat) : Int) * ((blOf big : Nat) : Int) = 512 := by cases big <;> rfl
 generalize lnOf big = n at *;generalize blOf big = k at *;go_enter Tryz.func114, Tryz.ntmps114;go_wp2;exact bodyPost_ret (results_tmp rfl _ _ _) rfl ⟨rfl, bal (b0 _) _⟩
theorem lwrite_any (P : LP) (d : Nat) (a b c : Sl) (H gh : Nat) (A : Option Addr) (cap : Nat) (ps : List Nat) (F0 : Nat -> List Nat) (M L : List UInt8) (Ab : Option Addr) (nb cb : Nat) (w : World) (hh : Hs w H gh P d a b c A cap (M.length % 18446744073709551616) ps F0 (P.engs M))
  (hL : L.length = nb) (hnb : nb <= cb) (hcb : cb <= 9223372036854775807) (hr : RS cB w w.heap.size Ab L) (hfar : L ≠ [] -> ∀ x, Ab = some x -> x.block ∉ hsB gh (lnOf P.big) F0) :
  Calls Tryz.prog 93 #[.pointer (some ⟨gh, 0, none⟩), .slice Ab nb cb] w fun r w' => r = .returned (.int .i64 0) /\ ∃ F, Hs w' H gh P d a b c A cap ((M ++ L).length % 18446744073709551616) ps F (P.engs (M ++ L)) /\ (∀ i, i < lnOf P.big -> ∀ x, x ∈ F i -> x ∈ F0 i \/ w.heap.size <= x) /\ But (hsB gh (lnOf P.big) F0) w w' := by
 have hno := lnoneH_any P a b c A (lnOf P.big) cap (M.length % 18446744073709551616) gh w hh.blk;have hall := fun W => all8_any P.big (bOf P.big) W
 have h8 := lnOf_pos P.big;have H0 : Hid (WIn w w H gh P d a b c A cap ps F0 F0 ((M ++ L.take 0).length % 18446744073709551616) (P.engs (M ++ L.take 0)) L 0 Ab Ab cb cb) := by
  have e : M ++ L.take 0 = M := by rw [List.take_zero, List.append_nil]
  rw [e];exact ⟨hh, Nat.zero_le _, by rw [hL]; exact hnb, Nat.le_refl _, hr, rfl, fun i _ x hx => .inl hx, But.refl _ w⟩
 have HNO := zH hno; have HALL := zH hall; have HL := zH hL; have HFAR := zH hfar; have H8 := zH h8;clear hno hall hh hr hfar h8 hL;have hsu := zH Tryz.underlying172;go_enter Tryz.func93, Tryz.ntmps93;go_upto_region 3 with (go_at_call 113; refine HNO.mono ?_; rintro e1 w1 ⟨rfl, rfl⟩)
 go_loopw [1, 5, 6] (fun v i1 i2 wr => ∃ (k r cr : Nat) (Ar : Option Addr) (F : Nat -> List Nat), k + r = nb /\ v = .slice Ar r cr /\ WIn w wr H gh P d a b c A cap ps F0 F ((M ++ L.take k).length % 18446744073709551616) (P.engs (M ++ L.take k)) L k Ab Ar cb cr) (fun v _ _ _ => lnV v)
 case atStart => exact ⟨0, nb, cb, Ab, F0, by omega, rfl, H0.out⟩
 case round =>
  clear H0;obtain ⟨k, r, cr, Ar, F, hkr, rfl, hw⟩ := hrel;have HW := zH hw; have HKR := zH hkr;clear hw
  by_cases hlt : 0 < r
  ·have hdr : L.drop k ≠ [] := fun e => by have h1 := congrArg List.length e; rw [aZS, HL.out] at h1; simp at h1; omega
   obtain ⟨x, hx⟩ : ∃ x, x = (M ++ L.take k).length := ⟨_, rfl⟩;have HX := zH hx;rw [<- hx] at HW;obtain ⟨q, p, i, at_, ⟨n1, n2, n3⟩, ⟨n4, n5, n6, n7, n8⟩, ⟨m1, m2, m3, m4, m5, m6⟩, m7, m8⟩ := wnums P.big x;obtain ⟨t, ht⟩ : ∃ t, t = x % 18446744073709551616 := ⟨_, rfl⟩;rw [<- ht] at n1 n2 m8 HW;have HT := zH ht; have HM5 := zH m5; have HM6 := zH m6; have HDR := zH hdr; have HLT := zH hlt;have hcr : r <= cr := by have := HW.fit; have := HL.out; omega
   have hcr2 : cr <= 9223372036854775807 := by have := HW.cr_; omega
   clear ht m5 m6 hdr hx;obtain ⟨n, hn⟩ : ∃ n, n = lnOf P.big := ⟨_, rfl⟩;obtain ⟨blk, hbl⟩ : ∃ n, n = blOf P.big := ⟨_, rfl⟩;have HN := zH hn; have HBL := zH hbl;rw [<- hbl] at n4 n5 n6 n7 n8 m1;rw [<- hn] at m4;obtain ⟨u, hu⟩ : ∃ u, u = wr := ⟨_, rfl⟩;rw [<- hu] at HW ⊢;obtain ⟨pp, wrt, hp1, hp2⟩ := HW.hs.nds.node i (by rw [<- hn]; exact m4);obtain ⟨g1, p2, hA, hg1, hg2, hs, -, -⟩ := HW.hs.nds.row.at_ (k := i) (by rw [HW.hs.nds.len, <- hn]; exact m4);rw [hp1] at hs;obtain rfl : pp = p2 := aZF hs;subst hA;have HP1 := zH hp1;have hb8 : blk <= 128 := by rw [hbl]; exact (taken_facts P.big 0).2.2.2
   have h88 : n <= 8 := by rw [hn]; exact H8.out.2
   clear hn hbl hu hs hp1 hp2 hg1 hg2;clear wr;have u512 : IntKind.u64.wrap 512 = 512 := rfl;go_upto_region 4 with fail
   have q9 : u.cell? ⟨gh, 9, none⟩ = some (.int .u64 t) := HW.hs.blk.cell 9;refine wrZ (fun w' => (w'.rangeAt gh 0 [Value.int .i64 (lnOf P.big : Nat), .int .i64 (blOf P.big : Nat), .int .i64 (bOf P.big : Nat)] /\ w'.cell? ⟨gh, 9, none⟩ = some (.int .u64 t))) (fun _ n h => h) (Ords.of [(0, 0), (0, 1), (0, 2), (0, 3), (0, 4), (0, 5), (0, 6), (0, 7), (0, 8), (2, 9), (0, 10), (0, 11), (0, 12), (0, 13)] .fin) ⟨HW.hs.blk.range 0 3, HW.hs.blk.cell 9⟩ ?_
   iterate 3 (refine ords_pure rfl (fun K hK => ?_); go_simp; refine hK _ ?_; clear hK K)
   refine ords_heldK rfl (fun K K2 hK hK2 => ?_); go_simp; refine ⟨hK2 _ (fun w9 hS => ?_), hK _ ?_⟩; (clear hK hK2 K K2; have q9 : w9.cell? ⟨gh, 9, none⟩ = some (.int .u64 t) := hS.2; clear hS; go_simp); (clear hK hK2 K K2)
   iterate 4 (refine ords_pure rfl (fun K hK => ?_); go_simp; refine hK _ ?_; clear hK K)
   refine ords_held (v := Value.agg #[Value.int .i64 (lnOf P.big : Nat), .int .i64 (blOf P.big : Nat), .int .i64 (bOf P.big : Nat)]) rfl rfl (fun w9 hS => pure_load_mid 172 (.tmp 19) rfl gh 0 rfl _ _ hS.1 hsu.out rfl rfl) ?_; go_simp;refine ords_loud rfl (fun n1 => ?_);clear q9;replace HW := zH (HW.drewN n1); generalize u.drewN n1 = u at *;go_wp2_with (go_at_call 114; refine (HALL u).mono ?_; rintro e3 u ⟨rfl, hb3⟩);replace HW := zH (HW.below hb3);clear hb3;refine ⟨⟨HW.hs.blk.range 0 3, HW.hs.blk.cell 9⟩, ?_⟩;go_simp
   iterate 4 (refine ords_pure rfl (fun K hK => ?_); go_simp; refine hK _ ?_; clear hK K)
   refine ords_end (fun n2 => ?_);replace HW := zH (HW.drewN n2); generalize u.drewN n2 = u at *;have q1 : u.cell? ⟨gh, 1, none⟩ = some (.int .i64 blk) := by rw [HBL.out]; exact HW.hs.blk.cell 1
   have l1 := HW.hs.blk.lt;have HI : Hid (i < lnOf P.big) := (by rw [<- HN.out]; exact m4);have hin : (i : Int) < (n : Int) := by omega
   have hbz : ¬ blk = 0 := by omega
   have hwi : IntKind.i64.wrap (i : Int) = i := by clear n1 n2 n3 n4 n5 n6 n7 n8; simp [IntKind.wrap, IntKind.bits, IntKind.signed]; omega
   go_wp2_with fail;go_quiet (fail)
   all_goals go_wp2_with fail
   ·open kA in exact zS16
   ·exact zS16
  ·obtain rfl : r = 0 := by omega
   obtain rfl : k = nb := by omega
   go_wp2_with fail;have h1 := HW.hs;rw [List.take_of_length_le (Nat.le_of_eq HL.out)] at h1;exact bodyPost_ret (results_tmp rfl _ _ _) rfl ⟨rfl, F, h1, HW.fin, HW.but⟩
def LP.dig (P : LP) : List UInt8 := (((P.eng0 (lnOf P.big)).feed (catTo (P.outOf (P.engs P.data)) (lnOf P.big))).out true).take P.digest.toNat
theorem LP.dig_len (P : LP) (he : P.err = 0) : (P.dig.length : Int) = P.digest := by
 obtain ⟨d, h1, h2, h3⟩ := LP.err_dig he;unfold LP.dig;rw [aZJ, Eng.out_len, Eng.feed_full];unfold LP.eng0;rw [startK_full, h1]
 show ((min d _ : Nat) : Int) = _
 rw [Nat.min_eq_left h3]
theorem ldigest_any (P : LP) (he : P.err = 0) (sk ss sp sd : Sl) (w : World) (h : LIn w P sk ss sp sd) :
  Calls Tryz.prog 71 #[.int .i64 (kOf P.big), .int .i64 P.digest, .slice sk.A sk.n sk.c, .slice ss.A ss.n ss.c, .slice sp.A sp.n sp.c, .slice sd.A sd.n sd.c] w fun r w' => ∃ A c, r = .returned (.tuple #[.slice A P.digest.toNat P.digest.toNat, .int .i64 0]) /\ OS cB w' w.heap.size A c P.dig /\ Below w.heap.size w w' := by
 obtain ⟨d, hd, hd1, hd2⟩ := LP.err_dig he;have hn := lnew_any P he d hd sk ss sp sd w h;have hwr := fun (a b c : Sl) (H g : Nat) (A : Option Addr) (cap : Nat) (ps : List Nat) (F0 : Nat -> List Nat) (W : World) h1 h2 h3 => lwrite_any P d a b c H g A cap ps F0 [] P.data sd.A sd.n sd.c W h1 h.hd h.dc.1 h.dc.2 h2 h3
 have hsm := fun (a b c : Sl) (H g : Nat) (A : Option Addr) (cap t : Nat) (ps : List Nat) (F : Nat -> List Nat) (W : World) h1 => lsum_any P he d hd a b c H g A cap t ps F (P.engs P.data) W h1 (fun i _ => P.engs_full _ i)
 have hdt : P.digest.toNat = d := by rw [hd]; rfl
 have HN := zH hn; have HWR := zH hwr; have HSM := zH hsm; have HRD := zH h.rd;have hdig : P.dig = (((P.eng0 (lnOf P.big)).feed (catTo (P.outOf (P.engs P.data)) (lnOf P.big))).out true).take d := by unfold LP.dig; rw [hdt]
 have HDG := zH hdig;rw [hdt];clear hn hwr hsm h hd hd1 hd2 hdt he hdig;go_enter Tryz.func71, Tryz.ntmps71;go_wp2_with fail;refine HN.mono ?_;rintro e1 w1 ⟨H, g, a, b, c, A, cap, ps, F, rfl, hH, hs, hb1⟩;have hw := HWR.out a b c H g A cap ps F w1 (by rw [P.engs_nil]; exact hs) ((HRD.below hb1).more hb1.size) (fun h0 x hx hm => by
  have h1 := HRD.low h0 x hx;rcases mem_hsB.1 hm with h2 | ⟨i, hi, h2⟩
  ·have := hs.low; omega
  ·have := hs.nds.low i hi _ h2; omega)
 have hlow : ∀ k, k ∈ hsB g (lnOf P.big) F -> w.heap.size <= k := fun k hk => by
  rcases mem_hsB.1 hk with h2 | ⟨i, hi, h2⟩
  ·have := hs.low; omega
  ·have := hs.nds.low i hi _ h2; omega
 have HWW := zH hw; have HB1 := zH hb1; have HLW := zH hlow;clear hw hb1 hs hlow hH;go_wp2_with first
  | (go_at_call 93; refine HWW.mono ?_; rintro e2 w2 ⟨rfl, F2, hs2, -, hb2⟩; have HS2 := zH hs2; have HB2 := zH (HB1.trans (hb2.toBelow HB1.size HLW)); clear hs2 hb2)
  | (go_at_call 94; refine (HSM _ _ _ _ _ _ _ _ _ _ _ HS2).mono ?_; rintro e3 w3 ⟨A3, c3, rfl, ho3, hb3⟩; have HO3 := zH ho3; have HB3 := zH (bcall HB2 hb3); have HZ := zH HB2.size; clear ho3 hb3)
 exact bodyPost_ret (results_tmp2 rfl _ _ _) rfl ⟨A3, c3, rfl, by rw [HDG.out]; exact HO3.mono HZ.out, HB3.out⟩
end Go.Proofs.YtmapfcdffklopaaGreat

/-
  Parameters out of a block, by the program. Contracts alone; no statement is claimed here.
-/
import Derived.Test.YtboihcigcfmhhaaDecP
import Derived.Test.YtboihcigcfmhhaaPar0
namespace Go.Proofs.Ytboihcigcfmhhaa
open Go.RowKit
attribute [local go_sem] pureUpon Ords.of

set_option maxHeartbeats 1000000 in
theorem get_any (A : Option Addr) (c N at_ n B : Nat) (l : List UInt8) (w : World) (hN : l.length = N) (hm : N ≤ 1024) (hr : RS cB w B A l) (hat : at_ + n ≤ N) (hn : n ≤ 8) :
    Calls Try.prog 50 #[.slice A N c, .int .i64 at_, .int .i64 n] w fun e w' => e = .returned (.int .u64 (fld l at_ n : Nat)) ∧ w = w' := by
  have HN := Lib.hid hN; have HR := Lib.hid hr; clear hN hr
  go_enter Try.func50, Try.ntmps50
  go_wp2
  go_loop [7, 8, 10] (fun v _ i => ∃ (k x : Nat), k ≤ n ∧ i = .int .i64 k ∧ v = .int .u64 x ∧ x = le ((l.drop at_).take k)) (fun _ _ i => n - (intOf i).toNat)
  case atStart => exact ⟨0, 0, by omega, rfl, rfl, by simp [le]⟩
  case round =>
    obtain ⟨k, x, hk, rfl, rfl, hx⟩ := hrel
    have HX := Lib.hid hx; clear hx
    by_cases hlt : k < n
    · obtain ⟨ad, b, rfl, -, eb, gb⟩ := HR.out.at_ (k := at_ + k) (by rw [HN.out]; omega)
      change w.cell? (ad.add (at_ + k)) = some (.int .u8 (byt b)) at gb
      have EB := Lib.hid eb; clear eb
      have gk : (at_ : Int) + k < N := by omega
      have r1 := byt_range b
      obtain ⟨r1, r2⟩ := r1
      go_wp2
      case roundEnd =>
        have hx : x < 256 ^ k := by
          have := le_lt ((l.drop at_).take k)
          rw [← HX.out] at this
          have e : ((l.drop at_).take k).length = k := by simp; have := HN.out; omega
          rwa [e] at this
        refine ⟨⟨k + 1, x + 256 ^ k * b.toNat, by omega, by go_num, by rw [ld_step x k b (by omega) hx], ?_⟩, by simp [intOf]; omega⟩
        have e : (l.drop at_).take (k + 1) = (l.drop at_).take k ++ [b] := by
          rw [List.take_add_one, List.getElem?_drop, EB.out]; rfl
        rw [e, le_snoc, ← HX.out]
        have e2 : ((l.drop at_).take k).length = k := by simp; have := HN.out; omega
        rw [e2]
    · obtain rfl : k = n := by omega
      go_wp2
      exact bodyPost_ret (results_tmp rfl _ _ _) rfl ⟨by rw [HX.out]; rfl, rfl⟩
theorem Trim.all (l : List UInt8) : Trim l l.length := ⟨Nat.le_refl _, by simp⟩
theorem Trim.less {l : List UInt8} {k : Nat} (h : Trim l (k + 1)) (h0 : l[k]? = some 0) : Trim l k := by
  obtain ⟨h1, h2⟩ := h
  refine ⟨by omega, ?_⟩
  obtain ⟨h3, h4⟩ := List.getElem?_eq_some_iff.1 h0
  have e : l.length - k = (l.length - (k + 1)) + 1 := by omega
  rw [List.drop_eq_getElem_cons h3, h2, h4, e, List.replicate_succ]
set_option maxHeartbeats 1000000 in
theorem trimmed_any (A : Option Addr) (c N : Nat) (l : List UInt8) (w : World) (hl : l.length = N) (hN : N ≤ 1024) (hc : N ≤ c) (hcm : c ≤ 9223372036854775807) (hr : RS cB w w.heap.size A l) :
    Calls Try.prog 60 #[.slice A N c] w fun r w' => ∃ (A' : Option Addr) (t c' : Nat), r = .returned (.slice A' t c') ∧ Trim l t ∧ OS cB w' w.heap.size A' c' (l.take t) ∧ Below w.heap.size w w' := by
  have HL := Lib.hid hl; have HR := Lib.hid hr; have HN3 := Lib.hid (OS.nil (cd := cB) w w.heap.size 0 rfl); clear hr
  go_enter Try.func60, Try.ntmps60
  go_wp2
  go_loop [3] (fun v => ∃ t : Nat, t ≤ N ∧ v = .int .i64 t ∧ Trim l t) (fun v => (intOf v).toNat)
  case atStart => exact ⟨N, Nat.le_refl _, rfl, by rw [← hl]; exact Trim.all l⟩
  case round =>
    obtain ⟨t, ht, rfl, hT⟩ := hrel
    have HT := Lib.hid hT; clear hT hl
    by_cases h0 : 0 < t
    · obtain ⟨k, rfl⟩ : ∃ k, t = k + 1 := ⟨t - 1, by omega⟩
      obtain ⟨ad, b, rfl, -, eb, gb⟩ := HR.out.at_ (k := k) (by rw [HL.out]; omega)
      change w.cell? (ad.add k) = some (.int .u8 (byt b)) at gb
      have ek : ((k + 1 : Nat) : Int) - 1 = (k : Int) := by omega
      have wk : wrap64 (((k + 1 : Nat) : Int) - 1) = (k : Int) := by unfold wrap64; omega
      have EB := Lib.hid eb; clear eb
      by_cases hb : b = 0
      · subst hb
        go_wp2
        case roundEnd =>
          exact ⟨⟨k, by omega, by go_num, HT.out.less EB.out⟩, by simp [intOf]⟩
      · have tb : (byt b == 0) = false := by
          rw [beq_eq_false_iff_ne]
          intro h
          exact hb (UInt8.toNat_inj.1 (Int.ofNat.inj h))
        clear hb
        generalize byt b = y at *
        go_wp2_with (at_builtin; refine wpList_appB _ rfl (.const (.slice none 0 0)) (.tmp 20) rfl HN3.out rfl rfl (HR.out.take (k + 1)) rfl (by rw [List.length_take, HL.out]; exact Nat.min_eq_left ht) (by omega) (Nat.le_refl _) ?_; intro A3 c3 w3 ho3 hg3 hA3; have hb3 := bapp (b0 w) HN3.out hg3; rw [List.nil_append] at ho3)
        refine bodyPost_ret (results_tmp rfl _ _ _) rfl ⟨A3, (k + 1), c3, rfl, HT.out, ho3, hb3⟩
    · obtain rfl : t = 0 := by omega
      go_wp2_with (at_builtin; refine wpList_appB _ rfl (.const (.slice none 0 0)) (.tmp 20) rfl HN3.out rfl rfl (HR.out.take 0) rfl (by rw [List.length_take, HL.out]; exact Nat.min_eq_left (Nat.zero_le _)) (by omega) (Nat.le_refl _) ?_; intro A3 c3 w3 ho3 hg3 hA3; have hb3 := bapp (b0 w) HN3.out hg3; rw [List.nil_append] at ho3)
      refine bodyPost_ret (results_tmp rfl _ _ _) rfl ⟨A3, 0, c3, rfl, HT.out, ho3, hb3⟩
theorem sizes_any (big : Bool) (w : World) : Calls Try.prog 44 #[.int .i64 (kOf big)] w fun e w' => e = .returned (.tuple #[.int .i64 (bOf big : Nat), .int .i64 (bOf big : Nat), .int .i64 (bOf big / 4 : Nat)]) ∧ w = w' := by
  cases big
  · exact sizes_small w
  · exact sizes_big w
theorem rightLen_any (big : Bool) (A : Option Addr) (n c : Nat) (w : World) : Calls Try.prog 49 #[.int .i64 (kOf big), .slice A n c] w fun e w' => e = .returned (.int .i64 (if n < bOf big then 3 else if bOf big < n then 2 else 0)) ∧ w = w' := by
  have hs := fun W => sizes_any big W
  have h0 : ((bOf big : Int) == 0) = false := by cases big <;> rfl
  generalize bOf big / 4 = q at *
  generalize bOf big = m at *
  generalize kOf big = k at *
  have HS := Lib.hid hs; clear hs
  by_cases h1 : n < m
  · rw [if_pos h1]
    have t1 : decide ((n : Int) < (m : Int)) = true := decide_eq_true (Int.ofNat_lt.2 h1)
    go_enter Try.func49, Try.ntmps49
    go_wp2_with (go_at_call 44; refine (HS.out _).mono ?_; rintro e1 w1 ⟨rfl, rfl⟩)
    exact bodyPost_ret (results_tmp rfl _ _ _) rfl ⟨rfl, rfl⟩
  · rw [if_neg h1]
    have t1 : decide ((n : Int) < (m : Int)) = false := decide_eq_false (fun h => h1 (Int.ofNat_lt.1 h))
    by_cases h2 : m < n
    · rw [if_pos h2]
      have t2 : decide ((m : Int) < (n : Int)) = true := decide_eq_true (Int.ofNat_lt.2 h2)
      go_enter Try.func49, Try.ntmps49
      go_wp2_with (go_at_call 44; refine (HS.out _).mono ?_; rintro e1 w1 ⟨rfl, rfl⟩)
      exact bodyPost_ret (results_tmp rfl _ _ _) rfl ⟨rfl, rfl⟩
    · rw [if_neg h2]
      have t2 : decide ((m : Int) < (n : Int)) = false := decide_eq_false (fun h => h2 (Int.ofNat_lt.1 h))
      go_enter Try.func49, Try.ntmps49
      go_wp2_with (go_at_call 44; refine (HS.out _).mono ?_; rintro e1 w1 ⟨rfl, rfl⟩)
      exact bodyPost_ret (results_tmp rfl _ _ _) rfl ⟨rfl, rfl⟩
/-- other salts -/
def Pr.slk (p : Pr) (s t : Sl) : Pr := { p with salt := s, pers := t }
set_option maxRecDepth 20000 in
set_option maxHeartbeats 2000000 in
theorem normal_any (p : Pr) (ls lp : List UInt8) (w : World) (hls : ls.length = p.salt.n) (hlp : lp.length = p.pers.n) (h1 : p.salt.n ≤ 1024) (h2 : p.pers.n ≤ 1024) (hc1 : p.salt.n ≤ p.salt.c ∧ p.salt.c ≤ 9223372036854775807) (hc2 : p.pers.n ≤ p.pers.c ∧ p.pers.c ≤ 9223372036854775807) (hrs : RS cB w w.heap.size p.salt.A ls) (hrp : RS cB w w.heap.size p.pers.A lp) :
    Calls Try.prog 51 #[p.v] w fun r w' => ∃ s t : Sl, r = .returned (p.slk s t).v ∧ Below w.heap.size w w' := by
  have ha := fun W hr => trimmed_any p.salt.A p.salt.c p.salt.n ls W hls h1 hc1.1 hc1.2 hr
  have hb := fun W hr => trimmed_any p.pers.A p.pers.c p.pers.n lp W hlp h2 hc2.1 hc2.2 hr
  have hsz : ∀ s t : Sl, (Try.prog.info? 26).map (·.size) = some (p.slk s t).cs.size := fun s t => Pr.size _
  have hall : ∀ s t : Sl, (p.slk s t).cs.all (·.oneCell') = true := fun s t => Pr.ones _
  obtain ⟨d, ky, fo, de, le, of, xo, nd, inn, ⟨sA, sn, sc⟩, ⟨pA, pn, pc⟩⟩ := p
  unfold Pr.v Pr.slk Pr.cs Sl.v at *
  dsimp only at *
  have HA := Lib.hid ha; have HBB := Lib.hid hb; have HRS := Lib.hid hrs; have HRP := Lib.hid hrp; have HSZ := Lib.hid hsz; have HALL := Lib.hid hall
  clear ha hb hrs hrp hls hlp h1 h2 hc1 hc2 hsz hall
  have hu := Lib.hid Try.underlying26
  go_enter Try.func51, Try.ntmps51
  go_upto_region 1 with fail
  have n0 : Blk ((w.alloc (.cells #[.int .i64 d, .int .i64 ky, .int .i64 fo, .int .i64 de, .int .u32 le, .int .u64 of, .int .u32 xo, .int .i64 nd, .int .i64 inn, .slice sA sn sc, .slice pA pn pc] 26)).alloc (.cells zcs 26)) w.heap.size 26 #[.int .i64 d, .int .i64 ky, .int .i64 fo, .int .i64 de, .int .u32 le, .int .u64 of, .int .u32 xo, .int .i64 nd, .int .i64 inn, .slice sA sn sc, .slice pA pn pc] := (Blk.new _ _ _).alloc _
  have n1 : Blk ((w.alloc (.cells #[.int .i64 d, .int .i64 ky, .int .i64 fo, .int .i64 de, .int .u32 le, .int .u64 of, .int .u32 xo, .int .i64 nd, .int .i64 inn, .slice sA sn sc, .slice pA pn pc] 26)).alloc (.cells zcs 26)) (w.heap.size + 1) 26 zcs := Blk.new2 _ _ _ _
  have n4 := bal (bal (b0 w) (.cells #[.int .i64 d, .int .i64 ky, .int .i64 fo, .int .i64 de, .int .u32 le, .int .u64 of, .int .u32 xo, .int .i64 nd, .int .i64 inn, .slice sA sn sc, .slice pA pn pc] 26)) (.cells zcs 26)
  obtain ⟨g, hg⟩ : ∃ g, g = w.heap.size := ⟨_, rfl⟩
  rw [← hg] at n0 n1 ⊢
  have hz : zcs = #[.int .i64 0, .int .i64 0, .int .i64 0, .int .i64 0, .int .u32 0, .int .u64 0, .int .u32 0, .int .i64 0, .int .i64 0, .slice none 0 0, .slice none 0 0] := rfl
  rw [← hz]
  generalize (w.alloc (.cells #[.int .i64 d, .int .i64 ky, .int .i64 fo, .int .i64 de, .int .u32 le, .int .u64 of, .int .u32 xo, .int .i64 nd, .int .i64 inn, .slice sA sn sc, .slice pA pn pc] 26)).alloc (.cells zcs 26) = u at *
  have hwg : Hid (w.heap.size ≤ g) := by (show _ ≤ _; omega)
  have HK := Lib.hid n0; have HZ := Lib.hid n1; have HB := Lib.hid n4; clear n0 n1 n4 hg hz
  refine wp_region_ords (fun _ => True) (fun _ _ h => h) (Ords.of [(0, 0), (0, 3)] (.two 1 4 (Ords.of [] (.two 2 4 (Ords.of [(2, 4), (0, 6), (2, 5), (2, 7), (0, 8), (2, 9)] .fin) (Ords.of [(2, 2), (0, 6), (2, 5), (2, 7), (0, 8), (2, 9)] .fin))) (Ords.of [(2, 1), (2, 2), (0, 6), (2, 5), (2, 7), (0, 8), (2, 9)] .fin))) (by kernel_rfl) rfl (by kernel_rfl) (by kernel_rfl) (fun c a d v w h => by cases d <;> exact h) trivial ?_
  iterate 2 (refine ords_pure rfl (fun K hK => ?_); go_simp; refine hK _ ?_; clear hK K)
  refine ords_two rfl rfl (fun n1 => ?_) (fun n1 => ?_)
  · replace HK := Lib.hid (HK.out.drewN n1)
    replace HZ := Lib.hid (HZ.out.drewN n1)
    replace HB := Lib.hid (bdr HB.out n1)
    generalize u.drewN n1 = u at *
    have dC : u.cell? ⟨g, 9, none⟩ = some (.slice sA sn sc) := HK.out.cell 9
    go_wp2_with fail
    clear dC
    refine ⟨trivial, ?_⟩
    refine ords_two rfl rfl (fun n2 => ?_) (fun n2 => ?_)
    · replace HK := Lib.hid (HK.out.drewN n2)
      replace HZ := Lib.hid (HZ.out.drewN n2)
      replace HB := Lib.hid (bdr HB.out n2)
      generalize u.drewN n2 = u at *
      go_wp2_with (go_at_call 60; refine (HA.out _ ((HRS.out.below HB.out).more HB.out.size)).mono ?_; rintro e1 u ⟨A1, t1, c1, rfl, -, -, hb1⟩)
      replace HK := Lib.hid (HK.out.below hb1 HK.out.lt)
      replace HZ := Lib.hid (HZ.out.below hb1 HZ.out.lt)
      replace HB := Lib.hid (bcall HB.out hb1)
      clear hb1
      refine ⟨trivial, ?_⟩
      refine ords_loud rfl (fun n3 => ?_)
      replace HK := Lib.hid (HK.out.drewN n3)
      replace HZ := Lib.hid (HZ.out.drewN n3)
      replace HB := Lib.hid (bdr HB.out n3)
      generalize u.drewN n3 = u at *
      have dC : u.cell? ⟨g, 10, none⟩ = some (.slice pA pn pc) := HK.out.cell 10
      go_wp2_with fail
      clear dC
      refine ⟨trivial, ?_⟩
      refine ords_pure rfl (fun K hK => ?_); go_simp; refine hK _ ?_; clear hK K
      refine ords_loud rfl (fun n4 => ?_)
      replace HK := Lib.hid (HK.out.drewN n4)
      replace HZ := Lib.hid (HZ.out.drewN n4)
      replace HB := Lib.hid (bdr HB.out n4)
      generalize u.drewN n4 = u at *
      go_wp2_with (go_at_call 60; refine (HBB.out _ ((HRP.out.below HB.out).more HB.out.size)).mono ?_; rintro e1 u ⟨A2, t2, c2, rfl, -, -, hb1⟩)
      replace HK := Lib.hid (HK.out.below hb1 HK.out.lt)
      replace HZ := Lib.hid (HZ.out.below hb1 HZ.out.lt)
      replace HB := Lib.hid (bcall HB.out hb1)
      clear hb1
      refine ⟨trivial, ?_⟩
      refine ords_loud rfl (fun n5 => ?_)
      replace HK := Lib.hid (HK.out.drewN n5)
      replace HZ := Lib.hid (HZ.out.drewN n5)
      replace HB := Lib.hid (bdr HB.out n5)
      generalize u.drewN n5 = u at *
      have f9 := HK.out.frozen 9
      have hl9 := HK.out.lt
      have dC : u.cell? ⟨g, 9, none⟩ = some (.slice sA sn sc) := HK.out.cell 9
      go_wp2_with fail
      replace HK := Lib.hid (HK.out.set_ 9 (.slice A1 t1 c1))
      replace HZ := Lib.hid (HZ.out.far (p := ⟨g, 9, none⟩) (by show g + 1 ≠ g; omega) (.slice A1 t1 c1))
      replace HB := Lib.hid (bput HB.out (p := ⟨g, 9, none⟩) hwg.out (.slice A1 t1 c1))
      clear f9 hl9 dC
      generalize u.setCell ⟨g, 9, none⟩ (.slice A1 t1 c1) = u at *
      refine ⟨trivial, ?_⟩
      refine ords_pure rfl (fun K hK => ?_); go_simp; refine hK _ ?_; clear hK K
      refine ords_loud rfl (fun n6 => ?_)
      replace HK := Lib.hid (HK.out.drewN n6)
      replace HZ := Lib.hid (HZ.out.drewN n6)
      replace HB := Lib.hid (bdr HB.out n6)
      generalize u.drewN n6 = u at *
      have f9 := HK.out.frozen 10
      have hl9 := HK.out.lt
      have dC : u.cell? ⟨g, 10, none⟩ = some (.slice pA pn pc) := HK.out.cell 10
      go_wp2_with fail
      replace HK := Lib.hid (HK.out.set_ 10 (.slice A2 t2 c2))
      replace HZ := Lib.hid (HZ.out.far (p := ⟨g, 10, none⟩) (by show g + 1 ≠ g; omega) (.slice A2 t2 c2))
      replace HB := Lib.hid (bput HB.out (p := ⟨g, 10, none⟩) hwg.out (.slice A2 t2 c2))
      clear f9 hl9 dC
      generalize u.setCell ⟨g, 10, none⟩ (.slice A2 t2 c2) = u at *
      refine ⟨trivial, ?_⟩
      refine ords_end (fun n7 => ?_)
      replace HK := Lib.hid (HK.out.drewN n7)
      replace HZ := Lib.hid (HZ.out.drewN n7)
      replace HB := Lib.hid (bdr HB.out n7)
      generalize u.drewN n7 = u at *
      have HK2 : Hid (Blk u g 26 #[.int .i64 d, .int .i64 ky, .int .i64 fo, .int .i64 de, .int .u32 le, .int .u64 of, .int .u32 xo, .int .i64 nd, .int .i64 inn, .slice A1 t1 c1, .slice A2 t2 c2]) := HK.out
      clear HK
      have hs2 := Lib.hid (HSZ.out ⟨A1, t1, c1⟩ ⟨A2, t2, c2⟩)
      have ha2 := Lib.hid (HALL.out ⟨A1, t1, c1⟩ ⟨A2, t2, c2⟩)
      go_wp2_with (first
        | (refine wpList_load_row rfl 26 _ rfl g rfl 26 _ (0, 0) _ HK2.out hu.out rfl hs2.out ?_)
        | (refine wpList_store_row rfl 26 _ _ rfl (g + 1) _ rfl rfl 26 _ HZ.out hs2.out rfl ha2.out ?_))
      exact bodyPost_ret (results_cell_row rfl _ _ (g + 1) _ _ (0, 0) _ rfl (HZ.out.row _) hu.out rfl hs2.out) rfl ⟨⟨⟨A1, t1, c1⟩, ⟨A2, t2, c2⟩, rfl⟩, brow HB.out (Nat.le_succ_of_le hwg.out) _⟩
    · replace HK := Lib.hid (HK.out.drewN n2)
      replace HZ := Lib.hid (HZ.out.drewN n2)
      replace HB := Lib.hid (bdr HB.out n2)
      generalize u.drewN n2 = u at *
      have dC : u.cell? ⟨g, 10, none⟩ = some (.slice pA pn pc) := HK.out.cell 10
      go_wp2_with fail
      clear dC
      refine ⟨trivial, ?_⟩
      refine ords_loud rfl (fun n3 => ?_)
      replace HK := Lib.hid (HK.out.drewN n3)
      replace HZ := Lib.hid (HZ.out.drewN n3)
      replace HB := Lib.hid (bdr HB.out n3)
      generalize u.drewN n3 = u at *
      go_wp2_with (go_at_call 60; refine (HA.out _ ((HRS.out.below HB.out).more HB.out.size)).mono ?_; rintro e1 u ⟨A1, t1, c1, rfl, -, -, hb1⟩)
      replace HK := Lib.hid (HK.out.below hb1 HK.out.lt)
      replace HZ := Lib.hid (HZ.out.below hb1 HZ.out.lt)
      replace HB := Lib.hid (bcall HB.out hb1)
      clear hb1
      refine ⟨trivial, ?_⟩
      refine ords_pure rfl (fun K hK => ?_); go_simp; refine hK _ ?_; clear hK K
      refine ords_loud rfl (fun n4 => ?_)
      replace HK := Lib.hid (HK.out.drewN n4)
      replace HZ := Lib.hid (HZ.out.drewN n4)
      replace HB := Lib.hid (bdr HB.out n4)
      generalize u.drewN n4 = u at *
      go_wp2_with (go_at_call 60; refine (HBB.out _ ((HRP.out.below HB.out).more HB.out.size)).mono ?_; rintro e1 u ⟨A2, t2, c2, rfl, -, -, hb1⟩)
      replace HK := Lib.hid (HK.out.below hb1 HK.out.lt)
      replace HZ := Lib.hid (HZ.out.below hb1 HZ.out.lt)
      replace HB := Lib.hid (bcall HB.out hb1)
      clear hb1
      refine ⟨trivial, ?_⟩
      refine ords_loud rfl (fun n5 => ?_)
      replace HK := Lib.hid (HK.out.drewN n5)
      replace HZ := Lib.hid (HZ.out.drewN n5)
      replace HB := Lib.hid (bdr HB.out n5)
      generalize u.drewN n5 = u at *
      have f9 := HK.out.frozen 9
      have hl9 := HK.out.lt
      have dC : u.cell? ⟨g, 9, none⟩ = some (.slice sA sn sc) := HK.out.cell 9
      go_wp2_with fail
      replace HK := Lib.hid (HK.out.set_ 9 (.slice A1 t1 c1))
      replace HZ := Lib.hid (HZ.out.far (p := ⟨g, 9, none⟩) (by show g + 1 ≠ g; omega) (.slice A1 t1 c1))
      replace HB := Lib.hid (bput HB.out (p := ⟨g, 9, none⟩) hwg.out (.slice A1 t1 c1))
      clear f9 hl9 dC
      generalize u.setCell ⟨g, 9, none⟩ (.slice A1 t1 c1) = u at *
      refine ⟨trivial, ?_⟩
      refine ords_pure rfl (fun K hK => ?_); go_simp; refine hK _ ?_; clear hK K
      refine ords_loud rfl (fun n6 => ?_)
      replace HK := Lib.hid (HK.out.drewN n6)
      replace HZ := Lib.hid (HZ.out.drewN n6)
      replace HB := Lib.hid (bdr HB.out n6)
      generalize u.drewN n6 = u at *
      have f9 := HK.out.frozen 10
      have hl9 := HK.out.lt
      have dC : u.cell? ⟨g, 10, none⟩ = some (.slice pA pn pc) := HK.out.cell 10
      go_wp2_with fail
      replace HK := Lib.hid (HK.out.set_ 10 (.slice A2 t2 c2))
      replace HZ := Lib.hid (HZ.out.far (p := ⟨g, 10, none⟩) (by show g + 1 ≠ g; omega) (.slice A2 t2 c2))
      replace HB := Lib.hid (bput HB.out (p := ⟨g, 10, none⟩) hwg.out (.slice A2 t2 c2))
      clear f9 hl9 dC
      generalize u.setCell ⟨g, 10, none⟩ (.slice A2 t2 c2) = u at *
      refine ⟨trivial, ?_⟩
      refine ords_end (fun n7 => ?_)
      replace HK := Lib.hid (HK.out.drewN n7)
      replace HZ := Lib.hid (HZ.out.drewN n7)
      replace HB := Lib.hid (bdr HB.out n7)
      generalize u.drewN n7 = u at *
      have HK2 : Hid (Blk u g 26 #[.int .i64 d, .int .i64 ky, .int .i64 fo, .int .i64 de, .int .u32 le, .int .u64 of, .int .u32 xo, .int .i64 nd, .int .i64 inn, .slice A1 t1 c1, .slice A2 t2 c2]) := HK.out
      clear HK
      have hs2 := Lib.hid (HSZ.out ⟨A1, t1, c1⟩ ⟨A2, t2, c2⟩)
      have ha2 := Lib.hid (HALL.out ⟨A1, t1, c1⟩ ⟨A2, t2, c2⟩)
      go_wp2_with (first
        | (refine wpList_load_row rfl 26 _ rfl g rfl 26 _ (0, 0) _ HK2.out hu.out rfl hs2.out ?_)
        | (refine wpList_store_row rfl 26 _ _ rfl (g + 1) _ rfl rfl 26 _ HZ.out hs2.out rfl ha2.out ?_))
      exact bodyPost_ret (results_cell_row rfl _ _ (g + 1) _ _ (0, 0) _ rfl (HZ.out.row _) hu.out rfl hs2.out) rfl ⟨⟨⟨A1, t1, c1⟩, ⟨A2, t2, c2⟩, rfl⟩, brow HB.out (Nat.le_succ_of_le hwg.out) _⟩
  · replace HK := Lib.hid (HK.out.drewN n1)
    replace HZ := Lib.hid (HZ.out.drewN n1)
    replace HB := Lib.hid (bdr HB.out n1)
    generalize u.drewN n1 = u at *
    have dC : u.cell? ⟨g, 10, none⟩ = some (.slice pA pn pc) := HK.out.cell 10
    go_wp2_with fail
    clear dC
    refine ⟨trivial, ?_⟩
    refine ords_loud rfl (fun n2 => ?_)
    replace HK := Lib.hid (HK.out.drewN n2)
    replace HZ := Lib.hid (HZ.out.drewN n2)
    replace HB := Lib.hid (bdr HB.out n2)
    generalize u.drewN n2 = u at *
    have dC : u.cell? ⟨g, 9, none⟩ = some (.slice sA sn sc) := HK.out.cell 9
    go_wp2_with fail
    clear dC
    refine ⟨trivial, ?_⟩
    refine ords_loud rfl (fun n3 => ?_)
    replace HK := Lib.hid (HK.out.drewN n3)
    replace HZ := Lib.hid (HZ.out.drewN n3)
    replace HB := Lib.hid (bdr HB.out n3)
    generalize u.drewN n3 = u at *
    go_wp2_with (go_at_call 60; refine (HA.out _ ((HRS.out.below HB.out).more HB.out.size)).mono ?_; rintro e1 u ⟨A1, t1, c1, rfl, -, -, hb1⟩)
    replace HK := Lib.hid (HK.out.below hb1 HK.out.lt)
    replace HZ := Lib.hid (HZ.out.below hb1 HZ.out.lt)
    replace HB := Lib.hid (bcall HB.out hb1)
    clear hb1
    refine ⟨trivial, ?_⟩
    refine ords_pure rfl (fun K hK => ?_); go_simp; refine hK _ ?_; clear hK K
    refine ords_loud rfl (fun n4 => ?_)
    replace HK := Lib.hid (HK.out.drewN n4)
    replace HZ := Lib.hid (HZ.out.drewN n4)
    replace HB := Lib.hid (bdr HB.out n4)
    generalize u.drewN n4 = u at *
    go_wp2_with (go_at_call 60; refine (HBB.out _ ((HRP.out.below HB.out).more HB.out.size)).mono ?_; rintro e1 u ⟨A2, t2, c2, rfl, -, -, hb1⟩)
    replace HK := Lib.hid (HK.out.below hb1 HK.out.lt)
    replace HZ := Lib.hid (HZ.out.below hb1 HZ.out.lt)
    replace HB := Lib.hid (bcall HB.out hb1)
    clear hb1
    refine ⟨trivial, ?_⟩
    refine ords_loud rfl (fun n5 => ?_)
    replace HK := Lib.hid (HK.out.drewN n5)
    replace HZ := Lib.hid (HZ.out.drewN n5)
    replace HB := Lib.hid (bdr HB.out n5)
    generalize u.drewN n5 = u at *
    have f9 := HK.out.frozen 9
    have hl9 := HK.out.lt
    have dC : u.cell? ⟨g, 9, none⟩ = some (.slice sA sn sc) := HK.out.cell 9
    go_wp2_with fail
    replace HK := Lib.hid (HK.out.set_ 9 (.slice A1 t1 c1))
    replace HZ := Lib.hid (HZ.out.far (p := ⟨g, 9, none⟩) (by show g + 1 ≠ g; omega) (.slice A1 t1 c1))
    replace HB := Lib.hid (bput HB.out (p := ⟨g, 9, none⟩) hwg.out (.slice A1 t1 c1))
    clear f9 hl9 dC
    generalize u.setCell ⟨g, 9, none⟩ (.slice A1 t1 c1) = u at *
    refine ⟨trivial, ?_⟩
    refine ords_pure rfl (fun K hK => ?_); go_simp; refine hK _ ?_; clear hK K
    refine ords_loud rfl (fun n6 => ?_)
    replace HK := Lib.hid (HK.out.drewN n6)
    replace HZ := Lib.hid (HZ.out.drewN n6)
    replace HB := Lib.hid (bdr HB.out n6)
    generalize u.drewN n6 = u at *
    have f9 := HK.out.frozen 10
    have hl9 := HK.out.lt
    have dC : u.cell? ⟨g, 10, none⟩ = some (.slice pA pn pc) := HK.out.cell 10
    go_wp2_with fail
    replace HK := Lib.hid (HK.out.set_ 10 (.slice A2 t2 c2))
    replace HZ := Lib.hid (HZ.out.far (p := ⟨g, 10, none⟩) (by show g + 1 ≠ g; omega) (.slice A2 t2 c2))
    replace HB := Lib.hid (bput HB.out (p := ⟨g, 10, none⟩) hwg.out (.slice A2 t2 c2))
    clear f9 hl9 dC
    generalize u.setCell ⟨g, 10, none⟩ (.slice A2 t2 c2) = u at *
    refine ⟨trivial, ?_⟩
    refine ords_end (fun n7 => ?_)
    replace HK := Lib.hid (HK.out.drewN n7)
    replace HZ := Lib.hid (HZ.out.drewN n7)
    replace HB := Lib.hid (bdr HB.out n7)
    generalize u.drewN n7 = u at *
    have HK2 : Hid (Blk u g 26 #[.int .i64 d, .int .i64 ky, .int .i64 fo, .int .i64 de, .int .u32 le, .int .u64 of, .int .u32 xo, .int .i64 nd, .int .i64 inn, .slice A1 t1 c1, .slice A2 t2 c2]) := HK.out
    clear HK
    have hs2 := Lib.hid (HSZ.out ⟨A1, t1, c1⟩ ⟨A2, t2, c2⟩)
    have ha2 := Lib.hid (HALL.out ⟨A1, t1, c1⟩ ⟨A2, t2, c2⟩)
    go_wp2_with (first
      | (refine wpList_load_row rfl 26 _ rfl g rfl 26 _ (0, 0) _ HK2.out hu.out rfl hs2.out ?_)
      | (refine wpList_store_row rfl 26 _ _ rfl (g + 1) _ rfl rfl 26 _ HZ.out hs2.out rfl ha2.out ?_))
    exact bodyPost_ret (results_cell_row rfl _ _ (g + 1) _ _ (0, 0) _ rfl (HZ.out.row _) hu.out rfl hs2.out) rfl ⟨⟨⟨A1, t1, c1⟩, ⟨A2, t2, c2⟩, rfl⟩, brow HB.out (Nat.le_succ_of_le hwg.out) _⟩
end Go.Proofs.Ytboihcigcfmhhaa

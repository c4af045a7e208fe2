/-
  The reference's smaller half: words, turning, places. Contracts alone; no statement is claimed here.
-/
import Derived.Test.YtgephdbicbmpeaaGreatRefA
import Derived.Test.YtgephdbicbmpeaaGreatMixS
namespace Go.Proofs.YtgephdbicbmpeaaGreat
open Go.RowKit
attribute [local go_sem] pureUpon Ords.of

theorem r4IV_any (w : World) : Calls Tryz.prog 231 #[] w fun e w' => e = .returned (.agg (wc3 iv32)) ∧ Below w.heap.size w w' := by
  have hu := Lib.hid Tryz.underlying256
  have hsz : Hid ((Tryz.prog.info? 256).map (·.size) = some (wc3 iv32).size) := by show _ = _; kernel_rfl
  have hn := Lib.hid (Blk.new w 256 #[.int .u32 0, .int .u32 0, .int .u32 0, .int .u32 0, .int .u32 0, .int .u32 0, .int .u32 0, .int .u32 0])
  have hall := Lib.hid (wc3_all iv32)
  go_enter Tryz.func231, Tryz.ntmps231
  go_wp2_with (refine wpList_store_row rfl 256 _ _ rfl w.heap.size (wc3 iv32) rfl (by kernel_rfl) 256 _ hn.out hsz.out (by kernel_rfl) hall.out ?_)
  exact bodyPost_ret (results_cell_row rfl _ _ w.heap.size _ _ (0, 0) _ rfl (hn.out.row _) hu.out rfl hsz.out) rfl ⟨rfl, brow (bal (b0 w) _) (Nat.le_refl _) _⟩
theorem word3_four (a b c d : UInt8) : IntKind.u32.wrap (IntKind.u32.wrap (IntKind.u32.wrap (byt a + byt b * 256) + byt c * 65536) + byt d * 16777216) = wr3 (word3 [a, b, c, d]) := by
  have ha := a.toNat_lt; have hb := b.toNat_lt; have hc := c.toNat_lt; have hd := d.toNat_lt
  have e : le [a, b, c, d] = a.toNat + 256 * (b.toNat + 256 * (c.toNat + 256 * (d.toNat + 256 * 0))) := rfl
  unfold word3
  rw [wr3_ofNat, e]
  unfold byt
  simp only [wrap_u32w]
  omega
set_option maxHeartbeats 1000000 in
theorem r4load_any (A : Option Addr) (c N at_ B : Nat) (l : List UInt8) (w : World) (hN : l.length = N) (hm : N ≤ 1000000) (hr : RS cB w B A l) (hat : at_ + 4 ≤ N) :
    Calls Tryz.prog 218 #[.slice A N c, .int .i64 at_] w fun e w' => e = .returned (.int .u32 (wr3 (word3 ((l.drop at_).take 4)))) ∧ Below w.heap.size w w' := by
  obtain ⟨i1, hi1⟩ : ∃ i, i = at_ + 1 := ⟨_, rfl⟩
  obtain ⟨i2, hi2⟩ : ∃ i, i = at_ + 2 := ⟨_, rfl⟩
  obtain ⟨i3, hi3⟩ : ∃ i, i = at_ + 3 := ⟨_, rfl⟩
  obtain ⟨ad, x0, hA, _, e0, c0⟩ := hr.at_ (k := at_) (by omega)
  obtain ⟨ad1, x1, hA1, _, e1, c1⟩ := hr.at_ (k := i1) (by omega)
  obtain ⟨ad2, x2, hA2, _, e2, c2⟩ := hr.at_ (k := i2) (by omega)
  obtain ⟨ad3, x3, hA3, _, e3, c3⟩ := hr.at_ (k := i3) (by omega)
  subst hA
  cases hA1; cases hA2; cases hA3
  have hl : (l.drop at_).take 4 = [x0, x1, x2, x3] := by
    have h0 : at_ < l.length := by omega
    have h1 : at_ + 1 < l.length := by omega
    have h2 : at_ + 1 + 1 < l.length := by omega
    have h3 : at_ + 1 + 1 + 1 < l.length := by omega
    rw [hi1, List.getElem?_eq_getElem h1] at e1
    rw [hi2, List.getElem?_eq_getElem h2] at e2
    rw [hi3, List.getElem?_eq_getElem h3] at e3
    rw [List.getElem?_eq_getElem h0] at e0
    rw [List.drop_eq_getElem_cons h0, List.take_succ_cons, List.drop_eq_getElem_cons h1, List.take_succ_cons, List.drop_eq_getElem_cons h2, List.take_succ_cons, List.drop_eq_getElem_cons h3, List.take_succ_cons, List.take_zero, Option.some.inj e0, Option.some.inj e1, Option.some.inj e2, Option.some.inj e3]
  rw [hl, ← word3_four]
  change w.cell? (ad.add at_) = some (.int .u8 (byt x0)) at c0
  change w.cell? (ad.add i1) = some (.int .u8 (byt x1)) at c1
  change w.cell? (ad.add i2) = some (.int .u8 (byt x2)) at c2
  change w.cell? (ad.add i3) = some (.int .u8 (byt x3)) at c3
  have k0 : (at_ : Int) < N := by omega
  have k1 : (i1 : Int) < N := by omega
  have k2 : (i2 : Int) < N := by omega
  have k3 : (i3 : Int) < N := by omega
  have m1 : (at_ : Int) + 1 = i1 := by omega
  have m2 : (at_ : Int) + 2 = i2 := by omega
  have m3 : (at_ : Int) + 3 = i3 := by omega
  have w1 : IntKind.i64.wrap (i1 : Int) = i1 := by simp [IntKind.wrap, IntKind.bits, IntKind.signed]; omega
  have w2 : IntKind.i64.wrap (i2 : Int) = i2 := by simp [IntKind.wrap, IntKind.bits, IntKind.signed]; omega
  have w3 : IntKind.i64.wrap (i3 : Int) = i3 := by simp [IntKind.wrap, IntKind.bits, IntKind.signed]; omega
  have r0 := byt_range x0; have r1 := byt_range x1; have r2 := byt_range x2; have r3 := byt_range x3
  have s0 : IntKind.u32.wrap (byt x0) = byt x0 := by rw [wrap_u32w]; omega
  have s1 : IntKind.u32.wrap (byt x1) = byt x1 := by rw [wrap_u32w]; omega
  have s2 : IntKind.u32.wrap (byt x2) = byt x2 := by rw [wrap_u32w]; omega
  have s3 : IntKind.u32.wrap (byt x3) = byt x3 := by rw [wrap_u32w]; omega
  have s4 : IntKind.u32.wrap (byt x1 * 256) = byt x1 * 256 := by rw [wrap_u32w]; omega
  have s5 : IntKind.u32.wrap (byt x2 * 65536) = byt x2 * 65536 := by rw [wrap_u32w]; omega
  have s6 : IntKind.u32.wrap (byt x3 * 16777216) = byt x3 * 16777216 := by rw [wrap_u32w]; omega
  clear hl e0 e1 e2 e3 hi1 hi2 hi3 hr hN hat r0 r1 r2 r3
  go_enter Tryz.func218, Tryz.ntmps218
  go_wp2_with fail
  refine wp_region_ords (fun _ => True) (fun _ _ h => h) (Ords.of [(0, 0), (0, 1), (0, 2), (1, 3), (0, 4), (0, 5), (0, 6), (0, 7), (0, 8), (1, 9), (0, 10), (0, 11), (0, 12), (0, 13), (0, 14), (0, 15), (0, 16), (1, 17), (0, 18), (0, 19), (0, 20), (0, 21), (0, 22), (0, 23), (0, 24), (1, 25), (0, 26), (0, 27), (0, 28), (0, 29)] .fin) (by kernel_rfl) rfl (by kernel_rfl) (by kernel_rfl) (fun c a d v w h => by cases d <;> exact h) trivial ?_
  refine ords_pure rfl (fun K hK => ?_); go_simp; refine hK _ ?_; clear hK K
  refine ords_pure rfl (fun K hK => ?_); go_simp; refine hK _ ?_; clear hK K
  refine ords_pure rfl (fun K hK => ?_); go_simp; refine hK _ ?_; clear hK K
  refine ords_read rfl (fun K hK => ?_); go_simp; refine hK _ ?_; clear hK K
  refine ords_pure rfl (fun K hK => ?_); go_simp; refine hK _ ?_; clear hK K
  refine ords_pure rfl (fun K hK => ?_); go_simp; refine hK _ ?_; clear hK K
  refine ords_pure rfl (fun K hK => ?_); go_simp; refine hK _ ?_; clear hK K
  refine ords_pure rfl (fun K hK => ?_); go_simp; refine hK _ ?_; clear hK K
  refine ords_pure rfl (fun K hK => ?_); go_simp; refine hK _ ?_; clear hK K
  refine ords_read rfl (fun K hK => ?_); go_simp; refine hK _ ?_; clear hK K
  refine ords_pure rfl (fun K hK => ?_); go_simp; refine hK _ ?_; clear hK K
  refine ords_pure rfl (fun K hK => ?_); go_simp; refine hK _ ?_; clear hK K
  refine ords_pure rfl (fun K hK => ?_); go_simp; refine hK _ ?_; clear hK K
  refine ords_pure rfl (fun K hK => ?_); go_simp; refine hK _ ?_; clear hK K
  refine ords_pure rfl (fun K hK => ?_); go_simp; refine hK _ ?_; clear hK K
  refine ords_pure rfl (fun K hK => ?_); go_simp; refine hK _ ?_; clear hK K
  refine ords_pure rfl (fun K hK => ?_); go_simp; refine hK _ ?_; clear hK K
  refine ords_read rfl (fun K hK => ?_); go_simp; refine hK _ ?_; clear hK K
  refine ords_pure rfl (fun K hK => ?_); go_simp; refine hK _ ?_; clear hK K
  refine ords_pure rfl (fun K hK => ?_); go_simp; refine hK _ ?_; clear hK K
  refine ords_pure rfl (fun K hK => ?_); go_simp; refine hK _ ?_; clear hK K
  refine ords_pure rfl (fun K hK => ?_); go_simp; refine hK _ ?_; clear hK K
  refine ords_pure rfl (fun K hK => ?_); go_simp; refine hK _ ?_; clear hK K
  refine ords_pure rfl (fun K hK => ?_); go_simp; refine hK _ ?_; clear hK K
  refine ords_pure rfl (fun K hK => ?_); go_simp; refine hK _ ?_; clear hK K
  refine ords_read rfl (fun K hK => ?_); go_simp; refine hK _ ?_; clear hK K
  refine ords_pure rfl (fun K hK => ?_); go_simp; refine hK _ ?_; clear hK K
  refine ords_pure rfl (fun K hK => ?_); go_simp; refine hK _ ?_; clear hK K
  refine ords_pure rfl (fun K hK => ?_); go_simp; refine hK _ ?_; clear hK K
  refine ords_pure rfl (fun K hK => ?_); go_simp; refine hK _ ?_; clear hK K
  refine ords_end (fun n1 => ?_)
  go_wp2
  exact bodyPost_ret (results_tmp rfl _ _ _) rfl ⟨rfl, bdr (b0 w) _⟩
theorem r4turn_16 (x : UInt32) (w : World) :
      Calls Tryz.prog 248 #[.int .u32 (wr3 x), .int .i64 16] w fun e w' => e = .returned (.int .u32 (wr3 (rot3 x 16))) ∧ w = w' := by
    have h2 := rot3_form' x 16 (by omega)
    go_enter Tryz.func248, Tryz.ntmps248
    go_wp2
    go_ret
    exact ⟨congrArg (fun n => Ending.returned (Value.int .u32 n)) h2, rfl⟩
theorem r4turn_12 (x : UInt32) (w : World) :
        Calls Tryz.prog 248 #[.int .u32 (wr3 x), .int .i64 12] w fun e w' => e = .returned (.int .u32 (wr3 (rot3 x 12))) ∧ w = w' := by
      have h2 := rot3_form' x 12 (by omega)
      go_enter Tryz.func248, Tryz.ntmps248
      go_wp2
      go_ret
      exact ⟨congrArg (fun n => Ending.returned (Value.int .u32 n)) h2, rfl⟩
theorem r4turn_8 (x : UInt32) (w : World) :
          Calls Tryz.prog 248 #[.int .u32 (wr3 x), .int .i64 8] w fun e w' => e = .returned (.int .u32 (wr3 (rot3 x 8))) ∧ w = w' := by
        have h2 := rot3_form' x 8 (by omega)
        go_enter Tryz.func248, Tryz.ntmps248
        go_wp2
        go_ret
        exact ⟨congrArg (fun n => Ending.returned (Value.int .u32 n)) h2, rfl⟩
theorem r4turn_7 (x : UInt32) (w : World) :
            Calls Tryz.prog 248 #[.int .u32 (wr3 x), .int .i64 7] w fun e w' => e = .returned (.int .u32 (wr3 (rot3 x 7))) ∧ w = w' := by
          have h2 := rot3_form' x 7 (by omega)
          go_enter Tryz.func248, Tryz.ntmps248
          go_wp2
          go_ret
          exact ⟨congrArg (fun n => Ending.returned (Value.int .u32 n)) h2, rfl⟩
theorem r4four_any (k : Nat) (hk : k < 8) (w : World) :
    Calls Tryz.prog 235 #[.int .i64 k] w fun e w' => e = .returned (.tuple #[.int .i64 (pls k).a, .int .i64 (pls k).b, .int .i64 (pls k).c, .int .i64 (pls k).d]) ∧ w = w' := by
  have h : k = 0 ∨ k = 1 ∨ k = 2 ∨ k = 3 ∨ k = 4 ∨ k = 5 ∨ k = 6 ∨ k = 7 := by omega
  clear hk
  rcases h with rfl | rfl | rfl | rfl | rfl | rfl | rfl | rfl <;> (go_enter Tryz.func235, Tryz.ntmps235) <;> go_wp2 <;> exact bodyPost_ret (results_tmp4 rfl _ _ _) rfl ⟨rfl, rfl⟩
set_option maxHeartbeats 2000000 in
theorem r4places_any (p : Pl) (w : World) (hp : p.Ok) :
    Calls Tryz.prog 247 #[.int .i64 p.a, .int .i64 p.b, .int .i64 p.c, .int .i64 p.d] w fun e w' => e = .returned (.bool true) ∧ Below w.heap.size w w' := by
  obtain ⟨L, hL⟩ : ∃ L, L = [p.a, p.b, p.c, p.d] := ⟨_, rfl⟩
  have hl : L.length = 4 := by rw [hL]; rfl
  have hlt16 : ∀ k, k < 4 → L.getD k 0 < 16 := by
    intro k hk
    have h : k = 0 ∨ k = 1 ∨ k = 2 ∨ k = 3 := by omega
    rw [hL]
    rcases h with rfl | rfl | rfl | rfl
    · exact hp.a
    · exact hp.b
    · exact hp.c
    · exact hp.d
  have hne : ∀ j k, j < k → k < 4 → L.getD k 0 ≠ L.getD j 0 := by
    intro j k hj hk
    have h : k = 1 ∧ j = 0 ∨ k = 2 ∧ j = 0 ∨ k = 2 ∧ j = 1 ∨ k = 3 ∧ j = 0 ∨ k = 3 ∧ j = 1 ∨ k = 3 ∧ j = 2 := by omega
    rw [hL]
    rcases h with ⟨rfl, rfl⟩ | ⟨rfl, rfl⟩ | ⟨rfl, rfl⟩ | ⟨rfl, rfl⟩ | ⟨rfl, rfl⟩ | ⟨rfl, rfl⟩
    · exact Ne.symm hp.ab
    · exact Ne.symm hp.ac
    · exact Ne.symm hp.bc
    · exact Ne.symm hp.ad
    · exact Ne.symm hp.bd
    · exact Ne.symm hp.cd
  have n0 : Blk (w.alloc (.cells #[.int .i64 p.a, .int .i64 p.b, .int .i64 p.c, .int .i64 p.d] 3)) w.heap.size 3 (ics L) := by rw [hL]; exact Blk.new _ _ _
  have n4 := bal (b0 w) (.cells #[.int .i64 p.a, .int .i64 p.b, .int .i64 p.c, .int .i64 p.d] 3)
  obtain ⟨g, hg⟩ : ∃ g, g = w.heap.size := ⟨_, rfl⟩
  obtain ⟨pa, pb, pc, pd⟩ := p
  dsimp only at *
  have HL := Lib.hid hl; have HLT := Lib.hid hlt16; have HNE := Lib.hid hne
  clear hl hlt16 hne hL hp
  go_enter Tryz.func247, Tryz.ntmps247
  go_wp2_with fail
  rw [← hg] at n0 ⊢
  generalize w.alloc (.cells #[.int .i64 pa, .int .i64 pb, .int .i64 pc, .int .i64 pd] 3) = w0 at *
  have N0 := Lib.hid n0; have N4 := Lib.hid n4; have HG : Hid (w.heap.size ≤ g) := (by show _ ≤ _; omega)
  clear n0 n4 hg
  go_loopw [10] (fun i wr => ∃ k : Nat, k ≤ 4 ∧ i = .int .i64 k ∧ Blk wr g 3 (ics L) ∧ Below w.heap.size w wr) (fun i _ => 4 - (intOf i).toNat)
  case atStart => exact ⟨0, by omega, rfl, N0.out, N4.out⟩
  case round =>
    clear N0 N4
    obtain ⟨k, hk, rfl, x0, x4⟩ := hrel
    have N0 := Lib.hid x0; have N4 := Lib.hid x4; clear x0 x4
    obtain ⟨wo, rfl⟩ : ∃ wo : World, wo = wr := ⟨_, rfl⟩
    by_cases hlt : k < 4
    · obtain ⟨x, hx⟩ : ∃ x, x = L.getD k 0 := ⟨_, rfl⟩
      have hx16 : x < 16 := by rw [hx]; exact HLT.out k hlt
      have c0 : wo.cell? ⟨g, k, none⟩ = some (.int .i64 x) := by rw [N0.out.cell, ics_get L k (by rw [HL.out]; exact hlt), hx]; rfl
      have t0 : decide ((x : Int) < 0) = false := by simp
      have t1 : decide (15 < (x : Int)) = false := by simp; omega
      have hk4 : (k : Int) < 4 := by omega
      have hkd : decide ((k : Int) < 4) = true := by simp; omega
      have HX := Lib.hid hx; clear hx
      go_wp2_with fail
      clear c0
      go_loopw [11] (fun i wr => ∃ j : Nat, j ≤ k ∧ i = .int .i64 j ∧ Blk wr g 3 (ics L) ∧ Below w.heap.size w wr) (fun i _ => k - (intOf i).toNat)
      case atStart => exact ⟨0, by omega, rfl, N0.out, N4.out⟩
      case round =>
        clear N0 N4
        obtain ⟨j, hj, rfl, x0, x4⟩ := hrel
        have N0 := Lib.hid x0; have N4 := Lib.hid x4; clear x0 x4
        by_cases hjt : j < k
        · obtain ⟨y, hy⟩ : ∃ y, y = L.getD j 0 := ⟨_, rfl⟩
          have c0 : wr.cell? ⟨g, k, none⟩ = some (.int .i64 x) := by rw [N0.out.cell, ics_get L k (by rw [HL.out]; exact hlt), HX.out]; rfl
          have c1 : wr.cell? ⟨g, j, none⟩ = some (.int .i64 y) := by rw [N0.out.cell, ics_get L j (by rw [HL.out]; omega), hy]; rfl
          have hxy : ((x : Int) == (y : Int)) = false := by have := HNE.out j k hjt hlt; rw [← HX.out, ← hy] at this; simp; omega
          have hj4 : (j : Int) < 4 := by omega
          have hjd : decide ((j : Int) < k) = true := by simp; omega
          have HY := Lib.hid hy; clear hy
          go_wp2_with fail
          refine wp_region_ords (fun _ => True) (fun _ _ h => h) (Ords.of [(0, 0), (0, 1), (0, 2), (1, 3), (0, 4), (0, 5), (0, 6), (1, 7), (0, 8)] .fin) (by kernel_rfl) rfl (by kernel_rfl) (by kernel_rfl) (fun c a d v w h => by cases d <;> exact h) trivial ?_
          refine ords_pure rfl (fun K hK => ?_); go_simp; refine hK _ ?_; clear hK K
          refine ords_pure rfl (fun K hK => ?_); go_simp; refine hK _ ?_; clear hK K
          refine ords_pure rfl (fun K hK => ?_); go_simp; refine hK _ ?_; clear hK K
          refine ords_read rfl (fun K hK => ?_); go_simp; refine hK _ ?_; clear hK K
          refine ords_pure rfl (fun K hK => ?_); go_simp; refine hK _ ?_; clear hK K
          refine ords_pure rfl (fun K hK => ?_); go_simp; refine hK _ ?_; clear hK K
          refine ords_pure rfl (fun K hK => ?_); go_simp; refine hK _ ?_; clear hK K
          refine ords_read rfl (fun K hK => ?_); go_simp; refine hK _ ?_; clear hK K
          refine ords_pure rfl (fun K hK => ?_); go_simp; refine hK _ ?_; clear hK K
          refine ords_end (fun n1 => ?_)
          go_wp2_with fail
          go_roundw
          case rel => exact ⟨j + 1, by omega, by go_num, N0.out.drewN _, bdr N4.out _⟩
          case measure => simp [intOf]; omega
        · obtain rfl : j = k := by omega
          go_wp2_with fail
          go_roundw
          case rel => exact ⟨j + 1, by omega, by go_num, N0.out, N4.out⟩
          case measure => simp [intOf]; omega
    · obtain rfl : k = 4 := by omega
      go_wp2_with fail
      exact bodyPost_ret (results_tmp rfl _ _ _) rfl ⟨rfl, N4.out⟩
end Go.Proofs.YtgephdbicbmpeaaGreat

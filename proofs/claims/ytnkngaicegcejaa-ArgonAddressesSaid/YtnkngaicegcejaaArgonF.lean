/-
  Refer, of the reference. Contracts alone; no statement is claimed here.
-/
import Derived.Test.YtnkngaicegcejaaArgonE
namespace Go.Proofs.Ytnkngaicegcejaa
open Go.RowKit
attribute [local go_sem] pureUpon Ords.of

set_option maxRecDepth 10000 in
set_option maxHeartbeats 4000000 in
theorem referR_any (a : Ar) (p s l x : Int) (j : UInt64) (w : World) :
    Calls Try.prog 28 #[a.v, .int .i64 p, .int .i64 s, .int .i64 l, .int .i64 x, .int .u64 (wrd j)] w fun e w' => e = .returned (.tuple #[.int .i64 (ansL a p s l x j), .int .i64 (ansZ a p s l x j), .int .i64 (ansE a p s l x)]) ∧ Below w.heap.size w w' := by
  have hm := fun w => valid_any a w
  have hsg := fun (h : a.ok) w => refSegment_any h w
  have hrf := fun (h : a.ok) (hb : ¬ spotBad a p s l x) => known h j hb
  obtain ⟨rL, hL⟩ : ∃ r, r = ansL a p s l x j := ⟨_, rfl⟩
  obtain ⟨rZ, hZ⟩ : ∃ r, r = ansZ a p s l x j := ⟨_, rfl⟩
  obtain ⟨rE, hE⟩ : ∃ r, r = ansE a p s l x := ⟨_, rfl⟩
  rw [← hL, ← hZ, ← hE]
  unfold ansL at hL
  unfold ansZ at hZ
  unfold ansE at hE
  obtain ⟨H, hH⟩ : ∃ H, H = w.heap.size := ⟨_, rfl⟩
  rw [← hH]
  by_cases h : a.ok
  · simp only [if_pos h] at hm
    have hsg := hsg h
    have hrf := hrf h
    simp only [h, true_and, if_true] at hL hZ hE
    obtain ⟨B, hB⟩ : ∃ B, B = decide (spotBad a p s l x) := ⟨_, rfl⟩
    have HBB := Lib.hid hB
    have bad : spotBad a p s l x ↔ (p < 0 ∨ a.passes ≤ p ∨ s < 0 ∨ 3 < s ∨ l < 0 ∨ a.lanes ≤ l ∨ x < 0 ∨ a.seg ≤ x ∨ (p = 0 ∧ s = 0 ∧ x < 2)) := Iff.rfl
    obtain ⟨g, hg⟩ : ∃ g, g = a.seg := ⟨_, rfl⟩
    rw [← hg] at bad hsg
    have HG := Lib.hid hg; clear h hg
    obtain ⟨kk, m, pp, ll, t⟩ := a
    unfold Ar.v at *
    dsimp only at bad
    have HM := Lib.hid hm; have HS := Lib.hid hsg; have HR := Lib.hid hrf; have HL := Lib.hid hL; have HZ := Lib.hid hZ; have HE := Lib.hid hE; have BAD := Lib.hid bad
    clear hm hsg hrf hL hZ hE bad hB
    go_enter Try.func28, Try.ntmps28
    go_upto_region 1 with fail
    have HX : Blk (w.alloc (.cells #[.int .i64 kk, .int .i64 m, .int .i64 pp, .int .i64 ll, .int .i64 t] 49)) H 49 #[.int .i64 kk, .int .i64 m, .int .i64 pp, .int .i64 ll, .int .i64 t] := by rw [hH]; exact Blk.new _ _ _
    have hbw : Below H w (w.alloc (.cells #[.int .i64 kk, .int .i64 m, .int .i64 pp, .int .i64 ll, .int .i64 t] 49)) := (Below.refl _ _).alloc (by omega) _
    rw [← hH]
    have HH := Lib.hid hH; clear hH
    generalize w.alloc (.cells #[.int .i64 kk, .int .i64 m, .int .i64 pp, .int .i64 ll, .int .i64 t] 49) = w0 at *
    have HX := Lib.hid HX
    have c0 : w0.cell? ⟨H, 0, none⟩ = some (.int .i64 kk) := HX.out.cell 0; have c1 : w0.cell? ⟨H, 1, none⟩ = some (.int .i64 m) := HX.out.cell 1; have c2 : w0.cell? ⟨H, 2, none⟩ = some (.int .i64 pp) := HX.out.cell 2; have c3 : w0.cell? ⟨H, 3, none⟩ = some (.int .i64 ll) := HX.out.cell 3; have c4 : w0.cell? ⟨H, 4, none⟩ = some (.int .i64 t) := HX.out.cell 4
    go_upto_region 5 with (first
      | (go_at_call 57; refine (HM.out _).mono ?_; rintro e w1 ⟨rfl, hb1⟩; have HY := HX.out.below hb1 HX.out.lt; have hbw1 := hbw.trans (hb1.mono (Nat.le_of_lt HX.out.lt)); have d0 : w1.cell? ⟨H, 0, none⟩ = some (.int .i64 kk) := HY.cell 0; have d1 : w1.cell? ⟨H, 1, none⟩ = some (.int .i64 m) := HY.cell 1; have d2 : w1.cell? ⟨H, 2, none⟩ = some (.int .i64 pp) := HY.cell 2; have d3 : w1.cell? ⟨H, 3, none⟩ = some (.int .i64 ll) := HY.cell 3; have d4 : w1.cell? ⟨H, 4, none⟩ = some (.int .i64 t) := HY.cell 4; have HY := Lib.hid HY; clear hb1)
      | (go_at_call 58; refine (HS.out _).mono ?_; rintro e w2 ⟨rfl, hb2⟩; have HW := HY.out.below hb2 HY.out.lt; have hbw2 := hbw1.trans (hb2.mono (Nat.le_of_lt HY.out.lt)); have e0 : w2.cell? ⟨H, 0, none⟩ = some (.int .i64 kk) := HW.cell 0; have e1 : w2.cell? ⟨H, 1, none⟩ = some (.int .i64 m) := HW.cell 1; have e2 : w2.cell? ⟨H, 2, none⟩ = some (.int .i64 pp) := HW.cell 2; have e3 : w2.cell? ⟨H, 3, none⟩ = some (.int .i64 ll) := HW.cell 3; have e4 : w2.cell? ⟨H, 4, none⟩ = some (.int .i64 t) := HW.cell 4; have HW := Lib.hid HW; clear hb2))
    go_cut [1, 2, 77] from 31 to 77 (fun b1 b2 u wx => b1 = .int .i64 p ∧ b2 = .int .i64 s ∧ u = .bool B ∧ wx = w2)
    case first =>
      go_wp2_with fail
      all_goals go_meet
      all_goals refine ⟨by first | rfl | exact congrArg _ (by omega), by first | rfl | exact congrArg _ (by omega), ?_, rfl⟩
      all_goals first
        | (have hbd := BAD.out
           rw [HBB.out]
           refine congrArg Value.bool ?_
           rw [Bool.eq_iff_iff]
           simp only [Bool.or_eq_true, decide_eq_true_eq]
           rw [hbd]
           omega)
        | (have hbd := BAD.out
           rw [HBB.out]
           exact congrArg Value.bool (decide_eq_true (hbd.2 (by omega))).symm)
    case rest =>
      obtain ⟨rfl, rfl, rfl, rfl⟩ := hcut
      by_cases hbad : spotBad ⟨kk, m, pp, ll, t⟩ p s l x
      · have hB : B = true := by rw [HBB.out]; exact decide_eq_true hbad
        subst hB
        go_wp2
        refine bodyPost_ret (results_tmp3 rfl _ _ _) rfl ⟨?_, hbw2⟩
        have hL := HL.out; have hZ := HZ.out; have hE := HE.out
        rw [if_neg (by simpa using hbad)] at hL hZ
        rw [if_pos hbad] at hE
        rw [hL, hZ, hE]; rfl
      · have hB : B = false := by rw [HBB.out]; exact decide_eq_false hbad
        subst hB
        have HNB := Lib.hid hbad; clear hbad
        obtain ⟨v, o, oo, W, S, A, q, K⟩ := HR.out HNB.out
        have hL := HL.out; have hZ := HZ.out; have hE := HE.out
        rw [if_pos HNB.out] at hL hZ
        rw [if_neg HNB.out] at hE
        have KL := K.L_
        have KA := K.A_
        rw [← hL] at KL KA
        rw [← hZ] at K
        clear hL hZ HL HZ
        have HE := Lib.hid hE; clear hE
        rw [← HG.out] at K
        have KLx := Lib.hid KL; have KAx := Lib.hid KA; clear KL KA
        have g2 := K.g2; have g1024 := K.g1024; have l1 := K.l1; have l8 := K.l8; have s0 := K.s0; have s3 := K.s3
        obtain ⟨n0, n1⟩ := K.lane
        have x0 := K.x0; have xg := K.xg; have v0 := K.v0; have v8 := K.v8; have vt := K.vt; have ve := K.ve
        have sg0 := K.sg0; have sg1 := K.sg1
        have sg2 : 0 ≤ (s + 1) * g ∧ (s + 1) * g ≤ 4 * g := by have := K.sg2; omega
        obtain ⟨sg2, sg3⟩ := sg2
        have fl : IntKind.u64.wrap ll = ll := by rw [wrap_u64]; omega
        have b3 := K.o0; have b4 := K.o1
        have f1 : (wrd j).tmod 4294967296 = o := by rw [mod_lo, K.lo_]
        have f1' : (wrd j) % 4294967296 = o := by rw [← K.lo_]; unfold wrd lo; omega
        have f2 := K.ow
        have f3 := K.oo_
        have K' := Lib.hid K; clear K
        have p0 : 0 ≤ p := by have := HNB.out; unfold spotBad at this; omega
        have cases : (p = 0 ∧ s = 0) ∨ (p = 0 ∧ s ≠ 0) ∨ (p ≠ 0 ∧ s = 3) ∨ (p ≠ 0 ∧ s ≠ 3) := by omega
        rcases cases with ⟨hp, hs⟩ | ⟨hp, hs⟩ | ⟨hp, hs⟩ | ⟨hp, hs⟩
        all_goals go_upto_if 104 with fail
        · go_cut [20] from 102 to 112 (fun u wx => u = .int .i64 A ∧ wx = wc)
          case first =>
            go_wp2_with fail
            all_goals go_meet
            all_goals refine ⟨congrArg _ ?_, rfl⟩
            all_goals have hA := KAx.out
            all_goals have hL := KLx.out
            all_goals have hW := K'.out.W_
            all_goals (try simp only [beq_iff_eq, beq_eq_false_iff_ne, ne_eq] at *)
            all_goals have hz : s = 0 → s * g = 0 := fun h => by rw [h]; omega
            all_goals unfold areaOf at hA
            all_goals split at hL <;> split at hW <;> split at hA <;> (try split at hA) <;> omega
          case rest =>
          obtain ⟨rfl, rfl⟩ := hcut
          have f2 := K'.out.ow
          have f3 := K'.out.oo_
          have f4 := K'.out.aw
          have f5 := K'.out.q_
          have b1 := K'.out.A1; have b2 := K'.out.A2; have b3 := K'.out.o0; have b4 := K'.out.o1; have b5 := K'.out.oo0; have b6 := K'.out.oo1; have b7 := K'.out.q0; have b8 := K'.out.q1; have b9 := K'.out.Z0; have b10 := K'.out.Z1
          have f6 := K'.out.Zt
          have f8 := K'.out.S_
          rw [if_pos (by omega)] at f8
          rw [f8, Int.zero_add] at f6
          clear f8
          have f7 : IntKind.u64.wrap A = A := by rw [wrap_u64]; omega
          have fz : ¬ 4 * g = 0 := by omega
          have wr : ∀ n : Int, 0 ≤ n → n ≤ 100000 → IntKind.i64.wrap n = n := fun n h0 h1 => by simp [IntKind.wrap, IntKind.bits, IntKind.signed]; omega
          have w1 : IntKind.i64.wrap (A) = A := wr _ (by omega) (by omega)
          have w2 : IntKind.i64.wrap (A - 1) = A - 1 := wr _ (by omega) (by omega)
          have w3 : IntKind.i64.wrap (A - 1 - q) = A - 1 - q := wr _ (by omega) (by omega)
          clear wr
          have fw : IntKind.i64.wrap (4 * g) = 4 * g := by simp [IntKind.wrap, IntKind.bits, IntKind.signed]; omega
          go_upto_region 23 with fail
          refine wp_region_ords (fun _ => True) (fun _ _ h => h) (Ords.of [(0, 0), (0, 1), (0, 2), (0, 3), (0, 4), (0, 5), (0, 6), (0, 7), (0, 8), (0, 9), (0, 10), (0, 11), (0, 12)] .fin) (by kernel_rfl) rfl (by kernel_rfl) (by kernel_rfl) (fun c a d v w h => by cases d <;> exact h) trivial ?_
          refine ords_pure rfl (fun K hK => ?_); go_simp; refine hK _ ?_; clear hK K
          refine ords_pure rfl (fun K hK => ?_); go_simp; refine hK _ ?_; clear hK K
          refine ords_pure rfl (fun K hK => ?_); go_simp; refine hK _ ?_; clear hK K
          refine ords_pure rfl (fun K hK => ?_); go_simp; refine hK _ ?_; clear hK K
          refine ords_pure rfl (fun K hK => ?_); go_simp; refine hK _ ?_; clear hK K
          refine ords_pure rfl (fun K hK => ?_); go_simp; refine hK _ ?_; clear hK K
          refine ords_pure rfl (fun K hK => ?_); go_simp; refine hK _ ?_; clear hK K
          refine ords_pure rfl (fun K hK => ?_); go_simp; refine hK _ ?_; clear hK K
          refine ords_pure rfl (fun K hK => ?_); go_simp; refine hK _ ?_; clear hK K
          refine ords_pure rfl (fun K hK => ?_); go_simp; refine hK _ ?_; clear hK K
          refine ords_pure rfl (fun K hK => ?_); go_simp; refine hK _ ?_; clear hK K
          refine ords_pure rfl (fun K hK => ?_); go_simp; refine hK _ ?_; clear hK K
          refine ords_pure rfl (fun K hK => ?_); go_simp; refine hK _ ?_; clear hK K
          refine ords_end (fun n2 => ?_)
          go_wp2
          refine bodyPost_ret (results_tmp3 rfl _ _ _) rfl ⟨?_, below_drewN hbw2 n2⟩
          have hL := KLx.out
          rw [if_pos (by omega)] at hL
          rw [hL, HE.out]; rfl
        · go_cut [20] from 102 to 112 (fun u wx => u = .int .i64 A ∧ wx = wc)
          case first =>
            go_wp2_with fail
            all_goals go_meet
            all_goals refine ⟨congrArg _ ?_, rfl⟩
            all_goals have hA := KAx.out
            all_goals have hL := KLx.out
            all_goals have hW := K'.out.W_
            all_goals (try simp only [beq_iff_eq, beq_eq_false_iff_ne, ne_eq] at *)
            all_goals have hz : s = 0 → s * g = 0 := fun h => by rw [h]; omega
            all_goals unfold areaOf at hA
            all_goals split at hL <;> split at hW <;> split at hA <;> (try split at hA) <;> omega
          case rest =>
          obtain ⟨rfl, rfl⟩ := hcut
          have f2 := K'.out.ow
          have f3 := K'.out.oo_
          have f4 := K'.out.aw
          have f5 := K'.out.q_
          have b1 := K'.out.A1; have b2 := K'.out.A2; have b3 := K'.out.o0; have b4 := K'.out.o1; have b5 := K'.out.oo0; have b6 := K'.out.oo1; have b7 := K'.out.q0; have b8 := K'.out.q1; have b9 := K'.out.Z0; have b10 := K'.out.Z1
          have f6 := K'.out.Zt
          have f8 := K'.out.S_
          rw [if_pos (by omega)] at f8
          rw [f8, Int.zero_add] at f6
          clear f8
          have f7 : IntKind.u64.wrap A = A := by rw [wrap_u64]; omega
          have fz : ¬ 4 * g = 0 := by omega
          have wr : ∀ n : Int, 0 ≤ n → n ≤ 100000 → IntKind.i64.wrap n = n := fun n h0 h1 => by simp [IntKind.wrap, IntKind.bits, IntKind.signed]; omega
          have w1 : IntKind.i64.wrap (A) = A := wr _ (by omega) (by omega)
          have w2 : IntKind.i64.wrap (A - 1) = A - 1 := wr _ (by omega) (by omega)
          have w3 : IntKind.i64.wrap (A - 1 - q) = A - 1 - q := wr _ (by omega) (by omega)
          clear wr
          have fw : IntKind.i64.wrap (4 * g) = 4 * g := by simp [IntKind.wrap, IntKind.bits, IntKind.signed]; omega
          go_upto_region 23 with fail
          refine wp_region_ords (fun _ => True) (fun _ _ h => h) (Ords.of [(0, 0), (0, 1), (0, 2), (0, 3), (0, 4), (0, 5), (0, 6), (0, 7), (0, 8), (0, 9), (0, 10), (0, 11), (0, 12)] .fin) (by kernel_rfl) rfl (by kernel_rfl) (by kernel_rfl) (fun c a d v w h => by cases d <;> exact h) trivial ?_
          refine ords_pure rfl (fun K hK => ?_); go_simp; refine hK _ ?_; clear hK K
          refine ords_pure rfl (fun K hK => ?_); go_simp; refine hK _ ?_; clear hK K
          refine ords_pure rfl (fun K hK => ?_); go_simp; refine hK _ ?_; clear hK K
          refine ords_pure rfl (fun K hK => ?_); go_simp; refine hK _ ?_; clear hK K
          refine ords_pure rfl (fun K hK => ?_); go_simp; refine hK _ ?_; clear hK K
          refine ords_pure rfl (fun K hK => ?_); go_simp; refine hK _ ?_; clear hK K
          refine ords_pure rfl (fun K hK => ?_); go_simp; refine hK _ ?_; clear hK K
          refine ords_pure rfl (fun K hK => ?_); go_simp; refine hK _ ?_; clear hK K
          refine ords_pure rfl (fun K hK => ?_); go_simp; refine hK _ ?_; clear hK K
          refine ords_pure rfl (fun K hK => ?_); go_simp; refine hK _ ?_; clear hK K
          refine ords_pure rfl (fun K hK => ?_); go_simp; refine hK _ ?_; clear hK K
          refine ords_pure rfl (fun K hK => ?_); go_simp; refine hK _ ?_; clear hK K
          refine ords_pure rfl (fun K hK => ?_); go_simp; refine hK _ ?_; clear hK K
          refine ords_end (fun n2 => ?_)
          go_wp2
          refine bodyPost_ret (results_tmp3 rfl _ _ _) rfl ⟨?_, below_drewN hbw2 n2⟩
          have hL := KLx.out
          rw [if_neg (by omega)] at hL
          rw [hL, HE.out]; rfl
        · go_cut [20] from 102 to 112 (fun u wx => u = .int .i64 A ∧ wx = wc)
          case first =>
            go_wp2_with fail
            all_goals go_meet
            all_goals refine ⟨congrArg _ ?_, rfl⟩
            all_goals have hA := KAx.out
            all_goals have hL := KLx.out
            all_goals have hW := K'.out.W_
            all_goals (try simp only [beq_iff_eq, beq_eq_false_iff_ne, ne_eq] at *)
            all_goals have hz : s = 0 → s * g = 0 := fun h => by rw [h]; omega
            all_goals unfold areaOf at hA
            all_goals split at hL <;> split at hW <;> split at hA <;> (try split at hA) <;> omega
          case rest =>
          obtain ⟨rfl, rfl⟩ := hcut
          have f2 := K'.out.ow
          have f3 := K'.out.oo_
          have f4 := K'.out.aw
          have f5 := K'.out.q_
          have b1 := K'.out.A1; have b2 := K'.out.A2; have b3 := K'.out.o0; have b4 := K'.out.o1; have b5 := K'.out.oo0; have b6 := K'.out.oo1; have b7 := K'.out.q0; have b8 := K'.out.q1; have b9 := K'.out.Z0; have b10 := K'.out.Z1
          have f6 := K'.out.Zt
          have f8 := K'.out.S_
          rw [if_pos (by omega)] at f8
          rw [f8, Int.zero_add] at f6
          clear f8
          have f7 : IntKind.u64.wrap A = A := by rw [wrap_u64]; omega
          have fz : ¬ 4 * g = 0 := by omega
          have wr : ∀ n : Int, 0 ≤ n → n ≤ 100000 → IntKind.i64.wrap n = n := fun n h0 h1 => by simp [IntKind.wrap, IntKind.bits, IntKind.signed]; omega
          have w1 : IntKind.i64.wrap (A) = A := wr _ (by omega) (by omega)
          have w2 : IntKind.i64.wrap (A - 1) = A - 1 := wr _ (by omega) (by omega)
          have w3 : IntKind.i64.wrap (A - 1 - q) = A - 1 - q := wr _ (by omega) (by omega)
          clear wr
          have fw : IntKind.i64.wrap (4 * g) = 4 * g := by simp [IntKind.wrap, IntKind.bits, IntKind.signed]; omega
          go_upto_region 23 with fail
          refine wp_region_ords (fun _ => True) (fun _ _ h => h) (Ords.of [(0, 0), (0, 1), (0, 2), (0, 3), (0, 4), (0, 5), (0, 6), (0, 7), (0, 8), (0, 9), (0, 10), (0, 11), (0, 12)] .fin) (by kernel_rfl) rfl (by kernel_rfl) (by kernel_rfl) (fun c a d v w h => by cases d <;> exact h) trivial ?_
          refine ords_pure rfl (fun K hK => ?_); go_simp; refine hK _ ?_; clear hK K
          refine ords_pure rfl (fun K hK => ?_); go_simp; refine hK _ ?_; clear hK K
          refine ords_pure rfl (fun K hK => ?_); go_simp; refine hK _ ?_; clear hK K
          refine ords_pure rfl (fun K hK => ?_); go_simp; refine hK _ ?_; clear hK K
          refine ords_pure rfl (fun K hK => ?_); go_simp; refine hK _ ?_; clear hK K
          refine ords_pure rfl (fun K hK => ?_); go_simp; refine hK _ ?_; clear hK K
          refine ords_pure rfl (fun K hK => ?_); go_simp; refine hK _ ?_; clear hK K
          refine ords_pure rfl (fun K hK => ?_); go_simp; refine hK _ ?_; clear hK K
          refine ords_pure rfl (fun K hK => ?_); go_simp; refine hK _ ?_; clear hK K
          refine ords_pure rfl (fun K hK => ?_); go_simp; refine hK _ ?_; clear hK K
          refine ords_pure rfl (fun K hK => ?_); go_simp; refine hK _ ?_; clear hK K
          refine ords_pure rfl (fun K hK => ?_); go_simp; refine hK _ ?_; clear hK K
          refine ords_pure rfl (fun K hK => ?_); go_simp; refine hK _ ?_; clear hK K
          refine ords_end (fun n2 => ?_)
          go_wp2
          refine bodyPost_ret (results_tmp3 rfl _ _ _) rfl ⟨?_, below_drewN hbw2 n2⟩
          have hL := KLx.out
          rw [if_neg (by omega)] at hL
          rw [hL, HE.out]; rfl
        · go_cut [20] from 102 to 112 (fun u wx => u = .int .i64 A ∧ wx = wc)
          case first =>
            go_wp2_with fail
            all_goals go_meet
            all_goals refine ⟨congrArg _ ?_, rfl⟩
            all_goals have hA := KAx.out
            all_goals have hL := KLx.out
            all_goals have hW := K'.out.W_
            all_goals (try simp only [beq_iff_eq, beq_eq_false_iff_ne, ne_eq] at *)
            all_goals have hz : s = 0 → s * g = 0 := fun h => by rw [h]; omega
            all_goals unfold areaOf at hA
            all_goals split at hL <;> split at hW <;> split at hA <;> (try split at hA) <;> omega
          case rest =>
          obtain ⟨rfl, rfl⟩ := hcut
          have f2 := K'.out.ow
          have f3 := K'.out.oo_
          have f4 := K'.out.aw
          have f5 := K'.out.q_
          have b1 := K'.out.A1; have b2 := K'.out.A2; have b3 := K'.out.o0; have b4 := K'.out.o1; have b5 := K'.out.oo0; have b6 := K'.out.oo1; have b7 := K'.out.q0; have b8 := K'.out.q1; have b9 := K'.out.Z0; have b10 := K'.out.Z1
          have f6 := K'.out.Zt
          have f8 := K'.out.S_
          rw [if_neg (by omega)] at f8
          rw [f8] at f6
          clear f8
          have f7 : IntKind.u64.wrap A = A := by rw [wrap_u64]; omega
          have fz : ¬ 4 * g = 0 := by omega
          have wr : ∀ n : Int, 0 ≤ n → n ≤ 100000 → IntKind.i64.wrap n = n := fun n h0 h1 => by simp [IntKind.wrap, IntKind.bits, IntKind.signed]; omega
          have w1 : IntKind.i64.wrap ((s + 1) * g + A) = (s + 1) * g + A := wr _ (by omega) (by omega)
          have w2 : IntKind.i64.wrap ((s + 1) * g + A - 1) = (s + 1) * g + A - 1 := wr _ (by omega) (by omega)
          have w3 : IntKind.i64.wrap ((s + 1) * g + A - 1 - q) = (s + 1) * g + A - 1 - q := wr _ (by omega) (by omega)
          clear wr
          have fw : IntKind.i64.wrap (4 * g) = 4 * g := by simp [IntKind.wrap, IntKind.bits, IntKind.signed]; omega
          go_upto_region 23 with fail
          refine wp_region_ords (fun _ => True) (fun _ _ h => h) (Ords.of [(0, 0), (0, 1), (0, 2), (0, 3), (0, 4), (0, 5), (0, 6), (0, 7), (0, 8), (0, 9), (0, 10), (0, 11), (0, 12)] .fin) (by kernel_rfl) rfl (by kernel_rfl) (by kernel_rfl) (fun c a d v w h => by cases d <;> exact h) trivial ?_
          refine ords_pure rfl (fun K hK => ?_); go_simp; refine hK _ ?_; clear hK K
          refine ords_pure rfl (fun K hK => ?_); go_simp; refine hK _ ?_; clear hK K
          refine ords_pure rfl (fun K hK => ?_); go_simp; refine hK _ ?_; clear hK K
          refine ords_pure rfl (fun K hK => ?_); go_simp; refine hK _ ?_; clear hK K
          refine ords_pure rfl (fun K hK => ?_); go_simp; refine hK _ ?_; clear hK K
          refine ords_pure rfl (fun K hK => ?_); go_simp; refine hK _ ?_; clear hK K
          refine ords_pure rfl (fun K hK => ?_); go_simp; refine hK _ ?_; clear hK K
          refine ords_pure rfl (fun K hK => ?_); go_simp; refine hK _ ?_; clear hK K
          refine ords_pure rfl (fun K hK => ?_); go_simp; refine hK _ ?_; clear hK K
          refine ords_pure rfl (fun K hK => ?_); go_simp; refine hK _ ?_; clear hK K
          refine ords_pure rfl (fun K hK => ?_); go_simp; refine hK _ ?_; clear hK K
          refine ords_pure rfl (fun K hK => ?_); go_simp; refine hK _ ?_; clear hK K
          refine ords_pure rfl (fun K hK => ?_); go_simp; refine hK _ ?_; clear hK K
          refine ords_end (fun n2 => ?_)
          go_wp2
          refine bodyPost_ret (results_tmp3 rfl _ _ _) rfl ⟨?_, below_drewN hbw2 n2⟩
          have hL := KLx.out
          rw [if_neg (by omega)] at hL
          rw [hL, HE.out]; rfl
  · simp only [if_neg h] at hm
    obtain ⟨kk, m, pp, ll, t⟩ := a
    unfold Ar.v at *
    have HM := Lib.hid hm
    have HL := Lib.hid hL; have HZ := Lib.hid hZ; have HE := Lib.hid hE; have HN := Lib.hid h
    clear hm hsg hrf hL hZ hE h
    go_enter Try.func28, Try.ntmps28
    go_wp2_with (go_at_call 57; refine (HM.out _).mono ?_; rintro e w1 ⟨rfl, hb1⟩)
    refine bodyPost_ret (results_tmp3 rfl _ _ _) rfl ⟨?_, ?_⟩
    · have hL := HL.out; have hZ := HZ.out; have hE := HE.out
      rw [if_neg (fun h => HN.out h.1)] at hL hZ
      rw [if_neg HN.out] at hE
      rw [hL, hZ, hE]; rfl
    · rw [hH]
      exact ((Below.refl _ _).alloc (Nat.le_refl _) _).trans (hb1.mono (by simp))
end Go.Proofs.Ytnkngaicegcejaa

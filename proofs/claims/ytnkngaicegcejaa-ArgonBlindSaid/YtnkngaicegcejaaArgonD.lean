/-
  The reference block, walked: the program. Contracts alone; no statement is claimed here.
-/
import Derived.Test.YtnkngaicegcejaaArgonC
namespace Go.Proofs.Ytnkngaicegcejaa
open Go.RowKit
attribute [local go_sem] pureUpon Ords.of

theorem pure_load_rowA {P : Program} {o : Oper} {a : Act} {w : World} (ty : TypeId) (x : Operand) (ho : o.op = .load ty x)
    (g : Nat) (hx : a.eval x = .pointer (some ⟨g, 0, none⟩)) (t : TypeId) (cs : Array Value) (fr : Nat × Nat) (d : TypeDesc) (hg : w.heap[g]? = some (.cells cs t fr))
    (hu : P.underlying ty = some d) (hd : (match d with | .struct _ | .array _ _ => true | _ => false) = true) (hi : (P.info? ty).map (·.size) = some cs.size) :
    pureUpon w (.agg cs) ((execOp a.eval o).run P w) := by
  unfold execOp
  simp only [ho, hx, Instr.loadAt, Instr.sureAddr, Sem.run_bind, Sem.run_pure, Result.andThen_ok, run_loadVar_row w g t ty cs fr d hg hu hd hi]
  exact ⟨rfl, rfl⟩

set_option maxRecDepth 10000 in
set_option maxHeartbeats 4000000 in
theorem refer_any {a : Ar} (h : a.ok) {p s l x : Int} (j : UInt64) (hb : ¬ spotBad a p s l x) (w : World) :
    Calls Try.prog 56 #[a.v, .int .i64 p, .int .i64 s, .int .i64 l, .int .i64 x, .int .u64 (wrd j)] w fun e w' => e = .returned (.tuple #[.int .i64 (refL a p s l j), .int .i64 (refZ a p s l x j)]) ∧ Below w.heap.size w w' := by
  obtain ⟨v, o, oo, W, S, A, q, K⟩ := known h j hb
  have hs := fun w => segment_any h w
  have hc := fun w => columns_any h w
  clear hb h
  generalize refZ a p s l x j = Z at *
  have KL := K.L_
  have KA := K.A_
  generalize refL a p s l j = L at *
  generalize a.seg = g at *
  obtain ⟨kk, m, pp, ll, t⟩ := a
  unfold Ar.v at *
  dsimp only at *
  have HS := Lib.hid hs; have HC := Lib.hid hc; clear hs hc
  have HL := Lib.hid KL; have HA := Lib.hid KA; clear KL KA
  have g2 := K.g2; have g1024 := K.g1024; have l1 := K.l1; have l8 := K.l8; have s0 := K.s0; have s3 := K.s3
  obtain ⟨n0, n1⟩ := K.lane
  have x0 := K.x0; have xg := K.xg; have v0 := K.v0; have v8 := K.v8; have vt := K.vt; have ve := K.ve
  have sg0 := K.sg0; have sg1 := K.sg1
  have sg2 : 0 ≤ (s + 1) * g ∧ (s + 1) * g ≤ 4 * g := by have := K.sg2; omega
  obtain ⟨sg2, sg3⟩ := sg2
  have fl : IntKind.u64.wrap ll = ll := by rw [wrap_u64]; omega
  have K' := Lib.hid K; clear K
  obtain ⟨H, hH⟩ : ∃ H, H = w.heap.size := ⟨_, rfl⟩
  rw [← hH]
  go_enter Try.func56, Try.ntmps56
  go_upto_region 1 with fail
  have HX : Blk (w.alloc (.cells #[.int .i64 kk, .int .i64 m, .int .i64 pp, .int .i64 ll, .int .i64 t] 49)) H 49 #[.int .i64 kk, .int .i64 m, .int .i64 pp, .int .i64 ll, .int .i64 t] := by rw [hH]; exact Blk.new _ _ _
  have hbw : Below H w (w.alloc (.cells #[.int .i64 kk, .int .i64 m, .int .i64 pp, .int .i64 ll, .int .i64 t] 49)) := (Below.refl _ _).alloc (by omega) _
  rw [← hH]
  have HH := Lib.hid hH; clear hH
  generalize w.alloc (.cells #[.int .i64 kk, .int .i64 m, .int .i64 pp, .int .i64 ll, .int .i64 t] 49) = w0 at *
  have HX := Lib.hid HX
  have c3 : w0.cell? ⟨H, 3, none⟩ = some (.int .i64 ll) := HX.out.cell 3
  have c0 : w0.cell? ⟨H, 0, none⟩ = some (.int .i64 kk) := HX.out.cell 0
  have c1 : w0.cell? ⟨H, 1, none⟩ = some (.int .i64 m) := HX.out.cell 1
  have c2 : w0.cell? ⟨H, 2, none⟩ = some (.int .i64 pp) := HX.out.cell 2
  have c4 : w0.cell? ⟨H, 4, none⟩ = some (.int .i64 t) := HX.out.cell 4
  have hu49 := Lib.hid Try.underlying49
  have hsz49 : (Try.prog.info? 49).map (·.size) = some (#[Value.int .i64 kk, .int .i64 m, .int .i64 pp, .int .i64 ll, .int .i64 t]).size := by kernel_rfl
  have cases : (p = 0 ∧ s = 0) ∨ (p = 0 ∧ s ≠ 0) ∨ (p ≠ 0 ∧ s = 3) ∨ (p ≠ 0 ∧ s ≠ 3) := by omega
  have HZ0 := Lib.hid sg0
  rcases cases with ⟨hp, hs⟩ | ⟨hp, hs⟩ | ⟨hp, hs⟩ | ⟨hp, hs⟩
  all_goals go_upto_if 57 with (go_at_call 55; refine (HS.out _).mono ?_; rintro e w1 ⟨rfl, hb1⟩; have HY := HX.out.below hb1 HX.out.lt; have d0 : w1.cell? ⟨H, 0, none⟩ = some (.int .i64 kk) := HY.cell 0; have d1 : w1.cell? ⟨H, 1, none⟩ = some (.int .i64 m) := HY.cell 1; have d2 : w1.cell? ⟨H, 2, none⟩ = some (.int .i64 pp) := HY.cell 2; have d3 : w1.cell? ⟨H, 3, none⟩ = some (.int .i64 ll) := HY.cell 3; have d4 : w1.cell? ⟨H, 4, none⟩ = some (.int .i64 t) := HY.cell 4; have HY := Lib.hid HY)
  · go_cut [18] from 58 to 65 (fun u wx => u = .int .i64 A ∧ wx = w1)
    case first =>
      go_wp2_with fail
      all_goals go_meet
      all_goals refine ⟨congrArg _ ?_, rfl⟩
      all_goals have hA := HA.out
      all_goals have hL := HL.out
      all_goals have hW := K'.out.W_
      all_goals (try simp only [beq_iff_eq, beq_eq_false_iff_ne, ne_eq] at *)
      all_goals have hz : s = 0 → s * g = 0 := fun h => by rw [h]; omega
      all_goals unfold areaOf at hA
      all_goals split at hL <;> split at hW <;> split at hA <;> (try split at hA) <;> omega
    case rest =>
      obtain ⟨rfl, rfl⟩ := hcut
      have f1 : bits .and .u64 (wrd j) 4294967295 = o := by rw [and_lo, K'.out.lo_]
      have f2 := K'.out.ow
      have f3 := K'.out.oo_
      have f4 := K'.out.aw
      have f5 := K'.out.q_
      have b1 := K'.out.A1; have b2 := K'.out.A2; have b3 := K'.out.o0; have b4 := K'.out.o1; have b5 := K'.out.oo0; have b6 := K'.out.oo1; have b7 := K'.out.q0; have b8 := K'.out.q1; have b9 := K'.out.Z0; have b10 := K'.out.Z1
      have f7 : IntKind.u64.wrap A = A := by rw [wrap_u64]; omega
      have f6 := K'.out.Zt
      have f8 := K'.out.S_
      rw [if_pos (by omega)] at f8
      rw [f8, Int.zero_add] at f6
      clear f8
      go_upto_region 18 with fail
      refine wp_region_ords (fun w' => Blk w' H 49 #[.int .i64 kk, .int .i64 m, .int .i64 pp, .int .i64 ll, .int .i64 t]) (fun _ n h => h.drewN n)
        (Ords.of [(0, 0), (0, 1), (0, 2), (0, 3), (0, 4), (0, 5), (0, 6), (0, 7), (0, 8)] (.one 2 9 (.one 0 10 (.one 0 11 (.one 0 12 .fin))))) (by kernel_rfl) rfl (by kernel_rfl) (by kernel_rfl) (fun c a d v w h => by cases d <;> exact h) HY.out ?_
      refine ords_pure rfl (fun K hK => ?_); go_simp; refine hK _ ?_; clear hK K
      refine ords_pure rfl (fun K hK => ?_); go_simp; refine hK _ ?_; clear hK K
      refine ords_pure rfl (fun K hK => ?_); go_simp; refine hK _ ?_; clear hK K
      refine ords_pure rfl (fun K hK => ?_); go_simp; refine hK _ ?_; clear hK K
      refine ords_pure rfl (fun K hK => ?_); go_simp; refine hK _ ?_; clear hK K
      refine ords_pure rfl (fun K hK => ?_); go_simp; refine hK _ ?_; clear hK K
      refine ords_pure rfl (fun K hK => ?_); go_simp; refine hK _ ?_; clear hK K
      refine ords_pure rfl (fun K hK => ?_); go_simp; refine hK _ ?_; clear hK K
      refine ords_held (v := .agg #[.int .i64 kk, .int .i64 m, .int .i64 pp, .int .i64 ll, .int .i64 t]) rfl rfl (fun w' hS => pure_load_rowA 49 _ rfl H rfl _ _ _ _ hS hu49.out rfl hsz49) ?_; go_simp
      refine ords_loud rfl (fun n1 => ?_)
      go_wp2_with (go_at_call 59; refine (HC.out _).mono ?_; rintro e w2 ⟨rfl, hb2⟩)
      have HY2 := (HY.out.drewN n1).below hb2 HY.out.lt
      refine ⟨HY2, ?_⟩
      have fz : ¬ 4 * g = 0 := by omega
      refine ords_pure rfl (fun K hK => ?_); go_simp; refine hK _ ?_; clear hK K
      refine ords_pure rfl (fun K hK => ?_); go_simp; refine hK _ ?_; clear hK K
      refine ords_pure rfl (fun K hK => ?_); go_simp; refine hK _ ?_; clear hK K
      refine ords_end (fun n2 => ?_)
      go_wp2
      refine bodyPost_ret (results_tmp2 rfl _ _ _) rfl ⟨?_, ?_⟩
      · have hL := HL.out
        rw [if_pos (by omega)] at hL
        rw [hL]; rfl
      · exact below_drewN (((hbw.trans (hb1.mono (Nat.le_of_lt HX.out.lt))).trans (below_drewN (Below.refl _ _) n1)).trans (hb2.mono (Nat.le_of_lt HY.out.lt))) n2
  · go_cut [18] from 58 to 65 (fun u wx => u = .int .i64 A ∧ wx = w1)
    case first =>
      go_wp2_with fail
      all_goals go_meet
      all_goals refine ⟨congrArg _ ?_, rfl⟩
      all_goals have hA := HA.out
      all_goals have hL := HL.out
      all_goals have hW := K'.out.W_
      all_goals (try simp only [beq_iff_eq, beq_eq_false_iff_ne, ne_eq] at *)
      all_goals have hz : s = 0 → s * g = 0 := fun h => by rw [h]; omega
      all_goals unfold areaOf at hA
      all_goals split at hL <;> split at hW <;> split at hA <;> (try split at hA) <;> omega
    case rest =>
      obtain ⟨rfl, rfl⟩ := hcut
      have f1 : bits .and .u64 (wrd j) 4294967295 = o := by rw [and_lo, K'.out.lo_]
      have f2 := K'.out.ow
      have f3 := K'.out.oo_
      have f4 := K'.out.aw
      have f5 := K'.out.q_
      have b1 := K'.out.A1; have b2 := K'.out.A2; have b3 := K'.out.o0; have b4 := K'.out.o1; have b5 := K'.out.oo0; have b6 := K'.out.oo1; have b7 := K'.out.q0; have b8 := K'.out.q1; have b9 := K'.out.Z0; have b10 := K'.out.Z1
      have f7 : IntKind.u64.wrap A = A := by rw [wrap_u64]; omega
      have f6 := K'.out.Zt
      have f8 := K'.out.S_
      rw [if_pos (by omega)] at f8
      rw [f8, Int.zero_add] at f6
      clear f8
      go_upto_region 18 with fail
      refine wp_region_ords (fun w' => Blk w' H 49 #[.int .i64 kk, .int .i64 m, .int .i64 pp, .int .i64 ll, .int .i64 t]) (fun _ n h => h.drewN n)
        (Ords.of [(0, 0), (0, 1), (0, 2), (0, 3), (0, 4), (0, 5), (0, 6), (0, 7), (0, 8)] (.one 2 9 (.one 0 10 (.one 0 11 (.one 0 12 .fin))))) (by kernel_rfl) rfl (by kernel_rfl) (by kernel_rfl) (fun c a d v w h => by cases d <;> exact h) HY.out ?_
      refine ords_pure rfl (fun K hK => ?_); go_simp; refine hK _ ?_; clear hK K
      refine ords_pure rfl (fun K hK => ?_); go_simp; refine hK _ ?_; clear hK K
      refine ords_pure rfl (fun K hK => ?_); go_simp; refine hK _ ?_; clear hK K
      refine ords_pure rfl (fun K hK => ?_); go_simp; refine hK _ ?_; clear hK K
      refine ords_pure rfl (fun K hK => ?_); go_simp; refine hK _ ?_; clear hK K
      refine ords_pure rfl (fun K hK => ?_); go_simp; refine hK _ ?_; clear hK K
      refine ords_pure rfl (fun K hK => ?_); go_simp; refine hK _ ?_; clear hK K
      refine ords_pure rfl (fun K hK => ?_); go_simp; refine hK _ ?_; clear hK K
      refine ords_held (v := .agg #[.int .i64 kk, .int .i64 m, .int .i64 pp, .int .i64 ll, .int .i64 t]) rfl rfl (fun w' hS => pure_load_rowA 49 _ rfl H rfl _ _ _ _ hS hu49.out rfl hsz49) ?_; go_simp
      refine ords_loud rfl (fun n1 => ?_)
      go_wp2_with (go_at_call 59; refine (HC.out _).mono ?_; rintro e w2 ⟨rfl, hb2⟩)
      have HY2 := (HY.out.drewN n1).below hb2 HY.out.lt
      refine ⟨HY2, ?_⟩
      have fz : ¬ 4 * g = 0 := by omega
      refine ords_pure rfl (fun K hK => ?_); go_simp; refine hK _ ?_; clear hK K
      refine ords_pure rfl (fun K hK => ?_); go_simp; refine hK _ ?_; clear hK K
      refine ords_pure rfl (fun K hK => ?_); go_simp; refine hK _ ?_; clear hK K
      refine ords_end (fun n2 => ?_)
      go_wp2
      refine bodyPost_ret (results_tmp2 rfl _ _ _) rfl ⟨?_, ?_⟩
      · have hL := HL.out
        rw [if_neg (by omega)] at hL
        rw [hL]; rfl
      · exact below_drewN (((hbw.trans (hb1.mono (Nat.le_of_lt HX.out.lt))).trans (below_drewN (Below.refl _ _) n1)).trans (hb2.mono (Nat.le_of_lt HY.out.lt))) n2
  · go_cut [18] from 58 to 65 (fun u wx => u = .int .i64 A ∧ wx = w1)
    case first =>
      go_wp2_with fail
      all_goals go_meet
      all_goals refine ⟨congrArg _ ?_, rfl⟩
      all_goals have hA := HA.out
      all_goals have hL := HL.out
      all_goals have hW := K'.out.W_
      all_goals (try simp only [beq_iff_eq, beq_eq_false_iff_ne, ne_eq] at *)
      all_goals have hz : s = 0 → s * g = 0 := fun h => by rw [h]; omega
      all_goals unfold areaOf at hA
      all_goals split at hL <;> split at hW <;> split at hA <;> (try split at hA) <;> omega
    case rest =>
      obtain ⟨rfl, rfl⟩ := hcut
      have f1 : bits .and .u64 (wrd j) 4294967295 = o := by rw [and_lo, K'.out.lo_]
      have f2 := K'.out.ow
      have f3 := K'.out.oo_
      have f4 := K'.out.aw
      have f5 := K'.out.q_
      have b1 := K'.out.A1; have b2 := K'.out.A2; have b3 := K'.out.o0; have b4 := K'.out.o1; have b5 := K'.out.oo0; have b6 := K'.out.oo1; have b7 := K'.out.q0; have b8 := K'.out.q1; have b9 := K'.out.Z0; have b10 := K'.out.Z1
      have f7 : IntKind.u64.wrap A = A := by rw [wrap_u64]; omega
      have f6 := K'.out.Zt
      have f8 := K'.out.S_
      rw [if_pos (by omega)] at f8
      rw [f8, Int.zero_add] at f6
      clear f8
      go_upto_region 18 with fail
      refine wp_region_ords (fun w' => Blk w' H 49 #[.int .i64 kk, .int .i64 m, .int .i64 pp, .int .i64 ll, .int .i64 t]) (fun _ n h => h.drewN n)
        (Ords.of [(0, 0), (0, 1), (0, 2), (0, 3), (0, 4), (0, 5), (0, 6), (0, 7), (0, 8)] (.one 2 9 (.one 0 10 (.one 0 11 (.one 0 12 .fin))))) (by kernel_rfl) rfl (by kernel_rfl) (by kernel_rfl) (fun c a d v w h => by cases d <;> exact h) HY.out ?_
      refine ords_pure rfl (fun K hK => ?_); go_simp; refine hK _ ?_; clear hK K
      refine ords_pure rfl (fun K hK => ?_); go_simp; refine hK _ ?_; clear hK K
      refine ords_pure rfl (fun K hK => ?_); go_simp; refine hK _ ?_; clear hK K
      refine ords_pure rfl (fun K hK => ?_); go_simp; refine hK _ ?_; clear hK K
      refine ords_pure rfl (fun K hK => ?_); go_simp; refine hK _ ?_; clear hK K
      refine ords_pure rfl (fun K hK => ?_); go_simp; refine hK _ ?_; clear hK K
      refine ords_pure rfl (fun K hK => ?_); go_simp; refine hK _ ?_; clear hK K
      refine ords_pure rfl (fun K hK => ?_); go_simp; refine hK _ ?_; clear hK K
      refine ords_held (v := .agg #[.int .i64 kk, .int .i64 m, .int .i64 pp, .int .i64 ll, .int .i64 t]) rfl rfl (fun w' hS => pure_load_rowA 49 _ rfl H rfl _ _ _ _ hS hu49.out rfl hsz49) ?_; go_simp
      refine ords_loud rfl (fun n1 => ?_)
      go_wp2_with (go_at_call 59; refine (HC.out _).mono ?_; rintro e w2 ⟨rfl, hb2⟩)
      have HY2 := (HY.out.drewN n1).below hb2 HY.out.lt
      refine ⟨HY2, ?_⟩
      have fz : ¬ 4 * g = 0 := by omega
      refine ords_pure rfl (fun K hK => ?_); go_simp; refine hK _ ?_; clear hK K
      refine ords_pure rfl (fun K hK => ?_); go_simp; refine hK _ ?_; clear hK K
      refine ords_pure rfl (fun K hK => ?_); go_simp; refine hK _ ?_; clear hK K
      refine ords_end (fun n2 => ?_)
      go_wp2
      refine bodyPost_ret (results_tmp2 rfl _ _ _) rfl ⟨?_, ?_⟩
      · have hL := HL.out
        rw [if_neg (by omega)] at hL
        rw [hL]; rfl
      · exact below_drewN (((hbw.trans (hb1.mono (Nat.le_of_lt HX.out.lt))).trans (below_drewN (Below.refl _ _) n1)).trans (hb2.mono (Nat.le_of_lt HY.out.lt))) n2
  · go_cut [18] from 58 to 65 (fun u wx => u = .int .i64 A ∧ wx = w1)
    case first =>
      go_wp2_with fail
      all_goals go_meet
      all_goals refine ⟨congrArg _ ?_, rfl⟩
      all_goals have hA := HA.out
      all_goals have hL := HL.out
      all_goals have hW := K'.out.W_
      all_goals (try simp only [beq_iff_eq, beq_eq_false_iff_ne, ne_eq] at *)
      all_goals have hz : s = 0 → s * g = 0 := fun h => by rw [h]; omega
      all_goals unfold areaOf at hA
      all_goals split at hL <;> split at hW <;> split at hA <;> (try split at hA) <;> omega
    case rest =>
      obtain ⟨rfl, rfl⟩ := hcut
      have f1 : bits .and .u64 (wrd j) 4294967295 = o := by rw [and_lo, K'.out.lo_]
      have f2 := K'.out.ow
      have f3 := K'.out.oo_
      have f4 := K'.out.aw
      have f5 := K'.out.q_
      have b1 := K'.out.A1; have b2 := K'.out.A2; have b3 := K'.out.o0; have b4 := K'.out.o1; have b5 := K'.out.oo0; have b6 := K'.out.oo1; have b7 := K'.out.q0; have b8 := K'.out.q1; have b9 := K'.out.Z0; have b10 := K'.out.Z1
      have f7 : IntKind.u64.wrap A = A := by rw [wrap_u64]; omega
      have f6 := K'.out.Zt
      have f8 := K'.out.S_
      rw [if_neg (by omega)] at f8
      rw [f8] at f6
      clear f8
      go_upto_region 18 with fail
      refine wp_region_ords (fun w' => Blk w' H 49 #[.int .i64 kk, .int .i64 m, .int .i64 pp, .int .i64 ll, .int .i64 t]) (fun _ n h => h.drewN n)
        (Ords.of [(0, 0), (0, 1), (0, 2), (0, 3), (0, 4), (0, 5), (0, 6), (0, 7), (0, 8)] (.one 2 9 (.one 0 10 (.one 0 11 (.one 0 12 .fin))))) (by kernel_rfl) rfl (by kernel_rfl) (by kernel_rfl) (fun c a d v w h => by cases d <;> exact h) HY.out ?_
      refine ords_pure rfl (fun K hK => ?_); go_simp; refine hK _ ?_; clear hK K
      refine ords_pure rfl (fun K hK => ?_); go_simp; refine hK _ ?_; clear hK K
      refine ords_pure rfl (fun K hK => ?_); go_simp; refine hK _ ?_; clear hK K
      refine ords_pure rfl (fun K hK => ?_); go_simp; refine hK _ ?_; clear hK K
      refine ords_pure rfl (fun K hK => ?_); go_simp; refine hK _ ?_; clear hK K
      refine ords_pure rfl (fun K hK => ?_); go_simp; refine hK _ ?_; clear hK K
      refine ords_pure rfl (fun K hK => ?_); go_simp; refine hK _ ?_; clear hK K
      refine ords_pure rfl (fun K hK => ?_); go_simp; refine hK _ ?_; clear hK K
      refine ords_held (v := .agg #[.int .i64 kk, .int .i64 m, .int .i64 pp, .int .i64 ll, .int .i64 t]) rfl rfl (fun w' hS => pure_load_rowA 49 _ rfl H rfl _ _ _ _ hS hu49.out rfl hsz49) ?_; go_simp
      refine ords_loud rfl (fun n1 => ?_)
      go_wp2_with (go_at_call 59; refine (HC.out _).mono ?_; rintro e w2 ⟨rfl, hb2⟩)
      have HY2 := (HY.out.drewN n1).below hb2 HY.out.lt
      refine ⟨HY2, ?_⟩
      have fz : ¬ 4 * g = 0 := by omega
      refine ords_pure rfl (fun K hK => ?_); go_simp; refine hK _ ?_; clear hK K
      refine ords_pure rfl (fun K hK => ?_); go_simp; refine hK _ ?_; clear hK K
      refine ords_pure rfl (fun K hK => ?_); go_simp; refine hK _ ?_; clear hK K
      refine ords_end (fun n2 => ?_)
      go_wp2
      refine bodyPost_ret (results_tmp2 rfl _ _ _) rfl ⟨?_, ?_⟩
      · have hL := HL.out
        rw [if_neg (by omega)] at hL
        rw [hL]; rfl
      · exact below_drewN (((hbw.trans (hb1.mono (Nat.le_of_lt HX.out.lt))).trans (below_drewN (Below.refl _ _) n1)).trans (hb2.mono (Nat.le_of_lt HY.out.lt))) n2
end Go.Proofs.Ytnkngaicegcejaa

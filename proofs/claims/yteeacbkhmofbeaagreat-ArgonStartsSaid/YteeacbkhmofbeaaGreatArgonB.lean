/-
  Segments, columns, by the program and by the reference. Contracts alone; no statement is claimed here.
-/
import Derived.Test.YteeacbkhmofbeaaGreatArgonA
namespace Go.Proofs.YteeacbkhmofbeaaGreat
open Go.RowKit

theorem segment_any {a : Ar} (h : a.ok) (w : World) : Calls Tryz.prog 75 #[a.v] w fun e w' => e = .returned (.int .i64 a.seg) ∧ Below w.heap.size w w' := by
  obtain ⟨h1, h2, e1, e2, e3⟩ := seg_range h
  unfold Ar.ok at h
  generalize hs : a.seg = s at *
  obtain ⟨k, m, p, l, t⟩ := a
  clear hs
  unfold Ar.v
  dsimp only at *
  obtain ⟨_, _, h3, h4, _⟩ := h
  have e4 : m / (4 * l) = s := by rw [← e2, Int.tdiv_eq_ediv_of_nonneg (by omega)]
  go_enter Tryz.func75, Tryz.ntmps75
  go_wp2
  exact bodyPost_ret (results_tmp rfl _ _ _) rfl ⟨rfl, (Below.refl _ _).alloc (Nat.le_refl _) _⟩

theorem columns_any {a : Ar} (h : a.ok) (w : World) : Calls Tryz.prog 46 #[a.v] w fun e w' => e = .returned (.int .i64 (4 * a.seg)) ∧ Below w.heap.size w w' := by
  obtain ⟨h1, h2, _⟩ := seg_range h
  have hs := fun w => segment_any h w
  generalize hs' : a.seg = s at *
  obtain ⟨k, m, p, l, t⟩ := a
  unfold Ar.v at *
  have HS := Lib.hid hs; clear hs hs' h
  go_enter Tryz.func46, Tryz.ntmps46
  go_wp2_with (go_at_call 75; refine (HS.out _).mono ?_; rintro e w1 ⟨rfl, hb1⟩)
  exact bodyPost_ret (results_tmp rfl _ _ _) rfl ⟨rfl, ((Below.refl _ _).alloc (Nat.le_refl _) _).trans (hb1.mono (by simp))⟩

/-- the reference's columns, and its error -/
theorem refColumns_any (a : Ar) (w : World) : Calls Tryz.prog 14 #[a.v] w fun e w' => e = .returned (.tuple #[.int .i64 (if a.ok then 4 * a.seg else 0), .int .i64 (if a.ok then 0 else 200)]) ∧ Below w.heap.size w w' := by
  have hv := fun w => valid_any a w
  by_cases h : a.ok
  · simp only [if_pos h] at *
    obtain ⟨h1, h2, e1, e2, e3⟩ := seg_range h
    unfold Ar.ok at h
    generalize hs : a.seg = s at *
    obtain ⟨k, m, p, l, t⟩ := a
    clear hs
    unfold Ar.v at *
    dsimp only at *
    obtain ⟨_, _, h3, h4, _⟩ := h
    have e4 : m / (4 * l) = s := by rw [← e2, Int.tdiv_eq_ediv_of_nonneg (by omega)]
    have HV := Lib.hid hv; clear hv
    go_enter Tryz.func14, Tryz.ntmps14
    go_wp2_with (go_at_call 45; refine (HV.out _).mono ?_; rintro e w1 ⟨rfl, hb1⟩; have hC := (Blk.new w 38 #[.int .i64 k, .int .i64 m, .int .i64 p, .int .i64 l, .int .i64 t]).below hb1 (by simp); have c1 : w1.cell? ⟨w.heap.size, 1, none⟩ = some (.int .i64 m) := hC.cell 1; have c3 : w1.cell? ⟨w.heap.size, 3, none⟩ = some (.int .i64 l) := hC.cell 3; clear hC)
    exact bodyPost_ret (results_tmp2 rfl _ _ _) rfl ⟨by simp [Int.mul_comm], ((Below.refl _ _).alloc (Nat.le_refl _) _).trans (hb1.mono (by simp))⟩
  · simp only [if_neg h] at *
    obtain ⟨k, m, p, l, t⟩ := a
    unfold Ar.v at *
    have HV := Lib.hid hv; clear hv h
    go_enter Tryz.func14, Tryz.ntmps14
    go_wp2_with (go_at_call 45; refine (HV.out _).mono ?_; rintro e w1 ⟨rfl, hb1⟩)
    exact bodyPost_ret (results_tmp2 rfl _ _ _) rfl ⟨rfl, ((Below.refl _ _).alloc (Nat.le_refl _) _).trans (hb1.mono (by simp))⟩

end Go.Proofs.YteeacbkhmofbeaaGreat

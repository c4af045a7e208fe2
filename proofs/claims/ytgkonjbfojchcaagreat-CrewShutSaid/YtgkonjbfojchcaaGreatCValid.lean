/-
  Which trees and pools may be, by the program and by the reference. Contracts alone; no statement is claimed here.
-/
import Derived.Test.YtgkonjbfojchcaaGreatHashC
namespace Go.Proofs.YtgkonjbfojchcaaGreat
open Go.RowKit
attribute [local go_sem] pureUpon Ords.of

/-- a tree's setting -/
structure Tr where
  kind : Int
  digest : Int
  fanout : Int
  depth : Int
  leaf : Int
  inner : Int
  key : Sl
  salt : Sl
  pers : Sl
def Tr.cs (t : Tr) : Array Value := #[.int .i64 t.kind, .int .i64 t.digest, .int .i64 t.fanout, .int .i64 t.depth, .int .u32 t.leaf, .int .i64 t.inner, .slice t.key.A t.key.n t.key.c, .slice t.salt.A t.salt.n t.salt.c, .slice t.pers.A t.pers.n t.pers.c]
def treeE (t : Tr) : Int :=
  if mostOf t.kind = 0 then 1
  else if t.digest < 1 ∨ mostOf t.kind < t.digest ∨ t.inner < 1 ∨ mostOf t.kind < t.inner ∨ t.leaf = 0 then 90
  else if t.fanout < 0 ∨ t.fanout = 1 ∨ 255 < t.fanout ∨ t.depth < 2 ∨ 255 < t.depth then 90
  else if mostOf t.kind < t.key.n then 8
  else if ((t.salt.n : Int) ≠ 0 ∧ 4 * (t.salt.n : Int) ≠ mostOf t.kind) ∨ ((t.pers.n : Int) ≠ 0 ∧ 4 * (t.pers.n : Int) ≠ mostOf t.kind) then 90
  else 0
def poolE (a b : Int) : Int := if a < 1 ∨ 256 < a ∨ b < 1 ∨ 1024 < b then 150 else 0
theorem refSizes_1 (w : World) : Calls Tryz.prog 32 #[.int .i64 1] w fun e w' => e = .returned (.tuple #[.int .i64 64, .int .i64 16]) ∧ w = w' := by
  go_enter Tryz.func32, Tryz.ntmps32
  go_wp2
  exact bodyPost_ret (results_tmp2 rfl _ _ _) rfl ⟨rfl, rfl⟩
theorem refSizes_2 (w : World) : Calls Tryz.prog 32 #[.int .i64 2] w fun e w' => e = .returned (.tuple #[.int .i64 32, .int .i64 8]) ∧ w = w' := by
  go_enter Tryz.func32, Tryz.ntmps32
  go_wp2
  exact bodyPost_ret (results_tmp2 rfl _ _ _) rfl ⟨rfl, rfl⟩
theorem refSizes_none (k : Int) (h1 : (k == 1) = false) (h2 : (k == 2) = false) (w : World) : Calls Tryz.prog 32 #[.int .i64 k] w fun e w' => e = .returned (.tuple #[.int .i64 0, .int .i64 0]) ∧ w = w' := by
  go_enter Tryz.func32, Tryz.ntmps32
  go_wp2
  exact bodyPost_ret (results_tmp2 rfl _ _ _) rfl ⟨rfl, rfl⟩
theorem refPool_any (a b : Int) (w : World) : Calls Tryz.prog 21 #[.agg #[.int .i64 a, .int .i64 b]] w fun e w' => e = .returned (.int .i64 (poolE a b)) ∧ Below w.heap.size w w' := by
  obtain ⟨r, hr⟩ : ∃ r, r = poolE a b := ⟨_, rfl⟩
  rw [← hr]
  have HR := Lib.hid hr; clear hr
  go_enter Tryz.func21, Tryz.ntmps21
  go_wp2
  all_goals refine bodyPost_ret (results_tmp rfl _ _ _) rfl ⟨?_, bal (b0 _) _⟩
  all_goals refine ret_int ?_
  all_goals rw [HR.out]
  all_goals unfold poolE
  all_goals (repeat (first | rw [if_neg (by omega)] | rw [if_pos (by omega)]))
  all_goals first | rfl | (exfalso; omega)
theorem pool_any (a b : Int) (h : poolE a b = 0) (w : World) : Calls Tryz.prog 34 #[.agg #[.int .i64 a, .int .i64 b]] w fun e w' => e = .returned (.int .i64 0) ∧ Below w.heap.size w w' := by
  have h2 : ¬ (a < 1 ∨ 256 < a ∨ b < 1 ∨ 1024 < b) := fun h3 => by unfold poolE at h; rw [if_pos h3] at h; exact absurd h (by decide)
  have x1 : decide (a < 1) = false := by simp; omega
  have x2 : decide (256 < a) = false := by simp; omega
  have x3 : decide (b < 1) = false := by simp; omega
  have x4 : decide (1024 < b) = false := by simp; omega
  clear h h2
  go_enter Tryz.func34, Tryz.ntmps34
  go_wp2
  exact bodyPost_ret (results_tmp rfl _ _ _) rfl ⟨rfl, bal (b0 _) _⟩
set_option maxHeartbeats 4000000 in
theorem refTree_any (t : Tr) (w : World) : Calls Tryz.prog 20 #[.agg t.cs] w fun e w' => e = .returned (.int .i64 (treeE t)) ∧ Below w.heap.size w w' := by
  obtain ⟨r, hr⟩ : ∃ r, r = treeE t := ⟨_, rfl⟩
  rw [← hr]
  obtain ⟨k, di, fa, de, le, inn, ⟨kA, kn, kc⟩, ⟨sA, sn, sc⟩, ⟨pA, pn, pc⟩⟩ := t
  have HR := Lib.hid hr; clear hr
  unfold Tr.cs
  dsimp only
  by_cases h1 : k = 1
  · subst h1
    go_enter Tryz.func20, Tryz.ntmps20
    go_wp2_with fail
    refine (refSizes_1 _).mono ?_
    rintro e w1 ⟨rfl, rfl⟩
    go_wp2
    all_goals refine bodyPost_ret (results_tmp rfl _ _ _) rfl ⟨?_, bal (b0 _) _⟩
    all_goals refine ret_int ?_
    all_goals rw [HR.out]
    all_goals (try simp only [bne_iff_ne, ne_eq, bne_eq_false_iff_eq, beq_iff_eq, beq_eq_false_iff_ne] at *)
    all_goals unfold treeE mostOf
    all_goals dsimp only
    all_goals (repeat (first | rw [if_neg (by omega)] | rw [if_pos (by omega)]))
    all_goals first | rfl | (exfalso; omega)
  · by_cases h2 : k = 2
    · subst h2
      go_enter Tryz.func20, Tryz.ntmps20
      go_wp2_with fail
      refine (refSizes_2 _).mono ?_
      rintro e w1 ⟨rfl, rfl⟩
      go_wp2
      all_goals refine bodyPost_ret (results_tmp rfl _ _ _) rfl ⟨?_, bal (b0 _) _⟩
      all_goals refine ret_int ?_
      all_goals rw [HR.out]
      all_goals (try simp only [bne_iff_ne, ne_eq, bne_eq_false_iff_eq, beq_iff_eq, beq_eq_false_iff_ne] at *)
      all_goals unfold treeE mostOf
      all_goals dsimp only
      all_goals (repeat (first | rw [if_neg (by omega)] | rw [if_pos (by omega)]))
      all_goals first | rfl | (exfalso; omega)
    · have hk1 : (k == 1) = false := by simpa using h1
      have hk2 : (k == 2) = false := by simpa using h2
      have hr := HR.out
      unfold treeE mostOf at hr
      simp only [if_neg h1, if_neg h2, if_true] at hr
      subst hr
      clear HR h1 h2
      go_enter Tryz.func20, Tryz.ntmps20
      go_wp2_with fail
      refine (refSizes_none _ hk1 hk2 _).mono ?_
      rintro e w1 ⟨rfl, rfl⟩
      go_wp2
      exact bodyPost_ret (results_tmp rfl _ _ _) rfl ⟨rfl, bal (b0 _) _⟩
end Go.Proofs.YtgkonjbfojchcaaGreat

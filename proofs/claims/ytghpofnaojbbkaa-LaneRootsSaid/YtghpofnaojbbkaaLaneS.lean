/-
  What the two ways of dealing a message out over lanes do (the reference's, byte by byte, and the program's, piece by piece). Contracts alone; no statement is claimed here.
-/
import Derived.Test.YtghpofnaojbbkaaTab
import Derived.Test.YtghpofnaojbbkaaLaneP
namespace Go.Proofs.Ytghpofnaojbbkaa
open Go.RowKit

/-- a kind's lanes, and the bytes of a block -/
def lanesOf (k : Int) : Nat := if k = 1 then 4 else if k = 2 then 8 else 0
def blockOf (k : Int) : Nat := if k = 1 then 128 else if k = 2 then 64 else 0

theorem of_big (w : World) : Calls Try.prog 17 #[.int .i64 1] w fun e w' => e = .returned (.tuple #[.agg #[.int .i64 4, .int .i64 128, .int .i64 64], .bool true]) ∧ Below w.heap.size w w' := by
  go_enter Try.func17, Try.ntmps17
  go_wp2
  exact bodyPost_ret (v := .tuple #[.agg #[.int .i64 4, .int .i64 128, .int .i64 64], .bool true]) (by simp [results, Try.results17, go_sem]) rfl ⟨rfl, (Below.refl _ _).alloc (Nat.le_refl _) _⟩
theorem of_small (w : World) : Calls Try.prog 17 #[.int .i64 2] w fun e w' => e = .returned (.tuple #[.agg #[.int .i64 8, .int .i64 64, .int .i64 32], .bool true]) ∧ Below w.heap.size w w' := by
  go_enter Try.func17, Try.ntmps17
  go_wp2
  exact bodyPost_ret (v := .tuple #[.agg #[.int .i64 8, .int .i64 64, .int .i64 32], .bool true]) (by simp [results, Try.results17, go_sem]) rfl ⟨rfl, (Below.refl _ _).alloc (Nat.le_refl _) _⟩
theorem of_none (k : Int) (h1 : k ≠ 1) (h2 : k ≠ 2) (w : World) : Calls Try.prog 17 #[.int .i64 k] w fun e w' => e = .returned (.tuple #[.agg #[.int .i64 0, .int .i64 0, .int .i64 0], .bool false]) ∧ Below w.heap.size w w' := by
  have h1' : (k == 1) = false := by simpa using h1
  have h2' : (k == 2) = false := by simpa using h2
  clear h1 h2
  go_enter Try.func17, Try.ntmps17
  go_wp2
  exact bodyPost_ret (v := .tuple #[.agg #[.int .i64 0, .int .i64 0, .int .i64 0], .bool false]) (by simp [results, Try.results17, go_sem]) rfl ⟨rfl, (Below.refl _ _).alloc (Nat.le_refl _) _⟩

end Go.Proofs.Ytghpofnaojbbkaa

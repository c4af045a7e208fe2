/-
  The turning of words of 64 bits, by the reference. Contracts alone; no statement is claimed here.
-/
import Derived.Test.YtghpofnaojbbkaaGreatCoreA
namespace Go.Proofs.YtghpofnaojbbkaaGreat
open Go.RowKit

theorem turn_32 (x : UInt64) (w : World) :
  Calls Tryz.prog 112 #[.int .u64 (wrd x), .int .i64 32] w fun e w' => e = .returned (.int .u64 (wrd (rotr x 32))) ∧ ∃ n, w' = w.drewN n := by
 have h2 := rot_form' x 32 (by omega)
 go_enter Tryz.func112, Tryz.ntmps112
 go_wp2
 go_quiet (fail)
 go_wp2
 go_ret
 exact ⟨congrArg (fun n => Ending.returned (Value.int .u64 n)) h2, _, rfl⟩
theorem turn_24 (x : UInt64) (w : World) :
  Calls Tryz.prog 112 #[.int .u64 (wrd x), .int .i64 24] w fun e w' => e = .returned (.int .u64 (wrd (rotr x 24))) ∧ ∃ n, w' = w.drewN n := by
 have h2 := rot_form' x 24 (by omega)
 go_enter Tryz.func112, Tryz.ntmps112
 go_wp2
 go_quiet (fail)
 go_wp2
 go_ret
 exact ⟨congrArg (fun n => Ending.returned (Value.int .u64 n)) h2, _, rfl⟩
theorem turn_16 (x : UInt64) (w : World) :
  Calls Tryz.prog 112 #[.int .u64 (wrd x), .int .i64 16] w fun e w' => e = .returned (.int .u64 (wrd (rotr x 16))) ∧ ∃ n, w' = w.drewN n := by
 have h2 := rot_form' x 16 (by omega)
 go_enter Tryz.func112, Tryz.ntmps112
 go_wp2
 go_quiet (fail)
 go_wp2
 go_ret
 exact ⟨congrArg (fun n => Ending.returned (Value.int .u64 n)) h2, _, rfl⟩
theorem turn_63 (x : UInt64) (w : World) :
  Calls Tryz.prog 112 #[.int .u64 (wrd x), .int .i64 63] w fun e w' => e = .returned (.int .u64 (wrd (rotr x 63))) ∧ ∃ n, w' = w.drewN n := by
 have h2 := rot_form' x 63 (by omega)
 go_enter Tryz.func112, Tryz.ntmps112
 go_wp2
 go_quiet (fail)
 go_wp2
 go_ret
 exact ⟨congrArg (fun n => Ending.returned (Value.int .u64 n)) h2, _, rfl⟩

end Go.Proofs.YtghpofnaojbbkaaGreat

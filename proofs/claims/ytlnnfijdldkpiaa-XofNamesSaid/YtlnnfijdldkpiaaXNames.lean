/-
  XofNames' law. Contracts alone; no statement is claimed here.
-/
import Derived.Test.YtlnnfijdldkpiaaCoreA
namespace Go.Proofs.Ytlnnfijdldkpiaa
open Go.RowKit
attribute [local go_sem] pureUpon Ords.of

set_option maxRecDepth 20000 in
set_option maxHeartbeats 2000000 in
theorem shaped_zero (w : World) : Calls Try.prog 61 #[.int .i64 1, .int .i64 0] w fun e w' => e = .returned (.tuple #[.agg #[.int .i64 1, .int .i64 64, .int .u32 0, .int .u64 0, .bool true], .bool false]) ∧ Below w.heap.size w w' := by
  have hw : IntKind.u32.wrap 0 = 0 := rfl
  have hw2 : IntKind.u64.wrap 0 = 0 := rfl
  go_enter Try.func61, Try.ntmps61
  go_wp2
  exact bodyPost_ret (results_cell_tmp rfl _ _ w.heap.size 89 _ _ rfl ((Blk.new w _ _).alloc _) Try.underlying89 rfl (by kernel_rfl)) rfl ⟨rfl, bal (bal (b0 w) _) _⟩
theorem valid_zero (w : World) : Calls Try.prog 48 #[.int .i64 1, .int .i64 0, .slice none 0 0, .slice none 0 0, .slice none 0 0] w fun e w' => e = .returned (.tuple #[.agg #[.int .i64 1, .int .i64 64, .int .u32 0, .int .u64 0, .bool true], .int .i64 1]) ∧ Below w.heap.size w w' := by
  have hs := fun W => shaped_zero W
  have HS := Lib.hid hs; clear hs
  go_enter Try.func48, Try.ntmps48
  go_wp2_with (go_at_call 61; refine (HS.out _).mono ?_; rintro e w1 ⟨rfl, hbw1⟩; (first | refine withN hbw1 ?_ | refine withD hbw1 ?_ | refine with0 hbw1 ?_); intro hcw1 hfw1; have z0w1 : w.heap.size < w1.heap.size := (by have := hbw1.size; (try simp at this); omega))
  have hb0 := (Blk.new w 89 #[.int .i64 0, .int .i64 0, .int .u32 0, .int .u64 0, .bool false]).below hbw1 (by simp)
  have hb1 := (((((hb0.set_ 0 (.int .i64 1)).set_ 1 (.int .i64 64)).set_ 2 (.int .u32 0)).set_ 3 (.int .u64 0)).set_ 4 (.bool true)).alloc (.cells #[.int .i64 1, .int .i64 64, .int .u32 0, .int .u64 0, .bool true] 89)
  have hb2 : Blk _ w.heap.size 89 #[.int .i64 1, .int .i64 64, .int .u32 0, .int .u64 0, .bool true] := hb1
  have hB := bal (bput (bput (bput (bput (bput (bcall (bal (b0 w) _) hbw1) (p := ⟨w.heap.size, 0, none⟩) (Nat.le_refl _) (.int .i64 1)) (p := ⟨w.heap.size, 1, none⟩) (Nat.le_refl _) (.int .i64 64)) (p := ⟨w.heap.size, 2, none⟩) (Nat.le_refl _) (.int .u32 0)) (p := ⟨w.heap.size, 3, none⟩) (Nat.le_refl _) (.int .u64 0)) (p := ⟨w.heap.size, 4, none⟩) (Nat.le_refl _) (.bool true)) (.cells #[.int .i64 1, .int .i64 64, .int .u32 0, .int .u64 0, .bool true] 89)
  exact bodyPost_ret (results_cell_tmp rfl _ _ w.heap.size 89 _ _ rfl hb2 Try.underlying89 rfl (by kernel_rfl)) rfl ⟨rfl, hB⟩
theorem xofNew_zero (w : World) : Calls Try.prog 29 #[.int .i64 1, .int .i64 0, .slice none 0 0, .slice none 0 0, .slice none 0 0] w fun e w' => e = .returned (.tuple #[.pointer none, .int .i64 1]) ∧ Below w.heap.size w w' := by
  have hs := fun W => valid_zero W
  have HS := Lib.hid hs; clear hs
  go_enter Try.func29, Try.ntmps29
  go_wp2_with (go_at_call 48; refine (HS.out _).mono ?_; rintro e w1 ⟨rfl, hbw1⟩; (first | refine withN hbw1 ?_ | refine withD hbw1 ?_ | refine with0 hbw1 ?_); intro hcw1 hfw1)
  exact bodyPost_ret (results_tmp2 rfl _ _ _) rfl ⟨rfl, bal (bcall (b0 w) hbw1) _⟩
theorem xofNames_law (w : World) : Calls Try.prog 9 #[] w fun e w' => e = .returned (.bool true) ∧ Below w.heap.size w w' := by
  have hs := fun W => xofNew_zero W
  have HS := Lib.hid hs; clear hs
  go_enter Try.func9, Try.ntmps9
  go_wp2_with (go_at_call 29; refine (HS.out _).mono ?_; rintro e w1 ⟨rfl, hbw1⟩; (first | refine withN hbw1 ?_ | refine withD hbw1 ?_ | refine with0 hbw1 ?_); intro hcw1 hfw1)
  exact bodyPost_ret (results_tmp rfl _ _ _) rfl ⟨rfl, hbw1⟩
end Go.Proofs.Ytlnnfijdldkpiaa

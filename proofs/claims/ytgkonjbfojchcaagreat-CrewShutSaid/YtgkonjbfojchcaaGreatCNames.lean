/-
  CrewNames' law. Contracts alone; no statement is claimed here.
-/
import Derived.Test.YtgkonjbfojchcaaGreatCoreA
import Derived.Deep.MidRow
import Derived.Laws.EntriesVeiled
namespace Go.Proofs.YtgkonjbfojchcaaGreat
open Go.RowKit
attribute [local go_sem] pureUpon Ords.of

def varRows : List (List Value) := [[.string ⟨#[98, 108, 97, 107, 101, 50, 98]⟩, .int .i64 1, .int .i64 64, .int .i64 64, .func (.func 35) #[] #[]],
  [.string ⟨#[98, 108, 97, 107, 101, 50, 115]⟩, .int .i64 2, .int .i64 32, .int .i64 32, .func (.func 35) #[] #[]],
  [.string ⟨#[98, 108, 97, 107, 101, 50, 98, 112]⟩, .int .i64 1, .int .i64 64, .int .i64 64, .func (.func 36) #[] #[]],
  [.string ⟨#[98, 108, 97, 107, 101, 50, 115, 112]⟩, .int .i64 2, .int .i64 32, .int .i64 32, .func (.func 36) #[] #[]],
  [.string ⟨#[98, 108, 97, 107, 101, 50, 120, 98]⟩, .int .i64 1, .int .i64 65536, .int .i64 64, .func (.func 37) #[] #[]],
  [.string ⟨#[98, 108, 97, 107, 101, 50, 120, 115]⟩, .int .i64 2, .int .i64 65534, .int .i64 32, .func (.func 37) #[] #[]]]
def varCells : Array Value := varRows.flatten.toArray
set_option maxRecDepth 20000 in
set_option maxHeartbeats 2000000 in
theorem variants_any (w : World) : Calls Tryz.prog 24 #[] w fun e w' => ∃ g, e = .returned (.slice (some ⟨g, 0, none⟩) 6 6) ∧ w.heap.size ≤ g ∧ Blk w' g 61 varCells ∧ Below w.heap.size w w' := by
  go_enter Tryz.func24, Tryz.ntmps24
  go_wp2_with fail
  exact bodyPost_ret (results_tmp rfl _ _ _) rfl ⟨_, rfl, Nat.le_refl _, Blk.new w _ _, bal (b0 w) _⟩
set_option maxRecDepth 20000 in
set_option maxHeartbeats 2000000 in
theorem namedNone_any (w : World) : Calls Tryz.prog 15 #[.string ⟨#[109, 100, 53]⟩, .int .i64 16, .slice none 0 0, .slice none 0 0] w fun e w' => e = .returned (.tuple #[.slice none 0 0, .int .i64 171]) ∧ Below w.heap.size w w' := by
  go_enter Tryz.func15, Tryz.ntmps15
  go_wp2_with (go_at_call 24; refine (variants_any _).mono ?_; rintro e w1 ⟨g, rfl, hg, hbl, hbw1⟩; (first | refine withN hbw1 ?_ | refine withD hbw1 ?_ | refine with0 hbw1 ?_); intro hcw1 hfw1)
  have HB1 := Lib.hid hbw1; have HBL1 := Lib.hid hbl; clear hbw1 hbl hcw1 hfw1 hg
  go_loopw [14] (fun i wr => ∃ k : Nat, k ≤ 6 ∧ i = .int .i64 k ∧ Blk wr g 61 varCells ∧ Below w.heap.size w wr) (fun i _ => 6 - (intOf i).toNat)
  case atStart => exact ⟨0, Nat.zero_le _, rfl, HBL1.out, HB1.out⟩
  case round =>
    obtain ⟨k, hk, rfl, hbl, hbw⟩ := hrel
    have HBL := Lib.hid hbl; have HBW := Lib.hid hbw; clear hbl hbw
    have hk2 : k = 0 ∨ k = 1 ∨ k = 2 ∨ k = 3 ∨ k = 4 ∨ k = 5 ∨ k = 6 := by omega
    rcases hk2 with rfl | rfl | rfl | rfl | rfl | rfl | rfl
    · have hr : wr.rangeAt g 0 [.string ⟨#[98, 108, 97, 107, 101, 50, 98]⟩, .int .i64 1, .int .i64 64, .int .i64 64, .func (.func 35) #[] #[]] := HBL.out.range 0 5
      have HRR := Lib.hid hr; clear hr
      go_wp2_with (refine wpList_load_mid rfl 61 (.tmp 16) rfl g 0 rfl _ _ HRR.out Tryz.underlying61 rfl (by kernel_rfl) ?_)
      case roundEnd => exact ⟨⟨1, by decide, rfl, HBL.out.alloc _, bal HBW.out _⟩, by simp [intOf]⟩
    · have hr : wr.rangeAt g 5 [.string ⟨#[98, 108, 97, 107, 101, 50, 115]⟩, .int .i64 2, .int .i64 32, .int .i64 32, .func (.func 35) #[] #[]] := HBL.out.range 5 5
      have HRR := Lib.hid hr; clear hr
      go_wp2_with (refine wpList_load_mid rfl 61 (.tmp 16) rfl g 5 rfl _ _ HRR.out Tryz.underlying61 rfl (by kernel_rfl) ?_)
      case roundEnd => exact ⟨⟨2, by decide, rfl, HBL.out.alloc _, bal HBW.out _⟩, by simp [intOf]⟩
    · have hr : wr.rangeAt g 10 [.string ⟨#[98, 108, 97, 107, 101, 50, 98, 112]⟩, .int .i64 1, .int .i64 64, .int .i64 64, .func (.func 36) #[] #[]] := HBL.out.range 10 5
      have HRR := Lib.hid hr; clear hr
      go_wp2_with (refine wpList_load_mid rfl 61 (.tmp 16) rfl g 10 rfl _ _ HRR.out Tryz.underlying61 rfl (by kernel_rfl) ?_)
      case roundEnd => exact ⟨⟨3, by decide, rfl, HBL.out.alloc _, bal HBW.out _⟩, by simp [intOf]⟩
    · have hr : wr.rangeAt g 15 [.string ⟨#[98, 108, 97, 107, 101, 50, 115, 112]⟩, .int .i64 2, .int .i64 32, .int .i64 32, .func (.func 36) #[] #[]] := HBL.out.range 15 5
      have HRR := Lib.hid hr; clear hr
      go_wp2_with (refine wpList_load_mid rfl 61 (.tmp 16) rfl g 15 rfl _ _ HRR.out Tryz.underlying61 rfl (by kernel_rfl) ?_)
      case roundEnd => exact ⟨⟨4, by decide, rfl, HBL.out.alloc _, bal HBW.out _⟩, by simp [intOf]⟩
    · have hr : wr.rangeAt g 20 [.string ⟨#[98, 108, 97, 107, 101, 50, 120, 98]⟩, .int .i64 1, .int .i64 65536, .int .i64 64, .func (.func 37) #[] #[]] := HBL.out.range 20 5
      have HRR := Lib.hid hr; clear hr
      go_wp2_with (refine wpList_load_mid rfl 61 (.tmp 16) rfl g 20 rfl _ _ HRR.out Tryz.underlying61 rfl (by kernel_rfl) ?_)
      case roundEnd => exact ⟨⟨5, by decide, rfl, HBL.out.alloc _, bal HBW.out _⟩, by simp [intOf]⟩
    · have hr : wr.rangeAt g 25 [.string ⟨#[98, 108, 97, 107, 101, 50, 120, 115]⟩, .int .i64 2, .int .i64 65534, .int .i64 32, .func (.func 37) #[] #[]] := HBL.out.range 25 5
      have HRR := Lib.hid hr; clear hr
      go_wp2_with (refine wpList_load_mid rfl 61 (.tmp 16) rfl g 25 rfl _ _ HRR.out Tryz.underlying61 rfl (by kernel_rfl) ?_)
      case roundEnd => exact ⟨⟨6, by decide, rfl, HBL.out.alloc _, bal HBW.out _⟩, by simp [intOf]⟩
    · go_wp2_with fail
      exact bodyPost_ret (results_tmp2 rfl _ _ _) rfl ⟨rfl, HBW.out⟩
end Go.Proofs.YtgkonjbfojchcaaGreat

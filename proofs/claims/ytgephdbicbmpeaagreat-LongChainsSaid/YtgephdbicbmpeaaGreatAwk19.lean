/-
  awake of layer 19. Contracts alone; no statement is claimed here.
-/
import Derived.Test.YtgephdbicbmpeaaGreatBlendP
import Derived.Deep.CutRange
namespace Go.Proofs.YtgephdbicbmpeaaGreat
open Go.RowKit

theorem awake_a : ((blend ⟨1, 0, 0, 0⟩).a == 1) = false := by decide +kernel
set_option maxHeartbeats 2000000 in
theorem awake_any (w : World) : Calls Tryz.prog 27 #[] w fun e w' => e = .returned (.bool true) ∧ Below w.heap.size w w' := by
  have hb := blend_any ⟨1, 0, 0, 0⟩
  have hr := refBlend_any ⟨1, 0, 0, 0⟩
  have h1 : wrd 1 = 1 := by decide
  have h0 : wrd 0 = 0 := by decide
  have hne := awake_a
  generalize blend ⟨1, 0, 0, 0⟩ = r at *
  rw [h1, h0] at hb hr
  have hne : wrd r.a ≠ 1 := by
    intro h
    have : r.a = 1 := UInt64.toNat_inj.1 (by unfold wrd at h; have : r.a.toNat = 1 := by omega
                                             simpa using this)
    rw [this] at hne; simp at hne
  have HB := Lib.hid hb; have HR := Lib.hid hr; clear hb hr h1 h0
  obtain ⟨H, hH⟩ : ∃ H, H = w.heap.size := ⟨_, rfl⟩
  rw [← hH]
  have HH := Lib.hid hH; clear hH
  go_enter Tryz.func27, Tryz.ntmps27
  go_wp2_with (first
    | (go_at_call 89; refine (HB.out _).mono ?_; rintro e w1 ⟨rfl, rfl⟩)
    | (go_at_call 90; refine (HR.out _).mono ?_; rintro e w1 ⟨rfl, hb1⟩))
  refine bodyPost_ret (results_tmp rfl _ _ _) rfl ⟨?_, ?_⟩
  · simp [hne]
  · rw [HH.out]
    exact hb1.alloc hb1.size _

end Go.Proofs.YtgephdbicbmpeaaGreat

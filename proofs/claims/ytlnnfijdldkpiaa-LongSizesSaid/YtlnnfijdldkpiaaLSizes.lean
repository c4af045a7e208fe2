/-
  LongSizes' law. Contracts alone; no statement is claimed here.
-/
import Derived.Test.YtlnnfijdldkpiaaLong
import Derived.Test.YtlnnfijdldkpiaaAwk19
namespace Go.Proofs.Ytlnnfijdldkpiaa
open Go.RowKit
attribute [local go_sem] pureUpon Ords.of

set_option maxRecDepth 20000 in
set_option maxHeartbeats 1000000 in
theorem sizes_law (size : Int) (A : Option Addr) (nb c : Nat) (l : List UInt8) (w : World) (hl : l.length = nb) (hnb : nb ≤ 140737488351232) (hr : RS cB w w.heap.size A l) :
    Calls Try.prog 5 #[.int .i64 size, .slice A nb c] w fun e w' => e = .returned (.bool true) ∧ Below w.heap.size w w' := by
  obtain ⟨s, hs⟩ : ∃ s, size.tmod 3000 = s := ⟨_, rfl⟩
  have hlo : -3000 < s ∧ s < 3000 := by
    by_cases h : 0 ≤ size
    · rw [Int.tmod_eq_emod_of_nonneg h] at hs; omega
    · have e : size.tmod 3000 = -((-size).tmod 3000) := by rw [Int.neg_tmod, Int.neg_neg]
      rw [Int.tmod_eq_emod_of_nonneg (a := -size) (by omega)] at e
      omega
  obtain ⟨h1, h2⟩ := hlo
  by_cases h : s < 1
  · have t1 : decide (s < 1) = true := by simpa using h
    have hba := fun W => longBad_any s A nb c W (.inl h)
    have HBA := Lib.hid hba; clear hba hr hl
    go_enter Try.func5, Try.ntmps5
    go_wp2_with (first
      | (go_at_call 20; refine (HBA.out _).mono ?_; rintro e1 w1 ⟨rfl, rfl⟩)
      | (go_at_call 21; refine (awake_any _).mono ?_; rintro e2 w2 ⟨rfl, hb2⟩))
    exact bodyPost_ret (results_tmp rfl _ _ _) rfl ⟨rfl, hb2⟩
  · obtain ⟨n, rfl⟩ : ∃ n : Nat, s = n := ⟨s.toNat, by omega⟩
    have t1 : decide ((n : Int) < 1) = false := by simpa using h
    have hba := longHash_any n A nb c l w ⟨by omega, by omega⟩ hl hnb hr
    have HBA := Lib.hid hba; clear hba hr hl
    go_enter Try.func5, Try.ntmps5
    go_wp2_with (go_at_call 20; refine HBA.out.mono ?_; rintro e1 w1 ⟨A1, c1, cc, rfl, ho1, hb1⟩; have HB1 := Lib.hid hb1; clear ho1 hb1)
    exact bodyPost_ret (results_tmp rfl _ _ _) rfl ⟨rfl, HB1.out⟩
end Go.Proofs.Ytlnnfijdldkpiaa

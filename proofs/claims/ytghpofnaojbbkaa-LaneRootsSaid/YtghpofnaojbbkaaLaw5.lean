/-
  Small helpers of layer 5's statements. Contracts alone; no statement is claimed here.
-/
import Derived.Test.YtghpofnaojbbkaaHashC
import Derived.Test.YtghpofnaojbbkaaSame
namespace Go.Proofs.Ytghpofnaojbbkaa
open Go.RowKit
attribute [local go_sem] pureUpon Ords.of

theorem kind_of {k : Int} {p : Pr} (h : chk k p = 0) : ∃ big, k = kOf big := by
  by_cases h1 : k = 1
  · exact ⟨true, h1⟩
  · by_cases h2 : k = 2
    · exact ⟨false, h2⟩
    · exfalso
      unfold chk mostOf at h
      simp [h1, h2] at h
end Go.Proofs.Ytghpofnaojbbkaa

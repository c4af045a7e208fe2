/-
  The parameters of sequential hashing. Lemmas alone; no statement is claimed here.
-/
import Derived.Test.YtboihcigcfmhhaaHashC
namespace Go.Proofs.Ytboihcigcfmhhaa
open Go.RowKit

def plainP (n : Int) (k : Int) : Pr := ⟨n, k, 1, 1, 0, 0, 0, 0, 0, Sl.nil, Sl.nil⟩
theorem plainP_fit (n k : Int) : (plainP n k).Fit := by constructor <;> (unfold plainP; simp)
theorem plainP_chk (big : Bool) (n k : Nat) (h : 1 ≤ n ∧ n ≤ bOf big) (hk : k ≤ bOf big) : chk (kOf big) (plainP n k) = 0 := by
  have e : mostOf (kOf big) = bOf big := by cases big <;> rfl
  have e0 : 0 < bOf big := by cases big <;> decide
  unfold chk
  rw [e]
  unfold plainP Sl.nil
  dsimp only
  repeat rw [if_neg (by omega)]
end Go.Proofs.Ytboihcigcfmhhaa

/-
  Hash of the program, of whatever is asked. Contracts alone; no statement is claimed here.
-/
import Derived.Test.YtboihcigcfmhhaaLaw5
namespace Go.Proofs.Ytboihcigcfmhhaa
open Go.RowKit
attribute [local go_sem] pureUpon Ords.of

theorem bOf_le (big : Bool) : 32 ≤ bOf big ∧ bOf big ≤ 64 := by cases big <;> decide
/-- what Hash tells: the bytes, the error -/
def hashS (k : Int) (p : Pr) (ls lp key : List UInt8) (last : Bool) (m : Int) (data : List UInt8) : List UInt8 × Int :=
  if chk k p ≠ 0 then ([], chk k p) else if key.length ≠ 0 ∧ (key.length : Int) ≠ p.key then ([], 8) else if m < 1 ∨ mostOf k < m then ([], 1) else ((hashL (decide (k = 1)) p ls lp key last data).take m.toNat, 0)
theorem mostOf_k (big : Bool) : mostOf (kOf big) = bOf big := by cases big <;> rfl
theorem kOf_is (big : Bool) : decide (kOf big = 1) = big := by cases big <;> rfl
/-- the four ways of a call of Hash -/
theorem hash_ways {P : List UInt8 × Int → Prop} (k : Int) (p : Pr) (ls lp key : List UInt8) (last : Bool) (m : Int) (data : List UInt8)
    (h1 : chk k p ≠ 0 → P ([], chk k p)) (h2 : ∀ big, k = kOf big → chk k p = 0 → key.length ≠ 0 → (key.length : Int) ≠ p.key → P ([], 8))
    (h3 : ∀ big, k = kOf big → chk k p = 0 → (key.length = 0 ∨ (key.length : Int) = p.key) → (m < 1 ∨ (bOf big : Int) < m) → P ([], 1))
    (h4 : ∀ big, k = kOf big → chk k p = 0 → (key.length = 0 ∨ (key.length : Int) = p.key) → ∀ n : Nat, m = n → 1 ≤ n ∧ n ≤ bOf big → P ((hashL big p ls lp key last data).take n, 0)) : P (hashS k p ls lp key last m data) := by
  unfold hashS
  by_cases hc : chk k p ≠ 0
  · rw [if_pos hc]; exact h1 hc
  · rw [if_neg hc]
    have hc0 : chk k p = 0 := Decidable.not_not.1 hc
    obtain ⟨big, hb⟩ := kind_of hc0
    by_cases hk : key.length ≠ 0 ∧ (key.length : Int) ≠ p.key
    · rw [if_pos hk]; exact h2 big hb hc0 hk.1 hk.2
    · rw [if_neg hk]
      have hk0 : key.length = 0 ∨ (key.length : Int) = p.key := by
        by_cases h0 : key.length = 0
        · exact .inl h0
        · exact .inr (Decidable.not_not.1 (fun h => hk ⟨h0, h⟩))
      by_cases hm : m < 1 ∨ mostOf k < m
      · rw [if_pos hm]
        rw [hb, mostOf_k] at hm
        exact h3 big hb hc0 hk0 hm
      · rw [if_neg hm]
        rw [hb, mostOf_k] at hm
        have hm1 : 1 ≤ m := by omega
        rw [hb, kOf_is]
        exact h4 big hb hc0 hk0 m.toNat (by omega) (by omega)
end Go.Proofs.Ytboihcigcfmhhaa

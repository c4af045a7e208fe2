/-
  The bytes of a stream, piece by piece. Plain lemmas; no statement is claimed here.
-/
import Derived.Test.YtgecggkcadhooaaXofS
namespace Go.Proofs.Ytgecggkcadhooaa
open Go.RowKit

/-- the j-th byte of the pieces in a row, f bytes each -/
def byteOf (f : Nat) (P : Nat → List UInt8) (j : Nat) : UInt8 := (P (j / f)).getD (j % f) 0
/-- n bytes of the pieces in a row from a place on -/
def rowOf (f : Nat) (P : Nat → List UInt8) (at_ n : Nat) : List UInt8 := (List.range n).map fun j => byteOf f P (at_ + j)
theorem rowOf_len (f : Nat) (P : Nat → List UInt8) (at_ n : Nat) : (rowOf f P at_ n).length = n := by simp [rowOf]
theorem rowOf_zero (f : Nat) (P : Nat → List UInt8) (at_ : Nat) : rowOf f P at_ 0 = [] := rfl
theorem rowOf_add (f : Nat) (P : Nat → List UInt8) (at_ n m : Nat) : rowOf f P at_ (n + m) = rowOf f P at_ n ++ rowOf f P (at_ + n) m := by
  unfold rowOf
  rw [List.range_add, List.map_append, List.map_map]
  congr 1
  apply List.map_congr_left
  intro j _
  show byteOf f P (at_ + (n + j)) = byteOf f P (at_ + n + j)
  rw [Nat.add_assoc]
/-- a cut out of one piece -/
theorem rowOf_piece (f : Nat) (P : Nat → List UInt8) (at_ m : Nat) (hf : 1 ≤ f) (hm : at_ % f + m ≤ (P (at_ / f)).length) (hm2 : at_ % f + m ≤ f) : ((P (at_ / f)).drop (at_ % f)).take m = rowOf f P at_ m := by
  apply List.ext_getElem
  · rw [List.length_take, List.length_drop, rowOf_len]; omega
  · intro j h1 h2
    rw [rowOf_len] at h2
    have hd := Nat.div_add_mod at_ f
    have e1 : (at_ + j) / f = at_ / f := by
      have h3 : at_ + j = f * (at_ / f) + (at_ % f + j) := by omega
      rw [h3, Nat.mul_add_div (by omega), Nat.div_eq_of_lt (show at_ % f + j < f by omega), Nat.add_zero]
    have e2 : (at_ + j) % f = at_ % f + j := by
      have h3 : at_ + j = f * (at_ / f) + (at_ % f + j) := by omega
      rw [h3, Nat.mul_add_mod, Nat.mod_eq_of_lt (show at_ % f + j < f by omega)]
    simp only [rowOf, List.getElem_take, List.getElem_drop, List.getElem_map, List.getElem_range]
    unfold byteOf
    rw [e1, e2, List.getD_eq_getElem?_getD, List.getElem?_eq_getElem (by omega)]
    rfl
theorem rowOf_succ (f : Nat) (P : Nat → List UInt8) (at_ n : Nat) : rowOf f P at_ (n + 1) = rowOf f P at_ n ++ [byteOf f P (at_ + n)] := by
  rw [rowOf_add]
  rfl
end Go.Proofs.Ytgecggkcadhooaa

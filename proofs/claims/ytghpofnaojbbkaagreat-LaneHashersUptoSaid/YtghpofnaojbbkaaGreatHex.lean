/-
  Hex of the reference. Contracts alone; no statement is claimed here.
-/
import Derived.Test.YtghpofnaojbbkaaGreatCoreB
import Derived.Laws.IdiomStrings
import Derived.Lib.BufferRead
namespace Go.Proofs.YtghpofnaojbbkaaGreat
open Go.RowKit
attribute [local go_sem] pureUpon Ords.of

theorem OS.lit {α : Type} {cd : Cod α} (w : World) (l : List α) (cs : Array Value) (n : Nat) (hcs : cs = (l.map cd.enc).toArray) (hn : l.length = n) (hm : n ≤ maxLen) : OS cd (w.alloc (.cells cs cd.e)) w.heap.size (some ⟨w.heap.size, 0, none⟩) n l := by
 subst hcs; subst hn
 exact ⟨by simp, .inr ⟨w.heap.size, l.length, _, rfl, Nat.le_refl _, heap_alloc_new w _, Nat.le_refl _, hm, by simp, by rw [Nat.mul_one]; exact List.take_of_length_le (by simp)⟩⟩
def hexd (n : Nat) : UInt8 := [48, 49, 50, 51, 52, 53, 54, 55, 56, 57, 97, 98, 99, 100, 101, 102].getD n 0
def hexL : List UInt8 → List UInt8
  | [] => []
  | b :: l => hexd (b.toNat / 16) :: hexd (b.toNat % 16) :: hexL l
end Go.Proofs.YtghpofnaojbbkaaGreat

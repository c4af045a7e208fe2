/-
  Small words that walks share: what was there stays, call by call. Lemmas alone; no statement is claimed here.
-/
import Derived.Test.YtnkngaicegcejaaMem
import Derived.Outline
namespace Go.Proofs.Ytnkngaicegcejaa
open Go.RowKit

theorem bcell {W w1 : World} (hb : Below W.heap.size W w1) : (∀ b o, b < W.heap.size → w1.cell? ⟨b, o, none⟩ = W.cell? ⟨b, o, none⟩) ∧ (∀ b o, b < W.heap.size → w1.frozen? ⟨b, o, none⟩ = W.frozen? ⟨b, o, none⟩) :=
  ⟨fun b o h => hb.cell (p := ⟨b, o, none⟩) h, fun b o h => hb.frozen (p := ⟨b, o, none⟩) h⟩
theorem b0 (w : World) : Below w.heap.size w w := Below.refl _ _
theorem bal {w w1 : World} (h : Below w.heap.size w w1) (o : Obj) : Below w.heap.size w (w1.alloc o) := h.alloc h.size o
theorem bdr {w w1 : World} (h : Below w.heap.size w w1) (n : Nat) : Below w.heap.size w (w1.drewN n) := below_drewN h n
theorem bdr1 {w w1 : World} (h : Below w.heap.size w w1) : Below w.heap.size w w1.drew := below_drewN h 1
theorem bcall {w w1 w2 : World} (h : Below w.heap.size w w1) (h2 : Below w1.heap.size w1 w2) : Below w.heap.size w w2 := h.trans (h2.mono h.size)
theorem bput {w w1 : World} (h : Below w.heap.size w w1) {p : Addr} (hp : w.heap.size ≤ p.block) (u : Value) : Below w.heap.size w (w1.setCell p u) := h.setCell hp u
theorem bapp {α : Type} {cd : Cod α} {w w1 w' : World} {A : Option Addr} {c : Nat} {l : List α} (h : Below w.heap.size w w1) (hown : OS cd w1 w.heap.size A c l) (hg : w1.grownBy w' (A.map (·.block))) : Below w.heap.size w w' :=
  below_app h hown hg (Nat.le_refl _) h.size
theorem ret_true {b : Bool} (h : b = true) : Ending.returned (.bool b) = .returned (.bool true) := by rw [h]
end Go.Proofs.Ytnkngaicegcejaa

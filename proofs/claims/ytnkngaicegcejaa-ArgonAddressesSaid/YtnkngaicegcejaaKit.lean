/-
  Small words that walks share: what was there stays, call by call. Lemmas alone; no statement is claimed here.
-/
import Derived.Test.YtnkngaicegcejaaMem
import Derived.Test.YtnkngaicegcejaaOrd
import Derived.Outline
namespace Go.Proofs.Ytnkngaicegcejaa
open Go.RowKit

theorem bcell {W w1 : World} (hb : Below W.heap.size W w1) : (∀ b o, b < W.heap.size → w1.cell? ⟨b, o, none⟩ = W.cell? ⟨b, o, none⟩) ∧ (∀ b o, b < W.heap.size → w1.frozen? ⟨b, o, none⟩ = W.frozen? ⟨b, o, none⟩) :=
  ⟨fun b o h => hb.cell (p := ⟨b, o, none⟩) h, fun b o h => hb.frozen (p := ⟨b, o, none⟩) h⟩
section
variable {W w1 : World} {G : Prop}
theorem with0 (hb : Below W.heap.size W w1) (h : (∀ b o, b < W.heap.size → w1.cell? ⟨b, o, none⟩ = W.cell? ⟨b, o, none⟩) → (∀ b o, b < W.heap.size → w1.frozen? ⟨b, o, none⟩ = W.frozen? ⟨b, o, none⟩) → G) : G :=
  h (fun b o h => hb.cell (p := ⟨b, o, none⟩) h) (fun b o h => hb.frozen (p := ⟨b, o, none⟩) h)
theorem withN {n : Nat} (hb : Below (W.drewN n).heap.size (W.drewN n) w1) (h : (∀ b o, b < W.heap.size → w1.cell? ⟨b, o, none⟩ = W.cell? ⟨b, o, none⟩) → (∀ b o, b < W.heap.size → w1.frozen? ⟨b, o, none⟩ = W.frozen? ⟨b, o, none⟩) → G) : G :=
  h (fun b o h => hb.cell (p := ⟨b, o, none⟩) h) (fun b o h => hb.frozen (p := ⟨b, o, none⟩) h)
theorem withD (hb : Below W.drew.heap.size W.drew w1) (h : (∀ b o, b < W.heap.size → w1.cell? ⟨b, o, none⟩ = W.cell? ⟨b, o, none⟩) → (∀ b o, b < W.heap.size → w1.frozen? ⟨b, o, none⟩ = W.frozen? ⟨b, o, none⟩) → G) : G :=
  h (fun b o h => hb.cell (p := ⟨b, o, none⟩) h) (fun b o h => hb.frozen (p := ⟨b, o, none⟩) h)
end
theorem undrN {W w1 : World} {n : Nat} (hb : Below (W.drewN n).heap.size (W.drewN n) w1) : Below W.heap.size W w1 := ⟨hb.os, hb.tape, hb.output, hb.size, hb.block⟩
theorem bas {W w1 : World} {n : Nat} (hb : Below W.heap.size W w1) : Below (W.drewN n).heap.size (W.drewN n) w1 := ⟨hb.os, hb.tape, hb.output, hb.size, hb.block⟩
theorem b0 (w : World) : Below w.heap.size w w := Below.refl _ _
theorem bal {w w1 : World} (h : Below w.heap.size w w1) (o : Obj) : Below w.heap.size w (w1.alloc o) := h.alloc h.size o
theorem bdr {w w1 : World} (h : Below w.heap.size w w1) (n : Nat) : Below w.heap.size w (w1.drewN n) := below_drewN h n
theorem bdr1 {w w1 : World} (h : Below w.heap.size w w1) : Below w.heap.size w w1.drew := below_drewN h 1
theorem bcall {w w1 w2 : World} (h : Below w.heap.size w w1) (h2 : Below w1.heap.size w1 w2) : Below w.heap.size w w2 := h.trans (h2.mono h.size)
theorem bput {w w1 : World} (h : Below w.heap.size w w1) {p : Addr} (hp : w.heap.size ≤ p.block) (u : Value) : Below w.heap.size w (w1.setCell p u) := h.setCell hp u
theorem bapp {α : Type} {cd : Cod α} {w w1 w' : World} {A : Option Addr} {c : Nat} {l : List α} (h : Below w.heap.size w w1) (hown : OS cd w1 w.heap.size A c l) (hg : w1.grownBy w' (A.map (·.block))) : Below w.heap.size w w' :=
  below_app h hown hg (Nat.le_refl _) h.size
theorem sl_len {A : Option Addr} {n m c : Nat} (h : n = m) : Value.slice A n c = Value.slice A m c := by rw [h]
/-- a cell behind an allocation, and behind writes to another row -/
theorem cal {W : World} {o : Obj} {p : Addr} {v : Value} (h : p.block < W.heap.size) (hc : W.cell? p = some v) : (W.alloc o).cell? p = some v := (World.cell?_alloc_lt W o p h).trans hc
theorem cgr {W w' : World} {R : Option Nat} {p : Addr} {v : Value} (hg : W.grownBy w' R) (h : p.block < W.heap.size) (hne : some p.block ≠ R) (hc : W.cell? p = some v) : w'.cell? p = some v := (World.cell?_of_block (hg.block p.block h hne)).trans hc
theorem ne_map {A : Option Addr} {g base : Nat} (h : ∀ a, A = some a → base ≤ a.block) (hg : g < base) : some g ≠ A.map (·.block) := by
  cases A with
  | none => simp
  | some a => have := h a rfl; simp; omega
theorem cnew (W : World) (x : Value) (t : TypeId) {g : Nat} (h : W.heap.size = g) : (W.alloc (.cells #[x] t)).cell? ⟨g, 0, none⟩ = some x := by subst h; exact cell_new W x t
/-- a row that is filled from the left -/
theorem fill_put {α : Type} (z : List α) (k n : Nat) (a v : α) (hk : k < n) (hz : z[k]? = some v) : (z.take k ++ List.replicate (n - k) a).set k v = z.take (k + 1) ++ List.replicate (n - (k + 1)) a := by
  obtain ⟨m, hm⟩ : ∃ m, n - k = m + 1 := ⟨n - k - 1, by omega⟩
  have hm2 : n - (k + 1) = m := by omega
  have hl : (z.take k).length = k := by have := (List.getElem?_eq_some_iff.1 hz).1; simp; omega
  rw [hm, hm2, List.take_add_one, hz, List.replicate_succ, List.set_append, if_neg (by rw [hl]; omega), hl, Nat.sub_self, List.set_cons_zero, List.append_assoc]
  rfl
theorem fill_len {α : Type} (z : List α) (k n : Nat) (a : α) (hk : k ≤ n) (hz : z.length = n) : (z.take k ++ List.replicate (n - k) a).length = n := by simp; omega
theorem ret_int {k : IntKind} {a b : Int} (h : a = b) : Ending.returned (.int k a) = .returned (.int k b) := by rw [h]
theorem ret_bool {a b : Bool} (h : a = b) : Ending.returned (.bool a) = .returned (.bool b) := by rw [h]
theorem ret_true {b : Bool} (h : b = true) : Ending.returned (.bool b) = .returned (.bool true) := by rw [h]
end Go.Proofs.Ytnkngaicegcejaa

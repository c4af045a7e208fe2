/-
  Hex of the reference. Contracts alone; no statement is claimed here.
-/
import Derived.Test.YteeacbkhmofbeaaGreatCoreB
import Derived.Laws.IdiomStrings
import Derived.Lib.BufferRead
namespace Go.Proofs.YteeacbkhmofbeaaGreat
open Go.RowKit
attribute [local go_sem] pureUpon Ords.of

/-- a new row that is told by its elements -/
theorem OS.lit {α : Type} {cd : Cod α} (w : World) (l : List α) (cs : Array Value) (n : Nat) (hcs : cs = (l.map cd.enc).toArray) (hn : l.length = n) (hm : n ≤ maxLen) : OS cd (w.alloc (.cells cs cd.e)) w.heap.size (some ⟨w.heap.size, 0, none⟩) n l := by
  subst hcs; subst hn
  exact ⟨by simp, .inr ⟨w.heap.size, l.length, _, rfl, Nat.le_refl _, heap_alloc_new w _, Nat.le_refl _, hm, by simp, by rw [Nat.mul_one]; exact List.take_of_length_le (by simp)⟩⟩
def hexd (n : Nat) : UInt8 := [48, 49, 50, 51, 52, 53, 54, 55, 56, 57, 97, 98, 99, 100, 101, 102].getD n 0
def hexL : List UInt8 → List UInt8
  | [] => []
  | b :: l => hexd (b.toNat / 16) :: hexd (b.toNat % 16) :: hexL l
theorem hexL_snoc : ∀ (l : List UInt8) (b : UInt8), hexL (l ++ [b]) = hexL l ++ [hexd (b.toNat / 16), hexd (b.toNat % 16)]
  | [], _ => rfl
  | c :: l, b => by
    show hexd _ :: hexd _ :: hexL (l ++ [b]) = _
    rw [hexL_snoc l b]
    rfl
theorem hexL_len : ∀ l : List UInt8, (hexL l).length = 2 * l.length
  | [] => rfl
  | _ :: l => by
    show (hexL l).length + 1 + 1 = 2 * (l.length + 1)
    rw [hexL_len l]; omega
theorem index_hex (n : Nat) (h : n < 16) (k : IntKind) (w : World) : (Instr.index 9 (.string ⟨#[48, 49, 50, 51, 52, 53, 54, 55, 56, 57, 97, 98, 99, 100, 101, 102]⟩) (.int k n)).run Tryz.prog w = .ok (.int .u8 (byt (hexd n))) w := by
  have : n = 0 ∨ n = 1 ∨ n = 2 ∨ n = 3 ∨ n = 4 ∨ n = 5 ∨ n = 6 ∨ n = 7 ∨ n = 8 ∨ n = 9 ∨ n = 10 ∨ n = 11 ∨ n = 12 ∨ n = 13 ∨ n = 14 ∨ n = 15 := by omega
  rcases this with rfl | rfl | rfl | rfl | rfl | rfl | rfl | rfl | rfl | rfl | rfl | rfl | rfl | rfl | rfl | rfl <;> (show _ = _; kernel_rfl)
theorem pure_index_hex {o : Oper} {a : Act} {w : World} (y : Operand) (ho : o.op = .index 9 (.const (.string ⟨#[48, 49, 50, 51, 52, 53, 54, 55, 56, 57, 97, 98, 99, 100, 101, 102]⟩)) y) (n : Nat) (h : n < 16) (k : IntKind) (hy : a.eval y = .int k n) :
    pureUpon w (.int .u8 (byt (hexd n))) ((execOp a.eval o).run Tryz.prog w) := by
  have e : a.eval (.const (.string ⟨#[48, 49, 50, 51, 52, 53, 54, 55, 56, 57, 97, 98, 99, 100, 101, 102]⟩)) = .string ⟨#[48, 49, 50, 51, 52, 53, 54, 55, 56, 57, 97, 98, 99, 100, 101, 102]⟩ := rfl
  unfold execOp
  simp only [ho, e, hy, Sem.run_bind, Sem.run_pure, index_hex n h k w, Result.andThen_ok]
  exact ⟨rfl, rfl⟩
theorem take_snocL (l : List UInt8) (k : Nat) (b : UInt8) (h : l[k]? = some b) : l.take (k + 1) = l.take k ++ [b] := by rw [List.take_add_one, h]; rfl
/-- string(b) -/
theorem run_string {w : World} {B n c : Nat} {A : Option Addr} {l : List UInt8} (h : RS cB w B A l) (hl : l.length = n) :
    (convert 22 9 (.slice A n c)).run Tryz.prog w = .ok (.string ⟨l.toArray⟩) w := by
  subst hl
  cases A with
  | none =>
    have h0 : l = [] := by
      rcases Nat.eq_zero_or_pos l.length with h0 | h0
      · exact List.eq_nil_of_length_eq_zero h0
      · obtain ⟨a, e, _⟩ := h.2 h0; cases e
    subst h0
    exact Lib.run_convert_nil_bytes w _ _ 5 c Tryz.underlying22 Tryz.underlying5 Tryz.underlying9
  | some a =>
    refine run_convert_bytes_back w _ _ 5 a c l Tryz.underlying22 Tryz.underlying5 Tryz.underlying9 (fun j hj => ?_)
    obtain ⟨ad, x, e, _, hx, hcell⟩ := h.at_ hj
    cases e
    rw [hcell]
    have : l[j]? = some l[j] := List.getElem?_eq_getElem hj
    rw [hx] at this
    cases this
    rfl

theorem RS.marked (W : World) (l : List UInt8) (cs : Array Value) (fr : Nat × Nat) (g : Nat) (hcs : cs = (l.map cB.enc).toArray) (hg : W.heap.size = g) : RS cB (W.alloc (.cells cs cB.e fr)) (W.alloc (.cells cs cB.e fr)).heap.size (some ⟨g, 0, none⟩) l := by
  subst hcs; subst hg
  refine ⟨by simp, fun _ => ⟨_, rfl, by simp, fun j u hu => ?_⟩⟩
  have e : (⟨W.heap.size, 0, none⟩ : Addr).add j = ⟨W.heap.size, j, none⟩ := by unfold Addr.add; split <;> simp_all
  rw [e, cell_of_row _ _ j _ cB.e fr (heap_alloc_new W _)]
  simpa using hu
end Go.Proofs.YteeacbkhmofbeaaGreat

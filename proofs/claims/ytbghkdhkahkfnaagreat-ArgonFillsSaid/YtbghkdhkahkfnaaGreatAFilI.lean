/-
  Argon's memory as the reference has it: a row of byte slices. Contracts alone; no statement is claimed here.
-/
import Derived.Test.YtbghkdhkahkfnaaGreatAFilP
import Derived.Test.YtbghkdhkahkfnaaGreatTab
namespace Go.Proofs.YtbghkdhkahkfnaaGreat
open Go.RowKit

structure RIn (w : World) (H gm cap : Nat) (hs : List SV) (a : Ar) (F : AMem) (S : Nat → Nat → Prop) : Prop where
  row : OS cL w H (some ⟨gm, 0, none⟩) cap hs
  len : hs.length = a.ln * a.cl
  ent : ∀ l c, l < a.ln → c < a.cl → S l c → ∃ A k k', hs[l * a.cl + c]? = some ⟨A, k, F l c⟩ ∧ OS cB w H A k' (F l c) ∧ ∀ x, A = some x → x.block ≠ gm
theorem at_apart {C l c l' c' : Nat} (hc : c < C) (hc' : c' < C) (h : l * C + c = l' * C + c') : l = l' ∧ c = c' := by
 have h1 : (l * C + c) / C = l := by rw [Nat.mul_comm, Nat.mul_add_div (by omega), Nat.div_eq_of_lt hc, Nat.add_zero]
 have h2 : (l' * C + c') / C = l' := by rw [Nat.mul_comm, Nat.mul_add_div (by omega), Nat.div_eq_of_lt hc', Nat.add_zero]
 have e : l = l' := by rw [← h1, h, h2]
 subst e
 exact ⟨rfl, by omega⟩
theorem at_lt {L C l c : Nat} (hl : l < L) (hc : c < C) : l * C + c < L * C := by
 have h1 : (l + 1) * C ≤ L * C := Nat.mul_le_mul_right _ hl
 rw [Nat.succ_mul] at h1
 omega
section
variable {w w' : World} {H gm cap : Nat} {hs : List SV} {a : Ar} {F : AMem} {S S' : Nat → Nat → Prop}
theorem RIn.below (h : RIn w H gm cap hs a F S) (hb : Below w.heap.size w w') : RIn w' H gm cap hs a F S :=
 ⟨h.row.below hb (Nat.le_refl _), h.len, fun l c hl hc hs => by
  obtain ⟨A, k, k', h1, h2, h3⟩ := h.ent l c hl hc hs
  exact ⟨A, k, k', h1, h2.below hb (Nat.le_refl _), h3⟩⟩
theorem RIn.less (h : RIn w H gm cap hs a F S) (hS : ∀ l c, l < a.ln → c < a.cl → S' l c → S l c) : RIn w H gm cap hs a F S' :=
 ⟨h.row, h.len, fun l c hl hc hs => h.ent l c hl hc (hS l c hl hc hs)⟩
theorem RIn.put (h : RIn w H gm cap hs a F S) {l c k k' : Nat} {A : Option Addr} {b : List UInt8} (hl : l < a.ln) (hc : c < a.cl) (ho : OS cB w H A k' b) (hA : ∀ x, A = some x → x.block ≠ gm) (hS : ∀ l' c', l' < a.ln → c' < a.cl → S' l' c' → S l' c' ∨ (l' = l ∧ c' = c)) :
  RIn (w.setCell ⟨gm, l * a.cl + c, none⟩ (SV.v ⟨A, k, b⟩)) H gm cap (hs.set (l * a.cl + c) ⟨A, k, b⟩) a (putM F l c b) S' := by
 refine ⟨h.row.set (l * a.cl + c) ⟨A, k, b⟩, by rw [List.length_set]; exact h.len, fun l' c' hl' hc' hs' => ?_⟩
 by_cases e : l' = l ∧ c' = c
 ·obtain ⟨rfl, rfl⟩ := e
  refine ⟨A, k, k', ?_, ?_, hA⟩
  ·rw [List.getElem?_set_self (by rw [h.len]; exact at_lt hl hc)]
   unfold putM
   rw [if_pos ⟨rfl, rfl⟩]
  ·unfold putM
   rw [if_pos ⟨rfl, rfl⟩]
   exact ho.setFar (fun x hx => hA x hx) _
 ·rcases hS l' c' hl' hc' hs' with h1 | h1
  ·obtain ⟨A', q, q', e1, e2, e3⟩ := h.ent l' c' hl' hc' h1
   have hne : l * a.cl + c ≠ l' * a.cl + c' := fun e4 => by
    obtain ⟨e5, e6⟩ := at_apart hc hc' e4
    exact e ⟨e5.symm, e6.symm⟩
   unfold putM
   rw [if_neg e]
   exact ⟨A', q, q', by rw [List.getElem?_set_ne hne]; exact e1, e2.setFar (fun x hx => e3 x hx) _, e3⟩
  ·exact absurd h1 e
end
end Go.Proofs.YtbghkdhkahkfnaaGreat

/-
  A list of byte slices that the call itself has made: a row of slice values, each owning a row of bytes of its own. Lemmas alone; no statement is claimed here.
-/
import Derived.Test.YtbghkdhkahkfnaaCoreA
namespace Go.Proofs.Ytbghkdhkahkfnaa
open Go.RowKit

structure SV where
  A : Option Addr
  c : Nat
  l : List UInt8
def SV.v (s : SV) : Value := .slice s.A s.l.length s.c
def cL : Cod SV := ⟨24, 31, 24, .slice none 0 0, SV.v⟩
theorem cL_ok : cL.Ok Try.prog := ⟨Try.underlying31, by kernel_rfl, rfl, fun _ => rfl⟩
def SV.none : SV := ⟨Option.none, 0, []⟩

structure Parts (w : World) (base : Nat) (l : List SV) : Prop where
  own : ∀ (i : Nat) (s : SV), l[i]? = some s → OS cB w base s.A s.c s.l
  apart : ∀ (i j : Nat) (s t : SV), i ≠ j → l[i]? = some s → l[j]? = some t → ∀ (a b : Addr), s.A = some a → t.A = some b → a.block ≠ b.block

theorem Parts.nil (w : World) (base : Nat) : Parts w base [] := ⟨fun i s h => by simp at h, fun i j s t _ h => by simp at h⟩
theorem Parts.mono {w : World} {base B : Nat} {l : List SV} (h : Parts w base l) (hb : B ≤ base) : Parts w B l := ⟨fun i s hs => (h.own i s hs).mono hb, h.apart⟩
theorem Parts.alloc {w : World} {base : Nat} {l : List SV} (h : Parts w base l) (o : Obj) : Parts (w.alloc o) base l := ⟨fun i s hs => (h.own i s hs).alloc o, h.apart⟩
theorem Parts.drewN {w : World} {base : Nat} {l : List SV} (h : Parts w base l) (n : Nat) : Parts (w.drewN n) base l := ⟨h.own, h.apart⟩
theorem Parts.below {w w' : World} {base B : Nat} {l : List SV} (h : Parts w base l) (hb : Below B w w') (hB : w.heap.size ≤ B) : Parts w' base l := ⟨fun i s hs => (h.own i s hs).below hb hB, h.apart⟩

theorem os_blk_ne {w : World} {base base' : Nat} {A : Option Addr} {c c' g : Nat} {l : List UInt8} {m : List SV} (h : OS cB w base A c l) (h' : OS cL w base' (some ⟨g, 0, none⟩) c' m) : ∀ a, A = some a → a.block ≠ g := by
 intro a ha
 rcases h'.2 with ⟨hv, _⟩ | ⟨g', cap, cur, hv, _, hg, _⟩
 ·cases hv
 ·injection hv with hv
  injection hv with hv
  injection hv with hv
  subst hv
  have := own_blk_ne (t := cL.e) (cs := cur) h hg (by decide)
  subst ha
  intro e
  exact this (by rw [← e]; rfl)

theorem Parts.put {w w1 : World} {base : Nat} {l : List SV} (h : Parts w base l) {i : Nat} {s : SV} (hi : l[i]? = some s) (hg : w.grownBy w1 (s.A.map (·.block))) {t : SV} (ht : OS cB w1 base t.A t.c t.l)
  (hat : t.A.map (·.block) = s.A.map (·.block) ∨ t.A.map (·.block) = some w.heap.size) : Parts w1 base (l.set i t) := by
 have hil : i < l.length := (List.getElem?_eq_some_iff.1 hi).1
 have old : ∀ (j : Nat) (u : SV), j ≠ i → l[j]? = some u → OS cB w1 base u.A u.c u.l := fun j u hji hu =>
  (h.own j u hu).kept hg (fun a ha e => by
   cases hs : s.A with
   | none => rw [hs] at e; cases e
   | some b =>
    rw [hs] at e
    simp at e
    exact h.apart j i u s hji hu hi a b ha hs e.symm)
 have far : ∀ (j : Nat) (u : SV), j ≠ i → l[j]? = some u → ∀ (a b : Addr), u.A = some a → t.A = some b → a.block ≠ b.block := fun j u hji hu a b ha hb e => by
  have hlt := (h.own j u hu).block_lt a ha
  rcases hat with hat | hat
  ·cases hs : s.A with
   | none => rw [hs, hb] at hat; cases hat
   | some c =>
    rw [hs, hb] at hat
    simp at hat
    exact h.apart j i u s hji hu hi a c ha hs (e.trans hat)
  ·rw [hb] at hat
   simp at hat
   omega
 refine ⟨fun j u hu => ?_, fun j k u v hjk hu hv a b ha hb => ?_⟩
 ·by_cases hji : j = i
  ·subst hji
   rw [List.getElem?_set_self hil] at hu
   injection hu with hu; subst hu
   exact ht
  ·rw [List.getElem?_set_ne (Ne.symm hji)] at hu
   exact old j u hji hu
 ·by_cases hji : j = i
  ·subst hji
   rw [List.getElem?_set_self hil] at hu
   injection hu with hu; subst hu
   rw [List.getElem?_set_ne hjk] at hv
   exact (far k v (Ne.symm hjk) hv b a hb ha).symm
  ·rw [List.getElem?_set_ne (Ne.symm hji)] at hu
   by_cases hki : k = i
   ·subst hki
    rw [List.getElem?_set_self hil] at hv
    injection hv with hv; subst hv
    exact far j u hji hu a b ha hb
   ·rw [List.getElem?_set_ne (Ne.symm hki)] at hv
    exact h.apart j k u v hjk hu hv a b ha hb
theorem Parts.setFar {w : World} {base : Nat} {l : List SV} (h : Parts w base l) {p : Addr} (hp : ∀ (i : Nat) (s : SV) (a : Addr), l[i]? = some s → s.A = some a → a.block ≠ p.block) (u : Value) : Parts (w.setCell p u) base l :=
 ⟨fun i s hs => (h.own i s hs).setFar (fun a ha => hp i s a hs ha) u, h.apart⟩

structure Tab (w : World) (base g c : Nat) (l : List SV) : Prop where
  row : OS cL w base (some ⟨g, 0, none⟩) c l
  parts : Parts w base l

theorem Tab.mono {w : World} {base B g c : Nat} {l : List SV} (h : Tab w base g c l) (hb : B ≤ base) : Tab w B g c l := ⟨h.row.mono hb, h.parts.mono hb⟩
theorem Tab.alloc {w : World} {base g c : Nat} {l : List SV} (h : Tab w base g c l) (o : Obj) : Tab (w.alloc o) base g c l := ⟨h.row.alloc o, h.parts.alloc o⟩
theorem Tab.drew {w : World} {base g c : Nat} {l : List SV} (h : Tab w base g c l) : Tab w.drew base g c l := ⟨h.row, ⟨h.parts.own, h.parts.apart⟩⟩
theorem Tab.drewN {w : World} {base g c : Nat} {l : List SV} (h : Tab w base g c l) (n : Nat) : Tab (w.drewN n) base g c l := ⟨h.row, h.parts.drewN n⟩
theorem Tab.below {w w' : World} {base B g c : Nat} {l : List SV} (h : Tab w base g c l) (hb : Below B w w') (hB : w.heap.size ≤ B) : Tab w' base g c l := ⟨h.row.below hb hB, h.parts.below hb hB⟩
theorem Tab.row_kept {w w1 : World} {base g c : Nat} {l : List SV} (h : Tab w base g c l) {i : Nat} {s : SV} (hi : l[i]? = some s) (hg : w.grownBy w1 (s.A.map (·.block))) : OS cL w1 base (some ⟨g, 0, none⟩) c l :=
 h.row.kept hg (fun a ha e => by
  injection ha with ha; subst ha
  cases hs : s.A with
  | none => rw [hs] at e; cases e
  | some b =>
   rw [hs] at e
   simp at e
   exact os_blk_ne (h.parts.own i s hi) h.row b hs e)
theorem Tab.far {w w1 : World} {base g c : Nat} {l : List SV} (h : Tab w base g c l) {i : Nat} {s : SV} (hi : l[i]? = some s) (hg : w.grownBy w1 (s.A.map (·.block))) :
  w1.cell? ⟨g, i, none⟩ = some s.v ∧ w1.frozen? ⟨g, i, none⟩ = false := by
 have hil : i < l.length := (List.getElem?_eq_some_iff.1 hi).1
 obtain ⟨g', x, e, _, _, ex, hc, hf⟩ := (h.row_kept hi hg).at_ hil
 injection e with e; injection e with e; subst e
 rw [hi] at ex; injection ex with ex; subst ex
 exact ⟨hc, hf⟩
theorem Tab.put {w w1 : World} {base g c : Nat} {l : List SV} (h : Tab w base g c l) {i : Nat} {s : SV} (hi : l[i]? = some s) (hg : w.grownBy w1 (s.A.map (·.block))) {t : SV} (ht : OS cB w1 base t.A t.c t.l)
  (hat : t.A.map (·.block) = s.A.map (·.block) ∨ t.A.map (·.block) = some w.heap.size) : Tab (w1.setCell ⟨g, i, none⟩ t.v) base g c (l.set i t) := by
 have hrow := h.row_kept hi hg
 have hp := h.parts.put hi hg ht hat
 refine ⟨hrow.set i t, hp.setFar (fun j u a hu ha => ?_) _⟩
 exact os_blk_ne (hp.own j u hu) hrow a ha

end Go.Proofs.Ytbghkdhkahkfnaa

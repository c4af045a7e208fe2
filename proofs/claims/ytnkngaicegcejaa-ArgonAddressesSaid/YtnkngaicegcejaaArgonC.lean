/-
  The reference block that a number draws, by the program and by the reference. Contracts alone; no statement is claimed here.
-/
import Derived.Test.YtnkngaicegcejaaArgonB
import Derived.Test.YtnkngaicegcejaaBlendP
import Derived.Deep.CutRange
namespace Go.Proofs.Ytnkngaicegcejaa
open Go.RowKit
attribute [local go_sem] pureUpon Ords.of

def spotBad (a : Ar) (p s l x : Int) : Prop := p < 0 ∨ a.passes ≤ p ∨ s < 0 ∨ 3 < s ∨ l < 0 ∨ a.lanes ≤ l ∨ x < 0 ∨ a.seg ≤ x ∨ (p = 0 ∧ s = 0 ∧ x < 2)
def hiOf (j : UInt64) : Int := ((j.toNat / 4294967296 : Nat) : Int)
def refL (a : Ar) (p s l : Int) (j : UInt64) : Int := if p = 0 ∧ s = 0 then l else hiOf j % a.lanes
def refWhole (a : Ar) (p s : Int) : Int := if p = 0 then s * a.seg else 3 * a.seg
def refStart (a : Ar) (p s : Int) : Int := if p = 0 ∨ s = 3 then 0 else (s + 1) * a.seg
def areaOf (L l whole x : Int) : Int := if L = l then whole + x - 1 else if x = 0 then whole - 1 else whole
def quotOf (area : Int) (j : UInt64) : Int := area * ((lo j * lo j) / 4294967296) / 4294967296
def refZ (a : Ar) (p s l x : Int) (j : UInt64) : Int :=
  let area := areaOf (refL a p s l j) l (refWhole a p s) x
  (refStart a p s + area - 1 - quotOf area j) % (4 * a.seg)

/-- what the walk must know of a spot that may be -/
structure Known (a : Ar) (p s l x : Int) (j : UInt64) (g ll v o oo W S A q Z : Int) : Prop where
  g2 : 2 ≤ g
  g1024 : g ≤ 1024
  l1 : 1 ≤ ll
  l8 : ll ≤ 8
  s0 : 0 ≤ s
  s3 : s ≤ 3
  lane : 0 ≤ l ∧ l < ll
  x0 : 0 ≤ x
  xg : x < g
  v0 : 0 ≤ v
  v8 : v < ll
  vt : (wrd j / 4294967296).tmod ll = v
  ve : (wrd j / 4294967296) % ll = v
  lo_ : lo j = o
  o0 : 0 ≤ o
  o1 : o < 4294967296
  ow : IntKind.u64.wrap (o * o) = o * o
  oo_ : o * o / 4294967296 = oo
  oo0 : 0 ≤ oo
  oo1 : oo < 4294967296
  sg0 : 0 ≤ s * g
  sg1 : s * g ≤ 3 * g
  sg2 : (s + 1) * g = s * g + g
  W_ : W = if p = 0 then s * g else 3 * g
  S_ : S = if p = 0 ∨ s = 3 then 0 else (s + 1) * g
  A_ : A = areaOf (refL a p s l j) l W x
  L_ : refL a p s l j = if p = 0 ∧ s = 0 then l else v
  A1 : 1 ≤ A
  A2 : A < 4 * g
  S0 : 0 ≤ S
  S1 : S ≤ 4 * g
  aw : IntKind.u64.wrap (A * oo) = A * oo
  q_ : A * oo / 4294967296 = q
  q0 : 0 ≤ q
  q1 : q < A
  Zt : (S + A - 1 - q).tmod (4 * g) = Z
  Z0 : 0 ≤ Z
  Z1 : Z < 4 * g

set_option linter.unusedSimpArgs false in
theorem known {a : Ar} (h : a.ok) {p s l x : Int} (j : UInt64) (hb : ¬ spotBad a p s l x) : ∃ v o oo W S A q, Known a p s l x j a.seg a.lanes v o oo W S A q (refZ a p s l x j) := by
  obtain ⟨h1, h2, _⟩ := seg_range h
  unfold Ar.ok at h
  unfold spotBad at hb
  have hs : s = 0 ∨ s = 1 ∨ s = 2 ∨ s = 3 := by omega
  have sg : 0 ≤ s * a.seg ∧ s * a.seg ≤ 3 * a.seg ∧ (s + 1) * a.seg = s * a.seg + a.seg ∧ (s ≠ 0 → a.seg ≤ s * a.seg) ∧ (s ≠ 3 → s * a.seg ≤ 2 * a.seg) := by
    rcases hs with rfl | rfl | rfl | rfl <;> omega
  obtain ⟨sg0, sg1, sg2, sg3, sg4⟩ := sg
  have hlanes : 0 < a.lanes := by omega
  have hhi : 0 ≤ hiOf j := by unfold hiOf; omega
  have hw : wrd j / 4294967296 = hiOf j := by unfold hiOf wrd; omega
  have hv0 := Int.emod_nonneg (hiOf j) (show a.lanes ≠ 0 by omega)
  have hv1 := Int.emod_lt_of_pos (hiOf j) hlanes
  have ho : 0 ≤ lo j ∧ lo j < 4294967296 := by unfold lo; omega
  have hoo : 0 ≤ lo j * lo j ∧ lo j * lo j ≤ 4294967295 * 4294967295 := ⟨Int.mul_nonneg ho.1 ho.1, Int.mul_le_mul (by omega) (by omega) ho.1 (by omega)⟩
  have hl : refL a p s l j = if p = 0 ∧ s = 0 then l else hiOf j % a.lanes := rfl
  have hA : 1 ≤ areaOf (refL a p s l j) l (refWhole a p s) x ∧ areaOf (refL a p s l j) l (refWhole a p s) x < 4 * a.seg := by
    unfold areaOf refWhole
    rw [hl]
    by_cases hp : p = 0 <;> by_cases hs0 : s = 0 <;> simp only [hp, hs0, true_and, and_true, false_and, and_false, if_true, if_false] <;> (repeat' split) <;> (try subst hs0) <;> omega
  obtain ⟨A1, A2⟩ := hA
  have hS : 0 ≤ refStart a p s ∧ refStart a p s ≤ 4 * a.seg := by
    unfold refStart
    split <;> omega
  generalize hAA : areaOf (refL a p s l j) l (refWhole a p s) x = A at *
  have hoo2 : 0 ≤ lo j * lo j / 4294967296 ∧ lo j * lo j / 4294967296 < 4294967296 := by omega
  have haoo : 0 ≤ A * (lo j * lo j / 4294967296) ∧ A * (lo j * lo j / 4294967296) ≤ A * 4294967295 := ⟨Int.mul_nonneg (by omega) hoo2.1, Int.mul_le_mul_of_nonneg_left (by omega) (by omega)⟩
  have hz : refZ a p s l x j = (refStart a p s + A - 1 - A * (lo j * lo j / 4294967296) / 4294967296) % (4 * a.seg) := by
    unfold refZ quotOf; simp only [hAA]
  have hq : 0 ≤ A * (lo j * lo j / 4294967296) / 4294967296 ∧ A * (lo j * lo j / 4294967296) / 4294967296 < A := by omega
  refine ⟨hiOf j % a.lanes, lo j, lo j * lo j / 4294967296, refWhole a p s, refStart a p s, A, A * (lo j * lo j / 4294967296) / 4294967296, ?_⟩
  exact { g2 := h1, g1024 := h2, l1 := by omega, l8 := by omega, s0 := by omega, s3 := by omega, lane := by omega, x0 := by omega, xg := by omega, v0 := hv0, v8 := hv1,
          vt := by rw [hw, Int.tmod_eq_emod_of_nonneg hhi], ve := by rw [hw], lo_ := rfl, o0 := ho.1, o1 := ho.2, ow := by rw [wrap_u64]; omega, oo_ := rfl, oo0 := hoo2.1, oo1 := hoo2.2, sg0 := sg0, sg1 := sg1, sg2 := sg2,
          W_ := rfl, S_ := rfl, A_ := hAA.symm, L_ := hl, A1 := A1, A2 := A2, S0 := hS.1, S1 := hS.2, aw := by rw [wrap_u64]; omega, q_ := rfl, q0 := hq.1, q1 := hq.2,
          Zt := by rw [hz, Int.tmod_eq_emod_of_nonneg (by omega)], Z0 := by rw [hz]; exact Int.emod_nonneg _ (by omega), Z1 := by rw [hz]; exact Int.emod_lt_of_pos _ (by omega) }
end Go.Proofs.Ytnkngaicegcejaa

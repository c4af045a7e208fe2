/-
  Argon's memory, told plainly. Lemmas alone; no statement is claimed here.
-/
import Derived.Test.YtbghkdhkahkfnaaAr
import Derived.Test.YtbghkdhkahkfnaaHx
namespace Go.Proofs.Ytbghkdhkahkfnaa
open Go.RowKit

abbrev AMem := Nat → Nat → List UInt8
def Ar.sg (a : Ar) : Nat := a.seg.toNat
def Ar.ln (a : Ar) : Nat := a.lanes.toNat
def Ar.cl (a : Ar) : Nat := 4 * a.sg
def drawnB (a : Ar) (p s : Nat) : Bool := decide (a.kind = 1) || (decide (a.kind = 2) && decide (p = 0) && decide (s < 2))
def jOf (a : Ar) (p s l x : Nat) (ahead : List UInt8) : UInt64 := if drawnB a p s then adrW a p s l x else word (ahead.take 8)
def aheadC (a : Ar) (s x : Nat) : Nat := (s * a.sg + x + a.cl - 1) % a.cl
def aRef (a : Ar) (p s l x : Nat) (F : AMem) : Nat × Nat :=
  let j := jOf a p s l x (F l (aheadC a s x))
  ((refL a p s l j).toNat, (refZ a p s l x j).toNat)
def newB (a : Ar) (p s l x : Nat) (F : AMem) : List UInt8 :=
  let r := aRef a p s l x F
  if p = 0 then mixB (F l (aheadC a s x)) (F r.1 r.2) else xorB (mixB (F l (aheadC a s x)) (F r.1 r.2)) (F l (s * a.sg + x))
def putM (F : AMem) (l c : Nat) (b : List UInt8) : AMem := fun l' c' => if l' = l ∧ c' = c then b else F l' c'
def stepM (a : Ar) (p s l x : Nat) (F : AMem) : AMem := if p = 0 ∧ s = 0 ∧ x < 2 then F else putM F l (s * a.sg + x) (newB a p s l x F)
def segM (a : Ar) (p s l : Nat) (F : AMem) : Nat → AMem
  | 0 => F
  | x + 1 => stepM a p s l x (segM a p s l F x)
def sliceM (a : Ar) (p s : Nat) (F : AMem) : Nat → AMem
  | 0 => F
  | l + 1 => segM a p s l (sliceM a p s F l) a.sg
def passM (a : Ar) (p : Nat) (F : AMem) : Nat → AMem
  | 0 => F
  | s + 1 => sliceM a p s (passM a p F s) a.ln
def allM (a : Ar) (F : AMem) : Nat → AMem
  | 0 => F
  | p + 1 => passM a p (allM a F p) 4
def firstB (start : List UInt8) (l c : Nat) : List UInt8 := longL 1024 (start ++ storeN c 4 ++ storeN l 4)
def startM (start : List UInt8) : AMem := fun l c => if c < 2 then firstB start l c else zeroB
theorem startM_len (start : List UInt8) (l c : Nat) : (startM start l c).length = 1024 := by
 unfold startM firstB
 split
 ·exact longL_len _ _
 ·exact zeroB_len
structure ArN (a : Ar) : Prop where
  sg : a.seg = (a.sg : Int)
  ln : a.lanes = (a.ln : Int)
  s2 : 2 ≤ a.sg
  s3 : a.sg ≤ 1024
  l1 : 1 ≤ a.ln
  l8 : a.ln ≤ 8
  lc : a.ln * a.cl ≤ 4096
theorem Ar.n {a : Ar} (h : a.ok) : ArN a := by
 obtain ⟨h1, h2, -⟩ := seg_range h
 have h3 : 1 ≤ a.lanes ∧ a.lanes ≤ 8 := by unfold Ar.ok at h; omega
 have hm : a.mem ≤ 4096 ∧ 0 ≤ a.mem := by unfold Ar.ok at h; omega
 have e1 : a.seg = (a.sg : Int) := by unfold Ar.sg; omega
 have e2 : a.lanes = (a.ln : Int) := by unfold Ar.ln; omega
 refine ⟨e1, e2, by omega, by omega, by omega, by omega, ?_⟩
 have h4 : a.seg * (4 * a.lanes) ≤ a.mem := by
  unfold Ar.seg
  exact Int.ediv_mul_le _ (by omega)
 rw [e1, e2] at h4
 have h5 : (a.ln * a.cl : Nat) = a.sg * (4 * a.ln) := by unfold Ar.cl; rw [Nat.mul_left_comm, Nat.mul_comm a.ln, ← Nat.mul_assoc, Nat.mul_comm 4 a.sg, Nat.mul_assoc]
 have h6 : ((a.sg * (4 * a.ln) : Nat) : Int) = (a.sg : Int) * (4 * (a.ln : Int)) := by push_cast; rfl
 omega
def Stood (a : Ar) (p s l x l' c' : Nat) : Prop := p ≠ 0 ∨ c' < 2 ∨ c' < s * a.sg ∨ (l' < l ∧ c' < (s + 1) * a.sg) ∨ (l' = l ∧ c' < s * a.sg + x)
structure SpotOk (a : Ar) (p s l x : Nat) : Prop where
  ok : a.ok
  p_ : (p : Int) < a.passes
  s_ : s < 4
  l_ : l < a.ln
  x_ : x < a.sg
  n0 : ¬ (p = 0 ∧ s = 0 ∧ x < 2)
theorem SpotOk.bad {a : Ar} {p s l x : Nat} (h : SpotOk a p s l x) : ¬ spotBad a p s l x := by
 have hn := Ar.n h.ok
 have h1 := h.p_; have h2 := h.s_; have h3 := h.l_; have h4 := h.x_; have h5 := h.n0
 have e1 := hn.sg; have e2 := hn.ln
 unfold spotBad
 omega
theorem SpotOk.col {a : Ar} {p s l x : Nat} (h : SpotOk a p s l x) : s * a.sg + x < a.cl := by
 have h2 := h.s_; have h4 := h.x_
 unfold Ar.cl
 have : s * a.sg ≤ 3 * a.sg := Nat.mul_le_mul_right _ (by omega)
 omega
theorem SpotOk.ahead {a : Ar} {p s l x : Nat} (h : SpotOk a p s l x) : aheadC a s x < a.cl ∧ (p = 0 → aheadC a s x + 1 = s * a.sg + x) := by
 have hc := h.col
 have hn := Ar.n h.ok
 have h5 := h.n0
 have hs2 := hn.s2
 have hpos : 0 < a.cl := by unfold Ar.cl; omega
 refine ⟨Nat.mod_lt _ hpos, fun hp => ?_⟩
 have h1 : 1 ≤ s * a.sg + x := by
  by_cases hs : s = 0
  ·subst hs; omega
  ·have : 1 * a.sg ≤ s * a.sg := Nat.mul_le_mul_right _ (by omega)
   omega
 unfold aheadC
 rw [show s * a.sg + x + a.cl - 1 = (s * a.sg + x - 1) + a.cl by omega, Nat.add_mod_right, Nat.mod_eq_of_lt (by omega)]
 omega
structure RefIn (a : Ar) (p s l x : Nat) (j : UInt64) (rl rc : Nat) : Prop where
  l_ : refL a p s l j = (rl : Int)
  z_ : refZ a p s l x j = (rc : Int)
  ll : rl < a.ln
  cc : rc < a.cl
  st : Stood a p s l x rl rc
  /-- it is never the block itself, and of another lane never in the slice that is being filled -/
  self : rl = l → rc ≠ s * a.sg + x
  far : rl ≠ l → rc / a.sg ≠ s
theorem SpotOk.ref {a : Ar} {p s l x : Nat} (h : SpotOk a p s l x) (j : UInt64) : RefIn a p s l x j (refL a p s l j).toNat (refZ a p s l x j).toNat := by
 obtain ⟨y, r, K⟩ := apart_plain h.ok j h.bad
 have hn := Ar.n h.ok
 have e1 := hn.sg; have e2 := hn.ln
 have l0 := K.l0; have l1 := K.l1; have z0 := K.z0; have z1 := K.z1; have far := K.far; have near := K.near; have hy := K.y_
 clear K
 obtain ⟨rl, hrl⟩ : ∃ n : Nat, refL a p s l j = n := ⟨(refL a p s l j).toNat, by omega⟩
 obtain ⟨rc, hrc⟩ : ∃ n : Nat, refZ a p s l x j = n := ⟨(refZ a p s l x j).toNat, by omega⟩
 rw [hrl] at l0 l1 far near ⊢
 rw [hrc] at z0 z1 far near hy ⊢
 simp only [Int.toNat_natCast]
 rw [e1] at z1 far near hy
 have hq : ((rc / a.sg : Nat) : Int) = y := by rw [← hy]; rfl
 have hsg : ((s * a.sg : Nat) : Int) = (s : Int) * (a.sg : Int) := by push_cast; rfl
 refine ⟨hrl, hrc, by omega, by unfold Ar.cl; omega, ?_, ?_, ?_⟩
 ·show Stood a p s l x rl rc
  unfold Stood
  by_cases hp : p = 0
  ·by_cases hl : (rl : Int) = (l : Int)
   ·have h3 := (near hl).2.2
    rw [← hsg] at h3
    refine .inr (.inr (.inr (.inr ⟨by omega, by omega⟩)))
   ·have h3 := (far hl).2
    rw [← hsg] at h3
    refine .inr (.inr (.inl (by omega)))
  ·exact .inl hp
 ·show rl = l → rc ≠ s * a.sg + x
  intro hl hz
  have h3 := (near (by omega)).1
  rw [← hsg] at h3
  omega
 ·show rl ≠ l → rc / a.sg ≠ s
  intro hl hz
  have h3 := (far (by omega)).1
  omega
theorem newB_len (a : Ar) (p s l x : Nat) (F : AMem) (hF : ∀ l c, (F l c).length = 1024) : (newB a p s l x F).length = 1024 := by
 unfold newB
 dsimp only
 split
 ·exact mixB_len _ _
 ·rw [xorB_len _ _ (by rw [hF, mixB_len])]
  exact mixB_len _ _
theorem stepM_len (a : Ar) (p s l x : Nat) (F : AMem) (hF : ∀ l c, (F l c).length = 1024) : ∀ l' c', (stepM a p s l x F l' c').length = 1024 := by
 intro l' c'
 unfold stepM
 split
 ·exact hF _ _
 ·unfold putM
  split
  ·exact newB_len a p s l x F hF
  ·exact hF _ _
theorem segM_len (a : Ar) (p s l : Nat) (F : AMem) (hF : ∀ l c, (F l c).length = 1024) : ∀ x l' c', (segM a p s l F x l' c').length = 1024
 | 0 => hF
 | x + 1 => stepM_len a p s l x _ (segM_len a p s l F hF x)
theorem sliceM_len (a : Ar) (p s : Nat) (F : AMem) (hF : ∀ l c, (F l c).length = 1024) : ∀ n l' c', (sliceM a p s F n l' c').length = 1024
 | 0 => hF
 | n + 1 => segM_len a p s n _ (sliceM_len a p s F hF n) _
theorem passM_len (a : Ar) (p : Nat) (F : AMem) (hF : ∀ l c, (F l c).length = 1024) : ∀ n l' c', (passM a p F n l' c').length = 1024
 | 0 => hF
 | n + 1 => sliceM_len a p n _ (passM_len a p F hF n) _
theorem allM_len (a : Ar) (F : AMem) (hF : ∀ l c, (F l c).length = 1024) : ∀ n l' c', (allM a F n l' c').length = 1024
 | 0 => hF
 | n + 1 => passM_len a n _ (allM_len a F hF n) _
theorem Stood.more {a : Ar} {p s l x l' c' : Nat} (h : Stood a p s l x l' c') : Stood a p s l (x + 1) l' c' := by
 unfold Stood at *
 omega
theorem Stood.lane {a : Ar} {p s l l' c' : Nat} (h : Stood a p s (l + 1) 0 l' c') : Stood a p s l a.sg l' c' := by
 unfold Stood at *
 have : (s + 1) * a.sg = s * a.sg + a.sg := Nat.succ_mul _ _
 omega
theorem Stood.slice {a : Ar} {p s l' c' : Nat} (h : Stood a p (s + 1) 0 0 l' c') (hl : l' < a.ln) : Stood a p s a.ln 0 l' c' := by
 unfold Stood at *
 omega
theorem Stood.pass {a : Ar} {p l' c' : Nat} (hc : c' < a.cl) : Stood a p 4 0 0 l' c' := by
 unfold Stood Ar.cl at *
 omega
theorem Stood.start {a : Ar} {l' c' : Nat} (h : Stood a 0 0 0 0 l' c') : c' < 2 := by
 unfold Stood at h
 omega
end Go.Proofs.Ytbghkdhkahkfnaa

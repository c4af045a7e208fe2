/-
  The calls of all nodes of a message dealt out over lanes, in plain Lean, and how they stand in memory. Lemmas alone; no statement is claimed here.
-/
import Derived.Test.YtghpofnaojbbkaaGreatWide
import Derived.Test.YtghpofnaojbbkaaGreatLanP
namespace Go.Proofs.YtghpofnaojbbkaaGreat
open Go.RowKit

def lnOf (big : Bool) : Nat := if big then 4 else 8
def blOf (big : Bool) : Nat := if big then 128 else 64

structure CP where
  b : List UInt8
  key : List UInt8
  last : Bool
  m : Int
  data : List UInt8
def CP.out (k : Int) (c : CP) : List UInt8 × Int := callS k c.b c.key c.last c.m c.data

structure LP where
  big : Bool
  digest : Int
  key : List UInt8
  ls : List UInt8
  lp : List UInt8
  data : List UInt8
def LP.par (P : LP) (i : Nat) (s t : Sl) : Pr := lanePar (lnOf P.big) (bOf P.big) P.digest P.key.length i s t
def LP.blk (P : LP) (i : Nat) : List UInt8 := encL P.big (P.par i Sl.nil Sl.nil) P.ls P.lp
def LP.lane (P : LP) (i : Nat) : CP := ⟨P.blk i, P.key, decide (lnOf P.big - 1 ≤ i), bOf P.big, laneB (lnOf P.big) (blOf P.big) i P.data⟩
def LP.outs (P : LP) : Nat → List UInt8
  | 0 => []
  | k + 1 => P.outs k ++ ((P.lane k).out (kOf P.big)).1
def LP.root (P : LP) : CP := ⟨P.blk (lnOf P.big), [], true, P.digest, P.outs (lnOf P.big)⟩
def LP.call (P : LP) (i : Nat) : CP := if i < lnOf P.big then P.lane i else P.root
def LP.err (P : LP) : Int := chk (kOf P.big) (P.par (lnOf P.big) ⟨none, P.ls.length, 0⟩ ⟨none, P.lp.length, 0⟩)

theorem lnOf_pos (big : Bool) : 4 ≤ lnOf big ∧ lnOf big ≤ 8 := by cases big <;> decide
theorem callS_le (k : Int) (b key : List UInt8) (last : Bool) (m : Int) (data : List UInt8) : (callS k b key last m data).1.length ≤ 64 :=
 call_ways (P := fun R => R.1.length ≤ 64) k b key last m data (fun _ _ => Nat.zero_le _) (fun _ _ _ => Nat.zero_le _) (fun _ _ _ _ _ => Nat.zero_le _) (fun _ _ _ _ _ => Nat.zero_le _) (fun big _ _ _ n _ hn => by
  have h1 : bOf big ≤ 64 := by cases big <;> decide
  show (List.take n _).length ≤ 64
  rw [List.length_take]
  omega)
theorem LP.outs_le (P : LP) : ∀ k, (P.outs k).length ≤ 64 * k
 | 0 => Nat.le_refl _
 | k + 1 => by
  have h1 := P.outs_le k
  have h2 := callS_le (kOf P.big) (P.lane k).b (P.lane k).key (P.lane k).last (P.lane k).m (P.lane k).data
  show (P.outs k ++ ((P.lane k).out (kOf P.big)).1).length ≤ _
  rw [List.length_append]
  unfold CP.out
  omega
theorem LP.call_lt (P : LP) {i : Nat} (h : i < lnOf P.big) : P.call i = P.lane i := if_pos h
theorem LP.call_root (P : LP) : P.call (lnOf P.big) = P.root := if_neg (Nat.lt_irrefl _)

theorem encTo_par (P : LP) (i : Nat) (s t : Sl) : ∀ k, encTo P.big (P.par i s t) k = encTo P.big (P.par i Sl.nil Sl.nil) k
 | 0 => rfl
 | k + 1 => by
  unfold encTo
  rw [encTo_par P i s t k]
  rfl
theorem LP.blk_eq (P : LP) (i : Nat) (s t : Sl) : encL P.big (P.par i s t) P.ls P.lp = P.blk i := by
 unfold LP.blk encL
 rw [encTo_par]
theorem LP.fit (P : LP) (i : Nat) (h : i ≤ lnOf P.big) (s t : Sl) : (P.par i s t).Fit := by
 have h8 := lnOf_pos P.big
 refine ⟨⟨Int.le_refl _, by show (0 : Int) < _; decide⟩, ?_, ⟨Int.le_refl _, by show (0 : Int) < _; decide⟩⟩
 show 0 ≤ (if (i : Int) = _ then (0 : Int) else i) ∧ (if (i : Int) = _ then (0 : Int) else i) < 18446744073709551616
 split <;> omega
theorem LP.chk_eq (P : LP) (i : Nat) (h : i ≤ lnOf P.big) (s t : Sl) (hs : P.ls.length = s.n) (ht : P.lp.length = t.n) : chk (kOf P.big) (P.par i s t) = P.err := by
 have h8 := lnOf_pos P.big
 have e : ∀ j : Nat, j ≤ lnOf P.big → ∀ s t : Sl, chk (kOf P.big) (P.par j s t) = if mostOf (kOf P.big) = 0 then 1 else if P.digest < 1 ∨ mostOf (kOf P.big) < P.digest then 20 else if (P.key.length : Int) < 0 ∨ mostOf (kOf P.big) < P.key.length then 8
   else if (lnOf P.big : Int) < 0 ∨ 255 < (lnOf P.big : Int) then 21 else if (bOf P.big : Int) < 0 ∨ mostOf (kOf P.big) < (bOf P.big : Int) then 26 else if mostOf (kOf P.big) < 4 * s.n then 27 else if mostOf (kOf P.big) < 4 * t.n then 28 else 0 := by
  intro j hj s t
  unfold chk LP.par lanePar
  dsimp only
  have o1 : ¬ (((0 : Int) ≠ 0 ∧ 4294967296 ≤ (if (j : Int) = (lnOf P.big : Int) then (0 : Int) else j)) ∨ ((0 : Int) = 0 ∧ kOf P.big = 2 ∧ 281474976710656 ≤ (if (j : Int) = (lnOf P.big : Int) then (0 : Int) else j))) := by
   split <;> omega
  have o2 : ¬ ((2 : Int) < 0 ∨ (255 : Int) < 2 ∨ ((2 : Int) = 0 ∧ (0 : Int) = 0)) := by omega
  have o3 : ¬ (kOf P.big = 2 ∧ (65535 : Int) < 0) := by omega
  have o4 : ¬ ((if (j : Int) = (lnOf P.big : Int) then (1 : Int) else 0) < 0 ∨ 255 < (if (j : Int) = (lnOf P.big : Int) then (1 : Int) else 0)) := by split <;> omega
  rw [if_neg o1, if_neg o2, if_neg o3, if_neg o4]
 unfold LP.err
 rw [e i h, e (lnOf P.big) (Nat.le_refl _), hs, ht]

structure CIn (w : World) (k : Int) (x : CC) (c : CP) : Prop where
  kd : x.k = k
  last : x.last = c.last
  m : x.m = c.m
  inn : CallIn w x.b x.key x.data c.b c.key c.data
def Sl.apart (s : Sl) (R : Option Nat) : Prop := 0 < s.n → ∀ a, s.A = some a → R ≠ some a.block
def CC.apart (x : CC) (R : Option Nat) : Prop := x.b.apart R ∧ x.key.apart R ∧ x.data.apart R
theorem RS.kept {α : Type} {cd : Cod α} {w w' : World} {A : Option Addr} {l : List α} {row : Option Nat} (h : RS cd w w.heap.size A l) (hg : w.grownBy w' row) (hne : 0 < l.length → ∀ a, A = some a → row ≠ some a.block) : RS cd w' w'.heap.size A l := by
 refine ⟨h.1, fun hn => ?_⟩
 obtain ⟨ad, e, hb, hc⟩ := h.2 hn
 refine ⟨ad, e, Nat.lt_of_lt_of_le hb hg.size, fun j u hu => ?_⟩
 rw [← hc j u hu]
 refine World.cell?_of_block ?_
 rw [block_of_add]
 exact hg.block ad.block hb (fun e2 => hne hn ad e e2.symm)
theorem RS.lowC {α : Type} {cd : Cod α} {w : World} {B : Nat} {A : Option Addr} {l : List α} (h : RS cd w B A l) (hn : 0 < l.length) : ∀ a, A = some a → a.block < B := by
 intro a ha
 obtain ⟨ad, e, hb, -⟩ := h.2 hn
 rw [ha] at e
 rw [Option.some.inj e]
 exact hb
theorem CIn.below {w w' : World} {k : Int} {x : CC} {c : CP} (h : CIn w k x c) (hb : Below w.heap.size w w') : CIn w' k x c := ⟨h.kd, h.last, h.m, h.inn.below hb⟩
theorem CIn.kept {w w' : World} {k : Int} {x : CC} {c : CP} {row : Option Nat} (h : CIn w k x c) (hg : w.grownBy w' row) (hne : x.apart row) : CIn w' k x c :=
 ⟨h.kd, h.last, h.m, h.inn.bl, h.inn.bc, h.inn.br.kept hg (fun hn => hne.1 (by rw [← h.inn.bl]; exact hn)), h.inn.kl, h.inn.kr.kept hg (fun hn => hne.2.1 (by rw [← h.inn.kl]; exact hn)), h.inn.dl, h.inn.dc, h.inn.dr.kept hg (fun hn => hne.2.2 (by rw [← h.inn.dl]; exact hn))⟩
theorem Sl.apart_new {w : World} {s : Sl} {l : List UInt8} (hr : RS cB w w.heap.size s.A l) (hl : l.length = s.n) : s.apart (some w.heap.size) := by
 intro hn a ha e
 have h1 := hr.lowC (by rw [hl]; exact hn) a ha
 have h2 : w.heap.size = a.block := Option.some.inj e
 omega
theorem CIn.apart_new {w : World} {k : Int} {x : CC} {c : CP} (h : CIn w k x c) : x.apart (some w.heap.size) := ⟨Sl.apart_new h.inn.br h.inn.bl, Sl.apart_new h.inn.kr h.inn.kl, Sl.apart_new h.inn.dr h.inn.dl⟩

structure CRel (w : World) (H : Nat) (P : LP) (n m : Nat) (Al : Option Addr) (cl : Nat) (l : List CC) (Ao : Option Addr) (co : Nat) : Prop where
  row : CO w H Al cl l
  out : OS cB w H Ao co (P.outs m)
  len : l.length = n
  inn : ∀ (i : Nat) (x : CC), l[i]? = some x → CIn w (kOf P.big) x (P.call i)
  far : ∀ (i : Nat) (x : CC), l[i]? = some x → i < lnOf P.big → x.apart (Al.map (·.block)) ∧ x.apart (Ao.map (·.block))

section
variable {w w' : World} {H : Nat} {P : LP} {n m : Nat} {Al : Option Addr} {cl : Nat} {l : List CC} {Ao : Option Addr} {co : Nat}
theorem CRel.start (w : World) (H : Nat) (P : LP) : CRel w H P 0 0 none 0 [] none 0 := ⟨CO.nil w H, OS.nil w H 0 rfl, rfl, fun i x h => by simp at h, fun i x h => by simp at h⟩
theorem CRel.below (h : CRel w H P n m Al cl l Ao co) (hb : Below w.heap.size w w') : CRel w' H P n m Al cl l Ao co :=
 ⟨h.row.below hb, h.out.below hb (Nat.le_refl _), h.len, fun i x hx => (h.inn i x hx).below hb, h.far⟩
theorem far_step {x : CC} {w : World} {k : Int} {c : CP} {A A' : Option Addr} (h : x.apart (A.map (·.block))) (hl : CIn w k x c) (hA : A'.map (·.block) = A.map (·.block) ∨ A'.map (·.block) = some w.heap.size) : x.apart (A'.map (·.block)) := by
 rcases hA with e | e
 ·rw [e]; exact h
 ·rw [e]; exact hl.apart_new
theorem CRel.outs (h : CRel w H P n m Al cl l Ao co) (hn : n ≤ lnOf P.big) {A' : Option Addr} {c' : Nat} (ho : OS cB w' H A' c' (P.outs (m + 1))) (hg : w.grownBy w' (Ao.map (·.block))) (hA : A'.map (·.block) = Ao.map (·.block) ∨ A'.map (·.block) = some w.heap.size) : CRel w' H P n (m + 1) Al cl l A' c' := by
 have hi : ∀ (i : Nat) (x : CC), l[i]? = some x → i < lnOf P.big := fun i x hx => by have h1 := (List.getElem?_eq_some_iff.1 hx).1; have h2 := h.len; omega
 refine ⟨h.row.kept hg (fun a ha e => ?_), ho, h.len, fun i x hx => (h.inn i x hx).kept hg (h.far i x hx (hi i x hx)).2, fun i x hx hlt => ⟨(h.far i x hx hlt).1, far_step (h.far i x hx hlt).2 (h.inn i x hx) hA⟩⟩
 cases hAo : Ao with
 | none => rw [hAo] at e; cases e
 | some b =>
  rw [hAo] at e
  exact h.row.ne_os h.out a b ha hAo (Option.some.inj e).symm
theorem CRel.snoc (h : CRel w H P n m Al cl l Ao co) (hn : n ≤ lnOf P.big) {y : CC} (hy : CIn w (kOf P.big) y (P.call n)) (hf1 : y.apart (Al.map (·.block))) (hf2 : n < lnOf P.big → y.apart (Ao.map (·.block)))
  {A' : Option Addr} {c' : Nat} (ho : CO w' H A' c' (l ++ [y])) (hg : w.grownBy w' (Al.map (·.block))) (hA : A'.map (·.block) = Al.map (·.block) ∨ A'.map (·.block) = some w.heap.size) : CRel w' H P (n + 1) m A' c' (l ++ [y]) Ao co := by
 have cs : ∀ (i : Nat) (x : CC), (l ++ [y])[i]? = some x → (l[i]? = some x ∧ i < lnOf P.big) ∨ (i = n ∧ x = y) := by
  intro i x hx
  have hlt := (List.getElem?_eq_some_iff.1 hx).1
  rw [List.length_append, h.len] at hlt
  by_cases hi : i < n
  ·rw [List.getElem?_append_left (by rw [h.len]; exact hi)] at hx
   exact .inl ⟨hx, by omega⟩
  ·have e : i = n := by simp at hlt; omega
   subst e
   rw [List.getElem?_append_right (by rw [h.len]; omega), h.len, Nat.sub_self] at hx
   exact .inr ⟨rfl, (Option.some.inj hx).symm⟩
 refine ⟨ho, h.out.kept hg (fun a ha e => ?_), by rw [List.length_append, h.len]; rfl, fun i x hx => ?_, fun i x hx hlt => ?_⟩
 ·cases hAl : Al with
  | none => rw [hAl] at e; cases e
  | some b =>
   rw [hAl] at e
   exact h.row.ne_os h.out b a hAl ha (Option.some.inj e)
 ·rcases cs i x hx with ⟨h1, h2⟩ | ⟨rfl, rfl⟩
  ·exact (h.inn i x h1).kept hg (h.far i x h1 h2).1
  ·exact hy.kept hg hf1
 ·rcases cs i x hx with ⟨h1, h2⟩ | ⟨rfl, rfl⟩
  ·exact ⟨far_step (h.far i x h1 h2).1 (h.inn i x h1) hA, (h.far i x h1 h2).2⟩
  ·exact ⟨far_step hf1 hy hA, hf2 hlt⟩
end
end Go.Proofs.YtghpofnaojbbkaaGreat

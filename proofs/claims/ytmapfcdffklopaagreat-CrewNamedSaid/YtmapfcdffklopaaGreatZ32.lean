/-
  Z32: contracts and lemmas alone; no statement is claimed here.
-/
import Derived.Test.YtmapfcdffklopaaGreatZxc
import Derived.Test.YtmapfcdffklopaaGreatZ13
import Derived.Test.YtmapfcdffklopaaGreatZ30
namespace Go.Proofs.YtmapfcdffklopaaGreat
open _root_.Nat renaming not_lt_zero → cZF
open _root_.Option.some renaming inj → aZF
open Lib renaming hid -> zH
open Go.RowKit
attribute [local go_sem] pureUpon Ords.of
namespace Eng
def fc : Eng -> FuncId
  | .big _ => 197
  | .small _ => 203
end Eng
def NdS (w : World) (p : Nat) (big : Bool) (d : Nat) (x key : List UInt8) (last : Bool) (wr : UInt64) (e : Eng) (R F : List Nat) : Prop :=
  ∃ (Ax Ak : Option Addr) (nx nk cx ck g : Nat) (A : Option Addr) (c : Nat), NN w 0 p big d x key last wr e Ax Ak nx nk cx ck g A c /\ R = obl Ax ++ obl Ak /\ F = p :: g :: obl A
section
variable {w w' : World} {p d : Nat} {big last : Bool} {x key : List UInt8} {wr : UInt64} {e : Eng} {R F G : List Nat}
end
structure Nms (w : World) (H : Nat) (P : LP) (d m : Nat) (A : Option Addr) (cap : Nat) (ps : List Nat) (R F : Nat -> List Nat) (e : Nat -> Eng) : Prop where
  row : OS cP w H A cap ps
  len : ps.length = m
  node : ∀ i, i < m -> ∃ p wr, ps[i]? = some p /\ NdS w p P.big d (P.blk i) (P.nkey i) (P.nlast i) wr (e i) (R i) (F i)
  low : ∀ i, i < m -> ∀ k, k ∈ F i \/ k ∈ R i -> H <= k
  far : ∀ i j, i < m -> j < m -> i ≠ j -> ∀ k, k ∈ F i -> k ∉ F j
  rf : ∀ i j, i < m -> j < m -> ∀ k, k ∈ R i -> k ∉ F j
  rr : ∀ i j, i < m -> j < m -> i ≠ j -> ∀ k, k ∈ R i -> k ∉ R j
  fa : ∀ i, i < m -> ∀ a, A = some a -> a.block ∉ F i /\ a.block ∉ R i
section
variable {w w' : World} {H : Nat} {P : LP} {d m : Nat} {A : Option Addr} {cap : Nat} {ps : List Nat} {R F : Nat -> List Nat} {e : Nat -> Eng}
end
structure Hm (w : World) (H h : Nat) (P : LP) (d : Nat) (a b c : Sl) (A : Option Addr) (cap t : Nat) (ps : List Nat) (R F : Nat -> List Nat) (e : Nat -> Eng) : Prop where
  blk : Blk w h 179 (hasC P a b c A (lnOf P.big) cap t)
  nds : Nms w H P d (lnOf P.big) A cap ps R F e
  fh : ∀ i, i < lnOf P.big -> h ∉ F i /\ h ∉ R i
  ah : ∀ x, A = some x -> x.block ≠ h
  low : H <= h
  set_ : SetLow w H P a b c
section
variable {w w' : World} {H h : Nat} {P : LP} {d : Nat} {a b c : Sl} {A : Option Addr} {cap t : Nat} {ps : List Nat} {R F : Nat -> List Nat} {e : Nat -> Eng}
end
structure WIm (w wr : World) (H h : Nat) (P : LP) (d : Nat) (a b c : Sl) (A : Option Addr) (cap : Nat) (ps : List Nat) (R F0 F : Nat -> List Nat) (t : Nat) (e : Nat -> Eng) (L : List UInt8) (k : Nat) (Ab Ar : Option Addr) (cb cr : Nat) : Prop where
  hs : Hm wr H h P d a b c A cap t ps R F e
  le : k <= L.length
  fit : L.length - k <= cr
  cr_ : cr <= cb
  rs : RS cB wr w.heap.size Ar (L.drop k)
  bl : Ar.map (·.block) = Ab.map (·.block)
  fin : ∀ i, i < lnOf P.big -> ∀ x, x ∈ F i -> x ∈ F0 i \/ w.heap.size <= x
  but : But (hsB h (lnOf P.big) F0) w wr
section
variable {w wr w' : World} {H h : Nat} {P : LP} {d : Nat} {a b c : Sl} {A : Option Addr} {cap : Nat} {ps : List Nat} {R F0 F : Nat -> List Nat} {t : Nat} {e : Nat -> Eng} {L : List UInt8} {k : Nat} {Ab Ar : Option Addr} {cb cr : Nat}
end
end Go.Proofs.YtmapfcdffklopaaGreat

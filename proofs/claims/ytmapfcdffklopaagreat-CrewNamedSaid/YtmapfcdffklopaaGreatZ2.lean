/-
  Z2: contracts and lemmas alone; no statement is claimed here.
-/
import Derived.Test.YtmapfcdffklopaaGreatZx
import Derived.Test.YtmapfcdffklopaaGreatZ0
import Derived.Outline
namespace Go.Proofs.YtmapfcdffklopaaGreat
open Go.World renaming setCell → aZI
open Go.World renaming drewN → aZD
open Lib renaming hid -> zH
open Go.RowKit
attribute [local go_sem] pureUpon Ords.of
def gm64 (q : Qd UInt64) (x y : UInt64) : Qd UInt64 :=
  let a := q.a + (q.b + x)
  let d := rotr (q.d ^^^ a) 32
  let c := q.c + d
  let b := rotr (q.b ^^^ c) 24
  let a := a + (b + y)
  let d := rotr (d ^^^ a) 16
  let c := c + d
  let b := rotr (b ^^^ c) 63
  ⟨a, b, c, d⟩
theorem wcs_at' (l : List UInt64) (k : Nat) (v : UInt64) (h : l[k]? = some v) : (wcs l)[k]? = some (.int .u64 (wrd v)) := by unfold wcs; simp [h, wv]
set_option maxRecDepth 20000 in
set_option maxHeartbeats 4000000 in
theorem step_any (g : Nat) (p : Pl) (V : List UInt64) (x y : UInt64) (w : World) (hp : p.Ok) (hV : V.length = 16) (hg : Blk w g 97 (wcs V)) :
  Calls Tryz.prog 174 #[.pointer (some ⟨g, 0, none⟩), plv p, .int .u64 (wrd x), .int .u64 (wrd y)] w fun e w' => e = .returned (.tuple #[]) /\ Blk w' g 97 (wcs (p.lay V (gm64 (p.get 0 V) x y))) /\ w.grownBy w' (some g) := by open kA in exact zS5
end Go.Proofs.YtmapfcdffklopaaGreat

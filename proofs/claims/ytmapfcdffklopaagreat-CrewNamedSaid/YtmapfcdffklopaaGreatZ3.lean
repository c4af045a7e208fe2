/-
  Z3: contracts and lemmas alone; no statement is claimed here.
-/
import Derived.Test.YtmapfcdffklopaaGreatZx
import Derived.Test.YtmapfcdffklopaaGreatZ0
import Derived.Outline
namespace Go.Proofs.YtmapfcdffklopaaGreat
open Go.World renaming setCell → aZI
open Go.World renaming drewN → aZD
open Lib renaming hid -> zH
open Go.RowKit
attribute [local go_sem] pureUpon Ords.of
def gm32 (q : Qd UInt32) (x y : UInt32) : Qd UInt32 :=
  let a := q.a + (q.b + x)
  let d := rot3 (q.d ^^^ a) 16
  let c := q.c + d
  let b := rot3 (q.b ^^^ c) 12
  let a := a + (b + y)
  let d := rot3 (d ^^^ a) 8
  let c := c + d
  let b := rot3 (b ^^^ c) 7
  ⟨a, b, c, d⟩
theorem wc3_at' (l : List UInt32) (k : Nat) (v : UInt32) (h : l[k]? = some v) : (wc3 l)[k]? = some (.int .u32 (wr3 v)) := by unfold wc3; simp [h, wv3]
set_option maxRecDepth 20000 in
set_option maxHeartbeats 4000000 in
theorem mixs_from (g : Nat) (p : Pl) (V : List UInt32) (x y : UInt32) (w wc : World) (hp : p.Ok) (hV : V.length = 16) (hg : Blk wc g 155 (wc3 V)) (hgr : w.grownBy wc (some g)) :
  Calls Tryz.prog 176 #[.pointer (some ⟨g, 0, none⟩), .int .i64 p.a, .int .i64 p.b, .int .i64 p.c, .int .i64 p.d, .int .u32 (wr3 x), .int .u32 (wr3 y)] wc fun e w' => e = .returned (.tuple #[]) /\ Blk w' g 155 (wc3 (p.lay V (gm32 (p.get 0 V) x y))) /\ w.grownBy w' (some g) := by open kA in exact zS4
theorem mixs_any (g : Nat) (p : Pl) (V : List UInt32) (x y : UInt32) (w : World) (hp : p.Ok) (hV : V.length = 16) (hg : Blk w g 155 (wc3 V)) :
  Calls Tryz.prog 176 #[.pointer (some ⟨g, 0, none⟩), .int .i64 p.a, .int .i64 p.b, .int .i64 p.c, .int .i64 p.d, .int .u32 (wr3 x), .int .u32 (wr3 y)] w fun e w' => e = .returned (.tuple #[]) /\ Blk w' g 155 (wc3 (p.lay V (gm32 (p.get 0 V) x y))) /\ w.grownBy w' (some g) :=
 mixs_from g p V x y w w hp hV hg (only_of_below (b0 w) _)
end Go.Proofs.YtmapfcdffklopaaGreat

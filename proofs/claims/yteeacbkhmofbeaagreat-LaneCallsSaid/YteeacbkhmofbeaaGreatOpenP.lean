/-
  Parameters that came in, opened. Lemmas alone; no statement is claimed here.
-/
import Derived.Test.YteeacbkhmofbeaaGreatOpen
import Derived.Test.YteeacbkhmofbeaaGreatHashC
namespace Go.Proofs.YteeacbkhmofbeaaGreat
open Go.ChangeShapes Go.WideShapes Go.ChangeAt Go.RowKit

/-- parameters, with what their salts hold -/
structure PrIn (W : World) (p : Pr) (ls lp : List UInt8) : Prop where
  fit : p.Fit
  hls : ls.length = p.salt.n
  hlp : lp.length = p.pers.n
  rs : RS cB W W.heap.size p.salt.A ls
  rp : RS cB W W.heap.size p.pers.A lp
  cs : p.salt.n ≤ p.salt.c ∧ p.salt.c ≤ 140737488351232
  cp : p.pers.n ≤ p.pers.c ∧ p.pers.c ≤ 140737488351232
end Go.Proofs.YteeacbkhmofbeaaGreat

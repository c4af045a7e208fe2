/-
  Z37: contracts and lemmas alone; no statement is claimed here.
-/
import Derived.Test.YtmapfcdffklopaaGreatZx
import Derived.Test.YtmapfcdffklopaaGreatZxb
import Derived.Test.YtmapfcdffklopaaGreatZ35
import Derived.Test.YtmapfcdffklopaaGreatZ20
set_option maxHeartbeats 2000000
set_option maxRecDepth 20000
namespace Go.Proofs.YtmapfcdffklopaaGreat
open Go renaming setRow_other → bZC
open Go renaming wpList_store_row → aZE
open Lib renaming hid -> zH
open Go.RowKit
attribute [local go_sem] pureUpon Ords.of
theorem rdecode_any (big ext : Bool) (A : Option Addr) (n c : Nat) (b : List UInt8) (w : World) (hb : b.length = n) (hc : n <= c) (hr : RS cB w w.heap.size A b) :
  Calls Tryz.prog 105 #[.int .i64 (kOf big), .slice A n c, .bool ext] w (RDecAns big ext b w) := by
 by_cases hn : n = bOf big
 ·cases big
  ·subst hn
   exact rdecSmall_any ext A c b w hb hc hr
  ·subst hn
   exact rdecBig_any ext A c b w hb hc hr
 ·refine (rdecLen_any big ext A n c w hn).mono ?_
  rintro r w' ⟨e, rfl, he, h⟩;exact .inr ⟨fun h => hn (by rw [<- hb]; exact h.1), e, rfl, he, h⟩
def s1L (big : Bool) (b : List UInt8) : List UInt8 := (b.drop (bOf big / 2)).take (bOf big / 4)
def s2L (big : Bool) (b : List UInt8) : List UInt8 := (b.drop (3 * (bOf big / 4))).take (bOf big / 4)
theorem rdY_any {big ext : Bool} (A : Option Addr) (n c : Nat) (b : List UInt8) (w : World) (h : decOk big ext b) (hb : b.length = n) (hc : n <= c) (hr : RS cB w w.heap.size A b) :
  Calls Tryz.prog 105 #[.int .i64 (kOf big), .slice A n c, .bool ext] w fun r w' => ∃ (X : Pr) (s t : Sl), r = .returned (.tuple #[X.v, .int .i64 0]) /\ X = decPr big ext b s t /\ Trim (s1L big b) s.n /\ Trim (s2L big b) t.n /\ OS cB w' w.heap.size s.A s.c ((s1L big b).take s.n) /\ OS cB w' w.heap.size t.A t.c ((s2L big b).take t.n) /\ Below w.heap.size w w' := by
 refine (rdecode_any big ext A n c b w hb hc hr).mono ?_;rintro r w' (⟨-, A1, t1, c1, A2, t2, c2, rfl, h1, h2, h3, h4, h5⟩ | ⟨h3, -⟩)
 ·exact ⟨_, ⟨A1, t1, c1⟩, ⟨A2, t2, c2⟩, rfl, rfl, h1, h2, h3, h4, h5⟩
 ·exact absurd h h3
theorem rdN_any {big ext : Bool} (A : Option Addr) (n c : Nat) (b : List UInt8) (w : World) (h : ¬ decOk big ext b) (hb : b.length = n) (hc : n <= c) (hr : RS cB w w.heap.size A b) :
  Calls Tryz.prog 105 #[.int .i64 (kOf big), .slice A n c, .bool ext] w fun r w' => ∃ (X : Pr) (e : Int), r = .returned (.tuple #[X.v, .int .i64 e]) /\ (e != 0) = true /\ Below w.heap.size w w' := by
 refine (rdecode_any big ext A n c b w hb hc hr).mono ?_;rintro r w' (⟨h3, -⟩ | ⟨-, e, rfl, h3, h4⟩)
 ·exact absurd h3 h
 ·exact ⟨zeroPar, e, rfl, by simpa using h3, h4⟩
theorem refDecodedNo_any (big : Bool) (A : Option Addr) (n c : Nat) (b : List UInt8) (w : World) (hok : ¬ blkOk big b) (hb : b.length = n) (hc : n <= c) (hr : RS cB w w.heap.size A b) :
  Calls Tryz.prog 84 #[.int .i64 (kOf big), .slice A n c] w fun r w' => ∃ (X : Pr) (e : Int), r = .returned (.tuple #[X.v, .int .i64 e]) /\ (e != 0) = true /\ Below w.heap.size w w' := by open kA in exact zS18
theorem refDecoded_any (big : Bool) (A : Option Addr) (n c : Nat) (b : List UInt8) (w : World) (hok : blkOk big b) (hb : b.length = n) (hc : n <= c) (hr : RS cB w w.heap.size A b) :
  Calls Tryz.prog 84 #[.int .i64 (kOf big), .slice A n c] w fun r w' => ∃ (X : Pr) (ext : Bool) (s t : Sl), r = .returned (.tuple #[X.v, .int .i64 0]) /\ (decOk big ext b /\ X = decPr big ext b s t) /\ Trim (s1L big b) s.n /\ Trim (s2L big b) t.n /\ OS cB w' w.heap.size s.A s.c ((s1L big b).take s.n) /\ OS cB w' w.heap.size t.A t.c ((s2L big b).take t.n) /\ Below w.heap.size w w' := by
 by_cases hF : decOk big false b
 ·open kC in exact zS18
 ·open kB in exact zS18
end Go.Proofs.YtmapfcdffklopaaGreat

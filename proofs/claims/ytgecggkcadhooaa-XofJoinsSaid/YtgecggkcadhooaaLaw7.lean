/-
  Small helpers of layer 7's statements. Contracts alone; no statement is claimed here.
-/
import Derived.Test.YtgecggkcadhooaaHashC
import Derived.Test.YtgecggkcadhooaaSame
namespace Go.Proofs.Ytgecggkcadhooaa
open Go.RowKit
attribute [local go_sem] pureUpon Ords.of

theorem same7_any (A1 A2 : Option Addr) (c1 c2 : Nat) (l1 l2 : List UInt8) (n1 n2 : Nat) (w : World) (hn1 : l1.length = n1) (hn2 : l2.length = n2) (hm : n1 ≤ 9223372036854775807) (h1 : RS cB w w.heap.size A1 l1) (h2 : RS cB w w.heap.size A2 l2) :
    Calls Try.prog 14 #[.slice A1 n1 c1, .slice A2 n2 c2] w fun e w' => e = .returned (.bool (decide (l1 = l2))) ∧ Below w.heap.size w w' := by
  have hs := sameR_any A1 A2 c1 c2 l1 l2 w.heap.size w.heap.size n1 n2 w hn1 hn2 hm h1 h2
  have HS := Lib.hid hs; clear hs hn1 hn2 h1 h2
  go_enter Try.func14, Try.ntmps14
  go_wp2_with (go_at_call 44; refine HS.out.mono ?_; rintro e1 w1 ⟨rfl, n, rfl⟩)
  exact bodyPost_ret (results_tmp rfl _ _ _) rfl ⟨rfl, bdr (b0 w) n⟩
end Go.Proofs.Ytgecggkcadhooaa

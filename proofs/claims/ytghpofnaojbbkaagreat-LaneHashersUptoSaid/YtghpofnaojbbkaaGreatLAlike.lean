/-
  Alike: are two calls the same? Contracts alone; no statement is claimed here.
-/
import Derived.Test.YtghpofnaojbbkaaGreatLCalP
import Derived.Test.YtghpofnaojbbkaaGreatBu1
namespace Go.Proofs.YtghpofnaojbbkaaGreat
open Go.RowKit
attribute [local go_sem] pureUpon Ords.of

set_option maxHeartbeats 1000000 in
theorem copied08_any (A : Option Addr) (c n : Nat) (l : List UInt8) (w : World) (hn : l.length = n) (hm : n ≤ 140737488355328) (hr : RS cB w w.heap.size A l) :
  Calls Tryz.prog 4 #[.slice A n c] w fun e w' => ∃ A' c', e = .returned (.slice A' n c') ∧ OS cB w' w.heap.size A' c' l ∧ Below w.heap.size w w' := by
 have HN := Lib.hid hn; have HR := Lib.hid hr; have HN3 := Lib.hid (OS.nil (cd := cB) w w.heap.size 0 rfl); clear hn hr
 go_enter Tryz.func4, Tryz.ntmps4
 go_wp2_with (at_builtin; refine wpList_appB _ rfl (.tmp 4) (.tmp 5) rfl HN3.out rfl rfl HR.out rfl HN.out (by omega) (Nat.le_refl _) ?_; intro A3 c3 w3 ho3 hg3 hA3; have hb3 := bapp (b0 w) HN3.out hg3; rw [List.nil_append] at ho3)
 exact bodyPost_ret (results_tmp rfl _ _ _) rfl ⟨A3, c3, rfl, ho3, hb3⟩
end Go.Proofs.YtghpofnaojbbkaaGreat

/-
  Small helpers of layer 5's statements. Contracts alone; no statement is claimed here.
-/
import Derived.Test.YtboihcigcfmhhaaHashC
import Derived.Test.YtboihcigcfmhhaaSame
namespace Go.Proofs.Ytboihcigcfmhhaa
open Go.RowKit
attribute [local go_sem] pureUpon Ords.of

set_option maxHeartbeats 1000000 in
theorem copied5_any (A : Option Addr) (c n : Nat) (l : List UInt8) (w : World) (hn : l.length = n) (hm : n ≤ 140737488355328) (hr : RS cB w w.heap.size A l) :
    Calls Try.prog 11 #[.slice A n c] w fun e w' => ∃ A' c', e = .returned (.slice A' n c') ∧ OS cB w' w.heap.size A' c' l ∧ Below w.heap.size w w' := by
  have HN := Lib.hid hn; have HR := Lib.hid hr; clear hn hr
  go_enter Try.func11, Try.ntmps11
  have ho : OS cB (w.alloc (.cells #[] 5)) w.heap.size (some ⟨w.heap.size, 0, none⟩) 0 [] := by
    have h := OS.madeAt (cd := cB) (base := w.heap.size) w 0 0 0 rfl (Nat.le_refl _) (by unfold maxLen; omega) (Nat.le_refl _) rfl
    rw [show madeCells #[cB.zero] 0 = #[] by simp [madeCells]] at h
    exact h
  have HO := Lib.hid ho; clear ho
  go_wp2_with (at_builtin; refine wpList_appB _ rfl (.tmp 3) (.tmp 4) rfl HO.out rfl rfl (HR.out.alloc (Nat.le_refl _) _) rfl HN.out (by omega) (by simp) ?_; intro A3 c3 w3 hown3 hgrow hat; have hw3 := bapp (bal (b0 w) _) HO.out hgrow; have HO3 := Lib.hid hown3; clear hown3 hgrow hat)
  exact bodyPost_ret (results_tmp rfl _ _ _) rfl ⟨A3, c3, rfl, HO3.out, hw3⟩
theorem same5_any (A1 A2 : Option Addr) (c1 c2 : Nat) (l1 l2 : List UInt8) (n1 n2 : Nat) (w : World) (hn1 : l1.length = n1) (hn2 : l2.length = n2) (hm : n1 ≤ 9223372036854775807) (h1 : RS cB w w.heap.size A1 l1) (h2 : RS cB w w.heap.size A2 l2) :
    Calls Try.prog 12 #[.slice A1 n1 c1, .slice A2 n2 c2] w fun e w' => e = .returned (.bool (decide (l1 = l2))) ∧ Below w.heap.size w w' := by
  have hs := sameR_any A1 A2 c1 c2 l1 l2 w.heap.size w.heap.size n1 n2 w hn1 hn2 hm h1 h2
  have HS := Lib.hid hs; clear hs hn1 hn2 h1 h2
  go_enter Try.func12, Try.ntmps12
  go_wp2_with (go_at_call 22; refine HS.out.mono ?_; rintro e1 w1 ⟨rfl, n, rfl⟩)
  exact bodyPost_ret (results_tmp rfl _ _ _) rfl ⟨rfl, bdr (b0 w) n⟩
theorem kind_of {k : Int} {p : Pr} (h : chk k p = 0) : ∃ big, k = kOf big := by
  by_cases h1 : k = 1
  · exact ⟨true, h1⟩
  · by_cases h2 : k = 2
    · exact ⟨false, h2⟩
    · exfalso
      unfold chk mostOf at h
      simp [h1, h2] at h
end Go.Proofs.Ytboihcigcfmhhaa

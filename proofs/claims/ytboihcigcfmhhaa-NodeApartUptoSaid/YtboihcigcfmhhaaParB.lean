/-
  Parameters: which may be, by the reference. Contracts alone; no statement is claimed here.
-/
import Derived.Test.YtboihcigcfmhhaaParC
namespace Go.Proofs.Ytboihcigcfmhhaa
open Go.RowKit

set_option maxHeartbeats 4000000 in
theorem refCheck_any (k : Int) (p : Pr) (w : World) : Calls Try.prog 5 #[.int .i64 k, p.v] w fun e w' => e = .returned (.int .i64 (chk k p)) ∧ Below w.heap.size w w' := by
  obtain ⟨r, hr⟩ : ∃ r, r = chk k p := ⟨_, rfl⟩
  rw [← hr]
  obtain ⟨d, ky, fo, de, le, of, xo, nd, inn, ⟨sA, sn, sc⟩, ⟨pA, pn, pc⟩⟩ := p
  have HR := Lib.hid hr; clear hr
  unfold Pr.v Pr.cs Sl.v
  dsimp only
  by_cases h1 : k = 1
  · subst h1
    by_cases hx : xo = 0
    · subst hx
      go_enter Try.func5, Try.ntmps5
      go_wp2_with (go_at_call 16; refine (most_big _).mono ?_; rintro e w1 ⟨rfl, rfl⟩)
      all_goals refine bodyPost_ret (results_tmp rfl _ _ _) rfl ⟨?_, bal (b0 _) _⟩
      all_goals refine ret_int ?_
      all_goals rw [HR.out]
      all_goals unfold chk mostOf
      all_goals dsimp only
      all_goals (repeat (first | rw [if_neg (by omega)] | rw [if_pos (by omega)]))
    · have hx0 : (xo == 0) = false := by simpa using hx
      have hx1 : (xo != 0) = true := by simpa using hx
      go_enter Try.func5, Try.ntmps5
      go_wp2_with (go_at_call 16; refine (most_big _).mono ?_; rintro e w1 ⟨rfl, rfl⟩)
      all_goals refine bodyPost_ret (results_tmp rfl _ _ _) rfl ⟨?_, bal (b0 _) _⟩
      all_goals refine ret_int ?_
      all_goals rw [HR.out]
      all_goals unfold chk mostOf
      all_goals dsimp only
      all_goals (repeat (first | rw [if_neg (by omega)] | rw [if_pos (by omega)]))
  · by_cases h2 : k = 2
    · subst h2
      by_cases hx : xo = 0
      · subst hx
        go_enter Try.func5, Try.ntmps5
        go_wp2_with (go_at_call 16; refine (most_small _).mono ?_; rintro e w1 ⟨rfl, rfl⟩)
        all_goals refine bodyPost_ret (results_tmp rfl _ _ _) rfl ⟨?_, bal (b0 _) _⟩
        all_goals refine ret_int ?_
        all_goals rw [HR.out]
        all_goals unfold chk mostOf
        all_goals dsimp only
        all_goals (repeat (first | rw [if_neg (by omega)] | rw [if_pos (by omega)]))
      · have hx0 : (xo == 0) = false := by simpa using hx
        have hx1 : (xo != 0) = true := by simpa using hx
        go_enter Try.func5, Try.ntmps5
        go_wp2_with (go_at_call 16; refine (most_small _).mono ?_; rintro e w1 ⟨rfl, rfl⟩)
        all_goals refine bodyPost_ret (results_tmp rfl _ _ _) rfl ⟨?_, bal (b0 _) _⟩
        all_goals refine ret_int ?_
        all_goals rw [HR.out]
        all_goals unfold chk mostOf
        all_goals dsimp only
        all_goals (repeat (first | rw [if_neg (by omega)] | rw [if_pos (by omega)]))
    · have hk1 : (k == 1) = false := by simpa using h1
      have hk2 : (k == 2) = false := by simpa using h2
      have hr := HR.out
      unfold chk mostOf at hr
      simp only [if_neg h1, if_neg h2, if_true] at hr
      subst hr
      clear HR h1 h2
      go_enter Try.func5, Try.ntmps5
      go_wp2_with (go_at_call 16; refine (most_none _ hk1 hk2 _).mono ?_; rintro e w1 ⟨rfl, rfl⟩)
      exact bodyPost_ret (results_tmp rfl _ _ _) rfl ⟨rfl, bal (b0 _) _⟩
end Go.Proofs.Ytboihcigcfmhhaa

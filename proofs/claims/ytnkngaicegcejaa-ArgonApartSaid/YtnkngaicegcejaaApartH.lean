/-
  ArgonApart, the law walked. Contracts alone; no statement is claimed here.
-/
import Derived.Test.YtnkngaicegcejaaApartG
namespace Go.Proofs.Ytnkngaicegcejaa
open Go.RowKit

set_option maxHeartbeats 2000000 in
theorem apart_law (a : Ar) (p s l x : Int) (j : UInt64) (w : World) :
    Calls Try.prog 7 #[a.v, .agg #[.int .i64 p, .int .i64 s, .int .i64 l, .int .i64 x, .int .u64 (wrd j)]] w fun e w' => e = .returned (.bool true) ∧ Below w.heap.size w w' := by
  have hp := fun w => referP_any a p s l x j w
  have hc := Columns_any a
  by_cases h : a.ok
  · rw [if_pos h, if_pos h] at hc
    by_cases hb : spotBad a p s l x
    · unfold ansL ansZ ansE at hp
      rw [if_neg (by simp [hb]), if_neg (by simp [hb]), if_pos h, if_pos hb] at hp
      clear h hb
      generalize a.seg = g at *
      obtain ⟨kk, m, pp, ll, t⟩ := a
      unfold Ar.v at *
      have HP := Lib.hid hp; have HC := Lib.hid hc; clear hp hc
      go_enter Try.func7, Try.ntmps7
      go_wp2_with (first
              | (go_at_call 29; refine (alive20_any _).mono ?_; rintro e w1 ⟨rfl, hbw1⟩; obtain ⟨hcw1, hfw1⟩ := bcell hbw1; have z0w1 : w.heap.size < w1.heap.size := (by have := hbw1.size; (try simp at this); omega); have z1w1 : w.heap.size + 1 < w1.heap.size := (by have := hbw1.size; (try simp at this); omega))
              | (go_at_call 27; refine (HP.out _).mono ?_; rintro e w2 ⟨rfl, hbw2⟩; obtain ⟨hcw2, hfw2⟩ := bcell hbw2; have z0w2 : w.heap.size < w2.heap.size := (by have := hbw2.size; (try simp at this); omega); have z1w2 : w.heap.size + 1 < w2.heap.size := (by have := hbw2.size; (try simp at this); omega))
              | (go_at_call 30; refine (HC.out _).mono ?_; rintro e w3 ⟨rfl, hbw3⟩; obtain ⟨hcw3, hfw3⟩ := bcell hbw3; have z0w3 : w.heap.size < w3.heap.size := (by have := hbw3.size; (try simp at this); omega); have z1w3 : w.heap.size + 1 < w3.heap.size := (by have := hbw3.size; (try simp at this); omega)))
      exact bodyPost_ret (results_tmp rfl _ _ _) rfl ⟨rfl, bcall (bcall (bcall (bal (bal (b0 _) _) _) hbw1) hbw2) hbw3⟩
    · unfold ansL ansZ ansE at hp
      rw [if_pos ⟨h, hb⟩, if_pos ⟨h, hb⟩, if_pos h, if_neg hb] at hp
      obtain ⟨y, r, K⟩ := apart_plain h j hb
      obtain ⟨g2, g1024, -⟩ := seg_range h
      have sx : 0 ≤ s ∧ s ≤ 3 ∧ 0 ≤ x ∧ x < a.seg ∧ 0 ≤ p := by unfold spotBad at hb; omega
      obtain ⟨s0, s3, x0, xg, p0⟩ := sx
      clear h hb
      generalize a.seg = g at *
      generalize refL a p s l j = L at *
      generalize refZ a p s l x j = Z at *
      obtain ⟨kk, m, pp, ll, t⟩ := a
      unfold Ar.v at *
      dsimp only at K
      obtain ⟨l0, l1, z0, z1, y_, yt, r_, rt, far, near⟩ := K
      have sg0 : 0 ≤ s * g := Int.mul_nonneg s0 (by omega)
      have sg1 : s * g ≤ 3 * g := Int.mul_le_mul_of_nonneg_right s3 (by omega)
      have e4 : (4 * g).tdiv 4 = g := by rw [Int.tdiv_eq_ediv_of_nonneg (by omega)]; omega
      have HP := Lib.hid hp; have HC := Lib.hid hc; have FAR := Lib.hid far; have NEAR := Lib.hid near; clear hp hc far near
      by_cases hl : L = l
      · obtain ⟨q1, q2, q3⟩ := NEAR.out hl
        subst hl
        go_enter Try.func7, Try.ntmps7
        go_wp2_with (first
                | (go_at_call 29; refine (alive20_any _).mono ?_; rintro e w1 ⟨rfl, hbw1⟩; obtain ⟨hcw1, hfw1⟩ := bcell hbw1; have z0w1 : w.heap.size < w1.heap.size := (by have := hbw1.size; (try simp at this); omega); have z1w1 : w.heap.size + 1 < w1.heap.size := (by have := hbw1.size; (try simp at this); omega))
                | (go_at_call 27; refine (HP.out _).mono ?_; rintro e w2 ⟨rfl, hbw2⟩; obtain ⟨hcw2, hfw2⟩ := bcell hbw2; have z0w2 : w.heap.size < w2.heap.size := (by have := hbw2.size; (try simp at this); omega); have z1w2 : w.heap.size + 1 < w2.heap.size := (by have := hbw2.size; (try simp at this); omega))
                | (go_at_call 30; refine (HC.out _).mono ?_; rintro e w3 ⟨rfl, hbw3⟩; obtain ⟨hcw3, hfw3⟩ := bcell hbw3; have z0w3 : w.heap.size < w3.heap.size := (by have := hbw3.size; (try simp at this); omega); have z1w3 : w.heap.size + 1 < w3.heap.size := (by have := hbw3.size; (try simp at this); omega)))
        all_goals refine bodyPost_ret (results_tmp rfl _ _ _) rfl ⟨?_, bcall (bcall (bcall (bal (bal (b0 _) _) _) hbw1) hbw2) hbw3⟩ <;> exact ret_true (by first | rfl | (simp; omega))
      · obtain ⟨q1, q2⟩ := FAR.out hl
        have hg0 : ¬ g = 0 := by omega
        have wy : IntKind.i64.wrap y = y := by simp [IntKind.wrap, IntKind.bits, IntKind.signed]; rw [← y_]; have := Int.ediv_le_self g z0; have := Int.ediv_nonneg z0 (show 0 ≤ g by omega); omega
        have wg : IntKind.i64.wrap (s * g) = s * g := by simp [IntKind.wrap, IntKind.bits, IntKind.signed]; omega
        have hyt : (y != s) = true := by simpa using q1
        have hys : (y != s) = true := by simpa using q1
        have hyz : (y == s) = false := by simpa using q1
        by_cases hp0 : 0 < p
        · have hpt : decide (0 < p) = true := by simpa using hp0
          go_enter Try.func7, Try.ntmps7
          go_wp2_with (first
                  | (go_at_call 29; refine (alive20_any _).mono ?_; rintro e w1 ⟨rfl, hbw1⟩; obtain ⟨hcw1, hfw1⟩ := bcell hbw1; have z0w1 : w.heap.size < w1.heap.size := (by have := hbw1.size; (try simp at this); omega); have z1w1 : w.heap.size + 1 < w1.heap.size := (by have := hbw1.size; (try simp at this); omega))
                  | (go_at_call 27; refine (HP.out _).mono ?_; rintro e w2 ⟨rfl, hbw2⟩; obtain ⟨hcw2, hfw2⟩ := bcell hbw2; have z0w2 : w.heap.size < w2.heap.size := (by have := hbw2.size; (try simp at this); omega); have z1w2 : w.heap.size + 1 < w2.heap.size := (by have := hbw2.size; (try simp at this); omega))
                  | (go_at_call 30; refine (HC.out _).mono ?_; rintro e w3 ⟨rfl, hbw3⟩; obtain ⟨hcw3, hfw3⟩ := bcell hbw3; have z0w3 : w.heap.size < w3.heap.size := (by have := hbw3.size; (try simp at this); omega); have z1w3 : w.heap.size + 1 < w3.heap.size := (by have := hbw3.size; (try simp at this); omega)))
          go_quiet (fail)
          go_wp2
          all_goals refine bodyPost_ret (results_tmp rfl _ _ _) rfl ⟨?_, bdr (bcall (bcall (bcall (bal (bal (b0 _) _) _) hbw1) hbw2) hbw3) _⟩ <;> exact ret_true (by first | rfl | (simp; omega))
        · have hpt : decide (0 < p) = false := by simpa using hp0
          go_enter Try.func7, Try.ntmps7
          go_wp2_with (first
                  | (go_at_call 29; refine (alive20_any _).mono ?_; rintro e w1 ⟨rfl, hbw1⟩; obtain ⟨hcw1, hfw1⟩ := bcell hbw1; have z0w1 : w.heap.size < w1.heap.size := (by have := hbw1.size; (try simp at this); omega); have z1w1 : w.heap.size + 1 < w1.heap.size := (by have := hbw1.size; (try simp at this); omega))
                  | (go_at_call 27; refine (HP.out _).mono ?_; rintro e w2 ⟨rfl, hbw2⟩; obtain ⟨hcw2, hfw2⟩ := bcell hbw2; have z0w2 : w.heap.size < w2.heap.size := (by have := hbw2.size; (try simp at this); omega); have z1w2 : w.heap.size + 1 < w2.heap.size := (by have := hbw2.size; (try simp at this); omega))
                  | (go_at_call 30; refine (HC.out _).mono ?_; rintro e w3 ⟨rfl, hbw3⟩; obtain ⟨hcw3, hfw3⟩ := bcell hbw3; have z0w3 : w.heap.size < w3.heap.size := (by have := hbw3.size; (try simp at this); omega); have z1w3 : w.heap.size + 1 < w3.heap.size := (by have := hbw3.size; (try simp at this); omega)))
          go_quiet (fail)
          go_wp2
          all_goals refine bodyPost_ret (results_tmp rfl _ _ _) rfl ⟨?_, bdr (bcall (bcall (bcall (bal (bal (b0 _) _) _) hbw1) hbw2) hbw3) _⟩ <;> exact ret_true (by first | rfl | (simp; omega))
  · unfold ansL ansZ ansE at hp
    rw [if_neg (by simp [h]), if_neg (by simp [h]), if_neg h] at hp
    rw [if_neg h, if_neg h] at hc
    clear h
    obtain ⟨kk, m, pp, ll, t⟩ := a
    unfold Ar.v at *
    have HP := Lib.hid hp; have HC := Lib.hid hc; clear hp hc
    go_enter Try.func7, Try.ntmps7
    go_wp2_with (first
            | (go_at_call 29; refine (alive20_any _).mono ?_; rintro e w1 ⟨rfl, hbw1⟩; obtain ⟨hcw1, hfw1⟩ := bcell hbw1; have z0w1 : w.heap.size < w1.heap.size := (by have := hbw1.size; (try simp at this); omega); have z1w1 : w.heap.size + 1 < w1.heap.size := (by have := hbw1.size; (try simp at this); omega))
            | (go_at_call 27; refine (HP.out _).mono ?_; rintro e w2 ⟨rfl, hbw2⟩; obtain ⟨hcw2, hfw2⟩ := bcell hbw2; have z0w2 : w.heap.size < w2.heap.size := (by have := hbw2.size; (try simp at this); omega); have z1w2 : w.heap.size + 1 < w2.heap.size := (by have := hbw2.size; (try simp at this); omega))
            | (go_at_call 30; refine (HC.out _).mono ?_; rintro e w3 ⟨rfl, hbw3⟩; obtain ⟨hcw3, hfw3⟩ := bcell hbw3; have z0w3 : w.heap.size < w3.heap.size := (by have := hbw3.size; (try simp at this); omega); have z1w3 : w.heap.size + 1 < w3.heap.size := (by have := hbw3.size; (try simp at this); omega)))
    exact bodyPost_ret (results_tmp rfl _ _ _) rfl ⟨rfl, bcall (bcall (bcall (bal (bal (b0 _) _) _) hbw1) hbw2) hbw3⟩
end Go.Proofs.Ytnkngaicegcejaa

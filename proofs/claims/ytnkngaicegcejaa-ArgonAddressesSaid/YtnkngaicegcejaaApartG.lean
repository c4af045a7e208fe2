/-
  ArgonApart, the law. Contracts alone; no statement is claimed here.
-/
import Derived.Test.YtnkngaicegcejaaArgonF
import Derived.Test.YtnkngaicegcejaaKit
namespace Go.Proofs.Ytnkngaicegcejaa
open Go.RowKit

set_option maxHeartbeats 2000000 in
theorem Columns_any (a : Ar) (w : World) : Calls Try.prog 30 #[a.v] w fun e w' => e = .returned (.tuple #[.int .i64 (if a.ok then 4 * a.seg else 0), .int .i64 (if a.ok then 0 else 200)]) ∧ Below w.heap.size w w' := by
  by_cases h : a.ok
  · have hm := may_any a
    have hc := columns_any h
    rw [decide_eq_true h] at hm
    rw [if_pos h, if_pos h]
    generalize a.seg = g at *
    clear h
    obtain ⟨kk, m, pp, ll, t⟩ := a
    unfold Ar.v at *
    dsimp only at *
    have HM := Lib.hid hm; have HC := Lib.hid hc; clear hm hc
    go_enter Try.func30, Try.ntmps30
    go_wp2_with (first
      | (go_at_call 54; refine (HM.out _).mono ?_; rintro e w1 ⟨rfl, hb1⟩; obtain ⟨hc, hf⟩ := bcell hb1; have hz := hb1.size; simp at hz)
      | (go_at_call 59; refine (HC.out _).mono ?_; rintro e w2 ⟨rfl, hb2⟩))
    exact bodyPost_ret (results_tmp2 rfl _ _ _) rfl ⟨rfl, ((((Below.refl _ _).alloc (Nat.le_refl _) _).trans (hb1.mono (by simp))).trans (hb2.mono (by omega)))⟩
  · have hm := may_any a
    rw [decide_eq_false h] at hm
    rw [if_neg h, if_neg h]
    clear h
    obtain ⟨kk, m, pp, ll, t⟩ := a
    unfold Ar.v at *
    have HM := Lib.hid hm; clear hm
    go_enter Try.func30, Try.ntmps30
    go_wp2_with (go_at_call 54; refine (HM.out _).mono ?_; rintro e w1 ⟨rfl, hb1⟩)
    exact bodyPost_ret (results_tmp2 rfl _ _ _) rfl ⟨rfl, (((Below.refl _ _).alloc (Nat.le_refl _) _).trans (hb1.mono (by simp)))⟩

theorem alive20_any (w : World) : Calls Try.prog 29 #[] w fun e w' => e = .returned (.bool true) ∧ Below w.heap.size w w' := by
  have hc := Columns_any ⟨2, 32, 3, 4, 32⟩
  rw [if_pos (by decide), if_pos (by decide)] at hc
  unfold Ar.v Ar.seg at hc
  have HC := Lib.hid hc; clear hc
  go_enter Try.func29, Try.ntmps29
  go_wp2_with (go_at_call 30; refine (HC.out _).mono ?_; rintro e w1 ⟨rfl, hb1⟩)
  exact bodyPost_ret (results_tmp rfl _ _ _) rfl ⟨rfl, hb1⟩

structure ApartKnown (p s l x g ll L Z y r : Int) : Prop where
  l0 : 0 ≤ L
  l1 : L < ll
  z0 : 0 ≤ Z
  z1 : Z < 4 * g
  y_ : Z / g = y
  yt : Z.tdiv g = y
  r_ : (s * g + x + 4 * g - 1) % (4 * g) = r
  rt : (s * g + x + 4 * g - 1).tmod (4 * g) = r
  far : L ≠ l → y ≠ s ∧ (0 < p ∨ Z < s * g)
  near : L = l → Z ≠ s * g + x ∧ Z ≠ r ∧ (0 < p ∨ Z < s * g + x)

theorem apart_plain {a : Ar} (h : a.ok) {p s l x : Int} (j : UInt64) (hb : ¬ spotBad a p s l x) : ∃ y r, ApartKnown p s l x a.seg a.lanes (refL a p s l j) (refZ a p s l x j) y r := by
  obtain ⟨v, o, oo, W, S, A, q, K⟩ := known h j hb
  have p0 : 0 ≤ p := by unfold spotBad at hb; omega
  have hx2 : ¬ (p = 0 ∧ s = 0 ∧ x < 2) := by unfold spotBad at hb; omega
  clear hb
  have KA := K.A_; have KL := K.L_; have KW := K.W_; have KS := K.S_
  have g2 := K.g2; have s0 := K.s0; have s3 := K.s3; have x0 := K.x0; have xg := K.xg; have v0 := K.v0; have v8 := K.v8
  obtain ⟨n0, n1⟩ := K.lane
  have A1 := K.A1; have A2 := K.A2; have q0 := K.q0; have q1 := K.q1; have Z0 := K.Z0; have Z1 := K.Z1; have Zt := K.Zt; have S0 := K.S0; have S1 := K.S1
  clear K
  generalize refL a p s l j = L at *
  generalize refZ a p s l x j = Z at *
  generalize a.seg = g at *
  generalize a.lanes = ll at *
  have hV : 0 ≤ S + A - 1 - q := by omega
  rw [Int.tmod_eq_emod_of_nonneg hV] at Zt
  have e1 := Int.emod_add_mul_ediv (S + A - 1 - q) (4 * g)
  rw [Zt] at e1
  have k0 : 0 ≤ (S + A - 1 - q) / (4 * g) := Int.ediv_nonneg hV (by omega)
  have k1 : (S + A - 1 - q) / (4 * g) < 2 := Int.ediv_lt_of_lt_mul (by omega) (by omega)
  generalize (S + A - 1 - q) / (4 * g) = k at *
  have hk : k = 0 ∨ k = 1 := by omega
  have hc0 : 0 ≤ s * g := Int.mul_nonneg s0 (by omega)
  refine ⟨Z / g, (s * g + x + 4 * g - 1) % (4 * g), ?_⟩
  have hy1 := Int.emod_add_mul_ediv Z g
  have hy2 := Int.emod_nonneg Z (show g ≠ 0 by omega)
  have hy3 := Int.emod_lt_of_pos Z (show 0 < g by omega)
  have hr1 := Int.emod_add_mul_ediv (s * g + x + 4 * g - 1) (4 * g)
  have hr2 := Int.emod_nonneg (s * g + x + 4 * g - 1) (show 4 * g ≠ 0 by omega)
  have hr3 := Int.emod_lt_of_pos (s * g + x + 4 * g - 1) (show 0 < 4 * g by omega)
  have hss : s = 0 ∨ s = 1 ∨ s = 2 ∨ s = 3 := by omega
  have ht1 : Z.tdiv g = Z / g := Int.tdiv_eq_ediv_of_nonneg Z0
  have ht2 : (s * g + x + 4 * g - 1).tmod (4 * g) = (s * g + x + 4 * g - 1) % (4 * g) := Int.tmod_eq_emod_of_nonneg (by omega)
  have hq0 : 0 ≤ (s * g + x + 4 * g - 1) / (4 * g) := Int.ediv_nonneg (by omega) (by omega)
  have hq1 : (s * g + x + 4 * g - 1) / (4 * g) < 2 := Int.ediv_lt_of_lt_mul (by omega) (by rcases hss with rfl | rfl | rfl | rfl <;> omega)
  refine ⟨?_, ?_, Z0, Z1, rfl, ht1, rfl, ht2, ?_, ?_⟩
  · split at KL <;> omega
  · split at KL <;> omega
  · intro hne
    clear hr1 hr2 hr3 hq0 hq1 ht1 ht2
    generalize Z / g = y at *
    refine ⟨?_, ?_⟩
    · rintro rfl
      unfold areaOf at KA
      rw [if_neg hne] at KA
      rcases hk with rfl | rfl <;> rcases hss with rfl | rfl | rfl | rfl <;> split at KW <;> split at KS <;> split at KA <;> omega
    · unfold areaOf at KA
      rw [if_neg hne] at KA
      by_cases hp : p = 0
      · right
        rcases hk with rfl | rfl <;> rcases hss with rfl | rfl | rfl | rfl <;> split at KW <;> split at KS <;> split at KA <;> omega
      · left; omega
  · intro he
    clear hy1 hy2 hy3 ht1 ht2
    generalize (s * g + x + 4 * g - 1) % (4 * g) = r at *
    generalize (s * g + x + 4 * g - 1) / (4 * g) = t at *
    have hT : t = 0 ∨ t = 1 := by omega
    unfold areaOf at KA
    rw [if_pos he] at KA
    refine ⟨?_, ?_, ?_⟩
    · rcases hk with rfl | rfl <;> rcases hss with rfl | rfl | rfl | rfl <;> split at KW <;> split at KS <;> omega
    · rcases hT with rfl | rfl <;> rcases hk with rfl | rfl <;> rcases hss with rfl | rfl | rfl | rfl <;> split at KW <;> split at KS <;> omega
    · by_cases hp : p = 0
      · right
        rcases hk with rfl | rfl <;> rcases hss with rfl | rfl | rfl | rfl <;> split at KW <;> split at KS <;> omega
      · left; omega

end Go.Proofs.Ytnkngaicegcejaa

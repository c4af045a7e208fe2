/-
  Addresses, whatever comes in, by the program and by the reference. Contracts alone; no statement is claimed here.
-/
import Derived.Test.YtnkngaicegcejaaAdrQ
namespace Go.Proofs.Ytnkngaicegcejaa
open Go.RowKit
attribute [local go_sem] pureUpon Ords.of

def adrE (a : Ar) (p s l : Int) : Int := if a.ok then (if adrBad a p s l then 1 else 0) else 200
def adrR (a : Ar) (p s l : Int) : List UInt64 := if a.ok ∧ ¬ adrBad a p s l then adrs a p s l else []
def AnsW (d : Int) (l : List UInt64) (w : World) (e : Ending) (w' : World) : Prop :=
  ∃ A n c, e = .returned (.tuple #[.slice A n c, .int .i64 d]) ∧ n = l.length ∧ n ≤ 1024 ∧ OS cW w' w.heap.size A c l ∧ Below w.heap.size w w'
theorem ansW_none {w w' : World} {e : Ending} {d : Int} (he : e = .returned (.tuple #[.slice none 0 0, .int .i64 d])) (hb : Below w.heap.size w w') : AnsW d [] w e w' := ⟨none, 0, 0, he, rfl, by omega, OS.nil _ _ _ rfl, hb⟩

theorem addressesP_any (a : Ar) (p s l : Int) (w : World) :
    Calls Try.prog 43 #[a.v, .int .i64 p, .int .i64 s, .int .i64 l] w (AnsW (adrE a p s l) (adrR a p s l) w) := by
  have hm := may_any a
  unfold adrE adrR
  by_cases h : a.ok
  · rw [decide_eq_true h] at hm
    by_cases hb : adrBad a p s l
    · rw [if_pos h, if_pos hb, if_neg (fun x => x.2 hb)]
      have hc : p < 0 ∨ (¬ p < 0 ∧ a.passes ≤ p) ∨ (¬ p < 0 ∧ ¬ a.passes ≤ p ∧ s < 0) ∨ (¬ p < 0 ∧ ¬ a.passes ≤ p ∧ ¬ s < 0 ∧ 3 < s) ∨ (¬ p < 0 ∧ ¬ a.passes ≤ p ∧ ¬ s < 0 ∧ ¬ 3 < s ∧ l < 0) ∨ (¬ p < 0 ∧ ¬ a.passes ≤ p ∧ ¬ s < 0 ∧ ¬ 3 < s ∧ ¬ l < 0 ∧ a.lanes ≤ l) := by unfold adrBad at hb; omega
      clear h hb
      obtain ⟨k, m, pp, ll, t⟩ := a
      unfold Ar.v at *
      dsimp only at *
      have HM := Lib.hid hm; clear hm
      rcases hc with h1 | ⟨h1, h2⟩ | ⟨h1, h2, h3⟩ | ⟨h1, h2, h3, h4⟩ | ⟨h1, h2, h3, h4, h5⟩ | ⟨h1, h2, h3, h4, h5, h6⟩
      all_goals
        go_enter Try.func43, Try.ntmps43
        go_wp2_with (go_at_call 54; refine (HM.out _).mono ?_; rintro e w1 ⟨rfl, hb1⟩; obtain ⟨hc, hf⟩ := bcell hb1; have hz := hb1.size; simp at hz)
        exact bodyPost_ret (results_tmp2 rfl _ _ _) rfl (ansW_none rfl (bcall (bal (b0 _) _) hb1))
    · rw [if_pos h, if_neg hb, if_pos ⟨h, hb⟩]
      have hin := addressesP_in a h p s l hb
      have hal := adrs_len a p s l
      obtain ⟨hg1, hg2, _⟩ := seg_range h
      have hn : a.seg.toNat ≤ 1024 := by omega
      unfold adrBad at hb
      generalize a.seg.toNat = gN at *
      generalize adrs a p s l = R at *
      clear h hg1 hg2
      obtain ⟨k, m, pp, ll, t⟩ := a
      unfold Ar.v at *
      dsimp only at *
      have HM := Lib.hid hm; have HI := Lib.hid hin; have HAL := Lib.hid hal; clear hm hin hal
      have hn1 : ¬ p < 0 := by omega
      have hn2 : ¬ pp ≤ p := by omega
      have hn3 : ¬ s < 0 := by omega
      have hn4 : ¬ 3 < s := by omega
      have hn5 : ¬ l < 0 := by omega
      have hn6 : ¬ ll ≤ l := by omega
      clear hb
      go_enter Try.func43, Try.ntmps43
      go_wp2_with (first
        | (go_at_call 54; refine (HM.out _).mono ?_; rintro e w1 ⟨rfl, hb1⟩; obtain ⟨hc, hf⟩ := bcell hb1; have hz := hb1.size; simp at hz)
        | (go_at_call 75; refine (HI.out _).mono ?_; rintro e w2 ⟨A, c, rfl, ho, hb2⟩; have HO := Lib.hid ho; clear ho))
      have hw := bcall (bal (b0 w) (.cells #[.int .i64 k, .int .i64 m, .int .i64 pp, .int .i64 ll, .int .i64 t] 49)) hb1
      exact bodyPost_ret (results_tmp2 rfl _ _ _) rfl ⟨A, gN, c, rfl, HAL.out.symm, hn, HO.out.mono hw.size, bcall hw hb2⟩
  · rw [decide_eq_false h] at hm
    rw [if_neg h, if_neg (fun x => h x.1)]
    clear h
    obtain ⟨k, m, pp, ll, t⟩ := a
    unfold Ar.v at *
    have HM := Lib.hid hm; clear hm
    go_enter Try.func43, Try.ntmps43
    go_wp2_with (go_at_call 54; refine (HM.out _).mono ?_; rintro e w1 ⟨rfl, hb1⟩)
    exact bodyPost_ret (results_tmp2 rfl _ _ _) rfl (ansW_none rfl (bcall (bal (b0 _) _) hb1))

theorem addressesR_any (a : Ar) (p s l : Int) (w : World) :
    Calls Try.prog 42 #[a.v, .int .i64 p, .int .i64 s, .int .i64 l] w (AnsW (adrE a p s l) (adrR a p s l) w) := by
  have hm := valid_any a
  unfold adrE adrR
  by_cases h : a.ok
  · by_cases hb : adrBad a p s l
    · rw [if_pos h] at hm
      rw [if_pos h, if_pos hb, if_neg (fun x => x.2 hb)]
      have hc : p < 0 ∨ (¬ p < 0 ∧ a.passes ≤ p) ∨ (¬ p < 0 ∧ ¬ a.passes ≤ p ∧ s < 0) ∨ (¬ p < 0 ∧ ¬ a.passes ≤ p ∧ ¬ s < 0 ∧ 3 < s) ∨ (¬ p < 0 ∧ ¬ a.passes ≤ p ∧ ¬ s < 0 ∧ ¬ 3 < s ∧ l < 0) ∨ (¬ p < 0 ∧ ¬ a.passes ≤ p ∧ ¬ s < 0 ∧ ¬ 3 < s ∧ ¬ l < 0 ∧ a.lanes ≤ l) := by unfold adrBad at hb; omega
      clear h hb
      obtain ⟨k, m, pp, ll, t⟩ := a
      unfold Ar.v at *
      dsimp only at *
      have HM := Lib.hid hm; clear hm
      rcases hc with h1 | ⟨h1, h2⟩ | ⟨h1, h2, h3⟩ | ⟨h1, h2, h3, h4⟩ | ⟨h1, h2, h3, h4, h5⟩ | ⟨h1, h2, h3, h4, h5, h6⟩
      all_goals
        go_enter Try.func42, Try.ntmps42
        go_wp2_with (go_at_call 57; refine (HM.out _).mono ?_; rintro e w1 ⟨rfl, hb1⟩; obtain ⟨hc, hf⟩ := bcell hb1; have hz := hb1.size; simp at hz)
        exact bodyPost_ret (results_tmp2 rfl _ _ _) rfl (ansW_none rfl (bcall (bal (b0 _) _) hb1))
    · rw [if_pos h, if_neg hb, if_pos ⟨h, hb⟩]
      obtain ⟨hg1, hg2, _⟩ := seg_range h
      exact (addressesR_yes a h p s l hb w).mono fun e w' ⟨A, c, he, ho, hb⟩ => ⟨A, _, c, he, (adrs_len a p s l).symm, by omega, ho, hb⟩
  · rw [if_neg h] at hm
    rw [if_neg h, if_neg (fun x => h x.1)]
    clear h
    obtain ⟨k, m, pp, ll, t⟩ := a
    unfold Ar.v at *
    have HM := Lib.hid hm; clear hm
    go_enter Try.func42, Try.ntmps42
    go_wp2_with (go_at_call 57; refine (HM.out _).mono ?_; rintro e w1 ⟨rfl, hb1⟩)
    exact bodyPost_ret (results_tmp2 rfl _ _ _) rfl (ansW_none rfl (bcall (bal (b0 _) _) hb1))
end Go.Proofs.Ytnkngaicegcejaa

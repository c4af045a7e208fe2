/-
  LaneParams, the law. Contracts alone; no statement is claimed here.
-/
import Derived.Test.YtnkngaicegcejaaLanB
import Derived.Test.YtnkngaicegcejaaLaw8a
namespace Go.Proofs.Ytnkngaicegcejaa
open Go.RowKit

theorem parNil (k n most digest key at_ : Int) : (parP k n most digest key at_).salt = Sl.nil ∧ (parP k n most digest key at_).pers = Sl.nil := by
  unfold parP
  split <;> exact ⟨rfl, rfl⟩
theorem same_nil (w : World) : Calls Try.prog 17 #[.slice none 0 0, .slice none 0 0] w fun e w' => e = .returned (.bool true) ∧ ∃ n, w' = w.drewN n :=
  (same_any none none 0 0 [] [] 0 0 0 0 w rfl rfl (by omega) (RS.nil _) (RS.nil _)).mono fun _ _ ⟨he, h⟩ => ⟨he, h⟩

set_option maxRecDepth 20000 in
set_option maxHeartbeats 4000000 in
theorem laneParams1 (k digest key at_ : Int) (P : Pr) (E n c : Int) (hs : P.salt = Sl.nil) (hp : P.pers = Sl.nil)
    (hN : Hid (∀ w : World, Calls Try.prog 60 #[.int .i64 k] w fun e w' => e = .returned (.tuple #[.int .i64 n, .int .i64 c]) ∧ Below w.heap.size w w'))
    (hC : Hid (∀ w : World, Calls Try.prog 44 #[.int .i64 k] w fun e w' => e = .returned (.int .i64 n) ∧ w = w')) (hc : c = if n = 0 then 1 else 0)
    (hP : Hid (∀ w : World, Calls Try.prog 61 #[.int .i64 k, .int .i64 digest, .int .i64 key, .int .i64 at_] w fun e w' => e = .returned (.tuple #[P.v, .int .i64 E]) ∧ Below w.heap.size w w'))
    (hR : Hid (∀ w : World, Calls Try.prog 62 #[.int .i64 k, .int .i64 digest, .int .i64 key, .int .i64 at_] w fun e w' => e = .returned (.tuple #[P.v, .int .i64 E]) ∧ Below w.heap.size w w')) (w : World) :
    Calls Try.prog 32 #[.int .i64 k, .int .i64 digest, .int .i64 key, .int .i64 at_] w fun e w' => e = .returned (.bool true) ∧ Below w.heap.size w w' := by
  obtain ⟨d, ky, fo, de, le, of, xo, nd, inn, sa, pe⟩ := P
  dsimp only at hs hp
  subst hs; subst hp
  unfold Pr.v Pr.cs Sl.v Sl.nil at *
  dsimp only at *
  by_cases hn : n = 0
  · subst hn
    simp only [if_true] at hc
    subst hc
    go_enter Try.func32, Try.ntmps32
    go_wp2_with (first
      | (go_at_call 60; refine (hN.out _).mono ?_; rintro e w1 ⟨rfl, hbw1⟩; (first | refine withN hbw1 ?_ | refine withD hbw1 ?_ | refine with0 hbw1 ?_); intro hcw1 hfw1)
      | (go_at_call 44; refine (hC.out _).mono ?_; rintro e wc ⟨rfl, rfl⟩)
      | (go_at_call 61; refine (hP.out _).mono ?_; rintro e w2 ⟨rfl, hbw2⟩; (first | refine withN hbw2 ?_ | refine withD hbw2 ?_ | refine with0 hbw2 ?_); intro hcw2 hfw2)
      | (go_at_call 62; refine (hR.out _).mono ?_; rintro e w3 ⟨rfl, hbw3⟩; refine with0 hbw3 ?_; intro hcw3 hfw3; have z2 : w2.heap.size < w3.heap.size := by (have := hbw3.size; simp at this; omega))
      | (go_at_call 17; refine (same_nil _).mono ?_; rintro e w5 ⟨rfl, n5, rfl⟩))
    refine bodyPost_ret (results_tmp rfl _ _ _) rfl ⟨?_, bdr (bal (bcall (bal (bcall (bcall (b0 _) hbw1) hbw2) _) hbw3) _) _⟩
    exact ret_true (by first | rfl | simp)
  · rw [if_neg hn] at hc
    subst hc
    have hn0 : (n == 0) = false := by simpa using hn
    go_enter Try.func32, Try.ntmps32
    go_wp2_with (first
      | (go_at_call 60; refine (hN.out _).mono ?_; rintro e w1 ⟨rfl, hbw1⟩; (first | refine withN hbw1 ?_ | refine withD hbw1 ?_ | refine with0 hbw1 ?_); intro hcw1 hfw1)
      | (go_at_call 44; refine (hC.out _).mono ?_; rintro e wc ⟨rfl, rfl⟩)
      | (go_at_call 61; refine (hP.out _).mono ?_; rintro e w2 ⟨rfl, hbw2⟩; (first | refine withN hbw2 ?_ | refine withD hbw2 ?_ | refine with0 hbw2 ?_); intro hcw2 hfw2)
      | (go_at_call 62; refine (hR.out _).mono ?_; rintro e w3 ⟨rfl, hbw3⟩; refine with0 hbw3 ?_; intro hcw3 hfw3; have z2 : w2.heap.size < w3.heap.size := by (have := hbw3.size; simp at this; omega))
      | (go_at_call 17; refine (same_nil _).mono ?_; rintro e w5 ⟨rfl, n5, rfl⟩))
    refine bodyPost_ret (results_tmp rfl _ _ _) rfl ⟨?_, bdr (bal (bcall (bal (bcall (bcall (b0 _) hbw1) hbw2) _) hbw3) _) _⟩
    exact ret_true (by first | rfl | simp)

theorem lanCount_none (k : Int) (h1 : k ≠ 1) (h2 : k ≠ 2) (w : World) :
    Calls Try.prog 60 #[.int .i64 k] w fun e w' => e = .returned (.tuple #[.int .i64 0, .int .i64 1]) ∧ Below w.heap.size w w' := by
  go_enter Try.func60, Try.ntmps60
  go_wp2_with (go_at_call 46; refine (of_none k h1 h2 _).mono ?_; rintro e w1 ⟨rfl, hbw1⟩)
  exact bodyPost_ret (results_tmp2 rfl _ _ _) rfl ⟨rfl, bal hbw1 _⟩
theorem laneParams_any (k digest key at_ : Int) (w : World) :
    Calls Try.prog 32 #[.int .i64 k, .int .i64 digest, .int .i64 key, .int .i64 at_] w fun e w' => e = .returned (.bool true) ∧ Below w.heap.size w w' := by
  by_cases h1 : k = 1
  · subst h1
    obtain ⟨a, b⟩ := parNil 1 4 64 digest key at_
    exact laneParams1 1 digest key at_ (parP 1 4 64 digest key at_) (parE 1 4 64 digest key at_) 4 0 a b (Lib.hid fun w => lanCount_any 1 4 128 64 (Lib.hid of_big) w) (Lib.hid count_big) rfl
      (Lib.hid fun w => lparams_kind 1 4 128 64 digest key at_ (by omega) (Lib.hid of_big) w) (Lib.hid fun w => refParams_kind 1 4 64 digest key at_ (by omega) (by omega) (Lib.hid count_big) (Lib.hid most_big) w) w
  · by_cases h2 : k = 2
    · subst h2
      obtain ⟨a, b⟩ := parNil 2 8 32 digest key at_
      exact laneParams1 2 digest key at_ (parP 2 8 32 digest key at_) (parE 2 8 32 digest key at_) 8 0 a b (Lib.hid fun w => lanCount_any 2 8 64 32 (Lib.hid of_small) w) (Lib.hid count_small) rfl
        (Lib.hid fun w => lparams_kind 2 8 64 32 digest key at_ (by omega) (Lib.hid of_small) w) (Lib.hid fun w => refParams_kind 2 8 32 digest key at_ (by omega) (by omega) (Lib.hid count_small) (Lib.hid most_small) w) w
    · exact laneParams1 k digest key at_ zeroPar 1 0 1 rfl rfl (Lib.hid fun w => lanCount_none k h1 h2 w) (Lib.hid fun w => count_none k h1 h2 w) rfl
        (Lib.hid fun w => lparams_none k digest key at_ h1 h2 w) (Lib.hid fun w => refParams_none k digest key at_ h1 h2 w) w

set_option maxHeartbeats 1000000 in
theorem params_law (k digest key : Int) (w : World) :
    Calls Try.prog 9 #[.int .i64 k, .int .i64 digest, .int .i64 key] w fun e w' => e = .returned (.bool true) ∧ Below w.heap.size w w' := by
  go_enter Try.func9, Try.ntmps9
  go_wp2
  go_loopw [7] (fun i wr => ∃ j : Nat, j ≤ 11 ∧ i = .int .i64 ((j : Int) - 1) ∧ Below w.heap.size w wr) (fun i _ => 11 - (intOf i + 1).toNat)
  case atStart => exact ⟨0, by omega, rfl, b0 _⟩
  case round =>
    obtain ⟨j, hj, rfl, hb⟩ := hrel
    by_cases hlt : j < 11
    · go_wp2_with (go_at_call 32; refine (laneParams_any _ _ _ _ _).mono ?_; rintro e w1 ⟨rfl, hb1⟩)
      go_roundw
      case rel => exact ⟨j + 1, by omega, by go_num, bcall hb hb1⟩
      case measure => simp [intOf]; omega
    · obtain rfl : j = 11 := by omega
      go_wp2
      exact bodyPost_ret (results_tmp rfl _ _ _) rfl ⟨rfl, hb⟩
end Go.Proofs.Ytnkngaicegcejaa

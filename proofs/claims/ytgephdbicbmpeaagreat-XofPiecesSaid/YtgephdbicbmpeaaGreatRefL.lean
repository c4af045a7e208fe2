/-
  What the reference's hasher tells is what the program's tells. Lemmas alone; no statement is claimed here.
-/
import Derived.Test.YtgephdbicbmpeaaGreatRefU
import Derived.Test.YtgephdbicbmpeaaGreatFeedA
namespace Go.Proofs.YtgephdbicbmpeaaGreat

theorem cutL_take (M : List UInt8) (K a n : Nat) (h : a + n ≤ K) : cutL (M.take K) a n = cutL M a n := by
  unfold cutL
  rw [List.drop_take, List.take_take, Nat.min_eq_left (by omega)]
theorem cutL_mid (M : List UInt8) (a n : Nat) (h : a + n ≤ M.length) : cutL M a n = (M.drop a).take n := by
  unfold cutL padTo
  rw [show n - ((M.drop a).take n).length = 0 by rw [List.length_take, List.length_drop]; omega]
  exact List.append_nil _
theorem cutL_end (M : List UInt8) (a n : Nat) (h : M.length ≤ a + n) : cutL M a n = padTo (M.drop a) n := by
  unfold cutL
  rw [List.take_of_length_le (by rw [List.length_drop]; omega)]
theorem passTo_take (n : Nat) (M : List UInt8) (S : HS) (K : Nat) : ∀ j, j * n ≤ K → passTo n (M.take K) S j = passTo n M S j
  | 0, _ => rfl
  | j + 1, h => by
    rw [Nat.succ_mul] at h
    unfold passTo
    rw [passTo_take n M S K j (by omega), cutL_take M K (j * n) n h]
theorem St64.passes (H0 : List UInt64) (hH : H0.length = 8) : ∀ (j : Nat) (M : List UInt8), j * 128 ≤ M.length → M.length ≤ j * 128 + 128 → (j = 0 ∨ j * 128 < M.length) →
        ∃ H lo hi, passTo 128 M (.big H0) j = (.big H, lo, hi) ∧ (St64.mk H0 0 0 []).feed M = ⟨H, lo, hi, M.drop (j * 128)⟩ ∧ H.length = 8
      | 0, M, _, h2, _ => by
        refine ⟨H0, 0, 0, rfl, ?_, hH⟩
        by_cases h0 : M = []
        · subst h0; rfl
        have hok : (St64.mk H0 0 0 []).Ok := ⟨hH, Nat.zero_le _⟩
        have hr : (St64.mk H0 0 0 []).ready = ⟨H0, 0, 0, []⟩ := by unfold St64.ready; rw [if_neg (by simp)]
        rw [St64.feed_step hok M h0, hr]
        show (St64.take (⟨H0, 0, 0, []⟩ : St64) M).feed (M.drop (128 - 0)) = _
        rw [List.drop_eq_nil_of_le (by omega), St64.feed_nil]
        show (⟨H0, 0, 0, [] ++ M.take (128 - 0)⟩ : St64) = _
        rw [List.take_of_length_le (by omega), Nat.zero_mul]
        rfl
      | j + 1, M, h1, h2, h3 => by
        rw [Nat.succ_mul] at h1 h2 h3
        have h3' : j * 128 + 128 < M.length := by rcases h3 with h | h <;> omega
        obtain ⟨H, lo, hi, hp, hf, hHl⟩ := St64.passes H0 hH j (M.take (j * 128 + 128)) (by rw [List.length_take]; omega) (by rw [List.length_take]; omega) (.inr (by rw [List.length_take]; omega))
        rw [passTo_take 128 M _ _ j (by omega)] at hp
        have hsplit : M = M.take (j * 128 + 128) ++ M.drop (j * 128 + 128) := (List.take_append_drop _ _).symm
        have hne : M.drop (j * 128 + 128) ≠ [] := by intro h; have := congrArg List.length h; rw [List.length_drop] at this; simp at this; omega
        have hok : (St64.mk H0 0 0 []).Ok := ⟨hH, Nat.zero_le _⟩
        have hheld : (M.take (j * 128 + 128)).drop (j * 128) = cutL M (j * 128) 128 := by rw [cutL_mid M _ _ (by omega), List.drop_take, Nat.add_sub_cancel_left]
        have hheldl : (cutL M (j * 128) 128).length = 128 := cutL_len _ _ _
        rw [hheld] at hf
        have hok1 : (St64.mk H lo hi (cutL M (j * 128) 128)).Ok := ⟨hHl, by rw [hheldl]; exact Nat.le_refl _⟩
        have hready : (St64.mk H lo hi (cutL M (j * 128) 128)).ready = ⟨comp64 H (wordsOf (cutL M (j * 128) 128) 16) (addLo lo 128) (addHi lo hi 128) false false, addLo lo 128, addHi lo hi 128, []⟩ := by
          unfold St64.ready
          rw [if_pos hheldl]
          rfl
        refine ⟨comp64 H (wordsOf (cutL M (j * 128) 128) 16) (addLo lo 128) (addHi lo hi 128) false false, addLo lo 128, addHi lo hi 128, ?_, ?_, comp64_len _ _ _ _ _ _⟩
        · unfold passTo
          rw [hp]
          rfl
        · rw [show (St64.mk H0 0 0 []).feed M = (St64.mk H0 0 0 []).feed (M.take (j * 128 + 128) ++ M.drop (j * 128 + 128)) from congrArg _ hsplit, St64.feed_append _ _ _ _ hok (Nat.le_refl _), hf, St64.feed_step hok1 _ hne, hready]
          show (St64.take _ _).feed ((M.drop (j * 128 + 128)).drop (128 - 0)) = _
          have hdn : (M.drop (j * 128 + 128)).drop (128 - 0) = [] := List.drop_eq_nil_of_le (by rw [List.length_drop]; omega)
          rw [hdn, St64.feed_nil]
          unfold St64.take
          show (St64.mk _ _ _ ([] ++ (M.drop (j * 128 + 128)).take (128 - 0))) = _
          rw [List.take_of_length_le (by rw [List.length_drop]; omega), Nat.succ_mul]
          rfl
theorem St32.passes (H0 : List UInt32) (hH : H0.length = 8) : ∀ (j : Nat) (M : List UInt8), j * 64 ≤ M.length → M.length ≤ j * 64 + 64 → (j = 0 ∨ j * 64 < M.length) →
              ∃ H lo hi, passTo 64 M (.small H0) j = (.small H, lo, hi) ∧ (St32.mk H0 0 0 []).feed M = ⟨H, lo, hi, M.drop (j * 64)⟩ ∧ H.length = 8
            | 0, M, _, h2, _ => by
              refine ⟨H0, 0, 0, rfl, ?_, hH⟩
              by_cases h0 : M = []
              · subst h0; rfl
              have hok : (St32.mk H0 0 0 []).Ok := ⟨hH, Nat.zero_le _⟩
              have hr : (St32.mk H0 0 0 []).ready = ⟨H0, 0, 0, []⟩ := by unfold St32.ready; rw [if_neg (by simp)]
              rw [St32.feed_step hok M h0, hr]
              show (St32.take (⟨H0, 0, 0, []⟩ : St32) M).feed (M.drop (64 - 0)) = _
              rw [List.drop_eq_nil_of_le (by omega), St32.feed_nil]
              show (⟨H0, 0, 0, [] ++ M.take (64 - 0)⟩ : St32) = _
              rw [List.take_of_length_le (by omega), Nat.zero_mul]
              rfl
            | j + 1, M, h1, h2, h3 => by
              rw [Nat.succ_mul] at h1 h2 h3
              have h3' : j * 64 + 64 < M.length := by rcases h3 with h | h <;> omega
              obtain ⟨H, lo, hi, hp, hf, hHl⟩ := St32.passes H0 hH j (M.take (j * 64 + 64)) (by rw [List.length_take]; omega) (by rw [List.length_take]; omega) (.inr (by rw [List.length_take]; omega))
              rw [passTo_take 64 M _ _ j (by omega)] at hp
              have hsplit : M = M.take (j * 64 + 64) ++ M.drop (j * 64 + 64) := (List.take_append_drop _ _).symm
              have hne : M.drop (j * 64 + 64) ≠ [] := by intro h; have := congrArg List.length h; rw [List.length_drop] at this; simp at this; omega
              have hok : (St32.mk H0 0 0 []).Ok := ⟨hH, Nat.zero_le _⟩
              have hheld : (M.take (j * 64 + 64)).drop (j * 64) = cutL M (j * 64) 64 := by rw [cutL_mid M _ _ (by omega), List.drop_take, Nat.add_sub_cancel_left]
              have hheldl : (cutL M (j * 64) 64).length = 64 := cutL_len _ _ _
              rw [hheld] at hf
              have hok1 : (St32.mk H lo hi (cutL M (j * 64) 64)).Ok := ⟨hHl, by rw [hheldl]; exact Nat.le_refl _⟩
              have hready : (St32.mk H lo hi (cutL M (j * 64) 64)).ready = ⟨comp32 H (words3 (cutL M (j * 64) 64) 16) (addLo lo 64) false false, addLo lo 64, addHi lo hi 64, []⟩ := by
                unfold St32.ready
                rw [if_pos hheldl]
                rfl
              refine ⟨comp32 H (words3 (cutL M (j * 64) 64) 16) (addLo lo 64) false false, addLo lo 64, addHi lo hi 64, ?_, ?_, comp32_len _ _ _ _ _⟩
              · unfold passTo
                rw [hp]
                rfl
              · rw [show (St32.mk H0 0 0 []).feed M = (St32.mk H0 0 0 []).feed (M.take (j * 64 + 64) ++ M.drop (j * 64 + 64)) from congrArg _ hsplit, St32.feed_append _ _ _ _ hok (Nat.le_refl _), hf, St32.feed_step hok1 _ hne, hready]
                show (St32.take _ _).feed ((M.drop (j * 64 + 64)).drop (64 - 0)) = _
                have hdn : (M.drop (j * 64 + 64)).drop (64 - 0) = [] := List.drop_eq_nil_of_le (by rw [List.length_drop]; omega)
                rw [hdn, St32.feed_nil]
                unfold St32.take
                show (St32.mk _ _ _ ([] ++ (M.drop (j * 64 + 64)).take (64 - 0))) = _
                rw [List.take_of_length_le (by rw [List.length_drop]; omega), Nat.succ_mul]
                rfl
theorem startK_key (big : Bool) (x key data : List UInt8) : (startK big x key).feed data = (startOf big x).feed (keyL big key ++ data) := by
  unfold startK keyL
  split
  · rfl
  · rw [Eng.feed_append _ (startOf_ok big x)]
theorem out_law (big : Bool) (x key data : List UInt8) (last : Bool) (n j a : Nat) (S : HS) (lo hi : UInt64) (hn : n = 2 * bOf big) (hp : passTo n (keyL big key ++ data) (HS.start big x) j = (S, lo, hi)) (ha : a = j * n) (h1 : a ≤ (keyL big key ++ data).length) (h2 : (keyL big key ++ data).length ≤ a + n) (h3 : j = 0 ∨ a < (keyL big key ++ data).length) :
    outR n (keyL big key ++ data) a S lo hi last = ((startK big x key).feed data).out last := by
  rw [startK_key]
  subst hn ha
  generalize keyL big key ++ data = M at *
  cases big with
  | true =>
    obtain ⟨H, lo', hi', hp', hf, hHl⟩ := St64.passes (start64 x) (start64_len x) j M h1 h2 h3
    change passTo 128 M (.big (start64 x)) j = _ at hp
    rw [hp'] at hp
    cases hp
    show _ = (Eng.big ((St64.mk (start64 x) 0 0 []).feed M)).out last
    rw [hf]
    show _ = flat (comp64 H (wordsOf (padTo (M.drop (j * 128)) 128) 16) (addLo lo (UInt64.ofNat (M.drop (j * 128)).length)) (addHi lo hi (UInt64.ofNat (M.drop (j * 128)).length)) true last)
    rw [List.length_drop, ← cutL_end M (j * 128) 128 h2]
    rfl
  | false =>
    obtain ⟨H, lo', hi', hp', hf, hHl⟩ := St32.passes (start32 x) (start32_len x) j M h1 h2 h3
    change passTo 64 M (.small (start32 x)) j = _ at hp
    rw [hp'] at hp
    cases hp
    show _ = (Eng.small ((St32.mk (start32 x) 0 0 []).feed M)).out last
    rw [hf]
    show _ = flat3 (comp32 H (words3 (padTo (M.drop (j * 64)) 64) 16) (addLo lo (UInt64.ofNat (M.drop (j * 64)).length)) true last)
    rw [List.length_drop, ← cutL_end M (j * 64) 64 h2]
    rfl
end Go.Proofs.YtgephdbicbmpeaaGreat

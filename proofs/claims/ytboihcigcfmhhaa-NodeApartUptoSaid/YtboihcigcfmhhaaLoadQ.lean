/-
  What a hasher holds when it has been fed: counts, state, what is held back. Lemmas alone; no statement is claimed here.
-/
import Derived.Test.YtboihcigcfmhhaaFeedA
namespace Go.Proofs.Ytboihcigcfmhhaa

theorem cy_none {lo n : UInt64} (h : lo.toNat + n.toNat < 2 ^ 64) : cyOf lo n 0 = 0 := by
  unfold cyOf
  rw [Nat.div_eq_of_lt (by simpa using h)]
  rfl
/-- T bytes have been fed: the blocks that went in, and what is held back -/
structure St64.Cnt (s : St64) (T : Nat) : Prop where
  tot : s.lo.toNat + s.held.length = T
  hi : s.hi = 0
  mod : s.lo.toNat % 128 = 0
structure St32.Cnt (s : St32) (T : Nat) : Prop where
  tot : s.lo.toNat + s.held.length = T
  hi : s.hi = 0
  mod : s.lo.toNat % 64 = 0
theorem St64.Cnt.ready {s : St64} {T : Nat} (h : s.Cnt T) (hT : T < 2 ^ 62) : s.ready.Cnt T := by
  unfold St64.ready
  split
  · rename_i hl
    have h1 := h.tot
    have e : (addLo s.lo 128).toNat = s.lo.toNat + 128 := by
      unfold addLo
      rw [UInt64.toNat_add, Nat.mod_eq_of_lt (by show s.lo.toNat + 128 < _; omega)]
      rfl
    refine ⟨?_, ?_, ?_⟩
    · show (addLo s.lo 128).toNat + 0 = T
      rw [e]; omega
    · show addHi s.lo s.hi 128 = 0
      unfold addHi
      rw [cy_none (by show s.lo.toNat + 128 < _; omega), h.hi]; rfl
    · show (addLo s.lo 128).toNat % 128 = 0
      rw [e, Nat.add_mod_right]; exact h.mod
  · exact h
theorem St32.Cnt.ready {s : St32} {T : Nat} (h : s.Cnt T) (hT : T < 2 ^ 62) : s.ready.Cnt T := by
  unfold St32.ready
  split
  · rename_i hl
    have h1 := h.tot
    have e : (addLo s.lo 64).toNat = s.lo.toNat + 64 := by
      unfold addLo
      rw [UInt64.toNat_add, Nat.mod_eq_of_lt (by show s.lo.toNat + 64 < _; omega)]
      rfl
    refine ⟨?_, ?_, ?_⟩
    · show (addLo s.lo 64).toNat + 0 = T
      rw [e]; omega
    · show addHi s.lo s.hi 64 = 0
      unfold addHi
      rw [cy_none (by show s.lo.toNat + 64 < _; omega), h.hi]; rfl
    · show (addLo s.lo 64).toNat % 64 = 0
      rw [e, Nat.add_mod_right]; exact h.mod
  · exact h
theorem St64.Cnt.feed : ∀ (n : Nat) {s : St64} {T : Nat} (b : List UInt8), s.Ok → s.Cnt T → b.length ≤ n → T + b.length < 2 ^ 62 → (s.lo = 0 ∨ s.held ≠ []) →
    (s.feed b).Cnt (T + b.length) ∧ ((s.feed b).lo = 0 ∨ (s.feed b).held ≠ [])
  | 0, s, T, b, _, h, hb, _, h0 => by
    obtain rfl : b = [] := List.eq_nil_of_length_eq_zero (by omega)
    exact ⟨h, h0⟩
  | n + 1, s, T, b, hs, h, hb, hT, h0 => by
    by_cases hn : b = []
    · subst hn; exact ⟨h, h0⟩
    have hl : 0 < b.length := List.length_pos_iff.2 hn
    rw [St64.feed_step hs b hn]
    obtain ⟨r1, r2⟩ := St64.ready_ok hs
    have h2 := h.ready (by omega)
    have h3 : (s.ready.take b).Cnt (T + min (128 - s.ready.held.length) b.length) := by
      refine ⟨?_, h2.hi, h2.mod⟩
      show s.ready.lo.toNat + (s.ready.held ++ b.take (128 - s.ready.held.length)).length = _
      rw [List.length_append, List.length_take, ← Nat.add_assoc, h2.tot]
    have h4 : (s.ready.take b).held ≠ [] := by
      intro e
      have := congrArg List.length e
      have h5 : (s.ready.take b).held.length = s.ready.held.length + min (128 - s.ready.held.length) b.length := by
        show (s.ready.held ++ b.take (128 - s.ready.held.length)).length = _
        rw [List.length_append, List.length_take]
      rw [h5] at this
      simp only [List.length_nil] at this
      omega
    have h6 := St64.Cnt.feed n (b.drop (128 - s.ready.held.length)) (St64.take_ok r1 b) h3 (by rw [List.length_drop]; omega) (by rw [List.length_drop]; omega) (.inr h4)
    rw [List.length_drop] at h6
    rw [show T + b.length = T + min (128 - s.ready.held.length) b.length + (b.length - (128 - s.ready.held.length)) by omega]
    exact h6
theorem St32.Cnt.feed : ∀ (n : Nat) {s : St32} {T : Nat} (b : List UInt8), s.Ok → s.Cnt T → b.length ≤ n → T + b.length < 2 ^ 62 → (s.lo = 0 ∨ s.held ≠ []) →
    (s.feed b).Cnt (T + b.length) ∧ ((s.feed b).lo = 0 ∨ (s.feed b).held ≠ [])
  | 0, s, T, b, _, h, hb, _, h0 => by
    obtain rfl : b = [] := List.eq_nil_of_length_eq_zero (by omega)
    exact ⟨h, h0⟩
  | n + 1, s, T, b, hs, h, hb, hT, h0 => by
    by_cases hn : b = []
    · subst hn; exact ⟨h, h0⟩
    have hl : 0 < b.length := List.length_pos_iff.2 hn
    rw [St32.feed_step hs b hn]
    obtain ⟨r1, r2⟩ := St32.ready_ok hs
    have h2 := h.ready (by omega)
    have h3 : (s.ready.take b).Cnt (T + min (64 - s.ready.held.length) b.length) := by
      refine ⟨?_, h2.hi, h2.mod⟩
      show s.ready.lo.toNat + (s.ready.held ++ b.take (64 - s.ready.held.length)).length = _
      rw [List.length_append, List.length_take, ← Nat.add_assoc, h2.tot]
    have h4 : (s.ready.take b).held ≠ [] := by
      intro e
      have := congrArg List.length e
      have h5 : (s.ready.take b).held.length = s.ready.held.length + min (64 - s.ready.held.length) b.length := by
        show (s.ready.held ++ b.take (64 - s.ready.held.length)).length = _
        rw [List.length_append, List.length_take]
      rw [h5] at this
      simp only [List.length_nil] at this
      omega
    have h6 := St32.Cnt.feed n (b.drop (64 - s.ready.held.length)) (St32.take_ok r1 b) h3 (by rw [List.length_drop]; omega) (by rw [List.length_drop]; omega) (.inr h4)
    rw [List.length_drop] at h6
    rw [show T + b.length = T + min (64 - s.ready.held.length) b.length + (b.length - (64 - s.ready.held.length)) by omega]
    exact h6
/-- a block and less is held back whole -/
theorem St64.feed_small {s : St64} (hs : s.Ok) (hh : s.held = []) (b : List UInt8) (hb : b.length ≤ 128) : s.feed b = ⟨s.H, s.lo, s.hi, b⟩ := by
  by_cases hn : b = []
  · subst hn
    obtain ⟨H, lo, hi, held⟩ := s
    dsimp only at hh
    subst hh; rfl
  rw [St64.feed_step hs b hn]
  have e : s.ready = s := by
    unfold St64.ready
    rw [hh, if_neg (by simp)]
  rw [e, hh]
  show (s.take b).feed (b.drop 128) = _
  rw [List.drop_eq_nil_of_le hb, St64.feed_nil]
  unfold St64.take
  rw [hh]
  show (⟨s.H, s.lo, s.hi, [] ++ b.take 128⟩ : St64) = _
  rw [List.nil_append, List.take_of_length_le hb]
theorem St32.feed_small {s : St32} (hs : s.Ok) (hh : s.held = []) (b : List UInt8) (hb : b.length ≤ 64) : s.feed b = ⟨s.H, s.lo, s.hi, b⟩ := by
  by_cases hn : b = []
  · subst hn
    obtain ⟨H, lo, hi, held⟩ := s
    dsimp only at hh
    subst hh; rfl
  rw [St32.feed_step hs b hn]
  have e : s.ready = s := by
    unfold St32.ready
    rw [hh, if_neg (by simp)]
  rw [e, hh]
  show (s.take b).feed (b.drop 64) = _
  rw [List.drop_eq_nil_of_le hb, St32.feed_nil]
  unfold St32.take
  rw [hh]
  show (⟨s.H, s.lo, s.hi, [] ++ b.take 64⟩ : St32) = _
  rw [List.nil_append, List.take_of_length_le hb]
end Go.Proofs.Ytboihcigcfmhhaa

/-
  What is written in pieces is what is written at once. Lemmas alone; no statement is claimed here.
-/
import Derived.Test.YtboihcigcfmhhaaNodeC
namespace Go.Proofs.Ytboihcigcfmhhaa

theorem St64.feed_append : ∀ (n : Nat) (s : St64) (a b : List UInt8), s.Ok → a.length ≤ n → s.feed (a ++ b) = (s.feed a).feed b
  | 0, s, a, b, _, ha => by
    obtain rfl : a = [] := List.eq_nil_of_length_eq_zero (by omega)
    rfl
  | n + 1, s, a, b, hs, ha => by
    by_cases h0 : a = []
    · subst h0; rfl
    have h1 := St64.ready_ok hs
    have hl : 0 < a.length := List.length_pos_iff.2 h0
    rw [St64.feed_step hs (a ++ b) (by simp [h0]), St64.feed_step hs a h0]
    generalize hr : s.ready = r at *
    obtain ⟨hr1, hr2⟩ := h1
    by_cases hk : 128 - r.held.length ≤ a.length
    · have e1 : (a ++ b).drop (128 - r.held.length) = a.drop (128 - r.held.length) ++ b := List.drop_append_of_le_length hk
      have e2 : r.take (a ++ b) = r.take a := by
        unfold St64.take
        rw [List.take_append_of_le_length hk]
      rw [e1, e2]
      exact St64.feed_append n _ _ b (St64.take_ok hr1 _) (by rw [List.length_drop]; omega)
    · have e0 : a.drop (128 - r.held.length) = [] := List.drop_eq_nil_of_le (by omega)
      rw [e0, St64.feed_nil]
      by_cases hb : b = []
      · subst hb
        rw [List.append_nil, e0]
      · have hok := St64.take_ok hr1 a
        have hheld : (r.take a).held = r.held ++ a := by
          show r.held ++ a.take (128 - r.held.length) = _
          rw [List.take_of_length_le (by omega)]
        have hlen : (r.take a).held.length = r.held.length + a.length := by rw [hheld, List.length_append]
        have hready : (r.take a).ready = r.take a := by
          unfold St64.ready
          rw [if_neg (by omega)]
        rw [St64.feed_step hok b hb, hready]
        have e3 : (r.take a).take b = r.take (a ++ b) := by
          unfold St64.take
          dsimp only
          rw [List.take_of_length_le (l := a) (by omega), List.take_append, List.take_of_length_le (l := a) (by omega), List.length_append, List.append_assoc, show 128 - r.held.length - a.length = 128 - (r.held.length + a.length) by omega]
        rw [e3, hlen, List.drop_append, e0, List.nil_append, show 128 - r.held.length - a.length = 128 - (r.held.length + a.length) by omega]
theorem St32.feed_append : ∀ (n : Nat) (s : St32) (a b : List UInt8), s.Ok → a.length ≤ n → s.feed (a ++ b) = (s.feed a).feed b
  | 0, s, a, b, _, ha => by
    obtain rfl : a = [] := List.eq_nil_of_length_eq_zero (by omega)
    rfl
  | n + 1, s, a, b, hs, ha => by
    by_cases h0 : a = []
    · subst h0; rfl
    have h1 := St32.ready_ok hs
    have hl : 0 < a.length := List.length_pos_iff.2 h0
    rw [St32.feed_step hs (a ++ b) (by simp [h0]), St32.feed_step hs a h0]
    generalize hr : s.ready = r at *
    obtain ⟨hr1, hr2⟩ := h1
    by_cases hk : 64 - r.held.length ≤ a.length
    · have e1 : (a ++ b).drop (64 - r.held.length) = a.drop (64 - r.held.length) ++ b := List.drop_append_of_le_length hk
      have e2 : r.take (a ++ b) = r.take a := by
        unfold St32.take
        rw [List.take_append_of_le_length hk]
      rw [e1, e2]
      exact St32.feed_append n _ _ b (St32.take_ok hr1 _) (by rw [List.length_drop]; omega)
    · have e0 : a.drop (64 - r.held.length) = [] := List.drop_eq_nil_of_le (by omega)
      rw [e0, St32.feed_nil]
      by_cases hb : b = []
      · subst hb
        rw [List.append_nil, e0]
      · have hok := St32.take_ok hr1 a
        have hheld : (r.take a).held = r.held ++ a := by
          show r.held ++ a.take (64 - r.held.length) = _
          rw [List.take_of_length_le (by omega)]
        have hlen : (r.take a).held.length = r.held.length + a.length := by rw [hheld, List.length_append]
        have hready : (r.take a).ready = r.take a := by
          unfold St32.ready
          rw [if_neg (by omega)]
        rw [St32.feed_step hok b hb, hready]
        have e3 : (r.take a).take b = r.take (a ++ b) := by
          unfold St32.take
          dsimp only
          rw [List.take_of_length_le (l := a) (by omega), List.take_append, List.take_of_length_le (l := a) (by omega), List.length_append, List.append_assoc, show 64 - r.held.length - a.length = 64 - (r.held.length + a.length) by omega]
        rw [e3, hlen, List.drop_append, e0, List.nil_append, show 64 - r.held.length - a.length = 64 - (r.held.length + a.length) by omega]
def Eng.Ok : Eng → Prop
  | .big s => s.Ok
  | .small s => s.Ok
theorem Eng.feed_append (e : Eng) (h : e.Ok) (a b : List UInt8) : e.feed (a ++ b) = (e.feed a).feed b := by
  cases e with
  | big s => exact congrArg Eng.big (St64.feed_append _ s a b h (Nat.le_refl _))
  | small s => exact congrArg Eng.small (St32.feed_append _ s a b h (Nat.le_refl _))
theorem Eng.feed_nil (e : Eng) : e.feed [] = e := by cases e <;> rfl
theorem Eng.feed_ok (e : Eng) (h : e.Ok) (a : List UInt8) : (e.feed a).Ok := by
  cases e with
  | big s => exact St64.feed_ok _ a h (Nat.le_refl _)
  | small s => exact St32.feed_ok _ a h (Nat.le_refl _)
theorem startOf_ok (big : Bool) (x : List UInt8) : (startOf big x).Ok := by
  cases big with
  | true => exact ⟨start64_len x, Nat.zero_le _⟩
  | false => exact ⟨start32_len x, Nat.zero_le _⟩
theorem startK_ok (big : Bool) (x key : List UInt8) : (startK big x key).Ok := by
  unfold startK
  split
  · exact startOf_ok big x
  · exact Eng.feed_ok _ (startOf_ok big x) _
end Go.Proofs.Ytboihcigcfmhhaa

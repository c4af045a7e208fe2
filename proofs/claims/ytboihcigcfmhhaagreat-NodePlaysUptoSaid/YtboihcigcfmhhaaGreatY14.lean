/-
  Y14: contracts and lemmas alone; no statement is claimed here.
-/
import Derived.Test.YtboihcigcfmhhaaGreatY12
namespace Go.Proofs.YtboihcigcfmhhaaGreat
open _root_.List renaming nil_append → bZW
open _root_.List renaming eq_nil_of_length_eq_zero → bZA
open _root_.List renaming length_drop → aZS
open _root_.List renaming take_of_length_le → aZQ
open _root_.List renaming length_append → aZN
open _root_.List renaming length_take → aZJ
open _root_.Nat renaming le_refl → aZC
theorem St64.feed_append : ∀ (n : Nat) (s : St64) (a b : List UInt8), s.Ok -> a.length <= n -> s.feed (a ++ b) = (s.feed a).feed b
 | 0, s, a, b, _, ha => by
  obtain rfl : a = [] := bZA (by omega)
  rfl
 | n + 1, s, a, b, hs, ha => by
  by_cases h0 : a = []
  ·subst h0; rfl
  have h1 := St64.ready_ok hs;have hl : 0 < a.length := List.length_pos_iff.2 h0;rw [St64.feed_step hs (a ++ b) (by simp [h0]), St64.feed_step hs a h0];generalize hr : s.ready = r at *;obtain ⟨hr1, hr2⟩ := h1
  by_cases hk : 128 - r.held.length <= a.length
  ·have e1 : (a ++ b).drop (128 - r.held.length) = a.drop (128 - r.held.length) ++ b := List.drop_append_of_le_length hk
   have e2 : r.take (a ++ b) = r.take a := by
    unfold St64.take;rw [List.take_append_of_le_length hk]
   rw [e1, e2];exact St64.feed_append n _ _ b (St64.take_ok hr1 _) (by rw [aZS]; omega)
  ·have e0 : a.drop (128 - r.held.length) = [] := List.drop_eq_nil_of_le (by omega)
   rw [e0, St64.feed_nil]
   by_cases hb : b = []
   ·subst hb
    rw [List.append_nil, e0]
   ·have hok := St64.take_ok hr1 a
    have hheld : (r.take a).held = r.held ++ a := by
     show r.held ++ a.take (128 - r.held.length) = _
     rw [aZQ (by omega)]
    have hlen : (r.take a).held.length = r.held.length + a.length := by rw [hheld, aZN]
    have hready : (r.take a).ready = r.take a := by
     unfold St64.ready;rw [if_neg (by omega)]
    rw [St64.feed_step hok b hb, hready];have e3 : (r.take a).take b = r.take (a ++ b) := by
     unfold St64.take
     dsimp only
     rw [aZQ (l := a) (by omega), List.take_append, aZQ (l := a) (by omega), aZN, List.append_assoc, show 128 - r.held.length - a.length = 128 - (r.held.length + a.length) by omega]
    rw [e3, hlen, List.drop_append, e0, bZW, show 128 - r.held.length - a.length = 128 - (r.held.length + a.length) by omega]
theorem St32.feed_append : ∀ (n : Nat) (s : St32) (a b : List UInt8), s.Ok -> a.length <= n -> s.feed (a ++ b) = (s.feed a).feed b
 | 0, s, a, b, _, ha => by
  obtain rfl : a = [] := bZA (by omega)
  rfl
 | n + 1, s, a, b, hs, ha => by
  by_cases h0 : a = []
  ·subst h0; rfl
  have h1 := St32.ready_ok hs;have hl : 0 < a.length := List.length_pos_iff.2 h0;rw [St32.feed_step hs (a ++ b) (by simp [h0]), St32.feed_step hs a h0];generalize hr : s.ready = r at *;obtain ⟨hr1, hr2⟩ := h1
  by_cases hk : 64 - r.held.length <= a.length
  ·have e1 : (a ++ b).drop (64 - r.held.length) = a.drop (64 - r.held.length) ++ b := List.drop_append_of_le_length hk
   have e2 : r.take (a ++ b) = r.take a := by
    unfold St32.take;rw [List.take_append_of_le_length hk]
   rw [e1, e2];exact St32.feed_append n _ _ b (St32.take_ok hr1 _) (by rw [aZS]; omega)
  ·have e0 : a.drop (64 - r.held.length) = [] := List.drop_eq_nil_of_le (by omega)
   rw [e0, St32.feed_nil]
   by_cases hb : b = []
   ·subst hb
    rw [List.append_nil, e0]
   ·have hok := St32.take_ok hr1 a
    have hheld : (r.take a).held = r.held ++ a := by
     show r.held ++ a.take (64 - r.held.length) = _
     rw [aZQ (by omega)]
    have hlen : (r.take a).held.length = r.held.length + a.length := by rw [hheld, aZN]
    have hready : (r.take a).ready = r.take a := by
     unfold St32.ready;rw [if_neg (by omega)]
    rw [St32.feed_step hok b hb, hready];have e3 : (r.take a).take b = r.take (a ++ b) := by
     unfold St32.take
     dsimp only
     rw [aZQ (l := a) (by omega), List.take_append, aZQ (l := a) (by omega), aZN, List.append_assoc, show 64 - r.held.length - a.length = 64 - (r.held.length + a.length) by omega]
    rw [e3, hlen, List.drop_append, e0, bZW, show 64 - r.held.length - a.length = 64 - (r.held.length + a.length) by omega]
def Eng.Ok : Eng -> Prop
  | .big s => s.Ok
  | .small s => s.Ok
theorem Eng.feed_append (e : Eng) (h : e.Ok) (a b : List UInt8) : e.feed (a ++ b) = (e.feed a).feed b := by
 cases e with
 | big s => exact congrArg Eng.big (St64.feed_append _ s a b h (aZC _))
 | small s => exact congrArg Eng.small (St32.feed_append _ s a b h (aZC _))
theorem Eng.feed_ok (e : Eng) (h : e.Ok) (a : List UInt8) : (e.feed a).Ok := by
 cases e with
 | big s => exact St64.feed_ok _ a h (aZC _)
 | small s => exact St32.feed_ok _ a h (aZC _)
theorem startOf_ok (big : Bool) (x : List UInt8) : (startOf big x).Ok := by
 cases big with
 | true => exact ⟨start64_len x, Nat.zero_le _⟩
 | false => exact ⟨start32_len x, Nat.zero_le _⟩
theorem startK_ok (big : Bool) (x key : List UInt8) : (startK big x key).Ok := by
 unfold startK
 split
 ·exact startOf_ok big x
 ·exact Eng.feed_ok _ (startOf_ok big x) _
theorem cy_none {lo n : UInt64} (h : lo.toNat + n.toNat < 2 ^ 64) : cyOf lo n 0 = 0 := by
 unfold cyOf;rw [Nat.div_eq_of_lt (by simpa using h)]
 rfl
structure St64.Cnt (s : St64) (T : Nat) : Prop where
  tot : s.lo.toNat + s.held.length = T
  hi : s.hi = 0
  mod : s.lo.toNat % 128 = 0
structure St32.Cnt (s : St32) (T : Nat) : Prop where
  tot : s.lo.toNat + s.held.length = T
  hi : s.hi = 0
  mod : s.lo.toNat % 64 = 0
theorem St64.Cnt.ready {s : St64} {T : Nat} (h : s.Cnt T) (hT : T < 2 ^ 62) : s.ready.Cnt T := by
 unfold St64.ready
 split
 ·rename_i hl
  have h1 := h.tot;have e : (addLo s.lo 128).toNat = s.lo.toNat + 128 := by
   unfold addLo;rw [UInt64.toNat_add, Nat.mod_eq_of_lt (by show s.lo.toNat + 128 < _; omega)]
   rfl
  refine ⟨?_, ?_, ?_⟩
  ·show (addLo s.lo 128).toNat + 0 = T
   rw [e]; omega
  ·show addHi s.lo s.hi 128 = 0
   unfold addHi;rw [cy_none (by show s.lo.toNat + 128 < _; omega), h.hi]; rfl
  ·show (addLo s.lo 128).toNat % 128 = 0
   rw [e, Nat.add_mod_right]; exact h.mod
 ·exact h
theorem St32.Cnt.ready {s : St32} {T : Nat} (h : s.Cnt T) (hT : T < 2 ^ 62) : s.ready.Cnt T := by
 unfold St32.ready
 split
 ·rename_i hl
  have h1 := h.tot;have e : (addLo s.lo 64).toNat = s.lo.toNat + 64 := by
   unfold addLo;rw [UInt64.toNat_add, Nat.mod_eq_of_lt (by show s.lo.toNat + 64 < _; omega)]
   rfl
  refine ⟨?_, ?_, ?_⟩
  ·show (addLo s.lo 64).toNat + 0 = T
   rw [e]; omega
  ·show addHi s.lo s.hi 64 = 0
   unfold addHi;rw [cy_none (by show s.lo.toNat + 64 < _; omega), h.hi]; rfl
  ·show (addLo s.lo 64).toNat % 64 = 0
   rw [e, Nat.add_mod_right]; exact h.mod
 ·exact h
theorem St64.Cnt.feed : ∀ (n : Nat) {s : St64} {T : Nat} (b : List UInt8), s.Ok -> s.Cnt T -> b.length <= n -> T + b.length < 2 ^ 62 -> (s.lo = 0 \/ s.held ≠ []) ->
  (s.feed b).Cnt (T + b.length) /\ ((s.feed b).lo = 0 \/ (s.feed b).held ≠ [])
 | 0, s, T, b, _, h, hb, _, h0 => by
  obtain rfl : b = [] := bZA (by omega);exact ⟨h, h0⟩
 | n + 1, s, T, b, hs, h, hb, hT, h0 => by
  by_cases hn : b = []
  ·subst hn; exact ⟨h, h0⟩
  have hl : 0 < b.length := List.length_pos_iff.2 hn;rw [St64.feed_step hs b hn];obtain ⟨r1, r2⟩ := St64.ready_ok hs;have h2 := h.ready (by omega);have h3 : (s.ready.take b).Cnt (T + min (128 - s.ready.held.length) b.length) := by
   refine ⟨?_, h2.hi, h2.mod⟩
   show s.ready.lo.toNat + (s.ready.held ++ b.take (128 - s.ready.held.length)).length = _
   rw [aZN, aZJ, <- Nat.add_assoc, h2.tot]
  have h4 : (s.ready.take b).held ≠ [] := by
   intro e;have := congrArg List.length e;have h5 : (s.ready.take b).held.length = s.ready.held.length + min (128 - s.ready.held.length) b.length := by
    show (s.ready.held ++ b.take (128 - s.ready.held.length)).length = _
    rw [aZN, aZJ]
   rw [h5] at this;simp only [List.length_nil] at this;omega
  have h6 := St64.Cnt.feed n (b.drop (128 - s.ready.held.length)) (St64.take_ok r1 b) h3 (by rw [aZS]; omega) (by rw [aZS]; omega) (.inr h4);rw [aZS] at h6;rw [show T + b.length = T + min (128 - s.ready.held.length) b.length + (b.length - (128 - s.ready.held.length)) by omega];exact h6
theorem St32.Cnt.feed : ∀ (n : Nat) {s : St32} {T : Nat} (b : List UInt8), s.Ok -> s.Cnt T -> b.length <= n -> T + b.length < 2 ^ 62 -> (s.lo = 0 \/ s.held ≠ []) ->
  (s.feed b).Cnt (T + b.length) /\ ((s.feed b).lo = 0 \/ (s.feed b).held ≠ [])
 | 0, s, T, b, _, h, hb, _, h0 => by
  obtain rfl : b = [] := bZA (by omega);exact ⟨h, h0⟩
 | n + 1, s, T, b, hs, h, hb, hT, h0 => by
  by_cases hn : b = []
  ·subst hn; exact ⟨h, h0⟩
  have hl : 0 < b.length := List.length_pos_iff.2 hn;rw [St32.feed_step hs b hn];obtain ⟨r1, r2⟩ := St32.ready_ok hs;have h2 := h.ready (by omega);have h3 : (s.ready.take b).Cnt (T + min (64 - s.ready.held.length) b.length) := by
   refine ⟨?_, h2.hi, h2.mod⟩
   show s.ready.lo.toNat + (s.ready.held ++ b.take (64 - s.ready.held.length)).length = _
   rw [aZN, aZJ, <- Nat.add_assoc, h2.tot]
  have h4 : (s.ready.take b).held ≠ [] := by
   intro e;have := congrArg List.length e;have h5 : (s.ready.take b).held.length = s.ready.held.length + min (64 - s.ready.held.length) b.length := by
    show (s.ready.held ++ b.take (64 - s.ready.held.length)).length = _
    rw [aZN, aZJ]
   rw [h5] at this;simp only [List.length_nil] at this;omega
  have h6 := St32.Cnt.feed n (b.drop (64 - s.ready.held.length)) (St32.take_ok r1 b) h3 (by rw [aZS]; omega) (by rw [aZS]; omega) (.inr h4);rw [aZS] at h6;rw [show T + b.length = T + min (64 - s.ready.held.length) b.length + (b.length - (64 - s.ready.held.length)) by omega];exact h6
theorem St64.feed_small {s : St64} (hs : s.Ok) (hh : s.held = []) (b : List UInt8) (hb : b.length <= 128) : s.feed b = ⟨s.H, s.lo, s.hi, b⟩ := by
 by_cases hn : b = []
 ·subst hn
  obtain ⟨H, lo, hi, held⟩ := s;dsimp only at hh;subst hh; rfl
 rw [St64.feed_step hs b hn];have e : s.ready = s := by
  unfold St64.ready;rw [hh, if_neg (by simp)]
 rw [e, hh]
 show (s.take b).feed (b.drop 128) = _
 rw [List.drop_eq_nil_of_le hb, St64.feed_nil];unfold St64.take;rw [hh]
 show (⟨s.H, s.lo, s.hi, [] ++ b.take 128⟩ : St64) = _
 rw [bZW, aZQ hb]
theorem St32.feed_small {s : St32} (hs : s.Ok) (hh : s.held = []) (b : List UInt8) (hb : b.length <= 64) : s.feed b = ⟨s.H, s.lo, s.hi, b⟩ := by
 by_cases hn : b = []
 ·subst hn
  obtain ⟨H, lo, hi, held⟩ := s;dsimp only at hh;subst hh; rfl
 rw [St32.feed_step hs b hn];have e : s.ready = s := by
  unfold St32.ready;rw [hh, if_neg (by simp)]
 rw [e, hh]
 show (s.take b).feed (b.drop 64) = _
 rw [List.drop_eq_nil_of_le hb, St32.feed_nil];unfold St32.take;rw [hh]
 show (⟨s.H, s.lo, s.hi, [] ++ b.take 64⟩ : St32) = _
 rw [bZW, aZQ hb]
end Go.Proofs.YtboihcigcfmhhaaGreat

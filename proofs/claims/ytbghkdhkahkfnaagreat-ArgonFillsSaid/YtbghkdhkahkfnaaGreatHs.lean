/-
  Hs: contracts and lemmas alone; no statement is claimed here.
-/
import Derived.Test.YtbghkdhkahkfnaaGreatNodeC
import Derived.Test.YtbghkdhkahkfnaaGreatCoreA
import Derived.Test.YtbghkdhkahkfnaaGreatHashC
/- What is written in pieces is what is written at once. Lemmas alone; no statement is claimed here. -/
namespace Go.Proofs.YtbghkdhkahkfnaaGreat

theorem St64.feed_append : ∀ (n : Nat) (s : St64) (a b : List UInt8), s.Ok → a.length ≤ n → s.feed (a ++ b) = (s.feed a).feed b
 | 0, s, a, b, _, ha => by
  obtain rfl : a = [] := List.eq_nil_of_length_eq_zero (by omega)
  rfl
 | n + 1, s, a, b, hs, ha => by
  by_cases h0 : a = []
  ·subst h0; rfl
  have h1 := St64.ready_ok hs
  have hl : 0 < a.length := List.length_pos_iff.2 h0
  rw [St64.feed_step hs (a ++ b) (by simp [h0]), St64.feed_step hs a h0]
  generalize hr : s.ready = r at *
  obtain ⟨hr1, hr2⟩ := h1
  by_cases hk : 128 - r.held.length ≤ a.length
  ·have e1 : (a ++ b).drop (128 - r.held.length) = a.drop (128 - r.held.length) ++ b := List.drop_append_of_le_length hk
   have e2 : r.take (a ++ b) = r.take a := by
    unfold St64.take
    rw [List.take_append_of_le_length hk]
   rw [e1, e2]
   exact St64.feed_append n _ _ b (St64.take_ok hr1 _) (by rw [List.length_drop]; omega)
  ·have e0 : a.drop (128 - r.held.length) = [] := List.drop_eq_nil_of_le (by omega)
   rw [e0, St64.feed_nil]
   by_cases hb : b = []
   ·subst hb
    rw [List.append_nil, e0]
   ·have hok := St64.take_ok hr1 a
    have hheld : (r.take a).held = r.held ++ a := by
     show r.held ++ a.take (128 - r.held.length) = _
     rw [List.take_of_length_le (by omega)]
    have hlen : (r.take a).held.length = r.held.length + a.length := by rw [hheld, List.length_append]
    have hready : (r.take a).ready = r.take a := by
     unfold St64.ready
     rw [if_neg (by omega)]
    rw [St64.feed_step hok b hb, hready]
    have e3 : (r.take a).take b = r.take (a ++ b) := by
     unfold St64.take
     dsimp only
     rw [List.take_of_length_le (l := a) (by omega), List.take_append, List.take_of_length_le (l := a) (by omega), List.length_append, List.append_assoc, show 128 - r.held.length - a.length = 128 - (r.held.length + a.length) by omega]
    rw [e3, hlen, List.drop_append, e0, List.nil_append, show 128 - r.held.length - a.length = 128 - (r.held.length + a.length) by omega]
theorem St32.feed_append : ∀ (n : Nat) (s : St32) (a b : List UInt8), s.Ok → a.length ≤ n → s.feed (a ++ b) = (s.feed a).feed b
 | 0, s, a, b, _, ha => by
  obtain rfl : a = [] := List.eq_nil_of_length_eq_zero (by omega)
  rfl
 | n + 1, s, a, b, hs, ha => by
  by_cases h0 : a = []
  ·subst h0; rfl
  have h1 := St32.ready_ok hs
  have hl : 0 < a.length := List.length_pos_iff.2 h0
  rw [St32.feed_step hs (a ++ b) (by simp [h0]), St32.feed_step hs a h0]
  generalize hr : s.ready = r at *
  obtain ⟨hr1, hr2⟩ := h1
  by_cases hk : 64 - r.held.length ≤ a.length
  ·have e1 : (a ++ b).drop (64 - r.held.length) = a.drop (64 - r.held.length) ++ b := List.drop_append_of_le_length hk
   have e2 : r.take (a ++ b) = r.take a := by
    unfold St32.take
    rw [List.take_append_of_le_length hk]
   rw [e1, e2]
   exact St32.feed_append n _ _ b (St32.take_ok hr1 _) (by rw [List.length_drop]; omega)
  ·have e0 : a.drop (64 - r.held.length) = [] := List.drop_eq_nil_of_le (by omega)
   rw [e0, St32.feed_nil]
   by_cases hb : b = []
   ·subst hb
    rw [List.append_nil, e0]
   ·have hok := St32.take_ok hr1 a
    have hheld : (r.take a).held = r.held ++ a := by
     show r.held ++ a.take (64 - r.held.length) = _
     rw [List.take_of_length_le (by omega)]
    have hlen : (r.take a).held.length = r.held.length + a.length := by rw [hheld, List.length_append]
    have hready : (r.take a).ready = r.take a := by
     unfold St32.ready
     rw [if_neg (by omega)]
    rw [St32.feed_step hok b hb, hready]
    have e3 : (r.take a).take b = r.take (a ++ b) := by
     unfold St32.take
     dsimp only
     rw [List.take_of_length_le (l := a) (by omega), List.take_append, List.take_of_length_le (l := a) (by omega), List.length_append, List.append_assoc, show 64 - r.held.length - a.length = 64 - (r.held.length + a.length) by omega]
    rw [e3, hlen, List.drop_append, e0, List.nil_append, show 64 - r.held.length - a.length = 64 - (r.held.length + a.length) by omega]
def Eng.Ok : Eng → Prop
  | .big s => s.Ok
  | .small s => s.Ok
theorem Eng.feed_append (e : Eng) (h : e.Ok) (a b : List UInt8) : e.feed (a ++ b) = (e.feed a).feed b := by
 cases e with
 | big s => exact congrArg Eng.big (St64.feed_append _ s a b h (Nat.le_refl _))
 | small s => exact congrArg Eng.small (St32.feed_append _ s a b h (Nat.le_refl _))
theorem Eng.feed_nil (e : Eng) : e.feed [] = e := by cases e <;> rfl
theorem startOf_ok (big : Bool) (x : List UInt8) : (startOf big x).Ok := by
 cases big with
 | true => exact ⟨start64_len x, Nat.zero_le _⟩
 | false => exact ⟨start32_len x, Nat.zero_le _⟩
end Go.Proofs.YtbghkdhkahkfnaaGreat

/- Are bytes the same: the reference's Same. Contracts alone; no statement is claimed here. -/
namespace Go.Proofs.YtbghkdhkahkfnaaGreat
open Go.RowKit

set_option maxHeartbeats 400000 in
theorem sameR_any (A1 A2 : Option Addr) (c1 c2 : Nat) (l1 l2 : List UInt8) (B1 B2 n1 n2 : Nat) (w : World) (hn1 : l1.length = n1) (hn2 : l2.length = n2) (hm : n1 ≤ 9223372036854775807)
   (h1 : RS cB w B1 A1 l1) (h2 : RS cB w B2 A2 l2) :
    Calls Tryz.prog 26 #[.slice A1 n1 c1, .slice A2 n2 c2] w fun e w' => e = .returned (.bool (decide (l1 = l2))) ∧ ∃ n, w' = w.drewN n := by
  by_cases hl : n1 = n2
  · subst hl
    have HN := Lib.hid hn1; have HL := Lib.hid hn2; have H1 := Lib.hid h1; have H2 := Lib.hid h2
    clear hn1 hn2 h1 h2
    have h3 : (!(((n1 : Int)) == ((n1 : Int)))) = false := by simp
    go_enter Tryz.func26, Tryz.ntmps26
    go_wp2
    go_loopw [5] (fun i wr => ∃ k n : Nat, k ≤ n1 ∧ i = .int .i64 k ∧ wr = w.drewN n ∧ l1.take k = l2.take k) (fun i _ => n1 - (intOf i).toNat)
    case atStart => exact ⟨0, 0, by omega, rfl, rfl, by simp⟩
    case round =>
      obtain ⟨k, n, hk, rfl, rfl, ht⟩ := hrel
      have HT := Lib.hid ht; clear ht
      by_cases hlt : k < n1
      · obtain ⟨ad1, x1, rfl, -, e1, g1⟩ := H1.out.at_ (k := k) (by rw [HN.out]; exact hlt)
        obtain ⟨ad2, x2, rfl, -, e2, g2⟩ := H2.out.at_ (k := k) (by rw [HL.out]; exact hlt)
        have E1 := Lib.hid e1; have E2 := Lib.hid e2; clear e1 e2
        change w.cell? (ad1.add k) = some (.int .u8 (byt x1)) at g1
        change w.cell? (ad2.add k) = some (.int .u8 (byt x2)) at g2
        have r1 := byt_range x1
        have r2 := byt_range x2
        go_wp2
        go_quiet (fail)
        go_wp2
        · have hne : (byt x1 != byt x2) = true := by assumption
          go_ret
          refine ⟨?_, n + nq, by rw [← World.drewN_drewN]⟩
          have : l1 ≠ l2 := fun e => by
            have := E1.out; rw [e, E2.out] at this
            injection this with this; subst this; simp at hne
          simp [this]
        · have hne : (byt x1 != byt x2) = false := by assumption
          go_roundw
          case rel =>
            refine ⟨k + 1, n + nq, by omega, by go_num, by rw [← World.drewN_drewN], ?_⟩
            have hx : x1 = x2 := byt_inj (by simpa using hne)
            rw [List.take_add_one, List.take_add_one, HT.out, E1.out, E2.out, hx]
          case measure => simp [intOf]; omega
      · go_wp2
        go_ret
        refine ⟨?_, n, rfl⟩
        have : l1 = l2 := by
          have e := HT.out
          rw [List.take_of_length_le (by rw [HN.out]; omega), List.take_of_length_le (by rw [HL.out]; omega)] at e
          exact e
        simp [this]
  · have hn : l1 ≠ l2 := fun e => hl (by rw [← hn1, ← hn2, e])
    have h3 : (((n1 : Int)) != ((n2 : Int))) = true := by simp; omega
    have HH := Lib.hid hn
    clear hn hl h1 h2 hm hn1 hn2
    go_enter Tryz.func26, Tryz.ntmps26
    go_wp2
    go_ret
    exact ⟨by simp [HH.out], 0, rfl⟩

end Go.Proofs.YtbghkdhkahkfnaaGreat

/- Small helpers of layer 5's statements. Contracts alone; no statement is claimed here. -/
namespace Go.Proofs.YtbghkdhkahkfnaaGreat
open Go.RowKit
attribute [local go_sem] pureUpon Ords.of

end Go.Proofs.YtbghkdhkahkfnaaGreat

/- Hash of the program, of whatever is asked. Contracts alone; no statement is claimed here. -/
namespace Go.Proofs.YtbghkdhkahkfnaaGreat
open Go.RowKit
attribute [local go_sem] pureUpon Ords.of

theorem bOf_le (big : Bool) : 32 ≤ bOf big ∧ bOf big ≤ 64 := by cases big <;> decide
def hashS (k : Int) (p : Pr) (ls lp key : List UInt8) (last : Bool) (m : Int) (data : List UInt8) : List UInt8 × Int :=
  if chk k p ≠ 0 then ([], chk k p) else if key.length ≠ 0 ∧ (key.length : Int) ≠ p.key then ([], 8) else if m < 1 ∨ mostOf k < m then ([], 1) else ((hashL (decide (k = 1)) p ls lp key last data).take m.toNat, 0)
end Go.Proofs.YtbghkdhkahkfnaaGreat

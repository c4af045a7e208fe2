/-
  Y39: contracts and lemmas alone; no statement is claimed here.
-/
import Derived.Test.YtboihcigcfmhhaaGreatY38
namespace Go.Proofs.YtboihcigcfmhhaaGreat
open _root_.List renaming append_nil → bZX
open _root_.List renaming eq_nil_of_length_eq_zero → bZA
open _root_.Nat renaming le_refl → aZC
open Go.RowKit
theorem enc_laidX (big : Bool) (p : Pr) (v1 v2 v3 v4 v5 v6 v7 v8 v9 : Nat) (h1 : p.digest = v1) (h2 : p.key = v2) (h3 : p.fanout = v3) (h4 : p.depth = v4) (h5 : p.leaf = v5) (h6 : p.offset = v6) (hx : p.xof ≠ 0) (h7 : p.xof = v7) (h8 : p.nd = v8) (h9 : p.inner = v9)
  (b1 : v1 < 256 ^ 8) (b2 : v2 < 256 ^ 8) (b3 : v3 < 256 ^ 8) (b4 : v4 < 256 ^ 8) (b5 : v5 < 256 ^ 8) (b6 : v6 < 256 ^ 8) (b7 : v7 < 256 ^ 8) (b8 : v8 < 256 ^ 8) (b9 : v9 < 256 ^ 8) :
  encTo big p 9 = over (over (over (over (over (over (over (over (over (List.replicate (bOf big) 0) 0 (storeN v1 1)) 1 (storeN v2 1)) 2 (storeN v3 1)) 3 (storeN v4 1)) 4 (storeN v5 4)) 8 (storeN v6 (if big then 8 else 6))) 12 (storeN v7 (if big then 4 else 2))) (if big then 16 else 14) (storeN v8 1)) (if big then 17 else 15) (storeN v9 1) := by
 have E0 : encTo big p 0 = List.replicate (bOf big) 0 := rfl;have no : ∀ {f : Nat}, f ≠ 7 -> ¬ (f = 7 /\ p.xof = 0) := fun h h2 => h h2.1
 cases big
 ·rw [dput v9 (f := 9) (at_ := 15) (size := 1) rfl (no (by decide)) h9 b9 (by decide), dput v8 (f := 8) (at_ := 14) (size := 1) rfl (no (by decide)) h8 b8 (by decide), dput v7 (f := 7) (at_ := 12) (size := 2) rfl (fun h => hx h.2) h7 b7 (by decide), dput v6 (f := 6) (at_ := 8) (size := 6) rfl (no (by decide)) h6 b6 (by decide), dput v5 (f := 5) (at_ := 4) (size := 4) rfl (no (by decide)) h5 b5 (by decide), dput v4 (f := 4) (at_ := 3) (size := 1) rfl (no (by decide)) h4 b4 (by decide), dput v3 (f := 3) (at_ := 2) (size := 1) rfl (no (by decide)) h3 b3 (by decide), dput v2 (f := 2) (at_ := 1) (size := 1) rfl (no (by decide)) h2 b2 (by decide), dput v1 (f := 1) (at_ := 0) (size := 1) rfl (no (by decide)) h1 b1 (by decide), E0]
  rfl
 ·rw [dput v9 (f := 9) (at_ := 17) (size := 1) rfl (no (by decide)) h9 b9 (by decide), dput v8 (f := 8) (at_ := 16) (size := 1) rfl (no (by decide)) h8 b8 (by decide), dput v7 (f := 7) (at_ := 12) (size := 4) rfl (fun h => hx h.2) h7 b7 (by decide), dput v6 (f := 6) (at_ := 8) (size := 8) rfl (no (by decide)) h6 b6 (by decide), dput v5 (f := 5) (at_ := 4) (size := 4) rfl (no (by decide)) h5 b5 (by decide), dput v4 (f := 4) (at_ := 3) (size := 1) rfl (no (by decide)) h4 b4 (by decide), dput v3 (f := 3) (at_ := 2) (size := 1) rfl (no (by decide)) h3 b3 (by decide), dput v2 (f := 2) (at_ := 1) (size := 1) rfl (no (by decide)) h2 b2 (by decide), dput v1 (f := 1) (at_ := 0) (size := 1) rfl (no (by decide)) h1 b1 (by decide), E0]
  rfl
set_option maxRecDepth 100000 in
set_option maxHeartbeats 1000000 in
theorem dec_encX {big : Bool} {p : Pr} {ls lp : List UInt8} (hc : chk (kOf big) p = 0) (hf : p.Fit) (hx : p.xof ≠ 0) (l1 : ls.length = p.salt.n) (l2 : lp.length = p.pers.n) :
  decOk big true (encL big p ls lp) /\ ((fld (encL big p ls lp) 0 1 : Nat) : Int) = p.digest /\ ((fld (encL big p ls lp) 1 1 : Nat) : Int) = p.key := by
 obtain ⟨r1, r2, r3, r4, r8, r9, q1, q2⟩ := chk_range hc;have hb := bOf_le big;have r5 := hf.leaf;have r6 := hf.offset;have hlen := encL_len big p ls lp (by rw [l1]; exact q1) (by rw [l2]; exact q2);have r7 := hf.xof;have r6' : p.offset < 4294967296 := by
  unfold chk at hc
  repeat (split at hc; · exact absurd hc (by decide))
  rename_i h _ _ _ _ _
  omega
 have r7' : big = false -> p.xof <= 65535 := fun hb0 => by
  subst hb0;unfold chk at hc
  repeat (split at hc; · exact absurd hc (by decide))
  have hk : kOf false = 2 := rfl;omega
 obtain ⟨v1, h1⟩ : ∃ v : Nat, p.digest = v := ⟨p.digest.toNat, by omega⟩;obtain ⟨v2, h2⟩ : ∃ v : Nat, p.key = v := ⟨p.key.toNat, by omega⟩;obtain ⟨v3, h3⟩ : ∃ v : Nat, p.fanout = v := ⟨p.fanout.toNat, by omega⟩;obtain ⟨v4, h4⟩ : ∃ v : Nat, p.depth = v := ⟨p.depth.toNat, by omega⟩;obtain ⟨v5, h5⟩ : ∃ v : Nat, p.leaf = v := ⟨p.leaf.toNat, by omega⟩;obtain ⟨v6, h6⟩ : ∃ v : Nat, p.offset = v := ⟨p.offset.toNat, by omega⟩;obtain ⟨v7, h7⟩ : ∃ v : Nat, p.xof = v := ⟨p.xof.toNat, by omega⟩;obtain ⟨v8, h8⟩ : ∃ v : Nat, p.nd = v := ⟨p.nd.toNat, by omega⟩;obtain ⟨v9, h9⟩ : ∃ v : Nat, p.inner = v := ⟨p.inner.toNat, by omega⟩;have hE := enc_laidX big p v1 v2 v3 v4 v5 v6 v7 v8 v9 h1 h2 h3 h4 h5 h6 hx h7 h8 h9 (by omega) (by omega) (by omega) (by omega) (by omega) (by omega) (by omega) (by omega) (by omega);have hcc := chk_sl big p.digest p.key p.fanout p.depth p.leaf p.offset p.xof p.nd p.inner p.salt p.pers q1 q2;change chk (kOf big) p = _ at hcc;rw [hc, h1, h2, h3, h4, h5, h6, h7, h8, h9] at hcc;have hL : encL big p ls lp = over (over (encTo big p 9) (bOf big / 2) ls) (3 * (bOf big / 4)) lp := rfl;rw [hE] at hL;generalize encL big p ls lp = L at *
 cases big
 ·have f0 : fld L 0 1 = v1 := fld_of (by rw [hL]; kernel_rfl) (by omega)
  have f1 : fld L 1 1 = v2 := fld_of (by rw [hL]; kernel_rfl) (by omega);have f2 : fld L 2 1 = v3 := fld_of (by rw [hL]; kernel_rfl) (by omega);have f3 : fld L 3 1 = v4 := fld_of (by rw [hL]; kernel_rfl) (by omega);have f4 : fld L 4 4 = v5 := fld_of (by rw [hL]; kernel_rfl) (by omega);have f6 : fld L 8 4 = v6 := fld_of (by rw [hL]; kernel_rfl) (by omega);have f7 : fld L 12 2 = v7 := fld_of (by rw [hL]; kernel_rfl) (by have := r7' rfl; omega);have f8 : fld L 14 1 = v8 := fld_of (by rw [hL]; kernel_rfl) (by omega);have f9 : fld L 15 1 = v9 := fld_of (by rw [hL]; kernel_rfl) (by omega);refine ⟨⟨hlen, (fun h => nomatch h), (fun _ => by show fld L 12 2 ≠ 0; rw [f7]; omega), ?_⟩, by rw [f0, h1], by rw [f1, h2]⟩;rw [hcc];unfold decPr;simp only [Bool.false_eq_true, if_false, if_true];rw [f0, f1, f2, f3, f4, f6, f7, f8, f9]
 ·have f0 : fld L 0 1 = v1 := fld_of (by rw [hL]; kernel_rfl) (by omega)
  have f1 : fld L 1 1 = v2 := fld_of (by rw [hL]; kernel_rfl) (by omega);have f2 : fld L 2 1 = v3 := fld_of (by rw [hL]; kernel_rfl) (by omega);have f3 : fld L 3 1 = v4 := fld_of (by rw [hL]; kernel_rfl) (by omega);have f4 : fld L 4 4 = v5 := fld_of (by rw [hL]; kernel_rfl) (by omega);have f6 : fld L 8 4 = v6 := fld_of (by rw [hL]; kernel_rfl) (by omega);have f7 : fld L 12 4 = v7 := fld_of (by rw [hL]; kernel_rfl) (by omega);have f8 : fld L 16 1 = v8 := fld_of (by rw [hL]; kernel_rfl) (by omega);have f9 : fld L 17 1 = v9 := fld_of (by rw [hL]; kernel_rfl) (by omega);refine ⟨⟨hlen, fun _ i i1 i2 => ?_, (fun _ => by show fld L 12 4 ≠ 0; rw [f7]; omega), ?_⟩, by rw [f0, h1], by rw [f1, h2]⟩
  ·rw [hL]
   rcases le31 i i1 i2 with rfl | rfl | rfl | rfl | rfl | rfl | rfl | rfl | rfl | rfl | rfl | rfl | rfl | rfl <;> kernel_rfl
  ·rw [hcc]
   unfold decPr;simp only [if_true];rw [f0, f1, f2, f3, f4, f6, f7, f8, f9]
theorem dec_encA {big : Bool} {p : Pr} {ls lp : List UInt8} (hc : chk (kOf big) p = 0) (hf : p.Fit) (l1 : ls.length = p.salt.n) (l2 : lp.length = p.pers.n) :
  (decOk big false (encL big p ls lp) \/ decOk big true (encL big p ls lp)) /\ ((fld (encL big p ls lp) 0 1 : Nat) : Int) = p.digest /\ ((fld (encL big p ls lp) 1 1 : Nat) : Int) = p.key := by
 by_cases hx : p.xof = 0
 ·obtain ⟨h1, h2⟩ := dec_enc hc hf hx l1 l2
  exact ⟨.inl h1, h2⟩
 ·obtain ⟨h1, h2⟩ := dec_encX hc hf hx l1 l2
  exact ⟨.inr h1, h2⟩
theorem sv64 (H : List UInt64) (h1 data : List UInt8) (hH : H.length = 8) (hl : h1 = [] \/ h1.length = 128) (hd : data.length < 2 ^ 60) :
  let s := St64.feed ⟨H, 0, 0, h1⟩ data
  s.Ok /\ s.hi = 0 /\ s.lo.toNat % 128 = 0 /\ (s.lo ≠ 0 -> s.held ≠ []) /\ (s.lo = 0 -> s = ⟨H, 0, 0, h1 ++ data⟩) := by
 have hok : (⟨H, 0, 0, h1⟩ : St64).Ok := ⟨hH, by show h1.length <= 128; rcases hl with h | h <;> simp [h]⟩;have hcn : (⟨H, 0, 0, h1⟩ : St64).Cnt h1.length := ⟨by show (0 : UInt64).toNat + h1.length = _; simp, rfl, rfl⟩;have hlen : h1.length <= 128 := hok.held;obtain ⟨c1, c2⟩ := St64.Cnt.feed data.length data hok hcn (aZC _) (by omega) (.inl rfl);refine ⟨St64.feed_ok _ data hok (aZC _), c1.hi, c1.mod, fun h => c2.resolve_left h, fun h => ?_⟩;have ht := c1.tot;have hok2 := St64.feed_ok _ data hok (aZC _);have hh := hok2.held;rw [h] at ht;have ht2 : (St64.feed ⟨H, 0, 0, h1⟩ data).held.length = h1.length + data.length := by simpa using ht
 rcases hl with h2 | h2
 ·subst h2
  rw [St64.feed_small hok rfl data (by simp at ht2; omega)]
  rfl
 ·have hd0 : data = [] := bZA (by omega)
  subst hd0;rw [bZX]
  rfl
theorem sv32 (H : List UInt32) (h1 data : List UInt8) (hH : H.length = 8) (hl : h1 = [] \/ h1.length = 64) (hd : data.length < 2 ^ 60) :
  let s := St32.feed ⟨H, 0, 0, h1⟩ data
  s.Ok /\ s.hi = 0 /\ s.lo.toNat % 64 = 0 /\ (s.lo ≠ 0 -> s.held ≠ []) /\ (s.lo = 0 -> s = ⟨H, 0, 0, h1 ++ data⟩) := by
 have hok : (⟨H, 0, 0, h1⟩ : St32).Ok := ⟨hH, by show h1.length <= 64; rcases hl with h | h <;> simp [h]⟩;have hcn : (⟨H, 0, 0, h1⟩ : St32).Cnt h1.length := ⟨by show (0 : UInt64).toNat + h1.length = _; simp, rfl, rfl⟩;have hlen : h1.length <= 64 := hok.held;obtain ⟨c1, c2⟩ := St32.Cnt.feed data.length data hok hcn (aZC _) (by omega) (.inl rfl);refine ⟨St32.feed_ok _ data hok (aZC _), c1.hi, c1.mod, fun h => c2.resolve_left h, fun h => ?_⟩;have ht := c1.tot;have hok2 := St32.feed_ok _ data hok (aZC _);have hh := hok2.held;rw [h] at ht;have ht2 : (St32.feed ⟨H, 0, 0, h1⟩ data).held.length = h1.length + data.length := by simpa using ht
 rcases hl with h2 | h2
 ·subst h2
  rw [St32.feed_small hok rfl data (by simp at ht2; omega)]
  rfl
 ·have hd0 : data = [] := bZA (by omega)
  subst hd0;rw [bZX]
  rfl
theorem sv_fed (big : Bool) (x key data : List UInt8) (hx : x.length = bOf big) (hk : key.length <= 2 * bOf big) (hd : data.length < 2 ^ 60) : ((startK big x key).feed data).Sv big x key := by
 have hp := padTo_len key (2 * bOf big) hk
 cases big with
 | true =>
  have hH : (start64 x).length = 8 := start64_len x;have key_ : ∃ h1, (h1 = [] \/ h1.length = 128) /\ startK true x key = .big ⟨start64 x, 0, 0, h1⟩ /\ (key ≠ [] -> h1 = padTo key 128) := by
   by_cases h : key = []
   ·exact ⟨[], .inl rfl, by unfold startK; rw [if_pos h]; rfl, fun h2 => absurd h h2⟩
   ·refine ⟨padTo key 128, .inr hp, ?_, fun _ => rfl⟩
    unfold startK;rw [if_neg h]
    show Eng.big ((⟨start64 x, 0, 0, []⟩ : St64).feed (padTo key 128)) = _
    exact congrArg Eng.big (St64.feed_small (s := ⟨start64 x, 0, 0, []⟩) ⟨hH, Nat.zero_le _⟩ rfl (padTo key 128) (Nat.le_of_eq hp))
  obtain ⟨h1, h2, h3, h4⟩ := key_;obtain ⟨s1, s2, s3, s4, s5⟩ := sv64 (start64 x) h1 data hH h2 hd;rw [h3]
  show (Eng.big (St64.feed ⟨start64 x, 0, 0, h1⟩ data)).Sv true x key
  generalize St64.feed ⟨start64 x, 0, 0, h1⟩ data = s at *;obtain ⟨H, lo, hi, hd'⟩ := s;refine ⟨?_, ?_, s2, s3, s1.held, fun h => List.length_pos_iff.2 (s4 h), fun h => ?_, fun h hk2 => ?_⟩
  ·show (flat H).length = 64
   rw [flat_len, s1.H]
  ·show Eng.big ⟨wordsOf (flat H) 8, lo, 0, hd'⟩ = .big ⟨H, lo, hi, hd'⟩
   rw [wordsOf_flat H 8 s1.H, show hi = 0 from s2]
  ·have e := s5 h
   injection e with e1 e2 e3 e4
   show flat H = flat (start64 x)
   rw [e1]
  ·have e := s5 h
   injection e with e1 e2 e3 e4
   have e5 := h4 hk2;have hl := s1.held;have hl2 : hd'.length <= 128 := hl;rw [e4, e5, List.length_append] at hl2;have : data = [] := bZA (by have : (padTo key 128).length = 128 := hp; omega)
   show hd' = padTo key 128
   rw [e4, e5, this, bZX]
 | false =>
  have hH : (start32 x).length = 8 := start32_len x;have key_ : ∃ h1, (h1 = [] \/ h1.length = 64) /\ startK false x key = .small ⟨start32 x, 0, 0, h1⟩ /\ (key ≠ [] -> h1 = padTo key 64) := by
   by_cases h : key = []
   ·exact ⟨[], .inl rfl, by unfold startK; rw [if_pos h]; rfl, fun h2 => absurd h h2⟩
   ·refine ⟨padTo key 64, .inr hp, ?_, fun _ => rfl⟩
    unfold startK;rw [if_neg h]
    show Eng.small ((⟨start32 x, 0, 0, []⟩ : St32).feed (padTo key 64)) = _
    exact congrArg Eng.small (St32.feed_small (s := ⟨start32 x, 0, 0, []⟩) ⟨hH, Nat.zero_le _⟩ rfl (padTo key 64) (Nat.le_of_eq hp))
  obtain ⟨h1, h2, h3, h4⟩ := key_;obtain ⟨s1, s2, s3, s4, s5⟩ := sv32 (start32 x) h1 data hH h2 hd;rw [h3]
  show (Eng.small (St32.feed ⟨start32 x, 0, 0, h1⟩ data)).Sv false x key
  generalize St32.feed ⟨start32 x, 0, 0, h1⟩ data = s at *;obtain ⟨H, lo, hi, hd'⟩ := s;refine ⟨?_, ?_, s2, s3, s1.held, fun h => List.length_pos_iff.2 (s4 h), fun h => ?_, fun h hk2 => ?_⟩
  ·show (flat3 H).length = 32
   rw [flat3_len, s1.H]
  ·show Eng.small ⟨words3 (flat3 H) 8, lo, 0, hd'⟩ = .small ⟨H, lo, hi, hd'⟩
   rw [words3_flat H 8 s1.H, show hi = 0 from s2]
  ·have e := s5 h
   injection e with e1 e2 e3 e4
   show flat3 H = flat3 (start32 x)
   rw [e1]
  ·have e := s5 h
   injection e with e1 e2 e3 e4
   have e5 := h4 hk2;have hl := s1.held;have hl2 : hd'.length <= 64 := hl;rw [e4, e5, List.length_append] at hl2;have : data = [] := bZA (by have : (padTo key 64).length = 64 := hp; omega)
   show hd' = padTo key 64
   rw [e4, e5, this, bZX]
end Go.Proofs.YtboihcigcfmhhaaGreat

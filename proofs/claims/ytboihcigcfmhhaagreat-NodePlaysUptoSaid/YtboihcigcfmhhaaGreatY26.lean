/-
  Y26: contracts and lemmas alone; no statement is claimed here.
-/
import Derived.Test.YtboihcigcfmhhaaGreatY17
namespace Go.Proofs.YtboihcigcfmhhaaGreat
open Go.RowKit
theorem fld_of {b : List UInt8} {at_ n x : Nat} (h : (b.drop at_).take n = storeN x n) (hx : x < 256 ^ n) : fld b at_ n = x := by
 unfold fld;rw [h, le_storeN, Nat.mod_eq_of_lt hx]
theorem enc_laid (big : Bool) (p : Pr) (v1 v2 v3 v4 v5 v6 v8 v9 : Nat) (h1 : p.digest = v1) (h2 : p.key = v2) (h3 : p.fanout = v3) (h4 : p.depth = v4) (h5 : p.leaf = v5) (h6 : p.offset = v6) (hx : p.xof = 0) (h8 : p.nd = v8) (h9 : p.inner = v9)
  (b1 : v1 < 256 ^ 8) (b2 : v2 < 256 ^ 8) (b3 : v3 < 256 ^ 8) (b4 : v4 < 256 ^ 8) (b5 : v5 < 256 ^ 8) (b6 : v6 < 256 ^ 8) (b8 : v8 < 256 ^ 8) (b9 : v9 < 256 ^ 8) :
  encTo big p 9 = over (over (over (over (over (over (over (over (List.replicate (bOf big) 0) 0 (storeN v1 1)) 1 (storeN v2 1)) 2 (storeN v3 1)) 3 (storeN v4 1)) 4 (storeN v5 4)) 8 (storeN v6 (if big then 8 else 6))) (if big then 16 else 14) (storeN v8 1)) (if big then 17 else 15) (storeN v9 1) := by
 have E0 : encTo big p 0 = List.replicate (bOf big) 0 := rfl;have no : ∀ {f : Nat}, f ≠ 7 -> ¬ (f = 7 /\ p.xof = 0) := fun h h2 => h h2.1
 cases big
 ·rw [dput v9 (f := 9) (at_ := 15) (size := 1) rfl (no (by decide)) h9 b9 (by decide), dput v8 (f := 8) (at_ := 14) (size := 1) rfl (no (by decide)) h8 b8 (by decide), dskip (at_ := 12) (size := 2) rfl hx, dput v6 (f := 6) (at_ := 8) (size := 6) rfl (no (by decide)) h6 b6 (by decide), dput v5 (f := 5) (at_ := 4) (size := 4) rfl (no (by decide)) h5 b5 (by decide), dput v4 (f := 4) (at_ := 3) (size := 1) rfl (no (by decide)) h4 b4 (by decide), dput v3 (f := 3) (at_ := 2) (size := 1) rfl (no (by decide)) h3 b3 (by decide), dput v2 (f := 2) (at_ := 1) (size := 1) rfl (no (by decide)) h2 b2 (by decide), dput v1 (f := 1) (at_ := 0) (size := 1) rfl (no (by decide)) h1 b1 (by decide), E0]
  rfl
 ·rw [dput v9 (f := 9) (at_ := 17) (size := 1) rfl (no (by decide)) h9 b9 (by decide), dput v8 (f := 8) (at_ := 16) (size := 1) rfl (no (by decide)) h8 b8 (by decide), dskip (at_ := 12) (size := 4) rfl hx, dput v6 (f := 6) (at_ := 8) (size := 8) rfl (no (by decide)) h6 b6 (by decide), dput v5 (f := 5) (at_ := 4) (size := 4) rfl (no (by decide)) h5 b5 (by decide), dput v4 (f := 4) (at_ := 3) (size := 1) rfl (no (by decide)) h4 b4 (by decide), dput v3 (f := 3) (at_ := 2) (size := 1) rfl (no (by decide)) h3 b3 (by decide), dput v2 (f := 2) (at_ := 1) (size := 1) rfl (no (by decide)) h2 b2 (by decide), dput v1 (f := 1) (at_ := 0) (size := 1) rfl (no (by decide)) h1 b1 (by decide), E0]
  rfl
theorem le31 (i : Nat) (h1 : 18 <= i) (h2 : i < 32) : i = 18 \/ i = 19 \/ i = 20 \/ i = 21 \/ i = 22 \/ i = 23 \/ i = 24 \/ i = 25 \/ i = 26 \/ i = 27 \/ i = 28 \/ i = 29 \/ i = 30 \/ i = 31 := by omega
set_option maxRecDepth 100000 in
set_option maxHeartbeats 1000000 in
theorem dec_enc {big : Bool} {p : Pr} {ls lp : List UInt8} (hc : chk (kOf big) p = 0) (hf : p.Fit) (hx : p.xof = 0) (l1 : ls.length = p.salt.n) (l2 : lp.length = p.pers.n) :
  decOk big false (encL big p ls lp) /\ ((fld (encL big p ls lp) 0 1 : Nat) : Int) = p.digest /\ ((fld (encL big p ls lp) 1 1 : Nat) : Int) = p.key := by
 obtain ⟨r1, r2, r3, r4, r8, r9, q1, q2⟩ := chk_range hc;have hb := bOf_le big;have r5 := hf.leaf;have r6 := hf.offset;have hlen := encL_len big p ls lp (by rw [l1]; exact q1) (by rw [l2]; exact q2);have r6' : big = false -> p.offset < 281474976710656 := fun hb0 => by
  subst hb0;unfold chk at hc
  repeat (split at hc; · exact absurd hc (by decide))
  rename_i h _ _ _ _ _
  have hk : kOf false = 2 := rfl;omega
 obtain ⟨v1, h1⟩ : ∃ v : Nat, p.digest = v := ⟨p.digest.toNat, by omega⟩;obtain ⟨v2, h2⟩ : ∃ v : Nat, p.key = v := ⟨p.key.toNat, by omega⟩;obtain ⟨v3, h3⟩ : ∃ v : Nat, p.fanout = v := ⟨p.fanout.toNat, by omega⟩;obtain ⟨v4, h4⟩ : ∃ v : Nat, p.depth = v := ⟨p.depth.toNat, by omega⟩;obtain ⟨v5, h5⟩ : ∃ v : Nat, p.leaf = v := ⟨p.leaf.toNat, by omega⟩;obtain ⟨v6, h6⟩ : ∃ v : Nat, p.offset = v := ⟨p.offset.toNat, by omega⟩;obtain ⟨v8, h8⟩ : ∃ v : Nat, p.nd = v := ⟨p.nd.toNat, by omega⟩;obtain ⟨v9, h9⟩ : ∃ v : Nat, p.inner = v := ⟨p.inner.toNat, by omega⟩;have hE := enc_laid big p v1 v2 v3 v4 v5 v6 v8 v9 h1 h2 h3 h4 h5 h6 hx h8 h9 (by omega) (by omega) (by omega) (by omega) (by omega) (by omega) (by omega) (by omega);have hcc := chk_sl big p.digest p.key p.fanout p.depth p.leaf p.offset p.xof p.nd p.inner p.salt p.pers q1 q2;change chk (kOf big) p = _ at hcc;rw [hc, h1, h2, h3, h4, h5, h6, hx, h8, h9] at hcc;have hL : encL big p ls lp = over (over (encTo big p 9) (bOf big / 2) ls) (3 * (bOf big / 4)) lp := rfl;rw [hE] at hL;generalize encL big p ls lp = L at *
 cases big
 ·have f0 : fld L 0 1 = v1 := fld_of (by rw [hL]; kernel_rfl) (by omega)
  have f1 : fld L 1 1 = v2 := fld_of (by rw [hL]; kernel_rfl) (by omega);have f2 : fld L 2 1 = v3 := fld_of (by rw [hL]; kernel_rfl) (by omega);have f3 : fld L 3 1 = v4 := fld_of (by rw [hL]; kernel_rfl) (by omega);have f4 : fld L 4 4 = v5 := fld_of (by rw [hL]; kernel_rfl) (by omega);have f6 : fld L 8 6 = v6 := fld_of (by rw [hL]; kernel_rfl) (by have := r6' rfl; omega);have f8 : fld L 14 1 = v8 := fld_of (by rw [hL]; kernel_rfl) (by omega);have f9 : fld L 15 1 = v9 := fld_of (by rw [hL]; kernel_rfl) (by omega);refine ⟨⟨hlen, (fun h => nomatch h), (fun h => nomatch h), ?_⟩, by rw [f0, h1], by rw [f1, h2]⟩;rw [hcc];unfold decPr;simp only [Bool.false_eq_true, if_false];rw [f0, f1, f2, f3, f4, f6, f8, f9]
 ·have f0 : fld L 0 1 = v1 := fld_of (by rw [hL]; kernel_rfl) (by omega)
  have f1 : fld L 1 1 = v2 := fld_of (by rw [hL]; kernel_rfl) (by omega);have f2 : fld L 2 1 = v3 := fld_of (by rw [hL]; kernel_rfl) (by omega);have f3 : fld L 3 1 = v4 := fld_of (by rw [hL]; kernel_rfl) (by omega);have f4 : fld L 4 4 = v5 := fld_of (by rw [hL]; kernel_rfl) (by omega);have f6 : fld L 8 8 = v6 := fld_of (by rw [hL]; kernel_rfl) (by omega);have f8 : fld L 16 1 = v8 := fld_of (by rw [hL]; kernel_rfl) (by omega);have f9 : fld L 17 1 = v9 := fld_of (by rw [hL]; kernel_rfl) (by omega);refine ⟨⟨hlen, fun _ i i1 i2 => ?_, (fun h => nomatch h), ?_⟩, by rw [f0, h1], by rw [f1, h2]⟩
  ·rw [hL]
   rcases le31 i i1 i2 with rfl | rfl | rfl | rfl | rfl | rfl | rfl | rfl | rfl | rfl | rfl | rfl | rfl | rfl <;> kernel_rfl
  ·rw [hcc]
   unfold decPr;simp only [Bool.false_eq_true, if_false, if_true];rw [f0, f1, f2, f3, f4, f6, f8, f9]
end Go.Proofs.YtboihcigcfmhhaaGreat

/-
  The numbers of a block of parameters, read back: plain Lean. Lemmas alone; no statement is claimed here.
-/
import Derived.Test.YtboihcigcfmhhaaHashS
namespace Go.Proofs.Ytboihcigcfmhhaa
open Go.RowKit

theorem le_zeros (l : List UInt8) : ∀ k, le (l ++ List.replicate k 0) = le l
  | 0 => by simp
  | k + 1 => by
    rw [List.replicate_succ', ← List.append_assoc, le_snoc, le_zeros l k]
    simp
theorem storeN_le (l : List UInt8) (n : Nat) (h : l.length ≤ n) : storeN (le l) n = l ++ List.replicate (n - l.length) 0 := by
  apply le_inj
  · rw [storeN_len, List.length_append, List.length_replicate]; omega
  · rw [le_storeN, le_zeros, Nat.mod_eq_of_lt (Nat.lt_of_lt_of_le (le_lt l) (Nat.pow_le_pow_right (by decide) h))]
theorem over_snoc (L m : List UInt8) (at_ : Nat) (x : UInt8) (hk : at_ + m.length < L.length) : (over L at_ m).set (at_ + m.length) x = over L at_ (m ++ [x]) := by
  have h3 : (L.take at_).length = at_ := by rw [List.length_take]; omega
  unfold over
  rw [List.set_append, if_neg (by rw [h3]; omega), h3, Nat.add_sub_cancel_left, List.set_append, if_neg (by omega), Nat.sub_self, List.drop_eq_getElem_cons (by omega), List.set_cons_zero]
  simp [Nat.add_assoc]
theorem putL_over (L : List UInt8) (at_ y : Nat) : ∀ n, at_ + n ≤ L.length → putL L at_ y n = over L at_ (storeN y n)
  | 0, _ => by
    show L = over L at_ []
    rw [over_nil]
  | n + 1, h => by
    show (putL L at_ y n).set (at_ + n) _ = _
    rw [putL_over L at_ y n (by omega), storeN_succ, ← over_snoc L (storeN y n) at_ _ (by rw [storeN_len]; omega), storeN_len]
theorem over_behind (L : List UInt8) (k : Nat) (m : List UInt8) (hk : k ≤ L.length) : (over L k m).drop (k + m.length) = L.drop (k + m.length) := by
  have h3 : (L.take k).length = k := by rw [List.length_take]; omega
  unfold over
  rw [← List.drop_drop, List.drop_left' h3, List.drop_left' rfl]
/-- noughts from t on -/
def Trim (l : List UInt8) (t : Nat) : Prop := t ≤ l.length ∧ l.drop t = List.replicate (l.length - t) 0
theorem over_trim {L l : List UInt8} {k t : Nat} (ht : Trim l t) (hz : (L.drop k).take l.length = List.replicate l.length 0) : over L k (l.take t) = over L k l := by
  obtain ⟨h1, h2⟩ := ht
  have h3 : (l.take t).length = t := by rw [List.length_take]; omega
  have h4 : L.drop (k + t) = List.replicate (l.length - t) 0 ++ L.drop (k + l.length) := by
    have h5 : L.drop k = List.replicate l.length 0 ++ L.drop (k + l.length) := by
      rw [← hz, ← List.drop_drop, List.take_append_drop]
    rw [← List.drop_drop, h5, List.drop_append_of_le_length (by rw [List.length_replicate]; exact h1), List.drop_replicate]
  unfold over
  rw [h3, h4, ← List.append_assoc (l.take t), ← h2, List.take_append_drop]

/-- the number in n bytes from a place on -/
def fld (b : List UInt8) (at_ n : Nat) : Nat := le ((b.drop at_).take n)
theorem fld_lt (b : List UInt8) (at_ n : Nat) : fld b at_ n < 256 ^ n := by
  unfold fld
  exact Nat.lt_of_lt_of_le (le_lt _) (Nat.pow_le_pow_right (by decide) (List.length_take_le _ _))
theorem fld_one {b : List UInt8} {at_ : Nat} {x : UInt8} (h : b[at_]? = some x) : fld b at_ 1 = x.toNat := by
  obtain ⟨h1, h2⟩ := List.getElem?_eq_some_iff.1 h
  unfold fld
  rw [List.drop_eq_getElem_cons h1, h2]
  simp [le]
/-- what a block says, in one of the two forms -/
def decPr (big ext : Bool) (b : List UInt8) (s q : Sl) : Pr :=
  ⟨(fld b 0 1 : Nat), (fld b 1 1 : Nat), (fld b 2 1 : Nat), (fld b 3 1 : Nat), (fld b 4 4 : Nat), (fld b 8 (if ext then 4 else if big then 8 else 6) : Nat), if ext then (fld b 12 (if big then 4 else 2) : Nat) else 0, (fld b (if big then 16 else 14) 1 : Nat), (fld b (if big then 17 else 15) 1 : Nat), s, q⟩
def sl4 (big : Bool) : Sl := ⟨none, bOf big / 4, 0⟩
/-- may the block be? -/
def decOk (big ext : Bool) (b : List UInt8) : Prop :=
  b.length = bOf big ∧ (big = true → ∀ i, 18 ≤ i → i < 32 → b[i]? = some 0) ∧ (ext = true → fld b 12 (if big then 4 else 2) ≠ 0) ∧ chk (kOf big) (decPr big ext b (sl4 big) (sl4 big)) = 0
theorem chk_sl (big : Bool) (a1 a2 a3 a4 a5 a6 a7 a8 a9 : Int) (s q : Sl) (hs : 4 * s.n ≤ bOf big) (hq : 4 * q.n ≤ bOf big) : chk (kOf big) ⟨a1, a2, a3, a4, a5, a6, a7, a8, a9, s, q⟩ = chk (kOf big) ⟨a1, a2, a3, a4, a5, a6, a7, a8, a9, sl4 big, sl4 big⟩ := by
  have hm := mostOf_k big
  have hb : 4 * (bOf big / 4) ≤ bOf big := by cases big <;> decide
  unfold chk sl4
  dsimp only
  rw [hm, if_neg (c := (bOf big : Int) < 4 * (s.n : Int)) (by omega), if_neg (c := (bOf big : Int) < 4 * (q.n : Int)) (by omega), if_neg (c := (bOf big : Int) < 4 * ((bOf big / 4 : Nat) : Int)) (by omega), if_neg (c := (bOf big : Int) < 4 * ((bOf big / 4 : Nat) : Int)) (by omega)]
theorem chk_dec {big ext : Bool} {b : List UInt8} (h : decOk big ext b) (s q : Sl) (hs : 4 * s.n ≤ bOf big) (hq : 4 * q.n ≤ bOf big) : chk (kOf big) (decPr big ext b s q) = 0 := by
  rw [← h.2.2.2]
  exact chk_sl big _ _ _ _ _ _ _ _ _ s q hs hq
theorem fit_dec (big ext : Bool) (b : List UInt8) (s q : Sl) : (decPr big ext b s q).Fit := by
  have h1 := fld_lt b 4 4
  have h2 : fld b 8 (if ext then 4 else if big then 8 else 6) < 256 ^ 8 := Nat.lt_of_lt_of_le (fld_lt _ _ _) (Nat.pow_le_pow_right (by decide) (by cases ext <;> cases big <;> decide))
  have h3 : fld b 12 (if big then 4 else 2) < 256 ^ 4 := Nat.lt_of_lt_of_le (fld_lt _ _ _) (Nat.pow_le_pow_right (by decide) (by cases big <;> decide))
  refine ⟨?_, ?_, ?_⟩
  · show 0 ≤ ((fld b 4 4 : Nat) : Int) ∧ ((fld b 4 4 : Nat) : Int) < _
    omega
  · show 0 ≤ ((fld b 8 _ : Nat) : Int) ∧ ((fld b 8 _ : Nat) : Int) < _
    omega
  · show 0 ≤ (if ext = true then ((fld b 12 _ : Nat) : Int) else 0) ∧ (if ext = true then ((fld b 12 _ : Nat) : Int) else 0) < _
    cases ext
    · simp
    · simp only [if_true]
      omega
theorem dskip {big : Bool} {p : Pr} {k at_ size : Nat} (hr : (rowTab big).getD k (0, 0, 0) = (7, at_, size)) (hx : p.xof = 0) : encTo big p (k + 1) = encTo big p k := by
  show (if _ then _ else _) = _
  rw [hr, if_pos ⟨rfl, hx⟩]
theorem dput {big : Bool} {p : Pr} {k f at_ size : Nat} (v : Nat) (hr : (rowTab big).getD k (0, 0, 0) = (f, at_, size)) (hx : ¬ (f = 7 ∧ p.xof = 0)) (hf : fieldI p f = v) (hv : v < 256 ^ 8) (ha : at_ + size ≤ bOf big) : encTo big p (k + 1) = over (encTo big p k) at_ (storeN v size) := by
  have e : encTo big p (k + 1) = putL (encTo big p k) at_ (fieldV p f).toNat size := by
    show (if _ then _ else _) = _
    rw [hr, if_neg hx]
  have e2 : (fieldV p f).toNat = v := by
    unfold fieldV
    rw [hf, Int.toNat_natCast, UInt64.toNat_ofNat', Nat.mod_eq_of_lt (Nat.lt_of_lt_of_le hv (by decide))]
  rw [e, e2, putL_over _ _ _ _ (by rw [encTo_len]; exact ha)]
theorem st_fld (b : List UInt8) (at_ n m : Nat) (h : n ≤ m) (hb : at_ + n ≤ b.length) : storeN (fld b at_ n) m = (b.drop at_).take n ++ List.replicate (m - n) 0 := by
  have e : ((b.drop at_).take n).length = n := by rw [List.length_take, List.length_drop]; omega
  unfold fld
  rw [storeN_le _ _ (by rw [e]; exact h), e]
/-- a block, spelled out -/
theorem spell {b : List UInt8} {n : Nat} (hl : b.length = n) (f : Nat → UInt8) (hf : ∀ i, i < n → b[i]? = some (f i)) : b = (List.range n).map f := by
  apply List.ext_getElem?
  intro i
  by_cases hi : i < n
  · rw [hf i hi, List.getElem?_map, List.getElem?_range hi]; rfl
  · rw [List.getElem?_eq_none (by omega), List.getElem?_eq_none (by rw [List.length_map, List.length_range]; omega)]
theorem fv_lt (b : List UInt8) (at_ n : Nat) (h : n ≤ 8) : fld b at_ n < 256 ^ 8 := Nat.lt_of_lt_of_le (fld_lt _ _ _) (Nat.pow_le_pow_right (by decide) h)
theorem dec_xof (big : Bool) (b : List UInt8) (s q : Sl) : (decPr big false b s q).xof = 0 := rfl
theorem enc5 (big ext : Bool) (b : List UInt8) (s q : Sl) (hl : 32 ≤ b.length) : encTo big (decPr big ext b s q) 5 = over (over (over (over (over (List.replicate (bOf big) 0) 0 ((b.drop 0).take 1)) 1 ((b.drop 1).take 1)) 2 ((b.drop 2).take 1)) 3 ((b.drop 3).take 1)) 4 ((b.drop 4).take 4) := by
  have hb := bOf_le big
  have E0 : encTo big (decPr big ext b s q) 0 = List.replicate (bOf big) 0 := rfl
  rw [dput (fld b 4 4) (f := 5) (at_ := 4) (size := 4) rfl (fun h => absurd h.1 (by decide)) rfl (fv_lt _ _ _ (by decide)) (by omega), dput (fld b 3 1) (f := 4) (at_ := 3) (size := 1) rfl (fun h => absurd h.1 (by decide)) rfl (fv_lt _ _ _ (by decide)) (by omega), dput (fld b 2 1) (f := 3) (at_ := 2) (size := 1) rfl (fun h => absurd h.1 (by decide)) rfl (fv_lt _ _ _ (by decide)) (by omega), dput (fld b 1 1) (f := 2) (at_ := 1) (size := 1) rfl (fun h => absurd h.1 (by decide)) rfl (fv_lt _ _ _ (by decide)) (by omega), dput (fld b 0 1) (f := 1) (at_ := 0) (size := 1) rfl (fun h => absurd h.1 (by decide)) rfl (fv_lt _ _ _ (by decide)) (by omega), E0,
    st_fld _ _ _ _ (by decide) (by omega), st_fld _ _ _ _ (by decide) (by omega), st_fld _ _ _ _ (by decide) (by omega), st_fld _ _ _ _ (by decide) (by omega), st_fld _ _ _ _ (by decide) (by omega)]
  simp only [Nat.sub_self, List.replicate_zero, List.append_nil]
theorem enc9 (big ext : Bool) (b : List UInt8) (s q : Sl) (hl : b.length = bOf big) : encTo big (decPr big ext b s q) 9 = over (over (encTo big (decPr big ext b s q) 7) (if big then 16 else 14) ((b.drop (if big then 16 else 14)).take 1)) (if big then 17 else 15) ((b.drop (if big then 17 else 15)).take 1) := by
  have hb : (if big then 17 else 15) + 1 ≤ bOf big := by cases big <;> decide
  have hb' : (if big then 16 else 14) + 1 ≤ bOf big := by cases big <;> decide
  rw [dput (fld b (if big then 17 else 15) 1) (f := 9) (at_ := if big then 17 else 15) (size := 1) rfl (fun h => absurd h.1 (by decide)) rfl (fv_lt _ _ _ (by decide)) hb, dput (fld b (if big then 16 else 14) 1) (f := 8) (at_ := if big then 16 else 14) (size := 1) rfl (fun h => absurd h.1 (by decide)) rfl (fv_lt _ _ _ (by decide)) hb',
    st_fld _ _ _ _ (by decide) (by omega), st_fld _ _ _ _ (by decide) (by omega)]
  simp only [Nat.sub_self, List.replicate_zero, List.append_nil]
theorem spellBig {b : List UInt8} (hl : b.length = 64) (hz : ∀ i, 18 ≤ i → i < 32 → b[i]? = some 0) : ∃ f : Nat → UInt8, b = (List.range 64).map (fun i => if 18 ≤ i ∧ i < 32 then 0 else f i) :=
  ⟨fun i => b.getD i 0, spell hl _ (fun i hi => by
    by_cases h1 : 18 ≤ i ∧ i < 32
    · simp only [if_pos h1]; exact hz i h1.1 h1.2
    · simp only [if_neg h1]; rw [List.getD_eq_getElem?_getD, List.getElem?_eq_getElem (by omega)]; rfl)⟩
theorem spellSmall {b : List UInt8} (hl : b.length = 32) : ∃ f : Nat → UInt8, b = (List.range 32).map f :=
  ⟨fun i => b.getD i 0, spell hl _ (fun i hi => by rw [List.getD_eq_getElem?_getD, List.getElem?_eq_getElem (by omega)]; rfl)⟩
set_option maxRecDepth 100000 in
set_option maxHeartbeats 1000000 in
theorem encdec (big ext : Bool) (b : List UInt8) (s q : Sl) (h : decOk big ext b) : over (over (encTo big (decPr big ext b s q) 9) (bOf big / 2) ((b.drop (bOf big / 2)).take (bOf big / 4))) (3 * (bOf big / 4)) ((b.drop (3 * (bOf big / 4))).take (bOf big / 4)) = b ∧ (encTo big (decPr big ext b s q) 9).drop (bOf big / 2) = List.replicate (bOf big / 2) 0 := by
  obtain ⟨hl, hz, hx, -⟩ := h
  rw [enc9 big ext b s q hl]
  have E5 := enc5 big ext b s q (by rw [hl]; exact (bOf_le big).1)
  cases big <;> cases ext
  · rw [dskip (at_ := 12) (size := 2) rfl rfl, dput (fld b 8 6) (f := 6) (at_ := 8) (size := 6) rfl (fun h => absurd h.1 (by decide)) rfl (fv_lt _ _ _ (by decide)) (by decide), E5, st_fld _ _ _ _ (by decide) (by rw [hl]; decide)]
    obtain ⟨f, rfl⟩ := spellSmall hl
    exact ⟨by kernel_rfl, by kernel_rfl⟩
  · rw [dput (fld b 12 2) (f := 7) (at_ := 12) (size := 2) rfl (fun h => hx rfl (Int.ofNat.inj h.2)) rfl (fv_lt _ _ _ (by decide)) (by decide), dput (fld b 8 4) (f := 6) (at_ := 8) (size := 6) rfl (fun h => absurd h.1 (by decide)) rfl (fv_lt _ _ _ (by decide)) (by decide), E5, st_fld _ _ _ _ (by decide) (by rw [hl]; decide), st_fld _ _ _ _ (by decide) (by rw [hl]; decide)]
    obtain ⟨f, rfl⟩ := spellSmall hl
    exact ⟨by kernel_rfl, by kernel_rfl⟩
  · rw [dskip (at_ := 12) (size := 4) rfl rfl, dput (fld b 8 8) (f := 6) (at_ := 8) (size := 8) rfl (fun h => absurd h.1 (by decide)) rfl (fv_lt _ _ _ (by decide)) (by decide), E5, st_fld _ _ _ _ (by decide) (by rw [hl]; decide)]
    obtain ⟨f, rfl⟩ := spellBig hl (hz rfl)
    exact ⟨by kernel_rfl, by kernel_rfl⟩
  · rw [dput (fld b 12 4) (f := 7) (at_ := 12) (size := 4) rfl (fun h => hx rfl (Int.ofNat.inj h.2)) rfl (fv_lt _ _ _ (by decide)) (by decide), dput (fld b 8 4) (f := 6) (at_ := 8) (size := 8) rfl (fun h => absurd h.1 (by decide)) rfl (fv_lt _ _ _ (by decide)) (by decide), E5, st_fld _ _ _ _ (by decide) (by rw [hl]; decide), st_fld _ _ _ _ (by decide) (by rw [hl]; decide)]
    obtain ⟨f, rfl⟩ := spellBig hl (hz rfl)
    exact ⟨by kernel_rfl, by kernel_rfl⟩
/-- what is read back is laid down as it was -/
theorem encL_dec {big ext : Bool} {b : List UInt8} (s q : Sl) {t1 t2 : Nat} (h : decOk big ext b) (h1 : Trim ((b.drop (bOf big / 2)).take (bOf big / 4)) t1) (h2 : Trim ((b.drop (3 * (bOf big / 4))).take (bOf big / 4)) t2) :
    encL big (decPr big ext b s q) (((b.drop (bOf big / 2)).take (bOf big / 4)).take t1) (((b.drop (3 * (bOf big / 4))).take (bOf big / 4)).take t2) = b := by
  obtain ⟨e1, e2⟩ := encdec big ext b s q h
  have hl := h.1
  have l1 : ((b.drop (bOf big / 2)).take (bOf big / 4)).length = bOf big / 4 := by rw [List.length_take, List.length_drop, hl]; cases big <;> decide
  have l2 : ((b.drop (3 * (bOf big / 4))).take (bOf big / 4)).length = bOf big / 4 := by rw [List.length_take, List.length_drop, hl]; cases big <;> decide
  have l9 := encTo_len big (decPr big ext b s q) 9
  unfold encL
  generalize encTo big (decPr big ext b s q) 9 = E at *
  generalize (b.drop (bOf big / 2)).take (bOf big / 4) = x1 at *
  generalize (b.drop (3 * (bOf big / 4))).take (bOf big / 4) = x2 at *
  rw [over_trim h1 (by rw [e2, l1, List.take_replicate]; congr 1; cases big <;> decide), over_trim h2 ?_, e1]
  have e3 : 3 * (bOf big / 4) = bOf big / 2 + x1.length := by rw [l1]; cases big <;> decide
  have e4 : bOf big / 2 - x1.length = bOf big / 4 := by rw [l1]; cases big <;> decide
  rw [e3, over_behind _ _ _ (by rw [l9]; exact Nat.div_le_self _ _), ← List.drop_drop, e2, List.drop_replicate, e4, l2, List.take_replicate, Nat.min_self]
end Go.Proofs.Ytboihcigcfmhhaa

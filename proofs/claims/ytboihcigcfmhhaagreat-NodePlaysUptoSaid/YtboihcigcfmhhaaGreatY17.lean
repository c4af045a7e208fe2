/-
  Y17: contracts and lemmas alone; no statement is claimed here.
-/
import Derived.Test.YtboihcigcfmhhaaGreatY0
import Derived.Test.YtboihcigcfmhhaaGreatY13
set_option maxHeartbeats 1000000
namespace Go.Proofs.YtboihcigcfmhhaaGreat
open Lib renaming hid -> zH
open Go.RowKit
theorem sameR_any (A1 A2 : Option Addr) (c1 c2 : Nat) (l1 l2 : List UInt8) (B1 B2 n1 n2 : Nat) (w : World) (hn1 : l1.length = n1) (hn2 : l2.length = n2) (hm : n1 <= 9223372036854775807)
   (h1 : RS cB w B1 A1 l1) (h2 : RS cB w B2 A2 l2) :
    Calls Tryz.prog 26 #[.slice A1 n1 c1, .slice A2 n2 c2] w fun e w' => e = .returned (.bool (decide (l1 = l2))) /\ ∃ n, w' = w.drewN n := by
  by_cases hl : n1 = n2
  · subst hl
    have HN := zH hn1; have HL := zH hn2; have H1 := zH h1; have H2 := zH h2;clear hn1 hn2 h1 h2;have h3 : (!(((n1 : Int)) == ((n1 : Int)))) = false := by simp
    go_enter Tryz.func26, Tryz.ntmps26;go_wp2;go_loopw [5] (fun i wr => ∃ k n : Nat, k <= n1 /\ i = .int .i64 k /\ wr = w.drewN n /\ l1.take k = l2.take k) (fun i _ => n1 - (intOf i).toNat)
    case atStart => exact ⟨0, 0, by omega, rfl, rfl, by simp⟩
    case round =>
      obtain ⟨k, n, hk, rfl, rfl, ht⟩ := hrel;have HT := zH ht; clear ht
      by_cases hlt : k < n1
      · obtain ⟨ad1, x1, rfl, -, e1, g1⟩ := H1.at_ (k := k) (by rw [HN.out]; exact hlt)
        obtain ⟨ad2, x2, rfl, -, e2, g2⟩ := H2.at_ (k := k) (by rw [HL.out]; exact hlt);have E1 := zH e1; have E2 := zH e2; clear e1 e2;change w.cell? (ad1.add k) = some (.int .u8 (byt x1)) at g1;change w.cell? (ad2.add k) = some (.int .u8 (byt x2)) at g2;have r1 := byt_range x1;have r2 := byt_range x2;go_wp2;go_quiet (fail);go_wp2
        · have hne : (byt x1 != byt x2) = true := by assumption
          go_ret;refine ⟨?_, n + nq, by rw [<- World.drewN_drewN]⟩;have : l1 ≠ l2 := fun e => by
            have := E1.out; rw [e, E2.out] at this;injection this with this; subst this; simp at hne
          simp [this]
        · have hne : (byt x1 != byt x2) = false := by assumption
          go_roundw
          case rel =>
            refine ⟨k + 1, n + nq, by omega, by go_num, by rw [<- World.drewN_drewN], ?_⟩;have hx : x1 = x2 := byt_inj (by simpa using hne);rw [List.take_add_one, List.take_add_one, HT.out, E1.out, E2.out, hx]
          case measure => simp [intOf]; omega
      · go_wp2
        go_ret;refine ⟨?_, n, rfl⟩;have : l1 = l2 := by
          have e := HT.out;rw [List.take_of_length_le (by rw [HN.out]; omega), List.take_of_length_le (by rw [HL.out]; omega)] at e;exact e
        simp [this]
  · have hn : l1 ≠ l2 := fun e => hl (by rw [<- hn1, <- hn2, e])
    have h3 : (((n1 : Int)) != ((n2 : Int))) = true := by simp; omega
    have HH := zH hn;clear hn hl h1 h2 hm hn1 hn2;go_enter Tryz.func26, Tryz.ntmps26;go_wp2;go_ret;exact ⟨by simp [HH.out], 0, rfl⟩
attribute [local go_sem] pureUpon Ords.of
theorem copied5_any (A : Option Addr) (c n : Nat) (l : List UInt8) (w : World) (hn : l.length = n) (hm : n <= 140737488355328) (hr : RS cB w w.heap.size A l) :
  Calls Tryz.prog 15 #[.slice A n c] w fun e w' => ∃ A' c', e = .returned (.slice A' n c') /\ OS cB w' w.heap.size A' c' l /\ Below w.heap.size w w' := by
 have HN := zH hn; have HR := zH hr; clear hn hr;go_enter Tryz.func15, Tryz.ntmps15;have ho : OS cB (w.alloc (.cells #[] 5)) w.heap.size (some ⟨w.heap.size, 0, none⟩) 0 [] := by
  have h := OS.madeAt (cd := cB) (base := w.heap.size) w 0 0 0 rfl (Nat.le_refl _) (by unfold maxLen; omega) (Nat.le_refl _) rfl;rw [show madeCells #[cB.zero] 0 = #[] by simp [madeCells]] at h;exact h
 have HO := zH ho; clear ho;go_wp2_with (at_builtin; refine wpList_appB _ rfl (.tmp 3) (.tmp 4) rfl HO.out rfl rfl (HR.alloc (Nat.le_refl _) _) rfl HN.out (by omega) (by simp) ?_; intro A3 c3 w3 hown3 hgrow hat; have hw3 := bapp (bal (b0 w) _) HO.out hgrow; have HO3 := zH hown3; clear hown3 hgrow hat);exact bodyPost_ret (results_tmp rfl _ _ _) rfl ⟨A3, c3, rfl, HO3.out, hw3⟩
theorem same5_any (A1 A2 : Option Addr) (c1 c2 : Nat) (l1 l2 : List UInt8) (n1 n2 : Nat) (w : World) (hn1 : l1.length = n1) (hn2 : l2.length = n2) (hm : n1 <= 9223372036854775807) (h1 : RS cB w w.heap.size A1 l1) (h2 : RS cB w w.heap.size A2 l2) :
  Calls Tryz.prog 7 #[.slice A1 n1 c1, .slice A2 n2 c2] w fun e w' => e = .returned (.bool (decide (l1 = l2))) /\ Below w.heap.size w w' := by
 have hs := sameR_any A1 A2 c1 c2 l1 l2 w.heap.size w.heap.size n1 n2 w hn1 hn2 hm h1 h2;have HS := zH hs; clear hs hn1 hn2 h1 h2;go_enter Tryz.func7, Tryz.ntmps7;go_wp2_with (go_at_call 26; refine HS.mono ?_; rintro e1 w1 ⟨rfl, n, rfl⟩);exact bodyPost_ret (results_tmp rfl _ _ _) rfl ⟨rfl, bdr (b0 w) n⟩
theorem kind_of {k : Int} {p : Pr} (h : chk k p = 0) : ∃ big, k = kOf big := by
 by_cases h1 : k = 1
 ·exact ⟨true, h1⟩
 ·by_cases h2 : k = 2
  ·exact ⟨false, h2⟩
  ·exfalso
   unfold chk mostOf at h;simp [h1, h2] at h
theorem bOf_le (big : Bool) : 32 <= bOf big /\ bOf big <= 64 := by cases big <;> decide
def hashS (k : Int) (p : Pr) (ls lp key : List UInt8) (last : Bool) (m : Int) (data : List UInt8) : List UInt8 × Int :=
  if chk k p ≠ 0 then ([], chk k p) else if key.length ≠ 0 /\ (key.length : Int) ≠ p.key then ([], 8) else if m < 1 \/ mostOf k < m then ([], 1) else ((hashL (decide (k = 1)) p ls lp key last data).take m.toNat, 0)
theorem mostOf_k (big : Bool) : mostOf (kOf big) = bOf big := by cases big <;> rfl
theorem over_snoc (L m : List UInt8) (at_ : Nat) (x : UInt8) (hk : at_ + m.length < L.length) : (over L at_ m).set (at_ + m.length) x = over L at_ (m ++ [x]) := by
 have h3 : (L.take at_).length = at_ := by rw [List.length_take]; omega
 unfold over;rw [List.set_append, if_neg (by rw [h3]; omega), h3, Nat.add_sub_cancel_left, List.set_append, if_neg (by omega), Nat.sub_self, List.drop_eq_getElem_cons (by omega), List.set_cons_zero];simp [Nat.add_assoc]
theorem putL_over (L : List UInt8) (at_ y : Nat) : ∀ n, at_ + n <= L.length -> putL L at_ y n = over L at_ (storeN y n)
 | 0, _ => by
  show L = over L at_ []
  rw [over_nil]
 | n + 1, h => by
  show (putL L at_ y n).set (at_ + n) _ = _
  rw [putL_over L at_ y n (by omega), storeN_succ, <- over_snoc L (storeN y n) at_ _ (by rw [storeN_len]; omega), storeN_len]
def Trim (l : List UInt8) (t : Nat) : Prop := t <= l.length /\ l.drop t = List.replicate (l.length - t) 0
def fld (b : List UInt8) (at_ n : Nat) : Nat := le ((b.drop at_).take n)
theorem fld_lt (b : List UInt8) (at_ n : Nat) : fld b at_ n < 256 ^ n := by
 unfold fld;exact Nat.lt_of_lt_of_le (le_lt _) (Nat.pow_le_pow_right (by decide) (List.length_take_le _ _))
theorem fld_one {b : List UInt8} {at_ : Nat} {x : UInt8} (h : b[at_]? = some x) : fld b at_ 1 = x.toNat := by
 obtain ⟨h1, h2⟩ := List.getElem?_eq_some_iff.1 h;unfold fld;rw [List.drop_eq_getElem_cons h1, h2];simp [le]
def decPr (big ext : Bool) (b : List UInt8) (s q : Sl) : Pr :=
  ⟨(fld b 0 1 : Nat), (fld b 1 1 : Nat), (fld b 2 1 : Nat), (fld b 3 1 : Nat), (fld b 4 4 : Nat), (fld b 8 (if ext then 4 else if big then 8 else 6) : Nat), if ext then (fld b 12 (if big then 4 else 2) : Nat) else 0, (fld b (if big then 16 else 14) 1 : Nat), (fld b (if big then 17 else 15) 1 : Nat), s, q⟩
def sl4 (big : Bool) : Sl := ⟨none, bOf big / 4, 0⟩
def decOk (big ext : Bool) (b : List UInt8) : Prop :=
  b.length = bOf big /\ (big = true -> ∀ i, 18 <= i -> i < 32 -> b[i]? = some 0) /\ (ext = true -> fld b 12 (if big then 4 else 2) ≠ 0) /\ chk (kOf big) (decPr big ext b (sl4 big) (sl4 big)) = 0
theorem chk_sl (big : Bool) (a1 a2 a3 a4 a5 a6 a7 a8 a9 : Int) (s q : Sl) (hs : 4 * s.n <= bOf big) (hq : 4 * q.n <= bOf big) : chk (kOf big) ⟨a1, a2, a3, a4, a5, a6, a7, a8, a9, s, q⟩ = chk (kOf big) ⟨a1, a2, a3, a4, a5, a6, a7, a8, a9, sl4 big, sl4 big⟩ := by
 have hm := mostOf_k big;have hb : 4 * (bOf big / 4) <= bOf big := by cases big <;> decide
 unfold chk sl4
 dsimp only
 rw [hm, if_neg (c := (bOf big : Int) < 4 * (s.n : Int)) (by omega), if_neg (c := (bOf big : Int) < 4 * (q.n : Int)) (by omega), if_neg (c := (bOf big : Int) < 4 * ((bOf big / 4 : Nat) : Int)) (by omega), if_neg (c := (bOf big : Int) < 4 * ((bOf big / 4 : Nat) : Int)) (by omega)]
theorem dskip {big : Bool} {p : Pr} {k at_ size : Nat} (hr : (rowTab big).getD k (0, 0, 0) = (7, at_, size)) (hx : p.xof = 0) : encTo big p (k + 1) = encTo big p k := by
 show (if _ then _ else _) = _
 rw [hr, if_pos ⟨rfl, hx⟩]
theorem dput {big : Bool} {p : Pr} {k f at_ size : Nat} (v : Nat) (hr : (rowTab big).getD k (0, 0, 0) = (f, at_, size)) (hx : ¬ (f = 7 /\ p.xof = 0)) (hf : fieldI p f = v) (hv : v < 256 ^ 8) (ha : at_ + size <= bOf big) : encTo big p (k + 1) = over (encTo big p k) at_ (storeN v size) := by
 have e : encTo big p (k + 1) = putL (encTo big p k) at_ (fieldV p f).toNat size := by
  show (if _ then _ else _) = _
  rw [hr, if_neg hx]
 have e2 : (fieldV p f).toNat = v := by
  unfold fieldV;rw [hf, Int.toNat_natCast, UInt64.toNat_ofNat', Nat.mod_eq_of_lt (Nat.lt_of_lt_of_le hv (by decide))]
 rw [e, e2, putL_over _ _ _ _ (by rw [encTo_len]; exact ha)]
end Go.Proofs.YtboihcigcfmhhaaGreat

/-
  Y28: contracts and lemmas alone; no statement is claimed here.
-/
import Derived.Test.YtmapfcdffklopaaGreatY26
import Derived.Test.YtmapfcdffklopaaGreatY18
namespace Go.Proofs.YtmapfcdffklopaaGreat
open Go.RowKit
attribute [local go_sem] pureUpon Ords.of

set_option maxRecDepth 20000 in
theorem xnone_any (p : Nat) (cs : Array Value) (w : World) (hb : Blk w p 71 cs) (f : Fn) (xs ys : Array Value) (h : cs[76]? = some (.func f xs ys)) :
  Calls Tryz.prog 29 #[.pointer (some ⟨p, 0, none⟩)] w fun r w' => r = .returned (.bool false) ∧ w = w' := by
 have c76 : w.cell? ⟨p, 76, none⟩ = some (.func f xs ys) := (hb.cell 76).trans h
 have hbo : ∀ W, Sem.run Tryz.prog (Go.binOp .eql 56 (.func f xs ys) .nilFunc) W = .ok (.bool false) W := by intro W; rfl
 clear hb h
 go_enter Tryz.func29, Tryz.ntmps29
 go_wp2_with fail
 exact bodyPost_ret (results_tmp rfl _ _ _) rfl ⟨rfl, rfl⟩
set_option maxRecDepth 20000 in
set_option maxHeartbeats 1000000 in
theorem xleft_any (p : Nat) (k f c t : Int) (kn : Bool) (kv sv pv nv rv : Value) (pos hv : Int) (fn : Fn) (xs ys : Array Value) (now : List UInt8) (cs : Array Value) (w : World) (hb : Blk w p 71 cs) (hx : XC cs k f c t kn kv sv pv nv rv pos hv (.func fn xs ys) now) (h0 : 0 ≤ t - pos ∧ t - pos < 18446744073709551616) :
  Calls Tryz.prog 9 #[.pointer (some ⟨p, 0, none⟩)] w fun r w' => r = .returned (.int .u64 (t - pos)) ∧ Below w.heap.size w w' := by
 have hno := fun W hb => xnone_any p cs W hb fn xs ys hx.c76
 have hw : IntKind.u64.wrap (t - pos) = t - pos := by rw [wrap_u64]; omega
 have hpl := hb.lt
 have d3 : w.cell? ⟨p, 3, none⟩ = some (.int .u64 t) := (hb.cell 3).trans hx.c3
 have d10 : w.cell? ⟨p, 10, none⟩ = some (.int .u64 pos) := (hb.cell 10).trans hx.c10
 have HNO := Lib.hid hno; have HB := Lib.hid hb; clear hno hb hx h0
 go_enter Tryz.func9, Tryz.ntmps9
 go_wp2_with (go_at_call 29; refine (HNO.out _ HB.out).mono ?_; rintro e1 w1 ⟨rfl, rfl⟩)
 refine wp_region_B (Ords.of [(0, 0), (0, 1), (0, 2), (0, 3), (0, 4), (0, 5), (0, 6), (0, 7), (0, 8), (0, 9), (0, 10)] .fin) (by kernel_rfl) rfl (by kernel_rfl) (by kernel_rfl) (fun c a d v w h => by cases d <;> exact h) ?_
 iterate 4 (refine ords_pure rfl (fun K hK => ?_); go_simp; refine hK _ ?_; clear hK K)
 refine ords_heldK rfl (fun K K2 hK hK2 => ?_); go_simp; refine ⟨hK2 _ (fun w9 hS => ?_), hK _ ?_⟩; (clear hK hK2 K K2; (first | refine withN hS ?_ | refine withD hS ?_ | refine with0 hS ?_); intro hcS hfS; go_simp); (clear hK hK2 K K2)
 iterate 3 (refine ords_pure rfl (fun K hK => ?_); go_simp; refine hK _ ?_; clear hK K)
 refine ords_heldK rfl (fun K K2 hK hK2 => ?_); go_simp; refine ⟨hK2 _ (fun w9 hS => ?_), hK _ ?_⟩; (clear hK hK2 K K2; (first | refine withN hS ?_ | refine withD hS ?_ | refine with0 hS ?_); intro hcS hfS; go_simp); (clear hK hK2 K K2)
 iterate 2 (refine ords_pure rfl (fun K hK => ?_); go_simp; refine hK _ ?_; clear hK K)
 refine ords_end (fun n1 => ?_)
 go_wp2_with fail
 exact bodyPost_ret (results_tmp rfl _ _ _) rfl ⟨rfl, bdr (b0 w) _⟩
theorem awake7_any (w : World) : Calls Tryz.prog 5 #[] w fun e w' => e = .returned (.bool true) ∧ Below w.heap.size w w' := by
 have hnew := fun W => xnew_any true (-1) [] [] [] none 0 0 ⟨none, 0, 0⟩ ⟨none, 0, 0⟩ W (by decide) rfl rfl (RS.nil _) (RS.nil _) rfl (RS.nil _)
 change ∀ W, Calls Tryz.prog _ #[.int .i64 1, .int .i64 (-1), .slice none 0 0, .slice none 0 0, .slice none 0 0] W _ at hnew
 have HNEW := Lib.hid hnew; clear hnew
 go_enter Tryz.func5, Tryz.ntmps5
 go_wp2_with fail
 refine (HNEW.out _).mono ?_
 rintro e1 w1 ⟨g, cs, Ak2, ck2, s2, p2, q, F, rfl, hX1, hb1⟩
 obtain ⟨now, -, hx⟩ := hX1.xc
 have HL := Lib.hid (fun W hb => xleft_any g _ _ _ _ _ _ _ _ _ _ _ _ _ _ _ _ cs W hb hx (by decide)); have HBK := Lib.hid hX1.blk; have HB1 := Lib.hid hb1; clear hX1 hb1 hx
 go_wp2_with (go_at_call 9; refine (HL.out _ HBK.out).mono ?_; rintro e2 w2 ⟨rfl, hb2⟩; have HB2 := Lib.hid (bcall HB1.out hb2); clear hb2; rw [show xTotal (kOf true) (-1) - 0 = 274877906944 from rfl])
 exact bodyPost_ret (results_tmp rfl _ _ _) rfl ⟨rfl, HB2.out⟩
end Go.Proofs.YtmapfcdffklopaaGreat
namespace Go.Proofs.YtmapfcdffklopaaGreat
open Go.RowKit
attribute [local go_sem] pureUpon Ords.of

def pceM (f T I : Nat) : Nat := min (T - I * f) f
def pceP (f T I c : Nat) (s t : Sl) : Pr := ⟨pceM f T I, 0, 0, 0, f, I, c, 0, f, s, t⟩
def codeMax (big : Bool) : Nat := if big then 4294967295 else 65535
theorem pce_chk {big : Bool} {T I c : Nat} {s t : Sl} (hI : I * bOf big < T) (hT : T ≤ bOf big * 4294967296) (hc : 1 ≤ c ∧ c ≤ codeMax big) (hs : 4 * s.n ≤ bOf big) (ht : 4 * t.n ≤ bOf big) : chk (kOf big) (pceP (bOf big) T I c s t) = 0 := by
 have hI2 : I < 4294967296 := by
  have h : bOf big * I < bOf big * 4294967296 := by rw [Nat.mul_comm (bOf big) I]; omega
  exact Nat.lt_of_mul_lt_mul_left h
 have hm : 1 ≤ pceM (bOf big) T I ∧ pceM (bOf big) T I ≤ bOf big := by
  have : 1 ≤ bOf big := by cases big <;> decide
  unfold pceM; omega
 have hk : kOf big = 2 → codeMax big ≤ 65535 := by cases big <;> decide
 have e0 : 1 ≤ bOf big := by cases big <;> decide
 unfold chk pceP
 rw [mostOf_k]
 dsimp only
 generalize pceM (bOf big) T I = m at *
 rw [if_neg (by omega), if_neg (by omega), if_neg (by omega), if_neg (by omega), if_neg (by omega), if_neg (by omega), if_neg (by intro h; have := hk h.1; omega), if_neg (by omega), if_neg (by omega), if_neg (by omega), if_neg (by omega)]
theorem pce_hash {big : Bool} {T I c : Nat} {s t : Sl} (ls lp root : List UInt8) (hI : I * bOf big < T) (hT : T ≤ bOf big * 4294967296) (hc : 1 ≤ c ∧ c ≤ codeMax big) (hs : 4 * s.n ≤ bOf big) (ht : 4 * t.n ≤ bOf big) :
  hashS (kOf big) (pceP (bOf big) T I c s t) ls lp [] false (pceM (bOf big) T I) root = ((hashL big (pceP (bOf big) T I c s t) ls lp [] false root).take (pceM (bOf big) T I), 0) := by
 have hm : 1 ≤ pceM (bOf big) T I ∧ pceM (bOf big) T I ≤ bOf big := by
  have : 1 ≤ bOf big := by cases big <;> decide
  unfold pceM; omega
 unfold hashS
 rw [if_neg (fun h => h (pce_chk hI hT hc hs ht)), if_neg (fun h => h.1 rfl), if_neg (by rw [mostOf_k]; omega), kOf_is, Int.toNat_natCast]
theorem pce_fit {big : Bool} {T I c : Nat} {s t : Sl} (hI : I * bOf big < T) (hT : T ≤ bOf big * 4294967296) (hc : 1 ≤ c ∧ c ≤ codeMax big) : (pceP (bOf big) T I c s t).Fit := by
 have hI2 : I < 4294967296 := by
  have h : bOf big * I < bOf big * 4294967296 := by rw [Nat.mul_comm (bOf big) I]; omega
  exact Nat.lt_of_mul_lt_mul_left h
 have hb : bOf big ≤ 64 := (bOf_le big).2
 have hk : codeMax big ≤ 4294967295 := by cases big <;> decide
 unfold pceP
 exact ⟨⟨by dsimp only; omega, by dsimp only; omega⟩, ⟨by dsimp only; omega, by dsimp only; omega⟩, ⟨by dsimp only; omega, by dsimp only; omega⟩⟩
set_option maxRecDepth 20000 in
set_option maxHeartbeats 2000000 in
theorem xpiece_any (big : Bool) (T I c : Nat) (kn : Bool) (s t : Sl) (ls lp root : List UInt8) (Ar : Option Addr) (nr cr : Nat) (w : World) (hI : I * bOf big < T) (hT : T ≤ bOf big * 4294967296) (hc : 1 ≤ c ∧ c ≤ codeMax big) (hs : 4 * s.n ≤ bOf big) (ht : 4 * t.n ≤ bOf big)
  (hls : ls.length = s.n) (hlp : lp.length = t.n) (hrs : RS cB w w.heap.size s.A ls) (hrp : RS cB w w.heap.size t.A lp) (hl : root.length = nr) (hnr : nr ≤ cr) (hcr : cr ≤ 9223372036854775807) (hrr : RS cB w w.heap.size Ar root) :
  Calls Tryz.prog 47 #[.agg #[.int .i64 (kOf big), .int .i64 (bOf big), .int .u32 c, .int .u64 T, .bool kn], s.v, t.v, .slice Ar nr cr, .int .u64 I] w fun r w' => ∃ A n c' cc, r = .returned (.slice A n cc) ∧ ((hashL big (pceP (bOf big) T I c s t) ls lp [] false root).take (pceM (bOf big) T I)).length = n ∧ n ≤ cc ∧ OS cB w' w.heap.size A c' ((hashL big (pceP (bOf big) T I c s t) ls lp [] false root).take (pceM (bOf big) T I)) ∧ Below w.heap.size w w' := by
 have hh := fun W hrs hrp hrr => hashS_any (kOf big) false (pceM (bOf big) T I) (pceP (bOf big) T I c s t) ls lp [] root none Ar 0 0 nr cr W (pce_fit hI hT hc) hls hlp hrs hrp rfl (RS.nil _) hl hnr hcr hrr
 rw [pce_hash ls lp root hI hT hc hs ht] at hh
 have hb := (bOf_le big).2
 have hb0 : 1 ≤ bOf big := by cases big <;> decide
 dsimp only at hh
 generalize (hashL big (pceP (bOf big) T I c s t) ls lp [] false root).take (pceM (bOf big) T I) = OUT at *
 unfold pceP at hh
 unfold pceM at hh
 unfold Pr.v Pr.cs Sl.v at *
 dsimp only at hh
 generalize bOf big = f at *
 generalize kOf big = k at *
 obtain ⟨q, hq⟩ : ∃ q, q = I * f := ⟨_, rfl⟩
 obtain ⟨L, hL⟩ : ∃ L, L = T - q := ⟨_, rfl⟩
 rw [← hq] at hI
 rw [← hq, ← hL] at hh
 have hqi : (I : Int) * (f : Int) = (q : Int) := by rw [hq]; simp
 have hli : (T : Int) - (q : Int) = (L : Int) := by omega
 have w1 : IntKind.u32.wrap (f : Int) = f := by rw [wrap_u32w]; omega
 have w2 : IntKind.u64.wrap (f : Int) = f := by rw [wrap_u64]; omega
 have w3 : IntKind.u64.wrap ((I : Int) * (f : Int)) = q := by rw [hqi, wrap_u64]; omega
 have w4 : IntKind.u64.wrap ((T : Int) - (q : Int)) = L := by rw [hli, wrap_u64]; omega
 have w5 : IntKind.i64.wrap (L : Int) = L := by simp [IntKind.wrap, IntKind.bits, IntKind.signed]; omega
 by_cases hlt : L < f
 ·rw [Nat.min_eq_left (Nat.le_of_lt hlt)] at hh
  have t1 : (L < f) = True := by simp [hlt]
  have HH := Lib.hid hh; have HRS := Lib.hid hrs; have HRP := Lib.hid hrp; have HRR := Lib.hid hrr
  clear hh hrs hrp hrr hI hT hc hs ht hls hlp hl hnr hcr hb hb0 hq hL hqi hli
  go_enter Tryz.func47, Tryz.ntmps47
  go_wp2_with fail
  refine (HH.out _ ((((HRS.out.alloc (Nat.le_refl _) _).more (by simp)).alloc (Nat.le_refl _) _).more (by simp)) ((((HRP.out.alloc (Nat.le_refl _) _).more (by simp)).alloc (Nat.le_refl _) _).more (by simp)) ((((HRR.out.alloc (Nat.le_refl _) _).more (by simp)).alloc (Nat.le_refl _) _).more (by simp))).mono ?_
  rintro e1 w1 ⟨A1, n1, c1, cc1, rfl, hl1, hcc1, ho1, hb1⟩
  have HL1 := Lib.hid hl1; have HC1 := Lib.hid hcc1; have HO1 := Lib.hid (ho1.mono (show w.heap.size ≤ _ by simp; omega)); have HB1 := Lib.hid (bcall (bal (bal (b0 w) _) _) hb1); clear hl1 hcc1 ho1 hb1
  go_wp2_with fail
  exact bodyPost_ret (results_tmp rfl _ _ _) rfl ⟨A1, n1, c1, cc1, rfl, HL1.out, HC1.out, HO1.out, HB1.out⟩
 ·rw [Nat.min_eq_right (by omega)] at hh
  have t1 : (L < f) = False := by simp [hlt]
  have HH := Lib.hid hh; have HRS := Lib.hid hrs; have HRP := Lib.hid hrp; have HRR := Lib.hid hrr
  clear hh hrs hrp hrr hI hT hc hs ht hls hlp hl hnr hcr hb hb0 hq hL hqi hli
  go_enter Tryz.func47, Tryz.ntmps47
  go_wp2_with fail
  refine (HH.out _ ((((HRS.out.alloc (Nat.le_refl _) _).more (by simp)).alloc (Nat.le_refl _) _).more (by simp)) ((((HRP.out.alloc (Nat.le_refl _) _).more (by simp)).alloc (Nat.le_refl _) _).more (by simp)) ((((HRR.out.alloc (Nat.le_refl _) _).more (by simp)).alloc (Nat.le_refl _) _).more (by simp))).mono ?_
  rintro e1 w1 ⟨A1, n1, c1, cc1, rfl, hl1, hcc1, ho1, hb1⟩
  have HL1 := Lib.hid hl1; have HC1 := Lib.hid hcc1; have HO1 := Lib.hid (ho1.mono (show w.heap.size ≤ _ by simp; omega)); have HB1 := Lib.hid (bcall (bal (bal (b0 w) _) _) hb1); clear hl1 hcc1 ho1 hb1
  go_wp2_with fail
  exact bodyPost_ret (results_tmp rfl _ _ _) rfl ⟨A1, n1, c1, cc1, rfl, HL1.out, HC1.out, HO1.out, HB1.out⟩
def totN (k len : Int) : Nat := (xTotal k len).toNat
def codN (k len : Int) : Nat := (xCode k len).toNat
def pieceS (k len : Int) (s t : Sl) (ls lp root : List UInt8) (I : Nat) : List UInt8 × Int :=
  if xValid k len 0 s t ≠ 0 then ([], xValid k len 0 s t) else
  if root.length ≠ bOf (decide (k = 1)) ∨ totN k len ≤ I * bOf (decide (k = 1)) then ([], 1) else
  ((hashL (decide (k = 1)) (pceP (bOf (decide (k = 1))) (totN k len) I (codN k len) s t) ls lp [] false root).take (pceM (bOf (decide (k = 1))) (totN k len) I), 0)
theorem xnums {k len : Int} (h : xOK k len) : ∃ big, k = kOf big ∧ decide (k = 1) = big ∧ xTotal k len = totN k len ∧ xCode k len = codN k len ∧ (1 ≤ totN k len ∧ totN k len ≤ bOf big * 4294967296) ∧ (1 ≤ codN k len ∧ codN k len ≤ codeMax big) := by
 rcases h with ⟨h | h, h2⟩
 ·subst h
  refine ⟨true, rfl, rfl, ?_⟩
  unfold totN codN xTotal xCode
  have e : mostOf 1 = 64 := rfl
  have e2 : xMost 1 = 4294967294 := rfl
  have e3 : bOf true = 64 := rfl
  have e4 : codeMax true = 4294967295 := rfl
  rw [e, e2, e3, e4]
  rw [e2] at h2
  split
  ·decide
  ·rename_i h3
   have := h2.resolve_left h3
   omega
 ·subst h
  refine ⟨false, rfl, rfl, ?_⟩
  unfold totN codN xTotal xCode
  have e : mostOf 2 = 32 := rfl
  have e2 : xMost 2 = 65534 := rfl
  have e3 : bOf false = 32 := rfl
  have e4 : codeMax false = 65535 := rfl
  rw [e, e2, e3, e4]
  rw [e2] at h2
  split
  ·decide
  ·rename_i h3
   have := h2.resolve_left h3
   omega
theorem xsalts {big : Bool} {len : Int} {nk : Nat} {s t : Sl} (h : xValid (kOf big) len nk s t = 0) : 4 * s.n ≤ bOf big ∧ 4 * t.n ≤ bOf big := by
 have ho := xOK_of h
 by_cases h2 : mostOf (kOf big) < nk
 ·rw [xValid_key ho h2] at h; exact absurd h (by decide)
 ·rw [xValid_chk ho h2] at h
  exact (chk_range h).2.2.2.2.2.2
theorem pieces_lt {f T I : Nat} (hf : 1 ≤ f) (hT : 1 ≤ T) : (T + f - 1) / f ≤ I ↔ T ≤ I * f := by
 rw [Nat.div_le_iff_le_mul_add_pred hf, Nat.mul_comm f I]
 omega
theorem pieceS_bad {k len : Int} {s t : Sl} {ls lp root : List UInt8} {I : Nat} (h : xValid k len 0 s t ≠ 0) : pieceS k len s t ls lp root I = ([], xValid k len 0 s t) := by unfold pieceS; rw [if_pos h]
theorem pieceS_arg {big : Bool} {len : Int} {s t : Sl} {ls lp root : List UInt8} {I : Nat} (h : xValid (kOf big) len 0 s t = 0) (h2 : root.length ≠ bOf big ∨ totN (kOf big) len ≤ I * bOf big) : pieceS (kOf big) len s t ls lp root I = ([], 1) := by
 unfold pieceS; rw [if_neg (fun h3 => h3 h), kOf_is, if_pos h2]
theorem pieceS_ok {big : Bool} {len : Int} {s t : Sl} {ls lp root : List UInt8} {I : Nat} (h : xValid (kOf big) len 0 s t = 0) (h2 : ¬ (root.length ≠ bOf big ∨ totN (kOf big) len ≤ I * bOf big)) :
  pieceS (kOf big) len s t ls lp root I = ((hashL big (pceP (bOf big) (totN (kOf big) len) I (codN (kOf big) len) s t) ls lp [] false root).take (pceM (bOf big) (totN (kOf big) len) I), 0) := by
 unfold pieceS; rw [if_neg (fun h3 => h3 h), kOf_is, if_neg h2]
end Go.Proofs.YtmapfcdffklopaaGreat

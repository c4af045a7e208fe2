/-
  Pieces of both. Contracts alone; no statement is claimed here.
-/
import Derived.Test.YtgephdbicbmpeaaGreatXRoot
namespace Go.Proofs.YtgephdbicbmpeaaGreat
open Go.RowKit
attribute [local go_sem] pureUpon Ords.of

/-- how long the I-th piece is; its parameters -/
def pceM (f T I : Nat) : Nat := min (T - I * f) f
def pceP (f T I c : Nat) (s t : Sl) : Pr := ⟨pceM f T I, 0, 0, 0, f, I, c, 0, f, s, t⟩
def codeMax (big : Bool) : Nat := if big then 4294967295 else 65535
theorem pce_chk {big : Bool} {T I c : Nat} {s t : Sl} (hI : I * bOf big < T) (hT : T ≤ bOf big * 4294967296) (hc : 1 ≤ c ∧ c ≤ codeMax big) (hs : 4 * s.n ≤ bOf big) (ht : 4 * t.n ≤ bOf big) : chk (kOf big) (pceP (bOf big) T I c s t) = 0 := by
  have hI2 : I < 4294967296 := by
    have h : bOf big * I < bOf big * 4294967296 := by rw [Nat.mul_comm (bOf big) I]; omega
    exact Nat.lt_of_mul_lt_mul_left h
  have hm : 1 ≤ pceM (bOf big) T I ∧ pceM (bOf big) T I ≤ bOf big := by
    have : 1 ≤ bOf big := by cases big <;> decide
    unfold pceM; omega
  have hk : kOf big = 2 → codeMax big ≤ 65535 := by cases big <;> decide
  have e0 : 1 ≤ bOf big := by cases big <;> decide
  unfold chk pceP
  rw [mostOf_k]
  dsimp only
  generalize pceM (bOf big) T I = m at *
  rw [if_neg (by omega), if_neg (by omega), if_neg (by omega), if_neg (by omega), if_neg (by omega), if_neg (by omega), if_neg (by intro h; have := hk h.1; omega), if_neg (by omega), if_neg (by omega), if_neg (by omega), if_neg (by omega)]
theorem pce_hash {big : Bool} {T I c : Nat} {s t : Sl} (ls lp root : List UInt8) (hI : I * bOf big < T) (hT : T ≤ bOf big * 4294967296) (hc : 1 ≤ c ∧ c ≤ codeMax big) (hs : 4 * s.n ≤ bOf big) (ht : 4 * t.n ≤ bOf big) :
    hashS (kOf big) (pceP (bOf big) T I c s t) ls lp [] false (pceM (bOf big) T I) root = ((hashL big (pceP (bOf big) T I c s t) ls lp [] false root).take (pceM (bOf big) T I), 0) := by
  have hm : 1 ≤ pceM (bOf big) T I ∧ pceM (bOf big) T I ≤ bOf big := by
    have : 1 ≤ bOf big := by cases big <;> decide
    unfold pceM; omega
  unfold hashS
  rw [if_neg (fun h => h (pce_chk hI hT hc hs ht)), if_neg (fun h => h.1 rfl), if_neg (by rw [mostOf_k]; omega), kOf_is, Int.toNat_natCast]
theorem pce_fit {big : Bool} {T I c : Nat} {s t : Sl} (hI : I * bOf big < T) (hT : T ≤ bOf big * 4294967296) (hc : 1 ≤ c ∧ c ≤ codeMax big) : (pceP (bOf big) T I c s t).Fit := by
  have hI2 : I < 4294967296 := by
    have h : bOf big * I < bOf big * 4294967296 := by rw [Nat.mul_comm (bOf big) I]; omega
    exact Nat.lt_of_mul_lt_mul_left h
  have hb : bOf big ≤ 64 := (bOf_le big).2
  have hk : codeMax big ≤ 4294967295 := by cases big <;> decide
  unfold pceP
  exact ⟨⟨by dsimp only; omega, by dsimp only; omega⟩, ⟨by dsimp only; omega, by dsimp only; omega⟩, ⟨by dsimp only; omega, by dsimp only; omega⟩⟩
theorem pce_len {big : Bool} {T I c : Nat} {s t : Sl} (ls lp root : List UInt8) : ((hashL big (pceP (bOf big) T I c s t) ls lp [] false root).take (pceM (bOf big) T I)).length ≤ 64 := by
  rw [List.length_take]
  have : pceM (bOf big) T I ≤ bOf big := by unfold pceM; omega
  have := bOf_le big
  omega
set_option maxRecDepth 20000 in
set_option maxHeartbeats 2000000 in
theorem xpiece_any (big : Bool) (T I c : Nat) (kn : Bool) (s t : Sl) (ls lp root : List UInt8) (Ar : Option Addr) (nr cr : Nat) (w : World) (hI : I * bOf big < T) (hT : T ≤ bOf big * 4294967296) (hc : 1 ≤ c ∧ c ≤ codeMax big) (hs : 4 * s.n ≤ bOf big) (ht : 4 * t.n ≤ bOf big)
    (hls : ls.length = s.n) (hlp : lp.length = t.n) (hrs : RS cB w w.heap.size s.A ls) (hrp : RS cB w w.heap.size t.A lp) (hl : root.length = nr) (hnr : nr ≤ cr) (hcr : cr ≤ 9223372036854775807) (hrr : RS cB w w.heap.size Ar root) :
    Calls Tryz.prog 106 #[.agg #[.int .i64 (kOf big), .int .i64 (bOf big), .int .u32 c, .int .u64 T, .bool kn], s.v, t.v, .slice Ar nr cr, .int .u64 I] w fun r w' => ∃ A n c' cc, r = .returned (.slice A n cc) ∧ ((hashL big (pceP (bOf big) T I c s t) ls lp [] false root).take (pceM (bOf big) T I)).length = n ∧ n ≤ cc ∧ OS cB w' w.heap.size A c' ((hashL big (pceP (bOf big) T I c s t) ls lp [] false root).take (pceM (bOf big) T I)) ∧ Below w.heap.size w w' := by
  have hh := fun W hrs hrp hrr => hashS_any (kOf big) false (pceM (bOf big) T I) (pceP (bOf big) T I c s t) ls lp [] root none Ar 0 0 nr cr W (pce_fit hI hT hc) hls hlp hrs hrp rfl (RS.nil _) hl hnr hcr hrr
  rw [pce_hash ls lp root hI hT hc hs ht] at hh
  have hb := (bOf_le big).2
  have hb0 : 1 ≤ bOf big := by cases big <;> decide
  dsimp only at hh
  generalize (hashL big (pceP (bOf big) T I c s t) ls lp [] false root).take (pceM (bOf big) T I) = OUT at *
  unfold pceP at hh
  unfold pceM at hh
  unfold Pr.v Pr.cs Sl.v at *
  dsimp only at hh
  generalize bOf big = f at *
  generalize kOf big = k at *
  obtain ⟨q, hq⟩ : ∃ q, q = I * f := ⟨_, rfl⟩
  obtain ⟨L, hL⟩ : ∃ L, L = T - q := ⟨_, rfl⟩
  rw [← hq] at hI
  rw [← hq, ← hL] at hh
  have hqi : (I : Int) * (f : Int) = (q : Int) := by rw [hq]; simp
  have hli : (T : Int) - (q : Int) = (L : Int) := by omega
  have w1 : IntKind.u32.wrap (f : Int) = f := by rw [wrap_u32w]; omega
  have w2 : IntKind.u64.wrap (f : Int) = f := by rw [wrap_u64]; omega
  have w3 : IntKind.u64.wrap ((I : Int) * (f : Int)) = q := by rw [hqi, wrap_u64]; omega
  have w4 : IntKind.u64.wrap ((T : Int) - (q : Int)) = L := by rw [hli, wrap_u64]; omega
  have w5 : IntKind.i64.wrap (L : Int) = L := by simp [IntKind.wrap, IntKind.bits, IntKind.signed]; omega
  by_cases hlt : L < f
  · rw [Nat.min_eq_left (Nat.le_of_lt hlt)] at hh
    have t1 : (L < f) = True := by simp [hlt]
    have HH := Lib.hid hh; have HRS := Lib.hid hrs; have HRP := Lib.hid hrp; have HRR := Lib.hid hrr
    clear hh hrs hrp hrr hI hT hc hs ht hls hlp hl hnr hcr hb hb0 hq hL hqi hli
    go_enter Tryz.func106, Tryz.ntmps106
    go_wp2_with fail
    refine (HH.out _ ((((HRS.out.alloc (Nat.le_refl _) _).more (by simp)).alloc (Nat.le_refl _) _).more (by simp)) ((((HRP.out.alloc (Nat.le_refl _) _).more (by simp)).alloc (Nat.le_refl _) _).more (by simp)) ((((HRR.out.alloc (Nat.le_refl _) _).more (by simp)).alloc (Nat.le_refl _) _).more (by simp))).mono ?_
    rintro e1 w1 ⟨A1, n1, c1, cc1, rfl, hl1, hcc1, ho1, hb1⟩
    have HL1 := Lib.hid hl1; have HC1 := Lib.hid hcc1; have HO1 := Lib.hid (ho1.mono (show w.heap.size ≤ _ by simp; omega)); have HB1 := Lib.hid (bcall (bal (bal (b0 w) _) _) hb1); clear hl1 hcc1 ho1 hb1
    go_wp2_with fail
    exact bodyPost_ret (results_tmp rfl _ _ _) rfl ⟨A1, n1, c1, cc1, rfl, HL1.out, HC1.out, HO1.out, HB1.out⟩
  · rw [Nat.min_eq_right (by omega)] at hh
    have t1 : (L < f) = False := by simp [hlt]
    have HH := Lib.hid hh; have HRS := Lib.hid hrs; have HRP := Lib.hid hrp; have HRR := Lib.hid hrr
    clear hh hrs hrp hrr hI hT hc hs ht hls hlp hl hnr hcr hb hb0 hq hL hqi hli
    go_enter Tryz.func106, Tryz.ntmps106
    go_wp2_with fail
    refine (HH.out _ ((((HRS.out.alloc (Nat.le_refl _) _).more (by simp)).alloc (Nat.le_refl _) _).more (by simp)) ((((HRP.out.alloc (Nat.le_refl _) _).more (by simp)).alloc (Nat.le_refl _) _).more (by simp)) ((((HRR.out.alloc (Nat.le_refl _) _).more (by simp)).alloc (Nat.le_refl _) _).more (by simp))).mono ?_
    rintro e1 w1 ⟨A1, n1, c1, cc1, rfl, hl1, hcc1, ho1, hb1⟩
    have HL1 := Lib.hid hl1; have HC1 := Lib.hid hcc1; have HO1 := Lib.hid (ho1.mono (show w.heap.size ≤ _ by simp; omega)); have HB1 := Lib.hid (bcall (bal (bal (b0 w) _) _) hb1); clear hl1 hcc1 ho1 hb1
    go_wp2_with fail
    exact bodyPost_ret (results_tmp rfl _ _ _) rfl ⟨A1, n1, c1, cc1, rfl, HL1.out, HC1.out, HO1.out, HB1.out⟩
theorem xpieces_any (f T : Nat) (k c : Int) (kn : Bool) (w : World) (hf : 1 ≤ f ∧ f ≤ 64) (hT : T ≤ 9223372036854775807) :
    Calls Tryz.prog 105 #[.agg #[.int .i64 k, .int .i64 f, .int .u32 c, .int .u64 T, .bool kn]] w fun r w' => r = .returned (.int .u64 ((T + f - 1) / f : Nat)) ∧ Below w.heap.size w w' := by
  have w2 : IntKind.u64.wrap (f : Int) = f := by rw [wrap_u64]; omega
  have w3 : IntKind.u64.wrap ((T : Int) + (f : Int)) = ((T + f : Nat) : Int) := by rw [wrap_u64]; omega
  have w4 : IntKind.u64.wrap (((T + f : Nat) : Int) - 1) = ((T + f - 1 : Nat) : Int) := by rw [wrap_u64]; omega
  obtain ⟨g, hg⟩ : ∃ g, g = T + f := ⟨_, rfl⟩
  obtain ⟨h, hh⟩ : ∃ h, h = g - 1 := ⟨_, rfl⟩
  rw [← hg] at w3 w4 ⊢
  rw [← hh] at w4 ⊢
  have t1 : ((f : Int) == 0) = false := by simp; omega
  have t2 : (f = 0) = False := by simp; omega
  have w6 : IntKind.u64.wrap ((h : Int) / (f : Int)) = ((h / f : Nat) : Int) := by
    rw [wrap_u64, ← Int.natCast_ediv]
    have := Nat.div_le_self h f
    obtain ⟨z, hz⟩ : ∃ z, h / f = z := ⟨_, rfl⟩
    rw [hz] at this ⊢
    omega
  clear hg hh hf hT
  go_enter Tryz.func105, Tryz.ntmps105
  go_wp2_with fail
  exact bodyPost_ret (results_tmp rfl _ _ _) rfl ⟨rfl, bal (b0 w) _⟩
/-- what Piece tells: the bytes, the error -/
def totN (k len : Int) : Nat := (xTotal k len).toNat
def codN (k len : Int) : Nat := (xCode k len).toNat
def pieceS (k len : Int) (s t : Sl) (ls lp root : List UInt8) (I : Nat) : List UInt8 × Int :=
  if xValid k len 0 s t ≠ 0 then ([], xValid k len 0 s t) else
  if root.length ≠ bOf (decide (k = 1)) ∨ totN k len ≤ I * bOf (decide (k = 1)) then ([], 1) else
  ((hashL (decide (k = 1)) (pceP (bOf (decide (k = 1))) (totN k len) I (codN k len) s t) ls lp [] false root).take (pceM (bOf (decide (k = 1))) (totN k len) I), 0)
/-- the numbers of a shape that may be -/
theorem xnums {k len : Int} (h : xOK k len) : ∃ big, k = kOf big ∧ decide (k = 1) = big ∧ xTotal k len = totN k len ∧ xCode k len = codN k len ∧ (1 ≤ totN k len ∧ totN k len ≤ bOf big * 4294967296) ∧ (1 ≤ codN k len ∧ codN k len ≤ codeMax big) := by
  rcases h with ⟨h | h, h2⟩
  · subst h
    refine ⟨true, rfl, rfl, ?_⟩
    unfold totN codN xTotal xCode
    have e : mostOf 1 = 64 := rfl
    have e2 : xMost 1 = 4294967294 := rfl
    have e3 : bOf true = 64 := rfl
    have e4 : codeMax true = 4294967295 := rfl
    rw [e, e2, e3, e4]
    rw [e2] at h2
    split
    · decide
    · rename_i h3
      have := h2.resolve_left h3
      omega
  · subst h
    refine ⟨false, rfl, rfl, ?_⟩
    unfold totN codN xTotal xCode
    have e : mostOf 2 = 32 := rfl
    have e2 : xMost 2 = 65534 := rfl
    have e3 : bOf false = 32 := rfl
    have e4 : codeMax false = 65535 := rfl
    rw [e, e2, e3, e4]
    rw [e2] at h2
    split
    · decide
    · rename_i h3
      have := h2.resolve_left h3
      omega
theorem xsalts {big : Bool} {len : Int} {nk : Nat} {s t : Sl} (h : xValid (kOf big) len nk s t = 0) : 4 * s.n ≤ bOf big ∧ 4 * t.n ≤ bOf big := by
  have ho := xOK_of h
  by_cases h2 : mostOf (kOf big) < nk
  · rw [xValid_key ho h2] at h; exact absurd h (by decide)
  · rw [xValid_chk ho h2] at h
    exact (chk_range h).2.2.2.2.2.2
theorem pieces_lt {f T I : Nat} (hf : 1 ≤ f) (hT : 1 ≤ T) : (T + f - 1) / f ≤ I ↔ T ≤ I * f := by
  rw [Nat.div_le_iff_le_mul_add_pred hf, Nat.mul_comm f I]
  omega
theorem pieceS_bad {k len : Int} {s t : Sl} {ls lp root : List UInt8} {I : Nat} (h : xValid k len 0 s t ≠ 0) : pieceS k len s t ls lp root I = ([], xValid k len 0 s t) := by unfold pieceS; rw [if_pos h]
theorem pieceS_arg {big : Bool} {len : Int} {s t : Sl} {ls lp root : List UInt8} {I : Nat} (h : xValid (kOf big) len 0 s t = 0) (h2 : root.length ≠ bOf big ∨ totN (kOf big) len ≤ I * bOf big) : pieceS (kOf big) len s t ls lp root I = ([], 1) := by
  unfold pieceS; rw [if_neg (fun h3 => h3 h), kOf_is, if_pos h2]
theorem pieceS_ok {big : Bool} {len : Int} {s t : Sl} {ls lp root : List UInt8} {I : Nat} (h : xValid (kOf big) len 0 s t = 0) (h2 : ¬ (root.length ≠ bOf big ∨ totN (kOf big) len ≤ I * bOf big)) :
    pieceS (kOf big) len s t ls lp root I = ((hashL big (pceP (bOf big) (totN (kOf big) len) I (codN (kOf big) len) s t) ls lp [] false root).take (pceM (bOf big) (totN (kOf big) len) I), 0) := by
  unfold pieceS; rw [if_neg (fun h3 => h3 h), kOf_is, if_neg h2]
set_option maxRecDepth 20000 in
set_option maxHeartbeats 4000000 in
theorem xPiece_any (k len : Int) (ls lp root : List UInt8) (Ar : Option Addr) (nr cr : Nat) (I : Nat) (s p : Sl) (w : World) (hls : ls.length = s.n) (hlp : lp.length = p.n) (hrs : RS cB w w.heap.size s.A ls) (hrp : RS cB w w.heap.size p.A lp)
    (hl : root.length = nr) (hnr : nr ≤ cr) (hcr : cr ≤ 9223372036854775807) (hrr : RS cB w w.heap.size Ar root) :
    Calls Tryz.prog 43 #[.int .i64 k, .int .i64 len, s.v, p.v, .slice Ar nr cr, .int .u64 I] w fun r w' => ∃ A n c cc, r = .returned (.tuple #[.slice A n cc, .int .i64 (pieceS k len s p ls lp root I).2]) ∧ (pieceS k len s p ls lp root I).1.length = n ∧ n ≤ cc ∧ OS cB w' w.heap.size A c (pieceS k len s p ls lp root I).1 ∧ Below w.heap.size w w' := by
  have hva := fun W => xvalid_any k len none 0 0 s p W
  unfold shCells at hva
  by_cases hv : xValid k len 0 s p = 0
  · have ho := xOK_of hv
    obtain ⟨big, hbk, -, hT, hC, hT2, hC2⟩ := xnums ho
    subst hbk
    obtain ⟨hs4, ht4⟩ := xsalts hv
    rw [hv] at hva
    have hb := (bOf_le big).2
    have hb0 : 1 ≤ bOf big := by cases big <;> decide
    have hpc := fun kn W => xpieces_any (bOf big) (totN (kOf big) len) (kOf big) (codN (kOf big) len) kn W ⟨hb0, hb⟩ (by omega)
    rw [mostOf_k] at hva
    rw [hT, hC] at hva
    by_cases hr : root.length ≠ bOf big
    · rw [pieceS_arg hv (.inl hr)]
      have t1 : ((nr : Int) != (bOf big : Int)) = true := by simp; omega
      have t2 : (nr = bOf big) = False := by simp; omega
      generalize totN (kOf big) len = T at *
      generalize codN (kOf big) len = C at *
      generalize bOf big = f at *
      generalize kOf big = k at *
      have HVA := Lib.hid hva
      clear hva hpc hv ho hT hC hT2 hC2 hs4 ht4 hb hb0 hr hrr hrs hrp hls hlp hl
      unfold Sl.v at *
      go_enter Tryz.func43, Tryz.ntmps43
      go_wp2_with fail
      refine (HVA.out _).mono ?_
      rintro e1 w1 ⟨c, tt, kn, rfl, hcs, hb1⟩
      obtain ⟨rfl, rfl, hkn⟩ := hcs (by trivial)
      clear hkn hcs
      have HB1 := Lib.hid hb1; clear hb1
      go_wp2_with fail
      exact bodyPost_ret (results_tmp2 rfl _ _ _) rfl ⟨none, 0, 0, 0, rfl, rfl, Nat.le_refl _, OS.nil _ _ _ rfl, bal HB1.out _⟩
    · have hr2 : root.length = bOf big := Decidable.not_not.1 hr
      have t1 : ((nr : Int) != (bOf big : Int)) = false := by simp; omega
      have t2 : (nr = bOf big) = True := by simp; omega
      have hlt := pieces_lt (I := I) hb0 hT2.1
      by_cases hi : totN (kOf big) len ≤ I * bOf big
      · rw [pieceS_arg hv (.inr hi)]
        rw [← hlt] at hi
        generalize totN (kOf big) len = T at *
        generalize codN (kOf big) len = C at *
        generalize bOf big = f at *
        generalize kOf big = k at *
        generalize (T + f - 1) / f = N at *
        have t3 : (N ≤ I) = True := by simp [hi]
        have t4 : (I < N) = False := by simp; omega
        have HVA := Lib.hid hva; have HPC := Lib.hid hpc
        clear hva hpc hv ho hT hC hT2 hC2 hs4 ht4 hb hb0 hr hrr hrs hrp hls hlp hl hlt hr2
        unfold Sl.v at *
        go_enter Tryz.func43, Tryz.ntmps43
        go_wp2_with fail
        refine (HVA.out _).mono ?_
        rintro e1 w1 ⟨c, tt, kn, rfl, hcs, hb1⟩
        obtain ⟨rfl, rfl, hkn⟩ := hcs (by trivial)
        clear hkn hcs
        have HB1 := Lib.hid (bal hb1 (.cells #[.int .i64 k, .int .i64 f, .int .u32 C, .int .u64 T, .bool kn] 159)); clear hb1
        go_wp2_with (go_at_call 105; refine (HPC.out kn _).mono ?_; rintro e3 w3 ⟨rfl, hb3⟩; have HB3 := Lib.hid (bcall HB1.out hb3); clear hb3)
        exact bodyPost_ret (results_tmp2 rfl _ _ _) rfl ⟨none, 0, 0, 0, rfl, rfl, Nat.le_refl _, OS.nil _ _ _ rfl, HB3.out⟩
      · rw [pieceS_ok hv (fun h => h.elim (fun h2 => h2 hr2) hi)]
        have hpi := fun kn W hrs hrp hrr => xpiece_any big (totN (kOf big) len) I (codN (kOf big) len) kn s p ls lp root Ar nr cr W (Nat.lt_of_not_le hi) hT2.2 hC2 hs4 ht4 hls hlp hrs hrp hl hnr hcr hrr
        rw [← hlt] at hi
        dsimp only
        generalize (hashL big (pceP (bOf big) (totN (kOf big) len) I (codN (kOf big) len) s p) ls lp [] false root).take (pceM (bOf big) (totN (kOf big) len) I) = OUT at *
        generalize totN (kOf big) len = T at *
        generalize codN (kOf big) len = C at *
        generalize bOf big = f at *
        generalize kOf big = k at *
        generalize (T + f - 1) / f = N at *
        have t3 : (N ≤ I) = False := by simp [hi]
        have t4 : (I < N) = True := by simp; omega
        have HVA := Lib.hid hva; have HPC := Lib.hid hpc; have HPI := Lib.hid hpi; have HRS := Lib.hid hrs; have HRP := Lib.hid hrp; have HRR := Lib.hid hrr
        clear hva hpc hpi hv ho hT hC hT2 hC2 hs4 ht4 hb hb0 hr hrr hrs hrp hls hlp hl hlt hr2
        unfold Sl.v at *
        go_enter Tryz.func43, Tryz.ntmps43
        go_wp2_with fail
        refine (HVA.out _).mono ?_
        rintro e1 w1 ⟨c, tt, kn, rfl, hcs, hb1⟩
        obtain ⟨rfl, rfl, hkn⟩ := hcs (by trivial)
        clear hkn hcs
        have HB1 := Lib.hid (bal hb1 (.cells #[.int .i64 k, .int .i64 f, .int .u32 C, .int .u64 T, .bool kn] 159))
        have HN := Lib.hid (Blk.new w1 159 #[.int .i64 k, .int .i64 f, .int .u32 C, .int .u64 T, .bool kn]); clear hb1
        go_upto_region 4 with fail
        obtain ⟨g, hg⟩ : ∃ g, g = w1.heap.size := ⟨_, rfl⟩
        have hn := HN.out; have hB1 := HB1.out
        rw [← hg] at hn ⊢
        clear HN HB1 hg
        generalize w1.alloc _ = w2 at *
        have d0 : w2.cell? ⟨g, 0, none⟩ = some (.int .i64 k) := hn.cell 0
        have d1 : w2.cell? ⟨g, 1, none⟩ = some (.int .i64 f) := hn.cell 1
        have d2 : w2.cell? ⟨g, 2, none⟩ = some (.int .u32 C) := hn.cell 2
        have d3 : w2.cell? ⟨g, 3, none⟩ = some (.int .u64 T) := hn.cell 3
        have d4 : w2.cell? ⟨g, 4, none⟩ = some (.bool kn) := hn.cell 4
        have HN := Lib.hid hn; have HB := Lib.hid hB1; clear hn hB1
        go_wp2_with fail
        refine (HPC.out kn _).mono ?_
        rintro e3 w3 ⟨rfl, hb3⟩
        have hn := HN.out.below hb3 HN.out.lt
        have HB3 := Lib.hid (bcall HB.out hb3); clear hb3 d0 d1 d2 d3 d4
        have d0 : w3.cell? ⟨g, 0, none⟩ = some (.int .i64 k) := hn.cell 0
        have d1 : w3.cell? ⟨g, 1, none⟩ = some (.int .i64 f) := hn.cell 1
        have d2 : w3.cell? ⟨g, 2, none⟩ = some (.int .u32 C) := hn.cell 2
        have d3 : w3.cell? ⟨g, 3, none⟩ = some (.int .u64 T) := hn.cell 3
        have d4 : w3.cell? ⟨g, 4, none⟩ = some (.bool kn) := hn.cell 4
        clear hn
        go_wp2_with (go_at_call 106; refine (HPI.out kn _ ((HRS.out.below HB3.out).more HB3.out.size) ((HRP.out.below HB3.out).more HB3.out.size) ((HRR.out.below HB3.out).more HB3.out.size)).mono ?_; rintro e4 w4 ⟨A4, n4, c4, cc4, rfl, hl4, hcc4, ho4, hb4⟩; have HL4 := Lib.hid hl4; have HC4 := Lib.hid hcc4; have HO4 := Lib.hid (ho4.mono (show w.heap.size ≤ _ from HB3.out.size)); have HB4 := Lib.hid (bcall HB3.out hb4); clear hl4 hcc4 ho4 hb4)
        exact bodyPost_ret (results_tmp2 rfl _ _ _) rfl ⟨A4, n4, c4, cc4, rfl, HL4.out, HC4.out, HO4.out, HB4.out⟩
  · rw [pieceS_bad hv]
    have t1 : (xValid k len 0 s p != 0) = true := by simpa using hv
    have t2 : (xValid k len 0 s p == 0) = false := by simpa using hv
    obtain ⟨x, hx⟩ : ∃ x, x = xValid k len 0 s p := ⟨_, rfl⟩
    rw [← hx] at t1 t2
    simp only [← hx] at hva ⊢
    have HVA := Lib.hid hva
    clear hva hv hx hrs hrp hrr hls hlp hl
    generalize mostOf k = f at *
    unfold Sl.v at *
    go_enter Tryz.func43, Tryz.ntmps43
    go_wp2_with fail
    refine (HVA.out _).mono ?_
    rintro e1 w1 ⟨c, tt, kn, rfl, hcs, hb1⟩
    have HB1 := Lib.hid hb1; clear hb1 hcs
    go_wp2_with fail
    exact bodyPost_ret (results_tmp2 rfl _ _ _) rfl ⟨none, 0, 0, 0, rfl, rfl, Nat.le_refl _, OS.nil _ _ _ rfl, bal HB1.out _⟩
end Go.Proofs.YtgephdbicbmpeaaGreat

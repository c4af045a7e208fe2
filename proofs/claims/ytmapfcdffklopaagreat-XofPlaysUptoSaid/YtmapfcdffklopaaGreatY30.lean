/-
  Y30: contracts and lemmas alone; no statement is claimed here.
-/
import Derived.Test.YtmapfcdffklopaaGreatY28
import Derived.Test.YtmapfcdffklopaaGreatY27
import Derived.Test.YtmapfcdffklopaaGreatY20
namespace Go.Proofs.YtmapfcdffklopaaGreat
open Go.RowKit
attribute [local go_sem] pureUpon Ords.of

theorem refTotal_any (k len : Int) (h : xOK k len) (w : World) : Calls Tryz.prog 30 #[.int .i64 k, .int .i64 len] w fun e w' => e = .returned (.int .u64 (totN k len)) ∧ w = w' := by
 obtain ⟨big, hbk, -, hT, -, hT2, -⟩ := xnums h
 have hb := (bOf_le big).2
 by_cases h0 : len = -1
 ·subst h0
  rw [← hT]
  clear hT hT2 hb h
  subst hbk
  have hf := fun W => refXfull_any big W
  have HF := Lib.hid hf; clear hf
  cases big
  ·change Calls _ _ #[.int .i64 2, _] w fun e w' => e = .returned (.int .u64 137438953472) ∧ _
   change Hid (∀ W, Calls _ _ #[.int .i64 2] W fun e w' => e = .returned (.int .i64 32) ∧ _) at HF
   go_enter Tryz.func30, Tryz.ntmps30
   go_wp2_with (go_at_call 41; refine (HF.out _).mono ?_; rintro e1 w1 ⟨rfl, rfl⟩)
   exact bodyPost_ret (results_tmp rfl _ _ _) rfl ⟨rfl, rfl⟩
  ·change Calls _ _ #[.int .i64 1, _] w fun e w' => e = .returned (.int .u64 274877906944) ∧ _
   change Hid (∀ W, Calls _ _ #[.int .i64 1] W fun e w' => e = .returned (.int .i64 64) ∧ _) at HF
   go_enter Tryz.func30, Tryz.ntmps30
   go_wp2_with (go_at_call 41; refine (HF.out _).mono ?_; rintro e1 w1 ⟨rfl, rfl⟩)
   exact bodyPost_ret (results_tmp rfl _ _ _) rfl ⟨rfl, rfl⟩
 ·have e : xTotal k len = len := by unfold xTotal; rw [if_neg h0]
  rw [← hT]
  rw [e] at hT ⊢
  have t1 : (len == -1) = false := by simpa using h0
  have t2 : (len != -1) = true := by simpa using h0
  have hw : IntKind.u64.wrap len = len := by rw [wrap_u64]; omega
  clear e h hT hT2 h0 hb hbk
  go_enter Tryz.func30, Tryz.ntmps30
  go_wp2_with fail
  exact bodyPost_ret (results_tmp rfl _ _ _) rfl ⟨rfl, rfl⟩
set_option maxRecDepth 20000 in
set_option maxHeartbeats 4000000 in
theorem refPiece_any (k len : Int) (ls lp root : List UInt8) (Ar : Option Addr) (nr cr : Nat) (I : Nat) (s p : Sl) (w : World) (hls : ls.length = s.n) (hlp : lp.length = p.n) (hrs : RS cB w w.heap.size s.A ls) (hrp : RS cB w w.heap.size p.A lp)
  (hl : root.length = nr) (hrr : RS cB w w.heap.size Ar root) :
  Calls Tryz.prog 69 #[.int .i64 k, .int .i64 len, s.v, p.v, .slice Ar nr cr, .int .u64 I] w fun r w' => ∃ A n c cc, r = .returned (.tuple #[.slice A n cc, .int .i64 (pieceS k len s p ls lp root I).2]) ∧ (pieceS k len s p ls lp root I).1.length = n ∧ n ≤ cc ∧ OS cB w' w.heap.size A c (pieceS k len s p ls lp root I).1 ∧ Below w.heap.size w w' := by
 have hva := fun W => refValid_any k len none 0 0 s p W
 by_cases hv : xValid k len 0 s p = 0
 ·have ho := xOK_of hv
  have hto := fun W => refTotal_any k len ho W
  have hco := fun W => refXcode_any k len ho W
  obtain ⟨big, hbk, -, hT, hC, hT2, hC2⟩ := xnums ho
  subst hbk
  obtain ⟨hs4, ht4⟩ := xsalts hv
  have hfu := fun W => refXfull_any big W
  rw [hv] at hva
  have hb := (bOf_le big).2
  have hb0 : 1 ≤ bOf big := by cases big <;> decide
  rw [mostOf_k] at hfu
  rw [hC] at hco
  have wf : IntKind.u64.wrap ((bOf big : Nat) : Int) = (bOf big : Nat) := by rw [wrap_u64]; omega
  by_cases hr : root.length ≠ bOf big
  ·rw [pieceS_arg hv (.inl hr)]
   have t1 : ((nr : Int) != (bOf big : Int)) = true := by simp; omega
   have t2 : (nr = bOf big) = False := by simp; omega
   generalize totN (kOf big) len = T at *
   generalize codN (kOf big) len = C at *
   generalize bOf big = f at *
   generalize kOf big = k at *
   have HVA := Lib.hid hva; have HFU := Lib.hid hfu; have HTO := Lib.hid hto
   clear hva hfu hto hco hv ho hT hC hT2 hC2 hs4 ht4 hb hb0 hr hrr hrs hrp hls hlp hl
   unfold Sl.v at *
   go_enter Tryz.func69, Tryz.ntmps69
   go_wp2_with (first
    | (go_at_call 19; refine (HVA.out _).mono ?_; rintro e1 w1 ⟨rfl, hb1⟩; have HB1 := Lib.hid hb1; clear hb1)
    | (go_at_call 41; refine (HFU.out _).mono ?_; rintro e2 w2 ⟨rfl, rfl⟩)
    | (go_at_call 30; refine (HTO.out _).mono ?_; rintro e3 w3 ⟨rfl, rfl⟩)
    | (go_at_call 63; refine (HCO.out _).mono ?_; rintro e4 w4 ⟨rfl, rfl⟩)
    | (go_at_call 34; refine (HH.out _ ((((HRS.out.below HB1.out).more HB1.out.size).alloc (Nat.le_refl _) _).more (by simp)) ((((HRP.out.below HB1.out).more HB1.out.size).alloc (Nat.le_refl _) _).more (by simp)) ((((HRR.out.below HB1.out).more HB1.out.size).alloc (Nat.le_refl _) _).more (by simp))).mono ?_; rintro e5 w5 ⟨A5, n5, c5, cc5, rfl, hl5, hcc5, ho5, hb5⟩; have HL5 := Lib.hid hl5; have HC5 := Lib.hid hcc5; have HO5 := Lib.hid (ho5.mono (show w.heap.size ≤ _ from (bal HB1.out _).size)); have HB5 := Lib.hid (bcall (bal HB1.out _) hb5); clear hl5 hcc5 ho5 hb5))
   exact bodyPost_ret (results_tmp2 rfl _ _ _) rfl ⟨none, 0, 0, 0, rfl, rfl, Nat.le_refl _, OS.nil _ _ _ rfl, HB1.out⟩
  ·have hr2 : root.length = bOf big := Decidable.not_not.1 hr
   have t1 : ((nr : Int) != (bOf big : Int)) = false := by simp; omega
   have t2 : (nr = bOf big) = True := by simp; omega
   have hlt := pieces_lt (I := I) hb0 hT2.1
   have w3 : IntKind.u64.wrap ((totN (kOf big) len : Int) + (bOf big : Int)) = ((totN (kOf big) len + bOf big : Nat) : Int) := by rw [wrap_u64]; omega
   have w4 : IntKind.u64.wrap (((totN (kOf big) len + bOf big : Nat) : Int) - 1) = ((totN (kOf big) len + bOf big - 1 : Nat) : Int) := by rw [wrap_u64]; omega
   have w6 : IntKind.u64.wrap (((totN (kOf big) len + bOf big - 1 : Nat) : Int) / (bOf big : Int)) = (((totN (kOf big) len + bOf big - 1) / bOf big : Nat) : Int) := by
    rw [wrap_u64, ← Int.natCast_ediv]
    have := Nat.div_le_self (totN (kOf big) len + bOf big - 1) (bOf big)
    obtain ⟨z, hz⟩ : ∃ z, (totN (kOf big) len + bOf big - 1) / bOf big = z := ⟨_, rfl⟩
    rw [hz] at this ⊢
    omega
   have z1 : ((bOf big : Int) == 0) = false := by simp; omega
   have z2 : (bOf big = 0) = False := by simp; omega
   by_cases hi : totN (kOf big) len ≤ I * bOf big
   ·rw [pieceS_arg hv (.inr hi)]
    rw [← hlt] at hi
    generalize totN (kOf big) len = T at *
    generalize codN (kOf big) len = C at *
    generalize bOf big = f at *
    generalize kOf big = k at *
    generalize (T + f - 1) / f = N at *
    generalize T + f - 1 = N1 at *
    generalize T + f = N2 at *
    have t3 : (N ≤ I) = True := by simp [hi]
    have t4 : (I < N) = False := by simp; omega
    have HVA := Lib.hid hva; have HFU := Lib.hid hfu; have HTO := Lib.hid hto
    clear hva hfu hto hco hv ho hT hC hT2 hC2 hs4 ht4 hb hb0 hr hrr hrs hrp hls hlp hl hlt hr2
    unfold Sl.v at *
    go_enter Tryz.func69, Tryz.ntmps69
    go_wp2_with (first
     | (go_at_call 19; refine (HVA.out _).mono ?_; rintro e1 w1 ⟨rfl, hb1⟩; have HB1 := Lib.hid hb1; clear hb1)
     | (go_at_call 41; refine (HFU.out _).mono ?_; rintro e2 w2 ⟨rfl, rfl⟩)
     | (go_at_call 30; refine (HTO.out _).mono ?_; rintro e3 w3 ⟨rfl, rfl⟩)
     | (go_at_call 63; refine (HCO.out _).mono ?_; rintro e4 w4 ⟨rfl, rfl⟩)
     | (go_at_call 34; refine (HH.out _ ((((HRS.out.below HB1.out).more HB1.out.size).alloc (Nat.le_refl _) _).more (by simp)) ((((HRP.out.below HB1.out).more HB1.out.size).alloc (Nat.le_refl _) _).more (by simp)) ((((HRR.out.below HB1.out).more HB1.out.size).alloc (Nat.le_refl _) _).more (by simp))).mono ?_; rintro e5 w5 ⟨A5, n5, c5, cc5, rfl, hl5, hcc5, ho5, hb5⟩; have HL5 := Lib.hid hl5; have HC5 := Lib.hid hcc5; have HO5 := Lib.hid (ho5.mono (show w.heap.size ≤ _ from (bal HB1.out _).size)); have HB5 := Lib.hid (bcall (bal HB1.out _) hb5); clear hl5 hcc5 ho5 hb5))
    exact bodyPost_ret (results_tmp2 rfl _ _ _) rfl ⟨none, 0, 0, 0, rfl, rfl, Nat.le_refl _, OS.nil _ _ _ rfl, HB1.out⟩
   ·rw [pieceS_ok hv (fun h => h.elim (fun h2 => h2 hr2) hi)]
    have hI := Nat.lt_of_not_le hi
    have hh := fun W hrs hrp hrr => refHashS_any (kOf big) false (pceM (bOf big) (totN (kOf big) len) I) (pceP (bOf big) (totN (kOf big) len) I (codN (kOf big) len) s p) ls lp [] root none Ar 0 0 nr cr W (pce_fit hI hT2.2 hC2) hls hlp hrs hrp rfl (RS.nil _) hl (by omega) hrr
    rw [pce_hash ls lp root hI hT2.2 hC2 hs4 ht4] at hh
    rw [← hlt] at hi
    dsimp only at hh ⊢
    generalize (hashL big (pceP (bOf big) (totN (kOf big) len) I (codN (kOf big) len) s p) ls lp [] false root).take (pceM (bOf big) (totN (kOf big) len) I) = OUT at *
    unfold pceP at hh
    unfold pceM at hh
    unfold Pr.v Pr.cs Sl.v at *
    dsimp only at hh
    generalize totN (kOf big) len = T at *
    generalize codN (kOf big) len = C at *
    generalize bOf big = f at *
    generalize kOf big = k at *
    generalize (T + f - 1) / f = N at *
    obtain ⟨q, hq⟩ : ∃ q, q = I * f := ⟨_, rfl⟩
    obtain ⟨L, hL⟩ : ∃ L, L = T - q := ⟨_, rfl⟩
    rw [← hq] at hI
    rw [← hq, ← hL] at hh
    have hqi : (I : Int) * (f : Int) = (q : Int) := by rw [hq]; simp
    have hli : (T : Int) - (q : Int) = (L : Int) := by omega
    have v1 : IntKind.u32.wrap (f : Int) = f := by rw [wrap_u32w]; omega
    have v3 : IntKind.u64.wrap ((I : Int) * (f : Int)) = q := by rw [hqi, wrap_u64]; omega
    have v4 : IntKind.u64.wrap ((T : Int) - (q : Int)) = L := by rw [hli, wrap_u64]; omega
    have v5 : IntKind.i64.wrap (L : Int) = L := by simp [IntKind.wrap, IntKind.bits, IntKind.signed]; omega
    have v6 : IntKind.i64.wrap (f : Int) = f := by simp [IntKind.wrap, IntKind.bits, IntKind.signed]; omega
    generalize T + f - 1 = N1 at *
    generalize T + f = N2 at *
    have t3 : (N ≤ I) = False := by simp [hi]
    have t4 : (I < N) = True := by simp; omega
    by_cases hlf : L < f
    ·rw [Nat.min_eq_left (Nat.le_of_lt hlf)] at hh
     have t5 : (L < f) = True := by simp [hlf]
     have HVA := Lib.hid hva; have HFU := Lib.hid hfu; have HTO := Lib.hid hto; have HCO := Lib.hid hco; have HH := Lib.hid hh; have HRS := Lib.hid hrs; have HRP := Lib.hid hrp; have HRR := Lib.hid hrr
     clear hva hfu hto hco hh hv ho hT hC hT2 hC2 hs4 ht4 hb hb0 hr hrr hrs hrp hls hlp hl hlt hr2 hq hL hqi hli
     go_enter Tryz.func69, Tryz.ntmps69
     go_wp2_with (first
      | (go_at_call 19; refine (HVA.out _).mono ?_; rintro e1 w1 ⟨rfl, hb1⟩; have HB1 := Lib.hid hb1; clear hb1)
      | (go_at_call 41; refine (HFU.out _).mono ?_; rintro e2 w2 ⟨rfl, rfl⟩)
      | (go_at_call 30; refine (HTO.out _).mono ?_; rintro e3 w3 ⟨rfl, rfl⟩)
      | (go_at_call 63; refine (HCO.out _).mono ?_; rintro e4 w4 ⟨rfl, rfl⟩)
      | (go_at_call 34; refine (HH.out _ ((((HRS.out.below HB1.out).more HB1.out.size).alloc (Nat.le_refl _) _).more (by simp)) ((((HRP.out.below HB1.out).more HB1.out.size).alloc (Nat.le_refl _) _).more (by simp)) ((((HRR.out.below HB1.out).more HB1.out.size).alloc (Nat.le_refl _) _).more (by simp))).mono ?_; rintro e5 w5 ⟨A5, n5, c5, cc5, rfl, hl5, hcc5, ho5, hb5⟩; have HL5 := Lib.hid hl5; have HC5 := Lib.hid hcc5; have HO5 := Lib.hid (ho5.mono (show w.heap.size ≤ _ from (bal HB1.out _).size)); have HB5 := Lib.hid (bcall (bal HB1.out _) hb5); clear hl5 hcc5 ho5 hb5))
     exact bodyPost_ret (results_tmp2 rfl _ _ _) rfl ⟨A5, n5, c5, cc5, rfl, HL5.out, HC5.out, HO5.out, HB5.out⟩
    ·rw [Nat.min_eq_right (by omega)] at hh
     have t5 : (L < f) = False := by simp [hlf]
     have HVA := Lib.hid hva; have HFU := Lib.hid hfu; have HTO := Lib.hid hto; have HCO := Lib.hid hco; have HH := Lib.hid hh; have HRS := Lib.hid hrs; have HRP := Lib.hid hrp; have HRR := Lib.hid hrr
     clear hva hfu hto hco hh hv ho hT hC hT2 hC2 hs4 ht4 hb hb0 hr hrr hrs hrp hls hlp hl hlt hr2 hq hL hqi hli
     go_enter Tryz.func69, Tryz.ntmps69
     go_wp2_with (first
      | (go_at_call 19; refine (HVA.out _).mono ?_; rintro e1 w1 ⟨rfl, hb1⟩; have HB1 := Lib.hid hb1; clear hb1)
      | (go_at_call 41; refine (HFU.out _).mono ?_; rintro e2 w2 ⟨rfl, rfl⟩)
      | (go_at_call 30; refine (HTO.out _).mono ?_; rintro e3 w3 ⟨rfl, rfl⟩)
      | (go_at_call 63; refine (HCO.out _).mono ?_; rintro e4 w4 ⟨rfl, rfl⟩)
      | (go_at_call 34; refine (HH.out _ ((((HRS.out.below HB1.out).more HB1.out.size).alloc (Nat.le_refl _) _).more (by simp)) ((((HRP.out.below HB1.out).more HB1.out.size).alloc (Nat.le_refl _) _).more (by simp)) ((((HRR.out.below HB1.out).more HB1.out.size).alloc (Nat.le_refl _) _).more (by simp))).mono ?_; rintro e5 w5 ⟨A5, n5, c5, cc5, rfl, hl5, hcc5, ho5, hb5⟩; have HL5 := Lib.hid hl5; have HC5 := Lib.hid hcc5; have HO5 := Lib.hid (ho5.mono (show w.heap.size ≤ _ from (bal HB1.out _).size)); have HB5 := Lib.hid (bcall (bal HB1.out _) hb5); clear hl5 hcc5 ho5 hb5))
     exact bodyPost_ret (results_tmp2 rfl _ _ _) rfl ⟨A5, n5, c5, cc5, rfl, HL5.out, HC5.out, HO5.out, HB5.out⟩
 ·rw [pieceS_bad hv]
  have t1 : (xValid k len 0 s p != 0) = true := by simpa using hv
  have t2 : (xValid k len 0 s p == 0) = false := by simpa using hv
  obtain ⟨x, hx⟩ : ∃ x, x = xValid k len 0 s p := ⟨_, rfl⟩
  rw [← hx] at t1 t2
  simp only [← hx] at hva ⊢
  have HVA := Lib.hid hva
  clear hva hv hx hrs hrp hrr hls hlp hl
  unfold Sl.v at *
  go_enter Tryz.func69, Tryz.ntmps69
  go_wp2_with (go_at_call 19; refine (HVA.out _).mono ?_; rintro e1 w1 ⟨rfl, hb1⟩; have HB1 := Lib.hid hb1; clear hb1)
  exact bodyPost_ret (results_tmp2 rfl _ _ _) rfl ⟨none, 0, 0, 0, rfl, rfl, Nat.le_refl _, OS.nil _ _ _ rfl, HB1.out⟩
end Go.Proofs.YtmapfcdffklopaaGreat

/-
  Take of the reference; XofTakes' law. Contracts alone; no statement is claimed here.
-/
import Derived.Test.YtgecggkcadhooaaGreatXTake
import Derived.Test.YtgecggkcadhooaaGreatXPart
namespace Go.Proofs.YtgecggkcadhooaaGreat
open Go.RowKit
attribute [local go_sem] pureUpon Ords.of

set_option maxRecDepth 20000 in
set_option maxHeartbeats 4000000 in
theorem refTake_any (k len : Int) (key data : List UInt8) (Ak Ad : Option Addr) (nk ck nd cd fr0 : Nat) (n : Int) (w : World) (hk : key.length = nk) (hrk : RS cB w w.heap.size Ak key) (hd : data.length = nd) (hnd : nd ≤ 140737488355200) (hrd : RS cB w w.heap.size Ad data) :
    Calls Tryz.prog 10 #[.int .i64 k, .int .i64 len, .slice Ak nk ck, .slice Ad nd cd, .int .u64 fr0, .int .i64 n] w fun r w' => ∃ A j cc, r = .returned (.tuple #[.slice A j cc, .int .i64 (takeS k len key data fr0 n).2]) ∧ (takeS k len key data fr0 n).1.length = j ∧ OS cB w' w.heap.size A cc (takeS k len key data fr0 n).1 ∧ Below w.heap.size w w' := by
  have hva := refValid_any k len Ak nk ck noSl noSl w
  by_cases hv : xValid k len key.length noSl noSl = 0
  · obtain ⟨m, hm, h1, h2, h3, h4, h5, h6⟩ := xm_of hv
    have ho := xOK_of hv
    have hto := fun W => refTotal_any k len ho W
    have eT : totN k len = m.T := by rw [h1, h2]; rfl
    rw [eT] at hto
    rw [hk] at hv
    rw [hv] at hva
    have hpa := fun q cm g at0 n W hb hrk hrm hn => refPart_any q m hm Ak ck noSl noSl Ad nd cm g at0 data fr0 n W hb (by rw [← h4]; rfl) (by rw [← h5]; rfl) hrk (by rw [← h4]; exact RS.nil _) (by rw [← h5]; exact RS.nil _) hd hnd hrm hn
    unfold rsCells at hpa
    rw [← h1, ← h2, ← h3, hk] at hpa
    unfold Sl.v noSl at hva hpa
    have hmk : key.length = nk := hk
    rw [← hk] at hv
    have HVA := Lib.hid hva; have HTO := Lib.hid hto; have HPA := Lib.hid hpa; have HM := Lib.hid hm; have HRD := Lib.hid hrd; have HRK := Lib.hid hrk
    clear hva hto hpa hrk hrd hk hm eT ho hmk hd hnd
    by_cases hn : n < 0 ∨ 65536 < n
    · rw [takeS_arg hv hn]
      clear hv h1 h2 h3 h4 h5 h6
      by_cases h1 : n < 0
      · have t1 : decide (n < 0) = true := by simpa using h1
        clear hn h1
        go_enter Tryz.func10, Tryz.ntmps10
        go_wp2_with (first
          | (go_at_call 48; refine HVA.out.mono ?_; rintro e1 w1 ⟨rfl, hb1⟩; have HB := Lib.hid hb1; clear hb1)
          | (go_at_call 49; refine (HTO.out _).mono ?_; rintro e3 w3 ⟨rfl, rfl⟩))
        exact bodyPost_ret (results_tmp2 rfl _ _ _) rfl ⟨none, 0, 0, rfl, rfl, OS.nil _ _ _ rfl, HB.out⟩
      · have t1 : decide (n < 0) = false := by simpa using h1
        have t2 : decide (65536 < n) = true := by simp; omega
        clear hn h1
        go_enter Tryz.func10, Tryz.ntmps10
        go_wp2_with (first
          | (go_at_call 48; refine HVA.out.mono ?_; rintro e1 w1 ⟨rfl, hb1⟩; have HB := Lib.hid hb1; clear hb1)
          | (go_at_call 49; refine (HTO.out _).mono ?_; rintro e3 w3 ⟨rfl, rfl⟩))
        exact bodyPost_ret (results_tmp2 rfl _ _ _) rfl ⟨none, 0, 0, rfl, rfl, OS.nil _ _ _ rfl, HB.out⟩
    · have t1 : decide (n < 0) = false := by simp; omega
      have t2 : decide (65536 < n) = false := by simp; omega
      obtain ⟨n', rfl⟩ : ∃ n' : Nat, n = n' := ⟨n.toNat, by omega⟩
      by_cases he : (0 : Int) < (n' : Int) ∧ m.T ≤ fr0
      · rw [takeS_end h6 hv hn he]
        have t3 : (0 < n') = True := by simp; omega
        have t4 : (m.T ≤ fr0) = True := by simp [he.2]
        clear hv h1 h2 h3 h4 h5 h6 hn he
        go_enter Tryz.func10, Tryz.ntmps10
        go_wp2_with (first
          | (go_at_call 48; refine HVA.out.mono ?_; rintro e1 w1 ⟨rfl, hb1⟩; have HB := Lib.hid hb1; clear hb1)
          | (go_at_call 49; refine (HTO.out _).mono ?_; rintro e3 w3 ⟨rfl, rfl⟩))
        exact bodyPost_ret (results_tmp2 rfl _ _ _) rfl ⟨none, 0, 0, rfl, rfl, OS.nil _ _ _ rfl, HB.out⟩
      · rw [takeS_ok h6 hv hn he, show ((n' : Nat) : Int).toNat = n' from rfl]
        have HN := Lib.hid (show n' ≤ 65536 by omega)
        have hrow := fun root a c => m.row_len root a c
        have HROW := Lib.hid hrow; clear hrow
        by_cases h0 : 0 < n'
        · have t3 : (0 < n') = True := by simp [h0]
          have t4 : (m.T ≤ fr0) = False := by simp; omega
          clear hv h1 h2 h3 h4 h5 h6 hn he h0
          go_enter Tryz.func10, Tryz.ntmps10
          go_wp2_with (first
            | (go_at_call 48; refine HVA.out.mono ?_; rintro e1 w1 ⟨rfl, hb1⟩; have HB := Lib.hid hb1; clear hb1)
            | (go_at_call 49; refine (HTO.out _).mono ?_; rintro e3 w3 ⟨rfl, rfl⟩))
          refine (HPA.out _ cd false 0 n' _ (Blk.new w1 46 _) ((((HRK.out.below HB.out).more HB.out.size).alloc (Nat.le_refl _) _).more (by simp)) ((((HRD.out.below HB.out).more HB.out.size).alloc (Nat.le_refl _) _).more (by simp)) HN.out).mono ?_
          rintro e4 w4 ⟨A, c, rfl, ho, hb4⟩
          have HB4 := Lib.hid (bcall (bal HB.out _) hb4); have HO4 := Lib.hid (ho.mono (show w.heap.size ≤ _ from (bal HB.out _).size)); clear ho hb4
          go_wp2_with fail
          exact bodyPost_ret (results_tmp2 rfl _ _ _) rfl ⟨A, _, c, rfl, HROW.out _ _ _, HO4.out, HB4.out⟩
        · have t3 : (0 < n') = False := by simp [h0]
          clear hv h1 h2 h3 h4 h5 h6 hn he h0
          go_enter Tryz.func10, Tryz.ntmps10
          go_wp2_with (first
            | (go_at_call 48; refine HVA.out.mono ?_; rintro e1 w1 ⟨rfl, hb1⟩; have HB := Lib.hid hb1; clear hb1)
            | (go_at_call 49; refine (HTO.out _).mono ?_; rintro e3 w3 ⟨rfl, rfl⟩))
          refine (HPA.out _ cd false 0 n' _ (Blk.new w1 46 _) ((((HRK.out.below HB.out).more HB.out.size).alloc (Nat.le_refl _) _).more (by simp)) ((((HRD.out.below HB.out).more HB.out.size).alloc (Nat.le_refl _) _).more (by simp)) HN.out).mono ?_
          rintro e4 w4 ⟨A, c, rfl, ho, hb4⟩
          have HB4 := Lib.hid (bcall (bal HB.out _) hb4); have HO4 := Lib.hid (ho.mono (show w.heap.size ≤ _ from (bal HB.out _).size)); clear ho hb4
          go_wp2_with fail
          exact bodyPost_ret (results_tmp2 rfl _ _ _) rfl ⟨A, _, c, rfl, HROW.out _ _ _, HO4.out, HB4.out⟩
  · rw [takeS_bad hv]
    rw [hk] at hv ⊢
    generalize xValid k len nk noSl noSl = x at *
    have t1 : (x != 0) = true := by simpa using hv
    unfold Sl.v noSl at hva
    have HVA := Lib.hid hva; clear hva hv hk hrk hd hnd hrd
    go_enter Tryz.func10, Tryz.ntmps10
    go_wp2_with (go_at_call 48; refine HVA.out.mono ?_; rintro e1 w1 ⟨rfl, hb1⟩; have HB := Lib.hid hb1; clear hb1)
    exact bodyPost_ret (results_tmp2 rfl _ _ _) rfl ⟨none, 0, 0, rfl, rfl, OS.nil _ _ _ rfl, HB.out⟩
set_option maxRecDepth 20000 in
set_option maxHeartbeats 4000000 in
theorem xofTakes_law (k len : Int) (key data : List UInt8) (Ak Ad : Option Addr) (nk ck nd cd fr0 : Nat) (n : Int) (s t : Sl) (w : World) (hk : key.length = nk) (hrk : RS cB w w.heap.size Ak key)
    (hdl : data.length = nd) (hnd : nd ≤ cd) (hcd : cd ≤ 9223372036854775807) (hn47 : nd ≤ 140737488351232) (hrd : RS cB w w.heap.size Ad data) (hfr : fr0 < 18446744073709551616) :
    Calls Tryz.prog 3 #[sxV k len Ak nk ck s t, .slice Ad nd cd, .int .u64 fr0, .int .i64 n] w fun e w' => e = .returned (.bool true) ∧ Below w.heap.size w w' := by
  have h1 := fun W hrk hrd => xTake_any k len key data Ak Ad nk ck nd cd fr0 n W hk hrk hdl hnd hcd hrd hfr
  have h2 := fun W hrk hrd => refTake_any k len key data Ak Ad nk ck nd cd fr0 n W hk hrk hdl (by omega) hrd
  have hln := takeS_len k len key data fr0 n
  have hsame := fun (A1 A2 : Option Addr) (c1 c2 n1 n2 : Nat) (l1 l2 : List UInt8) W h1 h2 hm r1 r2 => same7_any A1 A2 c1 c2 l1 l2 n1 n2 W h1 h2 hm r1 r2
  have haw := fun W => awake7_any W
  generalize takeS k len key data fr0 n = R at *
  obtain ⟨OUT, ERR⟩ := R
  dsimp only at h1 h2 hln
  have H1 := Lib.hid h1; have H2 := Lib.hid h2; have HLN := Lib.hid hln; have HRK := Lib.hid hrk; have HRD := Lib.hid hrd; have HSM := Lib.hid hsame; have HAW := Lib.hid haw
  clear h1 h2 hln hrk hrd hsame haw hdl hnd hcd hn47 hk hfr
  unfold sxV
  unfold Sl.v at *
  go_enter Tryz.func3, Tryz.ntmps3
  have hB0 := Lib.hid (Blk.new w 24 #[.int .i64 k, .int .i64 len, .slice Ak nk ck, .slice s.A s.n s.c, .slice t.A t.n t.c])
  have hW0 := Lib.hid (bal (b0 w) (.cells #[.int .i64 k, .int .i64 len, .slice Ak nk ck, .slice s.A s.n s.c, .slice t.A t.n t.c] 24))
  go_upto_region 1 with fail
  obtain ⟨g, hg⟩ : ∃ g, g = w.heap.size := ⟨_, rfl⟩
  have hb := hB0.out
  rw [← hg] at hb ⊢
  clear hg hB0
  generalize w.alloc _ = w0 at *
  have d0 : w0.cell? ⟨g, 0, none⟩ = some (.int .i64 k) := hb.cell 0
  have d1 : w0.cell? ⟨g, 1, none⟩ = some (.int .i64 len) := hb.cell 1
  have d2 : w0.cell? ⟨g, 2, none⟩ = some (.slice Ak nk ck) := hb.cell 2
  have HB := Lib.hid hb; clear hb
  go_wp2_with fail
  refine (H1.out _ ((HRK.out.below hW0.out).more hW0.out.size) ((HRD.out.below hW0.out).more hW0.out.size)).mono ?_
  rintro e1 w1 ⟨A1, n1, cc1, rfl, hl1, -, ho1, hb1⟩
  have hb := HB.out.below hb1 HB.out.lt
  have HW1 := Lib.hid (bcall hW0.out hb1); have HO1 := Lib.hid ho1; have HL1 := Lib.hid hl1; clear hb1 ho1 hl1 d0 d1 d2
  have d0 : w1.cell? ⟨g, 0, none⟩ = some (.int .i64 k) := hb.cell 0
  have d1 : w1.cell? ⟨g, 1, none⟩ = some (.int .i64 len) := hb.cell 1
  have d2 : w1.cell? ⟨g, 2, none⟩ = some (.slice Ak nk ck) := hb.cell 2
  clear hb
  go_wp2_with (first
    | (go_at_call 10; refine (H2.out _ ((HRK.out.below HW1.out).more HW1.out.size) ((HRD.out.below HW1.out).more HW1.out.size)).mono ?_; rintro e2 w2 ⟨A2, n2, cc2, rfl, hl2, ho2, hb2⟩; have HW2 := Lib.hid (bcall HW1.out hb2); have HO2 := Lib.hid ho2; have HL2 := Lib.hid hl2; have HO12 := Lib.hid (HO1.out.below hb2 (Nat.le_refl _)); clear hb2 ho2 hl2)
    | (go_at_call 11; refine (HSM.out A1 A2 _ _ n1 n2 OUT OUT _ HL1.out HL2.out (by have h1 := HL1.out; have h2 := HLN.out; omega) HO12.out.reads HO2.out.reads).mono ?_; rintro e7 w7 ⟨rfl, hb7⟩; rw [decide_eq_true (rfl : OUT = OUT)]; have HB7 := Lib.hid (bcall HW2.out hb7); clear hb7)
    | (go_at_call 12; refine (HAW.out _).mono ?_; rintro e9 w9 ⟨rfl, hb9⟩; have HB9 := Lib.hid (bcall HB7.out hb9); clear hb9))
  exact bodyPost_ret (results_tmp rfl _ _ _) rfl ⟨rfl, HB9.out⟩
end Go.Proofs.YtgecggkcadhooaaGreat

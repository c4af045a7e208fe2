/-
  Take of the program; a stream that is refused. Contracts alone; no statement is claimed here.
-/
import Derived.Test.YtgecggkcadhooaaXofQ
namespace Go.Proofs.Ytgecggkcadhooaa
open Go.RowKit
attribute [local go_sem] pureUpon Ords.of

set_option maxRecDepth 20000 in
set_option maxHeartbeats 1000000 in
/-- New refuses -/
theorem xnewBad_any (k len : Int) (Ak : Option Addr) (nk ck : Nat) (s p : Sl) (w : World) (hv : xValid k len nk s p ≠ 0) :
    Calls Try.prog 10 #[.int .i64 k, .int .i64 len, .slice Ak nk ck, s.v, p.v] w fun r w' => r = .returned (.tuple #[.pointer none, .int .i64 (xValid k len nk s p)]) ∧ Below w.heap.size w w' := by
  have hva := fun W => xvalid_any k len Ak nk ck s p W
  generalize xValid k len nk s p = x at *
  have t1 : (x != 0) = true := by simpa using hv
  have HVA := Lib.hid hva; clear hva hv
  unfold shCells at HVA
  obtain ⟨f, hf⟩ : ∃ f, f = mostOf k := ⟨_, rfl⟩
  rw [← hf] at HVA
  clear hf
  unfold Sl.v at *
  go_enter Try.func10, Try.ntmps10
  go_wp2_with fail
  refine (HVA.out _).mono ?_
  rintro e1 w1 ⟨c, t, kn, rfl, -, hb1⟩
  have HB := Lib.hid (bal hb1 (.cells #[.int .i64 k, .int .i64 f, .int .u32 c, .int .u64 t, .bool kn] 44)); clear hb1
  go_wp2_with fail
  exact bodyPost_ret (results_tmp2 rfl _ _ _) rfl ⟨rfl, HB.out⟩
/-- what Take tells: the bytes, the error -/
def takeS (k len : Int) (key data : List UInt8) (fr0 : Nat) (n : Int) : List UInt8 × Int :=
  if xValid k len key.length noSl noSl ≠ 0 then ([], xValid k len key.length noSl noSl) else
  if n < 0 ∨ 65536 < n then ([], 1) else
  if 0 < n ∧ (Xm.mk (decide (k = 1)) len key [] []).T ≤ fr0 then ([], 70) else
  ((Xm.mk (decide (k = 1)) len key [] []).row ((Xm.mk (decide (k = 1)) len key [] []).root data) fr0 (min n.toNat ((Xm.mk (decide (k = 1)) len key [] []).T - fr0)), 0)
theorem takeS_bad {k len : Int} {key data : List UInt8} {fr0 : Nat} {n : Int} (h : xValid k len key.length noSl noSl ≠ 0) : takeS k len key data fr0 n = ([], xValid k len key.length noSl noSl) := by unfold takeS; rw [if_pos h]
/-- a stream that may be: what it is made of -/
theorem xm_of {k len : Int} {key : List UInt8} (h : xValid k len key.length noSl noSl = 0) : ∃ m : Xm, m.Ok ∧ k = kOf m.big ∧ len = m.len ∧ key = m.key ∧ [] = m.ls ∧ [] = m.lp ∧ Xm.mk (decide (k = 1)) len key [] [] = m := by
  have ho := xOK_of h
  obtain ⟨big, hb, hb2, -⟩ := xnums ho
  subst hb
  rw [hb2]
  exact ⟨⟨big, len, key, [], []⟩, Xm.Ok.of (s := noSl) (p := noSl) rfl rfl h, rfl, rfl, rfl, rfl, rfl, rfl⟩
theorem takeS_arg {k len : Int} {key data : List UInt8} {fr0 : Nat} {n : Int} (h : xValid k len key.length noSl noSl = 0) (h2 : n < 0 ∨ 65536 < n) : takeS k len key data fr0 n = ([], 1) := by unfold takeS; rw [if_neg (fun h3 => h3 h), if_pos h2]
theorem takeS_end {k len : Int} {key data : List UInt8} {fr0 : Nat} {n : Int} {m : Xm} (hm : Xm.mk (decide (k = 1)) len key [] [] = m) (h : xValid k len key.length noSl noSl = 0) (h2 : ¬ (n < 0 ∨ 65536 < n)) (h3 : 0 < n ∧ m.T ≤ fr0) : takeS k len key data fr0 n = ([], 70) := by unfold takeS; rw [if_neg (fun h3 => h3 h), if_neg h2, hm, if_pos h3]
theorem takeS_ok {k len : Int} {key data : List UInt8} {fr0 : Nat} {n : Int} {m : Xm} (hm : Xm.mk (decide (k = 1)) len key [] [] = m) (h : xValid k len key.length noSl noSl = 0) (h2 : ¬ (n < 0 ∨ 65536 < n)) (h3 : ¬ (0 < n ∧ m.T ≤ fr0)) : takeS k len key data fr0 n = (m.row (m.root data) fr0 (min n.toNat (m.T - fr0)), 0) := by unfold takeS; rw [if_neg (fun h3 => h3 h), if_neg h2, hm, if_neg h3]
theorem takeS_len (k len : Int) (key data : List UInt8) (fr0 : Nat) (n : Int) : (takeS k len key data fr0 n).1.length ≤ 65536 := by
  unfold takeS
  split
  · exact Nat.zero_le _
  · split
    · exact Nat.zero_le _
    · split
      · exact Nat.zero_le _
      · rw [Xm.row_len]; omega
/-- Read behind a Skip tells what Take must -/
theorem Xm.readS_skip {m : Xm} (hm : m.Ok) (root : List UInt8) (fr0 n : Nat) (h : ¬ (0 < n ∧ m.T ≤ fr0)) : m.readS root (0 + (skipS m.T 0 fr0).1) n = (m.row root fr0 (min n (m.T - fr0)), 0) := by
  have hT := hm.T2.1
  have e : (skipS m.T 0 fr0).1 = min fr0 m.T := by unfold skipS; rw [if_neg (by omega), Nat.sub_zero]
  rw [e, Nat.zero_add]
  unfold Xm.readS
  by_cases h0 : 0 < n
  · rw [if_neg (by omega), Nat.min_eq_left (by omega)]
  · have hn : n = 0 := by omega
    subst hn
    rw [if_neg (by omega), Nat.zero_min, Nat.zero_min]
    rfl
set_option maxRecDepth 20000 in
set_option maxHeartbeats 4000000 in
theorem xTake_any (k len : Int) (key data : List UInt8) (Ak Ad : Option Addr) (nk ck nd cd fr0 : Nat) (n : Int) (w : World) (hk : key.length = nk) (hrk : RS cB w w.heap.size Ak key) (hd : data.length = nd) (hnd : nd ≤ cd) (hcd : cd ≤ 9223372036854775807) (hrd : RS cB w w.heap.size Ad data) (hfr : fr0 < 18446744073709551616) :
    Calls Try.prog 11 #[.int .i64 k, .int .i64 len, .slice Ak nk ck, .slice Ad nd cd, .int .u64 fr0, .int .i64 n] w fun r w' => ∃ A j cc, r = .returned (.tuple #[.slice A j cc, .int .i64 (takeS k len key data fr0 n).2]) ∧ (takeS k len key data fr0 n).1.length = j ∧ j ≤ cc ∧ OS cB w' w.heap.size A cc (takeS k len key data fr0 n).1 ∧ Below w.heap.size w w' := by
  by_cases hv : xValid k len key.length noSl noSl = 0
  · obtain ⟨m, hm, h1, h2, h3, h4, h5, h6⟩ := xm_of hv
    have hnw := xNew m hm Ak nk ck noSl noSl w (by rw [← h4]; rfl) (by rw [← h5]; rfl) (by rw [← h4]; exact RS.nil _) (by rw [← h5]; exact RS.nil _) (by rw [← h3]; exact hk) (by rw [← h3]; exact hrk)
    rw [← h1, ← h2] at hnw
    unfold Sl.v noSl at hnw
    have HNW := Lib.hid hnw; have HM := Lib.hid hm; have HRD := Lib.hid hrd; have HD := Lib.hid hd
    clear hnw hrk hrd hk hm
    by_cases hn : n < 0 ∨ 65536 < n
    · rw [takeS_arg hv hn]
      clear hv h1 h2 h3 h4 h5 h6
      by_cases h1 : n < 0
      · have t1 : decide (n < 0) = true := by simpa using h1
        clear hn h1 hd hnd hcd hfr
        go_enter Try.func11, Try.ntmps11
        go_wp2_with fail
        refine HNW.out.mono ?_
        rintro e1 w1 ⟨g, F, rfl, hX, hF, hb⟩
        have HX := Lib.hid hX; have HF := Lib.hid hF; have HB := Lib.hid hb
        have d3 : w1.cell? ⟨g, 3, none⟩ = some (.int .u64 m.T) := hX.total HM.out
        have hgl : g < w1.heap.size := hX.lt _ hX.here
        clear hX hF hb
        go_wp2_with fail
        exact bodyPost_ret (results_tmp2 rfl _ _ _) rfl ⟨none, 0, 0, rfl, rfl, Nat.le_refl _, OS.nil _ _ _ rfl, HB.out⟩
      · have t1 : decide (n < 0) = false := by simpa using h1
        have t2 : decide (65536 < n) = true := by simp; omega
        clear hn h1 hd hnd hcd hfr
        go_enter Try.func11, Try.ntmps11
        go_wp2_with fail
        refine HNW.out.mono ?_
        rintro e1 w1 ⟨g, F, rfl, hX, hF, hb⟩
        have HX := Lib.hid hX; have HF := Lib.hid hF; have HB := Lib.hid hb
        have d3 : w1.cell? ⟨g, 3, none⟩ = some (.int .u64 m.T) := hX.total HM.out
        have hgl : g < w1.heap.size := hX.lt _ hX.here
        clear hX hF hb
        go_wp2_with fail
        exact bodyPost_ret (results_tmp2 rfl _ _ _) rfl ⟨none, 0, 0, rfl, rfl, Nat.le_refl _, OS.nil _ _ _ rfl, HB.out⟩
    · have t1 : decide (n < 0) = false := by simp; omega
      have t2 : decide (65536 < n) = false := by simp; omega
      obtain ⟨n', rfl⟩ : ∃ n' : Nat, n = n' := ⟨n.toNat, by omega⟩
      by_cases he : (0 : Int) < (n' : Int) ∧ m.T ≤ fr0
      · rw [takeS_end h6 hv hn he]
        have t3 : (0 < n') = True := by simp; omega
        have t4 : (m.T ≤ fr0) = True := by simp [he.2]
        clear hv h1 h2 h3 h4 h5 h6 hn he hd hnd hcd hfr
        go_enter Try.func11, Try.ntmps11
        go_wp2_with fail
        refine HNW.out.mono ?_
        rintro e1 w1 ⟨g, F, rfl, hX, hF, hb⟩
        have HX := Lib.hid hX; have HF := Lib.hid hF; have HB := Lib.hid hb
        have d3 : w1.cell? ⟨g, 3, none⟩ = some (.int .u64 m.T) := hX.total HM.out
        have hgl : g < w1.heap.size := hX.lt _ hX.here
        clear hX hF hb
        go_wp2_with fail
        exact bodyPost_ret (results_tmp2 rfl _ _ _) rfl ⟨none, 0, 0, rfl, rfl, Nat.le_refl _, OS.nil _ _ _ rfl, HB.out⟩
      · rw [takeS_ok h6 hv hn he, show ((n' : Nat) : Int).toNat = n' from rfl]
        have HRK := Lib.hid (Xm.readS_skip HM.out (m.root data) fr0 n' (by omega))
        have HN := Lib.hid (show n' ≤ 65536 by omega); have HFR := Lib.hid hfr; have HND := Lib.hid hnd; have HCD := Lib.hid hcd
        by_cases h0 : 0 < n'
        · have t3 : (0 < n') = True := by simp [h0]
          have t4 : (m.T ≤ fr0) = False := by simp; omega
          clear hv h1 h2 h3 h4 h5 h6 hn he h0 hd hnd hcd hfr
          go_enter Try.func11, Try.ntmps11
          go_wp2_with fail
          refine HNW.out.mono ?_
          rintro e1 w1 ⟨g, F, rfl, hX, hF, hb⟩
          have HX := Lib.hid hX; have HF := Lib.hid hF; have HB := Lib.hid hb
          have d3 : w1.cell? ⟨g, 3, none⟩ = some (.int .u64 m.T) := hX.total HM.out
          have hgl : g < w1.heap.size := hX.lt _ hX.here
          clear hX hF hb
          have hwr := xWrite Ad nd cd data w1 HX.out HD.out HND.out HCD.out ((HRD.out.below HB.out).more HB.out.size) (fun _ a h1 h2 => by
            obtain ⟨ad, e, h3, -⟩ := HRD.out.2 (by rcases data with _ | ⟨x, l⟩; · exact absurd rfl ‹_›
                                                   · exact Nat.succ_pos _)
            rw [h1] at e; cases e
            exact Nat.lt_irrefl _ (Nat.lt_of_lt_of_le h3 (HF.out _ h2)))
          have HWR := Lib.hid hwr; clear hwr
          go_wp2_with fail
          refine HWR.out.mono ?_
          rintro e2 w2 ⟨rfl, F2, hX2, hF2, hb2⟩
          have HB2 := Lib.hid (HB.out.trans (hb2.toBelow HB.out.size HF.out)); have HF2 := Lib.hid (fun k hk => (hF2 k hk).elim (fun h => HF.out k h) (fun h => Nat.le_trans HB.out.size h))
          have hsk := hX2.skip HM.out fr0 HFR.out
          rw [List.nil_append] at hsk
          have HG2 := Lib.hid hX2.here; have HSK := Lib.hid hsk; clear hX2 hF2 hb2 hsk d3 hgl HWR HX
          go_wp2_with fail
          refine HSK.out.mono ?_
          rintro e3 w3 ⟨rfl, F3, hX3, hF3, hb3⟩
          have HB3 := Lib.hid (HB2.out.trans (hb3.toBelow HB2.out.size (fun k hk => by rw [List.mem_singleton.1 hk]; exact HF2.out _ HG2.out)))
          have hrd3 := hX3.read HM.out hX3.posle n' HN.out
          rw [HRK.out] at hrd3
          have HRD3 := Lib.hid hrd3; clear hX3 hF3 hb3 hrd3 HSK
          go_wp2_with fail
          refine HRD3.out.mono ?_
          rintro e4 w4 ⟨A, j, cc, rfl, hl, hcc, ho, F4, hX4, hF4, hb4, -⟩
          have HB4 := Lib.hid (HB3.out.trans (hb4.toBelow HB3.out.size (fun k hk => by rw [List.mem_singleton.1 hk]; exact HF2.out _ HG2.out))); have HL4 := Lib.hid hl; have HC4 := Lib.hid hcc; have HO4 := Lib.hid (ho.mono (show w.heap.size ≤ w3.heap.size from HB3.out.size)); clear hl hcc ho hX4 hF4 hb4
          go_wp2_with fail
          exact bodyPost_ret (results_tmp2 rfl _ _ _) rfl ⟨A, j, cc, rfl, HL4.out, HC4.out, HO4.out, HB4.out⟩
        · have t3 : (0 < n') = False := by simp [h0]
          clear hv h1 h2 h3 h4 h5 h6 hn he h0 hd hnd hcd hfr
          go_enter Try.func11, Try.ntmps11
          go_wp2_with fail
          refine HNW.out.mono ?_
          rintro e1 w1 ⟨g, F, rfl, hX, hF, hb⟩
          have HX := Lib.hid hX; have HF := Lib.hid hF; have HB := Lib.hid hb
          have d3 : w1.cell? ⟨g, 3, none⟩ = some (.int .u64 m.T) := hX.total HM.out
          have hgl : g < w1.heap.size := hX.lt _ hX.here
          clear hX hF hb
          have hwr := xWrite Ad nd cd data w1 HX.out HD.out HND.out HCD.out ((HRD.out.below HB.out).more HB.out.size) (fun _ a h1 h2 => by
            obtain ⟨ad, e, h3, -⟩ := HRD.out.2 (by rcases data with _ | ⟨x, l⟩; · exact absurd rfl ‹_›
                                                   · exact Nat.succ_pos _)
            rw [h1] at e; cases e
            exact Nat.lt_irrefl _ (Nat.lt_of_lt_of_le h3 (HF.out _ h2)))
          have HWR := Lib.hid hwr; clear hwr
          go_wp2_with fail
          refine HWR.out.mono ?_
          rintro e2 w2 ⟨rfl, F2, hX2, hF2, hb2⟩
          have HB2 := Lib.hid (HB.out.trans (hb2.toBelow HB.out.size HF.out)); have HF2 := Lib.hid (fun k hk => (hF2 k hk).elim (fun h => HF.out k h) (fun h => Nat.le_trans HB.out.size h))
          have hsk := hX2.skip HM.out fr0 HFR.out
          rw [List.nil_append] at hsk
          have HG2 := Lib.hid hX2.here; have HSK := Lib.hid hsk; clear hX2 hF2 hb2 hsk d3 hgl HWR HX
          go_wp2_with fail
          refine HSK.out.mono ?_
          rintro e3 w3 ⟨rfl, F3, hX3, hF3, hb3⟩
          have HB3 := Lib.hid (HB2.out.trans (hb3.toBelow HB2.out.size (fun k hk => by rw [List.mem_singleton.1 hk]; exact HF2.out _ HG2.out)))
          have hrd3 := hX3.read HM.out hX3.posle n' HN.out
          rw [HRK.out] at hrd3
          have HRD3 := Lib.hid hrd3; clear hX3 hF3 hb3 hrd3 HSK
          go_wp2_with fail
          refine HRD3.out.mono ?_
          rintro e4 w4 ⟨A, j, cc, rfl, hl, hcc, ho, F4, hX4, hF4, hb4, -⟩
          have HB4 := Lib.hid (HB3.out.trans (hb4.toBelow HB3.out.size (fun k hk => by rw [List.mem_singleton.1 hk]; exact HF2.out _ HG2.out))); have HL4 := Lib.hid hl; have HC4 := Lib.hid hcc; have HO4 := Lib.hid (ho.mono (show w.heap.size ≤ w3.heap.size from HB3.out.size)); clear hl hcc ho hX4 hF4 hb4
          go_wp2_with fail
          exact bodyPost_ret (results_tmp2 rfl _ _ _) rfl ⟨A, j, cc, rfl, HL4.out, HC4.out, HO4.out, HB4.out⟩
  · rw [takeS_bad hv]
    have hnw := xnewBad_any k len Ak nk ck noSl noSl w (by rw [← hk]; exact hv)
    rw [hk] at hv ⊢
    generalize xValid k len nk noSl noSl = x at *
    have t1 : (x != 0) = true := by simpa using hv
    unfold Sl.v noSl at hnw
    have HNW := Lib.hid hnw; clear hnw hv hk hrk hd hnd hcd hrd hfr
    go_enter Try.func11, Try.ntmps11
    go_wp2_with fail
    refine HNW.out.mono ?_
    rintro e1 w1 ⟨rfl, hb⟩
    have HB := Lib.hid hb; clear hb
    go_wp2_with fail
    exact bodyPost_ret (results_tmp2 rfl _ _ _) rfl ⟨none, 0, 0, rfl, rfl, Nat.le_refl _, OS.nil _ _ _ rfl, HB.out⟩
end Go.Proofs.Ytgecggkcadhooaa

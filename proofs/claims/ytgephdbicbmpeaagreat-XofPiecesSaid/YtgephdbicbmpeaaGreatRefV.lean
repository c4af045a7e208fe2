/-
  Hash of the reference. Contracts alone; no statement is claimed here.
-/
import Derived.Test.YtgephdbicbmpeaaGreatRefL
namespace Go.Proofs.YtgephdbicbmpeaaGreat
open Go.RowKit
attribute [local go_sem] pureUpon Ords.of

set_option maxRecDepth 20000 in
set_option maxHeartbeats 2000000 in
theorem refHash_any (big last : Bool) (m : Nat) (p : Pr) (ls lp key data : List UInt8) (Ak Ad : Option Addr) (nk ck nd cd : Nat) (w : World) (hc : chk (kOf big) p = 0) (hf : p.Fit) (hls : ls.length = p.salt.n) (hlp : lp.length = p.pers.n) (hrs : RS cB w w.heap.size p.salt.A ls) (hrp : RS cB w w.heap.size p.pers.A lp)
    (hk : key.length = nk) (hkk : nk = 0 ∨ (nk : Int) = p.key) (hrk : RS cB w w.heap.size Ak key) (hdl : data.length = nd) (hnd : nd ≤ 140737488355200) (hrd : RS cB w w.heap.size Ad data) (hm : 1 ≤ m ∧ m ≤ bOf big) :
    Calls Tryz.prog 18 #[.int .i64 (kOf big), p.v, .slice Ak nk ck, .bool last, .int .i64 m, .slice Ad nd cd] w fun r w' => ∃ A' c' cc, r = .returned (.tuple #[.slice A' m cc, .int .i64 0]) ∧ m ≤ cc ∧ OS cB w' w.heap.size A' c' ((hashL big p ls lp key last data).take m) ∧ Below w.heap.size w w' := by
  have hnew := fun W hrs hrp hrk => refNew_any big p ls lp key Ak nk ck W hc hrs hrp hk hkk hrk
  have hkl := keyL_len big key (by have := (chk_range hc).2.1; rw [hk]; rcases hkk with h | h <;> omega)
  have hwr := fun base q Am nm cm cnt W hN hr hlen => refWrite_any base q big p ls lp key Ak nk ck last (keyL big key) Am nm cm cnt Ad nd cd data W hN hdl hr hlen
  have hou := fun base q Am nm cm cnt W hN hnm => refOut_any base q big p ls lp key Ak nk ck last (keyL big key ++ data) Am nm cm cnt (2 * bOf big) W hN hc hf hls hlp hnm rfl
  have hlaw := fun j a S lo hi hp ha h1 h2 h3 => out_law big (encL big p ls lp) key data last (2 * bOf big) j a S lo hi rfl hp ha h1 h2 h3
  have hhl := hashL_len big p ls lp key last data
  unfold hashL at hhl ⊢
  generalize ((startK big (encL big p ls lp) key).feed data).out last = OUT at *
  have hfu := fun W => refFull_any big W
  obtain ⟨hm1, hm2⟩ := hm
  have hbo := bOf_le big
  have t1 : decide ((m : Int) < 1) = false := by simp; omega
  generalize bOf big = bo at *
  have t2 : decide ((bo : Int) < m) = false := by simp; omega
  obtain ⟨kk, hkq⟩ : ∃ kk, kOf big = kk := ⟨_, rfl⟩
  rw [hkq]
  simp only [hkq] at hnew hfu
  have HNEW := Lib.hid hnew; have HWR := Lib.hid hwr; have HOU := Lib.hid hou; have HLAW := Lib.hid hlaw; have HFU := Lib.hid hfu; have HRS := Lib.hid hrs; have HRP := Lib.hid hrp; have HRK := Lib.hid hrk; have HRD := Lib.hid hrd; have HDL := Lib.hid hdl; have HKL := Lib.hid hkl; have HHL := Lib.hid hhl
  clear hnew hwr hou hlaw hfu hrs hrp hrk hrd hdl hkl hhl hc hf hls hlp hk hkk hkq
  unfold Pr.v Pr.cs Sl.v at *
  go_enter Tryz.func18, Tryz.ntmps18
  go_upto_region 6 with (first
    | (go_at_call 76; refine (HNEW.out _ ((HRS.out.alloc (Nat.le_refl _) _).more (by simp)) ((HRP.out.alloc (Nat.le_refl _) _).more (by simp)) ((HRK.out.alloc (Nat.le_refl _) _).more (by simp))).mono ?_; rintro e w1 ⟨q, Am, nm, cm, rfl, hN1, hbw1⟩; (first | refine withN hbw1 ?_ | refine withD hbw1 ?_ | refine with0 hbw1 ?_); intro hcw1 hfw1; have z0w1 : w.heap.size < w1.heap.size := (by have := hbw1.size; (try simp at this); omega))
    | (go_at_call 77; refine (HFU.out _).mono ?_; rintro e2 w2 ⟨rfl, rfl⟩))
  have HB1 := Lib.hid (bcall (bal (b0 w) _) hbw1)
  have hbase : (w.alloc (.cells #[.int .i64 p.digest, .int .i64 p.key, .int .i64 p.fanout, .int .i64 p.depth, .int .u32 p.leaf, .int .u64 p.offset, .int .u32 p.xof, .int .i64 p.nd, .int .i64 p.inner, .slice p.salt.A p.salt.n p.salt.c, .slice p.pers.A p.pers.n p.pers.c] 26)).heap.size = w.heap.size + 1 := by simp
  rw [hbase] at hN1
  have HN1 := Lib.hid hN1
  have c13 : w1.cell? ⟨q, 13, none⟩ = some (.bool false) := hN1.blk.cell 13
  have f13 := hN1.blk.frozen 13
  have hqb : w.heap.size + 1 ≤ q := hN1.lo
  have hlen1 := hN1.len
  clear hN1 hcw1 hfw1 hbw1 z0w1 hbase
  go_upto_region 7 with fail
  have hN2 : RN (w1.setCell ⟨q, 13, none⟩ (.bool last)) (w.heap.size + 1) q big p ls lp key Ak nk ck last (keyL big key) Am nm cm 0 :=
    ⟨by have h := HN1.out.blk.set_ 13 (.bool last); rw [rn_last] at h; exact h, hqb, HN1.out.salt.setCell hqb _, HN1.out.pers.setCell hqb _, HN1.out.key.setCell hqb _, HN1.out.own.setFar HN1.out.far _, HN1.out.len, HN1.out.far⟩
  have HB2 := Lib.hid (bput HB1.out (p := ⟨q, 13, none⟩) (show w.heap.size ≤ q by omega) (.bool last))
  have HN2 := Lib.hid hN2
  have hdat : RS cB (w1.setCell ⟨q, 13, none⟩ (.bool last)) (w.heap.size + 1) Ad data := (HRD.out.below HB2.out).more (by omega)
  generalize w1.setCell ⟨q, 13, none⟩ (.bool last) = w2 at *
  have hnm : nm ≤ 128 := by rw [← hlen1]; exact HKL.out
  have HDAT := Lib.hid hdat
  have HLEN := Lib.hid hlen1
  clear hN2 hdat c13 f13 HN1 HB1 hlen1
  go_wp2_with fail
  refine (HWR.out _ q Am nm cm 0 _ HN2.out HDAT.out (by omega)).mono ?_
  rintro e3 w3 ⟨rfl, Am3, cm3, hN3, hbut3, -⟩
  have hB3 : Below w.heap.size w w3 := HB2.out.trans (hbut3.toBelow (B := w.heap.size) HB2.out.size (fun k hk => by
    rcases List.mem_cons.1 hk with rfl | h
    · omega
    · obtain ⟨a, ha, hb⟩ := mem_obl.1 h
      have h2 := (HN2.out.own.block_lt a ha).1
      omega))
  have HN3 := Lib.hid hN3; have HB3 := Lib.hid hB3; clear hN3 hB3 hbut3
  go_wp2_with fail
  refine (HOU.out _ q Am3 (nm + nd) cm3 _ _ HN3.out (by omega)).mono ?_
  rintro e4 w4 ⟨j, a, S, lo, hi, A4, c4, hP, ha, h1, h2, h3, rfl, ho4, hb4⟩
  have hl := HN3.out.len
  rw [HLAW.out j a S lo hi hP ha (by rw [hl]; exact h1) (by rw [hl]; exact h2) (by rw [hl]; exact h3)] at ho4
  have hcap := ho4.len_le
  rw [HHL.out] at hcap
  obtain ⟨hcap, -⟩ := hcap
  have HO4 := Lib.hid ((ho4.take m (by rw [HHL.out]; exact hm2)).mono (show w.heap.size ≤ _ from HB3.out.size)); have HB4 := Lib.hid (bcall HB3.out hb4)
  have hmc : (m : Int) ≤ c4 := by omega
  clear hP ha h1 h2 h3 ho4 hb4 hl
  go_wp2_with fail
  exact bodyPost_ret (results_tmp2 rfl _ _ _) rfl ⟨A4, c4, _, rfl, by omega, HO4.out, HB4.out⟩
theorem refHashBad_any (k : Int) (last : Bool) (m : Int) (p : Pr) (Ak Ad : Option Addr) (nk ck nd cd : Nat) (w : World) (hc : chk k p ≠ 0) :
    Calls Tryz.prog 18 #[.int .i64 k, p.v, .slice Ak nk ck, .bool last, .int .i64 m, .slice Ad nd cd] w fun r w' => r = .returned (.tuple #[.slice none 0 0, .int .i64 (chk k p)]) ∧ Below w.heap.size w w' := by
  have hnew := fun W => refNewBad_any k p Ak nk ck W hc
  have t0 : (chk k p == 0) = false := by simpa using hc
  have t1 : (chk k p != 0) = true := by simpa using hc
  obtain ⟨r, hr⟩ : ∃ r, r = chk k p := ⟨_, rfl⟩
  rw [← hr] at t0 t1 ⊢
  simp only [← hr] at hnew
  have HNEW := Lib.hid hnew; clear hnew hr hc
  unfold Pr.v Pr.cs Sl.v at *
  go_enter Tryz.func18, Tryz.ntmps18
  go_wp2_with (go_at_call 76; refine (HNEW.out _).mono ?_; rintro e w1 ⟨rfl, hbw1⟩; (first | refine withN hbw1 ?_ | refine withD hbw1 ?_ | refine with0 hbw1 ?_); intro hcw1 hfw1; have z0w1 : w.heap.size < w1.heap.size := (by have := hbw1.size; (try simp at this); omega))
  exact bodyPost_ret (results_tmp2 rfl _ _ _) rfl ⟨rfl, bcall (bal (b0 w) _) hbw1⟩
theorem refHashKey_any (k : Int) (last : Bool) (m : Int) (p : Pr) (Ak Ad : Option Addr) (nk ck nd cd : Nat) (w : World) (hc : chk k p = 0) (hn : nk ≠ 0) (hk : (nk : Int) ≠ p.key) :
    Calls Tryz.prog 18 #[.int .i64 k, p.v, .slice Ak nk ck, .bool last, .int .i64 m, .slice Ad nd cd] w fun r w' => r = .returned (.tuple #[.slice none 0 0, .int .i64 8]) ∧ Below w.heap.size w w' := by
  have hnew := fun W => refNewKey_any k p Ak nk ck W hc hn hk
  have HNEW := Lib.hid hnew; clear hnew hc hn hk
  unfold Pr.v Pr.cs Sl.v at *
  go_enter Tryz.func18, Tryz.ntmps18
  go_wp2_with (go_at_call 76; refine (HNEW.out _).mono ?_; rintro e w1 ⟨rfl, hbw1⟩; (first | refine withN hbw1 ?_ | refine withD hbw1 ?_ | refine with0 hbw1 ?_); intro hcw1 hfw1; have z0w1 : w.heap.size < w1.heap.size := (by have := hbw1.size; (try simp at this); omega))
  exact bodyPost_ret (results_tmp2 rfl _ _ _) rfl ⟨rfl, bcall (bal (b0 w) _) hbw1⟩
theorem refHashOut_any (big last : Bool) (m : Int) (p : Pr) (ls lp key : List UInt8) (Ak Ad : Option Addr) (nk ck nd cd : Nat) (w : World) (hc : chk (kOf big) p = 0) (hrs : RS cB w w.heap.size p.salt.A ls) (hrp : RS cB w w.heap.size p.pers.A lp)
    (hk : key.length = nk) (hkk : nk = 0 ∨ (nk : Int) = p.key) (hrk : RS cB w w.heap.size Ak key) (hm : m < 1 ∨ (bOf big : Int) < m) :
    Calls Tryz.prog 18 #[.int .i64 (kOf big), p.v, .slice Ak nk ck, .bool last, .int .i64 m, .slice Ad nd cd] w fun r w' => r = .returned (.tuple #[.slice none 0 0, .int .i64 1]) ∧ Below w.heap.size w w' := by
  have hnew := fun W hrs hrp hrk => refNew_any big p ls lp key Ak nk ck W hc hrs hrp hk hkk hrk
  have hfu := fun W => refFull_any big W
  have hbo := bOf_le big
  generalize bOf big = bo at *
  obtain ⟨kk, hkq⟩ : ∃ kk, kOf big = kk := ⟨_, rfl⟩
  rw [hkq]
  simp only [hkq] at hnew hfu
  have HNEW := Lib.hid hnew; have HFU := Lib.hid hfu; have HRS := Lib.hid hrs; have HRP := Lib.hid hrp; have HRK := Lib.hid hrk
  clear hnew hfu hrs hrp hrk hc hk hkk hkq
  unfold Pr.v Pr.cs Sl.v at *
  by_cases h1 : m < 1
  · have t1 : decide (m < 1) = true := by simpa using h1
    clear hm
    go_enter Tryz.func18, Tryz.ntmps18
    go_wp2_with (first
      | (go_at_call 76; refine (HNEW.out _ ((HRS.out.alloc (Nat.le_refl _) _).more (by simp)) ((HRP.out.alloc (Nat.le_refl _) _).more (by simp)) ((HRK.out.alloc (Nat.le_refl _) _).more (by simp))).mono ?_; rintro e w1 ⟨q, Am, nm, cm, rfl, hN1, hbw1⟩; (first | refine withN hbw1 ?_ | refine withD hbw1 ?_ | refine with0 hbw1 ?_); intro hcw1 hfw1; have z0w1 : w.heap.size < w1.heap.size := (by have := hbw1.size; (try simp at this); omega))
      | (go_at_call 77; refine (HFU.out _).mono ?_; rintro e2 w2 ⟨rfl, rfl⟩))
    exact bodyPost_ret (results_tmp2 rfl _ _ _) rfl ⟨rfl, bcall (bal (b0 w) _) hbw1⟩
  · have t1 : decide (m < 1) = false := by simpa using h1
    have h2 := hm.resolve_left h1
    have t2 : decide ((bo : Int) < m) = true := by simpa using h2
    clear hm h1
    go_enter Tryz.func18, Tryz.ntmps18
    go_wp2_with (first
      | (go_at_call 76; refine (HNEW.out _ ((HRS.out.alloc (Nat.le_refl _) _).more (by simp)) ((HRP.out.alloc (Nat.le_refl _) _).more (by simp)) ((HRK.out.alloc (Nat.le_refl _) _).more (by simp))).mono ?_; rintro e w1 ⟨q, Am, nm, cm, rfl, hN1, hbw1⟩; (first | refine withN hbw1 ?_ | refine withD hbw1 ?_ | refine with0 hbw1 ?_); intro hcw1 hfw1; have z0w1 : w.heap.size < w1.heap.size := (by have := hbw1.size; (try simp at this); omega))
      | (go_at_call 77; refine (HFU.out _).mono ?_; rintro e2 w2 ⟨rfl, rfl⟩))
    exact bodyPost_ret (results_tmp2 rfl _ _ _) rfl ⟨rfl, bcall (bal (b0 w) _) hbw1⟩
theorem hashBad_any (k : Int) (last : Bool) (m : Int) (p : Pr) (Ak Ad : Option Addr) (nk ck nd cd : Nat) (w : World) (hc : chk k p ≠ 0) :
    Calls Tryz.prog 16 #[.int .i64 k, p.v, .slice Ak nk ck, .bool last, .int .i64 m, .slice Ad nd cd] w fun r w' => r = .returned (.tuple #[.slice none 0 0, .int .i64 (chk k p)]) ∧ Below w.heap.size w w' := by
  have hnew := fun W => newBad_any k p Ak nk ck W hc
  have t0 : (chk k p == 0) = false := by simpa using hc
  have t1 : (chk k p != 0) = true := by simpa using hc
  obtain ⟨r, hr⟩ : ∃ r, r = chk k p := ⟨_, rfl⟩
  rw [← hr] at t0 t1 ⊢
  simp only [← hr] at hnew
  have HNEW := Lib.hid hnew; clear hnew hr hc
  unfold Pr.v Pr.cs Sl.v at *
  go_enter Tryz.func16, Tryz.ntmps16
  go_wp2_with (go_at_call 74; refine (HNEW.out _).mono ?_; rintro e w1 ⟨rfl, hbw1⟩; (first | refine withN hbw1 ?_ | refine withD hbw1 ?_ | refine with0 hbw1 ?_); intro hcw1 hfw1; have z0w1 : w.heap.size < w1.heap.size := (by have := hbw1.size; (try simp at this); omega))
  exact bodyPost_ret (results_tmp2 rfl _ _ _) rfl ⟨rfl, bcall (bal (b0 w) _) hbw1⟩
end Go.Proofs.YtgephdbicbmpeaaGreat

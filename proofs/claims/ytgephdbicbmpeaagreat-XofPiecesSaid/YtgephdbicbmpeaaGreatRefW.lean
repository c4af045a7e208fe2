/-
  Words and Start, of the reference. Contracts alone; no statement is claimed here.
-/
import Derived.Test.YtgephdbicbmpeaaGreatRefA
import Derived.Test.YtgephdbicbmpeaaGreatMixB
import Derived.Test.YtgephdbicbmpeaaGreatLoadR
namespace Go.Proofs.YtgephdbicbmpeaaGreat
open Go.RowKit
attribute [local go_sem] pureUpon Ords.of

set_option maxRecDepth 20000 in
set_option maxHeartbeats 2000000 in
theorem refWords_any (A : Option Addr) (c : Nat) (x : List UInt8) (w : World) (hx : x.length = 128) (hr : RS cB w w.heap.size A x) :
    Calls Tryz.prog 185 #[.slice A 128 c] w fun e w' => e = .returned (.tuple #[.agg (wcs (wordsOf x 16)), .int .i64 0]) ∧ Below w.heap.size w w' := by
  have HX := Lib.hid hx; have HR := Lib.hid hr; clear hx hr
  obtain ⟨M, hM⟩ : ∃ M, M = wordsOf x 16 := ⟨_, rfl⟩
  have hMl : M.length = 16 := by rw [hM, wordsOf_len]
  rw [← hM]
  have HM := Lib.hid hM; have HML := Lib.hid hMl; clear hM hMl
  have hu := Lib.hid Tryz.underlying121
  have sM := Lib.hid (sz16w M HML.out)
  have aM := Lib.hid (wcs_all M)
  have hoM : Hid ((wcs (fillU M 0 16)).size = (wcs M).size) := by show _ = _; rw [wcs_size, wcs_size, fillU_len _ _ _ (by omega) HML.out, HML.out]
  go_enter Tryz.func185, Tryz.ntmps185
  go_upto_region 4 with fail
  have n0 : Blk ((w.alloc (.cells z16 121)).alloc (.cells z16 121)) w.heap.size 121 (wcs (fillU M 0 16)) := by rw [fillU_none]; exact (Blk.new _ _ _).alloc _
  have n1 : Blk ((w.alloc (.cells z16 121)).alloc (.cells z16 121)) (w.heap.size + 1) 121 (wcs (fillU M 0 16)) := by
    rw [fillU_none]; simpa using Blk.new (w.alloc (.cells z16 121)) 121 z16
  have n4 := bal (bal (b0 w) (.cells z16 121)) (.cells z16 121)
  unfold z16 at n0 n1 n4
  obtain ⟨b, hb⟩ : ∃ b, b = w.heap.size := ⟨_, rfl⟩
  rw [← hb] at n0 n1 ⊢
  generalize (w.alloc (.cells #[.int .u64 0, .int .u64 0, .int .u64 0, .int .u64 0, .int .u64 0, .int .u64 0, .int .u64 0, .int .u64 0, .int .u64 0, .int .u64 0, .int .u64 0, .int .u64 0, .int .u64 0, .int .u64 0, .int .u64 0, .int .u64 0] 121)).alloc (.cells #[.int .u64 0, .int .u64 0, .int .u64 0, .int .u64 0, .int .u64 0, .int .u64 0, .int .u64 0, .int .u64 0, .int .u64 0, .int .u64 0, .int .u64 0, .int .u64 0, .int .u64 0, .int .u64 0, .int .u64 0, .int .u64 0] 121) = w0 at *
  have N0 := Lib.hid n0; have N1 := Lib.hid n1; have N4 := Lib.hid n4; have hwb : Hid (w.heap.size ≤ b) := by (show _ ≤ _; omega)
  clear n0 n1 n4 hb
  go_wp2_with fail
  go_loopw [5] (fun i wr => ∃ k : Nat, k ≤ 16 ∧ i = .int .i64 k ∧ Blk wr b 121 (wcs (fillU M 0 16)) ∧ Blk wr (b + 1) 121 (wcs (fillU M k 16)) ∧ Below w.heap.size w wr) (fun i _ => 16 - (intOf i).toNat)
  case atStart => exact ⟨0, by omega, rfl, N0.out, N1.out, N4.out⟩
  case round =>
    clear N0 N1 N4
    obtain ⟨k, hk, rfl, x0, x1, x4⟩ := hrel
    have N0 := Lib.hid x0; have N1 := Lib.hid x1; have N4 := Lib.hid x4; clear x0 x1 x4
    by_cases hlt : k < 16
    · have hl := refLoad_any A c 128 (8 * k) 8 w.heap.size x wr HX.out (by omega) (HR.out.below N4.out) (by omega) (by omega)
      have e8 : ((8 * k : Nat) : Int) = 8 * (k : Int) := by omega
      rw [e8] at hl
      obtain ⟨v, hv⟩ : ∃ v, v = word ((x.drop (8 * k)).take 8) := ⟨_, rfl⟩
      have hmk : M[k]? = some v := by rw [HM.out, wordsOf_at x 16 k hlt, hv]
      rw [← hv] at hl
      have gc : wr.cell? ⟨b + 1, k, none⟩ = some (wv ((fillU M k 16).getD k 0)) := (N1.out.cell k).trans (wcs_get _ _ (by rw [fillU_len _ _ _ hk HML.out]; exact hlt))
      have gf : wr.frozen? ⟨b + 1, k, none⟩ = false := N1.out.frozen k
      generalize wv ((fillU M k 16).getD k 0) = old at gc
      have HL := Lib.hid hl; have HMK := Lib.hid hmk; clear hl hv e8 hmk
      have hki : (k : Int) < 16 := by omega
      go_wp2_with (go_at_call 215; refine HL.out.mono ?_; rintro e w1 ⟨rfl, rfl⟩)
      case roundEnd =>
        have h1 := N1.out.set_ k (wv v)
        rw [fillU_put _ k 16 v hlt HMK.out] at h1
        exact ⟨⟨k + 1, by omega, by go_num, N0.out.far (p := ⟨b + 1, k, none⟩) (by simp) _, h1, bput N4.out (p := ⟨b + 1, k, none⟩) (by have := hwb.out; simp; omega) _⟩, by simp [intOf]; omega⟩
    · obtain rfl : k = 16 := by omega
      clear hlt hk
      have x1 := N1.out
      rw [fillU_all _ 16 HML.out] at x1
      have X1 := Lib.hid x1; clear x1 N1
      go_upto_region 8 with fail
      go_wp2_with (first
        | (refine wpList_load_row rfl 121 _ rfl (b + 1) rfl 121 (wcs M) (0, 0) _ X1.out hu.out rfl sM.out ?_)
        | (refine wpList_store_row rfl 121 _ _ rfl b (wcs M) rfl rfl 121 _ N0.out sM.out hoM.out aM.out ?_))
      exact bodyPost_ret (results_cell_tmp rfl _ _ b _ _ _ rfl (N0.out.row _) hu.out rfl sM.out) rfl ⟨rfl, brow N4.out hwb.out _⟩

set_option maxRecDepth 20000 in
set_option maxHeartbeats 2000000 in
theorem refStart_any (A : Option Addr) (c : Nat) (x : List UInt8) (w : World) (hx : x.length = 64) (hr : RS cB w w.heap.size A x) :
    Calls Tryz.prog 213 #[.slice A 64 c] w fun e w' => e = .returned (.tuple #[.agg (wcs (start64 x)), .int .i64 0]) ∧ Below w.heap.size w w' := by
  have HX := Lib.hid hx; have HR := Lib.hid hr; clear hx hr
  obtain ⟨S, hS⟩ : ∃ S, S = start64 x := ⟨_, rfl⟩
  have hSl : S.length = 8 := by rw [hS, start64_len]
  have hSk : ∀ k, k < 8 → S[k]? = some (iv64.getD k 0 ^^^ word ((x.drop (8 * k)).take 8)) := by
    intro k hk
    rw [hS]
    exact xorW_at iv64 (wordsOf x 8) k _ _ (getDW iv64 k hk) (wordsOf_at x 8 k hk)
  rw [← hS]
  have hiv := refIV_any
  generalize iv64 = I at *
  have HSK := Lib.hid hSk; have HSL := Lib.hid hSl; have HIV := Lib.hid hiv; clear hS hSl hSk hiv
  have hu := Lib.hid Tryz.underlying252
  have sS := Lib.hid (sz8w S HSL.out)
  have aS := Lib.hid (wcs_all S)
  have e0 : wcs (fillU S 0 8) = z8 := rfl
  have hoS : Hid ((wcs (fillU S 0 8)).size = (wcs S).size) := by show _ = _; rw [wcs_size, wcs_size, fillU_len _ _ _ (by omega) HSL.out, HSL.out]
  go_enter Tryz.func213, Tryz.ntmps213
  go_upto_region 4 with fail
  have n0 : Blk ((w.alloc (.cells z8 252)).alloc (.cells z8 252)) w.heap.size 252 (wcs (fillU S 0 8)) := by rw [e0]; exact (Blk.new _ _ _).alloc _
  have n1 : Blk ((w.alloc (.cells z8 252)).alloc (.cells z8 252)) (w.heap.size + 1) 252 (wcs (fillU S 0 8)) := by
    rw [e0]; simpa using Blk.new (w.alloc (.cells z8 252)) 252 z8
  have n4 := bal (bal (b0 w) (.cells z8 252)) (.cells z8 252)
  clear e0
  unfold z8 at n0 n1 n4
  obtain ⟨b, hb⟩ : ∃ b, b = w.heap.size := ⟨_, rfl⟩
  rw [← hb] at n0 n1 ⊢
  generalize (w.alloc (.cells #[.int .u64 0, .int .u64 0, .int .u64 0, .int .u64 0, .int .u64 0, .int .u64 0, .int .u64 0, .int .u64 0] 252)).alloc (.cells #[.int .u64 0, .int .u64 0, .int .u64 0, .int .u64 0, .int .u64 0, .int .u64 0, .int .u64 0, .int .u64 0] 252) = w0 at *
  have N0 := Lib.hid n0; have N1 := Lib.hid n1; have N4 := Lib.hid n4; have hwb : Hid (w.heap.size ≤ b) := by (show _ ≤ _; omega)
  clear n0 n1 n4 hb
  go_wp2_with fail
  go_loopw [5] (fun i wr => ∃ k : Nat, k ≤ 8 ∧ i = .int .i64 k ∧ Blk wr b 252 (wcs (fillU S 0 8)) ∧ Blk wr (b + 1) 252 (wcs (fillU S k 8)) ∧ Below w.heap.size w wr) (fun i _ => 8 - (intOf i).toNat)
  case atStart => exact ⟨0, by omega, rfl, N0.out, N1.out, N4.out⟩
  case round =>
    clear N0 N1 N4
    obtain ⟨k, hk, rfl, x0, x1, x4⟩ := hrel
    have N0 := Lib.hid x0; have N1 := Lib.hid x1; have N4 := Lib.hid x4; clear x0 x1 x4
    by_cases hlt : k < 8
    · have hl := refLoad_any A c 64 (8 * k) 8 w.heap.size x wr HX.out (by omega) (HR.out.below N4.out) (by omega) (by omega)
      have e8 : ((8 * k : Nat) : Int) = 8 * (k : Int) := by omega
      rw [e8] at hl
      have hsk := HSK.out k hlt
      obtain ⟨v, hv⟩ : ∃ v, v = word ((x.drop (8 * k)).take 8) := ⟨_, rfl⟩
      have hI := fun W => HIV.out k hlt W
      obtain ⟨q, hq⟩ : ∃ q, q = I.getD k 0 := ⟨_, rfl⟩
      rw [← hv] at hl hsk
      rw [← hq] at hsk hI
      have HL := Lib.hid hl; have HSV := Lib.hid hsk; have HI := Lib.hid hI; clear hl hv e8 hsk hq hI
      have h2 := wrd_xor
      have hki : (k : Int) < 8 := by omega
      go_wp2_with (first
        | (go_at_call 215; refine HL.out.mono ?_; rintro e w3 ⟨rfl, rfl⟩)
        | (go_at_call 230; refine (HI.out _).mono ?_; rintro e w4 ⟨rfl, hb4⟩; have n1 := N1.out.below hb4 N1.out.lt; have gc : w4.cell? ⟨b + 1, k, none⟩ = some (wv ((fillU S k 8).getD k 0)) := (n1.cell k).trans (wcs_get _ _ (by rw [fillU_len _ _ _ hk HSL.out]; exact hlt)); have gf : w4.frozen? ⟨b + 1, k, none⟩ = false := n1.frozen k; generalize wv ((fillU S k 8).getD k 0) = old at gc; have N1' := Lib.hid n1; have HB4 := Lib.hid hb4; clear n1 hb4))
      case roundEnd =>
        have h1 := N1'.out.set_ k (wv (q ^^^ v))
        rw [fillU_put _ k 8 _ hlt HSV.out] at h1
        exact ⟨⟨k + 1, by omega, by go_num, (N0.out.below HB4.out N0.out.lt).far (p := ⟨b + 1, k, none⟩) (by simp) _, h1, bput (bcall N4.out HB4.out) (p := ⟨b + 1, k, none⟩) (by have := hwb.out; simp; omega) _⟩, by simp [intOf]; omega⟩
    · obtain rfl : k = 8 := by omega
      clear hlt hk
      have x1 := N1.out
      rw [fillU_all _ 8 HSL.out] at x1
      have X1 := Lib.hid x1; clear x1 N1
      go_upto_region 9 with fail
      go_wp2_with (first
        | (refine wpList_load_row rfl 252 _ rfl (b + 1) rfl 252 (wcs S) (0, 0) _ X1.out hu.out rfl sS.out ?_)
        | (refine wpList_store_row rfl 252 _ _ rfl b (wcs S) rfl rfl 252 _ N0.out sS.out hoS.out aS.out ?_))
      exact bodyPost_ret (results_cell_tmp rfl _ _ b _ _ _ rfl (N0.out.row _) hu.out rfl sS.out) rfl ⟨rfl, brow N4.out hwb.out _⟩
end Go.Proofs.YtgephdbicbmpeaaGreat

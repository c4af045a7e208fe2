/-
  Words and Start, of the reference's smaller half. Contracts alone; no statement is claimed here.
-/
import Derived.Test.YtgephdbicbmpeaaGreatR4B
namespace Go.Proofs.YtgephdbicbmpeaaGreat
open Go.RowKit
attribute [local go_sem] pureUpon Ords.of

set_option maxRecDepth 20000 in
set_option maxHeartbeats 2000000 in
theorem r4Words_any (A : Option Addr) (c : Nat) (x : List UInt8) (w : World) (hx : x.length = 64) (hr : RS cB w w.heap.size A x) :
    Calls Tryz.prog 187 #[.slice A 64 c] w fun e w' => e = .returned (.tuple #[.agg (wc3 (words3 x 16)), .int .i64 0]) ∧ Below w.heap.size w w' := by
  have HX := Lib.hid hx; have HR := Lib.hid hr; clear hx hr
  obtain ⟨M, hM⟩ : ∃ M, M = words3 x 16 := ⟨_, rfl⟩
  have hMl : M.length = 16 := by rw [hM, words3_len]
  rw [← hM]
  have HM := Lib.hid hM; have HML := Lib.hid hMl; clear hM hMl
  have hu := Lib.hid Tryz.underlying257
  have sM := Lib.hid (sz16s M HML.out)
  have aM := Lib.hid (wc3_all M)
  have hoM : Hid ((wc3 (fill3 M 0 16)).size = (wc3 M).size) := by show _ = _; rw [wc3_size, wc3_size, fill3_len _ _ _ (by omega) HML.out, HML.out]
  have e0 : wc3 (fill3 M 0 16) = z16s := rfl
  go_enter Tryz.func187, Tryz.ntmps187
  go_upto_region 2 with fail
  have n0 : Blk ((w.alloc (.cells z16s 257)).alloc (.cells z16s 257)) w.heap.size 257 (wc3 (fill3 M 0 16)) := by rw [e0]; exact (Blk.new _ _ _).alloc _
  have n1 : Blk ((w.alloc (.cells z16s 257)).alloc (.cells z16s 257)) (w.heap.size + 1) 257 (wc3 (fill3 M 0 16)) := by
    rw [e0]; simpa using Blk.new (w.alloc (.cells z16s 257)) 257 z16s
  have n4 := bal (bal (b0 w) (.cells z16s 257)) (.cells z16s 257)
  clear e0
  unfold z16s at n0 n1 n4
  obtain ⟨b, hb⟩ : ∃ b, b = w.heap.size := ⟨_, rfl⟩
  rw [← hb] at n0 n1 ⊢
  generalize (w.alloc (.cells #[.int .u32 0, .int .u32 0, .int .u32 0, .int .u32 0, .int .u32 0, .int .u32 0, .int .u32 0, .int .u32 0, .int .u32 0, .int .u32 0, .int .u32 0, .int .u32 0, .int .u32 0, .int .u32 0, .int .u32 0, .int .u32 0] 257)).alloc (.cells #[.int .u32 0, .int .u32 0, .int .u32 0, .int .u32 0, .int .u32 0, .int .u32 0, .int .u32 0, .int .u32 0, .int .u32 0, .int .u32 0, .int .u32 0, .int .u32 0, .int .u32 0, .int .u32 0, .int .u32 0, .int .u32 0] 257) = w0 at *
  have N0 := Lib.hid n0; have N1 := Lib.hid n1; have N4 := Lib.hid n4; have hwb : Hid (w.heap.size ≤ b) := by (show _ ≤ _; omega)
  clear n0 n1 n4 hb
  go_wp2_with fail
  go_loopw [5] (fun i wr => ∃ k : Nat, k ≤ 16 ∧ i = .int .i64 k ∧ Blk wr b 257 (wc3 (fill3 M 0 16)) ∧ Blk wr (b + 1) 257 (wc3 (fill3 M k 16)) ∧ Below w.heap.size w wr) (fun i _ => 16 - (intOf i).toNat)
  case atStart => exact ⟨0, by omega, rfl, N0.out, N1.out, N4.out⟩
  case round =>
    clear N0 N1 N4
    obtain ⟨k, hk, rfl, x0, x1, x4⟩ := hrel
    have N0 := Lib.hid x0; have N1 := Lib.hid x1; have N4 := Lib.hid x4; clear x0 x1 x4
    by_cases hlt : k < 16
    · have hl := r4load_any A c 64 (4 * k) w.heap.size x wr HX.out (by omega) (HR.out.below N4.out) (by omega)
      have e8 : ((4 * k : Nat) : Int) = 4 * (k : Int) := by omega
      rw [e8] at hl
      obtain ⟨v, hv⟩ : ∃ v, v = word3 ((x.drop (4 * k)).take 4) := ⟨_, rfl⟩
      have hmk : M[k]? = some v := by rw [HM.out, words3_at x 16 k hlt, hv]
      rw [← hv] at hl
      have HL := Lib.hid hl; have HMK := Lib.hid hmk; clear hl hv e8 hmk
      have hki : (k : Int) < 16 := by omega
      have hkd : decide ((k : Int) < 16) = true := by simp; omega
      go_wp2_with (go_at_call 218; refine HL.out.mono ?_; rintro e w4 ⟨rfl, hb4⟩; have n1 := N1.out.below hb4 N1.out.lt; have gc : w4.cell? ⟨b + 1, k, none⟩ = some (wv3 ((fill3 M k 16).getD k 0)) := (n1.cell k).trans (wc3_get _ _ (by rw [fill3_len _ _ _ hk HML.out]; exact hlt)); have gf : w4.frozen? ⟨b + 1, k, none⟩ = false := n1.frozen k; generalize wv3 ((fill3 M k 16).getD k 0) = old at gc; have N1' := Lib.hid n1; have HB4 := Lib.hid hb4; clear n1 hb4)
      go_roundw
      case rel =>
        have h1 := N1'.out.set_ k (wv3 v)
        rw [fill3_put _ k 16 v hlt HML.out HMK.out] at h1
        exact ⟨k + 1, by omega, by go_num, (N0.out.below HB4.out N0.out.lt).far (p := ⟨b + 1, k, none⟩) (by simp) _, h1, bput (bcall N4.out HB4.out) (p := ⟨b + 1, k, none⟩) (by have := hwb.out; simp; omega) _⟩
      case measure => simp [intOf]; omega
    · obtain rfl : k = 16 := by omega
      clear hlt hk
      have x1 := N1.out
      rw [fill3_all _ 16 HML.out] at x1
      have X1 := Lib.hid x1; clear x1 N1
      go_upto_region 10 with fail
      go_wp2_with (first
        | (refine wpList_load_row rfl 257 _ rfl (b + 1) rfl 257 (wc3 M) (0, 0) _ X1.out hu.out rfl sM.out ?_)
        | (refine wpList_store_row rfl 257 _ _ rfl b (wc3 M) rfl rfl 257 _ N0.out sM.out hoM.out aM.out ?_))
      exact bodyPost_ret (results_cell_tmp rfl _ _ b _ _ _ rfl (N0.out.row _) hu.out rfl sM.out) rfl ⟨rfl, brow N4.out hwb.out _⟩

set_option maxRecDepth 20000 in
set_option maxHeartbeats 2000000 in
theorem r4Start_any (A : Option Addr) (c : Nat) (x : List UInt8) (w : World) (hx : x.length = 32) (hr : RS cB w w.heap.size A x) :
    Calls Tryz.prog 214 #[.slice A 32 c] w fun e w' => e = .returned (.tuple #[.agg (wc3 (start32 x)), .int .i64 0]) ∧ Below w.heap.size w w' := by
  have HX := Lib.hid hx; have HR := Lib.hid hr; clear hx hr
  obtain ⟨S, hS⟩ : ∃ S, S = start32 x := ⟨_, rfl⟩
  have hSl : S.length = 8 := by rw [hS, start32_len]
  have hSk : ∀ k, k < 8 → S[k]? = some (iv32.getD k 0 ^^^ word3 ((x.drop (4 * k)).take 4)) := by
    intro k hk
    rw [hS]
    exact xor3W_at iv32 (words3 x 8) k _ _ (getD3 iv32 k hk) (words3_at x 8 k hk)
  rw [← hS]
  have hiv := r4IV_any
  have hil : iv32.length = 8 := rfl
  generalize iv32 = I at *
  have HSK := Lib.hid hSk; have HSL := Lib.hid hSl; have HIV := Lib.hid hiv; have HIL := Lib.hid hil; clear hS hSl hSk hiv hil
  have hu := Lib.hid Tryz.underlying256
  have sS := Lib.hid (sz8s S HSL.out)
  have aS := Lib.hid (wc3_all S)
  have sI := Lib.hid (sz8s I HIL.out)
  have aI := Lib.hid (wc3_all I)
  have hoI : Hid ((wc3 (fill3 S 0 8)).size = (wc3 I).size) := by show _ = _; rw [wc3_size, wc3_size, fill3_len _ _ _ (by omega) HSL.out, HIL.out]
  have e0 : wc3 (fill3 S 0 8) = z8s := rfl
  have hoS : Hid ((wc3 (fill3 S 0 8)).size = (wc3 S).size) := by show _ = _; rw [wc3_size, wc3_size, fill3_len _ _ _ (by omega) HSL.out, HSL.out]
  go_enter Tryz.func214, Tryz.ntmps214
  go_upto_region 2 with fail
  have n0 : Blk ((w.alloc (.cells z8s 256)).alloc (.cells z8s 256)) w.heap.size 256 (wc3 (fill3 S 0 8)) := by rw [e0]; exact (Blk.new _ _ _).alloc _
  have n1 : Blk ((w.alloc (.cells z8s 256)).alloc (.cells z8s 256)) (w.heap.size + 1) 256 (wc3 (fill3 S 0 8)) := by
    rw [e0]; simpa using Blk.new (w.alloc (.cells z8s 256)) 256 z8s
  have n4 := bal (bal (b0 w) (.cells z8s 256)) (.cells z8s 256)
  clear e0
  unfold z8s at n0 n1 n4
  obtain ⟨b, hb⟩ : ∃ b, b = w.heap.size := ⟨_, rfl⟩
  rw [← hb] at n0 n1 ⊢
  generalize (w.alloc (.cells #[.int .u32 0, .int .u32 0, .int .u32 0, .int .u32 0, .int .u32 0, .int .u32 0, .int .u32 0, .int .u32 0] 256)).alloc (.cells #[.int .u32 0, .int .u32 0, .int .u32 0, .int .u32 0, .int .u32 0, .int .u32 0, .int .u32 0, .int .u32 0] 256) = w0 at *
  have N0 := Lib.hid n0; have N1 := Lib.hid n1; have N4 := Lib.hid n4; have hwb : Hid (w.heap.size ≤ b) := by (show _ ≤ _; omega)
  clear n0 n1 n4 hb
  go_upto_region 7 with (first
    | (go_at_call 231; refine (HIV.out _).mono ?_; rintro e w3 ⟨rfl, hb3⟩; have M0 := Lib.hid (N0.out.below hb3 N0.out.lt); have M1 := Lib.hid (N1.out.below hb3 N1.out.lt); have M4 := Lib.hid (bcall N4.out hb3); clear hb3)
    | (refine wpList_store_row rfl 256 _ _ rfl (b + 1) (wc3 I) rfl rfl 256 _ M1.out sI.out hoI.out aI.out ?_))
  have h0 := M0.out.rowFar (k := b + 1) (by omega) (wc3 I)
  have h1 := M1.out.row (wc3 I)
  have h4 := brow M4.out (g := b + 1) (by have := hwb.out; omega) (wc3 I)
  clear N0 N1 N4 M0 M1 M4
  generalize w3.setRow (b + 1) (wc3 I) = w5 at *
  have N0 := Lib.hid h0; have N1 := Lib.hid h1; have N4 := Lib.hid h4; clear h0 h1 h4
  go_wp2_with fail
  go_loopw [5] (fun i wr => ∃ k : Nat, k ≤ 8 ∧ i = .int .i64 k ∧ Blk wr b 256 (wc3 (fill3 S 0 8)) ∧ Blk wr (b + 1) 256 (wc3 (half3 S I k)) ∧ Below w.heap.size w wr) (fun i _ => 8 - (intOf i).toNat)
  case atStart => exact ⟨0, by omega, rfl, N0.out, by simpa [half3] using N1.out, N4.out⟩
  case round =>
    clear N0 N1 N4
    obtain ⟨k, hk, rfl, x0, x1, x4⟩ := hrel
    have N0 := Lib.hid x0; have N1 := Lib.hid x1; have N4 := Lib.hid x4; clear x0 x1 x4
    by_cases hlt : k < 8
    · have hl := fun n => r4load_any A c 32 (4 * k) w.heap.size x (wr.drewN n) HX.out (by omega) ((HR.out.below N4.out).drewN n) (by omega)
      have e8 : ((4 * k : Nat) : Int) = 4 * (k : Int) := by omega
      rw [e8] at hl
      have hsk := HSK.out k hlt
      obtain ⟨v, hv⟩ : ∃ v, v = word3 ((x.drop (4 * k)).take 4) := ⟨_, rfl⟩
      obtain ⟨q, hq⟩ : ∃ q, q = I.getD k 0 := ⟨_, rfl⟩
      rw [← hv] at hl hsk
      rw [← hq] at hsk
      have c1 : wr.cell? ⟨b + 1, k, none⟩ = some (.int .u32 (wr3 q)) := by rw [N1.out.cell, wc3_at' _ k q (by rw [hq]; exact half3_at S I k (by rw [HIL.out]; exact hlt) (by rw [HIL.out, HSL.out]))]
      have HL := Lib.hid hl; have HSV := Lib.hid hsk; clear hl hv e8 hsk hq
      have h2 := wr3_xor
      have hki : (k : Int) < 8 := by omega
      have hkd : decide ((k : Int) < 8) = true := by simp; omega
      have w4' : IntKind.i64.wrap (4 * (k : Int)) = 4 * (k : Int) := by simp [IntKind.wrap, IntKind.bits, IntKind.signed]; omega
      go_wp2_with fail
      refine wp_region_ords (fun _ => True) (fun _ _ h => h) (Ords.of [(0, 0), (0, 1), (0, 2), (0, 4), (0, 5), (0, 6)] (.two 3 7 (Ords.of [(2, 7), (0, 8), (0, 9), (2, 10)] .fin) (Ords.of [(2, 3), (0, 8), (0, 9), (2, 10)] .fin))) (by kernel_rfl) rfl (by kernel_rfl) (by kernel_rfl) (fun c a d v w h => by cases d <;> exact h) trivial ?_
      refine ords_pure rfl (fun K hK => ?_); go_simp; refine hK _ ?_; clear hK K
      refine ords_pure rfl (fun K hK => ?_); go_simp; refine hK _ ?_; clear hK K
      refine ords_pure rfl (fun K hK => ?_); go_simp; refine hK _ ?_; clear hK K
      refine ords_pure rfl (fun K hK => ?_); go_simp; refine hK _ ?_; clear hK K
      refine ords_pure rfl (fun K hK => ?_); go_simp; refine hK _ ?_; clear hK K
      refine ords_pure rfl (fun K hK => ?_); go_simp; refine hK _ ?_; clear hK K
      refine ords_two rfl rfl (fun n1 => ?_) (fun n1 => ?_)
      · go_wp2
        refine ⟨trivial, ?_⟩
        refine ords_loud rfl (fun n2 => ?_)
        go_wp2_with (go_at_call 218; refine (HL.out _).mono ?_; rintro e w4 ⟨rfl, hb4⟩; have m1 := (N1.out.drewN _).below hb4 (N1.out.drewN _).lt; have gc : w4.cell? ⟨b + 1, k, none⟩ = some (.int .u32 (wr3 q)) := by rw [m1.cell, ← N1.out.cell, c1])
        have gf : w4.frozen? ⟨b + 1, k, none⟩ = false := m1.frozen k
        have hms : ∀ n m, Blk (((w4.drewN n).setCell ⟨b + 1, k, none⟩ (wv3 (q ^^^ v))).drewN m) (b + 1) 256 (wc3 (half3 S I (k + 1))) := by
          intro n m
          have h := ((m1.drewN n).set_ k (wv3 (q ^^^ v))).drewN m
          rw [wc3_set, half3_put S I k _ HSV.out (by rw [HSL.out, HIL.out])] at h
          exact h
        have HMS := Lib.hid hms; have HB4 := Lib.hid hb4; have M0 := Lib.hid ((N0.out.drewN _).below hb4 (N0.out.drewN _).lt); have M4 := Lib.hid (bcall (bdr N4.out _) hb4)
        clear m1 hms hb4
        refine ⟨trivial, ?_⟩
        refine ords_pure rfl (fun K hK => ?_); go_simp; refine hK _ ?_; clear hK K
        refine ords_pure rfl (fun K hK => ?_); go_simp; refine hK _ ?_; clear hK K
        refine ords_loud rfl (fun n3 => ?_)
        go_wp2
        refine ⟨trivial, ?_⟩
        refine ords_end (fun n4 => ?_)
        go_wp2_with fail
        go_roundw
        case rel => exact ⟨k + 1, by omega, by go_num, ((M0.out.drewN _).far (p := ⟨b + 1, k, none⟩) (by simp) _).drewN _, HMS.out _ _, bdr (bput (bdr M4.out _) (p := ⟨b + 1, k, none⟩) (by have := hwb.out; simp; omega) _) _⟩
        case measure => simp [intOf]; omega
      · go_wp2_with (go_at_call 218; refine (HL.out _).mono ?_; rintro e w4 ⟨rfl, hb4⟩; have m1 := (N1.out.drewN _).below hb4 (N1.out.drewN _).lt; have gc : w4.cell? ⟨b + 1, k, none⟩ = some (.int .u32 (wr3 q)) := by rw [m1.cell, ← N1.out.cell, c1])
        have gf : w4.frozen? ⟨b + 1, k, none⟩ = false := m1.frozen k
        have hms : ∀ n m, Blk (((w4.drewN n).setCell ⟨b + 1, k, none⟩ (wv3 (q ^^^ v))).drewN m) (b + 1) 256 (wc3 (half3 S I (k + 1))) := by
          intro n m
          have h := ((m1.drewN n).set_ k (wv3 (q ^^^ v))).drewN m
          rw [wc3_set, half3_put S I k _ HSV.out (by rw [HSL.out, HIL.out])] at h
          exact h
        have HMS := Lib.hid hms; have HB4 := Lib.hid hb4; have M0 := Lib.hid ((N0.out.drewN _).below hb4 (N0.out.drewN _).lt); have M4 := Lib.hid (bcall (bdr N4.out _) hb4)
        clear m1 hms hb4
        refine ⟨trivial, ?_⟩
        refine ords_loud rfl (fun n2 => ?_)
        go_wp2
        refine ⟨trivial, ?_⟩
        refine ords_pure rfl (fun K hK => ?_); go_simp; refine hK _ ?_; clear hK K
        refine ords_pure rfl (fun K hK => ?_); go_simp; refine hK _ ?_; clear hK K
        refine ords_loud rfl (fun n3 => ?_)
        go_wp2
        refine ⟨trivial, ?_⟩
        refine ords_end (fun n4 => ?_)
        go_wp2_with fail
        go_roundw
        case rel => exact ⟨k + 1, by omega, by go_num, ((M0.out.drewN _).far (p := ⟨b + 1, k, none⟩) (by simp) _).drewN _, HMS.out _ _, bdr (bput (bdr M4.out _) (p := ⟨b + 1, k, none⟩) (by have := hwb.out; simp; omega) _) _⟩
        case measure => simp [intOf]; omega
    · obtain rfl : k = 8 := by omega
      clear hlt hk
      have x1 := N1.out
      rw [half3_all S I 8 HSL.out HIL.out] at x1
      have X1 := Lib.hid x1; clear x1 N1
      go_upto_region 11 with fail
      go_wp2_with (first
        | (refine wpList_load_row rfl 256 _ rfl (b + 1) rfl 256 (wc3 S) (0, 0) _ X1.out hu.out rfl sS.out ?_)
        | (refine wpList_store_row rfl 256 _ _ rfl b (wc3 S) rfl rfl 256 _ N0.out sS.out hoS.out aS.out ?_))
      exact bodyPost_ret (results_cell_tmp rfl _ _ b _ _ _ rfl (N0.out.row _) hu.out rfl sS.out) rfl ⟨rfl, brow N4.out hwb.out _⟩
end Go.Proofs.YtgephdbicbmpeaaGreat

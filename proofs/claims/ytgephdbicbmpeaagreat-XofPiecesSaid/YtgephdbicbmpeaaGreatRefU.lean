/-
  The reference's hasher: what has passed, Out. Contracts alone; no statement is claimed here.
-/
import Derived.Test.YtgephdbicbmpeaaGreatRefQ
namespace Go.Proofs.YtgephdbicbmpeaaGreat
open Go.RowKit
attribute [local go_sem] pureUpon Ords.of

/-- the state and the count behind j blocks -/
def passTo (n : Nat) (M : List UInt8) (S : HS) : Nat → HS × UInt64 × UInt64
  | 0 => (S, 0, 0)
  | j + 1 => ((passTo n M S j).1.mix (cutL M (j * n) n) (addLo (passTo n M S j).2.1 (UInt64.ofNat n)) (addHi (passTo n M S j).2.1 (passTo n M S j).2.2 (UInt64.ofNat n)) false false, addLo (passTo n M S j).2.1 (UInt64.ofNat n), addHi (passTo n M S j).2.1 (passTo n M S j).2.2 (UInt64.ofNat n))
theorem passTo_k (n : Nat) (M : List UInt8) (S : HS) : ∀ j, (passTo n M S j).1.k = S.k
  | 0 => rfl
  | j + 1 => (HS.mix_k _ _ _ _ _ _).trans (passTo_k n M S j)
theorem passTo_ok (n : Nat) (M : List UInt8) (S : HS) (h : S.Ok) : ∀ j, (passTo n M S j).1.Ok
  | 0 => h
  | _ + 1 => HS.mix_ok _ _ _ _ _ _
theorem wrd_small (n : Nat) (h : n < 18446744073709551616) : wrd (UInt64.ofNat n) = (n : Int) := by rw [wrd_ofNat]; omega
set_option maxRecDepth 20000 in
set_option maxHeartbeats 4000000 in
theorem refPassed_any (base q : Nat) (big : Bool) (p : Pr) (ls lp key : List UInt8) (Ak : Option Addr) (nk ck : Nat) (last : Bool) (msg : List UInt8) (Am : Option Addr) (nm cm : Nat) (cnt : UInt64) (n : Nat) (w : World)
    (hN : RN w base q big p ls lp key Ak nk ck last msg Am nm cm cnt) (hc : chk (kOf big) p = 0) (hf : p.Fit) (hls : ls.length = p.salt.n) (hlp : lp.length = p.pers.n) (hnm : nm ≤ 140737488355328) (hn : n = 2 * bOf big) :
    Calls Tryz.prog 147 #[.pointer (some ⟨q, 0, none⟩)] w fun e w' => ∃ j a S lo hi, passTo n msg (HS.start big (encL big p ls lp)) j = (S, lo, hi) ∧ a = j * n ∧ a ≤ nm ∧ nm ≤ a + n ∧ (j = 0 ∨ a < nm) ∧ e = .returned (.tuple #[.agg (wcs S.words), .int .u64 (wrd lo), .int .u64 (wrd hi), .int .i64 a]) ∧ Below w.heap.size w w' := by
  have hbs : base ≤ w.heap.size := Nat.le_trans hN.lo (Nat.le_of_lt hN.blk.lt)
  have hfi := fun W hrs hrp hb => refFirst_any big q p ls lp (.slice Ak nk ck) (.slice Am nm cm) last cnt W hc hf hls hlp hrs hrp hb
  have hbl := fun W => refBlock_any big W
  rw [← hn] at hbl
  have hn128 : 64 ≤ n ∧ n ≤ 128 := by have := bOf_le big; omega
  have hin := fun (S : HS) (lo hi : UInt64) (A : Option Addr) (c : Nat) (x : List UInt8) (W : World) (hS : S.Ok) (hk : S.k = big) hx hr => refIn_any S A n c x lo hi false false W hS (by rw [hk]; exact hn) hx hr
  have hok := HS.start_ok big (encL big p ls lp)
  have hsk := HS.start_k big (encL big p ls lp)
  obtain ⟨S0, hS0⟩ : ∃ S0, S0 = HS.start big (encL big p ls lp) := ⟨_, rfl⟩
  rw [← hS0]
  simp only [← hS0] at hfi hok hsk
  have hpk := fun j => (passTo_k n msg S0 j).trans hsk
  have hpo := passTo_ok n msg S0 hok
  obtain ⟨u, hu⟩ : ∃ u, u = UInt64.ofNat n := ⟨_, rfl⟩
  have hun : wrd u = (n : Int) := by rw [hu]; exact wrd_small n (by omega)
  have hstep : ∀ j S lo hi, passTo n msg S0 j = (S, lo, hi) → passTo n msg S0 (j + 1) = (S.mix (cutL msg (j * n) n) (addLo lo u) (addHi lo hi u) false false, addLo lo u, addHi lo hi u) := fun j S lo hi h => by
    rw [hu]
    unfold passTo
    rw [h]
  have hadd := fun lo hi W => refAdd_any lo hi u W
  rw [hun] at hadd
  have c31 : w.cell? ⟨q, 31, none⟩ = some (.int .u64 0) := hN.blk.cell 31
  have c32 : w.cell? ⟨q, 32, none⟩ = some (.int .u64 0) := hN.blk.cell 32
  have c0 : w.cell? ⟨q, 0, none⟩ = some (.int .i64 (kOf big)) := hN.blk.cell 0
  have hql := hN.blk.lt
  have hq1 : Hid (∀ W, Below w.heap.size w W → Blk W q 123 (rnCells big p (.slice Ak nk ck) last (.slice Am nm cm) cnt)) := fun W h => hN.blk.below h hql
  have hq0 : Hid (∀ W, Blk W q 123 (rnCells big p (.slice Ak nk ck) last (.slice Am nm cm) cnt) → W.cell? ⟨q, 0, none⟩ = some (.int .i64 (kOf big))) := fun W h => h.cell 0
  have hq33 : Hid (∀ W, Blk W q 123 (rnCells big p (.slice Ak nk ck) last (.slice Am nm cm) cnt) → W.cell? ⟨q, 33, none⟩ = some (.slice Am nm cm)) := fun W h => h.cell 33
  have hms := hN.own.reads
  have HN := Lib.hid hN; have HFI := Lib.hid hfi; have HBL := Lib.hid hbl; have HIN := Lib.hid hin; have HPK := Lib.hid hpk; have HPO := Lib.hid hpo; have HSTEP := Lib.hid hstep; have HADD := Lib.hid hadd; have HMS := Lib.hid hms; have HOK := Lib.hid hok; have HBS := Lib.hid hbs
  clear hN hc hf hls hlp hfi hbl hin hok hsk hS0 hpk hpo hu hun hstep hadd hms hn hbs
  obtain ⟨hn1, hn2⟩ := hn128
  have hu16 := Lib.hid Tryz.underlying121
  have s0 := Lib.hid (sz16w S0.words (HS.words_len HOK.out)); have a0 := Lib.hid (wcs_all S0.words)
  have ho0 : Hid ((wcs (zw 16)).size = (wcs S0.words).size) := by show _ = _; rw [wcs_size, wcs_size, HS.words_len HOK.out]; rfl
  generalize hcells : rnCells big p (.slice Ak nk ck) last (.slice Am nm cm) cnt = CS at *
  clear hcells
  obtain ⟨kk, hkk⟩ : ∃ kk, kOf big = kk := ⟨_, rfl⟩
  rw [hkk] at c0
  simp only [hkk] at HBL hq0
  have HKK := Lib.hid hkk; clear hkk
  go_enter Tryz.func147, Tryz.ntmps147
  go_wp2_with fail
  have n2 : Blk (w.alloc (.cells z16 121)) w.heap.size 121 (wcs (zw 16)) := Blk.new _ _ _
  have n4 := bal (b0 w) (.cells z16 121)
  unfold z16 at n2 n4
  obtain ⟨g2, hg2⟩ : ∃ g, g = w.heap.size := ⟨_, rfl⟩
  rw [← hg2] at n2 ⊢
  generalize w.alloc (.cells #[.int .u64 0, .int .u64 0, .int .u64 0, .int .u64 0, .int .u64 0, .int .u64 0, .int .u64 0, .int .u64 0, .int .u64 0, .int .u64 0, .int .u64 0, .int .u64 0, .int .u64 0, .int .u64 0, .int .u64 0, .int .u64 0] 121) = w0 at *
  have N2 := Lib.hid n2; have N4 := Lib.hid n4; have hwg : Hid (w.heap.size ≤ g2) := by (show _ ≤ _; omega)
  clear n2 n4 hg2
  refine (HFI.out _ (((HN.out.salt.more HBS.out).below N4.out).more N4.out.size) (((HN.out.pers.more HBS.out).below N4.out).more N4.out.size) (hq1.out _ N4.out)).mono ?_
  rintro e1 w1 ⟨rfl, hb1⟩
  have v2 := (N2.out.below hb1 N2.out.lt).alloc (.cells z16 121)
  have v4 := bal (bcall N4.out hb1) (.cells z16 121)
  have n6 : Blk (w1.alloc (.cells z16 121)) w1.heap.size 121 (wcs (zw 16)) := Blk.new _ _ _
  have hw1 : Hid (w.heap.size ≤ w1.heap.size) := (bcall N4.out hb1).size
  have l26 : g2 < w1.heap.size := (N2.out.below hb1 N2.out.lt).lt
  unfold z16 at v2 v4 n6
  have N6 := Lib.hid n6; clear n6 hb1 N2 N4
  go_upto_region 2 with (refine wpList_store_row rfl 121 _ _ rfl w1.heap.size (wcs S0.words) rfl rfl 121 _ N6.out s0.out ho0.out a0.out ?_)
  have n6 := N6.out.row (wcs S0.words)
  replace v2 := v2.rowFar (k := w1.heap.size) (by omega) (wcs S0.words); replace v4 := brow v4 (g := w1.heap.size) hw1.out (wcs S0.words)
  clear N6
  obtain ⟨g6, hg6⟩ : ∃ g, g = w1.heap.size := ⟨_, rfl⟩
  have hwg6 : Hid (w.heap.size ≤ g6) := by (show _ ≤ _; rw [hg6]; exact hw1.out)
  rw [← hg6] at n6 v2 v4 l26 ⊢
  generalize (w1.alloc (.cells #[.int .u64 0, .int .u64 0, .int .u64 0, .int .u64 0, .int .u64 0, .int .u64 0, .int .u64 0, .int .u64 0, .int .u64 0, .int .u64 0, .int .u64 0, .int .u64 0, .int .u64 0, .int .u64 0, .int .u64 0, .int .u64 0] 121)).setRow g6 (wcs S0.words) = w2 at *
  have hlg6 : q < g6 := by have := hwg6.out; omega
  clear hg6 hw1
  have d31 : w2.cell? ⟨q, 31, none⟩ = some (.int .u64 0) := (v4.cell (p := ⟨q, 31, none⟩) hql).trans c31
  have d32 : w2.cell? ⟨q, 32, none⟩ = some (.int .u64 0) := (v4.cell (p := ⟨q, 32, none⟩) hql).trans c32
  have d0 : w2.cell? ⟨q, 0, none⟩ = some (.int .i64 kk) := (v4.cell (p := ⟨q, 0, none⟩) hql).trans c0
  have N2 := Lib.hid v2; have N4 := Lib.hid v4; have N6 := Lib.hid n6; clear v2 v4 n6 c31 c32 c0
  go_wp2_with (go_at_call 152; refine (HBL.out _).mono ?_; rintro e2 w3 ⟨rfl, rfl⟩)
  clear d31 d32 d0
  go_loopw [7, 8, 10] (fun l h i wr => ∃ (j a : Nat) (S : HS) (lo hi : UInt64), passTo n msg S0 j = (S, lo, hi) ∧ a = j * n ∧ a ≤ nm ∧ (j = 0 ∨ a < nm) ∧ l = .int .u64 (wrd lo) ∧ h = .int .u64 (wrd hi) ∧ i = .int .i64 a ∧ Blk wr g2 121 (wcs (zw 16)) ∧ Blk wr g6 121 (wcs S.words) ∧ Below w.heap.size w wr) (fun _ _ i _ => nm - (intOf i).toNat)
  case atStart => exact ⟨0, 0, S0, 0, 0, rfl, (Nat.zero_mul _).symm, Nat.zero_le _, .inl rfl, rfl, rfl, rfl, N2.out, N6.out, N4.out⟩
  case round =>
    clear N2 N4 N6
    obtain ⟨j, a, S, lo, hi, hP, ha, han, hj0, rfl, rfl, rfl, x2, x6, x4⟩ := hrel
    have N2 := Lib.hid x2; have N4 := Lib.hid x4; have N6 := Lib.hid x6; clear x2 x4 x6
    have HQ := Lib.hid (hq1.out _ N4.out)
    have d0 : wr.cell? ⟨q, 0, none⟩ = some (.int .i64 kk) := hq0.out _ HQ.out
    have d33 : wr.cell? ⟨q, 33, none⟩ = some (.slice Am nm cm) := hq33.out _ HQ.out
    have hSo : S.Ok := by have := HPO.out j; rw [hP] at this; exact this
    have hSk : S.k = big := by have := HPK.out j; rw [hP] at this; exact this
    have hqr : q < wr.heap.size := HQ.out.lt
    have HP := Lib.hid hP; have HA := Lib.hid ha; have HJ0 := Lib.hid hj0; clear hP ha hj0
    obtain ⟨a', ha'⟩ : ∃ a', a' = a + n := ⟨_, rfl⟩
    have e1 : (a : Int) + (n : Int) = (a' : Int) := by omega
    have e2 : IntKind.i64.wrap (a' : Int) = a' := by simp [IntKind.wrap, IntKind.bits, IntKind.signed]; omega
    have HA' := Lib.hid ha'
    have sS := Lib.hid (sz16w S.words (HS.words_len hSo))
    by_cases hlt : a' < nm
    · have hkd : decide ((a' : Int) < nm) = true := by simp; omega
      have hnw : IntKind.u64.wrap (n : Int) = n := by rw [wrap_u64]; omega
      have hadd := fun W => HADD.out lo hi W
      obtain ⟨lo', hlo'⟩ : ∃ l, l = addLo lo u := ⟨_, rfl⟩
      obtain ⟨hi', hhi'⟩ : ∃ l, l = addHi lo hi u := ⟨_, rfl⟩
      have hcut := fun W hr => refCut_any Am nm cm a n msg W HN.out.len hnm han (by omega) hr
      have hcl := cutL_len msg a n
      have hin := fun A c W hr => HIN.out S lo' hi' A c (cutL msg a n) W hSo hSk hcl hr
      have hst := HSTEP.out j S lo hi HP.out
      simp only [← hlo', ← hhi'] at hadd
      rw [← hlo', ← hhi', ← HA.out] at hst
      obtain ⟨S', hS'⟩ : ∃ S', S' = S.mix (cutL msg a n) lo' hi' false false := ⟨_, rfl⟩
      have hSo' : S'.Ok := by rw [hS']; exact HS.mix_ok _ _ _ _ _ _
      rw [← hS'] at hst
      simp only [← hS'] at hin
      rw [hSk, HKK.out] at hin
      generalize cutL msg a n = X at *
      have HCUT := Lib.hid hcut; have HIN' := Lib.hid hin; have HST := Lib.hid hst; have HAD := Lib.hid hadd
      have sS' := Lib.hid (sz16w S'.words (HS.words_len hSo')); have aS' := Lib.hid (wcs_all S'.words)
      have hoS : Hid ((wcs S.words).size = (wcs S'.words).size) := by show _ = _; rw [wcs_size, wcs_size, HS.words_len hSo, HS.words_len hSo']
      clear hadd hcut hcl hin hst hlo' hhi' hS' hSo' hSo hSk ha'
      go_wp2_with (go_at_call 148; refine (HAD.out _).mono ?_; rintro e3 w3 ⟨bb, rfl, rfl⟩)
      refine wp_region_ords (fun w' => Blk w' q 123 CS) (fun _ n h => h.drewN n) (Ords.of [(0, 0), (0, 1), (0, 2), (0, 3), (0, 5), (0, 6), (0, 7), (0, 8), (0, 9), (0, 10), (0, 12), (0, 13)] (.two 4 11 (Ords.of [(2, 11), (2, 14), (2, 15)] .fin) (Ords.of [(2, 4), (2, 14), (2, 15)] .fin))) (by kernel_rfl) rfl (by kernel_rfl) (by kernel_rfl) (fun c a d v w h => by cases d <;> exact h) HQ.out ?_
      refine ords_pure rfl (fun K hK => ?_); go_simp; refine hK _ ?_; clear hK K
      refine ords_pure rfl (fun K hK => ?_); go_simp; refine hK _ ?_; clear hK K
      refine ords_pure rfl (fun K hK => ?_); go_simp; refine hK _ ?_; clear hK K
      refine ords_heldK rfl (fun K K2 hK hK2 => ?_); go_simp; refine ⟨hK2 _ (fun w9 hS => ?_), hK _ ?_⟩; (clear hK hK2 K K2; have q0 := hq0.out w9 hS; have q1 := hq33.out w9 hS; go_simp); (clear hK hK2 K K2)
      refine ords_pure rfl (fun K hK => ?_); go_simp; refine hK _ ?_; clear hK K
      refine ords_pure rfl (fun K hK => ?_); go_simp; refine hK _ ?_; clear hK K
      refine ords_pure rfl (fun K hK => ?_); go_simp; refine hK _ ?_; clear hK K
      refine ords_heldK rfl (fun K K2 hK hK2 => ?_); go_simp; refine ⟨hK2 _ (fun w9 hS => ?_), hK _ ?_⟩; (clear hK hK2 K K2; have q0 := hq0.out w9 hS; have q1 := hq33.out w9 hS; go_simp); (clear hK hK2 K K2)
      refine ords_pure rfl (fun K hK => ?_); go_simp; refine hK _ ?_; clear hK K
      refine ords_pure rfl (fun K hK => ?_); go_simp; refine hK _ ?_; clear hK K
      refine ords_pure rfl (fun K hK => ?_); go_simp; refine hK _ ?_; clear hK K
      refine ords_pure rfl (fun K hK => ?_); go_simp; refine hK _ ?_; clear hK K
      refine ords_two rfl rfl (fun n1 => ?_) (fun n1 => ?_)
      · go_wp2_with (first | (refine wpList_load_row rfl 121 _ rfl g6 rfl 121 (wcs S.words) (0, 0) _ (N6.out.drewN _) hu16.out rfl sS.out ?_) | (refine wpList_load_row rfl 121 _ rfl g6 rfl 121 (wcs S.words) (0, 0) _ (M6.out.drewN _) hu16.out rfl sS.out ?_))
        refine ⟨by first | exact HQ.out.drewN _ | exact MQ.out.drewN _, ?_⟩
        refine ords_loud rfl (fun n2 => ?_)
        go_wp2_with (go_at_call 151; refine (HCUT.out _ (((HMS.out.below N4.out).more N4.out.size).drewN _)).mono ?_; rintro e4 w4 ⟨A4, c4, rfl, ho4, hb4⟩)
        have HO4 := Lib.hid ho4; have M2 := Lib.hid ((N2.out.drewN _).below hb4 (N2.out.drewN _).lt); have M6 := Lib.hid ((N6.out.drewN _).below hb4 (N6.out.drewN _).lt); have M4 := Lib.hid (bcall (bdr N4.out _) hb4); have MQ := Lib.hid ((HQ.out.drewN _).below hb4 (HQ.out.drewN _).lt); clear ho4 hb4
        refine ⟨MQ.out, ?_⟩
        refine ords_loud rfl (fun n3 => ?_)
        go_wp2_with (go_at_call 150; refine (HIN'.out A4 c4 _ (HO4.out.reads.drewN _)).mono ?_; rintro e5 w5 ⟨rfl, hb5⟩)
        have K2 := Lib.hid ((M2.out.drewN _).below hb5 (M2.out.drewN _).lt); have K6 := Lib.hid ((M6.out.drewN _).below hb5 (M6.out.drewN _).lt); have K4 := Lib.hid (bcall (bdr M4.out _) hb5); have KQ := Lib.hid ((MQ.out.drewN _).below hb5 (MQ.out.drewN _).lt); clear hb5
        refine ⟨KQ.out, ?_⟩
        refine ords_loud rfl (fun n4 => ?_)
        go_wp2_with (refine wpList_store_row rfl 121 _ _ rfl g6 (wcs S'.words) rfl rfl 121 _ (K6.out.drewN _) sS'.out hoS.out aS'.out ?_)
        refine ⟨(KQ.out.drewN _).rowFar (by omega) _, ?_⟩
        refine ords_end (fun n5 => ?_)
        go_wp2_with fail
        go_roundw
        case rel => exact ⟨j + 1, a', S', lo', hi', HST.out, by have h1 := HA.out; have h2 := HA'.out; rw [Nat.succ_mul]; omega, by omega, .inr hlt, rfl, rfl, rfl, ((K2.out.drewN _).rowFar (by omega) _).drewN _, ((K6.out.drewN _).row _).drewN _, bdr (brow (bdr K4.out _) hwg6.out _) _⟩
        case measure => have := HA'.out; simp [intOf]; omega
      · go_wp2_with (go_at_call 151; refine (HCUT.out _ (((HMS.out.below N4.out).more N4.out.size).drewN _)).mono ?_; rintro e4 w4 ⟨A4, c4, rfl, ho4, hb4⟩)
        have HO4 := Lib.hid ho4; have M2 := Lib.hid ((N2.out.drewN _).below hb4 (N2.out.drewN _).lt); have M6 := Lib.hid ((N6.out.drewN _).below hb4 (N6.out.drewN _).lt); have M4 := Lib.hid (bcall (bdr N4.out _) hb4); have MQ := Lib.hid ((HQ.out.drewN _).below hb4 (HQ.out.drewN _).lt); clear ho4 hb4
        refine ⟨MQ.out, ?_⟩
        refine ords_loud rfl (fun n2 => ?_)
        go_wp2_with (first | (refine wpList_load_row rfl 121 _ rfl g6 rfl 121 (wcs S.words) (0, 0) _ (N6.out.drewN _) hu16.out rfl sS.out ?_) | (refine wpList_load_row rfl 121 _ rfl g6 rfl 121 (wcs S.words) (0, 0) _ (M6.out.drewN _) hu16.out rfl sS.out ?_))
        refine ⟨by first | exact HQ.out.drewN _ | exact MQ.out.drewN _, ?_⟩
        refine ords_loud rfl (fun n3 => ?_)
        go_wp2_with (go_at_call 150; refine (HIN'.out A4 c4 _ (HO4.out.reads.drewN _)).mono ?_; rintro e5 w5 ⟨rfl, hb5⟩)
        have K2 := Lib.hid ((M2.out.drewN _).below hb5 (M2.out.drewN _).lt); have K6 := Lib.hid ((M6.out.drewN _).below hb5 (M6.out.drewN _).lt); have K4 := Lib.hid (bcall (bdr M4.out _) hb5); have KQ := Lib.hid ((MQ.out.drewN _).below hb5 (MQ.out.drewN _).lt); clear hb5
        refine ⟨KQ.out, ?_⟩
        refine ords_loud rfl (fun n4 => ?_)
        go_wp2_with (refine wpList_store_row rfl 121 _ _ rfl g6 (wcs S'.words) rfl rfl 121 _ (K6.out.drewN _) sS'.out hoS.out aS'.out ?_)
        refine ⟨(KQ.out.drewN _).rowFar (by omega) _, ?_⟩
        refine ords_end (fun n5 => ?_)
        go_wp2_with fail
        go_roundw
        case rel => exact ⟨j + 1, a', S', lo', hi', HST.out, by have h1 := HA.out; have h2 := HA'.out; rw [Nat.succ_mul]; omega, by omega, .inr hlt, rfl, rfl, rfl, ((K2.out.drewN _).rowFar (by omega) _).drewN _, ((K6.out.drewN _).row _).drewN _, bdr (brow (bdr K4.out _) hwg6.out _) _⟩
        case measure => have := HA'.out; simp [intOf]; omega
    · have hkd : decide ((a' : Int) < nm) = false := by simp; omega
      have aS := Lib.hid (wcs_all S.words)
      have hoS : Hid ((wcs (zw 16)).size = (wcs S.words).size) := by show _ = _; rw [wcs_size, wcs_size, HS.words_len hSo]; rfl
      clear hSo hSk ha'
      go_wp2_with (first
        | (refine wpList_load_row rfl 121 _ rfl g6 rfl 121 (wcs S.words) (0, 0) _ N6.out hu16.out rfl sS.out ?_)
        | (refine wpList_store_row rfl 121 _ _ rfl g2 (wcs S.words) rfl rfl 121 _ N2.out sS.out hoS.out aS.out ?_))
      exact bodyPost_ret (results_cell_tmp3 rfl _ _ g2 _ _ _ rfl (N2.out.row _) hu16.out rfl sS.out) rfl ⟨j, a, S, lo, hi, HP.out, HA.out, han, by have := HA'.out; omega, HJ0.out, rfl, brow N4.out hwg.out _⟩

/-- the whole output, of what has passed -/
def outR (n : Nat) (msg : List UInt8) (a : Nat) (S : HS) (lo hi : UInt64) (last : Bool) : List UInt8 :=
  (S.mix (cutL msg a n) (addLo lo (UInt64.ofNat (msg.length - a))) (addHi lo hi (UInt64.ofNat (msg.length - a))) true last).bytes
set_option maxRecDepth 20000 in
set_option maxHeartbeats 4000000 in
theorem refOut_any (base q : Nat) (big : Bool) (p : Pr) (ls lp key : List UInt8) (Ak : Option Addr) (nk ck : Nat) (last : Bool) (msg : List UInt8) (Am : Option Addr) (nm cm : Nat) (cnt : UInt64) (n : Nat) (w : World)
    (hN : RN w base q big p ls lp key Ak nk ck last msg Am nm cm cnt) (hc : chk (kOf big) p = 0) (hf : p.Fit) (hls : ls.length = p.salt.n) (hlp : lp.length = p.pers.n) (hnm : nm ≤ 140737488355328) (hn : n = 2 * bOf big) :
    Calls Tryz.prog 79 #[.pointer (some ⟨q, 0, none⟩)] w fun e w' => ∃ j a S lo hi A c, passTo n msg (HS.start big (encL big p ls lp)) j = (S, lo, hi) ∧ a = j * n ∧ a ≤ nm ∧ nm ≤ a + n ∧ (j = 0 ∨ a < nm) ∧ e = .returned (.slice A (bOf big) c) ∧ OS cB w' w.heap.size A c (outR n msg a S lo hi last) ∧ Below w.heap.size w w' := by
  have hpa := refPassed_any base q big p ls lp key Ak nk ck last msg Am nm cm cnt n w hN hc hf hls hlp hnm hn
  have hbl := fun W => refBlock_any big W
  rw [← hn] at hbl
  have hn128 : 64 ≤ n ∧ n ≤ 128 := by have := bOf_le big; omega
  have hin := fun (S : HS) (lo hi : UInt64) (A : Option Addr) (c : Nat) (x : List UInt8) (W : World) (hS : S.Ok) (hk : S.k = big) hx hr => refIn_any S A n c x lo hi true last W hS (by rw [hk]; exact hn) hx hr
  have hok := HS.start_ok big (encL big p ls lp)
  have hsk := HS.start_k big (encL big p ls lp)
  obtain ⟨S0, hS0⟩ : ∃ S0, S0 = HS.start big (encL big p ls lp) := ⟨_, rfl⟩
  rw [← hS0]
  simp only [← hS0] at hpa hok hsk
  have hpk := fun j => (passTo_k n msg S0 j).trans hsk
  have hpo := passTo_ok n msg S0 hok
  have hql := hN.blk.lt
  have hq1 : Hid (∀ W, Below w.heap.size w W → Blk W q 123 (rnCells big p (.slice Ak nk ck) last (.slice Am nm cm) cnt)) := fun W h => hN.blk.below h hql
  have hq0 : Hid (∀ W, Blk W q 123 (rnCells big p (.slice Ak nk ck) last (.slice Am nm cm) cnt) → W.cell? ⟨q, 0, none⟩ = some (.int .i64 (kOf big))) := fun W h => h.cell 0
  have hq13 : Hid (∀ W, Blk W q 123 (rnCells big p (.slice Ak nk ck) last (.slice Am nm cm) cnt) → W.cell? ⟨q, 13, none⟩ = some (.bool last)) := fun W h => h.cell 13
  have hq33 : Hid (∀ W, Blk W q 123 (rnCells big p (.slice Ak nk ck) last (.slice Am nm cm) cnt) → W.cell? ⟨q, 33, none⟩ = some (.slice Am nm cm)) := fun W h => h.cell 33
  have hms := hN.own.reads
  have HLM := Lib.hid hN.len; have HPA := Lib.hid hpa; have HBL := Lib.hid hbl; have HIN := Lib.hid hin; have HPK := Lib.hid hpk; have HPO := Lib.hid hpo; have HMS := Lib.hid hms
  clear hN hc hf hls hlp hpa hbl hin hok hsk hS0 hpk hpo hms hn
  obtain ⟨hn1, hn2⟩ := hn128
  have hu16 := Lib.hid Tryz.underlying121
  generalize hcells : rnCells big p (.slice Ak nk ck) last (.slice Am nm cm) cnt = CS at *
  clear hcells
  obtain ⟨kk, hkk⟩ : ∃ kk, kOf big = kk := ⟨_, rfl⟩
  simp only [hkk] at HBL hq0
  have HKK := Lib.hid hkk; clear hkk
  go_enter Tryz.func79, Tryz.ntmps79
  go_wp2_with fail
  refine HPA.out.mono ?_
  rintro e1 w1 ⟨j, a, S, lo, hi, hP, ha, han, hna, hj0, rfl, hb1⟩
  have hSo : S.Ok := by have := HPO.out j; rw [hP] at this; exact this
  have hSk : S.k = big := by have := HPK.out j; rw [hP] at this; exact this
  have HP := Lib.hid hP; have HA := Lib.hid ha; have HJ0 := Lib.hid hj0; clear hP ha hj0
  have v4 := bal hb1 (.cells z16 121)
  have n3 : Blk (w1.alloc (.cells z16 121)) w1.heap.size 121 (wcs (zw 16)) := Blk.new _ _ _
  have hw1 : Hid (w.heap.size ≤ w1.heap.size) := hb1.size
  have sS := Lib.hid (sz16w S.words (HS.words_len hSo)); have aS := Lib.hid (wcs_all S.words)
  have hoS : Hid ((wcs (zw 16)).size = (wcs S.words).size) := by show _ = _; rw [wcs_size, wcs_size, HS.words_len hSo]; rfl
  unfold z16 at v4 n3
  have N3 := Lib.hid n3; clear n3 hb1
  go_upto_region 2 with (refine wpList_store_row rfl 121 _ _ rfl w1.heap.size (wcs S.words) rfl rfl 121 _ N3.out sS.out hoS.out aS.out ?_)
  have n3 := N3.out.row (wcs S.words)
  replace v4 := brow v4 (g := w1.heap.size) hw1.out (wcs S.words)
  clear N3
  obtain ⟨g3, hg3⟩ : ∃ g, g = w1.heap.size := ⟨_, rfl⟩
  rw [← hg3] at n3 v4 ⊢
  generalize (w1.alloc (.cells #[.int .u64 0, .int .u64 0, .int .u64 0, .int .u64 0, .int .u64 0, .int .u64 0, .int .u64 0, .int .u64 0, .int .u64 0, .int .u64 0, .int .u64 0, .int .u64 0, .int .u64 0, .int .u64 0, .int .u64 0, .int .u64 0] 121)).setRow g3 (wcs S.words) = w2 at *
  clear hg3 hw1
  have HQ := Lib.hid (hq1.out _ v4)
  have N3 := Lib.hid n3; have N4 := Lib.hid v4; clear n3 v4
  have d0 : w2.cell? ⟨q, 0, none⟩ = some (.int .i64 kk) := hq0.out _ HQ.out
  have d13 : w2.cell? ⟨q, 13, none⟩ = some (.bool last) := hq13.out _ HQ.out
  have d33 : w2.cell? ⟨q, 33, none⟩ = some (.slice Am nm cm) := hq33.out _ HQ.out
  obtain ⟨r, hr⟩ : ∃ r, r = nm - a := ⟨_, rfl⟩
  have e1 : (nm : Int) - (a : Int) = (r : Int) := by omega
  have e2 : IntKind.i64.wrap (r : Int) = r := by simp [IntKind.wrap, IntKind.bits, IntKind.signed]; omega
  have e3 : IntKind.u64.wrap (r : Int) = r := by rw [wrap_u64]; omega
  have hadd := fun W => refAdd_any lo hi (UInt64.ofNat r) W
  rw [wrd_small r (by omega)] at hadd
  obtain ⟨lo', hlo'⟩ : ∃ l, l = addLo lo (UInt64.ofNat r) := ⟨_, rfl⟩
  obtain ⟨hi', hhi'⟩ : ∃ l, l = addHi lo hi (UInt64.ofNat r) := ⟨_, rfl⟩
  have hcut := fun W hr => refCut_any Am nm cm a n msg W HLM.out hnm han (by omega) hr
  have hcl := cutL_len msg a n
  have hin := fun A c W hr => HIN.out S lo' hi' A c (cutL msg a n) W hSo hSk hcl hr
  simp only [← hlo', ← hhi'] at hadd
  obtain ⟨S', hS'⟩ : ∃ S', S' = S.mix (cutL msg a n) lo' hi' true last := ⟨_, rfl⟩
  have hSo' : S'.Ok := by rw [hS']; exact HS.mix_ok _ _ _ _ _ _
  have hSk' : S'.k = big := by rw [hS', HS.mix_k]; exact hSk
  have hby := fun W => refBytes_any S' W hSo'
  rw [hSk', HKK.out] at hby
  have hout : outR n msg a S lo hi last = S'.bytes := by unfold outR; rw [HLM.out, ← hr, ← hlo', ← hhi', ← hS']
  simp only [← hS'] at hin
  rw [hSk, HKK.out] at hin
  generalize cutL msg a n = X at *
  have HCUT := Lib.hid hcut; have HIN' := Lib.hid hin; have HAD := Lib.hid hadd; have HBY := Lib.hid hby; have HOUT := Lib.hid hout
  clear hadd hcut hcl hin hlo' hhi' hS' hSo' hSk' hSo hSk hby hout hr
  go_wp2_with (go_at_call 148; refine (HAD.out _).mono ?_; rintro e3 w3 ⟨bb, rfl, rfl⟩)
  refine wp_region_ords (fun w' => Blk w' q 123 CS ∧ Blk w' g3 121 (wcs S.words)) (fun _ n h => ⟨h.1.drewN n, h.2.drewN n⟩) (Ords.of [(0, 0), (0, 1), (0, 2), (0, 3), (0, 4), (0, 5), (0, 6), (0, 7), (0, 8), (0, 9), (0, 10), (0, 11), (0, 12), (0, 13), (0, 14), (0, 15), (0, 16), (0, 17), (0, 20), (0, 21), (0, 22), (0, 23), (0, 24), (0, 25), (2, 18), (2, 19), (2, 26), (2, 27), (0, 28)] .fin) (by kernel_rfl) rfl (by kernel_rfl) (by kernel_rfl) (fun c a d v w h => by cases d <;> exact h) ⟨HQ.out, N3.out⟩ ?_
  refine ords_pure rfl (fun K hK => ?_); go_simp; refine hK _ ?_; clear hK K
  refine ords_pure rfl (fun K hK => ?_); go_simp; refine hK _ ?_; clear hK K
  refine ords_pure rfl (fun K hK => ?_); go_simp; refine hK _ ?_; clear hK K
  refine ords_heldK rfl (fun K K2 hK hK2 => ?_); go_simp; refine ⟨hK2 _ (fun w9 hS => ?_), hK _ ?_⟩; (clear hK hK2 K K2; have q0 := hq0.out w9 hS.1; have q1 := hq33.out w9 hS.1; have q2 := hq13.out w9 hS.1; go_simp); (clear hK hK2 K K2)
  refine ords_pure rfl (fun K hK => ?_); go_simp; refine hK _ ?_; clear hK K
  refine ords_pure rfl (fun K hK => ?_); go_simp; refine hK _ ?_; clear hK K
  refine ords_pure rfl (fun K hK => ?_); go_simp; refine hK _ ?_; clear hK K
  refine ords_heldK rfl (fun K K2 hK hK2 => ?_); go_simp; refine ⟨hK2 _ (fun w9 hS => ?_), hK _ ?_⟩; (clear hK hK2 K K2; have q0 := hq0.out w9 hS.1; have q1 := hq33.out w9 hS.1; have q2 := hq13.out w9 hS.1; go_simp); (clear hK hK2 K K2)
  refine ords_held (v := Value.agg (wcs S.words)) rfl rfl (fun w9 hS => pure_load_mid 121 (.tmp 3) rfl g3 0 rfl (wcs S.words).toList _ hS.2.whole hu16.out rfl (by rw [Array.length_toList]; exact sS.out)) ?_; go_simp
  refine ords_pure rfl (fun K hK => ?_); go_simp; refine hK _ ?_; clear hK K
  refine ords_pure rfl (fun K hK => ?_); go_simp; refine hK _ ?_; clear hK K
  refine ords_pure rfl (fun K hK => ?_); go_simp; refine hK _ ?_; clear hK K
  refine ords_heldK rfl (fun K K2 hK hK2 => ?_); go_simp; refine ⟨hK2 _ (fun w9 hS => ?_), hK _ ?_⟩; (clear hK hK2 K K2; have q0 := hq0.out w9 hS.1; have q1 := hq33.out w9 hS.1; have q2 := hq13.out w9 hS.1; go_simp); (clear hK hK2 K K2)
  refine ords_pure rfl (fun K hK => ?_); go_simp; refine hK _ ?_; clear hK K
  refine ords_pure rfl (fun K hK => ?_); go_simp; refine hK _ ?_; clear hK K
  refine ords_pure rfl (fun K hK => ?_); go_simp; refine hK _ ?_; clear hK K
  refine ords_pure rfl (fun K hK => ?_); go_simp; refine hK _ ?_; clear hK K
  refine ords_heldK rfl (fun K K2 hK hK2 => ?_); go_simp; refine ⟨hK2 _ (fun w9 hS => ?_), hK _ ?_⟩; (clear hK hK2 K K2; have q0 := hq0.out w9 hS.1; have q1 := hq33.out w9 hS.1; have q2 := hq13.out w9 hS.1; go_simp); (clear hK hK2 K K2)
  refine ords_pure rfl (fun K hK => ?_); go_simp; refine hK _ ?_; clear hK K
  refine ords_pure rfl (fun K hK => ?_); go_simp; refine hK _ ?_; clear hK K
  refine ords_pure rfl (fun K hK => ?_); go_simp; refine hK _ ?_; clear hK K
  refine ords_pure rfl (fun K hK => ?_); go_simp; refine hK _ ?_; clear hK K
  refine ords_pure rfl (fun K hK => ?_); go_simp; refine hK _ ?_; clear hK K
  refine ords_heldK rfl (fun K K2 hK hK2 => ?_); go_simp; refine ⟨hK2 _ (fun w9 hS => ?_), hK _ ?_⟩; (clear hK hK2 K K2; have q0 := hq0.out w9 hS.1; have q1 := hq33.out w9 hS.1; have q2 := hq13.out w9 hS.1; go_simp); (clear hK hK2 K K2)
  refine ords_loud rfl (fun n1 => ?_)
  go_wp2_with (go_at_call 152; refine (HBL.out _).mono ?_; rintro e4 w4 ⟨rfl, rfl⟩)
  refine ⟨⟨HQ.out.drewN _, N3.out.drewN _⟩, ?_⟩
  refine ords_loud rfl (fun n2 => ?_)
  go_wp2_with (go_at_call 151; refine (HCUT.out _ (((HMS.out.below N4.out).more N4.out.size).drewN _)).mono ?_; rintro e4 w4 ⟨A4, c4, rfl, ho4, hb4⟩)
  have HO4 := Lib.hid ho4; have M3 := Lib.hid ((N3.out.drewN _).below hb4 (N3.out.drewN _).lt); have M4 := Lib.hid (bcall (bdr N4.out _) hb4); have MQ := Lib.hid ((HQ.out.drewN _).below hb4 (HQ.out.drewN _).lt); clear ho4 hb4
  refine ⟨⟨MQ.out, M3.out⟩, ?_⟩
  refine ords_loud rfl (fun n3 => ?_)
  go_wp2_with (go_at_call 150; refine (HIN'.out A4 c4 _ (HO4.out.reads.drewN _)).mono ?_; rintro e5 w5 ⟨rfl, hb5⟩)
  have K3 := Lib.hid ((M3.out.drewN _).below hb5 (M3.out.drewN _).lt); have K4 := Lib.hid (bcall (bdr M4.out _) hb5); have KQ := Lib.hid ((MQ.out.drewN _).below hb5 (MQ.out.drewN _).lt); clear hb5
  refine ⟨⟨KQ.out, K3.out⟩, ?_⟩
  refine ords_loud rfl (fun n4 => ?_)
  go_wp2_with (go_at_call 149; refine (HBY.out _).mono ?_; rintro e6 w6 ⟨A6, c6, rfl, ho6, hb6⟩)
  have HO6 := Lib.hid (ho6.mono (show w.heap.size ≤ _ from K4.out.size)); have L4 := Lib.hid (bcall (bdr K4.out _) hb6); have L3 := Lib.hid ((K3.out.drewN _).below hb6 (K3.out.drewN _).lt); have LQ := Lib.hid ((KQ.out.drewN _).below hb6 (KQ.out.drewN _).lt); clear ho6 hb6
  refine ⟨⟨LQ.out, L3.out⟩, ?_⟩
  refine ords_pure rfl (fun K hK => ?_); go_simp; refine hK _ ?_; clear hK K
  refine ords_end (fun n5 => ?_)
  go_wp2_with fail
  exact bodyPost_ret (results_tmp rfl _ _ _) rfl ⟨j, a, S, lo, hi, A6, c6, HP.out, HA.out, han, hna, HJ0.out, rfl, by rw [HOUT.out]; exact HO6.out.drewN _, bdr L4.out _⟩
end Go.Proofs.YtgephdbicbmpeaaGreat

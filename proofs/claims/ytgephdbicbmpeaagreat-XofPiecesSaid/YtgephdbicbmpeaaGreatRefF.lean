/-
  F, of the reference: a block goes into a state. Contracts alone; no statement is claimed here.
-/
import Derived.Test.YtgephdbicbmpeaaGreatRefI
import Derived.Test.YtgephdbicbmpeaaGreatRefR
namespace Go.Proofs.YtgephdbicbmpeaaGreat
open Go.RowKit
attribute [local go_sem] pureUpon Ords.of

set_option maxRecDepth 20000 in
set_option maxHeartbeats 4000000 in
theorem refF_any (H M : List UInt64) (lo hi : UInt64) (last node : Bool) (w : World) (hH : H.length = 8) (hM : M.length = 16) :
    Calls Tryz.prog 186 #[.agg (wcs H), .agg (wcs M), .int .u64 (wrd lo), .int .u64 (wrd hi), .bool last, .bool node] w fun e w' => e = .returned (.agg (wcs (comp64 H M lo hi last node))) ∧ Below w.heap.size w w' := by
  have HH := Lib.hid hH; have HM := Lib.hid hM
  have hIl := initOf_len H lo hi last node hH
  have hI := fun w => refInit_any H lo hi last node w hH
  unfold comp64
  generalize initOf H lo hi last node = V at *
  have HI := Lib.hid hI; have HVl := Lib.hid hIl; clear hI hIl hH hM
  have hu8 := Lib.hid Tryz.underlying252
  have hu16 := Lib.hid Tryz.underlying121
  have s8 := Lib.hid (sz8w H HH.out)
  have sM := Lib.hid (sz16w M HM.out)
  have sV := Lib.hid (sz16w V HVl.out)
  have aV := Lib.hid (wcs_all V)
  have holdV : Hid ((wcs (zw 16)).size = (wcs V).size) := by show _ = _; rw [wcs_size, wcs_size, HVl.out]; rfl
  go_enter Tryz.func186, Tryz.ntmps186
  go_upto_region 1 with fail
  have n0 : Blk (((w.alloc (.cells (wcs H) 252)).alloc (.cells (wcs M) 121)).alloc (.cells z8 252)) w.heap.size 252 (wcs H) := ((Blk.new _ _ _).alloc _).alloc _
  have n1 : Blk (((w.alloc (.cells (wcs H) 252)).alloc (.cells (wcs M) 121)).alloc (.cells z8 252)) (w.heap.size + 1) 121 (wcs M) := by
    have := (Blk.new (w.alloc (.cells (wcs H) 252)) 121 (wcs M)).alloc (.cells z8 252); simpa using this
  have n3 : Blk (((w.alloc (.cells (wcs H) 252)).alloc (.cells (wcs M) 121)).alloc (.cells z8 252)) (w.heap.size + 1 + 1) 252 (wcs (zw 8)) := by
    have := Blk.new ((w.alloc (.cells (wcs H) 252)).alloc (.cells (wcs M) 121)) 252 z8; show Blk _ _ _ z8; simpa using this
  have n4 := bal (bal (bal (b0 w) (.cells (wcs H) 252)) (.cells (wcs M) 121)) (.cells z8 252)
  obtain ⟨g0, hg0⟩ : ∃ g, g = w.heap.size := ⟨_, rfl⟩
  obtain ⟨g1, hg1⟩ : ∃ g, g = w.heap.size + 1 := ⟨_, rfl⟩
  obtain ⟨g3, hg3⟩ : ∃ g, g = w.heap.size + 1 + 1 := ⟨_, rfl⟩
  unfold z8 at n0 n1 n3 n4
  rw [← hg0] at n0; rw [← hg1] at n1; rw [← hg3] at n3
  rw [← hg3, ← hg1, ← hg0]
  generalize ((w.alloc (.cells (wcs H) 252)).alloc (.cells (wcs M) 121)).alloc (.cells #[.int .u64 0, .int .u64 0, .int .u64 0, .int .u64 0, .int .u64 0, .int .u64 0, .int .u64 0, .int .u64 0] 252) = w4 at *
  have l01 : g0 < g1 := by omega
  have l13 : g1 < g3 := by omega
  have l0 : Hid (w.heap.size ≤ g0) := by show _ ≤ _; omega
  have N0 := Lib.hid n0; have N1 := Lib.hid n1; have N3 := Lib.hid n3; have N4 := Lib.hid n4
  clear n0 n1 n3 n4 hg0 hg1 hg3
  go_wp2_with (refine wpList_load_row rfl 252 _ rfl g0 rfl 252 (wcs H) (0, 0) _ N0.out hu8.out rfl s8.out ?_)
  refine (HI.out _).mono ?_
  rintro e w6 ⟨rfl, hb6⟩
  replace N0 := Lib.hid (N0.out.below hb6 N0.out.lt); replace N1 := Lib.hid (N1.out.below hb6 N1.out.lt); replace N3 := Lib.hid (N3.out.below hb6 N3.out.lt); replace N4 := Lib.hid (bcall N4.out hb6)
  have l36 : g3 < w6.heap.size := N3.out.lt
  clear hb6
  have n6 : Blk (w6.alloc (.cells z16 121)) w6.heap.size 121 (wcs (zw 16)) := Blk.new _ _ _
  have v0 := N0.out.alloc (.cells z16 121); have v1 := N1.out.alloc (.cells z16 121); have v3 := N3.out.alloc (.cells z16 121); have v4 := bal N4.out (.cells z16 121)
  have l6 := N4.out.size
  obtain ⟨g6, hg6⟩ : ∃ g6, g6 = w6.heap.size := ⟨_, rfl⟩
  unfold z16 at n6 v0 v1 v3 v4
  have N6 := Lib.hid n6; have hw6 : Hid (w.heap.size ≤ w6.heap.size) := l6; clear n6 l6
  go_upto_region 2 with (refine wpList_store_row rfl 121 _ _ rfl w6.heap.size (wcs V) rfl rfl 121 _ N6.out sV.out holdV.out aV.out ?_)
  have n6 := N6.out.row (wcs V)
  replace v0 := v0.rowFar (k := w6.heap.size) (by omega) (wcs V); replace v1 := v1.rowFar (k := w6.heap.size) (by omega) (wcs V); replace v3 := v3.rowFar (k := w6.heap.size) (by omega) (wcs V); replace v4 := brow v4 hw6.out (wcs V)
  rw [← hg6] at n6 v0 v1 v3 v4 l36 ⊢
  clear N0 N1 N3 N4 N6 sV holdV aV
  generalize (w6.alloc (.cells #[.int .u64 0, .int .u64 0, .int .u64 0, .int .u64 0, .int .u64 0, .int .u64 0, .int .u64 0, .int .u64 0, .int .u64 0, .int .u64 0, .int .u64 0, .int .u64 0, .int .u64 0, .int .u64 0, .int .u64 0, .int .u64 0] 121)).setRow g6 (wcs V) = w7 at *
  have hl6 : Hid (w.heap.size ≤ g6) := by show _ ≤ _; rw [hg6]; exact hw6.out
  clear hg6 hw6
  have N0 := Lib.hid v0; have N1 := Lib.hid v1; have N3 := Lib.hid v3; have N4 := Lib.hid v4; have N6 := Lib.hid n6; clear v0 v1 v3 v4 n6
  go_wp2_with fail
  go_loopw [14] (fun i wr => ∃ k : Nat, k ≤ 12 ∧ i = .int .i64 k ∧ Blk wr g6 121 (wcs (roundsTo M k V)) ∧ Blk wr g0 252 (wcs H) ∧ Blk wr g1 121 (wcs M) ∧ Blk wr g3 252 (wcs (zw 8)) ∧ Below w.heap.size w wr) (fun i _ => 12 - (intOf i).toNat)
  case atStart => exact ⟨0, by omega, rfl, N6.out, N0.out, N1.out, N3.out, N4.out⟩
  case round =>
    clear N0 N1 N3 N4 N6
    obtain ⟨k, hk, rfl, x6, x0, x1, x3, x4⟩ := hrel
    have N0 := Lib.hid x0; have N1 := Lib.hid x1; have N3 := Lib.hid x3; have N4 := Lib.hid x4; have N6 := Lib.hid x6; clear x0 x1 x3 x4 x6
    by_cases hlt : k < 12
    · have hRl : (roundsTo M k V).length = 16 := by rw [roundsTo_len, HVl.out]
      have hRl1 : (roundsTo M (k + 1) V).length = 16 := by rw [roundsTo_len, HVl.out]
      have hR := fun W => refRound_any k (roundsTo M k V) M W hlt hRl HM.out
      have e : turn64 M k (roundsTo M k V) = roundsTo M (k + 1) V := rfl
      rw [e] at hR
      have HR := Lib.hid hR
      have sR := Lib.hid (sz16w _ hRl)
      have sS := Lib.hid (sz16w _ hRl1)
      have aS := Lib.hid (wcs_all (roundsTo M (k + 1) V))
      have hoS : Hid ((wcs (roundsTo M k V)).size = (wcs (roundsTo M (k + 1) V)).size) := by show _ = _; rw [wcs_size, wcs_size, hRl, hRl1]
      clear hR hRl hRl1 e
      have hkd : decide ((k : Int) < 12) = true := by simp; omega
      go_wp2_with (first
        | (refine wpList_load_row rfl 121 (.tmp 13) rfl g6 rfl 121 (wcs (roundsTo M k V)) (0, 0) _ N6.out hu16.out rfl sR.out ?_)
        | (refine wpList_load_row rfl 121 (.tmp 7) rfl g1 rfl 121 (wcs M) (0, 0) _ N1.out hu16.out rfl sM.out ?_)
        | (go_at_call 217; refine (HR.out _).mono ?_; rintro e w8 ⟨rfl, hb8⟩; have M6 := Lib.hid (N6.out.below hb8 N6.out.lt); have HB8 := Lib.hid hb8; clear hb8)
        | (refine wpList_store_row rfl 121 _ _ rfl g6 (wcs (roundsTo M (k + 1) V)) rfl rfl 121 _ M6.out sS.out hoS.out aS.out ?_))
      go_roundw
      case rel => exact ⟨k + 1, by omega, by go_num, M6.out.row _, (N0.out.below HB8.out N0.out.lt).rowFar (by omega) _, (N1.out.below HB8.out N1.out.lt).rowFar (by omega) _, (N3.out.below HB8.out N3.out.lt).rowFar (by omega) _, brow (bcall N4.out HB8.out) hl6.out _⟩
      case measure => simp [intOf]; omega
    · obtain rfl : k = 12 := by omega
      rw [show ((12 : Nat) : Int) = 12 from rfl]
      clear hlt hk
      obtain ⟨R, hR⟩ : ∃ R, R = roundsTo M 12 V := ⟨_, rfl⟩
      have hRl : R.length = 16 := by rw [hR, roundsTo_len, HVl.out]
      have x6 := N6.out
      rw [← hR] at x6
      obtain ⟨F, hF⟩ : ∃ F, F = outOf H R := ⟨_, rfl⟩
      have hFl : F.length = 8 := by rw [hF, outOf_len]
      have HRl := Lib.hid hRl; have HFl := Lib.hid hFl; have HF := Lib.hid hF; have HR := Lib.hid hR; have X6 := Lib.hid x6; clear hRl hFl hF hR x6 N6
      go_wp2_with fail
      go_loopw [15] (fun i wr => ∃ k : Nat, k ≤ 8 ∧ i = .int .i64 k ∧ Blk wr g0 252 (wcs (halfW F H k)) ∧ Blk wr g6 121 (wcs R) ∧ Blk wr g3 252 (wcs (zw 8)) ∧ Below w.heap.size w wr) (fun i _ => 8 - (intOf i).toNat)
      case atStart => exact ⟨0, by omega, rfl, by simpa [halfW] using N0.out, X6.out, N3.out, N4.out⟩
      case round =>
        clear N0 N1 N3 N4 X6
        obtain ⟨k, hk, rfl, x0, x6, x3, x4⟩ := hrel
        have N0 := Lib.hid x0; have N3 := Lib.hid x3; have N4 := Lib.hid x4; have N6 := Lib.hid x6; clear x0 x3 x4 x6
        by_cases hlt : k < 8
        · have eF := outOf_at H R k hlt
          rw [← HF.out, ← UInt64.xor_assoc] at eF
          obtain ⟨k8, hk8⟩ : ∃ k8, k8 = k + 8 := ⟨_, rfl⟩
          rw [← hk8] at eF
          have e8 : (k : Int) + 8 = (k8 : Int) := by omega
          have w8' : IntKind.i64.wrap (k8 : Int) = k8 := by simp [IntKind.wrap, IntKind.bits, IntKind.signed]; omega
          obtain ⟨p, hp⟩ : ∃ p, p = H.getD k 0 := ⟨_, rfl⟩
          obtain ⟨q, hq⟩ : ∃ q, q = R.getD k 0 := ⟨_, rfl⟩
          obtain ⟨r, hr⟩ : ∃ r, r = R.getD k8 0 := ⟨_, rfl⟩
          have c0 : wr.cell? ⟨g0, k, none⟩ = some (.int .u64 (wrd p)) := by rw [N0.out.cell, wcs_at' _ k p (by rw [hp]; exact halfW_at F H k (by rw [HH.out]; exact hlt) (by rw [HH.out, HFl.out]))]
          have c1 : wr.cell? ⟨g6, k, none⟩ = some (.int .u64 (wrd q)) := by rw [N6.out.cell, wcs_at' _ k q (by rw [hq]; exact getDW R k (by rw [HRl.out]; omega))]
          have c2 : wr.cell? ⟨g6, k8, none⟩ = some (.int .u64 (wrd r)) := by rw [N6.out.cell, wcs_at' _ k8 r (by rw [hr]; exact getDW R k8 (by rw [HRl.out]; omega))]
          have cf : wr.frozen? ⟨g0, k, none⟩ = false := N0.out.frozen k
          rw [← hp, ← hq, ← hr] at eF
          have EF := Lib.hid eF; clear eF hp hq hr
          have h2 := wrd_xor
          have hki : (k : Int) < 8 := by omega
          have hk8i : (k8 : Int) < 16 := by omega
          have hk16 : (k : Int) < 16 := by omega
          have hkd : decide ((k : Int) < 8) = true := by simp; omega
          clear hk8
          go_wp2
          refine wp_region_ords (fun _ => True) (fun _ _ h => h) (Ords.of [(0, 0), (0, 1), (0, 2), (1, 3), (0, 4), (0, 5), (1, 6), (0, 7), (0, 8), (0, 9), (0, 10), (1, 11), (0, 12), (0, 13), (2, 14)] .fin) (by kernel_rfl) rfl (by kernel_rfl) (by kernel_rfl) (fun c a d v w h => by cases d <;> exact h) trivial ?_
          refine ords_pure rfl (fun K hK => ?_); go_simp; refine hK _ ?_; clear hK K
          refine ords_pure rfl (fun K hK => ?_); go_simp; refine hK _ ?_; clear hK K
          refine ords_pure rfl (fun K hK => ?_); go_simp; refine hK _ ?_; clear hK K
          refine ords_read rfl (fun K hK => ?_); go_simp; refine hK _ ?_; clear hK K
          refine ords_pure rfl (fun K hK => ?_); go_simp; refine hK _ ?_; clear hK K
          refine ords_pure rfl (fun K hK => ?_); go_simp; refine hK _ ?_; clear hK K
          refine ords_read rfl (fun K hK => ?_); go_simp; refine hK _ ?_; clear hK K
          refine ords_pure rfl (fun K hK => ?_); go_simp; refine hK _ ?_; clear hK K
          refine ords_pure rfl (fun K hK => ?_); go_simp; refine hK _ ?_; clear hK K
          refine ords_pure rfl (fun K hK => ?_); go_simp; refine hK _ ?_; clear hK K
          refine ords_pure rfl (fun K hK => ?_); go_simp; refine hK _ ?_; clear hK K
          refine ords_read rfl (fun K hK => ?_); go_simp; refine hK _ ?_; clear hK K
          refine ords_pure rfl (fun K hK => ?_); go_simp; refine hK _ ?_; clear hK K
          refine ords_pure rfl (fun K hK => ?_); go_simp; refine hK _ ?_; clear hK K
          refine ords_loud rfl (fun n1 => ?_)
          go_wp2
          first | (refine ⟨trivial, ?_⟩; refine ords_end (fun n2 => ?_)) | (rintro _ ⟨n2, rfl⟩)
          go_wp2_with fail
          go_roundw
          case rel =>
            have h0 := ((N0.out.drewN n1).set_ k (wv (p ^^^ q ^^^ r))).drewN n2
            rw [wcs_set, halfW_put F H k _ EF.out (by rw [HH.out, HFl.out])] at h0
            exact ⟨k + 1, by omega, by go_num, h0, ((N6.out.drewN n1).far (p := ⟨g0, k, none⟩) (by simp; omega) _).drewN n2, ((N3.out.drewN n1).far (p := ⟨g0, k, none⟩) (by simp; omega) _).drewN n2, bdr (bput (bdr N4.out n1) (p := ⟨g0, k, none⟩) l0.out _) n2⟩
          case measure => simp [intOf]; omega
        · obtain rfl : k = 8 := by omega
          clear hlt hk
          have x0 := N0.out
          rw [halfW_all F H 8 HFl.out HH.out] at x0
          have X0 := Lib.hid x0; clear x0 N0
          have sF := Lib.hid (sz8w F HFl.out)
          have aF := Lib.hid (wcs_all F)
          have hoF : Hid ((wcs (zw 8)).size = (wcs F).size) := by show _ = _; rw [wcs_size, wcs_size, HFl.out]; rfl
          have hl3 : Hid (w.heap.size ≤ g3) := by show _ ≤ _; have := l0.out; omega
          go_upto_region 10 with fail
          go_wp2_with (first
            | (refine wpList_load_row rfl 252 _ rfl g0 rfl 252 (wcs F) (0, 0) _ X0.out hu8.out rfl sF.out ?_)
            | (refine wpList_store_row rfl 252 _ _ rfl g3 (wcs F) rfl rfl 252 _ N3.out sF.out hoF.out aF.out ?_))
          have h9 := HF.out
          rw [HR.out] at h9
          rw [← h9]
          exact bodyPost_ret (results_cell_row rfl _ _ g3 _ _ (0, 0) _ rfl (N3.out.row _) hu8.out rfl sF.out) rfl ⟨rfl, brow N4.out hl3.out _⟩
end Go.Proofs.YtgephdbicbmpeaaGreat

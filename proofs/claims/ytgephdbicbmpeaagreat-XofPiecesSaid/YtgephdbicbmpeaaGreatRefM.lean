/-
  A block goes into a state of the reference. Contracts alone; no statement is claimed here.
-/
import Derived.Test.YtgephdbicbmpeaaGreatRefN
import Derived.Test.YtgephdbicbmpeaaGreatRefF
import Derived.Test.YtgephdbicbmpeaaGreatRefW
import Derived.Test.YtgephdbicbmpeaaGreatR4W
namespace Go.Proofs.YtgephdbicbmpeaaGreat
open Go.RowKit
attribute [local go_sem] pureUpon Ords.of

set_option maxRecDepth 20000 in
set_option maxHeartbeats 4000000 in
theorem refInBig_any (H : List UInt64) (A : Option Addr) (c : Nat) (x : List UInt8) (lo hi : UInt64) (last node : Bool) (w : World) (hH : H.length = 8) (hx : x.length = 128) (hr : RS cB w w.heap.size A x) :
    Calls Tryz.prog 150 #[.int .i64 1, .agg (wcs (H ++ zw 8)), .slice A 128 c, .int .u64 (wrd lo), .int .u64 (wrd hi), .bool last, .bool node] w fun e w' => e = .returned (.agg (wcs (comp64 H (wordsOf x 16) lo hi last node ++ zw 8))) ∧ Below w.heap.size w w' := by
  have hMl := wordsOf_len x 16
  have hwo := fun W hr => refWords_any A c x W hx hr
  have hcomp := fun W => refF_any H (wordsOf x 16) lo hi last node W hH hMl
  have hFl := comp64_len H (wordsOf x 16) lo hi last node
  obtain ⟨M, hM⟩ : ∃ M, M = wordsOf x 16 := ⟨_, rfl⟩
  obtain ⟨F, hF⟩ : ∃ F, F = comp64 H (wordsOf x 16) lo hi last node := ⟨_, rfl⟩
  rw [← hF]
  rw [← hF] at hFl
  simp only [← hM] at hMl hwo hcomp hF
  simp only [← hF] at hcomp
  obtain ⟨L, hL⟩ : ∃ L, L = H ++ zw 8 := ⟨_, rfl⟩
  have hLl : L.length = 16 := by rw [hL, List.length_append, hH]; rfl
  obtain ⟨R, hR⟩ : ∃ R, R = F ++ zw 8 := ⟨_, rfl⟩
  have hRl : R.length = 16 := by rw [hR, List.length_append, hFl]; rfl
  have hLH : ∀ k v, k < 8 → H[k]? = some v → L[k]? = some v := fun k v hk h => by rw [hL, List.getElem?_append_left (by omega), h]
  have hRF : ∀ k v, k < 8 → F[k]? = some v → R[k]? = some v := fun k v hk h => by rw [hR, List.getElem?_append_left (by omega), h]
  have hfin : halfW R L 8 = R := by
    unfold halfW
    rw [hR, hL, List.take_left' hFl, List.drop_left' hH]
  rw [← hL, ← hR]
  have HH := Lib.hid hH; have HX := Lib.hid hx; have HRS := Lib.hid hr; have HWO := Lib.hid hwo; have HC := Lib.hid hcomp; have HML := Lib.hid hMl; have HFL := Lib.hid hFl; have HLL := Lib.hid hLl; have HRL := Lib.hid hRl; have HLH := Lib.hid hLH; have HRF := Lib.hid hRF; have HFIN := Lib.hid hfin
  clear hH hx hr hwo hcomp hMl hFl hM hF hL hLl hR hRl hLH hRF hfin
  have hu8 := Lib.hid Tryz.underlying252; have hu16 := Lib.hid Tryz.underlying121
  have s8 := Lib.hid (sz8w H HH.out); have sM := Lib.hid (sz16w M HML.out); have sF := Lib.hid (sz8w F HFL.out); have sR := Lib.hid (sz16w R HRL.out)
  have aM := Lib.hid (wcs_all M); have aF := Lib.hid (wcs_all F); have aR := Lib.hid (wcs_all R)
  have hoM : Hid ((wcs (zw 16)).size = (wcs M).size) := by show _ = _; rw [wcs_size, wcs_size, HML.out]; rfl
  have hoF : Hid ((wcs H).size = (wcs F).size) := by show _ = _; rw [wcs_size, wcs_size, HFL.out, HH.out]
  have hoR : Hid ((wcs (zw 16)).size = (wcs R).size) := by show _ = _; rw [wcs_size, wcs_size, HRL.out]; rfl
  go_enter Tryz.func150, Tryz.ntmps150
  go_upto_region 3 with fail
  have n0 : Blk (((w.alloc (.cells (wcs L) 121)).alloc (.cells z16 121)).alloc (.cells z8 252)) w.heap.size 121 (wcs L) := ((Blk.new _ _ _).alloc _).alloc _
  have n1 : Blk (((w.alloc (.cells (wcs L) 121)).alloc (.cells z16 121)).alloc (.cells z8 252)) (w.heap.size + 1) 121 (wcs (zw 16)) := by
    have := (Blk.new (w.alloc (.cells (wcs L) 121)) 121 z16).alloc (.cells z8 252); show Blk _ _ _ z16; simpa using this
  have n2 : Blk (((w.alloc (.cells (wcs L) 121)).alloc (.cells z16 121)).alloc (.cells z8 252)) (w.heap.size + 1 + 1) 252 (wcs (fillU H 0 8)) := by
    have := Blk.new ((w.alloc (.cells (wcs L) 121)).alloc (.cells z16 121)) 252 z8; show Blk _ _ _ z8; simpa using this
  have n4 := bal (bal (bal (b0 w) (.cells (wcs L) 121)) (.cells z16 121)) (.cells z8 252)
  obtain ⟨g0, hg0⟩ : ∃ g, g = w.heap.size := ⟨_, rfl⟩
  obtain ⟨g1, hg1⟩ : ∃ g, g = w.heap.size + 1 := ⟨_, rfl⟩
  obtain ⟨g2, hg2⟩ : ∃ g, g = w.heap.size + 1 + 1 := ⟨_, rfl⟩
  unfold z16 z8 at n0 n1 n2 n4
  rw [← hg0] at n0; rw [← hg1] at n1; rw [← hg2] at n2
  rw [← hg2, ← hg1, ← hg0]
  generalize ((w.alloc (.cells (wcs L) 121)).alloc (.cells #[.int .u64 0, .int .u64 0, .int .u64 0, .int .u64 0, .int .u64 0, .int .u64 0, .int .u64 0, .int .u64 0, .int .u64 0, .int .u64 0, .int .u64 0, .int .u64 0, .int .u64 0, .int .u64 0, .int .u64 0, .int .u64 0] 121)).alloc (.cells #[.int .u64 0, .int .u64 0, .int .u64 0, .int .u64 0, .int .u64 0, .int .u64 0, .int .u64 0, .int .u64 0] 252) = w4 at *
  have l01 : g0 < g1 := by omega
  have l12 : g1 < g2 := by omega
  have l0 : Hid (w.heap.size ≤ g0) := by show _ ≤ _; omega
  have N0 := Lib.hid n0; have N1 := Lib.hid n1; have N2 := Lib.hid n2; have N4 := Lib.hid n4
  clear n0 n1 n2 n4 hg0 hg1 hg2
  go_wp2_with fail
  go_loopw [16] (fun i wr => ∃ k : Nat, k ≤ 8 ∧ i = .int .i64 k ∧ Blk wr g0 121 (wcs L) ∧ Blk wr g1 121 (wcs (zw 16)) ∧ Blk wr g2 252 (wcs (fillU H k 8)) ∧ Below w.heap.size w wr) (fun i _ => 8 - (intOf i).toNat)
  case atStart => exact ⟨0, by omega, rfl, N0.out, N1.out, N2.out, N4.out⟩
  case round =>
    clear N0 N1 N2 N4
    obtain ⟨k, hk, rfl, x0, x1, x2, x4⟩ := hrel
    have N0 := Lib.hid x0; have N1 := Lib.hid x1; have N2 := Lib.hid x2; have N4 := Lib.hid x4; clear x0 x1 x2 x4
    by_cases hlt : k < 8
    · obtain ⟨u, hu⟩ : ∃ u, u = H.getD k 0 := ⟨_, rfl⟩
      have hHk : H[k]? = some u := by rw [hu]; exact getDW H k (by rw [HH.out]; exact hlt)
      have c0 : wr.cell? ⟨g0, k, none⟩ = some (.int .u64 (wrd u)) := by rw [N0.out.cell, wcs_at' _ k u (HLH.out k u hlt hHk)]
      have c2 : wr.cell? ⟨g2, k, none⟩ = some (wv ((fillU H k 8).getD k 0)) := (N2.out.cell k).trans (wcs_get _ _ (by rw [fillU_len H k 8 hk HH.out]; exact hlt))
      generalize wv ((fillU H k 8).getD k 0) = old at c2
      have f2 : wr.frozen? ⟨g2, k, none⟩ = false := N2.out.frozen k
      have hki : (k : Int) < 8 := by omega
      have hk16 : (k : Int) < 16 := by omega
      have hkd : decide ((k : Int) < 8) = true := by simp; omega
      have hs2 := N2.out.set_ k (wv u)
      rw [fillU_put H k 8 u hlt hHk] at hs2
      have hs0 := N0.out.far (p := ⟨g2, k, none⟩) (by show g0 ≠ g2; omega) (wv u)
      have hs1 := N1.out.far (p := ⟨g2, k, none⟩) (by show g1 ≠ g2; omega) (wv u)
      have hs4 := bput N4.out (p := ⟨g2, k, none⟩) (by have := l0.out; simp; omega) (wv u)
      have HS0 := Lib.hid hs0; have HS1 := Lib.hid hs1; have HS2 := Lib.hid hs2; have HS4 := Lib.hid hs4
      clear hs0 hs1 hs2 hs4 hu hHk N0 N1 N2 N4
      go_wp2_with fail
      go_roundw
      case rel => exact ⟨k + 1, by omega, by go_num, HS0.out, HS1.out, HS2.out, HS4.out⟩
      case measure => simp [intOf]; omega
    · obtain rfl : k = 8 := by omega
      rw [show ((8 : Nat) : Int) = 8 from rfl]
      clear hlt hk
      have x2 := N2.out
      rw [fillU_all H 8 HH.out] at x2
      have M2 := Lib.hid x2; clear x2 N2
      go_wp2_with fail
      refine (HWO.out _ ((HRS.out.below N4.out).more N4.out.size)).mono ?_
      rintro e w5 ⟨rfl, hb5⟩
      have q0 := (N0.out.below hb5 N0.out.lt).alloc (.cells z16 121)
      have q1 := (N1.out.below hb5 N1.out.lt).alloc (.cells z16 121)
      have q2 := (M2.out.below hb5 M2.out.lt).alloc (.cells z16 121)
      have q4 := bal (bcall N4.out hb5) (.cells z16 121)
      have q3 : Blk (w5.alloc (.cells z16 121)) w5.heap.size 121 (wcs (zw 16)) := Blk.new _ _ _
      have hs5 : g2 < w5.heap.size := by have := (M2.out.below hb5 M2.out.lt).lt; omega
      have hw5 : Hid (w.heap.size ≤ w5.heap.size) := (bcall N4.out hb5).size
      unfold z16 at q0 q1 q2 q3 q4
      have Q3 := Lib.hid q3; clear q3 hb5 N0 N1 M2 N4
      go_upto_region 8 with (refine wpList_store_row rfl 121 _ _ rfl w5.heap.size (wcs M) rfl rfl 121 _ Q3.out sM.out hoM.out aM.out ?_)
      have q3 := Q3.out.row (wcs M)
      replace q0 := q0.rowFar (k := w5.heap.size) (by omega) (wcs M); replace q1 := q1.rowFar (k := w5.heap.size) (by omega) (wcs M); replace q2 := q2.rowFar (k := w5.heap.size) (by omega) (wcs M); replace q4 := brow q4 (g := w5.heap.size) hw5.out (wcs M)
      clear Q3
      obtain ⟨g3, hg3⟩ : ∃ g, g = w5.heap.size := ⟨_, rfl⟩
      rw [← hg3] at q0 q1 q2 q3 q4 hs5 ⊢
      generalize (w5.alloc (.cells #[.int .u64 0, .int .u64 0, .int .u64 0, .int .u64 0, .int .u64 0, .int .u64 0, .int .u64 0, .int .u64 0, .int .u64 0, .int .u64 0, .int .u64 0, .int .u64 0, .int .u64 0, .int .u64 0, .int .u64 0, .int .u64 0] 121)).setRow g3 (wcs M) = w6 at *
      have Q0 := Lib.hid q0; have Q1 := Lib.hid q1; have Q2 := Lib.hid q2; have Q3 := Lib.hid q3; have Q4 := Lib.hid q4
      clear q0 q1 q2 q3 q4 hg3 hw5
      go_upto_region 9 with (first
        | (refine wpList_load_row rfl 252 (.tmp 15) rfl g2 rfl 252 (wcs H) (0, 0) _ Q2.out hu8.out rfl s8.out ?_)
        | (refine wpList_load_row rfl 121 (.tmp 17) rfl g3 rfl 121 (wcs M) (0, 0) _ Q3.out hu16.out rfl sM.out ?_)
        | (go_at_call 186; refine (HC.out _).mono ?_; rintro e w7 ⟨rfl, hb7⟩; have R2 := Lib.hid (Q2.out.below hb7 Q2.out.lt); have HB7 := Lib.hid hb7; clear hb7)
        | (refine wpList_store_row rfl 252 _ _ rfl g2 (wcs F) rfl rfl 252 _ R2.out sF.out hoF.out aF.out ?_))
      have q2 := R2.out.row (wcs F)
      have q0 := (Q0.out.below HB7.out Q0.out.lt).rowFar (k := g2) (by omega) (wcs F)
      have q1 := (Q1.out.below HB7.out Q1.out.lt).rowFar (k := g2) (by omega) (wcs F)
      have q4 := brow (bcall Q4.out HB7.out) (g := g2) (by have := l0.out; omega) (wcs F)
      clear Q0 Q1 Q2 Q3 Q4 R2 HB7
      generalize w7.setRow g2 (wcs F) = w8 at *
      have N0 := Lib.hid q0; have N1 := Lib.hid q1; have N2 := Lib.hid q2; have N4 := Lib.hid q4; clear q0 q1 q2 q4
      go_wp2_with fail
      go_loopw [19] (fun i wr => ∃ k : Nat, k ≤ 8 ∧ i = .int .i64 k ∧ Blk wr g0 121 (wcs (halfW R L k)) ∧ Blk wr g1 121 (wcs (zw 16)) ∧ Blk wr g2 252 (wcs F) ∧ Below w.heap.size w wr) (fun i _ => 8 - (intOf i).toNat)
      case atStart => exact ⟨0, by omega, rfl, by simpa [halfW] using N0.out, N1.out, N2.out, N4.out⟩
      case round =>
        clear N0 N1 N2 N4
        obtain ⟨k, hk, rfl, x0, x1, x2, x4⟩ := hrel
        have N0 := Lib.hid x0; have N1 := Lib.hid x1; have N2 := Lib.hid x2; have N4 := Lib.hid x4; clear x0 x1 x2 x4
        by_cases hlt : k < 8
        · obtain ⟨u, hu⟩ : ∃ u, u = F.getD k 0 := ⟨_, rfl⟩
          have hFk : F[k]? = some u := by rw [hu]; exact getDW F k (by rw [HFL.out]; exact hlt)
          have c2 : wr.cell? ⟨g2, k, none⟩ = some (.int .u64 (wrd u)) := by rw [N2.out.cell, wcs_at' _ k u hFk]
          have c0 : wr.cell? ⟨g0, k, none⟩ = some (wv (L.getD k 0)) := (N0.out.cell k).trans (wcs_at' _ k _ (halfW_at R L k (by rw [HLL.out]; omega) (by rw [HLL.out, HRL.out])))
          generalize wv (L.getD k 0) = old at c0
          have f0 : wr.frozen? ⟨g0, k, none⟩ = false := N0.out.frozen k
          have hki : (k : Int) < 8 := by omega
          have hk16 : (k : Int) < 16 := by omega
          have hkd : decide ((k : Int) < 8) = true := by simp; omega
          have hs0 := N0.out.set_ k (wv u)
          rw [wcs_set, halfW_put R L k u (HRF.out k u hlt hFk) (by rw [HLL.out, HRL.out])] at hs0
          have hs1 := N1.out.far (p := ⟨g0, k, none⟩) (by show g1 ≠ g0; omega) (wv u)
          have hs2 := N2.out.far (p := ⟨g0, k, none⟩) (by show g2 ≠ g0; omega) (wv u)
          have hs4 := bput N4.out (p := ⟨g0, k, none⟩) l0.out (wv u)
          have HS0 := Lib.hid hs0; have HS1 := Lib.hid hs1; have HS2 := Lib.hid hs2; have HS4 := Lib.hid hs4
          clear hs0 hs1 hs2 hs4 hu hFk N0 N1 N2 N4
          go_wp2_with fail
          go_roundw
          case rel => exact ⟨k + 1, by omega, by go_num, HS0.out, HS1.out, HS2.out, HS4.out⟩
          case measure => simp [intOf]; omega
        · obtain rfl : k = 8 := by omega
          clear hlt hk
          have x0 := N0.out
          rw [HFIN.out] at x0
          have X0 := Lib.hid x0; clear x0 N0
          have hl1 : Hid (w.heap.size ≤ g1) := by show _ ≤ _; have := l0.out; omega
          go_upto_region 13 with fail
          go_wp2_with (first
            | (refine wpList_load_row rfl 121 _ rfl g0 rfl 121 (wcs R) (0, 0) _ X0.out hu16.out rfl sR.out ?_)
            | (refine wpList_store_row rfl 121 _ _ rfl g1 (wcs R) rfl rfl 121 _ N1.out sR.out hoR.out aR.out ?_))
          exact bodyPost_ret (results_cell_row rfl _ _ g1 _ _ (0, 0) _ rfl (N1.out.row _) hu16.out rfl sR.out) rfl ⟨rfl, brow N4.out hl1.out _⟩
theorem down_up (u : UInt32) : IntKind.u64.wrap (wr3 u) = wrd u.toUInt64 := by
  have h : u.toNat < 4294967296 := u.toNat_lt
  unfold wrd wr3
  rw [wrap_u64, UInt32.toNat_toUInt64]
  omega
theorem up_down (u : UInt32) : IntKind.u32.wrap (wrd u.toUInt64) = wr3 u := by
  have h : u.toNat < 4294967296 := u.toNat_lt
  unfold wrd wr3
  rw [wrap_u32w, UInt32.toNat_toUInt64]
  omega
set_option maxRecDepth 20000 in
set_option maxHeartbeats 4000000 in
theorem refInSmall_any (H : List UInt32) (A : Option Addr) (c : Nat) (x : List UInt8) (lo hi : UInt64) (last node : Bool) (w : World) (hH : H.length = 8) (hx : x.length = 64) (hr : RS cB w w.heap.size A x) :
    Calls Tryz.prog 150 #[.int .i64 2, .agg (wcs (H.map (fun x => x.toUInt64) ++ zw 8)), .slice A 64 c, .int .u64 (wrd lo), .int .u64 (wrd hi), .bool last, .bool node] w fun e w' => e = .returned (.agg (wcs ((comp32 H (words3 x 16) lo last node).map (fun x => x.toUInt64) ++ zw 8))) ∧ Below w.heap.size w w' := by
  have hMl := words3_len x 16
  have hwo := fun W hr => r4Words_any A c x W hx hr
  have hcomp := fun W => r4F_any H (words3 x 16) lo last node W hH hMl
  have hFl := comp32_len H (words3 x 16) lo last node
  obtain ⟨M, hM⟩ : ∃ M, M = words3 x 16 := ⟨_, rfl⟩
  obtain ⟨F, hF⟩ : ∃ F, F = comp32 H (words3 x 16) lo last node := ⟨_, rfl⟩
  rw [← hF]
  rw [← hF] at hFl
  simp only [← hM] at hMl hwo hcomp hF
  simp only [← hF] at hcomp
  obtain ⟨L, hL⟩ : ∃ L, L = H.map (fun x => x.toUInt64) ++ zw 8 := ⟨_, rfl⟩
  have hLl : L.length = 16 := by rw [hL, List.length_append, List.length_map, hH]; rfl
  obtain ⟨R, hR⟩ : ∃ R, R = F.map (fun x => x.toUInt64) ++ zw 8 := ⟨_, rfl⟩
  have hRl : R.length = 16 := by rw [hR, List.length_append, List.length_map, hFl]; rfl
  have hLH : ∀ k v, k < 8 → H[k]? = some v → L[k]? = some (UInt32.toUInt64 v) := fun k v hk h => by rw [hL, List.getElem?_append_left (by rw [List.length_map]; omega), List.getElem?_map, h]; rfl
  have hRF : ∀ k v, k < 8 → F[k]? = some v → R[k]? = some (UInt32.toUInt64 v) := fun k v hk h => by rw [hR, List.getElem?_append_left (by rw [List.length_map]; omega), List.getElem?_map, h]; rfl
  have hfin : halfW R L 8 = R := by
    unfold halfW
    rw [hR, hL, List.take_left' (by rw [List.length_map]; exact hFl), List.drop_left' (by rw [List.length_map]; exact hH)]
  rw [← hL, ← hR]
  have HH := Lib.hid hH; have HX := Lib.hid hx; have HRS := Lib.hid hr; have HWO := Lib.hid hwo; have HC := Lib.hid hcomp; have HML := Lib.hid hMl; have HFL := Lib.hid hFl; have HLL := Lib.hid hLl; have HRL := Lib.hid hRl; have HLH := Lib.hid hLH; have HRF := Lib.hid hRF; have HFIN := Lib.hid hfin
  clear hH hx hr hwo hcomp hMl hFl hM hF hL hLl hR hRl hLH hRF hfin
  have hu8 := Lib.hid Tryz.underlying256; have hu16 := Lib.hid Tryz.underlying121; have hu3 := Lib.hid Tryz.underlying257
  have s8 := Lib.hid (sz8s H HH.out); have sM := Lib.hid (sz16s M HML.out); have sF := Lib.hid (sz8s F HFL.out); have sR := Lib.hid (sz16w R HRL.out)
  have aM := Lib.hid (wc3_all M); have aF := Lib.hid (wc3_all F); have aR := Lib.hid (wcs_all R)
  have hoM : Hid ((wc3 (zw3 16)).size = (wc3 M).size) := by show _ = _; rw [wc3_size, wc3_size, HML.out]; rfl
  have hoF : Hid ((wc3 H).size = (wc3 F).size) := by show _ = _; rw [wc3_size, wc3_size, HFL.out, HH.out]
  have hoR : Hid ((wcs (zw 16)).size = (wcs R).size) := by show _ = _; rw [wcs_size, wcs_size, HRL.out]; rfl
  go_enter Tryz.func150, Tryz.ntmps150
  go_upto_region 15 with fail
  have n0 : Blk (((w.alloc (.cells (wcs L) 121)).alloc (.cells z16 121)).alloc (.cells z8s 256)) w.heap.size 121 (wcs L) := ((Blk.new _ _ _).alloc _).alloc _
  have n1 : Blk (((w.alloc (.cells (wcs L) 121)).alloc (.cells z16 121)).alloc (.cells z8s 256)) (w.heap.size + 1) 121 (wcs (zw 16)) := by
    have := (Blk.new (w.alloc (.cells (wcs L) 121)) 121 z16).alloc (.cells z8s 256); show Blk _ _ _ z16; simpa using this
  have n2 : Blk (((w.alloc (.cells (wcs L) 121)).alloc (.cells z16 121)).alloc (.cells z8s 256)) (w.heap.size + 1 + 1) 256 (wc3 (fill3 H 0 8)) := by
    have := Blk.new ((w.alloc (.cells (wcs L) 121)).alloc (.cells z16 121)) 256 z8s; show Blk _ _ _ z8s; simpa using this
  have n4 := bal (bal (bal (b0 w) (.cells (wcs L) 121)) (.cells z16 121)) (.cells z8s 256)
  obtain ⟨g0, hg0⟩ : ∃ g, g = w.heap.size := ⟨_, rfl⟩
  obtain ⟨g1, hg1⟩ : ∃ g, g = w.heap.size + 1 := ⟨_, rfl⟩
  obtain ⟨g2, hg2⟩ : ∃ g, g = w.heap.size + 1 + 1 := ⟨_, rfl⟩
  unfold z16 z8s at n0 n1 n2 n4
  rw [← hg0] at n0; rw [← hg1] at n1; rw [← hg2] at n2
  rw [← hg2, ← hg1, ← hg0]
  generalize ((w.alloc (.cells (wcs L) 121)).alloc (.cells #[.int .u64 0, .int .u64 0, .int .u64 0, .int .u64 0, .int .u64 0, .int .u64 0, .int .u64 0, .int .u64 0, .int .u64 0, .int .u64 0, .int .u64 0, .int .u64 0, .int .u64 0, .int .u64 0, .int .u64 0, .int .u64 0] 121)).alloc (.cells #[.int .u32 0, .int .u32 0, .int .u32 0, .int .u32 0, .int .u32 0, .int .u32 0, .int .u32 0, .int .u32 0] 256) = w4 at *
  have l01 : g0 < g1 := by omega
  have l12 : g1 < g2 := by omega
  have l0 : Hid (w.heap.size ≤ g0) := by show _ ≤ _; omega
  have N0 := Lib.hid n0; have N1 := Lib.hid n1; have N2 := Lib.hid n2; have N4 := Lib.hid n4
  clear n0 n1 n2 n4 hg0 hg1 hg2
  go_wp2_with fail
  go_loopw [21] (fun i wr => ∃ k : Nat, k ≤ 8 ∧ i = .int .i64 k ∧ Blk wr g0 121 (wcs L) ∧ Blk wr g1 121 (wcs (zw 16)) ∧ Blk wr g2 256 (wc3 (fill3 H k 8)) ∧ Below w.heap.size w wr) (fun i _ => 8 - (intOf i).toNat)
  case atStart => exact ⟨0, by omega, rfl, N0.out, N1.out, N2.out, N4.out⟩
  case round =>
    clear N0 N1 N2 N4
    obtain ⟨k, hk, rfl, x0, x1, x2, x4⟩ := hrel
    have N0 := Lib.hid x0; have N1 := Lib.hid x1; have N2 := Lib.hid x2; have N4 := Lib.hid x4; clear x0 x1 x2 x4
    by_cases hlt : k < 8
    · obtain ⟨u, hu⟩ : ∃ u, u = H.getD k 0 := ⟨_, rfl⟩
      have hcv := up_down u
      have hHk : H[k]? = some u := by rw [hu]; exact getD3 H k (by rw [HH.out]; exact hlt)
      have c0 : wr.cell? ⟨g0, k, none⟩ = some (.int .u64 (wrd (UInt32.toUInt64 u))) := by rw [N0.out.cell, wcs_at' _ k _ (HLH.out k u hlt hHk)]
      have c2 : wr.cell? ⟨g2, k, none⟩ = some (wv3 ((fill3 H k 8).getD k 0)) := (N2.out.cell k).trans (wc3_get _ _ (by rw [fill3_len H k 8 hk HH.out]; exact hlt))
      generalize wv3 ((fill3 H k 8).getD k 0) = old at c2
      have f2 : wr.frozen? ⟨g2, k, none⟩ = false := N2.out.frozen k
      have hki : (k : Int) < 8 := by omega
      have hk16 : (k : Int) < 16 := by omega
      have hkd : decide ((k : Int) < 8) = true := by simp; omega
      have hs2 := N2.out.set_ k (wv3 u)
      rw [fill3_put H k 8 u hlt HH.out hHk] at hs2
      have hs0 := N0.out.far (p := ⟨g2, k, none⟩) (by show g0 ≠ g2; omega) (wv3 u)
      have hs1 := N1.out.far (p := ⟨g2, k, none⟩) (by show g1 ≠ g2; omega) (wv3 u)
      have hs4 := bput N4.out (p := ⟨g2, k, none⟩) (by have := l0.out; simp; omega) (wv3 u)
      have HS0 := Lib.hid hs0; have HS1 := Lib.hid hs1; have HS2 := Lib.hid hs2; have HS4 := Lib.hid hs4
      clear hs0 hs1 hs2 hs4 hu hHk N0 N1 N2 N4
      go_wp2_with fail
      go_roundw
      case rel => exact ⟨k + 1, by omega, by go_num, HS0.out, HS1.out, HS2.out, HS4.out⟩
      case measure => simp [intOf]; omega
    · obtain rfl : k = 8 := by omega
      rw [show ((8 : Nat) : Int) = 8 from rfl]
      clear hlt hk
      have x2 := N2.out
      rw [fill3_all H 8 HH.out] at x2
      have M2 := Lib.hid x2; clear x2 N2
      go_wp2_with fail
      refine (HWO.out _ ((HRS.out.below N4.out).more N4.out.size)).mono ?_
      rintro e w5 ⟨rfl, hb5⟩
      have q0 := (N0.out.below hb5 N0.out.lt).alloc (.cells z16s 257)
      have q1 := (N1.out.below hb5 N1.out.lt).alloc (.cells z16s 257)
      have q2 := (M2.out.below hb5 M2.out.lt).alloc (.cells z16s 257)
      have q4 := bal (bcall N4.out hb5) (.cells z16s 257)
      have q3 : Blk (w5.alloc (.cells z16s 257)) w5.heap.size 257 (wc3 (zw3 16)) := Blk.new _ _ _
      have hs5 : g2 < w5.heap.size := by have := (M2.out.below hb5 M2.out.lt).lt; omega
      have hw5 : Hid (w.heap.size ≤ w5.heap.size) := (bcall N4.out hb5).size
      unfold z16s at q0 q1 q2 q3 q4
      have Q3 := Lib.hid q3; clear q3 hb5 N0 N1 M2 N4
      go_upto_region 20 with (refine wpList_store_row rfl 257 _ _ rfl w5.heap.size (wc3 M) rfl rfl 257 _ Q3.out sM.out hoM.out aM.out ?_)
      have q3 := Q3.out.row (wc3 M)
      replace q0 := q0.rowFar (k := w5.heap.size) (by omega) (wc3 M); replace q1 := q1.rowFar (k := w5.heap.size) (by omega) (wc3 M); replace q2 := q2.rowFar (k := w5.heap.size) (by omega) (wc3 M); replace q4 := brow q4 (g := w5.heap.size) hw5.out (wc3 M)
      clear Q3
      obtain ⟨g3, hg3⟩ : ∃ g, g = w5.heap.size := ⟨_, rfl⟩
      rw [← hg3] at q0 q1 q2 q3 q4 hs5 ⊢
      generalize (w5.alloc (.cells #[.int .u32 0, .int .u32 0, .int .u32 0, .int .u32 0, .int .u32 0, .int .u32 0, .int .u32 0, .int .u32 0, .int .u32 0, .int .u32 0, .int .u32 0, .int .u32 0, .int .u32 0, .int .u32 0, .int .u32 0, .int .u32 0] 257)).setRow g3 (wc3 M) = w6 at *
      have Q0 := Lib.hid q0; have Q1 := Lib.hid q1; have Q2 := Lib.hid q2; have Q3 := Lib.hid q3; have Q4 := Lib.hid q4
      clear q0 q1 q2 q3 q4 hg3 hw5
      go_upto_region 21 with (first
        | (refine wpList_load_row rfl 256 (.tmp 20) rfl g2 rfl 256 (wc3 H) (0, 0) _ Q2.out hu8.out rfl s8.out ?_)
        | (refine wpList_load_row rfl 257 (.tmp 22) rfl g3 rfl 257 (wc3 M) (0, 0) _ Q3.out hu3.out rfl sM.out ?_)
        | (go_at_call 188; refine (HC.out _).mono ?_; rintro e w7 ⟨rfl, hb7⟩; have R2 := Lib.hid (Q2.out.below hb7 Q2.out.lt); have HB7 := Lib.hid hb7; clear hb7)
        | (refine wpList_store_row rfl 256 _ _ rfl g2 (wc3 F) rfl rfl 256 _ R2.out sF.out hoF.out aF.out ?_))
      have q2 := R2.out.row (wc3 F)
      have q0 := (Q0.out.below HB7.out Q0.out.lt).rowFar (k := g2) (by omega) (wc3 F)
      have q1 := (Q1.out.below HB7.out Q1.out.lt).rowFar (k := g2) (by omega) (wc3 F)
      have q4 := brow (bcall Q4.out HB7.out) (g := g2) (by have := l0.out; omega) (wc3 F)
      clear Q0 Q1 Q2 Q3 Q4 R2 HB7
      generalize w7.setRow g2 (wc3 F) = w8 at *
      have N0 := Lib.hid q0; have N1 := Lib.hid q1; have N2 := Lib.hid q2; have N4 := Lib.hid q4; clear q0 q1 q2 q4
      go_wp2_with fail
      go_loopw [24] (fun i wr => ∃ k : Nat, k ≤ 8 ∧ i = .int .i64 k ∧ Blk wr g0 121 (wcs (halfW R L k)) ∧ Blk wr g1 121 (wcs (zw 16)) ∧ Blk wr g2 256 (wc3 F) ∧ Below w.heap.size w wr) (fun i _ => 8 - (intOf i).toNat)
      case atStart => exact ⟨0, by omega, rfl, by simpa [halfW] using N0.out, N1.out, N2.out, N4.out⟩
      case round =>
        clear N0 N1 N2 N4
        obtain ⟨k, hk, rfl, x0, x1, x2, x4⟩ := hrel
        have N0 := Lib.hid x0; have N1 := Lib.hid x1; have N2 := Lib.hid x2; have N4 := Lib.hid x4; clear x0 x1 x2 x4
        by_cases hlt : k < 8
        · obtain ⟨u, hu⟩ : ∃ u, u = F.getD k 0 := ⟨_, rfl⟩
          have hcv := down_up u
          have hFk : F[k]? = some u := by rw [hu]; exact getD3 F k (by rw [HFL.out]; exact hlt)
          have c2 : wr.cell? ⟨g2, k, none⟩ = some (.int .u32 (wr3 u)) := by rw [N2.out.cell, wc3_at' _ k u hFk]
          have c0 : wr.cell? ⟨g0, k, none⟩ = some (wv (L.getD k 0)) := (N0.out.cell k).trans (wcs_at' _ k _ (halfW_at R L k (by rw [HLL.out]; omega) (by rw [HLL.out, HRL.out])))
          generalize wv (L.getD k 0) = old at c0
          have f0 : wr.frozen? ⟨g0, k, none⟩ = false := N0.out.frozen k
          have hki : (k : Int) < 8 := by omega
          have hk16 : (k : Int) < 16 := by omega
          have hkd : decide ((k : Int) < 8) = true := by simp; omega
          have hs0 := N0.out.set_ k (wv (UInt32.toUInt64 u))
          rw [wcs_set, halfW_put R L k _ (HRF.out k u hlt hFk) (by rw [HLL.out, HRL.out])] at hs0
          have hs1 := N1.out.far (p := ⟨g0, k, none⟩) (by show g1 ≠ g0; omega) (wv (UInt32.toUInt64 u))
          have hs2 := N2.out.far (p := ⟨g0, k, none⟩) (by show g2 ≠ g0; omega) (wv (UInt32.toUInt64 u))
          have hs4 := bput N4.out (p := ⟨g0, k, none⟩) l0.out (wv (UInt32.toUInt64 u))
          have HS0 := Lib.hid hs0; have HS1 := Lib.hid hs1; have HS2 := Lib.hid hs2; have HS4 := Lib.hid hs4
          clear hs0 hs1 hs2 hs4 hu hFk N0 N1 N2 N4
          go_wp2_with fail
          go_roundw
          case rel => exact ⟨k + 1, by omega, by go_num, HS0.out, HS1.out, HS2.out, HS4.out⟩
          case measure => simp [intOf]; omega
        · obtain rfl : k = 8 := by omega
          clear hlt hk
          have x0 := N0.out
          rw [HFIN.out] at x0
          have X0 := Lib.hid x0; clear x0 N0
          have hl1 : Hid (w.heap.size ≤ g1) := by show _ ≤ _; have := l0.out; omega
          go_upto_region 25 with fail
          go_wp2_with (first
            | (refine wpList_load_row rfl 121 _ rfl g0 rfl 121 (wcs R) (0, 0) _ X0.out hu16.out rfl sR.out ?_)
            | (refine wpList_store_row rfl 121 _ _ rfl g1 (wcs R) rfl rfl 121 _ N1.out sR.out hoR.out aR.out ?_))
          exact bodyPost_ret (results_cell_row rfl _ _ g1 _ _ (0, 0) _ rfl (N1.out.row _) hu16.out rfl sR.out) rfl ⟨rfl, brow N4.out hl1.out _⟩
theorem refIn_any (S : HS) (A : Option Addr) (n c : Nat) (x : List UInt8) (lo hi : UInt64) (last node : Bool) (w : World) (hS : S.Ok) (hn : n = 2 * bOf S.k) (hx : x.length = n) (hr : RS cB w w.heap.size A x) :
    Calls Tryz.prog 150 #[.int .i64 (kOf S.k), .agg (wcs S.words), .slice A n c, .int .u64 (wrd lo), .int .u64 (wrd hi), .bool last, .bool node] w fun e w' => e = .returned (.agg (wcs (S.mix x lo hi last node).words)) ∧ Below w.heap.size w w' := by
  subst hn
  cases S with
  | big H => exact refInBig_any H A c x lo hi last node w hS hx hr
  | small H => exact refInSmall_any H A c x lo hi last node w hS hx hr
end Go.Proofs.YtgephdbicbmpeaaGreat

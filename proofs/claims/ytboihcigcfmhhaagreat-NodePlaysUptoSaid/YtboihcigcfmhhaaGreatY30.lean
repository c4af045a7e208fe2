/-
  Y30: contracts and lemmas alone; no statement is claimed here.
-/
import Derived.Test.YtboihcigcfmhhaaGreatY14
import Derived.Test.YtboihcigcfmhhaaGreatY17
import Derived.Test.YtboihcigcfmhhaaGreatY27
import Derived.Test.YtboihcigcfmhhaaGreatY28
import Derived.Test.YtboihcigcfmhhaaGreatY18
import Derived.Deep.CutRange
/- A block goes into a state of the reference. -/
set_option maxHeartbeats 4000000
set_option maxRecDepth 20000
namespace Go.Proofs.YtboihcigcfmhhaaGreat
open _root_.List renaming getElem?_map → bZK
open _root_.List renaming getElem?_append_left → bZH
open _root_.List renaming length_map → bZE
open _root_.UInt64 renaming ofNat → bZD
open Go renaming results_cell_row → aZZ
open _root_.Nat renaming zero_le → aZY
open _root_.List renaming length_drop → aZS
open _root_.List renaming take_of_length_le → aZQ
open _root_.List renaming length_append → aZN
open _root_.List renaming length_take → aZJ
open Go renaming wpList_load_row → aZH
open Go renaming results_tmp2 → aZG
open _root_.Option.some renaming inj → aZF
open Go renaming wpList_store_row → aZE
open _root_.Nat renaming le_refl → aZC
open Go renaming bodyPost_ret → aZB
open Lib renaming hid -> zH
open Go.RowKit
attribute [local go_sem] pureUpon Ords.of
theorem refInBig_any (H : List UInt64) (A : Option Addr) (c : Nat) (x : List UInt8) (lo hi : UInt64) (last node : Bool) (w : World) (hH : H.length = 8) (hx : x.length = 128) (hr : RS cB w w.heap.size A x) :
  Calls Tryz.prog 45 #[.int .i64 1, .agg (wcs (H ++ zw 8)), .slice A 128 c, .int .u64 (wrd lo), .int .u64 (wrd hi), .bool last, .bool node] w fun e w' => e = .returned (.agg (wcs (comp64 H (wordsOf x 16) lo hi last node ++ zw 8))) /\ Below w.heap.size w w' := by
 have hMl := wordsOf_len x 16;have hwo := fun W hr => refWords_any A c x W hx hr
 have hcomp := fun W => refF_any H (wordsOf x 16) lo hi last node W hH hMl
 have hFl := comp64_len H (wordsOf x 16) lo hi last node;obtain ⟨M, hM⟩ : ∃ M, M = wordsOf x 16 := ⟨_, rfl⟩;obtain ⟨F, hF⟩ : ∃ F, F = comp64 H (wordsOf x 16) lo hi last node := ⟨_, rfl⟩;rw [<- hF];rw [<- hF] at hFl;simp only [<- hM] at hMl hwo hcomp hF;simp only [<- hF] at hcomp;obtain ⟨L, hL⟩ : ∃ L, L = H ++ zw 8 := ⟨_, rfl⟩;have hLl : L.length = 16 := by rw [hL, aZN, hH]; rfl
 obtain ⟨R, hR⟩ : ∃ R, R = F ++ zw 8 := ⟨_, rfl⟩;have hRl : R.length = 16 := by rw [hR, aZN, hFl]; rfl
 have hLH : ∀ k v, k < 8 -> H[k]? = some v -> L[k]? = some v := fun k v hk h => by rw [hL, bZH (by omega), h]
 have hRF : ∀ k v, k < 8 -> F[k]? = some v -> R[k]? = some v := fun k v hk h => by rw [hR, bZH (by omega), h]
 have hfin : halfW R L 8 = R := by
  unfold halfW;rw [hR, hL, List.take_left' hFl, List.drop_left' hH]
 rw [<- hL, <- hR];have HH := zH hH; have HX := zH hx; have HRS := zH hr; have HWO := zH hwo; have HC := zH hcomp; have HML := zH hMl; have HFL := zH hFl; have HLL := zH hLl; have HRL := zH hRl; have HLH := zH hLH; have HRF := zH hRF; have HFIN := zH hfin;clear hH hx hr hwo hcomp hMl hFl hM hF hL hLl hR hRl hLH hRF hfin;have hu8 := zH Tryz.underlying124; have hu16 := zH Tryz.underlying41;have s8 := zH (sz8w H HH); have sM := zH (sz16w M HML); have sF := zH (sz8w F HFL); have sR := zH (sz16w R HRL);have aM := zH (wcs_all M); have aF := zH (wcs_all F); have aR := zH (wcs_all R);have hoM : Hid ((wcs (zw 16)).size = (wcs M).size) := by show _ = _; rw [wcs_size, wcs_size, HML.out]; rfl
 have hoF : Hid ((wcs H).size = (wcs F).size) := by show _ = _; rw [wcs_size, wcs_size, HFL.out, HH.out]
 have hoR : Hid ((wcs (zw 16)).size = (wcs R).size) := by show _ = _; rw [wcs_size, wcs_size, HRL.out]; rfl
 go_enter Tryz.func45, Tryz.ntmps45;go_upto_region 3 with fail
 have n0 : Blk (((w.alloc (.cells (wcs L) 41)).alloc (.cells z16 41)).alloc (.cells z8 124)) w.heap.size 41 (wcs L) := ((Blk.new _ _ _).alloc _).alloc _;have n1 : Blk (((w.alloc (.cells (wcs L) 41)).alloc (.cells z16 41)).alloc (.cells z8 124)) (w.heap.size + 1) 41 (wcs (zw 16)) := by
  have := (Blk.new (w.alloc (.cells (wcs L) 41)) 41 z16).alloc (.cells z8 124); show Blk _ _ _ z16; simpa using this
 have n2 : Blk (((w.alloc (.cells (wcs L) 41)).alloc (.cells z16 41)).alloc (.cells z8 124)) (w.heap.size + 1 + 1) 124 (wcs (fillU H 0 8)) := by
  have := Blk.new ((w.alloc (.cells (wcs L) 41)).alloc (.cells z16 41)) 124 z8; show Blk _ _ _ z8; simpa using this
 have n4 := bal (bal (bal (b0 w) (.cells (wcs L) 41)) (.cells z16 41)) (.cells z8 124);obtain ⟨g0, hg0⟩ : ∃ g, g = w.heap.size := ⟨_, rfl⟩;obtain ⟨g1, hg1⟩ : ∃ g, g = w.heap.size + 1 := ⟨_, rfl⟩;obtain ⟨g2, hg2⟩ : ∃ g, g = w.heap.size + 1 + 1 := ⟨_, rfl⟩;unfold z16 z8 at n0 n1 n2 n4;rw [<- hg0] at n0; rw [<- hg1] at n1; rw [<- hg2] at n2;rw [<- hg2, <- hg1, <- hg0];generalize ((w.alloc (.cells (wcs L) 41)).alloc (.cells #[.int .u64 0, .int .u64 0, .int .u64 0, .int .u64 0, .int .u64 0, .int .u64 0, .int .u64 0, .int .u64 0, .int .u64 0, .int .u64 0, .int .u64 0, .int .u64 0, .int .u64 0, .int .u64 0, .int .u64 0, .int .u64 0] 41)).alloc (.cells #[.int .u64 0, .int .u64 0, .int .u64 0, .int .u64 0, .int .u64 0, .int .u64 0, .int .u64 0, .int .u64 0] 124) = w4 at *;have l01 : g0 < g1 := by omega
 have l12 : g1 < g2 := by omega
 have l0 : Hid (w.heap.size <= g0) := by show _ <= _; omega
 have N0 := zH n0; have N1 := zH n1; have N2 := zH n2; have N4 := zH n4;clear n0 n1 n2 n4 hg0 hg1 hg2;go_wp2_with fail;go_loopw [16] (fun i wr => ∃ k : Nat, k <= 8 /\ i = .int .i64 k /\ Blk wr g0 41 (wcs L) /\ Blk wr g1 41 (wcs (zw 16)) /\ Blk wr g2 124 (wcs (fillU H k 8)) /\ Below w.heap.size w wr) (fun i _ => 8 - (intOf i).toNat)
 case atStart => exact ⟨0, by omega, rfl, N0.out, N1.out, N2.out, N4.out⟩
 case round =>
  clear N0 N1 N2 N4;obtain ⟨k, hk, rfl, x0, x1, x2, x4⟩ := hrel;have N0 := zH x0; have N1 := zH x1; have N2 := zH x2; have N4 := zH x4; clear x0 x1 x2 x4
  by_cases hlt : k < 8
  ·obtain ⟨u, hu⟩ : ∃ u, u = H.getD k 0 := ⟨_, rfl⟩
   have hHk : H[k]? = some u := by rw [hu]; exact getDW H k (by rw [HH.out]; exact hlt)
   have c0 : wr.cell? ⟨g0, k, none⟩ = some (.int .u64 (wrd u)) := by rw [N0.cell, wcs_at' _ k u (HLH.out k u hlt hHk)]
   have c2 : wr.cell? ⟨g2, k, none⟩ = some (wv ((fillU H k 8).getD k 0)) := (N2.cell k).trans (wcs_get _ _ (by rw [fillU_len H k 8 hk HH.out]; exact hlt));generalize wv ((fillU H k 8).getD k 0) = old at c2;have f2 : wr.frozen? ⟨g2, k, none⟩ = false := N2.frozen k;have hki : (k : Int) < 8 := by omega
   have hk16 : (k : Int) < 16 := by omega
   have hkd : decide ((k : Int) < 8) = true := by simp; omega
   have hs2 := N2.set_ k (wv u);rw [fillU_put H k 8 u hlt hHk] at hs2;have hs0 := N0.far (p := ⟨g2, k, none⟩) (by show g0 ≠ g2; omega) (wv u);have hs1 := N1.far (p := ⟨g2, k, none⟩) (by show g1 ≠ g2; omega) (wv u);have hs4 := bput N4.out (p := ⟨g2, k, none⟩) (by have := l0.out; simp; omega) (wv u);have HS0 := zH hs0; have HS1 := zH hs1; have HS2 := zH hs2; have HS4 := zH hs4;clear hs0 hs1 hs2 hs4 hu hHk N0 N1 N2 N4;go_wp2_with fail;go_roundw
   case rel => exact ⟨k + 1, by omega, by go_num, HS0.out, HS1.out, HS2.out, HS4.out⟩
   case measure => simp [intOf]; omega
  ·obtain rfl : k = 8 := by omega
   rw [show ((8 : Nat) : Int) = 8 from rfl];clear hlt hk;have x2 := N2.out;rw [fillU_all H 8 HH.out] at x2;have M2 := zH x2; clear x2 N2;go_wp2_with fail;refine (HWO _ ((HRS.below N4).more N4.size)).mono ?_;rintro e w5 ⟨rfl, hb5⟩;have q0 := (N0.below hb5 N0.lt).alloc (.cells z16 41);have q1 := (N1.below hb5 N1.lt).alloc (.cells z16 41);have q2 := (M2.below hb5 M2.lt).alloc (.cells z16 41);have q4 := bal (bcall N4 hb5) (.cells z16 41);have q3 : Blk (w5.alloc (.cells z16 41)) w5.heap.size 41 (wcs (zw 16)) := Blk.new _ _ _;have hs5 : g2 < w5.heap.size := by have := (M2.below hb5 M2.lt).lt; omega
   have hw5 : Hid (w.heap.size <= w5.heap.size) := (bcall N4 hb5).size;unfold z16 at q0 q1 q2 q3 q4;have Q3 := zH q3; clear q3 hb5 N0 N1 M2 N4;go_upto_region 8 with (refine aZE rfl 41 _ _ rfl w5.heap.size (wcs M) rfl rfl 41 _ Q3 sM.out hoM.out aM.out ?_)
   have q3 := Q3.row (wcs M);replace q0 := q0.rowFar (k := w5.heap.size) (by omega) (wcs M); replace q1 := q1.rowFar (k := w5.heap.size) (by omega) (wcs M); replace q2 := q2.rowFar (k := w5.heap.size) (by omega) (wcs M); replace q4 := brow q4 (g := w5.heap.size) hw5.out (wcs M);clear Q3;obtain ⟨g3, hg3⟩ : ∃ g, g = w5.heap.size := ⟨_, rfl⟩;rw [<- hg3] at q0 q1 q2 q3 q4 hs5 ⊢;generalize (w5.alloc (.cells #[.int .u64 0, .int .u64 0, .int .u64 0, .int .u64 0, .int .u64 0, .int .u64 0, .int .u64 0, .int .u64 0, .int .u64 0, .int .u64 0, .int .u64 0, .int .u64 0, .int .u64 0, .int .u64 0, .int .u64 0, .int .u64 0] 41)).setRow g3 (wcs M) = w6 at *;have Q0 := zH q0; have Q1 := zH q1; have Q2 := zH q2; have Q3 := zH q3; have Q4 := zH q4;clear q0 q1 q2 q3 q4 hg3 hw5;go_upto_region 9 with (first
    | (refine aZH rfl 124 (.tmp 15) rfl g2 rfl 124 (wcs H) (0, 0) _ Q2 hu8.out rfl s8.out ?_)
    | (refine aZH rfl 41 (.tmp 17) rfl g3 rfl 41 (wcs M) (0, 0) _ Q3 hu16.out rfl sM.out ?_)
    | (go_at_call 77; refine (HC _).mono ?_; rintro e w7 ⟨rfl, hb7⟩; have R2 := zH (Q2.below hb7 Q2.lt); have HB7 := zH hb7; clear hb7)
    | (refine aZE rfl 124 _ _ rfl g2 (wcs F) rfl rfl 124 _ R2 sF.out hoF.out aF.out ?_))
   have q2 := R2.row (wcs F);have q0 := (Q0.below HB7.out Q0.lt).rowFar (k := g2) (by omega) (wcs F);have q1 := (Q1.below HB7.out Q1.lt).rowFar (k := g2) (by omega) (wcs F);have q4 := brow (bcall Q4.out HB7.out) (g := g2) (by have := l0.out; omega) (wcs F);clear Q0 Q1 Q2 Q3 Q4 R2 HB7;generalize w7.setRow g2 (wcs F) = w8 at *;have N0 := zH q0; have N1 := zH q1; have N2 := zH q2; have N4 := zH q4; clear q0 q1 q2 q4;go_wp2_with fail;go_loopw [19] (fun i wr => ∃ k : Nat, k <= 8 /\ i = .int .i64 k /\ Blk wr g0 41 (wcs (halfW R L k)) /\ Blk wr g1 41 (wcs (zw 16)) /\ Blk wr g2 124 (wcs F) /\ Below w.heap.size w wr) (fun i _ => 8 - (intOf i).toNat)
   case atStart => exact ⟨0, by omega, rfl, by simpa [halfW] using N0.out, N1.out, N2.out, N4.out⟩
   case round =>
    clear N0 N1 N2 N4;obtain ⟨k, hk, rfl, x0, x1, x2, x4⟩ := hrel;have N0 := zH x0; have N1 := zH x1; have N2 := zH x2; have N4 := zH x4; clear x0 x1 x2 x4
    by_cases hlt : k < 8
    ·obtain ⟨u, hu⟩ : ∃ u, u = F.getD k 0 := ⟨_, rfl⟩
     have hFk : F[k]? = some u := by rw [hu]; exact getDW F k (by rw [HFL.out]; exact hlt)
     have c2 : wr.cell? ⟨g2, k, none⟩ = some (.int .u64 (wrd u)) := by rw [N2.cell, wcs_at' _ k u hFk]
     have c0 : wr.cell? ⟨g0, k, none⟩ = some (wv (L.getD k 0)) := (N0.cell k).trans (wcs_at' _ k _ (halfW_at R L k (by rw [HLL.out]; omega) (by rw [HLL.out, HRL.out])));generalize wv (L.getD k 0) = old at c0;have f0 : wr.frozen? ⟨g0, k, none⟩ = false := N0.frozen k;have hki : (k : Int) < 8 := by omega
     have hk16 : (k : Int) < 16 := by omega
     have hkd : decide ((k : Int) < 8) = true := by simp; omega
     have hs0 := N0.set_ k (wv u);rw [wcs_set, halfW_put R L k u (HRF.out k u hlt hFk) (by rw [HLL.out, HRL.out])] at hs0;have hs1 := N1.far (p := ⟨g0, k, none⟩) (by show g1 ≠ g0; omega) (wv u);have hs2 := N2.far (p := ⟨g0, k, none⟩) (by show g2 ≠ g0; omega) (wv u);have hs4 := bput N4 (p := ⟨g0, k, none⟩) l0.out (wv u);have HS0 := zH hs0; have HS1 := zH hs1; have HS2 := zH hs2; have HS4 := zH hs4;clear hs0 hs1 hs2 hs4 hu hFk N0 N1 N2 N4;go_wp2_with fail;go_roundw
     case rel => exact ⟨k + 1, by omega, by go_num, HS0.out, HS1.out, HS2.out, HS4.out⟩
     case measure => simp [intOf]; omega
    ·obtain rfl : k = 8 := by omega
     clear hlt hk;have x0 := N0.out;rw [HFIN.out] at x0;have X0 := zH x0; clear x0 N0;have hl1 : Hid (w.heap.size <= g1) := by show _ <= _; have := l0.out; omega
     go_upto_region 13 with fail
     go_wp2_with (first
      | (refine aZH rfl 41 _ rfl g0 rfl 41 (wcs R) (0, 0) _ X0 hu16.out rfl sR.out ?_)
      | (refine aZE rfl 41 _ _ rfl g1 (wcs R) rfl rfl 41 _ N1 sR.out hoR.out aR.out ?_))
     exact aZB (aZZ rfl _ _ g1 _ _ (0, 0) _ rfl (N1.row _) hu16.out rfl sR.out) rfl ⟨rfl, brow N4 hl1.out _⟩
theorem down_up (u : UInt32) : IntKind.u64.wrap (wr3 u) = wrd u.toUInt64 := by
 have h : u.toNat < 4294967296 := u.toNat_lt;unfold wrd wr3;rw [wrap_u64, UInt32.toNat_toUInt64];omega
theorem up_down (u : UInt32) : IntKind.u32.wrap (wrd u.toUInt64) = wr3 u := by
 have h : u.toNat < 4294967296 := u.toNat_lt;unfold wrd wr3;rw [wrap_u32w, UInt32.toNat_toUInt64];omega
theorem refInSmall_any (H : List UInt32) (A : Option Addr) (c : Nat) (x : List UInt8) (lo hi : UInt64) (last node : Bool) (w : World) (hH : H.length = 8) (hx : x.length = 64) (hr : RS cB w w.heap.size A x) :
  Calls Tryz.prog 45 #[.int .i64 2, .agg (wcs (H.map (fun x => x.toUInt64) ++ zw 8)), .slice A 64 c, .int .u64 (wrd lo), .int .u64 (wrd hi), .bool last, .bool node] w fun e w' => e = .returned (.agg (wcs ((comp32 H (words3 x 16) lo last node).map (fun x => x.toUInt64) ++ zw 8))) /\ Below w.heap.size w w' := by
 have hMl := words3_len x 16;have hwo := fun W hr => r4Words_any A c x W hx hr
 have hcomp := fun W => r4F_any H (words3 x 16) lo last node W hH hMl
 have hFl := comp32_len H (words3 x 16) lo last node;obtain ⟨M, hM⟩ : ∃ M, M = words3 x 16 := ⟨_, rfl⟩;obtain ⟨F, hF⟩ : ∃ F, F = comp32 H (words3 x 16) lo last node := ⟨_, rfl⟩;rw [<- hF];rw [<- hF] at hFl;simp only [<- hM] at hMl hwo hcomp hF;simp only [<- hF] at hcomp;obtain ⟨L, hL⟩ : ∃ L, L = H.map (fun x => x.toUInt64) ++ zw 8 := ⟨_, rfl⟩;have hLl : L.length = 16 := by rw [hL, aZN, bZE, hH]; rfl
 obtain ⟨R, hR⟩ : ∃ R, R = F.map (fun x => x.toUInt64) ++ zw 8 := ⟨_, rfl⟩;have hRl : R.length = 16 := by rw [hR, aZN, bZE, hFl]; rfl
 have hLH : ∀ k v, k < 8 -> H[k]? = some v -> L[k]? = some (UInt32.toUInt64 v) := fun k v hk h => by rw [hL, bZH (by rw [bZE]; omega), bZK, h]; rfl
 have hRF : ∀ k v, k < 8 -> F[k]? = some v -> R[k]? = some (UInt32.toUInt64 v) := fun k v hk h => by rw [hR, bZH (by rw [bZE]; omega), bZK, h]; rfl
 have hfin : halfW R L 8 = R := by
  unfold halfW;rw [hR, hL, List.take_left' (by rw [bZE]; exact hFl), List.drop_left' (by rw [bZE]; exact hH)]
 rw [<- hL, <- hR];have HH := zH hH; have HX := zH hx; have HRS := zH hr; have HWO := zH hwo; have HC := zH hcomp; have HML := zH hMl; have HFL := zH hFl; have HLL := zH hLl; have HRL := zH hRl; have HLH := zH hLH; have HRF := zH hRF; have HFIN := zH hfin;clear hH hx hr hwo hcomp hMl hFl hM hF hL hLl hR hRl hLH hRF hfin;have hu8 := zH Tryz.underlying130; have hu16 := zH Tryz.underlying41; have hu3 := zH Tryz.underlying140;have s8 := zH (sz8s H HH); have sM := zH (sz16s M HML); have sF := zH (sz8s F HFL); have sR := zH (sz16w R HRL);have aM := zH (wc3_all M); have aF := zH (wc3_all F); have aR := zH (wcs_all R);have hoM : Hid ((wc3 (zw3 16)).size = (wc3 M).size) := by show _ = _; rw [wc3_size, wc3_size, HML.out]; rfl
 have hoF : Hid ((wc3 H).size = (wc3 F).size) := by show _ = _; rw [wc3_size, wc3_size, HFL.out, HH.out]
 have hoR : Hid ((wcs (zw 16)).size = (wcs R).size) := by show _ = _; rw [wcs_size, wcs_size, HRL.out]; rfl
 go_enter Tryz.func45, Tryz.ntmps45;go_upto_region 15 with fail
 have n0 : Blk (((w.alloc (.cells (wcs L) 41)).alloc (.cells z16 41)).alloc (.cells z8s 130)) w.heap.size 41 (wcs L) := ((Blk.new _ _ _).alloc _).alloc _;have n1 : Blk (((w.alloc (.cells (wcs L) 41)).alloc (.cells z16 41)).alloc (.cells z8s 130)) (w.heap.size + 1) 41 (wcs (zw 16)) := by
  have := (Blk.new (w.alloc (.cells (wcs L) 41)) 41 z16).alloc (.cells z8s 130); show Blk _ _ _ z16; simpa using this
 have n2 : Blk (((w.alloc (.cells (wcs L) 41)).alloc (.cells z16 41)).alloc (.cells z8s 130)) (w.heap.size + 1 + 1) 130 (wc3 (fill3 H 0 8)) := by
  have := Blk.new ((w.alloc (.cells (wcs L) 41)).alloc (.cells z16 41)) 130 z8s; show Blk _ _ _ z8s; simpa using this
 have n4 := bal (bal (bal (b0 w) (.cells (wcs L) 41)) (.cells z16 41)) (.cells z8s 130);obtain ⟨g0, hg0⟩ : ∃ g, g = w.heap.size := ⟨_, rfl⟩;obtain ⟨g1, hg1⟩ : ∃ g, g = w.heap.size + 1 := ⟨_, rfl⟩;obtain ⟨g2, hg2⟩ : ∃ g, g = w.heap.size + 1 + 1 := ⟨_, rfl⟩;unfold z16 z8s at n0 n1 n2 n4;rw [<- hg0] at n0; rw [<- hg1] at n1; rw [<- hg2] at n2;rw [<- hg2, <- hg1, <- hg0];generalize ((w.alloc (.cells (wcs L) 41)).alloc (.cells #[.int .u64 0, .int .u64 0, .int .u64 0, .int .u64 0, .int .u64 0, .int .u64 0, .int .u64 0, .int .u64 0, .int .u64 0, .int .u64 0, .int .u64 0, .int .u64 0, .int .u64 0, .int .u64 0, .int .u64 0, .int .u64 0] 41)).alloc (.cells #[.int .u32 0, .int .u32 0, .int .u32 0, .int .u32 0, .int .u32 0, .int .u32 0, .int .u32 0, .int .u32 0] 130) = w4 at *;have l01 : g0 < g1 := by omega
 have l12 : g1 < g2 := by omega
 have l0 : Hid (w.heap.size <= g0) := by show _ <= _; omega
 have N0 := zH n0; have N1 := zH n1; have N2 := zH n2; have N4 := zH n4;clear n0 n1 n2 n4 hg0 hg1 hg2;go_wp2_with fail;go_loopw [21] (fun i wr => ∃ k : Nat, k <= 8 /\ i = .int .i64 k /\ Blk wr g0 41 (wcs L) /\ Blk wr g1 41 (wcs (zw 16)) /\ Blk wr g2 130 (wc3 (fill3 H k 8)) /\ Below w.heap.size w wr) (fun i _ => 8 - (intOf i).toNat)
 case atStart => exact ⟨0, by omega, rfl, N0.out, N1.out, N2.out, N4.out⟩
 case round =>
  clear N0 N1 N2 N4;obtain ⟨k, hk, rfl, x0, x1, x2, x4⟩ := hrel;have N0 := zH x0; have N1 := zH x1; have N2 := zH x2; have N4 := zH x4; clear x0 x1 x2 x4
  by_cases hlt : k < 8
  ·obtain ⟨u, hu⟩ : ∃ u, u = H.getD k 0 := ⟨_, rfl⟩
   have hcv := up_down u;have hHk : H[k]? = some u := by rw [hu]; exact getD3 H k (by rw [HH.out]; exact hlt)
   have c0 : wr.cell? ⟨g0, k, none⟩ = some (.int .u64 (wrd (UInt32.toUInt64 u))) := by rw [N0.cell, wcs_at' _ k _ (HLH.out k u hlt hHk)]
   have c2 : wr.cell? ⟨g2, k, none⟩ = some (wv3 ((fill3 H k 8).getD k 0)) := (N2.cell k).trans (wc3_get _ _ (by rw [fill3_len H k 8 hk HH.out]; exact hlt));generalize wv3 ((fill3 H k 8).getD k 0) = old at c2;have f2 : wr.frozen? ⟨g2, k, none⟩ = false := N2.frozen k;have hki : (k : Int) < 8 := by omega
   have hk16 : (k : Int) < 16 := by omega
   have hkd : decide ((k : Int) < 8) = true := by simp; omega
   have hs2 := N2.set_ k (wv3 u);rw [fill3_put H k 8 u hlt HH.out hHk] at hs2;have hs0 := N0.far (p := ⟨g2, k, none⟩) (by show g0 ≠ g2; omega) (wv3 u);have hs1 := N1.far (p := ⟨g2, k, none⟩) (by show g1 ≠ g2; omega) (wv3 u);have hs4 := bput N4.out (p := ⟨g2, k, none⟩) (by have := l0.out; simp; omega) (wv3 u);have HS0 := zH hs0; have HS1 := zH hs1; have HS2 := zH hs2; have HS4 := zH hs4;clear hs0 hs1 hs2 hs4 hu hHk N0 N1 N2 N4;go_wp2_with fail;go_roundw
   case rel => exact ⟨k + 1, by omega, by go_num, HS0.out, HS1.out, HS2.out, HS4.out⟩
   case measure => simp [intOf]; omega
  ·obtain rfl : k = 8 := by omega
   rw [show ((8 : Nat) : Int) = 8 from rfl];clear hlt hk;have x2 := N2.out;rw [fill3_all H 8 HH.out] at x2;have M2 := zH x2; clear x2 N2;go_wp2_with fail;refine (HWO _ ((HRS.below N4).more N4.size)).mono ?_;rintro e w5 ⟨rfl, hb5⟩;have q0 := (N0.below hb5 N0.lt).alloc (.cells z16s 140);have q1 := (N1.below hb5 N1.lt).alloc (.cells z16s 140);have q2 := (M2.below hb5 M2.lt).alloc (.cells z16s 140);have q4 := bal (bcall N4 hb5) (.cells z16s 140);have q3 : Blk (w5.alloc (.cells z16s 140)) w5.heap.size 140 (wc3 (zw3 16)) := Blk.new _ _ _;have hs5 : g2 < w5.heap.size := by have := (M2.below hb5 M2.lt).lt; omega
   have hw5 : Hid (w.heap.size <= w5.heap.size) := (bcall N4 hb5).size;unfold z16s at q0 q1 q2 q3 q4;have Q3 := zH q3; clear q3 hb5 N0 N1 M2 N4;go_upto_region 20 with (refine aZE rfl 140 _ _ rfl w5.heap.size (wc3 M) rfl rfl 140 _ Q3 sM.out hoM.out aM.out ?_)
   have q3 := Q3.row (wc3 M);replace q0 := q0.rowFar (k := w5.heap.size) (by omega) (wc3 M); replace q1 := q1.rowFar (k := w5.heap.size) (by omega) (wc3 M); replace q2 := q2.rowFar (k := w5.heap.size) (by omega) (wc3 M); replace q4 := brow q4 (g := w5.heap.size) hw5.out (wc3 M);clear Q3;obtain ⟨g3, hg3⟩ : ∃ g, g = w5.heap.size := ⟨_, rfl⟩;rw [<- hg3] at q0 q1 q2 q3 q4 hs5 ⊢;generalize (w5.alloc (.cells #[.int .u32 0, .int .u32 0, .int .u32 0, .int .u32 0, .int .u32 0, .int .u32 0, .int .u32 0, .int .u32 0, .int .u32 0, .int .u32 0, .int .u32 0, .int .u32 0, .int .u32 0, .int .u32 0, .int .u32 0, .int .u32 0] 140)).setRow g3 (wc3 M) = w6 at *;have Q0 := zH q0; have Q1 := zH q1; have Q2 := zH q2; have Q3 := zH q3; have Q4 := zH q4;clear q0 q1 q2 q3 q4 hg3 hw5;go_upto_region 21 with (first
    | (refine aZH rfl 130 (.tmp 20) rfl g2 rfl 130 (wc3 H) (0, 0) _ Q2 hu8.out rfl s8.out ?_)
    | (refine aZH rfl 140 (.tmp 22) rfl g3 rfl 140 (wc3 M) (0, 0) _ Q3 hu3.out rfl sM.out ?_)
    | (go_at_call 79; refine (HC _).mono ?_; rintro e w7 ⟨rfl, hb7⟩; have R2 := zH (Q2.below hb7 Q2.lt); have HB7 := zH hb7; clear hb7)
    | (refine aZE rfl 130 _ _ rfl g2 (wc3 F) rfl rfl 130 _ R2 sF.out hoF.out aF.out ?_))
   have q2 := R2.row (wc3 F);have q0 := (Q0.below HB7.out Q0.lt).rowFar (k := g2) (by omega) (wc3 F);have q1 := (Q1.below HB7.out Q1.lt).rowFar (k := g2) (by omega) (wc3 F);have q4 := brow (bcall Q4.out HB7.out) (g := g2) (by have := l0.out; omega) (wc3 F);clear Q0 Q1 Q2 Q3 Q4 R2 HB7;generalize w7.setRow g2 (wc3 F) = w8 at *;have N0 := zH q0; have N1 := zH q1; have N2 := zH q2; have N4 := zH q4; clear q0 q1 q2 q4;go_wp2_with fail;go_loopw [24] (fun i wr => ∃ k : Nat, k <= 8 /\ i = .int .i64 k /\ Blk wr g0 41 (wcs (halfW R L k)) /\ Blk wr g1 41 (wcs (zw 16)) /\ Blk wr g2 130 (wc3 F) /\ Below w.heap.size w wr) (fun i _ => 8 - (intOf i).toNat)
   case atStart => exact ⟨0, by omega, rfl, by simpa [halfW] using N0.out, N1.out, N2.out, N4.out⟩
   case round =>
    clear N0 N1 N2 N4;obtain ⟨k, hk, rfl, x0, x1, x2, x4⟩ := hrel;have N0 := zH x0; have N1 := zH x1; have N2 := zH x2; have N4 := zH x4; clear x0 x1 x2 x4
    by_cases hlt : k < 8
    ·obtain ⟨u, hu⟩ : ∃ u, u = F.getD k 0 := ⟨_, rfl⟩
     have hcv := down_up u;have hFk : F[k]? = some u := by rw [hu]; exact getD3 F k (by rw [HFL.out]; exact hlt)
     have c2 : wr.cell? ⟨g2, k, none⟩ = some (.int .u32 (wr3 u)) := by rw [N2.cell, wc3_at' _ k u hFk]
     have c0 : wr.cell? ⟨g0, k, none⟩ = some (wv (L.getD k 0)) := (N0.cell k).trans (wcs_at' _ k _ (halfW_at R L k (by rw [HLL.out]; omega) (by rw [HLL.out, HRL.out])));generalize wv (L.getD k 0) = old at c0;have f0 : wr.frozen? ⟨g0, k, none⟩ = false := N0.frozen k;have hki : (k : Int) < 8 := by omega
     have hk16 : (k : Int) < 16 := by omega
     have hkd : decide ((k : Int) < 8) = true := by simp; omega
     have hs0 := N0.set_ k (wv (UInt32.toUInt64 u));rw [wcs_set, halfW_put R L k _ (HRF.out k u hlt hFk) (by rw [HLL.out, HRL.out])] at hs0;have hs1 := N1.far (p := ⟨g0, k, none⟩) (by show g1 ≠ g0; omega) (wv (UInt32.toUInt64 u));have hs2 := N2.far (p := ⟨g0, k, none⟩) (by show g2 ≠ g0; omega) (wv (UInt32.toUInt64 u));have hs4 := bput N4 (p := ⟨g0, k, none⟩) l0.out (wv (UInt32.toUInt64 u));have HS0 := zH hs0; have HS1 := zH hs1; have HS2 := zH hs2; have HS4 := zH hs4;clear hs0 hs1 hs2 hs4 hu hFk N0 N1 N2 N4;go_wp2_with fail;go_roundw
     case rel => exact ⟨k + 1, by omega, by go_num, HS0.out, HS1.out, HS2.out, HS4.out⟩
     case measure => simp [intOf]; omega
    ·obtain rfl : k = 8 := by omega
     clear hlt hk;have x0 := N0.out;rw [HFIN.out] at x0;have X0 := zH x0; clear x0 N0;have hl1 : Hid (w.heap.size <= g1) := by show _ <= _; have := l0.out; omega
     go_upto_region 25 with fail
     go_wp2_with (first
      | (refine aZH rfl 41 _ rfl g0 rfl 41 (wcs R) (0, 0) _ X0 hu16.out rfl sR.out ?_)
      | (refine aZE rfl 41 _ _ rfl g1 (wcs R) rfl rfl 41 _ N1 sR.out hoR.out aR.out ?_))
     exact aZB (aZZ rfl _ _ g1 _ _ (0, 0) _ rfl (N1.row _) hu16.out rfl sR.out) rfl ⟨rfl, brow N4 hl1.out _⟩
theorem refIn_any (S : HS) (A : Option Addr) (n c : Nat) (x : List UInt8) (lo hi : UInt64) (last node : Bool) (w : World) (hS : S.Ok) (hn : n = 2 * bOf S.k) (hx : x.length = n) (hr : RS cB w w.heap.size A x) :
  Calls Tryz.prog 45 #[.int .i64 (kOf S.k), .agg (wcs S.words), .slice A n c, .int .u64 (wrd lo), .int .u64 (wrd hi), .bool last, .bool node] w fun e w' => e = .returned (.agg (wcs (S.mix x lo hi last node).words)) /\ Below w.heap.size w w' := by
 subst hn
 cases S with
 | big H => exact refInBig_any H A c x lo hi last node w hS hx hr
 | small H => exact refInSmall_any H A c x lo hi last node w hS hx hr
def keyL (big : Bool) (key : List UInt8) : List UInt8 := if key = [] then [] else padTo key (2 * bOf big)
theorem keyL_len (big : Bool) (key : List UInt8) (h : key.length <= 2 * bOf big) : (keyL big key).length <= 128 := by
 unfold keyL
 split
 ·exact aZY _
 ·rw [padTo_len _ _ h]; have := bOf_le big; omega
theorem padTo_in (l : List UInt8) (n k : Nat) (x : UInt8) (hx : l[k]? = some x) : (padTo l n)[k]? = some x := by
 have hl := (List.getElem?_eq_some_iff.1 hx).1;unfold padTo;rw [bZH hl, hx]
theorem padTo_out (l : List UInt8) (n k : Nat) (hk : k < n) (hx : l.length <= k) : (padTo l n)[k]? = some 0 := by
 unfold padTo;rw [List.getElem?_append_right hx, List.getElem?_replicate_of_lt (by omega)]
theorem refKeyed_any (big : Bool) (A : Option Addr) (nk c : Nat) (key : List UInt8) (w : World) (hk : key.length = nk) (hnk : nk <= bOf big) (hr : RS cB w w.heap.size A key) :
  Calls Tryz.prog 32 #[.int .i64 (kOf big), .slice A nk c] w fun e w' => ∃ A' m c', e = .returned (.slice A' m c') /\ (keyL big key).length = m /\ OS cB w' w.heap.size A' c' (keyL big key) /\ Below w.heap.size w w' := by
 have hbl := fun W => refBlock_any big W
 have hb2 := bOf_le big;obtain ⟨n, hn⟩ : ∃ n, n = 2 * bOf big := ⟨_, rfl⟩
 by_cases h0 : nk = 0
 ·subst h0
  have hk0 : keyL big key = [] := by unfold keyL; rw [if_pos (List.eq_nil_of_length_eq_zero hk)]
  rw [hk0];clear hbl hk0 hn;generalize kOf big = kk at *;go_enter Tryz.func32, Tryz.ntmps32;go_wp2_with fail;exact aZB (results_tmp rfl _ _ _) rfl ⟨none, 0, 0, rfl, rfl, OS.nil _ _ _ rfl, b0 _⟩
 ·have hke : keyL big key = padTo key n := by unfold keyL; rw [if_neg (fun h => h0 (by rw [<- hk, h]; rfl)), hn]
  rw [hke];rw [<- hn] at hbl;have hcl := padTo_len key n (by rw [hk]; omega);have hin := fun k x hx => padTo_in key n k x hx
  have hout := fun k hk hx => padTo_out key n k hk hx
  rw [hk] at hout;obtain ⟨C, hC⟩ : ∃ C, C = padTo key n := ⟨_, rfl⟩;simp only [<- hC] at hin hout hcl ⊢;have HIN := zH hin; have HOUT := zH hout; have HCL := zH hcl; have HR := zH hr; have HM := zH hk; have HBL := zH hbl;have hn128 : n <= 128 := by omega
  have t0 : ((nk : Int) == 0) = false := by simp; omega
  clear hin hout hcl hC hr hk hbl hke hn hb2;generalize kOf big = kk at *;go_enter Tryz.func32, Tryz.ntmps32;go_wp2_with fail;go_loopw [5, 6] (fun o i wr => ∃ (k : Nat) (A' : Option Addr) (c' : Nat), k <= n /\ i = .int .i64 k /\ o = .slice A' k c' /\ OS cB wr w.heap.size A' c' (C.take k) /\ Below w.heap.size w wr) (fun _ i _ => n - (intOf i).toNat)
  case atStart => exact ⟨0, none, 0, aZY _, rfl, rfl, OS.nil _ _ _ rfl, b0 _⟩
  case round =>
   obtain ⟨k, A1, c1, hk, rfl, rfl, hos, hbw⟩ := hrel;have HO := zH hos; have HB := zH hbw; clear hos hbw
   by_cases hlt : k < n
   ·have hkd : decide ((k : Int) < n) = true := by simp; omega
    have hkl : Hid ((C.take k).length = k) := by show _ = _; rw [aZJ, HCL.out]; omega
    by_cases hjN : k < nk
    ·obtain ⟨ad, x, rfl, -, hlx, hcx⟩ := (HR.below HB.out).at_ (k := k) (by rw [HM.out]; exact hjN)
     change wr.cell? (ad.add k) = some (.int .u8 (byt x)) at hcx;have htk := take_more C k x (HIN k x hlx);have HTK := zH htk;have hjd : decide ((k : Int) < nk) = true := by simp; omega
     clear htk hlx;go_wp2_with (first
      | (go_at_call 47; refine (HBL _).mono ?_; rintro e2 w2 ⟨rfl, rfl⟩)
      | (at_builtin; refine wpList_appB1 _ rfl (.tmp 25) (.tmp 27) rfl (HO.alloc _) rfl hkl.out rfl (cnew _ _ _ rfl) x rfl (by omega) (by have := HB.size; simp; omega) ?_; intro A3 c3 w3 hown3 hgrow hat; have HW3 := zH (bapp (bal HB.out _) (HO.alloc _) hgrow); have HO3 := zH hown3; clear hown3 hgrow hat))
     go_roundw
     case rel => exact ⟨k + 1, A3, c3, by omega, by go_num, rfl, by rw [HTK.out]; exact HO3.out, HW3.out⟩
     case measure => simp [intOf]; omega
    ·have htk := take_more C k 0 (HOUT.out k hlt (by omega))
     have HTK := zH htk;have hjd : decide ((k : Int) < nk) = false := by simp; omega
     clear htk;go_wp2_with (first
      | (go_at_call 47; refine (HBL _).mono ?_; rintro e2 w2 ⟨rfl, rfl⟩)
      | (at_builtin; refine wpList_appB1 _ rfl (.tmp 25) (.tmp 27) rfl (HO.alloc _) rfl hkl.out rfl (cnew _ _ _ rfl) 0 rfl (by omega) (by have := HB.size; simp; omega) ?_; intro A3 c3 w3 hown3 hgrow hat; have HW3 := zH (bapp (bal HB.out _) (HO.alloc _) hgrow); have HO3 := zH hown3; clear hown3 hgrow hat))
     go_roundw
     case rel => exact ⟨k + 1, A3, c3, by omega, by go_num, rfl, by rw [HTK.out]; exact HO3.out, HW3.out⟩
     case measure => simp [intOf]; omega
   ·obtain rfl : k = n := by omega
    have hos := HO.out;rw [aZQ (Nat.le_of_eq HCL.out)] at hos;have HO2 := zH hos; clear hos;go_wp2_with (go_at_call 47; refine (HBL _).mono ?_; rintro e2 w2 ⟨rfl, rfl⟩);exact aZB (results_tmp rfl _ _ _) rfl ⟨_, _, _, rfl, HCL.out, HO2.out, HB.out⟩
def rnCells (big : Bool) (p : Pr) (kv : Value) (last : Bool) (mv : Value) (cnt : UInt64) : Array Value :=
  #[.int .i64 (kOf big), .int .i64 p.digest, .int .i64 p.key, .int .i64 p.fanout, .int .i64 p.depth, .int .u32 p.leaf, .int .u64 p.offset, .int .u32 p.xof, .int .i64 p.nd, .int .i64 p.inner, .slice p.salt.A p.salt.n p.salt.c, .slice p.pers.A p.pers.n p.pers.c, kv, .bool last,
    .int .u64 0, .int .u64 0, .int .u64 0, .int .u64 0, .int .u64 0, .int .u64 0, .int .u64 0, .int .u64 0, .int .u64 0, .int .u64 0, .int .u64 0, .int .u64 0, .int .u64 0, .int .u64 0, .int .u64 0, .int .u64 0, .bool false, .int .u64 0, .int .u64 0, mv, .int .u64 (wrd cnt)]
structure RN (w : World) (base q : Nat) (big : Bool) (p : Pr) (ls lp key : List UInt8) (Ak : Option Addr) (nk ck : Nat) (last : Bool) (msg : List UInt8) (Am : Option Addr) (nm cm : Nat) (cnt : UInt64) : Prop where
  blk : Blk w q 43 (rnCells big p (.slice Ak nk ck) last (.slice Am nm cm) cnt)
  lo : base <= q
  salt : RS cB w base p.salt.A ls
  pers : RS cB w base p.pers.A lp
  key : RS cB w base Ak key
  own : OS cB w base Am cm msg
  len : msg.length = nm
  far : ∀ a, Am = some a -> a.block ≠ q
theorem refNewBad_any (k : Int) (p : Pr) (Ak : Option Addr) (nk ck : Nat) (w : World) (hc : chk k p ≠ 0) :
  Calls Tryz.prog 16 #[.int .i64 k, p.v, .slice Ak nk ck] w fun e w' => e = .returned (.tuple #[.pointer none, .int .i64 (chk k p)]) /\ Below w.heap.size w w' := by
 have hck := fun W => refCheck_any k p W
 have t0 : (chk k p == 0) = false := by simpa using hc
 obtain ⟨r, hr⟩ : ∃ r, r = chk k p := ⟨_, rfl⟩;rw [<- hr] at t0 ⊢;simp only [<- hr] at hck;have HCK := zH hck; clear hck hr hc;unfold Pr.v Pr.cs Sl.v at *;go_enter Tryz.func16, Tryz.ntmps16;go_wp2_with (go_at_call 31; refine (HCK.out _).mono ?_; rintro e w1 ⟨rfl, hbw1⟩; (first | refine withN hbw1 ?_ | refine withD hbw1 ?_ | refine with0 hbw1 ?_); intro hcw1 hfw1; have z0w1 : w.heap.size < w1.heap.size := (by have := hbw1.size; (try simp at this); omega));exact aZB (aZG rfl _ _ _) rfl ⟨rfl, bcall (bal (b0 w) _) hbw1⟩
theorem refNewKey_any (k : Int) (p : Pr) (Ak : Option Addr) (nk ck : Nat) (w : World) (hc : chk k p = 0) (hn : nk ≠ 0) (hk : (nk : Int) ≠ p.key) :
  Calls Tryz.prog 16 #[.int .i64 k, p.v, .slice Ak nk ck] w fun e w' => e = .returned (.tuple #[.pointer none, .int .i64 8]) /\ Below w.heap.size w w' := by
 have hck := fun W => refCheck_any k p W
 simp only [hc] at hck;have t0 : ((nk : Int) == 0) = false := by simp; omega
 have t1 : ((nk : Int) == p.key) = false := by simpa using hk
 have t2 : ((nk : Int) != p.key) = true := by simpa using hk
 have t3 : ((nk : Int) != 0) = true := by simp; omega
 have HCK := zH hck; clear hck hc hk;unfold Pr.v Pr.cs Sl.v at *;go_enter Tryz.func16, Tryz.ntmps16;go_wp2_with (go_at_call 31; refine (HCK.out _).mono ?_; rintro e w1 ⟨rfl, hbw1⟩; (first | refine withN hbw1 ?_ | refine withD hbw1 ?_ | refine with0 hbw1 ?_); intro hcw1 hfw1; have z0w1 : w.heap.size < w1.heap.size := (by have := hbw1.size; (try simp at this); omega));exact aZB (aZG rfl _ _ _) rfl ⟨rfl, bcall (bal (b0 w) _) hbw1⟩
theorem refNew_any (big : Bool) (p : Pr) (ls lp key : List UInt8) (Ak : Option Addr) (nk ck : Nat) (w : World) (hc : chk (kOf big) p = 0) (hrs : RS cB w w.heap.size p.salt.A ls) (hrp : RS cB w w.heap.size p.pers.A lp) (hk : key.length = nk) (hkk : nk = 0 \/ (nk : Int) = p.key) (hrk : RS cB w w.heap.size Ak key) :
  Calls Tryz.prog 16 #[.int .i64 (kOf big), p.v, .slice Ak nk ck] w fun e w' => ∃ q Am nm cm, e = .returned (.tuple #[.pointer (some ⟨q, 0, none⟩), .int .i64 0]) /\ RN w' w.heap.size q big p ls lp key Ak nk ck false (keyL big key) Am nm cm 0 /\ Below w.heap.size w w' := by
 have hck := fun W => refCheck_any (kOf big) p W
 simp only [hc] at hck;obtain ⟨-, ⟨hr1, hr2⟩, -, -, -, -, -, -⟩ := chk_range hc;have hkd := fun W hr => refKeyed_any big Ak nk ck key W hk (by rcases hkk with h | h <;> omega) hr
 generalize keyL big key = KL at *;obtain ⟨kk, hkk2⟩ : ∃ kk, kOf big = kk := ⟨_, rfl⟩;rw [hkk2];simp only [hkk2] at hck hkd;have HCK := zH hck; have HKD := zH hkd; have HRS := zH hrs; have HRP := zH hrp; have HRK := zH hrk; clear hck hkd hrs hrp hrk hc hk hr1 hr2;unfold Pr.v Pr.cs Sl.v at *
 by_cases h0 : nk = 0
 ·subst h0
  clear hkk;go_enter Tryz.func16, Tryz.ntmps16;go_wp2_with (go_at_call 31; refine (HCK.out _).mono ?_; rintro e w1 ⟨rfl, hbw1⟩; (first | refine withN hbw1 ?_ | refine withD hbw1 ?_ | refine with0 hbw1 ?_); intro hcw1 hfw1; have z0w1 : w.heap.size < w1.heap.size := (by have := hbw1.size; (try simp at this); omega));have hW1 := bcall (bal (b0 w) _) hbw1;have hq := Blk.new w1 43 (rnCells big p (.slice Ak 0 ck) false (.slice none 0 0) 0);have hW2 := bal hW1 (.cells (rnCells big p (.slice Ak 0 ck) false (.slice none 0 0) 0) 43);have e0 : wrd 0 = 0 := rfl;have hqs : Hid (w.heap.size <= w1.heap.size) := hW1.size;unfold rnCells at hq hW2;rw [e0] at hq hW2;obtain ⟨q, hqe⟩ : ∃ q, q = w1.heap.size := ⟨_, rfl⟩;have hqs2 : Hid (w.heap.size <= q) := by (show _ <= _; rw [hqe]; exact hqs.out)
  rw [<- hqe] at hq ⊢;rw [hkk2] at hq hW2;generalize w1.alloc _ = w2 at *;have HQ := zH hq; have HW2 := zH hW2; clear hq hW2 hW1 hbw1 hcw1 hfw1 hqe hqs z0w1 e0;go_wp2_with fail;refine (HKD _ ((HRK.below HW2).more HW2.size)).mono ?_;rintro e3 w3 ⟨A3, m3, c3, rfl, hlen3, ho3, hb3⟩;have hq3 := HQ.below hb3 HQ.lt;have hql := HQ.lt;have g33 := hq3.cell 33;change w3.cell? ⟨q, 33, none⟩ = some (.slice none 0 0) at g33;have f33 := hq3.frozen 33;have HQ3 := zH hq3; have HO3 := zH ho3; have HL3 := zH hlen3; have HB3 := zH hb3; have HKE := zH hkk2; clear hq3 ho3 hlen3 hb3 hkk2;go_wp2_with fail;have hb := HQ3.set_ 33 (.slice A3 m3 c3);have hW := bput (bcall HW2 HB3) (p := ⟨q, 33, none⟩) hqs2.out (.slice A3 m3 c3);have hfar : ∀ a, A3 = some a -> a.block ≠ q := fun a ha he => by have h := (HO3.block_lt a ha).1; omega
  refine aZB (aZG rfl _ _ _) rfl ⟨q, A3, m3, c3, rfl, ⟨?_, hqs2.out, HRS.below hW, HRP.below hW, HRK.below hW, (HO3.setFar (p := ⟨q, 33, none⟩) hfar _).mono HW2.size, HL3.out, hfar⟩, hW⟩;rw [<- HKE.out] at hb;exact hb
 ·have h1 : (nk : Int) = p.key := hkk.resolve_left h0
  have t0 : ((nk : Int) == 0) = false := by simp; omega
  have t1 : ((nk : Int) == p.key) = true := by simpa using h1
  have t2 : ((nk : Int) != p.key) = false := by simpa using h1
  have t3 : ((nk : Int) != 0) = true := by simp; omega
  clear hkk h1;go_enter Tryz.func16, Tryz.ntmps16;go_wp2_with (go_at_call 31; refine (HCK.out _).mono ?_; rintro e w1 ⟨rfl, hbw1⟩; (first | refine withN hbw1 ?_ | refine withD hbw1 ?_ | refine with0 hbw1 ?_); intro hcw1 hfw1; have z0w1 : w.heap.size < w1.heap.size := (by have := hbw1.size; (try simp at this); omega));have hW1 := bcall (bal (b0 w) _) hbw1;have hq := Blk.new w1 43 (rnCells big p (.slice Ak nk ck) false (.slice none 0 0) 0);have hW2 := bal hW1 (.cells (rnCells big p (.slice Ak nk ck) false (.slice none 0 0) 0) 43);have e0 : wrd 0 = 0 := rfl;have hqs : Hid (w.heap.size <= w1.heap.size) := hW1.size;unfold rnCells at hq hW2;rw [e0] at hq hW2;obtain ⟨q, hqe⟩ : ∃ q, q = w1.heap.size := ⟨_, rfl⟩;have hqs2 : Hid (w.heap.size <= q) := by (show _ <= _; rw [hqe]; exact hqs.out)
  rw [<- hqe] at hq ⊢;rw [hkk2] at hq hW2;generalize w1.alloc _ = w2 at *;have HQ := zH hq; have HW2 := zH hW2; clear hq hW2 hW1 hbw1 hcw1 hfw1 hqe hqs z0w1 e0;go_wp2_with fail;refine (HKD _ ((HRK.below HW2).more HW2.size)).mono ?_;rintro e3 w3 ⟨A3, m3, c3, rfl, hlen3, ho3, hb3⟩;have hq3 := HQ.below hb3 HQ.lt;have hql := HQ.lt;have g33 := hq3.cell 33;change w3.cell? ⟨q, 33, none⟩ = some (.slice none 0 0) at g33;have f33 := hq3.frozen 33;have HQ3 := zH hq3; have HO3 := zH ho3; have HL3 := zH hlen3; have HB3 := zH hb3; have HKE := zH hkk2; clear hq3 ho3 hlen3 hb3 hkk2;go_wp2_with fail;have hb := HQ3.set_ 33 (.slice A3 m3 c3);have hW := bput (bcall HW2 HB3) (p := ⟨q, 33, none⟩) hqs2.out (.slice A3 m3 c3);have hfar : ∀ a, A3 = some a -> a.block ≠ q := fun a ha he => by have h := (HO3.block_lt a ha).1; omega
  refine aZB (aZG rfl _ _ _) rfl ⟨q, A3, m3, c3, rfl, ⟨?_, hqs2.out, HRS.below hW, HRP.below hW, HRK.below hW, (HO3.setFar (p := ⟨q, 33, none⟩) hfar _).mono HW2.size, HL3.out, hfar⟩, hW⟩;rw [<- HKE.out] at hb;exact hb
theorem rn_msg (big : Bool) (p : Pr) (kv : Value) (last : Bool) (mv mv' : Value) (cnt : UInt64) : (rnCells big p kv last mv cnt).setIfInBounds 33 mv' = rnCells big p kv last mv' cnt := rfl
theorem rn_cnt (big : Bool) (p : Pr) (kv : Value) (last : Bool) (mv : Value) (cnt cnt' : UInt64) : (rnCells big p kv last mv cnt).setIfInBounds 34 (.int .u64 (wrd cnt')) = rnCells big p kv last mv cnt' := rfl
theorem rn_last (big : Bool) (p : Pr) (kv : Value) (last last' : Bool) (mv : Value) (cnt : UInt64) : (rnCells big p kv last mv cnt).setIfInBounds 13 (.bool last') = rnCells big p kv last' mv cnt := rfl
structure RWr (w wr : World) (base q : Nat) (big : Bool) (p : Pr) (kv : Value) (last : Bool) (M : List UInt8) (Am : Option Addr) (n : Nat) (cnt : UInt64) (A : Option Addr) (c : Nat) : Prop where
  blk : Blk wr q 43 (rnCells big p kv last (.slice A n c) cnt)
  own : OS cB wr base A c M
  far : ∀ a, A = some a -> a.block ≠ q
  row : ∀ a, A = some a -> a.block ∈ obl Am \/ w.heap.size <= a.block
  but : But (q :: obl Am) w wr
theorem refWrite_any (base q : Nat) (big : Bool) (p : Pr) (ls lp key : List UInt8) (Ak : Option Addr) (nk ck : Nat) (last : Bool) (msg : List UInt8) (Am : Option Addr) (nm cm : Nat) (cnt : UInt64) (Ad : Option Addr) (nd cd : Nat) (data : List UInt8) (w : World)
  (hN : RN w base q big p ls lp key Ak nk ck last msg Am nm cm cnt) (hd : data.length = nd) (hr : RS cB w base Ad data) (hlen : nm + nd <= 140737488355328) :
  Calls Tryz.prog 17 #[.pointer (some ⟨q, 0, none⟩), .slice Ad nd cd] w fun e w' => e = .returned (.tuple #[]) /\ ∃ Am' cm', RN w' base q big p ls lp key Ak nk ck last (msg ++ data) Am' (nm + nd) cm' (cnt + bZD nd) /\ But (q :: obl Am) w w' /\ (∀ a, Am' = some a -> a.block ∈ obl Am \/ w.heap.size <= a.block) := by
 have HN := zH hN; have HR := zH hr; have HD := zH hd; clear hN hr hd;have hqb : base <= q := HN.lo;have hq0 : q < w.heap.size := HN.blk.lt;have hOB : Hid (∀ a, Am = some a -> base <= a.block) := fun a ha => (HN.own.block_lt a ha).1
 generalize hkv : Value.slice Ak nk ck = kv at *;have H0 : Hid (RWr w w base q big p kv last (msg ++ data.take 0) Am (nm + 0) cnt Am cm) := ⟨by rw [<- hkv]; exact HN.blk, by rw [List.take_zero, List.append_nil]; exact HN.own, HN.far, fun a ha => .inl (by rw [ha]; simp [obl]), But.refl _ _⟩;have HKV := zH hkv; clear hkv;go_enter Tryz.func17, Tryz.ntmps17;go_wp2_with fail;go_loopw [4] (fun i wr => ∃ (k n : Nat) (A : Option Addr) (c : Nat), k <= nd /\ i = .int .i64 k /\ n = nm + k /\ RWr w wr base q big p kv last (msg ++ data.take k) Am n cnt A c) (fun i _ => nd - (intOf i).toNat)
 case atStart => exact ⟨0, nm, Am, cm, aZY _, rfl, rfl, H0.out⟩
 case round =>
  clear H0;obtain ⟨k, n, A, c, hk, rfl, hnk, hrw⟩ := hrel;have HW := zH hrw; have HNK := zH hnk; clear hrw;have hqs : q < wr.heap.size := HW.blk.lt;have hBe : Below base w wr := HW.but.toBelow (by omega) (fun j hj => by
   rcases List.mem_cons.1 hj with rfl | h
   ·exact hqb
   ·obtain ⟨a, ha, hb⟩ := mem_obl.1 h
    rw [<- hb]; exact hOB.out a ha)
  have HRW := zH (HR.below hBe);clear hBe
  by_cases hlt : k < nd
  ·obtain ⟨ad, x, rfl, hab, hlx, hcx⟩ := HRW.at_ (k := k) (by rw [HD.out]; exact hlt)
   change wr.cell? (ad.add k) = some (.int .u8 (byt x)) at hcx;have htk := take_more data k x hlx;have HTK := zH htk;have HML : Hid ((msg ++ data.take k).length = n) := by show _ = _; rw [aZN, HN.len, aZJ, HD.out, HNK.out]; omega
   have hkd : decide ((k : Int) < nd) = true := by simp; omega
   have hki : (k : Int) < nd := by omega
   have hnb : n + 1 <= 140737488355328 := by omega
   have c33 : wr.cell? ⟨q, 33, none⟩ = some (.slice A n c) := HW.blk.cell 33;have d33 : ∀ a, ((wr.drewN a).alloc (.cells #[.int .u8 (byt x)] 5)).cell? ⟨q, 33, none⟩ = some (.slice A n c) := fun a => ((HW.blk.drewN a).alloc _).cell 33
   have hcell : Hid (∀ W', RS cB W' base (some ad) data -> W'.cell? (ad.add k) = some (.int .u8 (byt x))) := fun W' h => by
    obtain ⟨ad', x', e1, -, hlx', hcx'⟩ := h.at_ (k := k) (by rw [HD.out]; exact hlt)
    cases e1
    rw [hlx] at hlx'
    cases hlx'
    exact hcx'
   clear hnk htk hlx;go_wp2_with fail;refine wrZ (fun W' => RS cB W' base (some ad) data) (fun _ n h => h.drewN n) (Ords.of [(0, 0), (0, 1), (0, 2), (0, 3), (0, 5), (0, 6), (0, 7), (0, 8)] (.two 4 9 (Ords.of [(2, 9), (2, 10), (0, 11), (0, 12), (2, 13)] .fin) (Ords.of [(2, 4), (2, 10), (0, 11), (0, 12), (2, 13)] .fin))) HRW ?_
   iterate 7 (refine ords_pure rfl (fun K hK => ?_); go_simp; refine hK _ ?_; clear hK K)
   refine ords_heldK rfl (fun K K2 hK hK2 => ?_); go_simp; refine ⟨hK2 _ (fun w9 hS => ?_), hK _ ?_⟩; (clear hK hK2 K K2; have q0 := hcell.out w9 hS; go_simp); (clear hK hK2 K K2);refine ords_two rfl rfl (fun n1 => ?_) (fun n1 => ?_)
   ·go_wp2
    refine ⟨by first | exact HRW.drewN _ | exact ((HRW.drewN _).alloc (by simp; omega) _).drewN _, ?_⟩;refine ords_loud rfl (fun n2 => ?_);go_wp2;refine ⟨((HRW.drewN _).alloc (by simp; omega) _), ?_⟩;refine ords_loud rfl (fun n3 => ?_)
    (try simp only [World.drewN_drewN])
    (refine wpList_appB1 _ rfl (.tmp 15) (.tmp 20) rfl (((HW.own.drewN _).alloc _).drewN _) rfl HML.out rfl (show World.cell? (World.drewN (World.alloc _ _) _) _ = _ from cnew _ _ _ rfl) x rfl (by omega) (by simp; omega) ?_; intro A3 c3 w3 ho3 hg3 hA3)
    have hbl3 := ((((HW.blk.drewN _).alloc _).drewN _).grown hg3 (fun h => by
     cases hA : A with
     | none => rw [hA] at h; cases h
     | some a => rw [hA] at h; exact HW.far a hA (aZF h).symm))
    have hrs3 := ((((HRW.drewN _).alloc (by simp; omega) _).drewN _).grown hg3 (by simp; omega) (fun g hg => by
     cases hA : A with
     | none => rw [hA] at hg; cases hg
     | some a => rw [hA] at hg; have h := (HW.own.block_lt a hA).1; have h2 : a.block = g := aZF hg; omega))
    have hrow3 : ∀ a, A3 = some a -> a.block ∈ obl Am \/ w.heap.size <= a.block := fun a ha => by
     rw [ha] at hA3;rcases hA3 with h | h
     ·cases hA : A with
      | none => rw [hA] at h; cases h
      | some b => rw [hA] at h; have h2 : a.block = b.block := aZF h; rw [h2]; exact HW.row b hA
     ·have h2 : a.block = _ := aZF h; have h3 := HW.but.size; simp at h2; right; omega
    have hfar3 : ∀ a, A3 = some a -> a.block ≠ q := fun a ha => by
     rw [ha] at hA3;rcases hA3 with h | h
     ·cases hA : A with
      | none => rw [hA] at h; cases h
      | some b => rw [hA] at h; have h2 : a.block = b.block := aZF h; rw [h2]; exact HW.far b hA
     ·have h2 : a.block = _ := aZF h; simp at h2; omega
    have hbut3 : But (q :: obl Am) w w3 := (((HW.but.drewN _).alloc _).drewN _).trans (But.grown (F := obl A) hg3 (fun j hj => by
     cases hA : A with
     | none => rw [hA] at hj; cases hj
     | some b => rw [hA] at hj; have h2 : b.block = j := aZF hj; left; simp [obl]; omega)) (fun j hj => by
     obtain ⟨a, ha, hb⟩ := mem_obl.1 hj;rcases HW.row a ha with h | h
     ·left; rw [<- hb]; exact List.mem_cons_of_mem _ h
     ·right; omega)
    have g33 := hbl3.cell 33;change w3.cell? ⟨q, 33, none⟩ = some (.slice A n c) at g33;have f33 := hbl3.frozen 33;have hbb : ∀ a m, Blk (((w3.drewN a).setCell ⟨q, 33, none⟩ (.slice A3 (n + 1) c3)).drewN m) q 43 (rnCells big p kv last (.slice A3 (n + 1) c3) cnt) := fun a m => ((hbl3.drewN a).set_ 33 _).drewN m
    have hoo : ∀ a m, OS cB (((w3.drewN a).setCell ⟨q, 33, none⟩ (.slice A3 (n + 1) c3)).drewN m) base A3 c3 (msg ++ data.take (k + 1)) := fun a m => by
     have ho := ((ho3.drewN a).setFar (p := ⟨q, 33, none⟩) hfar3 (.slice A3 (n + 1) c3)).drewN m;rw [List.append_assoc, <- HTK.out] at ho;exact ho
    have HB3 := zH hbb; have HRS3 := zH hrs3; have HROW3 := zH hrow3; have HFAR3 := zH hfar3; have HBUT3 := zH hbut3; have HO3 := zH hoo;clear hbb hoo hbl3 hrs3 hrow3 hfar3 hbut3 ho3 hg3 hA3;go_wp2;refine ⟨HRS3.out, ?_⟩
    iterate 2 (refine ords_pure rfl (fun K hK => ?_); go_simp; refine hK _ ?_; clear hK K)
    refine ords_loud rfl (fun n4 => ?_);go_wp2;refine ⟨(HRS3.drewN _).setCell hqb _, ?_⟩;refine ords_end (fun n5 => ?_);go_wp2_with fail;go_roundw
    case rel =>
     exact ⟨k + 1, n + 1, A3, c3, by omega, by go_num, by have := HNK.out; omega, ⟨HB3.out _ _, HO3.out _ _, HFAR3.out, HROW3.out, ((HBUT3.drewN _).setCell (p := ⟨q, 33, none⟩) (.inl (by simp)) _).drewN _⟩⟩
    case measure => simp [intOf]; omega
   ·go_wp2
    refine ⟨((HRW.drewN _).alloc (by simp; omega) _), ?_⟩;refine ords_loud rfl (fun n2 => ?_);go_wp2;refine ⟨by first | exact HRW.drewN _ | exact ((HRW.drewN _).alloc (by simp; omega) _).drewN _, ?_⟩;refine ords_loud rfl (fun n3 => ?_)
    (try simp only [World.drewN_drewN])
    (refine wpList_appB1 _ rfl (.tmp 15) (.tmp 20) rfl (((HW.own.drewN _).alloc _).drewN _) rfl HML.out rfl (show World.cell? (World.drewN (World.alloc _ _) _) _ = _ from cnew _ _ _ rfl) x rfl (by omega) (by simp; omega) ?_; intro A3 c3 w3 ho3 hg3 hA3)
    have hbl3 := ((((HW.blk.drewN _).alloc _).drewN _).grown hg3 (fun h => by
     cases hA : A with
     | none => rw [hA] at h; cases h
     | some a => rw [hA] at h; exact HW.far a hA (aZF h).symm))
    have hrs3 := ((((HRW.drewN _).alloc (by simp; omega) _).drewN _).grown hg3 (by simp; omega) (fun g hg => by
     cases hA : A with
     | none => rw [hA] at hg; cases hg
     | some a => rw [hA] at hg; have h := (HW.own.block_lt a hA).1; have h2 : a.block = g := aZF hg; omega))
    have hrow3 : ∀ a, A3 = some a -> a.block ∈ obl Am \/ w.heap.size <= a.block := fun a ha => by
     rw [ha] at hA3;rcases hA3 with h | h
     ·cases hA : A with
      | none => rw [hA] at h; cases h
      | some b => rw [hA] at h; have h2 : a.block = b.block := aZF h; rw [h2]; exact HW.row b hA
     ·have h2 : a.block = _ := aZF h; have h3 := HW.but.size; simp at h2; right; omega
    have hfar3 : ∀ a, A3 = some a -> a.block ≠ q := fun a ha => by
     rw [ha] at hA3;rcases hA3 with h | h
     ·cases hA : A with
      | none => rw [hA] at h; cases h
      | some b => rw [hA] at h; have h2 : a.block = b.block := aZF h; rw [h2]; exact HW.far b hA
     ·have h2 : a.block = _ := aZF h; simp at h2; omega
    have hbut3 : But (q :: obl Am) w w3 := (((HW.but.drewN _).alloc _).drewN _).trans (But.grown (F := obl A) hg3 (fun j hj => by
     cases hA : A with
     | none => rw [hA] at hj; cases hj
     | some b => rw [hA] at hj; have h2 : b.block = j := aZF hj; left; simp [obl]; omega)) (fun j hj => by
     obtain ⟨a, ha, hb⟩ := mem_obl.1 hj;rcases HW.row a ha with h | h
     ·left; rw [<- hb]; exact List.mem_cons_of_mem _ h
     ·right; omega)
    have g33 := hbl3.cell 33;change w3.cell? ⟨q, 33, none⟩ = some (.slice A n c) at g33;have f33 := hbl3.frozen 33;have hbb : ∀ a m, Blk (((w3.drewN a).setCell ⟨q, 33, none⟩ (.slice A3 (n + 1) c3)).drewN m) q 43 (rnCells big p kv last (.slice A3 (n + 1) c3) cnt) := fun a m => ((hbl3.drewN a).set_ 33 _).drewN m
    have hoo : ∀ a m, OS cB (((w3.drewN a).setCell ⟨q, 33, none⟩ (.slice A3 (n + 1) c3)).drewN m) base A3 c3 (msg ++ data.take (k + 1)) := fun a m => by
     have ho := ((ho3.drewN a).setFar (p := ⟨q, 33, none⟩) hfar3 (.slice A3 (n + 1) c3)).drewN m;rw [List.append_assoc, <- HTK.out] at ho;exact ho
    have HB3 := zH hbb; have HRS3 := zH hrs3; have HROW3 := zH hrow3; have HFAR3 := zH hfar3; have HBUT3 := zH hbut3; have HO3 := zH hoo;clear hbb hoo hbl3 hrs3 hrow3 hfar3 hbut3 ho3 hg3 hA3;go_wp2;refine ⟨HRS3.out, ?_⟩
    iterate 2 (refine ords_pure rfl (fun K hK => ?_); go_simp; refine hK _ ?_; clear hK K)
    refine ords_loud rfl (fun n4 => ?_);go_wp2;refine ⟨(HRS3.drewN _).setCell hqb _, ?_⟩;refine ords_end (fun n5 => ?_);go_wp2_with fail;go_roundw
    case rel =>
     exact ⟨k + 1, n + 1, A3, c3, by omega, by go_num, by have := HNK.out; omega, ⟨HB3.out _ _, HO3.out _ _, HFAR3.out, HROW3.out, ((HBUT3.drewN _).setCell (p := ⟨q, 33, none⟩) (.inl (by simp)) _).drewN _⟩⟩
    case measure => simp [intOf]; omega
  ·obtain rfl : k = nd := by omega
   have c34 : wr.cell? ⟨q, 34, none⟩ = some (.int .u64 (wrd cnt)) := HW.blk.cell 34;have f34 := HW.blk.frozen 34;have hadd := wrd_addN cnt k;have hkw : IntKind.u64.wrap (k : Int) = k := by rw [wrap_u64]; omega
   obtain ⟨cnt', hcnt⟩ : ∃ c, c = cnt + bZD k := ⟨_, rfl⟩;rw [<- hcnt] at hadd;have HCNT := zH hcnt; clear hcnt;go_wp2_with fail;have hb := HW.blk.set_ 34 (.int .u64 (wrd cnt'));rw [rn_cnt, <- HKV.out] at hb;have ho := HW.own.setFar (p := ⟨q, 34, none⟩) HW.far (.int .u64 (wrd cnt'));rw [aZQ (Nat.le_of_eq HD.out)] at ho;have hBe : Below base w wr := HW.but.toBelow (by omega) (fun j hj => by
    rcases List.mem_cons.1 hj with rfl | h
    ·exact hqb
    ·obtain ⟨a, ha, hb⟩ := mem_obl.1 h
     rw [<- hb]; exact hOB.out a ha)
   have hB2 := hBe.setCell (p := ⟨q, 34, none⟩) hqb (.int .u64 (wrd cnt'));go_end0;refine ⟨rfl, A, c, ⟨?_, hqb, HN.salt.below hB2, HN.pers.below hB2, HN.key.below hB2, ho, ?_, HW.far⟩, HW.but.setCell (p := ⟨q, 34, none⟩) (.inl (by simp)) _, HW.row⟩
   ·rw [<- HCNT.out, <- HNK.out]; exact hb
   ·rw [aZN, HN.len, HD.out]
theorem results_cell_tmp3 {P : Program} {fn : Func} {p q r s : Tmp} {ty : TypeId} (h : fn.results = #[.cell p ty, .tmp q, .tmp r, .tmp s]) (tmps : Array Value) (w : World) (g : Nat) (t : TypeId) (cs : Array Value) (d : TypeDesc)
  (hp : tmps.getD p undef = .pointer (some ⟨g, 0, none⟩)) (hg : Blk w g t cs) (hu : P.underlying ty = some d) (hd : (match d with | .struct _ | .array _ _ => true | _ => false) = true) (hi : (P.info? ty).map (·.size) = some cs.size) :
  (results fn tmps).run P w = .ok (.tuple #[.agg cs, tmps.getD q undef, tmps.getD r undef, tmps.getD s undef]) w := by
 have hl := run_loadVar_row (P := P) w g t ty cs (0, 0) d hg hu hd hi;have hp' : tmps[p]?.getD undef = .pointer (some ⟨g, 0, none⟩) := by simpa using hp
 simp [results, h, hp', asAddr, hl]
def HS.start (big : Bool) (x : List UInt8) : HS := if big then .big (start64 x) else .small (start32 x)
theorem HS.start_k (big : Bool) (x : List UInt8) : (HS.start big x).k = big := by cases big <;> rfl
theorem HS.start_ok (big : Bool) (x : List UInt8) : (HS.start big x).Ok := by
 cases big
 ·exact start32_len x
 ·exact start64_len x
theorem fillU_half (H : List UInt64) (hH : H.length = 8) : fillU (H ++ zw 8) 8 16 = H ++ zw 8 := by
 unfold fillU;rw [List.take_left' hH]
 rfl
theorem rn_par (big : Bool) (p : Pr) (kv : Value) (last : Bool) (mv : Value) (cnt : UInt64) : ((rnCells big p kv last mv cnt).extract 1 (1 + 11)).toList = [.int .i64 p.digest, .int .i64 p.key, .int .i64 p.fanout, .int .i64 p.depth, .int .u32 p.leaf, .int .u64 p.offset, .int .u32 p.xof, .int .i64 p.nd, .int .i64 p.inner, .slice p.salt.A p.salt.n p.salt.c, .slice p.pers.A p.pers.n p.pers.c] := by
 show _ = _; kernel_rfl
theorem refFirstBig_any (q : Nat) (p : Pr) (ls lp : List UInt8) (kv mv : Value) (last : Bool) (cnt : UInt64) (w : World) (hc : chk (kOf true) p = 0) (hf : p.Fit) (hls : ls.length = p.salt.n) (hlp : lp.length = p.pers.n) (hrs : RS cB w w.heap.size p.salt.A ls) (hrp : RS cB w w.heap.size p.pers.A lp)
  (hb : Blk w q 43 (rnCells true p kv last mv cnt)) :
  Calls Tryz.prog 58 #[.pointer (some ⟨q, 0, none⟩)] w fun e w' => e = .returned (.agg (wcs (HS.start true (encL true p ls lp)).words)) /\ Below w.heap.size w w' := by
 have hen := fun W hrs hrp => refEncode_any true p ls lp W hc hf hls hlp hrs hrp
 have hxl := encL_len true p ls lp (by have h := (chk_range hc).2.2.2.2.2.2.1; rw [hls]; exact h) (by have h := (chk_range hc).2.2.2.2.2.2.2; rw [hlp]; exact h);have hst := fun A c W hr => refStart_any A c (encL true p ls lp) W hxl hr
 change ∀ W, _ -> _ -> Calls Tryz.prog _ #[.int .i64 1, p.v] W _ at hen;have e64 : bOf true = 64 := rfl;simp only [e64] at hen;have c30 : w.cell? ⟨q, 30, none⟩ = some (.bool false) := hb.cell 30;have hql := hb.lt;obtain ⟨H, hH⟩ : ∃ H, H = start64 (encL true p ls lp) := ⟨_, rfl⟩;have hHl : H.length = 8 := by rw [hH]; exact start64_len _
 simp only [<- hH] at hst;have hw : (HS.start true (encL true p ls lp)).words = H ++ zw 8 := by rw [hH]; rfl
 rw [hw];generalize encL true p ls lp = X at *;obtain ⟨R, hR⟩ : ∃ R, R = H ++ zw 8 := ⟨_, rfl⟩;have hRl : R.length = 16 := by rw [hR, aZN, hHl]; rfl
 have hRH : ∀ k v, k < 8 -> H[k]? = some v -> R[k]? = some v := fun k v hk h => by rw [hR, bZH (by omega), h]
 have hfi : fillU R 8 16 = R := by rw [hR]; exact fillU_half H hHl
 rw [<- hR];have HEN := zH hen; have HST := zH hst; have HHL := zH hHl; have HRL := zH hRl; have HRH := zH hRH; have HFI := zH hfi; have HRS := zH hrs; have HRP := zH hrp; have HB := zH hb;clear hen hst hHl hRl hRH hfi hrs hrp hb hc hf hls hlp hxl hH hw hR;have hup := zH Tryz.underlying26; have hu16 := zH Tryz.underlying41;have s8 := zH (sz8w H HHL); have sR := zH (sz16w R HRL); have a8 := zH (wcs_all H); have aR := zH (wcs_all R);have ho8 : Hid (z8.size = (wcs H).size) := by show _ = _; rw [wcs_size, HHL.out]; rfl
 have hoR : Hid ((wcs (fillU R 0 16)).size = (wcs R).size) := by show _ = _; rw [wcs_size, wcs_size, fillU_len _ _ _ (by omega) HRL.out, HRL.out]
 have e0 : wcs (fillU R 0 16) = z16 := rfl;unfold Pr.v Pr.cs Sl.v at *;go_enter Tryz.func58, Tryz.ntmps58;go_wp2_with fail;have n0 : Blk ((w.alloc (.cells z16 41)).alloc (.cells z16 41)) w.heap.size 41 (wcs (fillU R 0 16)) := by rw [e0]; exact (Blk.new _ _ _).alloc _
 have n1 : Blk ((w.alloc (.cells z16 41)).alloc (.cells z16 41)) (w.heap.size + 1) 41 (wcs (fillU R 0 16)) := by
  rw [e0]; simpa using Blk.new (w.alloc (.cells z16 41)) 41 z16
 have n4 := bal (bal (b0 w) (.cells z16 41)) (.cells z16 41);unfold z16 at n0 n1 n4;obtain ⟨b, hb⟩ : ∃ b, b = w.heap.size := ⟨_, rfl⟩;rw [<- hb] at n0 n1 ⊢;generalize (w.alloc (.cells #[.int .u64 0, .int .u64 0, .int .u64 0, .int .u64 0, .int .u64 0, .int .u64 0, .int .u64 0, .int .u64 0, .int .u64 0, .int .u64 0, .int .u64 0, .int .u64 0, .int .u64 0, .int .u64 0, .int .u64 0, .int .u64 0] 41)).alloc (.cells #[.int .u64 0, .int .u64 0, .int .u64 0, .int .u64 0, .int .u64 0, .int .u64 0, .int .u64 0, .int .u64 0, .int .u64 0, .int .u64 0, .int .u64 0, .int .u64 0, .int .u64 0, .int .u64 0, .int .u64 0, .int .u64 0] 41) = w0 at *;have N0 := zH n0; have N1 := zH n1; have N4 := zH n4; have hwb : Hid (w.heap.size <= b) := by (show _ <= _; omega)
 clear n0 n1 n4 hb e0;have HQ := zH (HB.below N4 HB.lt);have c0 : w0.cell? ⟨q, 0, none⟩ = some (.int .i64 1) := HQ.cell 0;have HRNG := zH (fun m => by
  have h := (HQ.drewN m).range 1 11;rw [rn_par] at h;exact h : ∀ m, (w0.drewN m).rangeAt q 1 [.int .i64 p.digest, .int .i64 p.key, .int .i64 p.fanout, .int .i64 p.depth, .int .u32 p.leaf, .int .u64 p.offset, .int .u32 p.xof, .int .i64 p.nd, .int .i64 p.inner, .slice p.salt.A p.salt.n p.salt.c, .slice p.pers.A p.pers.n p.pers.c])
 refine wrZ (fun _ => True) (fun _ _ h => h) (Ords.of [(0, 0), (0, 1), (0, 2), (1, 3), (0, 4), (0, 5), (0, 6), (1, 7), (2, 8), (0, 9), (0, 10), (0, 11), (0, 12), (0, 13)] .fin) trivial ?_
 iterate 7 ((first | refine ords_pure rfl (fun K hK => ?_) | refine ords_read rfl (fun K hK => ?_)); go_simp; refine hK _ ?_; clear hK K)
 refine ords_readV (v := Value.agg [.int .i64 p.digest, .int .i64 p.key, .int .i64 p.fanout, .int .i64 p.depth, .int .u32 p.leaf, .int .u64 p.offset, .int .u32 p.xof, .int .i64 p.nd, .int .i64 p.inner, .slice p.salt.A p.salt.n p.salt.c, .slice p.pers.A p.pers.n p.pers.c].toArray) rfl rfl (fun m9 => pure_load_mid 26 (.tmp 27) rfl q 1 rfl _ _ (HRNG m9) hup.out rfl (by kernel_rfl)) ?_; go_simp;refine ords_loud rfl (fun n1 => ?_);go_wp2_with (go_at_call 38; refine (HEN _ (((HRS.below N4).more N4.size).drewN _) (((HRP.below N4).more N4.size).drewN _)).mono ?_; rintro e1 w1 ⟨A1, c1, rfl, ho1, hb1⟩); have HO1 := zH ho1; have M0 := zH ((N0.drewN _).below hb1 (N0.drewN _).lt); have M1 := zH ((N1.drewN _).below hb1 (N1.drewN _).lt); have M4 := zH (bcall (bdr N4 _) hb1); have MQ := zH ((HQ.drewN _).below hb1 (HQ.drewN _).lt); clear ho1 hb1
 try (refine ⟨trivial, ?_⟩)
 iterate 5 (refine ords_pure rfl (fun K hK => ?_); go_simp; refine hK _ ?_; clear hK K)
 refine ords_end (fun n2 => ?_);have n0 := M0.drewN n2; have n1 := M1.drewN n2; have n4 := bdr M4 n2; have ho1 := HO1.drewN n2;have c0 : (w1.drewN n2).cell? ⟨q, 0, none⟩ = some (.int .i64 1) := MQ.cell 0;generalize w1.drewN n2 = w2 at *;clear N0 N1 N4 HQ HRNG M0 M1 M4 MQ HO1;have N0 := zH n0; have N1 := zH n1; have N4 := zH n4; have HO1 := zH ho1; clear n0 n1 n4 ho1;go_wp2_with fail;refine (HST A1 c1 _ HO1.reads).mono ?_;rintro e3 w3 ⟨rfl, hb3⟩;have q0 := (N0.below hb3 N0.lt).alloc (.cells z8 124);have q1 := (N1.below hb3 N1.lt).alloc (.cells z8 124);have q4 := bal (bcall N4 hb3) (.cells z8 124);have q3 := Blk.new w3 124 z8;have hs3 : b + 1 < w3.heap.size := (N1.below hb3 N1.lt).lt;have hw3 : Hid (w.heap.size <= w3.heap.size) := (bcall N4 hb3).size;unfold z8 at q0 q1 q3 q4;have Q3 := zH q3; clear q3 hb3 N0 N1 N4 c0 HO1;go_upto_region 7 with (refine aZE rfl 124 _ _ rfl w3.heap.size (wcs H) rfl rfl 124 _ Q3 s8.out ho8.out a8.out ?_)
 have q3 := Q3.row (wcs H);replace q0 := q0.rowFar (k := w3.heap.size) (by omega) (wcs H); replace q1 := q1.rowFar (k := w3.heap.size) (by omega) (wcs H); replace q4 := brow q4 (g := w3.heap.size) hw3.out (wcs H);clear Q3;obtain ⟨g, hg⟩ : ∃ g, g = w3.heap.size := ⟨_, rfl⟩;rw [<- hg] at q0 q1 q3 q4 hs3 ⊢;generalize (w3.alloc _).setRow g (wcs H) = w4 at *;have N0 := zH q0; have N1 := zH q1; have N3 := zH q3; have N4 := zH q4;clear q0 q1 q3 q4 hg hw3;go_wp2_with fail;go_loopw [8] (fun i wr => ∃ k : Nat, k <= 8 /\ i = .int .i64 k /\ Blk wr b 41 (wcs (fillU R 0 16)) /\ Blk wr (b + 1) 41 (wcs (fillU R k 16)) /\ Blk wr g 124 (wcs H) /\ Below w.heap.size w wr) (fun i _ => 8 - (intOf i).toNat)
 case atStart => exact ⟨0, by omega, rfl, N0.out, N1.out, N3.out, N4.out⟩
 case round =>
  clear N0 N1 N3 N4;obtain ⟨k, hk, rfl, x0, x1, x3, x4⟩ := hrel;have N0 := zH x0; have N1 := zH x1; have N3 := zH x3; have N4 := zH x4; clear x0 x1 x3 x4
  by_cases hlt : k < 8
  ·obtain ⟨u, hu⟩ : ∃ u, u = H.getD k 0 := ⟨_, rfl⟩
   have hHk : H[k]? = some u := by rw [hu]; exact getDW H k (by rw [HHL.out]; exact hlt)
   have hcv := down_up;have c3 : wr.cell? ⟨g, k, none⟩ = some (.int .u64 (wrd u)) := by rw [N3.cell]; exact wcs_at' H k u hHk
   have c1 : wr.cell? ⟨b + 1, k, none⟩ = some (wv ((fillU R k 16).getD k 0)) := (N1.cell k).trans (wcs_get _ _ (by rw [fillU_len R k 16 (by omega) HRL.out]; omega));generalize wv ((fillU R k 16).getD k 0) = old at c1;have f1 : wr.frozen? ⟨b + 1, k, none⟩ = false := N1.frozen k;have hki : (k : Int) < 8 := by omega
   have hk16 : (k : Int) < 16 := by omega
   have hkd : decide ((k : Int) < 8) = true := by simp; omega
   obtain ⟨v, hv⟩ : ∃ v, v = u := ⟨_, rfl⟩;have hs1 := N1.set_ k (wv v);rw [fillU_put R k 16 v (by omega) (by rw [hv]; exact HRH.out k u hlt hHk)] at hs1;have hs0 := N0.far (p := ⟨b + 1, k, none⟩) (by show b ≠ b + 1; omega) (wv v);have hs3 := N3.far (p := ⟨b + 1, k, none⟩) (by show g ≠ b + 1; omega) (wv v);have hs4 := bput N4.out (p := ⟨b + 1, k, none⟩) (by have := hwb.out; simp; omega) (wv v);rw [hv] at hs0 hs1 hs3 hs4;have HS0 := zH hs0; have HS1 := zH hs1; have HS3 := zH hs3; have HS4 := zH hs4;clear hs0 hs1 hs3 hs4 hu hHk hv N0 N1 N3 N4;go_wp2_with fail;go_roundw
   case rel => exact ⟨k + 1, by omega, by go_num, HS0.out, HS1.out, HS3.out, HS4.out⟩
   case measure => simp [intOf]; omega
  ·obtain rfl : k = 8 := by omega
   clear hlt hk;have x1 := N1.out;rw [HFI.out] at x1;have X1 := zH x1; clear x1 N1;go_wp2_with (first
    | (refine aZH rfl 41 _ rfl (b + 1) rfl 41 (wcs R) (0, 0) _ X1 hu16.out rfl sR.out ?_)
    | (refine aZE rfl 41 _ _ rfl b (wcs R) rfl rfl 41 _ N0 sR.out hoR.out aR.out ?_))
   exact aZB (aZZ rfl _ _ b _ _ (0, 0) _ rfl (N0.row _) hu16.out rfl sR.out) rfl ⟨rfl, brow N4 hwb.out _⟩
theorem refFirstSmall_any (q : Nat) (p : Pr) (ls lp : List UInt8) (kv mv : Value) (last : Bool) (cnt : UInt64) (w : World) (hc : chk (kOf false) p = 0) (hf : p.Fit) (hls : ls.length = p.salt.n) (hlp : lp.length = p.pers.n) (hrs : RS cB w w.heap.size p.salt.A ls) (hrp : RS cB w w.heap.size p.pers.A lp)
  (hb : Blk w q 43 (rnCells false p kv last mv cnt)) :
  Calls Tryz.prog 58 #[.pointer (some ⟨q, 0, none⟩)] w fun e w' => e = .returned (.agg (wcs (HS.start false (encL false p ls lp)).words)) /\ Below w.heap.size w w' := by
 have hen := fun W hrs hrp => refEncode_any false p ls lp W hc hf hls hlp hrs hrp
 have hxl := encL_len false p ls lp (by have h := (chk_range hc).2.2.2.2.2.2.1; rw [hls]; exact h) (by have h := (chk_range hc).2.2.2.2.2.2.2; rw [hlp]; exact h);have hst := fun A c W hr => r4Start_any A c (encL false p ls lp) W hxl hr
 change ∀ W, _ -> _ -> Calls Tryz.prog _ #[.int .i64 2, p.v] W _ at hen;have e64 : bOf false = 32 := rfl;simp only [e64] at hen;have c30 : w.cell? ⟨q, 30, none⟩ = some (.bool false) := hb.cell 30;have hql := hb.lt;obtain ⟨H, hH⟩ : ∃ H, H = start32 (encL false p ls lp) := ⟨_, rfl⟩;have hHl : H.length = 8 := by rw [hH]; exact start32_len _
 simp only [<- hH] at hst;have hw : (HS.start false (encL false p ls lp)).words = H.map (fun x => x.toUInt64) ++ zw 8 := by rw [hH]; rfl
 rw [hw];generalize encL false p ls lp = X at *;obtain ⟨R, hR⟩ : ∃ R, R = H.map (fun x => x.toUInt64) ++ zw 8 := ⟨_, rfl⟩;have hRl : R.length = 16 := by rw [hR, aZN, bZE, hHl]; rfl
 have hRH : ∀ k v, k < 8 -> H[k]? = some v -> R[k]? = some (UInt32.toUInt64 v) := fun k v hk h => by rw [hR, bZH (by rw [bZE]; omega), bZK, h]; rfl
 have hfi : fillU R 8 16 = R := by rw [hR]; exact fillU_half _ (by rw [bZE]; exact hHl)
 rw [<- hR];have HEN := zH hen; have HST := zH hst; have HHL := zH hHl; have HRL := zH hRl; have HRH := zH hRH; have HFI := zH hfi; have HRS := zH hrs; have HRP := zH hrp; have HB := zH hb;clear hen hst hHl hRl hRH hfi hrs hrp hb hc hf hls hlp hxl hH hw hR;have hup := zH Tryz.underlying26; have hu16 := zH Tryz.underlying41;have s8 := zH (sz8s H HHL); have sR := zH (sz16w R HRL); have a8 := zH (wc3_all H); have aR := zH (wcs_all R);have ho8 : Hid (z8s.size = (wc3 H).size) := by show _ = _; rw [wc3_size, HHL.out]; rfl
 have hoR : Hid ((wcs (fillU R 0 16)).size = (wcs R).size) := by show _ = _; rw [wcs_size, wcs_size, fillU_len _ _ _ (by omega) HRL.out, HRL.out]
 have e0 : wcs (fillU R 0 16) = z16 := rfl;unfold Pr.v Pr.cs Sl.v at *;go_enter Tryz.func58, Tryz.ntmps58;go_wp2_with fail;have n0 : Blk ((w.alloc (.cells z16 41)).alloc (.cells z16 41)) w.heap.size 41 (wcs (fillU R 0 16)) := by rw [e0]; exact (Blk.new _ _ _).alloc _
 have n1 : Blk ((w.alloc (.cells z16 41)).alloc (.cells z16 41)) (w.heap.size + 1) 41 (wcs (fillU R 0 16)) := by
  rw [e0]; simpa using Blk.new (w.alloc (.cells z16 41)) 41 z16
 have n4 := bal (bal (b0 w) (.cells z16 41)) (.cells z16 41);unfold z16 at n0 n1 n4;obtain ⟨b, hb⟩ : ∃ b, b = w.heap.size := ⟨_, rfl⟩;rw [<- hb] at n0 n1 ⊢;generalize (w.alloc (.cells #[.int .u64 0, .int .u64 0, .int .u64 0, .int .u64 0, .int .u64 0, .int .u64 0, .int .u64 0, .int .u64 0, .int .u64 0, .int .u64 0, .int .u64 0, .int .u64 0, .int .u64 0, .int .u64 0, .int .u64 0, .int .u64 0] 41)).alloc (.cells #[.int .u64 0, .int .u64 0, .int .u64 0, .int .u64 0, .int .u64 0, .int .u64 0, .int .u64 0, .int .u64 0, .int .u64 0, .int .u64 0, .int .u64 0, .int .u64 0, .int .u64 0, .int .u64 0, .int .u64 0, .int .u64 0] 41) = w0 at *;have N0 := zH n0; have N1 := zH n1; have N4 := zH n4; have hwb : Hid (w.heap.size <= b) := by (show _ <= _; omega)
 clear n0 n1 n4 hb e0;have HQ := zH (HB.below N4 HB.lt);have c0 : w0.cell? ⟨q, 0, none⟩ = some (.int .i64 2) := HQ.cell 0;have HRNG := zH (fun m => by
  have h := (HQ.drewN m).range 1 11;rw [rn_par] at h;exact h : ∀ m, (w0.drewN m).rangeAt q 1 [.int .i64 p.digest, .int .i64 p.key, .int .i64 p.fanout, .int .i64 p.depth, .int .u32 p.leaf, .int .u64 p.offset, .int .u32 p.xof, .int .i64 p.nd, .int .i64 p.inner, .slice p.salt.A p.salt.n p.salt.c, .slice p.pers.A p.pers.n p.pers.c])
 refine wrZ (fun _ => True) (fun _ _ h => h) (Ords.of [(0, 0), (0, 1), (0, 2), (1, 3), (0, 4), (0, 5), (0, 6), (1, 7), (2, 8), (0, 9), (0, 10), (0, 11), (0, 12), (0, 13)] .fin) trivial ?_
 iterate 7 ((first | refine ords_pure rfl (fun K hK => ?_) | refine ords_read rfl (fun K hK => ?_)); go_simp; refine hK _ ?_; clear hK K)
 refine ords_readV (v := Value.agg [.int .i64 p.digest, .int .i64 p.key, .int .i64 p.fanout, .int .i64 p.depth, .int .u32 p.leaf, .int .u64 p.offset, .int .u32 p.xof, .int .i64 p.nd, .int .i64 p.inner, .slice p.salt.A p.salt.n p.salt.c, .slice p.pers.A p.pers.n p.pers.c].toArray) rfl rfl (fun m9 => pure_load_mid 26 (.tmp 27) rfl q 1 rfl _ _ (HRNG m9) hup.out rfl (by kernel_rfl)) ?_; go_simp;refine ords_loud rfl (fun n1 => ?_);go_wp2_with (go_at_call 38; refine (HEN _ (((HRS.below N4).more N4.size).drewN _) (((HRP.below N4).more N4.size).drewN _)).mono ?_; rintro e1 w1 ⟨A1, c1, rfl, ho1, hb1⟩); have HO1 := zH ho1; have M0 := zH ((N0.drewN _).below hb1 (N0.drewN _).lt); have M1 := zH ((N1.drewN _).below hb1 (N1.drewN _).lt); have M4 := zH (bcall (bdr N4 _) hb1); have MQ := zH ((HQ.drewN _).below hb1 (HQ.drewN _).lt); clear ho1 hb1
 try (refine ⟨trivial, ?_⟩)
 iterate 5 (refine ords_pure rfl (fun K hK => ?_); go_simp; refine hK _ ?_; clear hK K)
 refine ords_end (fun n2 => ?_);have n0 := M0.drewN n2; have n1 := M1.drewN n2; have n4 := bdr M4 n2; have ho1 := HO1.drewN n2;have c0 : (w1.drewN n2).cell? ⟨q, 0, none⟩ = some (.int .i64 2) := MQ.cell 0;generalize w1.drewN n2 = w2 at *;clear N0 N1 N4 HQ HRNG M0 M1 M4 MQ HO1;have N0 := zH n0; have N1 := zH n1; have N4 := zH n4; have HO1 := zH ho1; clear n0 n1 n4 ho1;go_wp2_with fail;refine (HST A1 c1 _ HO1.reads).mono ?_;rintro e3 w3 ⟨rfl, hb3⟩;have q0 := (N0.below hb3 N0.lt).alloc (.cells z8s 130);have q1 := (N1.below hb3 N1.lt).alloc (.cells z8s 130);have q4 := bal (bcall N4 hb3) (.cells z8s 130);have q3 := Blk.new w3 130 z8s;have hs3 : b + 1 < w3.heap.size := (N1.below hb3 N1.lt).lt;have hw3 : Hid (w.heap.size <= w3.heap.size) := (bcall N4 hb3).size;unfold z8s at q0 q1 q3 q4;have Q3 := zH q3; clear q3 hb3 N0 N1 N4 c0 HO1;go_upto_region 13 with (refine aZE rfl 130 _ _ rfl w3.heap.size (wc3 H) rfl rfl 130 _ Q3 s8.out ho8.out a8.out ?_)
 have q3 := Q3.row (wc3 H);replace q0 := q0.rowFar (k := w3.heap.size) (by omega) (wc3 H); replace q1 := q1.rowFar (k := w3.heap.size) (by omega) (wc3 H); replace q4 := brow q4 (g := w3.heap.size) hw3.out (wc3 H);clear Q3;obtain ⟨g, hg⟩ : ∃ g, g = w3.heap.size := ⟨_, rfl⟩;rw [<- hg] at q0 q1 q3 q4 hs3 ⊢;generalize (w3.alloc _).setRow g (wc3 H) = w4 at *;have N0 := zH q0; have N1 := zH q1; have N3 := zH q3; have N4 := zH q4;clear q0 q1 q3 q4 hg hw3;go_wp2_with fail;go_loopw [11] (fun i wr => ∃ k : Nat, k <= 8 /\ i = .int .i64 k /\ Blk wr b 41 (wcs (fillU R 0 16)) /\ Blk wr (b + 1) 41 (wcs (fillU R k 16)) /\ Blk wr g 130 (wc3 H) /\ Below w.heap.size w wr) (fun i _ => 8 - (intOf i).toNat)
 case atStart => exact ⟨0, by omega, rfl, N0.out, N1.out, N3.out, N4.out⟩
 case round =>
  clear N0 N1 N3 N4;obtain ⟨k, hk, rfl, x0, x1, x3, x4⟩ := hrel;have N0 := zH x0; have N1 := zH x1; have N3 := zH x3; have N4 := zH x4; clear x0 x1 x3 x4
  by_cases hlt : k < 8
  ·obtain ⟨u, hu⟩ : ∃ u, u = H.getD k 0 := ⟨_, rfl⟩
   have hHk : H[k]? = some u := by rw [hu]; exact getD3 H k (by rw [HHL.out]; exact hlt)
   have hcv := down_up;have c3 : wr.cell? ⟨g, k, none⟩ = some (.int .u32 (wr3 u)) := by rw [N3.cell]; exact wc3_at' H k u hHk
   have c1 : wr.cell? ⟨b + 1, k, none⟩ = some (wv ((fillU R k 16).getD k 0)) := (N1.cell k).trans (wcs_get _ _ (by rw [fillU_len R k 16 (by omega) HRL.out]; omega));generalize wv ((fillU R k 16).getD k 0) = old at c1;have f1 : wr.frozen? ⟨b + 1, k, none⟩ = false := N1.frozen k;have hki : (k : Int) < 8 := by omega
   have hk16 : (k : Int) < 16 := by omega
   have hkd : decide ((k : Int) < 8) = true := by simp; omega
   obtain ⟨v, hv⟩ : ∃ v, v = (UInt32.toUInt64 u) := ⟨_, rfl⟩;have hs1 := N1.set_ k (wv v);rw [fillU_put R k 16 v (by omega) (by rw [hv]; exact HRH.out k u hlt hHk)] at hs1;have hs0 := N0.far (p := ⟨b + 1, k, none⟩) (by show b ≠ b + 1; omega) (wv v);have hs3 := N3.far (p := ⟨b + 1, k, none⟩) (by show g ≠ b + 1; omega) (wv v);have hs4 := bput N4.out (p := ⟨b + 1, k, none⟩) (by have := hwb.out; simp; omega) (wv v);rw [hv] at hs0 hs1 hs3 hs4;have HS0 := zH hs0; have HS1 := zH hs1; have HS3 := zH hs3; have HS4 := zH hs4;clear hs0 hs1 hs3 hs4 hu hHk hv N0 N1 N3 N4;go_wp2_with fail;go_roundw
   case rel => exact ⟨k + 1, by omega, by go_num, HS0.out, HS1.out, HS3.out, HS4.out⟩
   case measure => simp [intOf]; omega
  ·obtain rfl : k = 8 := by omega
   clear hlt hk;have x1 := N1.out;rw [HFI.out] at x1;have X1 := zH x1; clear x1 N1;go_wp2_with (first
    | (refine aZH rfl 41 _ rfl (b + 1) rfl 41 (wcs R) (0, 0) _ X1 hu16.out rfl sR.out ?_)
    | (refine aZE rfl 41 _ _ rfl b (wcs R) rfl rfl 41 _ N0 sR.out hoR.out aR.out ?_))
   exact aZB (aZZ rfl _ _ b _ _ (0, 0) _ rfl (N0.row _) hu16.out rfl sR.out) rfl ⟨rfl, brow N4 hwb.out _⟩
theorem refFirst_any (big : Bool) (q : Nat) (p : Pr) (ls lp : List UInt8) (kv mv : Value) (last : Bool) (cnt : UInt64) (w : World) (hc : chk (kOf big) p = 0) (hf : p.Fit) (hls : ls.length = p.salt.n) (hlp : lp.length = p.pers.n) (hrs : RS cB w w.heap.size p.salt.A ls) (hrp : RS cB w w.heap.size p.pers.A lp)
  (hb : Blk w q 43 (rnCells big p kv last mv cnt)) :
  Calls Tryz.prog 58 #[.pointer (some ⟨q, 0, none⟩)] w fun e w' => e = .returned (.agg (wcs (HS.start big (encL big p ls lp)).words)) /\ Below w.heap.size w w' := by
 cases big with
 | true => exact refFirstBig_any q p ls lp kv mv last cnt w hc hf hls hlp hrs hrp hb
 | false => exact refFirstSmall_any q p ls lp kv mv last cnt w hc hf hls hlp hrs hrp hb
def passTo (n : Nat) (M : List UInt8) (S : HS) : Nat -> HS × UInt64 × UInt64
  | 0 => (S, 0, 0)
  | j + 1 => ((passTo n M S j).1.mix (cutL M (j * n) n) (addLo (passTo n M S j).2.1 (bZD n)) (addHi (passTo n M S j).2.1 (passTo n M S j).2.2 (bZD n)) false false, addLo (passTo n M S j).2.1 (bZD n), addHi (passTo n M S j).2.1 (passTo n M S j).2.2 (bZD n))
theorem passTo_k (n : Nat) (M : List UInt8) (S : HS) : ∀ j, (passTo n M S j).1.k = S.k
 | 0 => rfl
 | j + 1 => (HS.mix_k _ _ _ _ _ _).trans (passTo_k n M S j)
theorem passTo_ok (n : Nat) (M : List UInt8) (S : HS) (h : S.Ok) : ∀ j, (passTo n M S j).1.Ok
 | 0 => h
 | _ + 1 => HS.mix_ok _ _ _ _ _ _
theorem wrd_small (n : Nat) (h : n < 18446744073709551616) : wrd (bZD n) = (n : Int) := by rw [wrd_ofNat]; omega
theorem refPassed_any (base q : Nat) (big : Bool) (p : Pr) (ls lp key : List UInt8) (Ak : Option Addr) (nk ck : Nat) (last : Bool) (msg : List UInt8) (Am : Option Addr) (nm cm : Nat) (cnt : UInt64) (n : Nat) (w : World)
  (hN : RN w base q big p ls lp key Ak nk ck last msg Am nm cm cnt) (hc : chk (kOf big) p = 0) (hf : p.Fit) (hls : ls.length = p.salt.n) (hlp : lp.length = p.pers.n) (hnm : nm <= 140737488355328) (hn : n = 2 * bOf big) :
  Calls Tryz.prog 37 #[.pointer (some ⟨q, 0, none⟩)] w fun e w' => ∃ j a S lo hi, passTo n msg (HS.start big (encL big p ls lp)) j = (S, lo, hi) /\ a = j * n /\ a <= nm /\ nm <= a + n /\ (j = 0 \/ a < nm) /\ e = .returned (.tuple #[.agg (wcs S.words), .int .u64 (wrd lo), .int .u64 (wrd hi), .int .i64 a]) /\ Below w.heap.size w w' := by
 have hbs : base <= w.heap.size := Nat.le_trans hN.lo (Nat.le_of_lt hN.blk.lt);have hfi := fun W hrs hrp hb => refFirst_any big q p ls lp (.slice Ak nk ck) (.slice Am nm cm) last cnt W hc hf hls hlp hrs hrp hb
 have hbl := fun W => refBlock_any big W
 rw [<- hn] at hbl;have hn128 : 64 <= n /\ n <= 128 := by have := bOf_le big; omega
 have hin := fun (S : HS) (lo hi : UInt64) (A : Option Addr) (c : Nat) (x : List UInt8) (W : World) (hS : S.Ok) (hk : S.k = big) hx hr => refIn_any S A n c x lo hi false false W hS (by rw [hk]; exact hn) hx hr
 have hok := HS.start_ok big (encL big p ls lp);have hsk := HS.start_k big (encL big p ls lp);obtain ⟨S0, hS0⟩ : ∃ S0, S0 = HS.start big (encL big p ls lp) := ⟨_, rfl⟩;rw [<- hS0];simp only [<- hS0] at hfi hok hsk;have hpk := fun j => (passTo_k n msg S0 j).trans hsk
 have hpo := passTo_ok n msg S0 hok;obtain ⟨u, hu⟩ : ∃ u, u = bZD n := ⟨_, rfl⟩;have hun : wrd u = (n : Int) := by rw [hu]; exact wrd_small n (by omega)
 have hstep : ∀ j S lo hi, passTo n msg S0 j = (S, lo, hi) -> passTo n msg S0 (j + 1) = (S.mix (cutL msg (j * n) n) (addLo lo u) (addHi lo hi u) false false, addLo lo u, addHi lo hi u) := fun j S lo hi h => by
  rw [hu];unfold passTo;rw [h]
 have hadd := fun lo hi W => refAdd_any lo hi u W
 rw [hun] at hadd;have c31 : w.cell? ⟨q, 31, none⟩ = some (.int .u64 0) := hN.blk.cell 31;have c32 : w.cell? ⟨q, 32, none⟩ = some (.int .u64 0) := hN.blk.cell 32;have c0 : w.cell? ⟨q, 0, none⟩ = some (.int .i64 (kOf big)) := hN.blk.cell 0;have hql := hN.blk.lt;have hq1 : Hid (∀ W, Below w.heap.size w W -> Blk W q 43 (rnCells big p (.slice Ak nk ck) last (.slice Am nm cm) cnt)) := fun W h => hN.blk.below h hql
 have hq0 : Hid (∀ W, Blk W q 43 (rnCells big p (.slice Ak nk ck) last (.slice Am nm cm) cnt) -> W.cell? ⟨q, 0, none⟩ = some (.int .i64 (kOf big))) := fun W h => h.cell 0
 have hq33 : Hid (∀ W, Blk W q 43 (rnCells big p (.slice Ak nk ck) last (.slice Am nm cm) cnt) -> W.cell? ⟨q, 33, none⟩ = some (.slice Am nm cm)) := fun W h => h.cell 33
 have hms := hN.own.reads;have HN := zH hN; have HFI := zH hfi; have HBL := zH hbl; have HIN := zH hin; have HPK := zH hpk; have HPO := zH hpo; have HSTEP := zH hstep; have HADD := zH hadd; have HMS := zH hms; have HOK := zH hok; have HBS := zH hbs;clear hN hc hf hls hlp hfi hbl hin hok hsk hS0 hpk hpo hu hun hstep hadd hms hn hbs;obtain ⟨hn1, hn2⟩ := hn128;have hu16 := zH Tryz.underlying41;have s0 := zH (sz16w S0.words (HS.words_len HOK)); have a0 := zH (wcs_all S0.words);have ho0 : Hid ((wcs (zw 16)).size = (wcs S0.words).size) := by show _ = _; rw [wcs_size, wcs_size, HS.words_len HOK.out]; rfl
 generalize hcells : rnCells big p (.slice Ak nk ck) last (.slice Am nm cm) cnt = CS at *;clear hcells;obtain ⟨kk, hkk⟩ : ∃ kk, kOf big = kk := ⟨_, rfl⟩;rw [hkk] at c0;simp only [hkk] at HBL hq0;have HKK := zH hkk; clear hkk;go_enter Tryz.func37, Tryz.ntmps37;go_wp2_with fail;have n2 : Blk (w.alloc (.cells z16 41)) w.heap.size 41 (wcs (zw 16)) := Blk.new _ _ _;have n4 := bal (b0 w) (.cells z16 41);unfold z16 at n2 n4;obtain ⟨g2, hg2⟩ : ∃ g, g = w.heap.size := ⟨_, rfl⟩;rw [<- hg2] at n2 ⊢;generalize w.alloc (.cells #[.int .u64 0, .int .u64 0, .int .u64 0, .int .u64 0, .int .u64 0, .int .u64 0, .int .u64 0, .int .u64 0, .int .u64 0, .int .u64 0, .int .u64 0, .int .u64 0, .int .u64 0, .int .u64 0, .int .u64 0, .int .u64 0] 41) = w0 at *;have N2 := zH n2; have N4 := zH n4; have hwg : Hid (w.heap.size <= g2) := by (show _ <= _; omega)
 clear n2 n4 hg2;refine (HFI _ (((HN.salt.more HBS).below N4).more N4.size) (((HN.pers.more HBS).below N4).more N4.size) (hq1.out _ N4)).mono ?_;rintro e1 w1 ⟨rfl, hb1⟩;have v2 := (N2.below hb1 N2.lt).alloc (.cells z16 41);have v4 := bal (bcall N4 hb1) (.cells z16 41);have n6 : Blk (w1.alloc (.cells z16 41)) w1.heap.size 41 (wcs (zw 16)) := Blk.new _ _ _;have hw1 : Hid (w.heap.size <= w1.heap.size) := (bcall N4 hb1).size;have l26 : g2 < w1.heap.size := (N2.below hb1 N2.lt).lt;unfold z16 at v2 v4 n6;have N6 := zH n6; clear n6 hb1 N2 N4;go_upto_region 2 with (refine aZE rfl 41 _ _ rfl w1.heap.size (wcs S0.words) rfl rfl 41 _ N6 s0.out ho0.out a0.out ?_)
 have n6 := N6.row (wcs S0.words);replace v2 := v2.rowFar (k := w1.heap.size) (by omega) (wcs S0.words); replace v4 := brow v4 (g := w1.heap.size) hw1.out (wcs S0.words);clear N6;obtain ⟨g6, hg6⟩ : ∃ g, g = w1.heap.size := ⟨_, rfl⟩;have hwg6 : Hid (w.heap.size <= g6) := by (show _ <= _; rw [hg6]; exact hw1.out)
 rw [<- hg6] at n6 v2 v4 l26 ⊢;generalize (w1.alloc (.cells #[.int .u64 0, .int .u64 0, .int .u64 0, .int .u64 0, .int .u64 0, .int .u64 0, .int .u64 0, .int .u64 0, .int .u64 0, .int .u64 0, .int .u64 0, .int .u64 0, .int .u64 0, .int .u64 0, .int .u64 0, .int .u64 0] 41)).setRow g6 (wcs S0.words) = w2 at *;have hlg6 : q < g6 := by have := hwg6.out; omega
 clear hg6 hw1;have d31 : w2.cell? ⟨q, 31, none⟩ = some (.int .u64 0) := (v4.cell (p := ⟨q, 31, none⟩) hql).trans c31;have d32 : w2.cell? ⟨q, 32, none⟩ = some (.int .u64 0) := (v4.cell (p := ⟨q, 32, none⟩) hql).trans c32;have d0 : w2.cell? ⟨q, 0, none⟩ = some (.int .i64 kk) := (v4.cell (p := ⟨q, 0, none⟩) hql).trans c0;have N2 := zH v2; have N4 := zH v4; have N6 := zH n6; clear v2 v4 n6 c31 c32 c0;go_wp2_with (go_at_call 47; refine (HBL _).mono ?_; rintro e2 w3 ⟨rfl, rfl⟩);clear d31 d32 d0;go_loopw [7, 8, 10] (fun l h i wr => ∃ (j a : Nat) (S : HS) (lo hi : UInt64), passTo n msg S0 j = (S, lo, hi) /\ a = j * n /\ a <= nm /\ (j = 0 \/ a < nm) /\ l = .int .u64 (wrd lo) /\ h = .int .u64 (wrd hi) /\ i = .int .i64 a /\ Blk wr g2 41 (wcs (zw 16)) /\ Blk wr g6 41 (wcs S.words) /\ Below w.heap.size w wr) (fun _ _ i _ => nm - (intOf i).toNat)
 case atStart => exact ⟨0, 0, S0, 0, 0, rfl, (Nat.zero_mul _).symm, aZY _, .inl rfl, rfl, rfl, rfl, N2.out, N6.out, N4.out⟩
 case round =>
  clear N2 N4 N6;obtain ⟨j, a, S, lo, hi, hP, ha, han, hj0, rfl, rfl, rfl, x2, x6, x4⟩ := hrel;have N2 := zH x2; have N4 := zH x4; have N6 := zH x6; clear x2 x4 x6;have HQ := zH (hq1.out _ N4);have d0 : wr.cell? ⟨q, 0, none⟩ = some (.int .i64 kk) := hq0.out _ HQ.out;have d33 : wr.cell? ⟨q, 33, none⟩ = some (.slice Am nm cm) := hq33.out _ HQ.out;have hSo : S.Ok := by have := HPO.out j; rw [hP] at this; exact this
  have hSk : S.k = big := by have := HPK.out j; rw [hP] at this; exact this
  have hqr : q < wr.heap.size := HQ.lt;have HP := zH hP; have HA := zH ha; have HJ0 := zH hj0; clear hP ha hj0;obtain ⟨a', ha'⟩ : ∃ a', a' = a + n := ⟨_, rfl⟩;have e1 : (a : Int) + (n : Int) = (a' : Int) := by omega
  have e2 : IntKind.i64.wrap (a' : Int) = a' := by simp [IntKind.wrap, IntKind.bits, IntKind.signed]; omega
  have HA' := zH ha';have sS := zH (sz16w S.words (HS.words_len hSo))
  by_cases hlt : a' < nm
  ·have hkd : decide ((a' : Int) < nm) = true := by simp; omega
   have hnw : IntKind.u64.wrap (n : Int) = n := by rw [wrap_u64]; omega
   have hadd := fun W => HADD lo hi W
   obtain ⟨lo', hlo'⟩ : ∃ l, l = addLo lo u := ⟨_, rfl⟩;obtain ⟨hi', hhi'⟩ : ∃ l, l = addHi lo hi u := ⟨_, rfl⟩;have hcut := fun W hr => refCut_any Am nm cm a n msg W HN.len hnm han (by omega) hr
   have hcl := cutL_len msg a n;have hin := fun A c W hr => HIN S lo' hi' A c (cutL msg a n) W hSo hSk hcl hr
   have hst := HSTEP j S lo hi HP.out;simp only [<- hlo', <- hhi'] at hadd;rw [<- hlo', <- hhi', <- HA.out] at hst;obtain ⟨S', hS'⟩ : ∃ S', S' = S.mix (cutL msg a n) lo' hi' false false := ⟨_, rfl⟩;have hSo' : S'.Ok := by rw [hS']; exact HS.mix_ok _ _ _ _ _ _
   rw [<- hS'] at hst;simp only [<- hS'] at hin;rw [hSk, HKK.out] at hin;generalize cutL msg a n = X at *;have HCUT := zH hcut; have HIN' := zH hin; have HST := zH hst; have HAD := zH hadd;have sS' := zH (sz16w S'.words (HS.words_len hSo')); have aS' := zH (wcs_all S'.words);have hoS : Hid ((wcs S.words).size = (wcs S'.words).size) := by show _ = _; rw [wcs_size, wcs_size, HS.words_len hSo, HS.words_len hSo']
   clear hadd hcut hcl hin hst hlo' hhi' hS' hSo' hSo hSk ha';go_wp2_with (go_at_call 44; refine (HAD _).mono ?_; rintro e3 w3 ⟨bb, rfl, rfl⟩);refine wrZ (fun w' => Blk w' q 43 CS) (fun _ n h => h.drewN n) (Ords.of [(0, 0), (0, 1), (0, 2), (0, 3), (0, 5), (0, 6), (0, 7), (0, 8), (0, 9), (0, 10), (0, 12), (0, 13)] (.two 4 11 (Ords.of [(2, 11), (2, 14), (2, 15)] .fin) (Ords.of [(2, 4), (2, 14), (2, 15)] .fin))) HQ ?_
   iterate 2 (refine ords_pure rfl (fun K hK => ?_); go_simp; refine hK _ ?_; clear hK K; refine ords_pure rfl (fun K hK => ?_); go_simp; refine hK _ ?_; clear hK K; refine ords_pure rfl (fun K hK => ?_); go_simp; refine hK _ ?_; clear hK K; refine ords_heldK rfl (fun K K2 hK hK2 => ?_); go_simp; refine ⟨hK2 _ (fun w9 hS => ?_), hK _ ?_⟩; (clear hK hK2 K K2; have q0 := hq0.out w9 hS; have q1 := hq33.out w9 hS; go_simp); (clear hK hK2 K K2))
   iterate 4 (refine ords_pure rfl (fun K hK => ?_); go_simp; refine hK _ ?_; clear hK K)
   refine ords_two rfl rfl (fun n1 => ?_) (fun n1 => ?_)
   ·go_wp2_with (first | (refine aZH rfl 41 _ rfl g6 rfl 41 (wcs S.words) (0, 0) _ (N6.drewN _) hu16.out rfl sS.out ?_) | (refine aZH rfl 41 _ rfl g6 rfl 41 (wcs S.words) (0, 0) _ (M6.drewN _) hu16.out rfl sS.out ?_))
    refine ⟨by first | exact HQ.drewN _ | exact MQ.drewN _, ?_⟩;refine ords_loud rfl (fun n2 => ?_);go_wp2_with (go_at_call 46; refine (HCUT _ (((HMS.below N4).more N4.size).drewN _)).mono ?_; rintro e4 w4 ⟨A4, c4, rfl, ho4, hb4⟩);have HO4 := zH ho4; have M2 := zH ((N2.drewN _).below hb4 (N2.drewN _).lt); have M6 := zH ((N6.drewN _).below hb4 (N6.drewN _).lt); have M4 := zH (bcall (bdr N4 _) hb4); have MQ := zH ((HQ.drewN _).below hb4 (HQ.drewN _).lt); clear ho4 hb4;refine ⟨MQ.out, ?_⟩;refine ords_loud rfl (fun n3 => ?_);go_wp2_with (go_at_call 45; refine (HIN' A4 c4 _ (HO4.reads.drewN _)).mono ?_; rintro e5 w5 ⟨rfl, hb5⟩);have K2 := zH ((M2.drewN _).below hb5 (M2.drewN _).lt); have K6 := zH ((M6.drewN _).below hb5 (M6.drewN _).lt); have K4 := zH (bcall (bdr M4 _) hb5); have KQ := zH ((MQ.drewN _).below hb5 (MQ.drewN _).lt); clear hb5;refine ⟨KQ.out, ?_⟩;refine ords_loud rfl (fun n4 => ?_);go_wp2_with (refine aZE rfl 41 _ _ rfl g6 (wcs S'.words) rfl rfl 41 _ (K6.drewN _) sS'.out hoS.out aS'.out ?_);refine ⟨(KQ.drewN _).rowFar (by omega) _, ?_⟩;refine ords_end (fun n5 => ?_);go_wp2_with fail;go_roundw
    case rel => exact ⟨j + 1, a', S', lo', hi', HST.out, by have h1 := HA.out; have h2 := HA'.out; rw [Nat.succ_mul]; omega, by omega, .inr hlt, rfl, rfl, rfl, ((K2.drewN _).rowFar (by omega) _).drewN _, ((K6.drewN _).row _).drewN _, bdr (brow (bdr K4.out _) hwg6.out _) _⟩
    case measure => have := HA'.out; simp [intOf]; omega
   ·go_wp2_with (go_at_call 46; refine (HCUT _ (((HMS.below N4).more N4.size).drewN _)).mono ?_; rintro e4 w4 ⟨A4, c4, rfl, ho4, hb4⟩)
    have HO4 := zH ho4; have M2 := zH ((N2.drewN _).below hb4 (N2.drewN _).lt); have M6 := zH ((N6.drewN _).below hb4 (N6.drewN _).lt); have M4 := zH (bcall (bdr N4 _) hb4); have MQ := zH ((HQ.drewN _).below hb4 (HQ.drewN _).lt); clear ho4 hb4;refine ⟨MQ.out, ?_⟩;refine ords_loud rfl (fun n2 => ?_);go_wp2_with (first | (refine aZH rfl 41 _ rfl g6 rfl 41 (wcs S.words) (0, 0) _ (N6.drewN _) hu16.out rfl sS.out ?_) | (refine aZH rfl 41 _ rfl g6 rfl 41 (wcs S.words) (0, 0) _ (M6.drewN _) hu16.out rfl sS.out ?_));refine ⟨by first | exact HQ.drewN _ | exact MQ.drewN _, ?_⟩;refine ords_loud rfl (fun n3 => ?_);go_wp2_with (go_at_call 45; refine (HIN' A4 c4 _ (HO4.reads.drewN _)).mono ?_; rintro e5 w5 ⟨rfl, hb5⟩);have K2 := zH ((M2.drewN _).below hb5 (M2.drewN _).lt); have K6 := zH ((M6.drewN _).below hb5 (M6.drewN _).lt); have K4 := zH (bcall (bdr M4 _) hb5); have KQ := zH ((MQ.drewN _).below hb5 (MQ.drewN _).lt); clear hb5;refine ⟨KQ.out, ?_⟩;refine ords_loud rfl (fun n4 => ?_);go_wp2_with (refine aZE rfl 41 _ _ rfl g6 (wcs S'.words) rfl rfl 41 _ (K6.drewN _) sS'.out hoS.out aS'.out ?_);refine ⟨(KQ.drewN _).rowFar (by omega) _, ?_⟩;refine ords_end (fun n5 => ?_);go_wp2_with fail;go_roundw
    case rel => exact ⟨j + 1, a', S', lo', hi', HST.out, by have h1 := HA.out; have h2 := HA'.out; rw [Nat.succ_mul]; omega, by omega, .inr hlt, rfl, rfl, rfl, ((K2.drewN _).rowFar (by omega) _).drewN _, ((K6.drewN _).row _).drewN _, bdr (brow (bdr K4.out _) hwg6.out _) _⟩
    case measure => have := HA'.out; simp [intOf]; omega
  ·have hkd : decide ((a' : Int) < nm) = false := by simp; omega
   have aS := zH (wcs_all S.words);have hoS : Hid ((wcs (zw 16)).size = (wcs S.words).size) := by show _ = _; rw [wcs_size, wcs_size, HS.words_len hSo]; rfl
   clear hSo hSk ha';go_wp2_with (first
    | (refine aZH rfl 41 _ rfl g6 rfl 41 (wcs S.words) (0, 0) _ N6 hu16.out rfl sS.out ?_)
    | (refine aZE rfl 41 _ _ rfl g2 (wcs S.words) rfl rfl 41 _ N2 sS.out hoS.out aS.out ?_))
   exact aZB (results_cell_tmp3 rfl _ _ g2 _ _ _ rfl (N2.row _) hu16.out rfl sS.out) rfl ⟨j, a, S, lo, hi, HP.out, HA.out, han, by have := HA'.out; omega, HJ0.out, rfl, brow N4.out hwg.out _⟩
def outR (n : Nat) (msg : List UInt8) (a : Nat) (S : HS) (lo hi : UInt64) (last : Bool) : List UInt8 :=
  (S.mix (cutL msg a n) (addLo lo (bZD (msg.length - a))) (addHi lo hi (bZD (msg.length - a))) true last).bytes
theorem refOut_any (base q : Nat) (big : Bool) (p : Pr) (ls lp key : List UInt8) (Ak : Option Addr) (nk ck : Nat) (last : Bool) (msg : List UInt8) (Am : Option Addr) (nm cm : Nat) (cnt : UInt64) (n : Nat) (w : World)
  (hN : RN w base q big p ls lp key Ak nk ck last msg Am nm cm cnt) (hc : chk (kOf big) p = 0) (hf : p.Fit) (hls : ls.length = p.salt.n) (hlp : lp.length = p.pers.n) (hnm : nm <= 140737488355328) (hn : n = 2 * bOf big) :
  Calls Tryz.prog 28 #[.pointer (some ⟨q, 0, none⟩)] w fun e w' => ∃ j a S lo hi A c, passTo n msg (HS.start big (encL big p ls lp)) j = (S, lo, hi) /\ a = j * n /\ a <= nm /\ nm <= a + n /\ (j = 0 \/ a < nm) /\ e = .returned (.slice A (bOf big) c) /\ OS cB w' w.heap.size A c (outR n msg a S lo hi last) /\ Below w.heap.size w w' := by
 have hpa := refPassed_any base q big p ls lp key Ak nk ck last msg Am nm cm cnt n w hN hc hf hls hlp hnm hn;have hbl := fun W => refBlock_any big W
 rw [<- hn] at hbl;have hn128 : 64 <= n /\ n <= 128 := by have := bOf_le big; omega
 have hin := fun (S : HS) (lo hi : UInt64) (A : Option Addr) (c : Nat) (x : List UInt8) (W : World) (hS : S.Ok) (hk : S.k = big) hx hr => refIn_any S A n c x lo hi true last W hS (by rw [hk]; exact hn) hx hr
 have hok := HS.start_ok big (encL big p ls lp);have hsk := HS.start_k big (encL big p ls lp);obtain ⟨S0, hS0⟩ : ∃ S0, S0 = HS.start big (encL big p ls lp) := ⟨_, rfl⟩;rw [<- hS0];simp only [<- hS0] at hpa hok hsk;have hpk := fun j => (passTo_k n msg S0 j).trans hsk
 have hpo := passTo_ok n msg S0 hok;have hql := hN.blk.lt;have hq1 : Hid (∀ W, Below w.heap.size w W -> Blk W q 43 (rnCells big p (.slice Ak nk ck) last (.slice Am nm cm) cnt)) := fun W h => hN.blk.below h hql
 have hq0 : Hid (∀ W, Blk W q 43 (rnCells big p (.slice Ak nk ck) last (.slice Am nm cm) cnt) -> W.cell? ⟨q, 0, none⟩ = some (.int .i64 (kOf big))) := fun W h => h.cell 0
 have hq13 : Hid (∀ W, Blk W q 43 (rnCells big p (.slice Ak nk ck) last (.slice Am nm cm) cnt) -> W.cell? ⟨q, 13, none⟩ = some (.bool last)) := fun W h => h.cell 13
 have hq33 : Hid (∀ W, Blk W q 43 (rnCells big p (.slice Ak nk ck) last (.slice Am nm cm) cnt) -> W.cell? ⟨q, 33, none⟩ = some (.slice Am nm cm)) := fun W h => h.cell 33
 have hms := hN.own.reads;have HLM := zH hN.len; have HPA := zH hpa; have HBL := zH hbl; have HIN := zH hin; have HPK := zH hpk; have HPO := zH hpo; have HMS := zH hms;clear hN hc hf hls hlp hpa hbl hin hok hsk hS0 hpk hpo hms hn;obtain ⟨hn1, hn2⟩ := hn128;have hu16 := zH Tryz.underlying41;generalize hcells : rnCells big p (.slice Ak nk ck) last (.slice Am nm cm) cnt = CS at *;clear hcells;obtain ⟨kk, hkk⟩ : ∃ kk, kOf big = kk := ⟨_, rfl⟩;simp only [hkk] at HBL hq0;have HKK := zH hkk; clear hkk;go_enter Tryz.func28, Tryz.ntmps28;go_wp2_with fail;refine HPA.mono ?_;rintro e1 w1 ⟨j, a, S, lo, hi, hP, ha, han, hna, hj0, rfl, hb1⟩;have hSo : S.Ok := by have := HPO.out j; rw [hP] at this; exact this
 have hSk : S.k = big := by have := HPK.out j; rw [hP] at this; exact this
 have HP := zH hP; have HA := zH ha; have HJ0 := zH hj0; clear hP ha hj0;have v4 := bal hb1 (.cells z16 41);have n3 : Blk (w1.alloc (.cells z16 41)) w1.heap.size 41 (wcs (zw 16)) := Blk.new _ _ _;have hw1 : Hid (w.heap.size <= w1.heap.size) := hb1.size;have sS := zH (sz16w S.words (HS.words_len hSo)); have aS := zH (wcs_all S.words);have hoS : Hid ((wcs (zw 16)).size = (wcs S.words).size) := by show _ = _; rw [wcs_size, wcs_size, HS.words_len hSo]; rfl
 unfold z16 at v4 n3;have N3 := zH n3; clear n3 hb1;go_upto_region 2 with (refine aZE rfl 41 _ _ rfl w1.heap.size (wcs S.words) rfl rfl 41 _ N3 sS.out hoS.out aS.out ?_)
 have n3 := N3.row (wcs S.words);replace v4 := brow v4 (g := w1.heap.size) hw1.out (wcs S.words);clear N3;obtain ⟨g3, hg3⟩ : ∃ g, g = w1.heap.size := ⟨_, rfl⟩;rw [<- hg3] at n3 v4 ⊢;generalize (w1.alloc (.cells #[.int .u64 0, .int .u64 0, .int .u64 0, .int .u64 0, .int .u64 0, .int .u64 0, .int .u64 0, .int .u64 0, .int .u64 0, .int .u64 0, .int .u64 0, .int .u64 0, .int .u64 0, .int .u64 0, .int .u64 0, .int .u64 0] 41)).setRow g3 (wcs S.words) = w2 at *;clear hg3 hw1;have HQ := zH (hq1.out _ v4);have N3 := zH n3; have N4 := zH v4; clear n3 v4;have d0 : w2.cell? ⟨q, 0, none⟩ = some (.int .i64 kk) := hq0.out _ HQ.out;have d13 : w2.cell? ⟨q, 13, none⟩ = some (.bool last) := hq13.out _ HQ.out;have d33 : w2.cell? ⟨q, 33, none⟩ = some (.slice Am nm cm) := hq33.out _ HQ.out;obtain ⟨r, hr⟩ : ∃ r, r = nm - a := ⟨_, rfl⟩;have e1 : (nm : Int) - (a : Int) = (r : Int) := by omega
 have e2 : IntKind.i64.wrap (r : Int) = r := by simp [IntKind.wrap, IntKind.bits, IntKind.signed]; omega
 have e3 : IntKind.u64.wrap (r : Int) = r := by rw [wrap_u64]; omega
 have hadd := fun W => refAdd_any lo hi (bZD r) W
 rw [wrd_small r (by omega)] at hadd;obtain ⟨lo', hlo'⟩ : ∃ l, l = addLo lo (bZD r) := ⟨_, rfl⟩;obtain ⟨hi', hhi'⟩ : ∃ l, l = addHi lo hi (bZD r) := ⟨_, rfl⟩;have hcut := fun W hr => refCut_any Am nm cm a n msg W HLM.out hnm han (by omega) hr
 have hcl := cutL_len msg a n;have hin := fun A c W hr => HIN S lo' hi' A c (cutL msg a n) W hSo hSk hcl hr
 simp only [<- hlo', <- hhi'] at hadd;obtain ⟨S', hS'⟩ : ∃ S', S' = S.mix (cutL msg a n) lo' hi' true last := ⟨_, rfl⟩;have hSo' : S'.Ok := by rw [hS']; exact HS.mix_ok _ _ _ _ _ _
 have hSk' : S'.k = big := by rw [hS', HS.mix_k]; exact hSk
 have hby := fun W => refBytes_any S' W hSo'
 rw [hSk', HKK.out] at hby;have hout : outR n msg a S lo hi last = S'.bytes := by unfold outR; rw [HLM.out, <- hr, <- hlo', <- hhi', <- hS']
 simp only [<- hS'] at hin;rw [hSk, HKK.out] at hin;generalize cutL msg a n = X at *;have HCUT := zH hcut; have HIN' := zH hin; have HAD := zH hadd; have HBY := zH hby; have HOUT := zH hout;clear hadd hcut hcl hin hlo' hhi' hS' hSo' hSk' hSo hSk hby hout hr;go_wp2_with (go_at_call 44; refine (HAD _).mono ?_; rintro e3 w3 ⟨bb, rfl, rfl⟩);refine wrZ (fun w' => Blk w' q 43 CS /\ Blk w' g3 41 (wcs S.words)) (fun _ n h => ⟨h.1.drewN n, h.2.drewN n⟩) (Ords.of [(0, 0), (0, 1), (0, 2), (0, 3), (0, 4), (0, 5), (0, 6), (0, 7), (0, 8), (0, 9), (0, 10), (0, 11), (0, 12), (0, 13), (0, 14), (0, 15), (0, 16), (0, 17), (0, 20), (0, 21), (0, 22), (0, 23), (0, 24), (0, 25), (2, 18), (2, 19), (2, 26), (2, 27), (0, 28)] .fin) ⟨HQ.out, N3.out⟩ ?_
 iterate 2 (refine ords_pure rfl (fun K hK => ?_); go_simp; refine hK _ ?_; clear hK K; refine ords_pure rfl (fun K hK => ?_); go_simp; refine hK _ ?_; clear hK K; refine ords_pure rfl (fun K hK => ?_); go_simp; refine hK _ ?_; clear hK K; refine ords_heldK rfl (fun K K2 hK hK2 => ?_); go_simp; refine ⟨hK2 _ (fun w9 hS => ?_), hK _ ?_⟩; (clear hK hK2 K K2; have q0 := hq0.out w9 hS.1; have q1 := hq33.out w9 hS.1; have q2 := hq13.out w9 hS.1; go_simp); (clear hK hK2 K K2))
 refine ords_held (v := Value.agg (wcs S.words)) rfl rfl (fun w9 hS => pure_load_mid 41 (.tmp 3) rfl g3 0 rfl (wcs S.words).toList _ hS.2.whole hu16.out rfl (by rw [Array.length_toList]; exact sS.out)) ?_; go_simp
 iterate 2 (refine ords_pure rfl (fun K hK => ?_); go_simp; refine hK _ ?_; clear hK K; refine ords_pure rfl (fun K hK => ?_); go_simp; refine hK _ ?_; clear hK K; refine ords_pure rfl (fun K hK => ?_); go_simp; refine hK _ ?_; clear hK K; refine ords_heldK rfl (fun K K2 hK hK2 => ?_); go_simp; refine ⟨hK2 _ (fun w9 hS => ?_), hK _ ?_⟩; (clear hK hK2 K K2; have q0 := hq0.out w9 hS.1; have q1 := hq33.out w9 hS.1; have q2 := hq13.out w9 hS.1; go_simp); (clear hK hK2 K K2); refine ords_pure rfl (fun K hK => ?_); go_simp; refine hK _ ?_; clear hK K)
 iterate 4 (refine ords_pure rfl (fun K hK => ?_); go_simp; refine hK _ ?_; clear hK K)
 refine ords_heldK rfl (fun K K2 hK hK2 => ?_); go_simp; refine ⟨hK2 _ (fun w9 hS => ?_), hK _ ?_⟩; (clear hK hK2 K K2; have q0 := hq0.out w9 hS.1; have q1 := hq33.out w9 hS.1; have q2 := hq13.out w9 hS.1; go_simp); (clear hK hK2 K K2);refine ords_loud rfl (fun n1 => ?_);go_wp2_with (go_at_call 47; refine (HBL _).mono ?_; rintro e4 w4 ⟨rfl, rfl⟩);refine ⟨⟨HQ.drewN _, N3.drewN _⟩, ?_⟩;refine ords_loud rfl (fun n2 => ?_);go_wp2_with (go_at_call 46; refine (HCUT _ (((HMS.below N4).more N4.size).drewN _)).mono ?_; rintro e4 w4 ⟨A4, c4, rfl, ho4, hb4⟩);have HO4 := zH ho4; have M3 := zH ((N3.drewN _).below hb4 (N3.drewN _).lt); have M4 := zH (bcall (bdr N4 _) hb4); have MQ := zH ((HQ.drewN _).below hb4 (HQ.drewN _).lt); clear ho4 hb4;refine ⟨⟨MQ.out, M3.out⟩, ?_⟩;refine ords_loud rfl (fun n3 => ?_);go_wp2_with (go_at_call 45; refine (HIN' A4 c4 _ (HO4.reads.drewN _)).mono ?_; rintro e5 w5 ⟨rfl, hb5⟩);have K3 := zH ((M3.drewN _).below hb5 (M3.drewN _).lt); have K4 := zH (bcall (bdr M4 _) hb5); have KQ := zH ((MQ.drewN _).below hb5 (MQ.drewN _).lt); clear hb5;refine ⟨⟨KQ.out, K3.out⟩, ?_⟩;refine ords_loud rfl (fun n4 => ?_);go_wp2_with (go_at_call 39; refine (HBY _).mono ?_; rintro e6 w6 ⟨A6, c6, rfl, ho6, hb6⟩);have HO6 := zH (ho6.mono (show w.heap.size <= _ from K4.size)); have L4 := zH (bcall (bdr K4 _) hb6); have L3 := zH ((K3.drewN _).below hb6 (K3.drewN _).lt); have LQ := zH ((KQ.drewN _).below hb6 (KQ.drewN _).lt); clear ho6 hb6;refine ⟨⟨LQ.out, L3.out⟩, ?_⟩;refine ords_pure rfl (fun K hK => ?_); go_simp; refine hK _ ?_; clear hK K;refine ords_end (fun n5 => ?_);go_wp2_with fail;exact aZB (results_tmp rfl _ _ _) rfl ⟨j, a, S, lo, hi, A6, c6, HP.out, HA.out, han, hna, HJ0.out, rfl, by rw [HOUT.out]; exact HO6.drewN _, bdr L4.out _⟩
theorem cutL_take (M : List UInt8) (K a n : Nat) (h : a + n <= K) : cutL (M.take K) a n = cutL M a n := by
 unfold cutL;rw [List.drop_take, List.take_take, Nat.min_eq_left (by omega)]
theorem cutL_mid (M : List UInt8) (a n : Nat) (h : a + n <= M.length) : cutL M a n = (M.drop a).take n := by
 unfold cutL padTo;rw [show n - ((M.drop a).take n).length = 0 by rw [aZJ, aZS]; omega];exact List.append_nil _
theorem cutL_end (M : List UInt8) (a n : Nat) (h : M.length <= a + n) : cutL M a n = padTo (M.drop a) n := by
 unfold cutL;rw [aZQ (by rw [aZS]; omega)]
theorem passTo_take (n : Nat) (M : List UInt8) (S : HS) (K : Nat) : ∀ j, j * n <= K -> passTo n (M.take K) S j = passTo n M S j
 | 0, _ => rfl
 | j + 1, h => by
  rw [Nat.succ_mul] at h;unfold passTo;rw [passTo_take n M S K j (by omega), cutL_take M K (j * n) n h]
theorem St64.passes (H0 : List UInt64) (hH : H0.length = 8) : ∀ (j : Nat) (M : List UInt8), j * 128 <= M.length -> M.length <= j * 128 + 128 -> (j = 0 \/ j * 128 < M.length) ->
        ∃ H lo hi, passTo 128 M (.big H0) j = (.big H, lo, hi) /\ (St64.mk H0 0 0 []).feed M = ⟨H, lo, hi, M.drop (j * 128)⟩ /\ H.length = 8
      | 0, M, _, h2, _ => by
        refine ⟨H0, 0, 0, rfl, ?_, hH⟩
        by_cases h0 : M = []
        · subst h0; rfl
        have hok : (St64.mk H0 0 0 []).Ok := ⟨hH, aZY _⟩;have hr : (St64.mk H0 0 0 []).ready = ⟨H0, 0, 0, []⟩ := by unfold St64.ready; rw [if_neg (by simp)]
        rw [St64.feed_step hok M h0, hr]
        show (St64.take (⟨H0, 0, 0, []⟩ : St64) M).feed (M.drop (128 - 0)) = _
        rw [List.drop_eq_nil_of_le (by omega), St64.feed_nil]
        show (⟨H0, 0, 0, [] ++ M.take (128 - 0)⟩ : St64) = _
        rw [aZQ (by omega), Nat.zero_mul]
        rfl
      | j + 1, M, h1, h2, h3 => by
        rw [Nat.succ_mul] at h1 h2 h3;have h3' : j * 128 + 128 < M.length := by rcases h3 with h | h <;> omega
        obtain ⟨H, lo, hi, hp, hf, hHl⟩ := St64.passes H0 hH j (M.take (j * 128 + 128)) (by rw [aZJ]; omega) (by rw [aZJ]; omega) (.inr (by rw [aZJ]; omega));rw [passTo_take 128 M _ _ j (by omega)] at hp;have hsplit : M = M.take (j * 128 + 128) ++ M.drop (j * 128 + 128) := (List.take_append_drop _ _).symm;have hne : M.drop (j * 128 + 128) ≠ [] := by intro h; have := congrArg List.length h; rw [aZS] at this; simp at this; omega
        have hok : (St64.mk H0 0 0 []).Ok := ⟨hH, aZY _⟩;have hheld : (M.take (j * 128 + 128)).drop (j * 128) = cutL M (j * 128) 128 := by rw [cutL_mid M _ _ (by omega), List.drop_take, Nat.add_sub_cancel_left]
        have hheldl : (cutL M (j * 128) 128).length = 128 := cutL_len _ _ _;rw [hheld] at hf;have hok1 : (St64.mk H lo hi (cutL M (j * 128) 128)).Ok := ⟨hHl, by rw [hheldl]; exact aZC _⟩;have hready : (St64.mk H lo hi (cutL M (j * 128) 128)).ready = ⟨comp64 H (wordsOf (cutL M (j * 128) 128) 16) (addLo lo 128) (addHi lo hi 128) false false, addLo lo 128, addHi lo hi 128, []⟩ := by
          unfold St64.ready;rw [if_pos hheldl]
          rfl
        refine ⟨comp64 H (wordsOf (cutL M (j * 128) 128) 16) (addLo lo 128) (addHi lo hi 128) false false, addLo lo 128, addHi lo hi 128, ?_, ?_, comp64_len _ _ _ _ _ _⟩
        · unfold passTo
          rw [hp]
          rfl
        · rw [show (St64.mk H0 0 0 []).feed M = (St64.mk H0 0 0 []).feed (M.take (j * 128 + 128) ++ M.drop (j * 128 + 128)) from congrArg _ hsplit, St64.feed_append _ _ _ _ hok (aZC _), hf, St64.feed_step hok1 _ hne, hready]
          show (St64.take _ _).feed ((M.drop (j * 128 + 128)).drop (128 - 0)) = _
          have hdn : (M.drop (j * 128 + 128)).drop (128 - 0) = [] := List.drop_eq_nil_of_le (by rw [aZS]; omega);rw [hdn, St64.feed_nil];unfold St64.take
          show (St64.mk _ _ _ ([] ++ (M.drop (j * 128 + 128)).take (128 - 0))) = _
          rw [aZQ (by rw [aZS]; omega), Nat.succ_mul]
          rfl
theorem St32.passes (H0 : List UInt32) (hH : H0.length = 8) : ∀ (j : Nat) (M : List UInt8), j * 64 <= M.length -> M.length <= j * 64 + 64 -> (j = 0 \/ j * 64 < M.length) ->
              ∃ H lo hi, passTo 64 M (.small H0) j = (.small H, lo, hi) /\ (St32.mk H0 0 0 []).feed M = ⟨H, lo, hi, M.drop (j * 64)⟩ /\ H.length = 8
            | 0, M, _, h2, _ => by
              refine ⟨H0, 0, 0, rfl, ?_, hH⟩
              by_cases h0 : M = []
              · subst h0; rfl
              have hok : (St32.mk H0 0 0 []).Ok := ⟨hH, aZY _⟩;have hr : (St32.mk H0 0 0 []).ready = ⟨H0, 0, 0, []⟩ := by unfold St32.ready; rw [if_neg (by simp)]
              rw [St32.feed_step hok M h0, hr]
              show (St32.take (⟨H0, 0, 0, []⟩ : St32) M).feed (M.drop (64 - 0)) = _
              rw [List.drop_eq_nil_of_le (by omega), St32.feed_nil]
              show (⟨H0, 0, 0, [] ++ M.take (64 - 0)⟩ : St32) = _
              rw [aZQ (by omega), Nat.zero_mul]
              rfl
            | j + 1, M, h1, h2, h3 => by
              rw [Nat.succ_mul] at h1 h2 h3;have h3' : j * 64 + 64 < M.length := by rcases h3 with h | h <;> omega
              obtain ⟨H, lo, hi, hp, hf, hHl⟩ := St32.passes H0 hH j (M.take (j * 64 + 64)) (by rw [aZJ]; omega) (by rw [aZJ]; omega) (.inr (by rw [aZJ]; omega));rw [passTo_take 64 M _ _ j (by omega)] at hp;have hsplit : M = M.take (j * 64 + 64) ++ M.drop (j * 64 + 64) := (List.take_append_drop _ _).symm;have hne : M.drop (j * 64 + 64) ≠ [] := by intro h; have := congrArg List.length h; rw [aZS] at this; simp at this; omega
              have hok : (St32.mk H0 0 0 []).Ok := ⟨hH, aZY _⟩;have hheld : (M.take (j * 64 + 64)).drop (j * 64) = cutL M (j * 64) 64 := by rw [cutL_mid M _ _ (by omega), List.drop_take, Nat.add_sub_cancel_left]
              have hheldl : (cutL M (j * 64) 64).length = 64 := cutL_len _ _ _;rw [hheld] at hf;have hok1 : (St32.mk H lo hi (cutL M (j * 64) 64)).Ok := ⟨hHl, by rw [hheldl]; exact aZC _⟩;have hready : (St32.mk H lo hi (cutL M (j * 64) 64)).ready = ⟨comp32 H (words3 (cutL M (j * 64) 64) 16) (addLo lo 64) false false, addLo lo 64, addHi lo hi 64, []⟩ := by
                unfold St32.ready;rw [if_pos hheldl]
                rfl
              refine ⟨comp32 H (words3 (cutL M (j * 64) 64) 16) (addLo lo 64) false false, addLo lo 64, addHi lo hi 64, ?_, ?_, comp32_len _ _ _ _ _⟩
              · unfold passTo
                rw [hp]
                rfl
              · rw [show (St32.mk H0 0 0 []).feed M = (St32.mk H0 0 0 []).feed (M.take (j * 64 + 64) ++ M.drop (j * 64 + 64)) from congrArg _ hsplit, St32.feed_append _ _ _ _ hok (aZC _), hf, St32.feed_step hok1 _ hne, hready]
                show (St32.take _ _).feed ((M.drop (j * 64 + 64)).drop (64 - 0)) = _
                have hdn : (M.drop (j * 64 + 64)).drop (64 - 0) = [] := List.drop_eq_nil_of_le (by rw [aZS]; omega);rw [hdn, St32.feed_nil];unfold St32.take
                show (St32.mk _ _ _ ([] ++ (M.drop (j * 64 + 64)).take (64 - 0))) = _
                rw [aZQ (by rw [aZS]; omega), Nat.succ_mul]
                rfl
theorem startK_key (big : Bool) (x key data : List UInt8) : (startK big x key).feed data = (startOf big x).feed (keyL big key ++ data) := by
 unfold startK keyL
 split
 ·rfl
 ·rw [Eng.feed_append _ (startOf_ok big x)]
theorem out_law (big : Bool) (x key data : List UInt8) (last : Bool) (n j a : Nat) (S : HS) (lo hi : UInt64) (hn : n = 2 * bOf big) (hp : passTo n (keyL big key ++ data) (HS.start big x) j = (S, lo, hi)) (ha : a = j * n) (h1 : a <= (keyL big key ++ data).length) (h2 : (keyL big key ++ data).length <= a + n) (h3 : j = 0 \/ a < (keyL big key ++ data).length) :
  outR n (keyL big key ++ data) a S lo hi last = ((startK big x key).feed data).out last := by
 rw [startK_key];subst hn ha;generalize keyL big key ++ data = M at *
 cases big with
 | true =>
  obtain ⟨H, lo', hi', hp', hf, hHl⟩ := St64.passes (start64 x) (start64_len x) j M h1 h2 h3;change passTo 128 M (.big (start64 x)) j = _ at hp;rw [hp'] at hp
  cases hp
  show _ = (Eng.big ((St64.mk (start64 x) 0 0 []).feed M)).out last
  rw [hf]
  show _ = flat (comp64 H (wordsOf (padTo (M.drop (j * 128)) 128) 16) (addLo lo (bZD (M.drop (j * 128)).length)) (addHi lo hi (bZD (M.drop (j * 128)).length)) true last)
  rw [aZS, <- cutL_end M (j * 128) 128 h2]
  rfl
 | false =>
  obtain ⟨H, lo', hi', hp', hf, hHl⟩ := St32.passes (start32 x) (start32_len x) j M h1 h2 h3;change passTo 64 M (.small (start32 x)) j = _ at hp;rw [hp'] at hp
  cases hp
  show _ = (Eng.small ((St32.mk (start32 x) 0 0 []).feed M)).out last
  rw [hf]
  show _ = flat3 (comp32 H (words3 (padTo (M.drop (j * 64)) 64) 16) (addLo lo (bZD (M.drop (j * 64)).length)) true last)
  rw [aZS, <- cutL_end M (j * 64) 64 h2]
  rfl
end Go.Proofs.YtboihcigcfmhhaaGreat

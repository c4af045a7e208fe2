/-
  A round, of the reference. Contracts alone; no statement is claimed here.
-/
import Derived.Test.YtgephdbicbmpeaaGreatR4G
import Derived.Deep.CutRange
namespace Go.Proofs.YtgephdbicbmpeaaGreat
open Go.RowKit
attribute [local go_sem] pureUpon Ords.of

set_option maxRecDepth 20000 in
set_option maxHeartbeats 8000000 in
theorem r4Round_any (r : Nat) (V M : List UInt32) (w : World) (hr : r < 10) (hV : V.length = 16) (hM : M.length = 16) :
    Calls Tryz.prog 220 #[.agg (wc3 V), .agg (wc3 M), .int .i64 r] w fun e w' => e = .returned (.tuple #[.agg (wc3 (turn32 M r V)), .int .i64 0]) ∧ Below w.heap.size w w' := by
  have HV := Lib.hid hV; have HM := Lib.hid hM; clear hV hM
  have hsl := sigma_len r
  have hslt := sigma_lt r
  have hsg := fun i hi W => refSigma_any r i hi W
  unfold turn32
  generalize sigma r = S at *
  have HST := Lib.hid hslt; have HSG := Lib.hid hsg; clear hsl hslt hsg
  have hpl := Lib.hid r4four_any
  have hu := Lib.hid Tryz.underlying257
  have hr0 : decide ((r : Int) < 0) = false := by simp
  have hr1 : decide ((9 : Int) < (r : Int)) = false := by simp; omega
  have n0 : Blk (((w.alloc (.cells (wc3 V) 257)).alloc (.cells (wc3 M) 257)).alloc (.cells z16s 257)) w.heap.size 257 (wc3 V) := ((Blk.new _ _ _).alloc _).alloc _
  have n1 : Blk (((w.alloc (.cells (wc3 V) 257)).alloc (.cells (wc3 M) 257)).alloc (.cells z16s 257)) (w.heap.size + 1) 257 (wc3 M) := by
    have := (Blk.new (w.alloc (.cells (wc3 V) 257)) 257 (wc3 M)).alloc (.cells z16s 257); simpa using this
  have n2 : Blk (((w.alloc (.cells (wc3 V) 257)).alloc (.cells (wc3 M) 257)).alloc (.cells z16s 257)) (w.heap.size + 1 + 1) 257 z16s := by
    have := Blk.new ((w.alloc (.cells (wc3 V) 257)).alloc (.cells (wc3 M) 257)) 257 z16s; simpa using this
  have n4 := bal (bal (bal (b0 w) (.cells (wc3 V) 257)) (.cells (wc3 M) 257)) (.cells z16s 257)
  obtain ⟨g, hg⟩ : ∃ g, g = w.heap.size := ⟨_, rfl⟩
  unfold z16s at n0 n1 n2 n4
  rw [← hg] at n0 n1 n2
  go_enter Tryz.func220, Tryz.ntmps220
  go_upto_region 3 with fail
  rw [← hg]
  generalize ((w.alloc (.cells (wc3 V) 257)).alloc (.cells (wc3 M) 257)).alloc (.cells #[.int .u32 0, .int .u32 0, .int .u32 0, .int .u32 0, .int .u32 0, .int .u32 0, .int .u32 0, .int .u32 0, .int .u32 0, .int .u32 0, .int .u32 0, .int .u32 0, .int .u32 0, .int .u32 0, .int .u32 0, .int .u32 0] 257) = w0 at *
  have N0 := Lib.hid n0; have N1 := Lib.hid n1; have N2 := Lib.hid n2; have N4 := Lib.hid n4; have hwg : Hid (w.heap.size ≤ g) := by (show _ ≤ _; omega)
  clear n0 n1 n2 n4 hg hr0 hr1
  go_wp2_with fail
  go_loopw [8] (fun i wr => ∃ k : Nat, k ≤ 8 ∧ i = .int .i64 k ∧ Blk wr g 257 (wc3 (turnTo32 M S k V)) ∧ Blk wr (g + 1) 257 (wc3 M) ∧ Blk wr (g + 1 + 1) 257 z16s ∧ Below w.heap.size w wr) (fun i _ => 8 - (intOf i).toNat)
  case atStart => exact ⟨0, by omega, rfl, N0.out, N1.out, N2.out, N4.out⟩
  case round =>
    clear N0 N1 N2 N4
    obtain ⟨k, hk, rfl, x0, x1, x2, x4⟩ := hrel
    have N0 := Lib.hid x0; have N1 := Lib.hid x1; have N2 := Lib.hid x2; have N4 := Lib.hid x4; clear x0 x1 x2 x4
    by_cases hlt : k < 8
    · have hP := fun W => hpl.out k hlt W
      have hok := pls_ok k hlt
      have hturn : turnTo32 M S (k + 1) V = (pls k).lay (turnTo32 M S k V) (gm32 ((pls k).get 0 (turnTo32 M S k V)) (M.getD (S.getD (2 * k) 0) 0) (M.getD (S.getD (2 * k + 1) 0) 0)) := rfl
      have hTl : (turnTo32 M S k V).length = 16 := by rw [turnTo32_len, HV.out]
      have hTl1 : (turnTo32 M S (k + 1) V).length = 16 := by rw [turnTo32_len, HV.out]
      obtain ⟨i2, hi2⟩ : ∃ i2, i2 = 2 * k := ⟨_, rfl⟩
      obtain ⟨i3, hi3⟩ : ∃ i3, i3 = 2 * k + 1 := ⟨_, rfl⟩
      rw [← hi3, ← hi2] at hturn
      have e2 : 2 * (k : Int) = (i2 : Int) := by omega
      have e3 : (i2 : Int) + 1 = (i3 : Int) := by omega
      have l2 : i2 < 16 := by omega
      have l3 : i3 < 16 := by omega
      have hs2c := fun W => HSG.out i2 l2 W
      have hs3c := fun W => HSG.out i3 l3 W
      obtain ⟨s2, hs2⟩ : ∃ s, s = S.getD i2 0 := ⟨_, rfl⟩
      obtain ⟨s3, hs3⟩ : ∃ s, s = S.getD i3 0 := ⟨_, rfl⟩
      have ls2 : s2 < 16 := by rw [hs2]; exact HST.out i2 l2
      have ls3 : s3 < 16 := by rw [hs3]; exact HST.out i3 l3
      rw [← hs2] at hturn hs2c
      rw [← hs3] at hturn hs3c
      obtain ⟨x, hx⟩ : ∃ x, x = M.getD s2 0 := ⟨_, rfl⟩
      obtain ⟨y, hy⟩ : ∃ y, y = M.getD s3 0 := ⟨_, rfl⟩
      have m2 : (wc3 M)[s2]? = some (.int .u32 (wr3 x)) := by rw [wc3_get M s2 (by rw [HM.out]; exact ls2), hx]; rfl
      have m3 : (wc3 M)[s3]? = some (.int .u32 (wr3 y)) := by rw [wc3_get M s3 (by rw [HM.out]; exact ls3), hy]; rfl
      rw [← hx, ← hy] at hturn
      obtain ⟨p, hp⟩ : ∃ p, p = pls k := ⟨_, rfl⟩
      rw [← hp] at hP hok hturn
      have hG := fun W => r4G_any p (turnTo32 M S k V) x y W hok hTl
      rw [← hturn] at hG
      obtain ⟨pa, pb, pc, pd⟩ := p
      dsimp only at hP hG
      have HP := Lib.hid hP; have HG := Lib.hid hG; have HS2 := Lib.hid hs2c; have HS3 := Lib.hid hs3c; have HM2 := Lib.hid m2; have HM3 := Lib.hid m3
      have hsV := Lib.hid (sz16s _ hTl)
      have hsW := Lib.hid (sz16s _ hTl1)
      have hold : Hid ((wc3 (turnTo32 M S k V)).size = (wc3 (turnTo32 M S (k + 1) V)).size) := by show _ = _; rw [wc3_size, wc3_size, hTl, hTl1]
      have hall := Lib.hid (wc3_all (turnTo32 M S (k + 1) V))
      clear hP hG hs2c hs3c m2 m3 hturn hok hTl hTl1 hi2 hi3 hs2 hs3 hx hy hp
      have j2 : (i2 : Int) < 16 := by omega
      have j3 : (i3 : Int) < 16 := by omega
      have j4 : (s2 : Int) < 16 := by omega
      have j5 : (s3 : Int) < 16 := by omega
      have hkd : decide ((k : Int) < 8) = true := by simp; omega
      have w2' : IntKind.i64.wrap (i2 : Int) = i2 := by simp [IntKind.wrap, IntKind.bits, IntKind.signed]; omega
      have w3' : IntKind.i64.wrap (i3 : Int) = i3 := by simp [IntKind.wrap, IntKind.bits, IntKind.signed]; omega
      go_upto_region 7 with (go_at_call 235; refine (HP.out _).mono ?_; rintro e w1 ⟨rfl, rfl⟩)
      have c4 : wr.cell? ⟨g + 1, s2, none⟩ = some (.int .u32 (wr3 x)) := (N1.out.cell _).trans HM2.out
      have c5 : wr.cell? ⟨g + 1, s3, none⟩ = some (.int .u32 (wr3 y)) := (N1.out.cell _).trans HM3.out
      refine wp_region_ords (fun w' => Blk w' (g + 1) 257 (wc3 M)) (fun _ n h => h.drewN n) (Ords.of [(0, 1), (0, 2), (0, 3), (0, 4), (0, 5), (0, 6), (0, 7), (0, 11), (0, 12), (0, 13), (0, 14)] (.two 0 8 (Ords.of [(2, 8), (0, 9), (0, 10), (2, 15), (0, 16), (0, 17), (2, 18), (0, 19), (0, 20), (0, 21), (2, 22)] .fin) (Ords.of [(0, 9), (0, 10)] (.two 0 15 (Ords.of [(2, 15), (0, 16), (0, 17), (2, 18), (0, 19), (0, 20), (0, 21), (2, 22)] .fin) (Ords.of [(0, 16), (0, 17), (2, 0), (2, 18), (0, 19), (0, 20), (0, 21), (2, 22)] .fin))))) (by kernel_rfl) rfl (by kernel_rfl) (by kernel_rfl) (fun c a d v w h => by cases d <;> exact h) N1.out ?_
      refine ords_pure rfl (fun K hK => ?_); go_simp; refine hK _ ?_; clear hK K
      refine ords_pure rfl (fun K hK => ?_); go_simp; refine hK _ ?_; clear hK K
      refine ords_pure rfl (fun K hK => ?_); go_simp; refine hK _ ?_; clear hK K
      refine ords_pure rfl (fun K hK => ?_); go_simp; refine hK _ ?_; clear hK K
      refine ords_pure rfl (fun K hK => ?_); go_simp; refine hK _ ?_; clear hK K
      refine ords_pure rfl (fun K hK => ?_); go_simp; refine hK _ ?_; clear hK K
      refine ords_pure rfl (fun K hK => ?_); go_simp; refine hK _ ?_; clear hK K
      refine ords_pure rfl (fun K hK => ?_); go_simp; refine hK _ ?_; clear hK K
      refine ords_pure rfl (fun K hK => ?_); go_simp; refine hK _ ?_; clear hK K
      refine ords_pure rfl (fun K hK => ?_); go_simp; refine hK _ ?_; clear hK K
      refine ords_pure rfl (fun K hK => ?_); go_simp; refine hK _ ?_; clear hK K
      refine ords_two rfl rfl (fun n1 => ?_) (fun n1 => ?_)
      · go_wp2_with (first | (refine wpList_load_row rfl 257 _ rfl g rfl 257 (wc3 (turnTo32 M S k V)) (0, 0) _ (N0.out.drewN _) hu.out rfl hsV.out ?_) | (refine wpList_load_row rfl 257 _ rfl g rfl 257 (wc3 (turnTo32 M S k V)) (0, 0) _ ((N0.out.drewN _).drewN _) hu.out rfl hsV.out ?_) | (refine wpList_load_row rfl 257 _ rfl g rfl 257 (wc3 (turnTo32 M S k V)) (0, 0) _ (((N0.out.drewN _).drewN _).drewN _) hu.out rfl hsV.out ?_))
        refine ⟨by first | exact N1.out.drewN _ | exact (N1.out.drewN _).drewN _ | exact ((N1.out.drewN _).drewN _).drewN _, ?_⟩
        refine ords_loud rfl (fun n2 => ?_)
        go_wp2_with (go_at_call 234; refine (HS2.out _).mono ?_; rintro e w9 ⟨rfl, rfl⟩)
        refine ⟨N1.out.drewN _, ?_⟩
        refine ords_pure rfl (fun K hK => ?_); go_simp; refine hK _ ?_; clear hK K
        refine ords_heldK rfl (fun K K2 hK hK2 => ?_); go_simp; refine ⟨hK2 _ (fun w9 hS => ?_), hK _ ?_⟩; (clear hK hK2 K K2; have q4 : w9.cell? ⟨g + 1, s2, none⟩ = some (.int .u32 (wr3 x)) := (hS.cell _).trans HM2.out; have q5 : w9.cell? ⟨g + 1, s3, none⟩ = some (.int .u32 (wr3 y)) := (hS.cell _).trans HM3.out; go_simp); (clear hK hK2 K K2)
        refine ords_loud rfl (fun n3 => ?_)
        go_wp2_with (go_at_call 234; refine (HS3.out _).mono ?_; rintro e w9 ⟨rfl, rfl⟩)
        refine ⟨N1.out.drewN _, ?_⟩
        refine ords_pure rfl (fun K hK => ?_); go_simp; refine hK _ ?_; clear hK K
        refine ords_heldK rfl (fun K K2 hK hK2 => ?_); go_simp; refine ⟨hK2 _ (fun w9 hS => ?_), hK _ ?_⟩; (clear hK hK2 K K2; have q4 : w9.cell? ⟨g + 1, s2, none⟩ = some (.int .u32 (wr3 x)) := (hS.cell _).trans HM2.out; have q5 : w9.cell? ⟨g + 1, s3, none⟩ = some (.int .u32 (wr3 y)) := (hS.cell _).trans HM3.out; go_simp); (clear hK hK2 K K2)
        refine ords_loud rfl (fun n4 => ?_)
        go_wp2_with (go_at_call 236; refine (HG.out _).mono ?_; rintro e w8 ⟨rfl, hb8⟩)
        have y0 := (N0.out.drewN _).below hb8 (N0.out.drewN _).lt; have y1 := (N1.out.drewN _).below hb8 (N1.out.drewN _).lt; have y2 := (N2.out.drewN _).below hb8 (N2.out.drewN _).lt; have y4 := bcall (bdr N4.out _) hb8
        refine ⟨y1, ?_⟩
        refine ords_pure rfl (fun K hK => ?_); go_simp; refine hK _ ?_; clear hK K
        refine ords_pure rfl (fun K hK => ?_); go_simp; refine hK _ ?_; clear hK K
        refine ords_pure rfl (fun K hK => ?_); go_simp; refine hK _ ?_; clear hK K
        refine ords_loud rfl (fun n5 => ?_)
        go_wp2_with (refine wpList_store_row rfl 257 _ _ rfl g (wc3 (turnTo32 M S (k + 1) V)) rfl rfl 257 _ (y0.drewN _) hsW.out hold.out hall.out ?_)
        refine ⟨(y1.drewN _).rowFar (by omega) _, ?_⟩
        refine ords_end (fun n6 => ?_)
        go_wp2_with fail
        go_roundw
        case rel => exact ⟨k + 1, by omega, by go_num, ((y0.drewN _).row _).drewN _, ((y1.drewN _).rowFar (by omega) _).drewN _, ((y2.drewN _).rowFar (by omega) _).drewN _, bdr (brow (bdr y4 _) hwg.out _) _⟩
        case measure => simp [intOf]; omega
      · go_wp2_with (go_at_call 234; refine (HS2.out _).mono ?_; rintro e w9 ⟨rfl, rfl⟩)
        refine ⟨N1.out.drewN _, ?_⟩
        refine ords_pure rfl (fun K hK => ?_); go_simp; refine hK _ ?_; clear hK K
        refine ords_heldK rfl (fun K K2 hK hK2 => ?_); go_simp; refine ⟨hK2 _ (fun w9 hS => ?_), hK _ ?_⟩; (clear hK hK2 K K2; have q4 : w9.cell? ⟨g + 1, s2, none⟩ = some (.int .u32 (wr3 x)) := (hS.cell _).trans HM2.out; have q5 : w9.cell? ⟨g + 1, s3, none⟩ = some (.int .u32 (wr3 y)) := (hS.cell _).trans HM3.out; go_simp); (clear hK hK2 K K2)
        refine ords_two rfl rfl (fun n2 => ?_) (fun n2 => ?_)
        · go_wp2_with (first | (refine wpList_load_row rfl 257 _ rfl g rfl 257 (wc3 (turnTo32 M S k V)) (0, 0) _ (N0.out.drewN _) hu.out rfl hsV.out ?_) | (refine wpList_load_row rfl 257 _ rfl g rfl 257 (wc3 (turnTo32 M S k V)) (0, 0) _ ((N0.out.drewN _).drewN _) hu.out rfl hsV.out ?_) | (refine wpList_load_row rfl 257 _ rfl g rfl 257 (wc3 (turnTo32 M S k V)) (0, 0) _ (((N0.out.drewN _).drewN _).drewN _) hu.out rfl hsV.out ?_))
          refine ⟨by first | exact N1.out.drewN _ | exact (N1.out.drewN _).drewN _ | exact ((N1.out.drewN _).drewN _).drewN _, ?_⟩
          refine ords_loud rfl (fun n3 => ?_)
          go_wp2_with (go_at_call 234; refine (HS3.out _).mono ?_; rintro e w9 ⟨rfl, rfl⟩)
          refine ⟨N1.out.drewN _, ?_⟩
          refine ords_pure rfl (fun K hK => ?_); go_simp; refine hK _ ?_; clear hK K
          refine ords_heldK rfl (fun K K2 hK hK2 => ?_); go_simp; refine ⟨hK2 _ (fun w9 hS => ?_), hK _ ?_⟩; (clear hK hK2 K K2; have q4 : w9.cell? ⟨g + 1, s2, none⟩ = some (.int .u32 (wr3 x)) := (hS.cell _).trans HM2.out; have q5 : w9.cell? ⟨g + 1, s3, none⟩ = some (.int .u32 (wr3 y)) := (hS.cell _).trans HM3.out; go_simp); (clear hK hK2 K K2)
          refine ords_loud rfl (fun n4 => ?_)
          go_wp2_with (go_at_call 236; refine (HG.out _).mono ?_; rintro e w8 ⟨rfl, hb8⟩)
          have y0 := (N0.out.drewN _).below hb8 (N0.out.drewN _).lt; have y1 := (N1.out.drewN _).below hb8 (N1.out.drewN _).lt; have y2 := (N2.out.drewN _).below hb8 (N2.out.drewN _).lt; have y4 := bcall (bdr N4.out _) hb8
          refine ⟨y1, ?_⟩
          refine ords_pure rfl (fun K hK => ?_); go_simp; refine hK _ ?_; clear hK K
          refine ords_pure rfl (fun K hK => ?_); go_simp; refine hK _ ?_; clear hK K
          refine ords_pure rfl (fun K hK => ?_); go_simp; refine hK _ ?_; clear hK K
          refine ords_loud rfl (fun n5 => ?_)
          go_wp2_with (refine wpList_store_row rfl 257 _ _ rfl g (wc3 (turnTo32 M S (k + 1) V)) rfl rfl 257 _ (y0.drewN _) hsW.out hold.out hall.out ?_)
          refine ⟨(y1.drewN _).rowFar (by omega) _, ?_⟩
          refine ords_end (fun n6 => ?_)
          go_wp2_with fail
          go_roundw
          case rel => exact ⟨k + 1, by omega, by go_num, ((y0.drewN _).row _).drewN _, ((y1.drewN _).rowFar (by omega) _).drewN _, ((y2.drewN _).rowFar (by omega) _).drewN _, bdr (brow (bdr y4 _) hwg.out _) _⟩
          case measure => simp [intOf]; omega
        · go_wp2_with (go_at_call 234; refine (HS3.out _).mono ?_; rintro e w9 ⟨rfl, rfl⟩)
          refine ⟨N1.out.drewN _, ?_⟩
          refine ords_pure rfl (fun K hK => ?_); go_simp; refine hK _ ?_; clear hK K
          refine ords_heldK rfl (fun K K2 hK hK2 => ?_); go_simp; refine ⟨hK2 _ (fun w9 hS => ?_), hK _ ?_⟩; (clear hK hK2 K K2; have q4 : w9.cell? ⟨g + 1, s2, none⟩ = some (.int .u32 (wr3 x)) := (hS.cell _).trans HM2.out; have q5 : w9.cell? ⟨g + 1, s3, none⟩ = some (.int .u32 (wr3 y)) := (hS.cell _).trans HM3.out; go_simp); (clear hK hK2 K K2)
          refine ords_loud rfl (fun n3 => ?_)
          go_wp2_with (first | (refine wpList_load_row rfl 257 _ rfl g rfl 257 (wc3 (turnTo32 M S k V)) (0, 0) _ (N0.out.drewN _) hu.out rfl hsV.out ?_) | (refine wpList_load_row rfl 257 _ rfl g rfl 257 (wc3 (turnTo32 M S k V)) (0, 0) _ ((N0.out.drewN _).drewN _) hu.out rfl hsV.out ?_) | (refine wpList_load_row rfl 257 _ rfl g rfl 257 (wc3 (turnTo32 M S k V)) (0, 0) _ (((N0.out.drewN _).drewN _).drewN _) hu.out rfl hsV.out ?_))
          refine ⟨by first | exact N1.out.drewN _ | exact (N1.out.drewN _).drewN _ | exact ((N1.out.drewN _).drewN _).drewN _, ?_⟩
          refine ords_loud rfl (fun n4 => ?_)
          go_wp2_with (go_at_call 236; refine (HG.out _).mono ?_; rintro e w8 ⟨rfl, hb8⟩)
          have y0 := (N0.out.drewN _).below hb8 (N0.out.drewN _).lt; have y1 := (N1.out.drewN _).below hb8 (N1.out.drewN _).lt; have y2 := (N2.out.drewN _).below hb8 (N2.out.drewN _).lt; have y4 := bcall (bdr N4.out _) hb8
          refine ⟨y1, ?_⟩
          refine ords_pure rfl (fun K hK => ?_); go_simp; refine hK _ ?_; clear hK K
          refine ords_pure rfl (fun K hK => ?_); go_simp; refine hK _ ?_; clear hK K
          refine ords_pure rfl (fun K hK => ?_); go_simp; refine hK _ ?_; clear hK K
          refine ords_loud rfl (fun n5 => ?_)
          go_wp2_with (refine wpList_store_row rfl 257 _ _ rfl g (wc3 (turnTo32 M S (k + 1) V)) rfl rfl 257 _ (y0.drewN _) hsW.out hold.out hall.out ?_)
          refine ⟨(y1.drewN _).rowFar (by omega) _, ?_⟩
          refine ords_end (fun n6 => ?_)
          go_wp2_with fail
          go_roundw
          case rel => exact ⟨k + 1, by omega, by go_num, ((y0.drewN _).row _).drewN _, ((y1.drewN _).rowFar (by omega) _).drewN _, ((y2.drewN _).rowFar (by omega) _).drewN _, bdr (brow (bdr y4 _) hwg.out _) _⟩
          case measure => simp [intOf]; omega
    · obtain rfl : k = 8 := by omega
      clear hlt hk
      have hTl : (turnTo32 M S 8 V).length = 16 := by rw [turnTo32_len, HV.out]
      have hsV := Lib.hid (sz16s _ hTl)
      have hold : Hid (z16s.size = (wc3 (turnTo32 M S 8 V)).size) := by show _ = _; rw [wc3_size, hTl]; rfl
      have hall := Lib.hid (wc3_all (turnTo32 M S 8 V))
      clear hTl
      go_upto_region 8 with fail
      go_wp2_with (first
        | (refine wpList_load_row rfl 257 _ rfl g rfl 257 (wc3 (turnTo32 M S 8 V)) (0, 0) _ N0.out hu.out rfl hsV.out ?_)
        | (refine wpList_store_row rfl 257 _ _ rfl (g + 1 + 1) (wc3 (turnTo32 M S 8 V)) rfl rfl 257 _ N2.out hsV.out hold.out hall.out ?_))
      exact bodyPost_ret (results_cell_tmp rfl _ _ (g + 1 + 1) _ _ _ rfl (N2.out.row _) hu.out rfl hsV.out) rfl ⟨rfl, brow N4.out (by have := hwg.out; omega) _⟩
end Go.Proofs.YtgephdbicbmpeaaGreat

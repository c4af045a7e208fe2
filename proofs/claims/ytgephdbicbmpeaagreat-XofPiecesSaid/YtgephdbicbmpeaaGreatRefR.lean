/-
  A round, of the reference. Contracts alone; no statement is claimed here.
-/
import Derived.Test.YtgephdbicbmpeaaGreatRefG
import Derived.Deep.CutRange
namespace Go.Proofs.YtgephdbicbmpeaaGreat
open Go.RowKit
attribute [local go_sem] pureUpon Ords.of

set_option maxRecDepth 20000 in
set_option maxHeartbeats 8000000 in
theorem refRound_any (r : Nat) (V M : List UInt64) (w : World) (hr : r < 12) (hV : V.length = 16) (hM : M.length = 16) :
    Calls Tryz.prog 217 #[.agg (wcs V), .agg (wcs M), .int .i64 r] w fun e w' => e = .returned (.tuple #[.agg (wcs (turn64 M r V)), .int .i64 0]) ∧ Below w.heap.size w w' := by
  have HV := Lib.hid hV; have HM := Lib.hid hM; clear hV hM
  have hsl := sigma_len r
  have hslt := sigma_lt r
  have hsg := fun i hi W => refSigma_any r i hi W
  unfold turn64
  generalize sigma r = S at *
  have HST := Lib.hid hslt; have HSG := Lib.hid hsg; clear hsl hslt hsg
  have hpl := Lib.hid refPlaces_any
  have hu := Lib.hid Tryz.underlying121
  have hr0 : decide ((r : Int) < 0) = false := by simp
  have hr1 : decide ((11 : Int) < (r : Int)) = false := by simp; omega
  have n0 : Blk (((w.alloc (.cells (wcs V) 121)).alloc (.cells (wcs M) 121)).alloc (.cells z16 121)) w.heap.size 121 (wcs V) := ((Blk.new _ _ _).alloc _).alloc _
  have n1 : Blk (((w.alloc (.cells (wcs V) 121)).alloc (.cells (wcs M) 121)).alloc (.cells z16 121)) (w.heap.size + 1) 121 (wcs M) := by
    have := (Blk.new (w.alloc (.cells (wcs V) 121)) 121 (wcs M)).alloc (.cells z16 121); simpa using this
  have n2 : Blk (((w.alloc (.cells (wcs V) 121)).alloc (.cells (wcs M) 121)).alloc (.cells z16 121)) (w.heap.size + 1 + 1) 121 z16 := by
    have := Blk.new ((w.alloc (.cells (wcs V) 121)).alloc (.cells (wcs M) 121)) 121 z16; simpa using this
  have n4 := bal (bal (bal (b0 w) (.cells (wcs V) 121)) (.cells (wcs M) 121)) (.cells z16 121)
  obtain ⟨g, hg⟩ : ∃ g, g = w.heap.size := ⟨_, rfl⟩
  unfold z16 at n0 n1 n2 n4
  rw [← hg] at n0 n1 n2
  go_enter Tryz.func217, Tryz.ntmps217
  go_upto_region 3 with fail
  rw [← hg]
  generalize ((w.alloc (.cells (wcs V) 121)).alloc (.cells (wcs M) 121)).alloc (.cells #[.int .u64 0, .int .u64 0, .int .u64 0, .int .u64 0, .int .u64 0, .int .u64 0, .int .u64 0, .int .u64 0, .int .u64 0, .int .u64 0, .int .u64 0, .int .u64 0, .int .u64 0, .int .u64 0, .int .u64 0, .int .u64 0] 121) = w0 at *
  have N0 := Lib.hid n0; have N1 := Lib.hid n1; have N2 := Lib.hid n2; have N4 := Lib.hid n4; have hwg : Hid (w.heap.size ≤ g) := by (show _ ≤ _; omega)
  clear n0 n1 n2 n4 hg hr0 hr1
  go_wp2_with fail
  go_loopw [8] (fun i wr => ∃ k : Nat, k ≤ 8 ∧ i = .int .i64 k ∧ Blk wr g 121 (wcs (turnTo64 M S k V)) ∧ Blk wr (g + 1) 121 (wcs M) ∧ Blk wr (g + 1 + 1) 121 z16 ∧ Below w.heap.size w wr) (fun i _ => 8 - (intOf i).toNat)
  case atStart => exact ⟨0, by omega, rfl, N0.out, N1.out, N2.out, N4.out⟩
  case round =>
    clear N0 N1 N2 N4
    obtain ⟨k, hk, rfl, x0, x1, x2, x4⟩ := hrel
    have N0 := Lib.hid x0; have N1 := Lib.hid x1; have N2 := Lib.hid x2; have N4 := Lib.hid x4; clear x0 x1 x2 x4
    by_cases hlt : k < 8
    · have hP := fun W => hpl.out k hlt W
      have hok := pls_ok k hlt
      have hturn : turnTo64 M S (k + 1) V = (pls k).lay (turnTo64 M S k V) (gm64 ((pls k).get 0 (turnTo64 M S k V)) (M.getD (S.getD (2 * k) 0) 0) (M.getD (S.getD (2 * k + 1) 0) 0)) := rfl
      have hTl : (turnTo64 M S k V).length = 16 := by rw [turnTo64_len, HV.out]
      have hTl1 : (turnTo64 M S (k + 1) V).length = 16 := by rw [turnTo64_len, HV.out]
      obtain ⟨i2, hi2⟩ : ∃ i2, i2 = 2 * k := ⟨_, rfl⟩
      obtain ⟨i3, hi3⟩ : ∃ i3, i3 = 2 * k + 1 := ⟨_, rfl⟩
      rw [← hi3, ← hi2] at hturn
      have e2 : 2 * (k : Int) = (i2 : Int) := by omega
      have e3 : (i2 : Int) + 1 = (i3 : Int) := by omega
      have l2 : i2 < 16 := by omega
      have l3 : i3 < 16 := by omega
      have hs2c := fun W => HSG.out i2 l2 W
      have hs3c := fun W => HSG.out i3 l3 W
      obtain ⟨s2, hs2⟩ : ∃ s, s = S.getD i2 0 := ⟨_, rfl⟩
      obtain ⟨s3, hs3⟩ : ∃ s, s = S.getD i3 0 := ⟨_, rfl⟩
      have ls2 : s2 < 16 := by rw [hs2]; exact HST.out i2 l2
      have ls3 : s3 < 16 := by rw [hs3]; exact HST.out i3 l3
      rw [← hs2] at hturn hs2c
      rw [← hs3] at hturn hs3c
      obtain ⟨x, hx⟩ : ∃ x, x = M.getD s2 0 := ⟨_, rfl⟩
      obtain ⟨y, hy⟩ : ∃ y, y = M.getD s3 0 := ⟨_, rfl⟩
      have m2 : (wcs M)[s2]? = some (.int .u64 (wrd x)) := by rw [wcs_get M s2 (by rw [HM.out]; exact ls2), hx]; rfl
      have m3 : (wcs M)[s3]? = some (.int .u64 (wrd y)) := by rw [wcs_get M s3 (by rw [HM.out]; exact ls3), hy]; rfl
      rw [← hx, ← hy] at hturn
      obtain ⟨p, hp⟩ : ∃ p, p = pls k := ⟨_, rfl⟩
      rw [← hp] at hP hok hturn
      have hG := fun W => refG_any p (turnTo64 M S k V) x y W hok hTl
      rw [← hturn] at hG
      obtain ⟨pa, pb, pc, pd⟩ := p
      unfold plv at hP
      dsimp only at hP hG
      have HP := Lib.hid hP; have HG := Lib.hid hG; have HS2 := Lib.hid hs2c; have HS3 := Lib.hid hs3c; have HM2 := Lib.hid m2; have HM3 := Lib.hid m3
      have hsV := Lib.hid (sz16w _ hTl)
      have hsW := Lib.hid (sz16w _ hTl1)
      have hold : Hid ((wcs (turnTo64 M S k V)).size = (wcs (turnTo64 M S (k + 1) V)).size) := by show _ = _; rw [wcs_size, wcs_size, hTl, hTl1]
      have hall := Lib.hid (wcs_all (turnTo64 M S (k + 1) V))
      clear hP hG hs2c hs3c m2 m3 hturn hok hTl hTl1 hi2 hi3 hs2 hs3 hx hy hp
      have j2 : (i2 : Int) < 16 := by omega
      have j3 : (i3 : Int) < 16 := by omega
      have j4 : (s2 : Int) < 16 := by omega
      have j5 : (s3 : Int) < 16 := by omega
      have hkd : decide ((k : Int) < 8) = true := by simp; omega
      have w2' : IntKind.i64.wrap (i2 : Int) = i2 := by simp [IntKind.wrap, IntKind.bits, IntKind.signed]; omega
      have w3' : IntKind.i64.wrap (i3 : Int) = i3 := by simp [IntKind.wrap, IntKind.bits, IntKind.signed]; omega
      go_upto_region 7 with (go_at_call 232; refine (HP.out _).mono ?_; rintro e w1 ⟨rfl, hb1⟩)
      obtain ⟨P1, hP1⟩ : ∃ P1, P1 = w1.heap.size := ⟨_, rfl⟩
      have T0 : Blk (w1.alloc (.cells #[.int .i64 pa, .int .i64 pb, .int .i64 pc, .int .i64 pd] 302)) P1 302 #[.int .i64 pa, .int .i64 pb, .int .i64 pc, .int .i64 pd] := by rw [hP1]; exact Blk.new _ _ _
      have X0 := (N0.out.below hb1 N0.out.lt).alloc (.cells #[.int .i64 pa, .int .i64 pb, .int .i64 pc, .int .i64 pd] 302)
      have X1 := (N1.out.below hb1 N1.out.lt).alloc (.cells #[.int .i64 pa, .int .i64 pb, .int .i64 pc, .int .i64 pd] 302)
      have X2 := (N2.out.below hb1 N2.out.lt).alloc (.cells #[.int .i64 pa, .int .i64 pb, .int .i64 pc, .int .i64 pd] 302)
      have X4 := bal (bcall N4.out hb1) (.cells #[.int .i64 pa, .int .i64 pb, .int .i64 pc, .int .i64 pd] 302)
      have hgP : g + 1 + 1 < P1 := by have := N2.out.lt; have := hb1.size; omega
      rw [← hP1]
      clear hP1 hb1 N0 N1 N2 N4
      generalize w1.alloc (.cells #[.int .i64 pa, .int .i64 pb, .int .i64 pc, .int .i64 pd] 302) = w2 at *
      have HT := Lib.hid T0; have N0 := Lib.hid X0; have N1 := Lib.hid X1; have N2 := Lib.hid X2; have N4 := Lib.hid X4; clear T0 X0 X1 X2 X4
      have c0 : w2.cell? ⟨P1, 0, none⟩ = some (.int .i64 pa) := HT.out.cell 0
      have c1 : w2.cell? ⟨P1, 1, none⟩ = some (.int .i64 pb) := HT.out.cell 1
      have c2 : w2.cell? ⟨P1, 2, none⟩ = some (.int .i64 pc) := HT.out.cell 2
      have c3 : w2.cell? ⟨P1, 3, none⟩ = some (.int .i64 pd) := HT.out.cell 3
      have c4 : w2.cell? ⟨g + 1, s2, none⟩ = some (.int .u64 (wrd x)) := (N1.out.cell _).trans HM2.out
      have c5 : w2.cell? ⟨g + 1, s3, none⟩ = some (.int .u64 (wrd y)) := (N1.out.cell _).trans HM3.out
      refine wp_region_ords (fun w' => Blk w' P1 302 #[.int .i64 pa, .int .i64 pb, .int .i64 pc, .int .i64 pd] ∧ Blk w' (g + 1) 121 (wcs M)) (fun _ n h => ⟨h.1.drewN n, h.2.drewN n⟩) (Ords.of [(0, 1), (0, 2), (0, 3), (0, 4), (0, 5), (0, 6), (0, 7), (0, 8), (0, 9), (0, 10), (0, 11), (0, 15), (0, 16), (0, 17), (0, 18)] (.two 0 12 (Ords.of [(2, 12), (0, 13), (0, 14), (2, 19), (0, 20), (0, 21), (2, 22), (0, 23), (0, 24), (0, 25), (2, 26)] .fin) (Ords.of [(0, 13), (0, 14)] (.two 0 19 (Ords.of [(2, 19), (0, 20), (0, 21), (2, 22), (0, 23), (0, 24), (0, 25), (2, 26)] .fin) (Ords.of [(0, 20), (0, 21), (2, 0), (2, 22), (0, 23), (0, 24), (0, 25), (2, 26)] .fin))))) (by kernel_rfl) rfl (by kernel_rfl) (by kernel_rfl) (fun c a d v w h => by cases d <;> exact h) ⟨HT.out, N1.out⟩ ?_
      refine ords_pure rfl (fun K hK => ?_); go_simp; refine hK _ ?_; clear hK K
      refine ords_heldK rfl (fun K K2 hK hK2 => ?_); go_simp; refine ⟨hK2 _ (fun w9 hS => ?_), hK _ ?_⟩; (clear hK hK2 K K2; have q0 : w9.cell? ⟨P1, 0, none⟩ = some (.int .i64 pa) := hS.1.cell 0; have q1 : w9.cell? ⟨P1, 1, none⟩ = some (.int .i64 pb) := hS.1.cell 1; have q2 : w9.cell? ⟨P1, 2, none⟩ = some (.int .i64 pc) := hS.1.cell 2; have q3 : w9.cell? ⟨P1, 3, none⟩ = some (.int .i64 pd) := hS.1.cell 3; have q4 : w9.cell? ⟨g + 1, s2, none⟩ = some (.int .u64 (wrd x)) := (hS.2.cell _).trans HM2.out; have q5 : w9.cell? ⟨g + 1, s3, none⟩ = some (.int .u64 (wrd y)) := (hS.2.cell _).trans HM3.out; go_simp); (clear hK hK2 K K2)
      refine ords_pure rfl (fun K hK => ?_); go_simp; refine hK _ ?_; clear hK K
      refine ords_heldK rfl (fun K K2 hK hK2 => ?_); go_simp; refine ⟨hK2 _ (fun w9 hS => ?_), hK _ ?_⟩; (clear hK hK2 K K2; have q0 : w9.cell? ⟨P1, 0, none⟩ = some (.int .i64 pa) := hS.1.cell 0; have q1 : w9.cell? ⟨P1, 1, none⟩ = some (.int .i64 pb) := hS.1.cell 1; have q2 : w9.cell? ⟨P1, 2, none⟩ = some (.int .i64 pc) := hS.1.cell 2; have q3 : w9.cell? ⟨P1, 3, none⟩ = some (.int .i64 pd) := hS.1.cell 3; have q4 : w9.cell? ⟨g + 1, s2, none⟩ = some (.int .u64 (wrd x)) := (hS.2.cell _).trans HM2.out; have q5 : w9.cell? ⟨g + 1, s3, none⟩ = some (.int .u64 (wrd y)) := (hS.2.cell _).trans HM3.out; go_simp); (clear hK hK2 K K2)
      refine ords_pure rfl (fun K hK => ?_); go_simp; refine hK _ ?_; clear hK K
      refine ords_heldK rfl (fun K K2 hK hK2 => ?_); go_simp; refine ⟨hK2 _ (fun w9 hS => ?_), hK _ ?_⟩; (clear hK hK2 K K2; have q0 : w9.cell? ⟨P1, 0, none⟩ = some (.int .i64 pa) := hS.1.cell 0; have q1 : w9.cell? ⟨P1, 1, none⟩ = some (.int .i64 pb) := hS.1.cell 1; have q2 : w9.cell? ⟨P1, 2, none⟩ = some (.int .i64 pc) := hS.1.cell 2; have q3 : w9.cell? ⟨P1, 3, none⟩ = some (.int .i64 pd) := hS.1.cell 3; have q4 : w9.cell? ⟨g + 1, s2, none⟩ = some (.int .u64 (wrd x)) := (hS.2.cell _).trans HM2.out; have q5 : w9.cell? ⟨g + 1, s3, none⟩ = some (.int .u64 (wrd y)) := (hS.2.cell _).trans HM3.out; go_simp); (clear hK hK2 K K2)
      refine ords_pure rfl (fun K hK => ?_); go_simp; refine hK _ ?_; clear hK K
      refine ords_heldK rfl (fun K K2 hK hK2 => ?_); go_simp; refine ⟨hK2 _ (fun w9 hS => ?_), hK _ ?_⟩; (clear hK hK2 K K2; have q0 : w9.cell? ⟨P1, 0, none⟩ = some (.int .i64 pa) := hS.1.cell 0; have q1 : w9.cell? ⟨P1, 1, none⟩ = some (.int .i64 pb) := hS.1.cell 1; have q2 : w9.cell? ⟨P1, 2, none⟩ = some (.int .i64 pc) := hS.1.cell 2; have q3 : w9.cell? ⟨P1, 3, none⟩ = some (.int .i64 pd) := hS.1.cell 3; have q4 : w9.cell? ⟨g + 1, s2, none⟩ = some (.int .u64 (wrd x)) := (hS.2.cell _).trans HM2.out; have q5 : w9.cell? ⟨g + 1, s3, none⟩ = some (.int .u64 (wrd y)) := (hS.2.cell _).trans HM3.out; go_simp); (clear hK hK2 K K2)
      refine ords_pure rfl (fun K hK => ?_); go_simp; refine hK _ ?_; clear hK K
      refine ords_pure rfl (fun K hK => ?_); go_simp; refine hK _ ?_; clear hK K
      refine ords_pure rfl (fun K hK => ?_); go_simp; refine hK _ ?_; clear hK K
      refine ords_pure rfl (fun K hK => ?_); go_simp; refine hK _ ?_; clear hK K
      refine ords_pure rfl (fun K hK => ?_); go_simp; refine hK _ ?_; clear hK K
      refine ords_pure rfl (fun K hK => ?_); go_simp; refine hK _ ?_; clear hK K
      refine ords_pure rfl (fun K hK => ?_); go_simp; refine hK _ ?_; clear hK K
      refine ords_two rfl rfl (fun n1 => ?_) (fun n1 => ?_)
      · go_wp2_with (first | (refine wpList_load_row rfl 121 _ rfl g rfl 121 (wcs (turnTo64 M S k V)) (0, 0) _ (N0.out.drewN _) hu.out rfl hsV.out ?_) | (refine wpList_load_row rfl 121 _ rfl g rfl 121 (wcs (turnTo64 M S k V)) (0, 0) _ ((N0.out.drewN _).drewN _) hu.out rfl hsV.out ?_) | (refine wpList_load_row rfl 121 _ rfl g rfl 121 (wcs (turnTo64 M S k V)) (0, 0) _ (((N0.out.drewN _).drewN _).drewN _) hu.out rfl hsV.out ?_))
        refine ⟨⟨by first | exact HT.out.drewN _ | exact (HT.out.drewN _).drewN _ | exact ((HT.out.drewN _).drewN _).drewN _, by first | exact N1.out.drewN _ | exact (N1.out.drewN _).drewN _ | exact ((N1.out.drewN _).drewN _).drewN _⟩, ?_⟩
        refine ords_loud rfl (fun n2 => ?_)
        go_wp2_with (go_at_call 234; refine (HS2.out _).mono ?_; rintro e w9 ⟨rfl, rfl⟩)
        refine ⟨⟨HT.out.drewN _, N1.out.drewN _⟩, ?_⟩
        refine ords_pure rfl (fun K hK => ?_); go_simp; refine hK _ ?_; clear hK K
        refine ords_heldK rfl (fun K K2 hK hK2 => ?_); go_simp; refine ⟨hK2 _ (fun w9 hS => ?_), hK _ ?_⟩; (clear hK hK2 K K2; have q0 : w9.cell? ⟨P1, 0, none⟩ = some (.int .i64 pa) := hS.1.cell 0; have q1 : w9.cell? ⟨P1, 1, none⟩ = some (.int .i64 pb) := hS.1.cell 1; have q2 : w9.cell? ⟨P1, 2, none⟩ = some (.int .i64 pc) := hS.1.cell 2; have q3 : w9.cell? ⟨P1, 3, none⟩ = some (.int .i64 pd) := hS.1.cell 3; have q4 : w9.cell? ⟨g + 1, s2, none⟩ = some (.int .u64 (wrd x)) := (hS.2.cell _).trans HM2.out; have q5 : w9.cell? ⟨g + 1, s3, none⟩ = some (.int .u64 (wrd y)) := (hS.2.cell _).trans HM3.out; go_simp); (clear hK hK2 K K2)
        refine ords_loud rfl (fun n3 => ?_)
        go_wp2_with (go_at_call 234; refine (HS3.out _).mono ?_; rintro e w9 ⟨rfl, rfl⟩)
        refine ⟨⟨HT.out.drewN _, N1.out.drewN _⟩, ?_⟩
        refine ords_pure rfl (fun K hK => ?_); go_simp; refine hK _ ?_; clear hK K
        refine ords_heldK rfl (fun K K2 hK hK2 => ?_); go_simp; refine ⟨hK2 _ (fun w9 hS => ?_), hK _ ?_⟩; (clear hK hK2 K K2; have q0 : w9.cell? ⟨P1, 0, none⟩ = some (.int .i64 pa) := hS.1.cell 0; have q1 : w9.cell? ⟨P1, 1, none⟩ = some (.int .i64 pb) := hS.1.cell 1; have q2 : w9.cell? ⟨P1, 2, none⟩ = some (.int .i64 pc) := hS.1.cell 2; have q3 : w9.cell? ⟨P1, 3, none⟩ = some (.int .i64 pd) := hS.1.cell 3; have q4 : w9.cell? ⟨g + 1, s2, none⟩ = some (.int .u64 (wrd x)) := (hS.2.cell _).trans HM2.out; have q5 : w9.cell? ⟨g + 1, s3, none⟩ = some (.int .u64 (wrd y)) := (hS.2.cell _).trans HM3.out; go_simp); (clear hK hK2 K K2)
        refine ords_loud rfl (fun n4 => ?_)
        go_wp2_with (go_at_call 233; refine (HG.out _).mono ?_; rintro e w8 ⟨rfl, hb8⟩)
        have y0 := (N0.out.drewN _).below hb8 (N0.out.drewN _).lt; have y1 := (N1.out.drewN _).below hb8 (N1.out.drewN _).lt; have y2 := (N2.out.drewN _).below hb8 (N2.out.drewN _).lt; have yt := (HT.out.drewN _).below hb8 (HT.out.drewN _).lt; have y4 := bcall (bdr N4.out _) hb8
        refine ⟨⟨yt, y1⟩, ?_⟩
        refine ords_pure rfl (fun K hK => ?_); go_simp; refine hK _ ?_; clear hK K
        refine ords_pure rfl (fun K hK => ?_); go_simp; refine hK _ ?_; clear hK K
        refine ords_pure rfl (fun K hK => ?_); go_simp; refine hK _ ?_; clear hK K
        refine ords_loud rfl (fun n5 => ?_)
        go_wp2_with (refine wpList_store_row rfl 121 _ _ rfl g (wcs (turnTo64 M S (k + 1) V)) rfl rfl 121 _ (y0.drewN _) hsW.out hold.out hall.out ?_)
        refine ⟨⟨(yt.drewN _).rowFar (by omega) _, (y1.drewN _).rowFar (by omega) _⟩, ?_⟩
        refine ords_end (fun n6 => ?_)
        go_wp2_with fail
        go_roundw
        case rel => exact ⟨k + 1, by omega, by go_num, ((y0.drewN _).row _).drewN _, ((y1.drewN _).rowFar (by omega) _).drewN _, ((y2.drewN _).rowFar (by omega) _).drewN _, bdr (brow (bdr y4 _) hwg.out _) _⟩
        case measure => simp [intOf]; omega
      · go_wp2_with (go_at_call 234; refine (HS2.out _).mono ?_; rintro e w9 ⟨rfl, rfl⟩)
        refine ⟨⟨HT.out.drewN _, N1.out.drewN _⟩, ?_⟩
        refine ords_pure rfl (fun K hK => ?_); go_simp; refine hK _ ?_; clear hK K
        refine ords_heldK rfl (fun K K2 hK hK2 => ?_); go_simp; refine ⟨hK2 _ (fun w9 hS => ?_), hK _ ?_⟩; (clear hK hK2 K K2; have q0 : w9.cell? ⟨P1, 0, none⟩ = some (.int .i64 pa) := hS.1.cell 0; have q1 : w9.cell? ⟨P1, 1, none⟩ = some (.int .i64 pb) := hS.1.cell 1; have q2 : w9.cell? ⟨P1, 2, none⟩ = some (.int .i64 pc) := hS.1.cell 2; have q3 : w9.cell? ⟨P1, 3, none⟩ = some (.int .i64 pd) := hS.1.cell 3; have q4 : w9.cell? ⟨g + 1, s2, none⟩ = some (.int .u64 (wrd x)) := (hS.2.cell _).trans HM2.out; have q5 : w9.cell? ⟨g + 1, s3, none⟩ = some (.int .u64 (wrd y)) := (hS.2.cell _).trans HM3.out; go_simp); (clear hK hK2 K K2)
        refine ords_two rfl rfl (fun n2 => ?_) (fun n2 => ?_)
        · go_wp2_with (first | (refine wpList_load_row rfl 121 _ rfl g rfl 121 (wcs (turnTo64 M S k V)) (0, 0) _ (N0.out.drewN _) hu.out rfl hsV.out ?_) | (refine wpList_load_row rfl 121 _ rfl g rfl 121 (wcs (turnTo64 M S k V)) (0, 0) _ ((N0.out.drewN _).drewN _) hu.out rfl hsV.out ?_) | (refine wpList_load_row rfl 121 _ rfl g rfl 121 (wcs (turnTo64 M S k V)) (0, 0) _ (((N0.out.drewN _).drewN _).drewN _) hu.out rfl hsV.out ?_))
          refine ⟨⟨by first | exact HT.out.drewN _ | exact (HT.out.drewN _).drewN _ | exact ((HT.out.drewN _).drewN _).drewN _, by first | exact N1.out.drewN _ | exact (N1.out.drewN _).drewN _ | exact ((N1.out.drewN _).drewN _).drewN _⟩, ?_⟩
          refine ords_loud rfl (fun n3 => ?_)
          go_wp2_with (go_at_call 234; refine (HS3.out _).mono ?_; rintro e w9 ⟨rfl, rfl⟩)
          refine ⟨⟨HT.out.drewN _, N1.out.drewN _⟩, ?_⟩
          refine ords_pure rfl (fun K hK => ?_); go_simp; refine hK _ ?_; clear hK K
          refine ords_heldK rfl (fun K K2 hK hK2 => ?_); go_simp; refine ⟨hK2 _ (fun w9 hS => ?_), hK _ ?_⟩; (clear hK hK2 K K2; have q0 : w9.cell? ⟨P1, 0, none⟩ = some (.int .i64 pa) := hS.1.cell 0; have q1 : w9.cell? ⟨P1, 1, none⟩ = some (.int .i64 pb) := hS.1.cell 1; have q2 : w9.cell? ⟨P1, 2, none⟩ = some (.int .i64 pc) := hS.1.cell 2; have q3 : w9.cell? ⟨P1, 3, none⟩ = some (.int .i64 pd) := hS.1.cell 3; have q4 : w9.cell? ⟨g + 1, s2, none⟩ = some (.int .u64 (wrd x)) := (hS.2.cell _).trans HM2.out; have q5 : w9.cell? ⟨g + 1, s3, none⟩ = some (.int .u64 (wrd y)) := (hS.2.cell _).trans HM3.out; go_simp); (clear hK hK2 K K2)
          refine ords_loud rfl (fun n4 => ?_)
          go_wp2_with (go_at_call 233; refine (HG.out _).mono ?_; rintro e w8 ⟨rfl, hb8⟩)
          have y0 := (N0.out.drewN _).below hb8 (N0.out.drewN _).lt; have y1 := (N1.out.drewN _).below hb8 (N1.out.drewN _).lt; have y2 := (N2.out.drewN _).below hb8 (N2.out.drewN _).lt; have yt := (HT.out.drewN _).below hb8 (HT.out.drewN _).lt; have y4 := bcall (bdr N4.out _) hb8
          refine ⟨⟨yt, y1⟩, ?_⟩
          refine ords_pure rfl (fun K hK => ?_); go_simp; refine hK _ ?_; clear hK K
          refine ords_pure rfl (fun K hK => ?_); go_simp; refine hK _ ?_; clear hK K
          refine ords_pure rfl (fun K hK => ?_); go_simp; refine hK _ ?_; clear hK K
          refine ords_loud rfl (fun n5 => ?_)
          go_wp2_with (refine wpList_store_row rfl 121 _ _ rfl g (wcs (turnTo64 M S (k + 1) V)) rfl rfl 121 _ (y0.drewN _) hsW.out hold.out hall.out ?_)
          refine ⟨⟨(yt.drewN _).rowFar (by omega) _, (y1.drewN _).rowFar (by omega) _⟩, ?_⟩
          refine ords_end (fun n6 => ?_)
          go_wp2_with fail
          go_roundw
          case rel => exact ⟨k + 1, by omega, by go_num, ((y0.drewN _).row _).drewN _, ((y1.drewN _).rowFar (by omega) _).drewN _, ((y2.drewN _).rowFar (by omega) _).drewN _, bdr (brow (bdr y4 _) hwg.out _) _⟩
          case measure => simp [intOf]; omega
        · go_wp2_with (go_at_call 234; refine (HS3.out _).mono ?_; rintro e w9 ⟨rfl, rfl⟩)
          refine ⟨⟨HT.out.drewN _, N1.out.drewN _⟩, ?_⟩
          refine ords_pure rfl (fun K hK => ?_); go_simp; refine hK _ ?_; clear hK K
          refine ords_heldK rfl (fun K K2 hK hK2 => ?_); go_simp; refine ⟨hK2 _ (fun w9 hS => ?_), hK _ ?_⟩; (clear hK hK2 K K2; have q0 : w9.cell? ⟨P1, 0, none⟩ = some (.int .i64 pa) := hS.1.cell 0; have q1 : w9.cell? ⟨P1, 1, none⟩ = some (.int .i64 pb) := hS.1.cell 1; have q2 : w9.cell? ⟨P1, 2, none⟩ = some (.int .i64 pc) := hS.1.cell 2; have q3 : w9.cell? ⟨P1, 3, none⟩ = some (.int .i64 pd) := hS.1.cell 3; have q4 : w9.cell? ⟨g + 1, s2, none⟩ = some (.int .u64 (wrd x)) := (hS.2.cell _).trans HM2.out; have q5 : w9.cell? ⟨g + 1, s3, none⟩ = some (.int .u64 (wrd y)) := (hS.2.cell _).trans HM3.out; go_simp); (clear hK hK2 K K2)
          refine ords_loud rfl (fun n3 => ?_)
          go_wp2_with (first | (refine wpList_load_row rfl 121 _ rfl g rfl 121 (wcs (turnTo64 M S k V)) (0, 0) _ (N0.out.drewN _) hu.out rfl hsV.out ?_) | (refine wpList_load_row rfl 121 _ rfl g rfl 121 (wcs (turnTo64 M S k V)) (0, 0) _ ((N0.out.drewN _).drewN _) hu.out rfl hsV.out ?_) | (refine wpList_load_row rfl 121 _ rfl g rfl 121 (wcs (turnTo64 M S k V)) (0, 0) _ (((N0.out.drewN _).drewN _).drewN _) hu.out rfl hsV.out ?_))
          refine ⟨⟨by first | exact HT.out.drewN _ | exact (HT.out.drewN _).drewN _ | exact ((HT.out.drewN _).drewN _).drewN _, by first | exact N1.out.drewN _ | exact (N1.out.drewN _).drewN _ | exact ((N1.out.drewN _).drewN _).drewN _⟩, ?_⟩
          refine ords_loud rfl (fun n4 => ?_)
          go_wp2_with (go_at_call 233; refine (HG.out _).mono ?_; rintro e w8 ⟨rfl, hb8⟩)
          have y0 := (N0.out.drewN _).below hb8 (N0.out.drewN _).lt; have y1 := (N1.out.drewN _).below hb8 (N1.out.drewN _).lt; have y2 := (N2.out.drewN _).below hb8 (N2.out.drewN _).lt; have yt := (HT.out.drewN _).below hb8 (HT.out.drewN _).lt; have y4 := bcall (bdr N4.out _) hb8
          refine ⟨⟨yt, y1⟩, ?_⟩
          refine ords_pure rfl (fun K hK => ?_); go_simp; refine hK _ ?_; clear hK K
          refine ords_pure rfl (fun K hK => ?_); go_simp; refine hK _ ?_; clear hK K
          refine ords_pure rfl (fun K hK => ?_); go_simp; refine hK _ ?_; clear hK K
          refine ords_loud rfl (fun n5 => ?_)
          go_wp2_with (refine wpList_store_row rfl 121 _ _ rfl g (wcs (turnTo64 M S (k + 1) V)) rfl rfl 121 _ (y0.drewN _) hsW.out hold.out hall.out ?_)
          refine ⟨⟨(yt.drewN _).rowFar (by omega) _, (y1.drewN _).rowFar (by omega) _⟩, ?_⟩
          refine ords_end (fun n6 => ?_)
          go_wp2_with fail
          go_roundw
          case rel => exact ⟨k + 1, by omega, by go_num, ((y0.drewN _).row _).drewN _, ((y1.drewN _).rowFar (by omega) _).drewN _, ((y2.drewN _).rowFar (by omega) _).drewN _, bdr (brow (bdr y4 _) hwg.out _) _⟩
          case measure => simp [intOf]; omega
    · obtain rfl : k = 8 := by omega
      clear hlt hk
      have hTl : (turnTo64 M S 8 V).length = 16 := by rw [turnTo64_len, HV.out]
      have hsV := Lib.hid (sz16w _ hTl)
      have hold : Hid (z16.size = (wcs (turnTo64 M S 8 V)).size) := by show _ = _; rw [wcs_size, hTl]; rfl
      have hall := Lib.hid (wcs_all (turnTo64 M S 8 V))
      clear hTl
      go_upto_region 8 with fail
      go_wp2_with (first
        | (refine wpList_load_row rfl 121 _ rfl g rfl 121 (wcs (turnTo64 M S 8 V)) (0, 0) _ N0.out hu.out rfl hsV.out ?_)
        | (refine wpList_store_row rfl 121 _ _ rfl (g + 1 + 1) (wcs (turnTo64 M S 8 V)) rfl rfl 121 _ N2.out hsV.out hold.out hall.out ?_))
      exact bodyPost_ret (results_cell_tmp rfl _ _ (g + 1 + 1) _ _ _ rfl (N2.out.row _) hu.out rfl hsV.out) rfl ⟨rfl, brow N4.out (by have := hwg.out; omega) _⟩
end Go.Proofs.YtgephdbicbmpeaaGreat

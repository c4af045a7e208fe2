/-
  The reference's Perm. Contracts alone; no statement is claimed here.
-/
import Derived.Test.YtnkngaicegcejaaPlaces
namespace Go.Proofs.Ytnkngaicegcejaa
open Go.RowKit
attribute [local go_sem] pureUpon Ords.of

/-- the first m words of four are put in -/
def P4.putN (p : P4) (l : List UInt64) (q : Q4) : Nat → List UInt64
  | 0 => l
  | 1 => l.set p.a q.a
  | 2 => (l.set p.a q.a).set p.b q.b
  | 3 => ((l.set p.a q.a).set p.b q.b).set p.c q.c
  | _ => (((l.set p.a q.a).set p.b q.b).set p.c q.c).set p.d q.d
theorem putN_len (p : P4) (l : List UInt64) (q : Q4) (m : Nat) : (p.putN l q m).length = l.length := by
  match m with
  | 0 | 1 | 2 | 3 | n + 4 => simp [P4.putN]
def rowP (p : P4) : Array Value := #[.int .i64 p.a, .int .i64 p.b, .int .i64 p.c, .int .i64 p.d]
def rowQ (q : Q4) : Array Value := #[.int .u64 (wrd q.a), .int .u64 (wrd q.b), .int .u64 (wrd q.c), .int .u64 (wrd q.d)]

set_option maxRecDepth 10000 in
set_option maxHeartbeats 8000000 in
theorem refPerm_any (l : List UInt64) (hl : l.length = 16) (w : World) :
    Calls Try.prog 23 #[.agg (wcs l)] w fun e w' => e = .returned (.agg (wcs (perm l))) ∧ Below w.heap.size w w' := by
  have HL := Lib.hid hl; clear hl
  go_enter Try.func23, Try.ntmps23
  go_wp2_with fail
  obtain ⟨H, hH⟩ : ∃ H, H = w.heap.size := ⟨_, rfl⟩
  rw [← hH]
  have HH := Lib.hid hH; clear hH
  go_loopw [3] (fun i wr => ∃ k : Nat, k ≤ 8 ∧ i = .int .i64 k ∧ Blk wr H 35 (wcs (permTo k l)) ∧ (∃ cs, cs.size = 16 ∧ Blk wr (H + 1) 35 cs) ∧ Below H w wr) (fun i _ => 8 - (intOf i).toNat)
  case atStart =>
    refine ⟨0, by omega, rfl, ?_, ⟨#[.int .u64 0, .int .u64 0, .int .u64 0, .int .u64 0, .int .u64 0, .int .u64 0, .int .u64 0, .int .u64 0, .int .u64 0, .int .u64 0, .int .u64 0, .int .u64 0, .int .u64 0, .int .u64 0, .int .u64 0, .int .u64 0], rfl, ?_⟩, ?_⟩
    · rw [HH.out]; exact (Blk.new _ _ _).alloc _
    · rw [HH.out]
      have := Blk.new (w.alloc (.cells (wcs l) 35)) 35 #[.int .u64 0, .int .u64 0, .int .u64 0, .int .u64 0, .int .u64 0, .int .u64 0, .int .u64 0, .int .u64 0, .int .u64 0, .int .u64 0, .int .u64 0, .int .u64 0, .int .u64 0, .int .u64 0, .int .u64 0, .int .u64 0]
      simpa using this
    · rw [HH.out]; exact ((Below.refl _ _).alloc (Nat.le_refl _) _).alloc (by simp) _
  case round =>
    obtain ⟨k, hk, rfl, hb, ⟨cs2, hcs2, hb2⟩, hbw⟩ := hrel
    have HB := Lib.hid hb; have HB2 := Lib.hid hb2; have HC2 := Lib.hid hcs2; clear hb hb2 hcs2
    by_cases hlt : k < 8
    · have hP := places_any k hlt
      obtain ⟨ha, hb, hc, hd, h1, h2, h3, h4, h5, h6⟩ := place_ok k hlt
      have HLk : Hid ((permTo k l).length = 16) := by show _ = _; rw [permTo_len, HL.out]
      obtain ⟨pl, hpl⟩ : ∃ p, p = place k := ⟨_, rfl⟩
      rw [← hpl] at hP ha hb hc hd h1 h2 h3 h4 h5 h6
      obtain ⟨pa, pb, pc, pd⟩ := pl
      unfold row4 at hP
      dsimp only at hP ha hb hc hd h1 h2 h3 h4 h5 h6
      have HP := Lib.hid hP; clear hP
      obtain ⟨L, hL⟩ : ∃ L, L = permTo k l := ⟨_, rfl⟩
      rw [← hL] at HB HLk
      have HPL := Lib.hid hpl; have HLL := Lib.hid hL; clear hpl hL
      obtain ⟨q, hq⟩ : ∃ q, q = P4.at ⟨pa, pb, pc, pd⟩ L := ⟨_, rfl⟩
      have ga : (wcs L)[pa]? = some (.int .u64 (wrd q.a)) := by rw [wcs_get _ _ (by rw [HLk.out]; exact ha), hq]; rfl
      have gb : (wcs L)[pb]? = some (.int .u64 (wrd q.b)) := by rw [wcs_get _ _ (by rw [HLk.out]; exact hb), hq]; rfl
      have gc : (wcs L)[pc]? = some (.int .u64 (wrd q.c)) := by rw [wcs_get _ _ (by rw [HLk.out]; exact hc), hq]; rfl
      have gd : (wcs L)[pd]? = some (.int .u64 (wrd q.d)) := by rw [wcs_get _ _ (by rw [HLk.out]; exact hd), hq]; rfl
      have GA := Lib.hid ga; have GB := Lib.hid gb; have GC := Lib.hid gc; have GD := Lib.hid gd; clear ga gb gc gd
      have HQ := Lib.hid hq; clear hq
      have i1 : (0 : Int) ≤ pa ∧ (pa : Int) < 16 := by omega
      have i2 : (0 : Int) ≤ pb ∧ (pb : Int) < 16 := by omega
      have i3 : (0 : Int) ≤ pc ∧ (pc : Int) < 16 := by omega
      have i4 : (0 : Int) ≤ pd ∧ (pd : Int) < 16 := by omega
      obtain ⟨i1, i1'⟩ := i1
      obtain ⟨i2, i2'⟩ := i2
      obtain ⟨i3, i3'⟩ := i3
      obtain ⟨i4, i4'⟩ := i4
      go_upto_region 5 with (go_at_call 52; refine (HP.out _).mono ?_; rintro e w1 ⟨rfl, hb1⟩)
      have hb1 := hb1
      obtain ⟨P1, hP1⟩ : ∃ P1, P1 = w1.heap.size := ⟨_, rfl⟩
      have T0 : Blk (w1.alloc (.cells #[.int .i64 pa, .int .i64 pb, .int .i64 pc, .int .i64 pd] 81)) P1 81 #[.int .i64 pa, .int .i64 pb, .int .i64 pc, .int .i64 pd] := by rw [hP1]; exact Blk.new _ _ _
      have HX : Blk (w1.alloc (.cells #[.int .i64 pa, .int .i64 pb, .int .i64 pc, .int .i64 pd] 81)) H 35 (wcs L) := (HB.out.below hb1 HB.out.lt).alloc _
      have HX2 : Blk (w1.alloc (.cells #[.int .i64 pa, .int .i64 pb, .int .i64 pc, .int .i64 pd] 81)) (H + 1) 35 cs2 := (HB2.out.below hb1 HB2.out.lt).alloc _
      have hHs : H + 1 < wr.heap.size := HB2.out.lt
      have hbw1 : Below H w (w1.alloc (.cells #[.int .i64 pa, .int .i64 pb, .int .i64 pc, .int .i64 pd] 81)) := (hbw.trans (hb1.mono (by omega))).alloc (by have := hb1.size; omega) _
      rw [← hP1]
      have HP1 : Hid (H + 1 < P1) := by show _ < _; have := hb1.size; omega
      clear hP1 hb1
      generalize w1.alloc (.cells #[.int .i64 pa, .int .i64 pb, .int .i64 pc, .int .i64 pd] 81) = w2 at *
      have hszq : (Try.prog.info? 38).map (·.size) = some (#[Value.int .u64 (wrd (blend q).a), .int .u64 (wrd (blend q).b), .int .u64 (wrd (blend q).c), .int .u64 (wrd (blend q).d)]).size := by kernel_rfl
      have hallq : (#[Value.int .u64 (wrd (blend q).a), .int .u64 (wrd (blend q).b), .int .u64 (wrd (blend q).c), .int .u64 (wrd (blend q).d)]).all (·.oneCell') = true := by simp [Value.oneCell']
      have holdq : (#[Value.int .u64 0, .int .u64 0, .int .u64 0, .int .u64 0]).size = (#[Value.int .u64 (wrd (blend q).a), .int .u64 (wrd (blend q).b), .int .u64 (wrd (blend q).c), .int .u64 (wrd (blend q).d)]).size := by simp
      go_cut [5] from 7 to 40 (fun qp wx => ∃ P2 : Nat, qp = .pointer (some ⟨P2, 0, none⟩) ∧ Blk wx P2 38 #[.int .u64 (wrd (blend q).a), .int .u64 (wrd (blend q).b), .int .u64 (wrd (blend q).c), .int .u64 (wrd (blend q).d)] ∧ Blk wx P1 81 #[.int .i64 pa, .int .i64 pb, .int .i64 pc, .int .i64 pd] ∧ Blk wx H 35 (wcs L) ∧ Blk wx (H + 1) 35 cs2 ∧ Below H w wx)
      case first =>
        refine wp_region_ords (fun w' => Blk w' P1 81 #[.int .i64 pa, .int .i64 pb, .int .i64 pc, .int .i64 pd] ∧ Blk w' H 35 (wcs L) ∧ Blk w' (H + 1) 35 cs2) (fun _ n h => ⟨h.1.drewN n, h.2.1.drewN n, h.2.2.drewN n⟩)
          (Ords.of [(0, 0), (0, 1), (0, 2), (0, 3), (0, 4), (0, 5), (0, 6), (0, 7), (0, 8), (0, 9), (0, 10), (0, 11), (0, 12), (0, 13), (0, 14), (0, 15)] (.two 16 17 (.one 2 17 (.one 2 18 .fin)) (.one 2 16 (.one 2 18 .fin)))) (by kernel_rfl) rfl (by kernel_rfl) (by kernel_rfl) (fun c a d v w h => by cases d <;> exact h) ⟨T0, HX, HX2⟩ ?_
        refine ords_pure rfl (fun K hK => ?_); go_simp; refine hK _ ?_; clear hK K
        refine ords_held (v := .int .i64 pa) rfl rfl (fun w' hS => ?_) ?_; have s0 : w'.cell? ⟨P1, 0, none⟩ = some (.int .i64 pa) := hS.1.cell 0; go_simp; go_simp
        refine ords_pure rfl (fun K hK => ?_); go_simp; refine hK _ ?_; clear hK K
        refine ords_held (v := .int .u64 (wrd q.a)) rfl rfl (fun w' hS => ?_) ?_; have s0 : w'.cell? ⟨H, pa, none⟩ = some (.int .u64 (wrd q.a)) := (hS.2.1.cell _).trans GA.out; go_simp; go_simp
        refine ords_pure rfl (fun K hK => ?_); go_simp; refine hK _ ?_; clear hK K
        refine ords_held (v := .int .i64 pb) rfl rfl (fun w' hS => ?_) ?_; have s0 : w'.cell? ⟨P1, 1, none⟩ = some (.int .i64 pb) := hS.1.cell 1; go_simp; go_simp
        refine ords_pure rfl (fun K hK => ?_); go_simp; refine hK _ ?_; clear hK K
        refine ords_held (v := .int .u64 (wrd q.b)) rfl rfl (fun w' hS => ?_) ?_; have s0 : w'.cell? ⟨H, pb, none⟩ = some (.int .u64 (wrd q.b)) := (hS.2.1.cell _).trans GB.out; go_simp; go_simp
        refine ords_pure rfl (fun K hK => ?_); go_simp; refine hK _ ?_; clear hK K
        refine ords_held (v := .int .i64 pc) rfl rfl (fun w' hS => ?_) ?_; have s0 : w'.cell? ⟨P1, 2, none⟩ = some (.int .i64 pc) := hS.1.cell 2; go_simp; go_simp
        refine ords_pure rfl (fun K hK => ?_); go_simp; refine hK _ ?_; clear hK K
        refine ords_held (v := .int .u64 (wrd q.c)) rfl rfl (fun w' hS => ?_) ?_; have s0 : w'.cell? ⟨H, pc, none⟩ = some (.int .u64 (wrd q.c)) := (hS.2.1.cell _).trans GC.out; go_simp; go_simp
        refine ords_pure rfl (fun K hK => ?_); go_simp; refine hK _ ?_; clear hK K
        refine ords_held (v := .int .i64 pd) rfl rfl (fun w' hS => ?_) ?_; have s0 : w'.cell? ⟨P1, 3, none⟩ = some (.int .i64 pd) := hS.1.cell 3; go_simp; go_simp
        refine ords_pure rfl (fun K hK => ?_); go_simp; refine hK _ ?_; clear hK K
        refine ords_held (v := .int .u64 (wrd q.d)) rfl rfl (fun w' hS => ?_) ?_; have s0 : w'.cell? ⟨H, pd, none⟩ = some (.int .u64 (wrd q.d)) := (hS.2.1.cell _).trans GD.out; go_simp; go_simp
        refine ords_two rfl rfl (fun n1 => ?_) (fun n1 => ?_)
        · go_wp2_with (go_at_call 21; refine (refBlend_any q _).mono ?_; rintro e w3 ⟨rfl, hb3⟩)
          have U0 := (T0.drewN n1).below hb3 T0.lt
          have U1 := (HX.drewN n1).below hb3 HX.lt
          have U2 := (HX2.drewN n1).below hb3 HX2.lt
          have hbw3 : Below H w w3 := (below_drewN hbw1 n1).trans (hb3.mono (Nat.le_of_lt HX.lt))
          refine ⟨⟨U0, U1, U2⟩, ?_⟩
          refine ords_loud rfl (fun n2 => ?_)
          go_wp2
          have V0 := ((U0.drewN n2).alloc (.cells #[.int .u64 0, .int .u64 0, .int .u64 0, .int .u64 0] 38))
          have V1 := ((U1.drewN n2).alloc (.cells #[.int .u64 0, .int .u64 0, .int .u64 0, .int .u64 0] 38))
          have V2 := ((U2.drewN n2).alloc (.cells #[.int .u64 0, .int .u64 0, .int .u64 0, .int .u64 0] 38))
          have VN := Blk.new (w3.drewN n2) 38 #[.int .u64 0, .int .u64 0, .int .u64 0, .int .u64 0]
          have hbw4 := (below_drewN hbw3 n2).alloc (Nat.le_of_lt U1.lt) (.cells #[.int .u64 0, .int .u64 0, .int .u64 0, .int .u64 0] 38)
          refine ⟨⟨V0, V1, V2⟩, ?_⟩
          refine ords_loud rfl (fun n3 => ?_)
          have VN := Lib.hid (VN.drewN n3)
          go_wp2_with (refine wpList_store_row rfl 38 _ _ rfl _ #[.int .u64 (wrd (blend q).a), .int .u64 (wrd (blend q).b), .int .u64 (wrd (blend q).c), .int .u64 (wrd (blend q).d)] rfl rfl 38 _ VN.out hszq holdq hallq ?_)
          have e0 := Blk.ne_ (V0.drewN n3) VN.out (by decide)
          have e1 := Blk.ne_ (V1.drewN n3) VN.out (by decide)
          have e2 := Blk.ne_ (V2.drewN n3) VN.out (by decide)
          have W0 := (V0.drewN n3).rowFar e0 #[.int .u64 (wrd (blend q).a), .int .u64 (wrd (blend q).b), .int .u64 (wrd (blend q).c), .int .u64 (wrd (blend q).d)]
          have W1 := (V1.drewN n3).rowFar e1 #[.int .u64 (wrd (blend q).a), .int .u64 (wrd (blend q).b), .int .u64 (wrd (blend q).c), .int .u64 (wrd (blend q).d)]
          have W2 := (V2.drewN n3).rowFar e2 #[.int .u64 (wrd (blend q).a), .int .u64 (wrd (blend q).b), .int .u64 (wrd (blend q).c), .int .u64 (wrd (blend q).d)]
          refine ⟨⟨W0, W1, W2⟩, ?_⟩
          refine ords_end (fun n4 => ?_)
          go_wp2_with fail
          go_meet
          exact ⟨_, rfl, (VN.out.row _).drewN n4, W0.drewN n4, W1.drewN n4, W2.drewN n4, below_drewN (below_row (below_drewN hbw4 n3) (Nat.le_of_lt U1.lt) _) n4⟩
        · go_wp2
          have V0 := ((T0.drewN n1).alloc (.cells #[.int .u64 0, .int .u64 0, .int .u64 0, .int .u64 0] 38))
          have V1 := ((HX.drewN n1).alloc (.cells #[.int .u64 0, .int .u64 0, .int .u64 0, .int .u64 0] 38))
          have V2 := ((HX2.drewN n1).alloc (.cells #[.int .u64 0, .int .u64 0, .int .u64 0, .int .u64 0] 38))
          have VN := Blk.new (w2.drewN n1) 38 #[.int .u64 0, .int .u64 0, .int .u64 0, .int .u64 0]
          have hbw3 := (below_drewN hbw1 n1).alloc (Nat.le_of_lt HX.lt) (.cells #[.int .u64 0, .int .u64 0, .int .u64 0, .int .u64 0] 38)
          refine ⟨⟨V0, V1, V2⟩, ?_⟩
          refine ords_loud rfl (fun n2 => ?_)
          go_wp2_with (go_at_call 21; refine (refBlend_any q _).mono ?_; rintro e w3 ⟨rfl, hb3⟩)
          have U0 := (V0.drewN n2).below hb3 V0.lt
          have U1 := (V1.drewN n2).below hb3 V1.lt
          have U2 := (V2.drewN n2).below hb3 V2.lt
          have VN := (VN.drewN n2).below hb3 VN.lt
          have hbw4 : Below H w w3 := (below_drewN hbw3 n2).trans (hb3.mono (Nat.le_of_lt V1.lt))
          refine ⟨⟨U0, U1, U2⟩, ?_⟩
          refine ords_loud rfl (fun n3 => ?_)
          have VN := Lib.hid (VN.drewN n3)
          go_wp2_with (refine wpList_store_row rfl 38 _ _ rfl _ #[.int .u64 (wrd (blend q).a), .int .u64 (wrd (blend q).b), .int .u64 (wrd (blend q).c), .int .u64 (wrd (blend q).d)] rfl rfl 38 _ VN.out hszq holdq hallq ?_)
          have e0 := Blk.ne_ (U0.drewN n3) VN.out (by decide)
          have e1 := Blk.ne_ (U1.drewN n3) VN.out (by decide)
          have e2 := Blk.ne_ (U2.drewN n3) VN.out (by decide)
          have W0 := (U0.drewN n3).rowFar e0 #[.int .u64 (wrd (blend q).a), .int .u64 (wrd (blend q).b), .int .u64 (wrd (blend q).c), .int .u64 (wrd (blend q).d)]
          have W1 := (U1.drewN n3).rowFar e1 #[.int .u64 (wrd (blend q).a), .int .u64 (wrd (blend q).b), .int .u64 (wrd (blend q).c), .int .u64 (wrd (blend q).d)]
          have W2 := (U2.drewN n3).rowFar e2 #[.int .u64 (wrd (blend q).a), .int .u64 (wrd (blend q).b), .int .u64 (wrd (blend q).c), .int .u64 (wrd (blend q).d)]
          refine ⟨⟨W0, W1, W2⟩, ?_⟩
          refine ords_end (fun n4 => ?_)
          go_wp2_with fail
          go_meet
          exact ⟨_, rfl, (VN.out.row _).drewN n4, W0.drewN n4, W1.drewN n4, W2.drewN n4, below_drewN (below_row (below_drewN hbw4 n3) (Nat.le_of_lt HX.lt) _) n4⟩
      obtain ⟨P2, rfl, Y2, Y0, Y1, Y3, hbw2⟩ := hcut
      have Y2 := Lib.hid Y2; have Y0 := Lib.hid Y0; have Y1 := Lib.hid Y1; have Y3 := Lib.hid Y3
      clear T0 HX HX2 hbw1 hszq hallq holdq
      go_wp2_with fail
      go_loopw [6] (fun j w4 => ∃ m : Nat, m ≤ 4 ∧ j = .int .i64 m ∧ Blk w4 P2 38 #[.int .u64 (wrd (blend q).a), .int .u64 (wrd (blend q).b), .int .u64 (wrd (blend q).c), .int .u64 (wrd (blend q).d)] ∧ Blk w4 P1 81 #[.int .i64 pa, .int .i64 pb, .int .i64 pc, .int .i64 pd] ∧ Blk w4 H 35 (wcs ((P4.mk pa pb pc pd).putN L (blend q) m)) ∧ Blk w4 (H + 1) 35 cs2 ∧ Below H w w4) (fun j _ => 4 - (intOf j).toNat)
      case atStart => exact ⟨0, by omega, rfl, Y2.out, Y0.out, Y1.out, Y3.out, hbw2⟩
      case round =>
        obtain ⟨m, hm, rfl, Z2, Z0, Z1, Z3, hB⟩ := hrel
        have hB1 := hB
        by_cases hm4 : m < 4
        · have hmm : m = 0 ∨ m = 1 ∨ m = 2 ∨ m = 3 := by omega
          rcases hmm with rfl | rfl | rfl | rfl
          · have s0 : wr.cell? ⟨P1, 0, none⟩ = some (.int .i64 pa) := (Z0.cell 0).trans rfl
            have s1 : wr.cell? ⟨P2, 0, none⟩ = some (.int .u64 (wrd (blend q).a)) := (Z2.cell 0).trans rfl
            have s2 : wr.frozen? ⟨H, pa, none⟩ = false := Z1.frozen _
            obtain ⟨v0, s3⟩ : ∃ v : UInt64, wr.cell? ⟨H, pa, none⟩ = some (.int .u64 (wrd v)) := ⟨_, (Z1.cell _).trans (wcs_get _ _ (by rw [putN_len, HLk.out]; exact ha))⟩
            have Z0 := Lib.hid Z0; have Z1 := Lib.hid Z1; have Z2 := Lib.hid Z2; have Z3 := Lib.hid Z3
            clear hB
            go_wp2_with fail
            refine wp_region_ord (fun _ => True) (fun _ _ h => h) [(0, 0), (0, 1), (1, 2), (0, 3), (0, 4), (1, 5), (0, 6), (2, 7)] (by kernel_rfl) rfl (by kernel_rfl) (by kernel_rfl) (fun c a d v w h => by cases d <;> exact h) trivial ?_
            refine ord_pure rfl (fun K hK => ?_); go_simp; refine hK _ ?_; clear hK K
            refine ord_pure rfl (fun K hK => ?_); go_simp; refine hK _ ?_; clear hK K
            refine ord_read rfl (fun K hK => ?_); go_simp; refine hK _ ?_; clear hK K
            refine ord_pure rfl (fun K hK => ?_); go_simp; refine hK _ ?_; clear hK K
            refine ord_pure rfl (fun K hK => ?_); go_simp; refine hK _ ?_; clear hK K
            refine ord_read rfl (fun K hK => ?_); go_simp; refine hK _ ?_; clear hK K
            refine ord_pure rfl (fun K hK => ?_); go_simp; refine hK _ ?_; clear hK K
            refine ord_loud rfl (fun n1 => ?_)
            go_wp2
            refine ⟨trivial, ?_⟩
            refine ord_end (fun n2 => ?_)
            go_wp2
            case roundEnd =>
              have B1 := ((Z1.out.drewN n1).set_ pa (wv (blend q).a)).drewN n2
              rw [wcs_set] at B1
              refine ⟨⟨1, by omega, rfl, ?_, ?_, B1, ?_, ?_⟩, by simp [intOf]⟩
              · exact ((Z2.out.drewN n1).far (Blk.ne_ Z2.out Z1.out (by decide)) _).drewN n2
              · exact ((Z0.out.drewN n1).far (Blk.ne_ Z0.out Z1.out (by decide)) _).drewN n2
              · exact ((Z3.out.drewN n1).far (by simp) _).drewN n2
              · exact below_drewN (below_put (below_drewN hB1 n1) (Nat.le_refl _)) n2
          · have s0 : wr.cell? ⟨P1, 1, none⟩ = some (.int .i64 pb) := (Z0.cell 1).trans rfl
            have s1 : wr.cell? ⟨P2, 1, none⟩ = some (.int .u64 (wrd (blend q).b)) := (Z2.cell 1).trans rfl
            have s2 : wr.frozen? ⟨H, pb, none⟩ = false := Z1.frozen _
            obtain ⟨v0, s3⟩ : ∃ v : UInt64, wr.cell? ⟨H, pb, none⟩ = some (.int .u64 (wrd v)) := ⟨_, (Z1.cell _).trans (wcs_get _ _ (by rw [putN_len, HLk.out]; exact hb))⟩
            have Z0 := Lib.hid Z0; have Z1 := Lib.hid Z1; have Z2 := Lib.hid Z2; have Z3 := Lib.hid Z3
            clear hB
            go_wp2_with fail
            refine wp_region_ord (fun _ => True) (fun _ _ h => h) [(0, 0), (0, 1), (1, 2), (0, 3), (0, 4), (1, 5), (0, 6), (2, 7)] (by kernel_rfl) rfl (by kernel_rfl) (by kernel_rfl) (fun c a d v w h => by cases d <;> exact h) trivial ?_
            refine ord_pure rfl (fun K hK => ?_); go_simp; refine hK _ ?_; clear hK K
            refine ord_pure rfl (fun K hK => ?_); go_simp; refine hK _ ?_; clear hK K
            refine ord_read rfl (fun K hK => ?_); go_simp; refine hK _ ?_; clear hK K
            refine ord_pure rfl (fun K hK => ?_); go_simp; refine hK _ ?_; clear hK K
            refine ord_pure rfl (fun K hK => ?_); go_simp; refine hK _ ?_; clear hK K
            refine ord_read rfl (fun K hK => ?_); go_simp; refine hK _ ?_; clear hK K
            refine ord_pure rfl (fun K hK => ?_); go_simp; refine hK _ ?_; clear hK K
            refine ord_loud rfl (fun n1 => ?_)
            go_wp2
            refine ⟨trivial, ?_⟩
            refine ord_end (fun n2 => ?_)
            go_wp2
            case roundEnd =>
              have B1 := ((Z1.out.drewN n1).set_ pb (wv (blend q).b)).drewN n2
              rw [wcs_set] at B1
              refine ⟨⟨2, by omega, rfl, ?_, ?_, B1, ?_, ?_⟩, by simp [intOf]⟩
              · exact ((Z2.out.drewN n1).far (Blk.ne_ Z2.out Z1.out (by decide)) _).drewN n2
              · exact ((Z0.out.drewN n1).far (Blk.ne_ Z0.out Z1.out (by decide)) _).drewN n2
              · exact ((Z3.out.drewN n1).far (by simp) _).drewN n2
              · exact below_drewN (below_put (below_drewN hB1 n1) (Nat.le_refl _)) n2
          · have s0 : wr.cell? ⟨P1, 2, none⟩ = some (.int .i64 pc) := (Z0.cell 2).trans rfl
            have s1 : wr.cell? ⟨P2, 2, none⟩ = some (.int .u64 (wrd (blend q).c)) := (Z2.cell 2).trans rfl
            have s2 : wr.frozen? ⟨H, pc, none⟩ = false := Z1.frozen _
            obtain ⟨v0, s3⟩ : ∃ v : UInt64, wr.cell? ⟨H, pc, none⟩ = some (.int .u64 (wrd v)) := ⟨_, (Z1.cell _).trans (wcs_get _ _ (by rw [putN_len, HLk.out]; exact hc))⟩
            have Z0 := Lib.hid Z0; have Z1 := Lib.hid Z1; have Z2 := Lib.hid Z2; have Z3 := Lib.hid Z3
            clear hB
            go_wp2_with fail
            refine wp_region_ord (fun _ => True) (fun _ _ h => h) [(0, 0), (0, 1), (1, 2), (0, 3), (0, 4), (1, 5), (0, 6), (2, 7)] (by kernel_rfl) rfl (by kernel_rfl) (by kernel_rfl) (fun c a d v w h => by cases d <;> exact h) trivial ?_
            refine ord_pure rfl (fun K hK => ?_); go_simp; refine hK _ ?_; clear hK K
            refine ord_pure rfl (fun K hK => ?_); go_simp; refine hK _ ?_; clear hK K
            refine ord_read rfl (fun K hK => ?_); go_simp; refine hK _ ?_; clear hK K
            refine ord_pure rfl (fun K hK => ?_); go_simp; refine hK _ ?_; clear hK K
            refine ord_pure rfl (fun K hK => ?_); go_simp; refine hK _ ?_; clear hK K
            refine ord_read rfl (fun K hK => ?_); go_simp; refine hK _ ?_; clear hK K
            refine ord_pure rfl (fun K hK => ?_); go_simp; refine hK _ ?_; clear hK K
            refine ord_loud rfl (fun n1 => ?_)
            go_wp2
            refine ⟨trivial, ?_⟩
            refine ord_end (fun n2 => ?_)
            go_wp2
            case roundEnd =>
              have B1 := ((Z1.out.drewN n1).set_ pc (wv (blend q).c)).drewN n2
              rw [wcs_set] at B1
              refine ⟨⟨3, by omega, rfl, ?_, ?_, B1, ?_, ?_⟩, by simp [intOf]⟩
              · exact ((Z2.out.drewN n1).far (Blk.ne_ Z2.out Z1.out (by decide)) _).drewN n2
              · exact ((Z0.out.drewN n1).far (Blk.ne_ Z0.out Z1.out (by decide)) _).drewN n2
              · exact ((Z3.out.drewN n1).far (by simp) _).drewN n2
              · exact below_drewN (below_put (below_drewN hB1 n1) (Nat.le_refl _)) n2
          · have s0 : wr.cell? ⟨P1, 3, none⟩ = some (.int .i64 pd) := (Z0.cell 3).trans rfl
            have s1 : wr.cell? ⟨P2, 3, none⟩ = some (.int .u64 (wrd (blend q).d)) := (Z2.cell 3).trans rfl
            have s2 : wr.frozen? ⟨H, pd, none⟩ = false := Z1.frozen _
            obtain ⟨v0, s3⟩ : ∃ v : UInt64, wr.cell? ⟨H, pd, none⟩ = some (.int .u64 (wrd v)) := ⟨_, (Z1.cell _).trans (wcs_get _ _ (by rw [putN_len, HLk.out]; exact hd))⟩
            have Z0 := Lib.hid Z0; have Z1 := Lib.hid Z1; have Z2 := Lib.hid Z2; have Z3 := Lib.hid Z3
            clear hB
            go_wp2_with fail
            refine wp_region_ord (fun _ => True) (fun _ _ h => h) [(0, 0), (0, 1), (1, 2), (0, 3), (0, 4), (1, 5), (0, 6), (2, 7)] (by kernel_rfl) rfl (by kernel_rfl) (by kernel_rfl) (fun c a d v w h => by cases d <;> exact h) trivial ?_
            refine ord_pure rfl (fun K hK => ?_); go_simp; refine hK _ ?_; clear hK K
            refine ord_pure rfl (fun K hK => ?_); go_simp; refine hK _ ?_; clear hK K
            refine ord_read rfl (fun K hK => ?_); go_simp; refine hK _ ?_; clear hK K
            refine ord_pure rfl (fun K hK => ?_); go_simp; refine hK _ ?_; clear hK K
            refine ord_pure rfl (fun K hK => ?_); go_simp; refine hK _ ?_; clear hK K
            refine ord_read rfl (fun K hK => ?_); go_simp; refine hK _ ?_; clear hK K
            refine ord_pure rfl (fun K hK => ?_); go_simp; refine hK _ ?_; clear hK K
            refine ord_loud rfl (fun n1 => ?_)
            go_wp2
            refine ⟨trivial, ?_⟩
            refine ord_end (fun n2 => ?_)
            go_wp2
            case roundEnd =>
              have B1 := ((Z1.out.drewN n1).set_ pd (wv (blend q).d)).drewN n2
              rw [wcs_set] at B1
              refine ⟨⟨4, by omega, rfl, ?_, ?_, B1, ?_, ?_⟩, by simp [intOf]⟩
              · exact ((Z2.out.drewN n1).far (Blk.ne_ Z2.out Z1.out (by decide)) _).drewN n2
              · exact ((Z0.out.drewN n1).far (Blk.ne_ Z0.out Z1.out (by decide)) _).drewN n2
              · exact ((Z3.out.drewN n1).far (by simp) _).drewN n2
              · exact below_drewN (below_put (below_drewN hB1 n1) (Nat.le_refl _)) n2
        · obtain rfl : m = 4 := by omega
          have Z0 := Lib.hid Z0; have Z1 := Lib.hid Z1; have Z2 := Lib.hid Z2; have Z3 := Lib.hid Z3
          go_wp2
          case roundEnd =>
            refine ⟨⟨k + 1, by omega, rfl, ?_, ⟨cs2, HC2.out, Z3.out⟩, hB1⟩, by simp only [intOf]; omega⟩
            show Blk _ H _ (wcs ((place k).put (permTo k l) (blend ((place k).at (permTo k l)))))
            rw [← HPL.out, ← HLL.out, ← HQ.out]
            exact Z1.out
    · obtain rfl : k = 8 := by omega
      have hsz : (Try.prog.info? 35).map (·.size) = some (wcs (permTo 8 l)).size := by rw [wcs_size, permTo_len, HL.out]; kernel_rfl
      have hold : cs2.size = (wcs (permTo 8 l)).size := by rw [wcs_size, permTo_len, HL.out, HC2.out]
      have hu : Try.prog.underlying 35 = some (.array 16 34) := by kernel_rfl
      go_wp2_with (first
        | (refine wpList_load_row rfl 35 _ rfl H rfl 35 _ _ _ HB.out hu rfl hsz ?_)
        | (refine wpList_store_row rfl 35 _ _ rfl (H + 1) _ rfl rfl 35 _ HB2.out hsz hold (wcs_all _) ?_))
      refine bodyPost_ret (results_cell_row rfl _ _ (H + 1) _ _ _ _ rfl (HB2.out.row _) hu rfl hsz) rfl ⟨rfl, ?_⟩
      rw [← HH.out]
      exact below_row hbw (by omega) _
end Go.Proofs.Ytnkngaicegcejaa

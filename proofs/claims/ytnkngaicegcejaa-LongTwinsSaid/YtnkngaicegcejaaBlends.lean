/-
  LongBlends, the law: a Blend of four words and a Perm of sixteen, by the program and by the reference. Contracts alone; no statement is claimed here.
-/
import Derived.Test.YtnkngaicegcejaaPermR
import Derived.DeepKeys
import Derived.Deep.CutRange
namespace Go.Proofs.Ytnkngaicegcejaa
open Go.RowKit
attribute [local go_sem] pureUpon Ords.of

theorem pure_load_row {P : Program} {o : Oper} {a : Act} {w : World} (ty : TypeId) (x : Operand) (ho : o.op = .load ty x)
    (g : Nat) (hx : a.eval x = .pointer (some ⟨g, 0, none⟩)) (t : TypeId) (cs : Array Value) (fr : Nat × Nat) (d : TypeDesc) (hg : w.heap[g]? = some (.cells cs t fr))
    (hu : P.underlying ty = some d) (hd : (match d with | .struct _ | .array _ _ => true | _ => false) = true) (hi : (P.info? ty).map (·.size) = some cs.size) :
    pureUpon w (.agg cs) ((execOp a.eval o).run P w) := by
  unfold execOp
  simp only [ho, hx, Instr.loadAt, Instr.sureAddr, Sem.run_bind, Sem.run_pure, Result.andThen_ok, run_loadVar_row w g t ty cs fr d hg hu hd hi]
  exact ⟨rfl, rfl⟩

theorem word_lits (d : Nat) (x : UInt64) : Try.prog.keyLits (d + 1) 34 [wv x] = some [.int .u64 (wrd x)] := by
  have hu : Try.prog.underlying 34 = some (.int .u64) := by kernel_rfl
  have hwf : (Lit.int .u64 (wrd x)).wf = true := by
    have h1 := wrd_lt x
    simp only [Lit.wf, wrd]
    simp [IntKind.min, IntKind.max, IntKind.signed, IntKind.bits]
    omega
  unfold Program.keyLits wv
  rw [hu]
  simp [hwf]
theorem lits16 (x0 x1 x2 x3 x4 x5 x6 x7 x8 x9 x10 x11 x12 x13 x14 x15 : UInt64) :
    (Try.prog.keyLits 5 35 (wcs [x0, x1, x2, x3, x4, x5, x6, x7, x8, x9, x10, x11, x12, x13, x14, x15]).toList).isSome = true ∧ (Value.agg (wcs [x0, x1, x2, x3, x4, x5, x6, x7, x8, x9, x10, x11, x12, x13, x14, x15])).formed Try.prog 35 = true := by
  have hu : Try.prog.underlying 35 = some (.array 16 34) := by kernel_rfl
  have h1 : Try.prog.cellsOf 34 = 1 := by kernel_rfl
  have h16 : Try.prog.cellsOf 35 = 16 := by kernel_rfl
  constructor
  · unfold Program.keyLits
    rw [hu]
    simp [h1, h16, wcs, List.range_succ, word_lits]
  · simp [Value.formed, hu, h16, wcs]
theorem sixteen {l : List UInt64} (h : l.length = 16) : ∃ x0 x1 x2 x3 x4 x5 x6 x7 x8 x9 x10 x11 x12 x13 x14 x15, l = [x0, x1, x2, x3, x4, x5, x6, x7, x8, x9, x10, x11, x12, x13, x14, x15] := by
  match l, h with
  | [x0, x1, x2, x3, x4, x5, x6, x7, x8, x9, x10, x11, x12, x13, x14, x15], _ => exact ⟨x0, x1, x2, x3, x4, x5, x6, x7, x8, x9, x10, x11, x12, x13, x14, x15, rfl⟩
theorem eq16 (l : List UInt64) (h : l.length = 16) (w : World) : (Op.equal 35 (.agg (wcs l)) (.agg (wcs l))).run Try.prog w = .ok true w := by
  obtain ⟨x0, x1, x2, x3, x4, x5, x6, x7, x8, x9, x10, x11, x12, x13, x14, x15, rfl⟩ := sixteen h
  obtain ⟨h1, h2⟩ := lits16 x0 x1 x2 x3 x4 x5 x6 x7 x8 x9 x10 x11 x12 x13 x14 x15
  obtain ⟨la, hla⟩ := Option.isSome_iff_exists.1 h1
  obtain ⟨r, hr, hiff⟩ := run_equalIn_deep (P := Try.prog) 9998 2 35 (by kernel_rfl) w 5 5 _ _ la la h2 h2 hla hla
  have : r = true := hiff.2 rfl
  subst this
  exact hr

theorem awake_a : ((blend ⟨1, 0, 0, 0⟩).a == 1) = false := by decide +kernel
set_option maxHeartbeats 2000000 in
theorem awake_any (w : World) : Calls Try.prog 24 #[] w fun e w' => e = .returned (.bool true) ∧ Below w.heap.size w w' := by
  have hb := blend_any ⟨1, 0, 0, 0⟩
  have hr := refBlend_any ⟨1, 0, 0, 0⟩
  have h1 : wrd 1 = 1 := by decide
  have h0 : wrd 0 = 0 := by decide
  have hne := awake_a
  generalize blend ⟨1, 0, 0, 0⟩ = r at *
  rw [h1, h0] at hb hr
  have hne : wrd r.a ≠ 1 := by
    intro h
    have : r.a = 1 := UInt64.toNat_inj.1 (by unfold wrd at h; have : r.a.toNat = 1 := by omega
                                             simpa using this)
    rw [this] at hne; simp at hne
  have HB := Lib.hid hb; have HR := Lib.hid hr; clear hb hr h1 h0
  obtain ⟨H, hH⟩ : ∃ H, H = w.heap.size := ⟨_, rfl⟩
  rw [← hH]
  have HH := Lib.hid hH; clear hH
  go_enter Try.func24, Try.ntmps24
  go_wp2_with (first
    | (go_at_call 20; refine (HB.out _).mono ?_; rintro e w1 ⟨rfl, rfl⟩)
    | (go_at_call 21; refine (HR.out _).mono ?_; rintro e w1 ⟨rfl, hb1⟩))
  refine bodyPost_ret (results_tmp rfl _ _ _) rfl ⟨?_, ?_⟩
  · simp [hne]
  · rw [HH.out]
    exact hb1.alloc hb1.size _

set_option maxRecDepth 10000 in
set_option maxHeartbeats 4000000 in
theorem blends_law (l : List UInt64) (hl : l.length = 16) (w : World) :
    Calls Try.prog 4 #[.agg (wcs l)] w fun e w' => e = .returned (.bool true) ∧ Below w.heap.size w w' := by
  obtain ⟨q, hq⟩ : ∃ q, q = P4.at ⟨0, 1, 2, 3⟩ l := ⟨_, rfl⟩
  have ga : (wcs l)[0]? = some (.int .u64 (wrd q.a)) := by rw [wcs_get _ _ (by omega), hq]; rfl
  have gb : (wcs l)[1]? = some (.int .u64 (wrd q.b)) := by rw [wcs_get _ _ (by omega), hq]; rfl
  have gc : (wcs l)[2]? = some (.int .u64 (wrd q.c)) := by rw [wcs_get _ _ (by omega), hq]; rfl
  have gd : (wcs l)[3]? = some (.int .u64 (wrd q.d)) := by rw [wcs_get _ _ (by omega), hq]; rfl
  have GA := Lib.hid ga; have GB := Lib.hid gb; have GC := Lib.hid gc; have GD := Lib.hid gd; clear ga gb gc gd hq
  have he : ∀ w, (Op.equalIn 10000 35 (.agg (wcs (perm l))) (.agg (wcs (perm l)))).run Try.prog w = .ok true w := eq16 (perm l) (by unfold perm; rw [permTo_len, hl])
  have hsz16 : (Try.prog.info? 35).map (·.size) = some (wcs l).size := by rw [wcs_size, hl]; kernel_rfl
  have hu16 : Try.prog.underlying 35 = some (.array 16 34) := by kernel_rfl
  have HL := Lib.hid hl; clear hl
  obtain ⟨H, hH⟩ : ∃ H, H = w.heap.size := ⟨_, rfl⟩
  rw [← hH]
  go_enter Try.func4, Try.ntmps4
  go_upto_region 1 with fail
  rw [← hH]
  have HX : Blk (w.alloc (.cells (wcs l) 35)) H 35 (wcs l) := by rw [hH]; exact Blk.new _ _ _
  have hbw : Below H w (w.alloc (.cells (wcs l) 35)) := (Below.refl _ _).alloc (by omega) _
  have HH := Lib.hid hH; clear hH
  generalize w.alloc (.cells (wcs l) 35) = w0 at *
  have c0 : w0.cell? ⟨H, 0, none⟩ = some (.int .u64 (wrd q.a)) := (HX.cell 0).trans GA.out
  have c1 : w0.cell? ⟨H, 1, none⟩ = some (.int .u64 (wrd q.b)) := (HX.cell 1).trans GB.out
  have c2 : w0.cell? ⟨H, 2, none⟩ = some (.int .u64 (wrd q.c)) := (HX.cell 2).trans GC.out
  have c3 : w0.cell? ⟨H, 3, none⟩ = some (.int .u64 (wrd q.d)) := (HX.cell 3).trans GD.out
  have HX := Lib.hid HX
  go_upto_region 3 with (first
    | (go_at_call 20; refine (blend_any q _).mono ?_; rintro e w1 ⟨rfl, rfl⟩)
    | (go_at_call 21; refine (refBlend_any q _).mono ?_; rintro e w1 ⟨rfl, hb1⟩))
  have HX1 := HX.out.below hb1 HX.out.lt
  obtain ⟨Q, hQ⟩ : ∃ Q, Q = w1.heap.size := ⟨_, rfl⟩
  have HQ : Blk (w1.alloc (.cells #[.int .u64 (wrd (blend q).a), .int .u64 (wrd (blend q).b), .int .u64 (wrd (blend q).c), .int .u64 (wrd (blend q).d)] 38)) Q 38 #[.int .u64 (wrd (blend q).a), .int .u64 (wrd (blend q).b), .int .u64 (wrd (blend q).c), .int .u64 (wrd (blend q).d)] := by rw [hQ]; exact Blk.new _ _ _
  have HX2 := HX1.alloc (.cells #[.int .u64 (wrd (blend q).a), .int .u64 (wrd (blend q).b), .int .u64 (wrd (blend q).c), .int .u64 (wrd (blend q).d)] 38)
  have hbw2 := (hbw.trans (hb1.mono (Nat.le_of_lt HX.out.lt))).alloc (Nat.le_of_lt HX1.lt) (.cells #[.int .u64 (wrd (blend q).a), .int .u64 (wrd (blend q).b), .int .u64 (wrd (blend q).c), .int .u64 (wrd (blend q).d)] 38)
  rw [← hQ]
  clear hQ HX1 hb1
  generalize w1.alloc (.cells #[.int .u64 (wrd (blend q).a), .int .u64 (wrd (blend q).b), .int .u64 (wrd (blend q).c), .int .u64 (wrd (blend q).d)] 38) = w2 at *
  clear c0 c1 c2 c3
  refine wp_region_ords (fun w' => Blk w' Q 38 #[.int .u64 (wrd (blend q).a), .int .u64 (wrd (blend q).b), .int .u64 (wrd (blend q).c), .int .u64 (wrd (blend q).d)] ∧ Blk w' H 35 (wcs l)) (fun _ n h => ⟨h.1.drewN n, h.2.drewN n⟩)
    (Ords.of [(0, 0), (0, 1), (0, 2), (0, 3), (0, 4), (0, 5), (0, 6), (0, 7), (0, 8), (0, 9), (0, 10), (0, 11), (0, 12), (0, 13), (0, 14), (0, 15), (0, 16), (0, 17), (0, 18), (0, 19), (0, 20), (0, 21), (0, 22), (0, 23), (0, 25)] (.one 2 24 (.one 2 26 (.one 0 27 (.one 0 28 (.one 0 29 (.one 2 30 (.one 0 31 (.one 0 32 .fin))))))))) (by kernel_rfl) rfl (by kernel_rfl) (by kernel_rfl) (fun c a d v w h => by cases d <;> exact h) ⟨HQ, HX2⟩ ?_
  refine ords_pure rfl (fun K hK => ?_); go_simp; refine hK _ ?_; clear hK K
  refine ords_pure rfl (fun K hK => ?_); go_simp; refine hK _ ?_; clear hK K
  refine ords_held (v := .int .u64 (wrd (blend q).a)) rfl rfl (fun w' hS => ?_) ?_; have s0 : w'.cell? ⟨Q, 0, none⟩ = some (.int .u64 (wrd (blend q).a)) := hS.1.cell 0; go_simp; go_simp
  refine ords_pure rfl (fun K hK => ?_); go_simp; refine hK _ ?_; clear hK K
  refine ords_pure rfl (fun K hK => ?_); go_simp; refine hK _ ?_; clear hK K
  refine ords_pure rfl (fun K hK => ?_); go_simp; refine hK _ ?_; clear hK K
  refine ords_pure rfl (fun K hK => ?_); go_simp; refine hK _ ?_; clear hK K
  refine ords_held (v := .int .u64 (wrd (blend q).b)) rfl rfl (fun w' hS => ?_) ?_; have s0 : w'.cell? ⟨Q, 1, none⟩ = some (.int .u64 (wrd (blend q).b)) := hS.1.cell 1; go_simp; go_simp
  refine ords_pure rfl (fun K hK => ?_); go_simp; refine hK _ ?_; clear hK K
  refine ords_pure rfl (fun K hK => ?_); go_simp; refine hK _ ?_; clear hK K
  refine ords_pure rfl (fun K hK => ?_); go_simp; refine hK _ ?_; clear hK K
  refine ords_pure rfl (fun K hK => ?_); go_simp; refine hK _ ?_; clear hK K
  refine ords_pure rfl (fun K hK => ?_); go_simp; refine hK _ ?_; clear hK K
  refine ords_held (v := .int .u64 (wrd (blend q).c)) rfl rfl (fun w' hS => ?_) ?_; have s0 : w'.cell? ⟨Q, 2, none⟩ = some (.int .u64 (wrd (blend q).c)) := hS.1.cell 2; go_simp; go_simp
  refine ords_pure rfl (fun K hK => ?_); go_simp; refine hK _ ?_; clear hK K
  refine ords_pure rfl (fun K hK => ?_); go_simp; refine hK _ ?_; clear hK K
  refine ords_pure rfl (fun K hK => ?_); go_simp; refine hK _ ?_; clear hK K
  refine ords_pure rfl (fun K hK => ?_); go_simp; refine hK _ ?_; clear hK K
  refine ords_pure rfl (fun K hK => ?_); go_simp; refine hK _ ?_; clear hK K
  refine ords_held (v := .int .u64 (wrd (blend q).d)) rfl rfl (fun w' hS => ?_) ?_; have s0 : w'.cell? ⟨Q, 3, none⟩ = some (.int .u64 (wrd (blend q).d)) := hS.1.cell 3; go_simp; go_simp
  refine ords_pure rfl (fun K hK => ?_); go_simp; refine hK _ ?_; clear hK K
  refine ords_pure rfl (fun K hK => ?_); go_simp; refine hK _ ?_; clear hK K
  refine ords_pure rfl (fun K hK => ?_); go_simp; refine hK _ ?_; clear hK K
  refine ords_held (v := .agg (wcs l)) rfl rfl (fun w' hS => pure_load_row 35 _ rfl H rfl _ _ _ _ hS.2 hu16 rfl hsz16) ?_; go_simp
  refine ords_held (v := .agg (wcs l)) rfl rfl (fun w' hS => pure_load_row 35 _ rfl H rfl _ _ _ _ hS.2 hu16 rfl hsz16) ?_; go_simp
  refine ords_loud rfl (fun n1 => ?_)
  go_wp2_with (go_at_call 22; refine (perm_any l HL.out _).mono ?_; rintro e v1 ⟨rfl, hc1⟩)
  have Q1 := (HQ.drewN n1).below hc1 HQ.lt
  have X1 := (HX2.drewN n1).below hc1 HX2.lt
  have B1 : Below H w v1 := (below_drewN hbw2 n1).trans (hc1.mono (Nat.le_of_lt HX2.lt))
  refine ⟨⟨Q1, X1⟩, ?_⟩
  refine ords_loud rfl (fun n2 => ?_)
  go_wp2_with (go_at_call 23; refine (refPerm_any l HL.out _).mono ?_; rintro e v2 ⟨rfl, hc2⟩)
  have Q2 := (Q1.drewN n2).below hc2 Q1.lt
  have X2 := (X1.drewN n2).below hc2 X1.lt
  have B2 : Below H w v2 := (below_drewN B1 n2).trans (hc2.mono (Nat.le_of_lt X1.lt))
  refine ⟨⟨Q2, X2⟩, ?_⟩
  refine ords_pure rfl (fun K hK => ?_); go_simp; refine hK _ ?_; clear hK K
  refine ords_pure rfl (fun K hK => ?_); go_simp; refine hK _ ?_; clear hK K
  refine ords_pure rfl (fun K hK => ?_); go_simp; refine hK _ ?_; clear hK K
  refine ords_loud rfl (fun n3 => ?_)
  go_wp2_with (go_at_call 24; refine (awake_any _).mono ?_; rintro e v3 ⟨rfl, hc3⟩)
  have Q3 := (Q2.drewN n3).below hc3 Q2.lt
  have X3 := (X2.drewN n3).below hc3 X2.lt
  have B3 : Below H w v3 := (below_drewN B2 n3).trans (hc3.mono (Nat.le_of_lt X2.lt))
  refine ⟨⟨Q3, X3⟩, ?_⟩
  refine ords_pure rfl (fun K hK => ?_); go_simp; refine hK _ ?_; clear hK K
  refine ords_pure rfl (fun K hK => ?_); go_simp; refine hK _ ?_; clear hK K
  refine ords_end (fun n4 => ?_)
  go_wp2
  refine bodyPost_ret (results_tmp rfl _ _ _) rfl ⟨rfl, below_drewN B3 n4⟩
end Go.Proofs.Ytnkngaicegcejaa

/-
  LongNames' law. Contracts alone; no statement is claimed here.
-/
import Derived.Test.YtlnnfijdldkpiaaLong
import Derived.Test.YtlnnfijdldkpiaaBlks
namespace Go.Proofs.Ytlnnfijdldkpiaa
open Go.RowKit
attribute [local go_sem] pureUpon Ords.of

set_option maxRecDepth 20000 in
set_option maxHeartbeats 2000000 in
theorem longNames_law (w : World) : Calls Try.prog 8 #[] w fun e w' => e = .returned (.bool true) ∧ Below w.heap.size w w' := by
  have h1 := fun W => longBad_any 1048577 none 0 0 W (.inr (by decide))
  have h2 := fun A1 A2 W => mixP_no A1 A2 1023 1024 1023 1024 (by decide) W
  have h3 := fun W => longHash_any 4 none 0 0 [] W ⟨by decide, by decide⟩ rfl (by decide) (RS.nil _)
  change ∀ W, Calls Try.prog _ #[.int .i64 4, .slice none 0 0] W (fun e w' => ∃ A' c' cc, e = .returned (.tuple #[.slice A' 4 cc, .int .i64 0]) ∧ _) at h3
  have H1 := Lib.hid h1; have H2 := Lib.hid h2; have H3 := Lib.hid h3; clear h1 h2 h3
  have hm1 : ∀ W : World, (Instr.makeSlice 24 (.int .i64 1023) (.int .i64 1023)).run Try.prog W = .ok (.slice (some ⟨W.heap.size, 0, none⟩) 1023 1023) (W.alloc (.cells (zB 1023) 5)) := fun W => make_zB 1023 (by decide) W
  have hm2 : ∀ W : World, (Instr.makeSlice 24 (.int .i64 1024) (.int .i64 1024)).run Try.prog W = .ok (.slice (some ⟨W.heap.size, 0, none⟩) 1024 1024) (W.alloc (.cells (zB 1024) 5)) := fun W => make_zB 1024 (by decide) W
  go_enter Try.func8, Try.ntmps8
  go_wp2_with (go_at_call 20; refine (H1.out _).mono ?_; rintro e1 w1 ⟨rfl, rfl⟩)
  refine wp_region_B (Ords.of [] (.two 0 1 (Ords.of [(2, 1), (2, 2), (0, 3), (0, 4), (0, 5), (0, 6), (0, 7)] .fin) (Ords.of [(2, 0), (2, 2), (0, 3), (0, 4), (0, 5), (0, 6), (0, 7)] .fin))) (by kernel_rfl) rfl (by kernel_rfl) (by kernel_rfl) (fun c a d v w h => by cases d <;> exact h) ?_
  refine ords_two rfl rfl (fun n1 => ?_) (fun n1 => ?_)
  · go_wp2; refine ⟨(by first | exact bal (bdr (b0 w) _) _ | exact bal (bdr (bal (bdr (b0 w) _) _) _) _), ?_⟩
    refine ords_loud rfl (fun n2 => ?_)
    go_wp2; refine ⟨(by first | exact bal (bdr (b0 w) _) _ | exact bal (bdr (bal (bdr (b0 w) _) _) _) _), ?_⟩
    refine ords_loud rfl (fun n3 => ?_)
    go_wp2_with (go_at_call 28; refine (H2.out _ _ _).mono ?_; rintro e2 w2 ⟨rfl, hb2⟩; have HB2 := Lib.hid (bcall (bdr (bal (bdr (bal (bdr (b0 w) _) _) _) _) _) hb2); clear hb2); refine ⟨HB2.out, ?_⟩
    refine ords_pure rfl (fun K hK => ?_); go_simp; refine hK _ ?_; clear hK K
    refine ords_pure rfl (fun K hK => ?_); go_simp; refine hK _ ?_; clear hK K
    refine ords_pure rfl (fun K hK => ?_); go_simp; refine hK _ ?_; clear hK K
    refine ords_pure rfl (fun K hK => ?_); go_simp; refine hK _ ?_; clear hK K
    refine ords_pure rfl (fun K hK => ?_); go_simp; refine hK _ ?_; clear hK K
    refine ords_end (fun n4 => ?_)
    go_wp2_with fail; refine (H3.out _).mono ?_; rintro e3 w3 ⟨A3, c3, cc3, rfl, ho3, hb3⟩; have HB3 := Lib.hid (bcall (bdr HB2.out _) hb3); clear hb3 ho3; go_wp2_with fail; exact bodyPost_ret (results_tmp rfl _ _ _) rfl ⟨rfl, HB3.out⟩
  · go_wp2; refine ⟨(by first | exact bal (bdr (b0 w) _) _ | exact bal (bdr (bal (bdr (b0 w) _) _) _) _), ?_⟩
    refine ords_loud rfl (fun n2 => ?_)
    go_wp2; refine ⟨(by first | exact bal (bdr (b0 w) _) _ | exact bal (bdr (bal (bdr (b0 w) _) _) _) _), ?_⟩
    refine ords_loud rfl (fun n3 => ?_)
    go_wp2_with (go_at_call 28; refine (H2.out _ _ _).mono ?_; rintro e2 w2 ⟨rfl, hb2⟩; have HB2 := Lib.hid (bcall (bdr (bal (bdr (bal (bdr (b0 w) _) _) _) _) _) hb2); clear hb2); refine ⟨HB2.out, ?_⟩
    refine ords_pure rfl (fun K hK => ?_); go_simp; refine hK _ ?_; clear hK K
    refine ords_pure rfl (fun K hK => ?_); go_simp; refine hK _ ?_; clear hK K
    refine ords_pure rfl (fun K hK => ?_); go_simp; refine hK _ ?_; clear hK K
    refine ords_pure rfl (fun K hK => ?_); go_simp; refine hK _ ?_; clear hK K
    refine ords_pure rfl (fun K hK => ?_); go_simp; refine hK _ ?_; clear hK K
    refine ords_end (fun n4 => ?_)
    go_wp2_with fail; refine (H3.out _).mono ?_; rintro e3 w3 ⟨A3, c3, cc3, rfl, ho3, hb3⟩; have HB3 := Lib.hid (bcall (bdr HB2.out _) hb3); clear hb3 ho3; go_wp2_with fail; exact bodyPost_ret (results_tmp rfl _ _ _) rfl ⟨rfl, HB3.out⟩
end Go.Proofs.Ytlnnfijdldkpiaa

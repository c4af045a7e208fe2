/-
  NodeCuts, proved: how a message is cut has no part in the digest. No condition beyond the row's own.
-/
import Derived.Test.YtlnnfijdldkpiaaNCuts
import Derived.Test.YtlnnfijdldkpiaaOpenS
import Derived.Test.YtlnnfijdldkpiaaFrame
namespace Go.Proofs.Ytlnnfijdldkpiaa.nodeCuts
open Go.ChangeShapes Go.WideShapes Go.ChangeAt Go.RowKit

set_option maxRecDepth 100000 in
theorem lifted (os : Os) (started : os.Started) (H : Type) (enc : TypeId × Value → H) :
    ReturnsInHanded {} Try.checked os 6 .any (Rows.nodeCutsSpec.pre6 enc Try.prog Try.f6 Rows.nodeCutsRow.domain false) (Rows.nodeCutsSpec.post enc Try.prog Try.f6 false true false false) := by
  refine returnsInHanded_of_change_sized (C := Try.checked) own_ started (by kernel_rfl) Try.func6
    (ChangeSpec.witness6 (enc := enc) (C := Try.checked) false ⟨#[], #[.agg #[.int .i64 0, .int .i64 0, .int .i64 0, .int .i64 0, .int .i64 0, .int .u32 0, .int .u64 0, .int .u32 0, .int .i64 0, .int .i64 0, .slice none 0 0, .slice none 0 0, .slice none 0 0], .slice none 0 0, .slice none 0 0], []⟩ 8 (by kernel_rfl) (by kernel_rfl) (by kernel_rfl) (by kernel_rfl)) ?_
  intro W base args ds gs before hval0 hW _ hsz0 _
  have hsz : (DataW.weightsEach Try.prog (Try.f6.params.toList ++ Rows.nodeCutsSpec.plain.varTypes Try.prog) (ds ++ gs)).all (· ≤ reachBytes) = true := hsz0
  have hval : ∀ (j : Nat) t v, Try.f6.params[j]? = some t → args[j]? = some v → Value.okWide Try.prog W .any base t v := hval0
  have hW' := hW
  obtain ⟨p, q, hA0, hV, rfl, _, _⟩ := hW
  have hA : DataW.TrodAll enc Try.prog W 0 (fun _ => true) true Try.f6.params.toList args.toList ds p := hA0
  rw [Try.params6] at hA hval hsz
  obtain ⟨v0, v1, v2, d0, d1, d2, p0, p1, p2, rfl, rfl, rfl, h0, h1, h2⟩ := trodAll_three hA
  obtain ⟨k, p, ls, lp, key, Ak, nk, ck, rfl, hp, hk, hnk, hck, hrk⟩ := open_start (hval 0 34 v0 rfl rfl) h0 (fun x hx => hW'.lt x (by simp [hx])) hsz (j := 0) rfl rfl
  obtain ⟨A, c, n, data, rfl, hn1, hnc1, hcm1, hr1, hd1⟩ := open_bytes (hval 1 24 v1 rfl rfl) h1 (fun x hx => hW'.lt x (by simp [hx]))
  have hreach1 := bytes_reach hsz (j := 1) rfl rfl hnc1 hd1
  obtain ⟨Ac, nc, cc, zs, rfl, hz, hzn, hzc, hrz, hzr⟩ := open_ints_ (hval 2 46 v2 rfl rfl) h2 (fun x hx => hW'.lt x (by simp [hx])) hsz (j := 2) rfl rfl
  refine (nodeCuts_law k p ls lp key data zs Ak A Ac nk ck n c nc cc W hp hk hrk hn1 hnc1 (by unfold maxLen at hcm1; exact hcm1) hreach1 hr1 hz (by omega) hrz hzr).mono fun e W' ⟨he, hb⟩ => ?_
  subst he
  exact ⟨_, rfl, law_post hW' rfl (by kernel_rfl) (by rw [Try.params6]; intro t ht; simp at ht; rcases ht with rfl | rfl | rfl <;> exact ⟨by kernel_rfl, of_decide_eq_true (by kernel_rfl)⟩) rfl hb⟩

theorem proved : Rows.NodeCutsSaid :=
  OpenClaim.holds_of_wide 6 Try.f6 rfl rfl rfl rfl rfl rfl rfl ⟨rfl, rfl, rfl, rfl, rfl⟩ rfl rfl rfl rfl rfl (by kernel_rfl) Try.func6 (by kernel_rfl)
    (of_decide_eq_true (by kernel_rfl)) (by unfold Func.isWrapper; first | (rw [if_pos (by decide +kernel)]; kernel_rfl) | (rw [if_neg (by decide +kernel)]; exact ⟨rfl, rfl⟩))
    (fun os started H enc _ => lifted os started H enc)

end Go.Proofs.Ytlnnfijdldkpiaa.nodeCuts

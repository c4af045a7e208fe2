/-
  XofSkips, proved: a Skip is a Read whose bytes are thrown away. No condition beyond the row's own.
-/
import Derived.Test.YtgecggkcadhooaaXSkips
import Derived.Test.YtgecggkcadhooaaFrame
import Derived.Test.YtgecggkcadhooaaTrod
namespace Go.Proofs.Ytgecggkcadhooaa.xofSkips
open Go.ChangeShapes Go.WideShapes Go.ChangeAt Go.RowKit

set_option maxRecDepth 100000 in
theorem lifted (os : Os) (started : os.Started) (H : Type) (enc : TypeId × Value → H) :
    ReturnsInHanded {} Try.checked os 4 .any (Rows.xofSkipsSpec.pre6 enc Try.prog Try.f4 Rows.xofSkipsRow.domain false) (Rows.xofSkipsSpec.post enc Try.prog Try.f4 false true false false) := by
  refine returnsInHanded_of_change_sized (C := Try.checked) own_ started (by kernel_rfl) Try.func4
    (ChangeSpec.witness6 (enc := enc) (C := Try.checked) false ⟨#[], #[.int .i64 0, .slice none 0 0, .slice none 0 0, .int .u64 0, .int .u8 0, .int .u8 0], []⟩ 8 (by kernel_rfl) (by kernel_rfl) (by kernel_rfl) (by kernel_rfl)) ?_
  intro W base args ds gs before hval0 hW _ hsz0 _
  have hsz : (DataW.weightsEach Try.prog (Try.f4.params.toList ++ Rows.xofSkipsSpec.plain.varTypes Try.prog) (ds ++ gs)).all (· ≤ reachBytes) = true := hsz0
  have hval : ∀ (j : Nat) t v, Try.f4.params[j]? = some t → args[j]? = some v → Value.okWide Try.prog W .any base t v := hval0
  have hW' := hW
  obtain ⟨p, q, hA0, hV, rfl, _, _⟩ := hW
  have hA : DataW.TrodAll enc Try.prog W 0 (fun _ => true) true Try.f4.params.toList args.toList ds p := hA0
  rw [Try.params4] at hA hval hsz
  obtain ⟨v0, v1, v2, v3, v4, v5, d0, d1, d2, d3, d4, d5, p0, p1, p2, p3, p4, p5, rfl, rfl, rfl, h0, h1, h2, h3, h4, h5⟩ := trodAll_six hA
  obtain ⟨k, rfl, rfl, rfl, w0⟩ := open_int Try.underlying3 (hval 0 3 v0 rfl rfl) h0
  obtain ⟨A1, ck, nk, key, rfl, hn1, hnc1, hcm1, hr1, hd1⟩ := open_bytes (hval 1 23 v1 rfl rfl) h1 (fun x hx => hW'.lt x (by simp [hx]))
  have hreach1 := bytes_reach hsz (j := 1) rfl rfl hnc1 hd1
  obtain ⟨A2, cd, nd, data, rfl, hn2, hnc2, hcm2, hr2, hd2⟩ := open_bytes (hval 2 23 v2 rfl rfl) h2 (fun x hx => hW'.lt x (by simp [hx]))
  have hreach2 := bytes_reach hsz (j := 2) rfl rfl hnc2 hd2
  obtain ⟨z3, rfl, rfl, rfl, w3⟩ := open_int Try.underlying32 (hval 3 32 v3 rfl rfl) h3
  have hz3 : 0 ≤ z3 ∧ z3 ≤ 18446744073709551615 := by simpa [Lit.wf, IntKind.min, IntKind.max, IntKind.signed, IntKind.bits] using w3
  obtain ⟨far, rfl⟩ : ∃ I : Nat, z3 = I := ⟨z3.toNat, by omega⟩
  have hz3 : far ≤ 18446744073709551615 := by omega
  obtain ⟨z4, rfl, rfl, rfl, w4⟩ := open_int Try.underlying5 (hval 4 5 v4 rfl rfl) h4
  have hz4 : 0 ≤ z4 ∧ z4 ≤ 255 := by simpa [Lit.wf, IntKind.min, IntKind.max, IntKind.signed, IntKind.bits] using w4
  obtain ⟨by_, rfl⟩ : ∃ I : Nat, z4 = I := ⟨z4.toNat, by omega⟩
  have hz4 : by_ ≤ 255 := by omega
  obtain ⟨z5, rfl, rfl, rfl, w5⟩ := open_int Try.underlying5 (hval 5 5 v5 rfl rfl) h5
  have hz5 : 0 ≤ z5 ∧ z5 ≤ 255 := by simpa [Lit.wf, IntKind.min, IntKind.max, IntKind.signed, IntKind.bits] using w5
  obtain ⟨n, rfl⟩ : ∃ I : Nat, z5 = I := ⟨z5.toNat, by omega⟩
  have hz5 : n ≤ 255 := by omega
  refine (xofSkips_law k key data A1 A2 nk ck nd cd far by_ n W hn1 hr1 hn2 hnc2 (by unfold maxLen at hcm2; omega) hr2 hz4 hz5).mono fun e W' ⟨he, hb⟩ => ?_
  subst he
  exact ⟨_, rfl, law_post hW' rfl (by kernel_rfl) (by rw [Try.params4]; intro t ht; simp at ht; rcases ht with rfl | rfl | rfl | rfl <;> exact ⟨by kernel_rfl, of_decide_eq_true (by kernel_rfl)⟩) rfl hb⟩

theorem proved : Rows.XofSkipsSaid :=
  OpenClaim.holds_of_wide 4 Try.f4 rfl rfl rfl rfl rfl rfl rfl ⟨rfl, rfl, rfl, rfl, rfl⟩ rfl rfl rfl rfl rfl (by kernel_rfl) Try.func4 (by kernel_rfl)
    (of_decide_eq_true (by kernel_rfl)) (by unfold Func.isWrapper; first | (rw [if_pos (by decide +kernel)]; kernel_rfl) | (rw [if_neg (by decide +kernel)]; exact ⟨rfl, rfl⟩))
    (fun os started H enc _ => lifted os started H enc)

end Go.Proofs.Ytgecggkcadhooaa.xofSkips

/-
  XofJoins, proved: what is read in pieces is what Take tells. No condition beyond the row's own.
-/
import Derived.Test.YtgecggkcadhooaaXJoins
import Derived.Test.YtgecggkcadhooaaFrame
import Derived.Test.YtgecggkcadhooaaTrod
namespace Go.Proofs.Ytgecggkcadhooaa.xofJoins
open Go.ChangeShapes Go.WideShapes Go.ChangeAt Go.RowKit

set_option maxRecDepth 100000 in
theorem lifted (os : Os) (started : os.Started) (H : Type) (enc : TypeId × Value → H) :
    ReturnsInHanded {} Try.checked os 3 .any (Rows.xofJoinsSpec.pre6 enc Try.prog Try.f3 Rows.xofJoinsRow.domain false) (Rows.xofJoinsSpec.post enc Try.prog Try.f3 false true false false) := by
  refine returnsInHanded_of_change_sized (C := Try.checked) own_ started (by kernel_rfl) Try.func3
    (ChangeSpec.witness6 (enc := enc) (C := Try.checked) false ⟨#[], #[.int .i64 0, .int .u16 0, .slice none 0 0, .slice none 0 0, .slice none 0 0], []⟩ 8 (by kernel_rfl) (by kernel_rfl) (by kernel_rfl) (by kernel_rfl)) ?_
  intro W base args ds gs before hval0 hW _ hsz0 _
  have hsz : (DataW.weightsEach Try.prog (Try.f3.params.toList ++ Rows.xofJoinsSpec.plain.varTypes Try.prog) (ds ++ gs)).all (· ≤ reachBytes) = true := hsz0
  have hval : ∀ (j : Nat) t v, Try.f3.params[j]? = some t → args[j]? = some v → Value.okWide Try.prog W .any base t v := hval0
  have hW' := hW
  obtain ⟨p, q, hA0, hV, rfl, _, _⟩ := hW
  have hA : DataW.TrodAll enc Try.prog W 0 (fun _ => true) true Try.f3.params.toList args.toList ds p := hA0
  rw [Try.params3] at hA hval hsz
  obtain ⟨v0, v1, v2, v3, v4, d0, d1, d2, d3, d4, p0, p1, p2, p3, p4, rfl, rfl, rfl, h0, h1, h2, h3, h4⟩ := trodAll_five hA
  obtain ⟨k, rfl, rfl, rfl, w0⟩ := open_int Try.underlying3 (hval 0 3 v0 rfl rfl) h0
  obtain ⟨z1, rfl, rfl, rfl, w1⟩ := open_int Try.underlying22 (hval 1 22 v1 rfl rfl) h1
  have hz1 : 0 ≤ z1 ∧ z1 ≤ 65535 := by simpa [Lit.wf, IntKind.min, IntKind.max, IntKind.signed, IntKind.bits] using w1
  obtain ⟨l, rfl⟩ : ∃ I : Nat, z1 = I := ⟨z1.toNat, by omega⟩
  have hz1 : l ≤ 65535 := by omega
  obtain ⟨A2, ck, nk, key, rfl, hn2, hnc2, hcm2, hr2, hd2⟩ := open_bytes (hval 2 23 v2 rfl rfl) h2 (fun x hx => hW'.lt x (by simp [hx]))
  have hreach2 := bytes_reach hsz (j := 2) rfl rfl hnc2 hd2
  obtain ⟨A3, cd, nd, data, rfl, hn3, hnc3, hcm3, hr3, hd3⟩ := open_bytes (hval 3 23 v3 rfl rfl) h3 (fun x hx => hW'.lt x (by simp [hx]))
  have hreach3 := bytes_reach hsz (j := 3) rfl rfl hnc3 hd3
  obtain ⟨A4, cs, ns, sizes, rfl, hn4, hnc4, hcm4, hr4, hd4⟩ := open_bytes (hval 4 23 v4 rfl rfl) h4 (fun x hx => hW'.lt x (by simp [hx]))
  have hreach4 := bytes_reach hsz (j := 4) rfl rfl hnc4 hd4
  refine (xofJoins_law k l key data sizes A2 A3 A4 nk ck nd cd ns cs W hz1 hn2 hr2 hn3 hnc3 (by unfold maxLen at hcm3; omega) hr3 hn4 hreach4 hr4).mono fun e W' ⟨he, hb⟩ => ?_
  subst he
  exact ⟨_, rfl, law_post hW' rfl (by kernel_rfl) (by rw [Try.params3]; intro t ht; simp at ht; rcases ht with rfl | rfl | rfl <;> exact ⟨by kernel_rfl, of_decide_eq_true (by kernel_rfl)⟩) rfl hb⟩

theorem proved : Rows.XofJoinsSaid :=
  OpenClaim.holds_of_wide 3 Try.f3 rfl rfl rfl rfl rfl rfl rfl ⟨rfl, rfl, rfl, rfl, rfl⟩ rfl rfl rfl rfl rfl (by kernel_rfl) Try.func3 (by kernel_rfl)
    (of_decide_eq_true (by kernel_rfl)) (by unfold Func.isWrapper; first | (rw [if_pos (by decide +kernel)]; kernel_rfl) | (rw [if_neg (by decide +kernel)]; exact ⟨rfl, rfl⟩))
    (fun os started H enc _ => lifted os started H enc)

end Go.Proofs.Ytgecggkcadhooaa.xofJoins

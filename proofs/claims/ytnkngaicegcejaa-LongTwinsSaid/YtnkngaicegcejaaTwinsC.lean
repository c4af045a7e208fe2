/-
  LongTwins, proved: Mix goes both ways alike, of one block twice it is noughts, Over is Mix laid over; the arguments stay. No condition beyond the row's own.
-/
import Derived.Test.YtnkngaicegcejaaTwinsL
import Derived.Test.YtnkngaicegcejaaFrame
namespace Go.Proofs.Ytnkngaicegcejaa.longTwins
open Go.ChangeShapes Go.WideShapes Go.ChangeAt Go.RowKit

set_option maxRecDepth 100000 in
theorem lifted (os : Os) (started : os.Started) (H : Type) (enc : TypeId × Value → H) :
    ReturnsInHanded {} Try.checked os 11 .any (Rows.longTwinsSpec.pre6 enc Try.prog Try.f11 Rows.longTwinsRow.domain false) (Rows.longTwinsSpec.post enc Try.prog Try.f11 false true false false) := by
  refine returnsInHanded_of_change_sized (C := Try.checked) own_ started (by kernel_rfl) Try.func11
    (ChangeSpec.witness6 (enc := enc) (C := Try.checked) false ⟨#[], #[.slice none 0 0, .slice none 0 0, .slice none 0 0], []⟩ 8 (by kernel_rfl) (by kernel_rfl) (by kernel_rfl) (by kernel_rfl)) ?_
  intro W base args ds gs before hval0 hW _ hsz0 _
  have hsz : (DataW.weightsEach Try.prog (Try.f11.params.toList ++ Rows.longTwinsSpec.plain.varTypes Try.prog) (ds ++ gs)).all (· ≤ reachBytes) = true := hsz0
  have hval : ∀ (j : Nat) t v, Try.f11.params[j]? = some t → args[j]? = some v → Value.okWide Try.prog W .any base t v := hval0
  have hW' := hW
  obtain ⟨p, q, hA0, hV, rfl, _, _⟩ := hW
  have hA : DataW.TrodAll enc Try.prog W 0 (fun _ => true) true Try.f11.params.toList args.toList ds p := hA0
  rw [Try.params11] at hA hval hsz
  obtain ⟨v0, v1, v2, d0, d1, d2, p0, p1, p2, rfl, rfl, rfl, h0, h1, h2⟩ := trodAll_three hA
  obtain ⟨A1, c1, n1, x, rfl, hn0, hnc0, hcm0, hr0, hd0⟩ := open_bytes (hval 0 22 v0 rfl rfl) h0 (fun x hx => hW'.lt x (by simp [hx]))
  have hreach0 := bytes_reach hsz (j := 0) rfl rfl hnc0 hd0
  obtain ⟨A2, c2, n2, y, rfl, hn1, hnc1, hcm1, hr1, hd1⟩ := open_bytes (hval 1 22 v1 rfl rfl) h1 (fun x hx => hW'.lt x (by simp [hx]))
  have hreach1 := bytes_reach hsz (j := 1) rfl rfl hnc1 hd1
  obtain ⟨A3, c3, n3, z, rfl, hn2, hnc2, hcm2, hr2, hd2⟩ := open_bytes (hval 2 22 v2 rfl rfl) h2 (fun x hx => hW'.lt x (by simp [hx]))
  have hreach2 := bytes_reach hsz (j := 2) rfl rfl hnc2 hd2
  refine (twins_law A1 A2 A3 n1 n2 n3 c1 c2 c3 x y z W hn0 hn1 hn2 (by omega) (by omega) (by omega) hr0 hr1 hr2).mono fun e W' ⟨he, hb⟩ => ?_
  subst he
  exact ⟨_, rfl, law_post hW' rfl (by kernel_rfl) (by rw [Try.params11]; intro t ht; simp at ht; rcases ht with rfl <;> exact ⟨by kernel_rfl, of_decide_eq_true (by kernel_rfl)⟩) rfl hb⟩

theorem proved : Rows.LongTwinsSaid :=
  OpenClaim.holds_of_wide 11 Try.f11 rfl rfl rfl rfl rfl rfl rfl ⟨rfl, rfl, rfl, rfl, rfl⟩ rfl rfl rfl rfl rfl (by kernel_rfl) Try.func11 (by kernel_rfl)
    (of_decide_eq_true (by kernel_rfl)) (by unfold Func.isWrapper; first | (rw [if_pos (by decide +kernel)]; kernel_rfl) | (rw [if_neg (by decide +kernel)]; exact ⟨rfl, rfl⟩))
    (fun os started H enc _ => lifted os started H enc)

end Go.Proofs.Ytnkngaicegcejaa.longTwins

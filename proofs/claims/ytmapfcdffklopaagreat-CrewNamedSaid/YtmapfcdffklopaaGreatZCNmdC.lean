/-
  CrewNamed, proved: every Named, and the names. No condition beyond the row's own.
-/
import Derived.Test.YtmapfcdffklopaaGreatZ46
import Derived.Test.YtmapfcdffklopaaGreatZ15
import Derived.ChangeMaps5
namespace Go.Proofs.YtmapfcdffklopaaGreat.crewNamed
open Go.ChangeShapes Go.WideShapes Go.ChangeAt Go.RowKit

set_option maxRecDepth 100000 in
theorem lifted (os : Os) (started : os.Started) (H : Type) (enc : TypeId × Value -> H) :
  ReturnsInHanded {} Tryz.checked os 4 .any (Rows.crewNamedSpec.pre6 enc Tryz.prog Tryz.f4 Rows.crewNamedRow.domain false) (Rows.crewNamedSpec.post enc Tryz.prog Tryz.f4 false true false false) := by
 refine returnsInHanded_of_change_sized (C := Tryz.checked) own_ started (by kernel_rfl) Tryz.func4
  (ChangeSpec.witness6 (enc := enc) (C := Tryz.checked) false ⟨#[], #[.string ⟨#[]⟩, .int .i64 0, .slice none 0 0, .slice none 0 0], []⟩ 8 (by kernel_rfl) (by kernel_rfl) (by kernel_rfl) (by kernel_rfl)) ?_
 intro W base args ds gs before hval0 hW _ hsz0 _;have hsz : (DataW.weightsEach Tryz.prog (Tryz.f4.params.toList ++ Rows.crewNamedSpec.plain.varTypes Tryz.prog) (ds ++ gs)).all (· <= reachBytes) = true := hsz0;have hval : ∀ (j : Nat) t v, Tryz.f4.params[j]? = some t -> args[j]? = some v -> Value.okWide Tryz.prog W .any base t v := hval0;have hW' := hW;obtain ⟨p, q, hA0, hV, rfl, _, _⟩ := hW;have hA : DataW.TrodAll enc Tryz.prog W 0 (fun _ => true) true Tryz.f4.params.toList args.toList ds p := hA0;rw [Tryz.params4] at hA hval hsz;obtain ⟨v0, v1, v2, v3, d0, d1, d2, d3, p0, p1, p2, p3, rfl, rfl, rfl, h0, h1, h2, h3⟩ := trodAll_four hA;obtain ⟨n, rfl, rfl, rfl, -⟩ := Go.ChangeMaps.open_string Tryz.underlying9 (hval 0 9 v0 rfl rfl) h0;obtain ⟨size, rfl, rfl, rfl, wk⟩ := open_int Tryz.underlying3 (hval 1 3 v1 rfl rfl) h1;obtain ⟨Ak, ck, nk, key, rfl, hn2, hnc2, hcm2, hr2, hd2⟩ := open_bytes (hval 2 22 v2 rfl rfl) h2 (fun x hx => hW'.lt x (by simp [hx]));obtain ⟨Ad, cd, nd, data, rfl, hn3, hnc3, hcm3, hr3, hd3⟩ := open_bytes (hval 3 22 v3 rfl rfl) h3 (fun x hx => hW'.lt x (by simp [hx]));have hreach := bytes_reach hsz (j := 3) rfl rfl hnc3 hd3;refine (crewNamed_law n size key data Ak Ad nk ck nd cd W hn2 hr2 hn3 hnc3 (by unfold maxLen at hcm3; omega) (by omega) hr3).mono fun e W' ⟨he, hb⟩ => ?_
 subst he;exact ⟨_, rfl, law_post hW' rfl (by kernel_rfl) (by rw [Tryz.params4]; intro t ht; simp at ht; rcases ht with rfl | rfl | rfl | rfl <;> exact ⟨by kernel_rfl, of_decide_eq_true (by kernel_rfl)⟩) rfl hb⟩

theorem proved : Rows.CrewNamedSaid :=
 OpenClaim.holds_of_wide 4 Tryz.f4 rfl rfl rfl rfl rfl rfl rfl ⟨rfl, rfl, rfl, rfl, rfl⟩ rfl rfl rfl rfl rfl (by kernel_rfl) Tryz.func4 (by kernel_rfl)
  (of_decide_eq_true (by kernel_rfl)) (by unfold Func.isWrapper; first | (rw [if_pos (by decide +kernel)]; kernel_rfl) | (rw [if_neg (by decide +kernel)]; exact ⟨rfl, rfl⟩))
  (fun os started H enc _ => lifted os started H enc)

end Go.Proofs.YtmapfcdffklopaaGreat.crewNamed

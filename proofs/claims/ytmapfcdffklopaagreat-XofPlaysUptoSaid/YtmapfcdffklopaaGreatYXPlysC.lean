/-
  XofPlays, proved: a stream answers every script of calls as the document says, where what it is given is of bulk at most 1048576. No other condition.
-/
import Derived.Test.YtmapfcdffklopaaGreatY48
import Derived.Test.YtmapfcdffklopaaGreatY20
import Derived.Test.YtmapfcdffklopaaGreatY23
namespace Go.Proofs.YtmapfcdffklopaaGreat.xofPlays
open Go.ChangeShapes Go.WideShapes Go.ChangeAt Go.RowKit

set_option maxRecDepth 100000 in
theorem lifted (os : Os) (started : os.Started) (H : Type) (enc : TypeId × Value → H) (F : Stop.Interp) :
  ReturnsInHanded {} Tryz.checked os 3 .any ((Rows.OpenSpec.upto Rows.xofPlaysSpec).pre6 enc Tryz.prog Tryz.f3 Rows.xofPlaysUptoRow.domain false) (((Rows.OpenSpec.upto Rows.xofPlaysSpec).at F).post enc Tryz.prog Tryz.f3 false true false false) := by
 refine returnsInHanded_of_cond_sized (C := Tryz.checked) (s := Rows.OpenSpec.upto Rows.xofPlaysSpec) (k := Rows.uptoSmall) rfl own_ started (by kernel_rfl) Tryz.func3
  (OpenSpec.witness (enc := enc) (C := Tryz.checked) (s := Rows.OpenSpec.upto Rows.xofPlaysSpec) (k := Rows.uptoSmall) rfl false ⟨#[], #[.agg #[.int .i64 0, .int .i64 0, .slice none 0 0, .slice none 0 0, .slice none 0 0], .slice none 0 0], []⟩ 8 (by kernel_rfl) (by kernel_rfl) (by kernel_rfl)
   (x := ([.agg [.lit (.int .i64 0), .lit (.int .i64 0), .nil, .nil, .nil], .nil], [], [])) (by kernel_rfl) rfl (by kernel_rfl)) ?_
 intro W base args ds gs before hval0 hW _ hk hsz0 _
 have hbulk := bulks.bound hk
 rw [bulks.append] at hbulk
 have hsz : (DataW.weightsEach Tryz.prog (Tryz.f3.params.toList ++ (Rows.OpenSpec.upto Rows.xofPlaysSpec).bare.plain.varTypes Tryz.prog) (ds ++ gs)).all (· ≤ reachBytes) = true := hsz0
 have hval : ∀ (j : Nat) t v, Tryz.f3.params[j]? = some t → args[j]? = some v → Value.okWide Tryz.prog W .any base t v := hval0
 have hW' := hW
 obtain ⟨p, q, hA0, hV, rfl, _, _⟩ := hW
 have hA : DataW.TrodAll enc Tryz.prog W 0 (fun _ => true) true Tryz.f3.params.toList args.toList ds p := hA0
 rw [Tryz.params3] at hA hval hsz
 obtain ⟨v0, v1, d0, d1, p0, p1, rfl, rfl, rfl, h0, h1⟩ := trodAll_two hA
 simp only [Rows.uptoBulkAll] at hbulk
 obtain ⟨k, len, key, ls, lp, Ak, nk, ck, s, t, rfl, hk1, hs1, ht1⟩ := open_xstart (hval 0 24 v0 rfl rfl) h0 (fun x hx => hW'.lt x (by simp [hx])) hsz (j := 0) rfl rfl
 obtain ⟨As, ns, cs, os, rfl, hn, hnc, hcs, htot, hscr⟩ := open_ops7 (hval 1 25 v1 rfl rfl) h1 (fun x hx => hW'.lt x (by simp [hx])) hsz (j := 1) rfl rfl
 refine (xofPlays_law k len key ls lp Ak nk ck s t As ns cs os W hk1.1 hs1.1 ht1.1 (by have := hk1.2; omega) (by have := hs1.2; omega) (by have := ht1.2; omega) hk1.2.2.2 hs1.2.2.2 ht1.2.2.2 hn (by omega) (by omega) hscr).mono fun e W' ⟨he, hb⟩ => ?_
 subst he
 exact ⟨_, rfl, law_post hW' rfl (by kernel_rfl) (by rw [Tryz.params3]; intro t ht; simp at ht; rcases ht with rfl | rfl <;> exact ⟨by kernel_rfl, of_decide_eq_true (by kernel_rfl)⟩) rfl hb⟩

theorem proved : Rows.XofPlaysUptoSaid :=
 OpenClaim.holds_of_cond 3 Tryz.f3 rfl rfl rfl rfl rfl rfl rfl ⟨rfl, rfl, rfl, rfl, rfl⟩ rfl rfl rfl rfl rfl (by kernel_rfl) Tryz.func3 (by kernel_rfl)
  (of_decide_eq_true (by kernel_rfl)) (by unfold Func.isWrapper; first | (rw [if_pos (by decide +kernel)]; kernel_rfl) | (rw [if_neg (by decide +kernel)]; exact ⟨rfl, rfl⟩))
  (fun os started H enc _ F => lifted os started H enc F)

end Go.Proofs.YtmapfcdffklopaaGreat.xofPlays

/-
  NodeApart, proved: a copy of a hasher, and what Load makes of its bytes, know nothing of the hasher that they came of, where what it is given is of bulk at most 1048576. No other condition.
-/
import Derived.Test.YtboihcigcfmhhaaNAprt
import Derived.Test.YtboihcigcfmhhaaOpenS
import Derived.Test.YtboihcigcfmhhaaFrame
import Derived.Test.YtboihcigcfmhhaaBulk
namespace Go.Proofs.Ytboihcigcfmhhaa.nodeApart
open Go.ChangeShapes Go.WideShapes Go.ChangeAt Go.RowKit

set_option maxRecDepth 100000 in
theorem lifted (os : Os) (started : os.Started) (H : Type) (enc : TypeId × Value → H) (F : Stop.Interp) :
    ReturnsInHanded {} Try.checked os 3 .any ((Rows.OpenSpec.upto Rows.nodeApartSpec).pre6 enc Try.prog Try.f3 Rows.nodeApartUptoRow.domain false) (((Rows.OpenSpec.upto Rows.nodeApartSpec).at F).post enc Try.prog Try.f3 false true false false) := by
  refine returnsInHanded_of_cond_sized (C := Try.checked) (s := Rows.OpenSpec.upto Rows.nodeApartSpec) (k := Rows.uptoSmall) rfl own_ started (by kernel_rfl) Try.func3
    (OpenSpec.witness (enc := enc) (C := Try.checked) (s := Rows.OpenSpec.upto Rows.nodeApartSpec) (k := Rows.uptoSmall) rfl false ⟨#[], #[.agg #[.int .i64 0, .int .i64 0, .int .i64 0, .int .i64 0, .int .i64 0, .int .u32 0, .int .u64 0, .int .u32 0, .int .i64 0, .int .i64 0, .slice none 0 0, .slice none 0 0, .slice none 0 0], .slice none 0 0, .slice none 0 0, .slice none 0 0], []⟩ 8 (by kernel_rfl) (by kernel_rfl) (by kernel_rfl)
      (x := ([.agg [.lit (.int .i64 0), .agg [.lit (.int .i64 0), .lit (.int .i64 0), .lit (.int .i64 0), .lit (.int .i64 0), .lit (.int .u32 0), .lit (.int .u64 0), .lit (.int .u32 0), .lit (.int .i64 0), .lit (.int .i64 0), .nil, .nil], .nil], .nil, .nil, .nil], [], [])) (by kernel_rfl) rfl (by kernel_rfl)) ?_
  intro W base args ds gs before hval0 hW _ hk hsz0 _
  have hbulk := bulks.bound hk
  rw [bulks.append] at hbulk
  have hsz : (DataW.weightsEach Try.prog (Try.f3.params.toList ++ (Rows.OpenSpec.upto Rows.nodeApartSpec).bare.plain.varTypes Try.prog) (ds ++ gs)).all (· ≤ reachBytes) = true := hsz0
  have hval : ∀ (j : Nat) t v, Try.f3.params[j]? = some t → args[j]? = some v → Value.okWide Try.prog W .any base t v := hval0
  have hW' := hW
  obtain ⟨p, q, hA0, hV, rfl, _, _⟩ := hW
  have hA : DataW.TrodAll enc Try.prog W 0 (fun _ => true) true Try.f3.params.toList args.toList ds p := hA0
  rw [Try.params3] at hA hval hsz
  obtain ⟨v0, v1, v2, v3, d0, d1, d2, d3, p0, p1, p2, p3, rfl, rfl, rfl, h0, h1, h2, h3⟩ := trodAll_four hA
  simp only [Rows.uptoBulkAll] at hbulk
  obtain ⟨k, p, ls, lp, key, Ak, nk, ck, rfl, hp, hk1, hnk, hck, hrk⟩ := open_start (hval 0 28 v0 rfl rfl) h0 (fun x hx => hW'.lt x (by simp [hx])) hsz (j := 0) rfl rfl
  obtain ⟨A1, c1, n1, b1, rfl, hn1, hnc1, hcm1, hr1, hd1⟩ := open_bytes (hval 1 24 v1 rfl rfl) h1 (fun x hx => hW'.lt x (by simp [hx]))
  obtain ⟨A2, c2, n2, b2, rfl, hn2, hnc2, hcm2, hr2, hd2⟩ := open_bytes (hval 2 24 v2 rfl rfl) h2 (fun x hx => hW'.lt x (by simp [hx]))
  obtain ⟨A3, c3, n3, b3, rfl, hn3, hnc3, hcm3, hr3, hd3⟩ := open_bytes (hval 3 24 v3 rfl rfl) h3 (fun x hx => hW'.lt x (by simp [hx]))
  have hreach1 := bulks.bytes_le hd1
  have hreach2 := bulks.bytes_le hd2
  have hreach3 := bulks.bytes_le hd3
  refine (nodeApart_law k p ls lp key b1 b2 b3 Ak A1 A2 A3 nk ck n1 c1 n2 c2 n3 c3 W hp hk1 hrk hn1 hnc1 (by unfold maxLen at hcm1; exact hcm1) (by omega) hr1 hn2 hnc2 (by unfold maxLen at hcm2; exact hcm2) (by omega) hr2 hn3 hnc3 (by unfold maxLen at hcm3; exact hcm3) (by omega) hr3).mono fun e W' ⟨he, hb⟩ => ?_
  subst he
  exact ⟨_, rfl, law_post hW' rfl (by kernel_rfl) (by rw [Try.params3]; intro t ht; simp at ht; rcases ht with rfl | rfl | rfl | rfl <;> exact ⟨by kernel_rfl, of_decide_eq_true (by kernel_rfl)⟩) rfl hb⟩

theorem proved : Rows.NodeApartUptoSaid :=
  OpenClaim.holds_of_cond 3 Try.f3 rfl rfl rfl rfl rfl rfl rfl ⟨rfl, rfl, rfl, rfl, rfl⟩ rfl rfl rfl rfl rfl (by kernel_rfl) Try.func3 (by kernel_rfl)
    (of_decide_eq_true (by kernel_rfl)) (by unfold Func.isWrapper; first | (rw [if_pos (by decide +kernel)]; kernel_rfl) | (rw [if_neg (by decide +kernel)]; exact ⟨rfl, rfl⟩))
    (fun os started H enc _ F => lifted os started H enc F)

end Go.Proofs.Ytboihcigcfmhhaa.nodeApart

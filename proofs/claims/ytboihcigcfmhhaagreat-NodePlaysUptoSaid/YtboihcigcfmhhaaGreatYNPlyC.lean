/-
  NodePlays, proved: a hasher answers every script of calls as the document says, where what it is given is of bulk at most 1048576. No other condition.
-/
import Derived.Test.YtboihcigcfmhhaaGreatY48
import Derived.Test.YtboihcigcfmhhaaGreatY21
import Derived.Test.YtboihcigcfmhhaaGreatY6
import Derived.Test.YtboihcigcfmhhaaGreatY9
namespace Go.Proofs.YtboihcigcfmhhaaGreat.nodePlays
open Go.ChangeShapes Go.WideShapes Go.ChangeAt Go.RowKit

set_option maxRecDepth 100000 in
theorem lifted (os : Os) (started : os.Started) (H : Type) (enc : TypeId × Value -> H) (F : Stop.Interp) :
  ReturnsInHanded {} Tryz.checked os 3 .any ((Rows.OpenSpec.upto Rows.nodePlaysSpec).pre6 enc Tryz.prog Tryz.f3 Rows.nodePlaysUptoRow.domain false) (((Rows.OpenSpec.upto Rows.nodePlaysSpec).at F).post enc Tryz.prog Tryz.f3 false true false false) := by
 refine returnsInHanded_of_cond_sized (C := Tryz.checked) (s := Rows.OpenSpec.upto Rows.nodePlaysSpec) (k := Rows.uptoSmall) rfl own_ started (by kernel_rfl) Tryz.func3
  (OpenSpec.witness (enc := enc) (C := Tryz.checked) (s := Rows.OpenSpec.upto Rows.nodePlaysSpec) (k := Rows.uptoSmall) rfl false ⟨#[], #[.agg #[.int .i64 0, .int .i64 0, .int .i64 0, .int .i64 0, .int .i64 0, .int .u32 0, .int .u64 0, .int .u32 0, .int .i64 0, .int .i64 0, .slice none 0 0, .slice none 0 0, .slice none 0 0], .slice none 0 0], []⟩ 8 (by kernel_rfl) (by kernel_rfl) (by kernel_rfl)
   (x := ([.agg [.lit (.int .i64 0), .agg [.lit (.int .i64 0), .lit (.int .i64 0), .lit (.int .i64 0), .lit (.int .i64 0), .lit (.int .u32 0), .lit (.int .u64 0), .lit (.int .u32 0), .lit (.int .i64 0), .lit (.int .i64 0), .nil, .nil], .nil], .nil], [], [])) (by kernel_rfl) rfl (by kernel_rfl)) ?_
 intro W base args ds gs before hval0 hW _ hk hsz0 _;have hbulk := bulks.bound hk;rw [bulks.append] at hbulk;have hsz : (DataW.weightsEach Tryz.prog (Tryz.f3.params.toList ++ (Rows.OpenSpec.upto Rows.nodePlaysSpec).bare.plain.varTypes Tryz.prog) (ds ++ gs)).all (· <= reachBytes) = true := hsz0;have hval : ∀ (j : Nat) t v, Tryz.f3.params[j]? = some t -> args[j]? = some v -> Value.okWide Tryz.prog W .any base t v := hval0;have hW' := hW;obtain ⟨p, q, hA0, hV, rfl, _, _⟩ := hW;have hA : DataW.TrodAll enc Tryz.prog W 0 (fun _ => true) true Tryz.f3.params.toList args.toList ds p := hA0;rw [Tryz.params3] at hA hval hsz;obtain ⟨v0, v1, d0, d1, p0, p1, rfl, rfl, rfl, h0, h1⟩ := trodAll_two hA;simp only [Rows.uptoBulkAll] at hbulk;obtain ⟨k, p, ls, lp, key, Ak, nk, ck, rfl, hp, hk1, hnk, hck, hrk⟩ := open_start (hval 0 28 v0 rfl rfl) h0 (fun x hx => hW'.lt x (by simp [hx])) hsz (j := 0) rfl rfl;obtain ⟨As, ns, cs, os, rfl, hn, hnc, hcs, htot, hscr⟩ := open_ops5 (hval 1 29 v1 rfl rfl) h1 (fun x hx => hW'.lt x (by simp [hx])) hsz (j := 1) rfl rfl (by omega);refine (nodePlays_law k p ls lp key Ak nk ck As ns cs os W hp.fit hp.hls hp.hlp hk1 (by have := hp.cs; omega) (by have := hp.cp; omega) (by omega) hp.rs hp.rp hrk hn (by omega) (by omega) hscr).mono fun e W' ⟨he, hb⟩ => ?_
 subst he;exact ⟨_, rfl, law_post hW' rfl (by kernel_rfl) (by rw [Tryz.params3]; intro t ht; simp at ht; rcases ht with rfl | rfl <;> exact ⟨by kernel_rfl, of_decide_eq_true (by kernel_rfl)⟩) rfl hb⟩

theorem proved : Rows.NodePlaysUptoSaid :=
 OpenClaim.holds_of_cond 3 Tryz.f3 rfl rfl rfl rfl rfl rfl rfl ⟨rfl, rfl, rfl, rfl, rfl⟩ rfl rfl rfl rfl rfl (by kernel_rfl) Tryz.func3 (by kernel_rfl)
  (of_decide_eq_true (by kernel_rfl)) (by unfold Func.isWrapper; first | (rw [if_pos (by decide +kernel)]; kernel_rfl) | (rw [if_neg (by decide +kernel)]; exact ⟨rfl, rfl⟩))
  (fun os started H enc _ F => lifted os started H enc F)

end Go.Proofs.YtboihcigcfmhhaaGreat.nodePlays

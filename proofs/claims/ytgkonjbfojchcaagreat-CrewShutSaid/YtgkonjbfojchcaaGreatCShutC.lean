/-
  CrewShut, proved: behind Close all is refused, and a second Close is none. No condition beyond the row's own.
-/
import Derived.Test.YtgkonjbfojchcaaGreatCShutL
import Derived.Test.YtgkonjbfojchcaaGreatOpenT
import Derived.Test.YtgkonjbfojchcaaGreatFrame
import Derived.Conc.Holds
import Derived.Leaving
namespace Go.Proofs.YtgkonjbfojchcaaGreat
open Go.RowKit
theorem crewShut_law (t : Tr) (a b : Int) (lk ls lp data : List UInt8) (Ad : Option Addr) (nd cd ag : Nat) (w : World) (h : TrIn w t lk ls lp) (hd : data.length = nd) (hnd : nd ≤ 140737488351232) (hrd : RS cB w w.heap.size Ad data) :
    Calls Tryz.prog 4 #[.agg t.cs, .agg #[.int .i64 a, .int .i64 b], .slice Ad nd cd, .int .u8 ag] w fun e w' => e = .returned (.bool true) ∧ Below w.heap.size w w' := by
  by_cases hv : treeE t = 0 ∧ poolE a b = 0
  · exact crewShutYes t a b lk ls lp data Ad nd cd ag w hv.1 hv.2 h.hk h.hs h.hp h.nk h.ns h.np h.rk h.rs h.rp hd hnd hrd
  · exact crewShutNo t a b Ad nd cd ag w hv
end Go.Proofs.YtgkonjbfojchcaaGreat
namespace Go.Proofs.YtgkonjbfojchcaaGreat.crewShut
open Go.ChangeShapes Go.WideShapes Go.ChangeAt Go.RowKit

set_option maxRecDepth 100000 in
theorem lifted (os : Os) (started : os.Started) (H : Type) (enc : TypeId × Value → H) :
    ReturnsInHanded {} Tryz.checked os 4 .any (Rows.crewShutSpec.pre6 enc Tryz.prog Tryz.f4 Rows.crewShutRow.domain false) (Rows.crewShutSpec.post enc Tryz.prog Tryz.f4 false true false false) := by
  refine returnsInHanded_of_change_sized (C := Tryz.checked) own_ started (by kernel_rfl) Tryz.func4
    (ChangeSpec.witness6 (enc := enc) (C := Tryz.checked) false ⟨#[], #[.agg #[.int .i64 0, .int .i64 0, .int .i64 0, .int .i64 0, .int .u32 0, .int .i64 0, .slice none 0 0, .slice none 0 0, .slice none 0 0], .agg #[.int .i64 0, .int .i64 0], .slice none 0 0, .int .u8 0], []⟩ 8 (by kernel_rfl) (by kernel_rfl) (by kernel_rfl) (by kernel_rfl)) ?_
  intro W base args ds gs before hval0 hW _ hsz0 _
  have hsz : (DataW.weightsEach Tryz.prog (Tryz.f4.params.toList ++ Rows.crewShutSpec.plain.varTypes Tryz.prog) (ds ++ gs)).all (· ≤ reachBytes) = true := hsz0
  have hval : ∀ (j : Nat) t v, Tryz.f4.params[j]? = some t → args[j]? = some v → Value.okWide Tryz.prog W .any base t v := hval0
  have hW' := hW
  obtain ⟨p, q, hA0, hV, rfl, _, _⟩ := hW
  have hA : DataW.TrodAll enc Tryz.prog W 0 (fun _ => true) true Tryz.f4.params.toList args.toList ds p := hA0
  rw [Tryz.params4] at hA hval hsz
  obtain ⟨v0, v1, v2, v3, d0, d1, d2, d3, p0, p1, p2, p3, rfl, rfl, rfl, h0, h1, h2, h3⟩ := trodAll_four hA
  obtain ⟨t, lk, ls, lp, rfl, htr⟩ := open_tree (hval 0 28 v0 rfl rfl) h0 (fun x hx => hW'.lt x (by simp [hx])) hsz (j := 0) rfl rfl
  obtain ⟨a, b, rfl⟩ := open_pool (hval 1 30 v1 rfl rfl) h1 (fun x hx => hW'.lt x (by simp [hx])) hsz (j := 1) rfl rfl
  obtain ⟨A2, cd, nd, data, rfl, hn2, hnc2, hcm2, hr2, hd2⟩ := open_bytes (hval 2 22 v2 rfl rfl) h2 (fun x hx => hW'.lt x (by simp [hx]))
  have hreach2 := bytes_reach hsz (j := 2) rfl rfl hnc2 hd2
  obtain ⟨z3, rfl, rfl, rfl, w3⟩ := open_int Tryz.underlying5 (hval 3 5 v3 rfl rfl) h3
  have hz3 : 0 ≤ z3 ∧ z3 ≤ 255 := by simpa [Lit.wf, IntKind.min, IntKind.max, IntKind.signed, IntKind.bits] using w3
  obtain ⟨ag, rfl⟩ : ∃ I : Nat, z3 = I := ⟨z3.toNat, by omega⟩
  have hz3 : ag ≤ 255 := by omega
  refine (crewShut_law t a b lk ls lp data A2 nd cd ag W htr hn2 hreach2 hr2).mono fun e W' ⟨he, hb⟩ => ?_
  subst he
  exact ⟨_, rfl, law_post hW' rfl (by kernel_rfl) (by rw [Tryz.params4]; intro t ht; simp at ht; rcases ht with rfl | rfl | rfl | rfl <;> exact ⟨by kernel_rfl, of_decide_eq_true (by kernel_rfl)⟩) rfl hb⟩

theorem proved : Rows.CrewShutSaid :=
  OpenClaim.holds_of_wide_leaving 4 Tryz.f4 rfl rfl rfl rfl rfl rfl rfl ⟨rfl, rfl, rfl, rfl, rfl⟩ rfl rfl rfl rfl rfl (by kernel_rfl) Tryz.func4 (by kernel_rfl)
    (of_decide_eq_true (by kernel_rfl)) (by unfold Func.isWrapper; first | (rw [if_pos (by decide +kernel)]; kernel_rfl) | (rw [if_neg (by decide +kernel)]; exact ⟨rfl, rfl⟩))
    (fun os started H enc _ enter => ReturnsInOpen.mono (fun _ _ _ x => ⟨x.2.1, onlyLeaving_of_quiet x.1, x.2.2⟩) (fun _ x => x) (lifted os started H enc enter))

end Go.Proofs.YtgkonjbfojchcaaGreat.crewShut

/-
  An array of words that came in, as a list. Lemmas alone; no statement is claimed here.
-/
import Derived.Test.YtnkngaicegcejaaPerm
import Derived.Test.YtnkngaicegcejaaFrame
namespace Go.Proofs.Ytnkngaicegcejaa
open Go.ChangeShapes Go.WideShapes Go.ChangeAt Go.RowKit

def unw : Value → UInt64
  | .int _ n => UInt64.ofNat n.toNat
  | _ => 0
theorem wv_unw {z : Int} (h : (Lit.int .u64 z).wf = true) : wv (unw (.int .u64 z)) = .int .u64 z := by
  have : 0 ≤ z ∧ z ≤ 18446744073709551615 := by simpa [Lit.wf, IntKind.min, IntKind.max, IntKind.signed, IntKind.bits] using h
  simp only [wv, unw, wrd_ofNat]
  congr 1
  omega
set_option maxRecDepth 100000 in
theorem open_words {H : Type} {enc : TypeId × Value → H} {W : World} {base n : Nat} {t : TypeId} {v : Value} {d : DataW H} {p : List MemPlace} (ht : Try.prog.underlying t = some (.array n 34)) (hc : Try.prog.cellsOf t = n)
    (hv : Value.okWide Try.prog W .any base t v) (h : DataW.Trod enc Try.prog W 0 (fun _ => true) true t v d p) : ∃ l : List UInt64, v = .agg (wcs l) ∧ l.length = n := by
  simp only [Value.okWide, ht] at hv
  obtain ⟨cs, rfl, hs, _⟩ := hv
  rw [hc] at hs
  obtain ⟨fuel, hf⟩ := h
  obtain ⟨xs, m, _, _, _, hx, hall⟩ := DataW.trod_array ht hf
  have h1 : Try.prog.cellsOf 34 = 1 := by kernel_rfl
  have key : ∀ i (hi : i < cs.size), ∃ z, cs[i] = .int .u64 z ∧ (Lit.int .u64 z).wf = true := by
    intro i hi
    have h2 := hall i (by omega)
    rw [h1, Nat.mul_one, List.getElem?_eq_getElem (by omega)] at h2
    obtain ⟨z, hz, _, hw⟩ := DataW.trod_int Try.underlying34 h2
    refine ⟨z, ?_, hw⟩
    have h3 : ((Value.agg cs).cells.toList.drop i)[0]? = some (.int .u64 z) := by
      have h4 := congrArg (fun q => q[0]?) hz
      simpa [List.getElem?_take] using h4
    simpa [Value.cells, hi] using h3
  refine ⟨cs.toList.map unw, ?_, by simp [hs]⟩
  refine congrArg Value.agg ?_
  unfold wcs
  apply Array.ext
  · simp
  · intro i h1 h2
    obtain ⟨z, hz, hw⟩ := key i h1
    simp only [List.map_map, List.getElem_toArray, List.getElem_map, Array.getElem_toList, Function.comp, hz]
    exact (wv_unw hw).symm
end Go.Proofs.Ytnkngaicegcejaa

/-
  Structs of whole numbers that came in. Lemmas alone; no statement is claimed here.
-/
import Derived.Test.YtbghkdhkahkfnaaGreatWords
import Derived.Test.YtbghkdhkahkfnaaGreatAr
namespace Go.Proofs.YtbghkdhkahkfnaaGreat
open Go.ChangeShapes Go.WideShapes Go.ChangeAt Go.RowKit

theorem field_int {H : Type} {enc : TypeId × Value → H} {W : World} {cs : Array Value} {fs : Array Field} {t : TypeId} {x : DataW H × List MemPlace} {fuel : Nat} (ht : Tryz.prog.underlying t = some (.struct fs))
  (h : DataW.trod enc Tryz.prog W 0 (fun _ => true) true fuel t cs.toList = some x) (i : Nat) (f : Field) (k : IntKind) (hf : fs[i]? = some f) (hk : Tryz.prog.underlying f.type = some (.int k)) (h1 : Tryz.prog.cellsOf f.type = 1) :
  ∃ n, cs[f.offset]? = some (.int k n) ∧ (Lit.int k n).wf = true := by
 obtain ⟨xs, m, _, _, _, hx, hall⟩ := DataW.trod_struct ht h
 have h2 := hall i f hf
 have hi : i < xs.length := by rw [hx]; exact (Array.getElem?_eq_some_iff.1 hf).1
 rw [h1, List.getElem?_eq_getElem hi] at h2
 obtain ⟨n, hn, _, hw⟩ := DataW.trod_int hk h2
 refine ⟨n, ?_, hw⟩
 have h3 := congrArg (fun q => q[0]?) hn
 simpa [List.getElem?_take] using h3
end Go.Proofs.YtbghkdhkahkfnaaGreat

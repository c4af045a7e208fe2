/-
  Settings of Argon2 and spots that came in, opened. Lemmas alone; no statement is claimed here.
-/
import Derived.Test.YtbghkdhkahkfnaaGreatStructs
namespace Go.Proofs.YtbghkdhkahkfnaaGreat
open Go.ChangeShapes Go.WideShapes Go.ChangeAt Go.RowKit

theorem five_of {cs : Array Value} {a b c d e : Value} (hs : cs.size = 5) (h0 : cs[0]? = some a) (h1 : cs[1]? = some b) (h2 : cs[2]? = some c) (h3 : cs[3]? = some d) (h4 : cs[4]? = some e) : cs = #[a, b, c, d, e] := by
 apply Array.ext_getElem?
 intro i
 match i with
 | 0 => exact h0
 | 1 => exact h1
 | 2 => exact h2
 | 3 => exact h3
 | 4 => exact h4
 | i + 5 => rw [Array.getElem?_eq_none (by omega)]; rfl

set_option maxRecDepth 100000 in
theorem open_argon {H : Type} {enc : TypeId × Value → H} {W : World} {base : Nat} {v : Value} {d : DataW H} {p : List MemPlace}
  (hv : Value.okWide Tryz.prog W .any base 23 v) (h : DataW.Trod enc Tryz.prog W 0 (fun _ => true) true 23 v d p) : ∃ a : Ar, v = a.v := by
 obtain ⟨cs, rfl, hs⟩ := okWide_struct Tryz.underlying23 hv
 have hs : cs.size = 5 := hs.trans (by kernel_rfl)
 obtain ⟨fuel, hf⟩ := h
 have hf : DataW.trod enc Tryz.prog W 0 (fun _ => true) true fuel 23 cs.toList = some (d, p) := by simpa [Value.cells] using hf
 obtain ⟨n0, h0, _⟩ := field_int Tryz.underlying23 hf 0 _ .i64 rfl Tryz.underlying3 (by kernel_rfl)
 obtain ⟨n1, h1, _⟩ := field_int Tryz.underlying23 hf 1 _ .i64 rfl Tryz.underlying3 (by kernel_rfl)
 obtain ⟨n2, h2, _⟩ := field_int Tryz.underlying23 hf 2 _ .i64 rfl Tryz.underlying3 (by kernel_rfl)
 obtain ⟨n3, h3, _⟩ := field_int Tryz.underlying23 hf 3 _ .i64 rfl Tryz.underlying3 (by kernel_rfl)
 obtain ⟨n4, h4, _⟩ := field_int Tryz.underlying23 hf 4 _ .i64 rfl Tryz.underlying3 (by kernel_rfl)
 exact ⟨⟨n0, n1, n2, n3, n4⟩, by rw [five_of hs h0 h1 h2 h3 h4]; rfl⟩

end Go.Proofs.YtbghkdhkahkfnaaGreat

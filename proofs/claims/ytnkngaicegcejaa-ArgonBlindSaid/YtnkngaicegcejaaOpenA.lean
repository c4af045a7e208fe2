/-
  Settings of Argon2 and spots that came in, opened. Lemmas alone; no statement is claimed here.
-/
import Derived.Test.YtnkngaicegcejaaStructs
namespace Go.Proofs.Ytnkngaicegcejaa
open Go.ChangeShapes Go.WideShapes Go.ChangeAt Go.RowKit

theorem five_of {cs : Array Value} {a b c d e : Value} (hs : cs.size = 5) (h0 : cs[0]? = some a) (h1 : cs[1]? = some b) (h2 : cs[2]? = some c) (h3 : cs[3]? = some d) (h4 : cs[4]? = some e) : cs = #[a, b, c, d, e] := by
  apply Array.ext_getElem?
  intro i
  match i with
  | 0 => exact h0
  | 1 => exact h1
  | 2 => exact h2
  | 3 => exact h3
  | 4 => exact h4
  | i + 5 => rw [Array.getElem?_eq_none (by omega)]; rfl

set_option maxRecDepth 100000 in
theorem open_argon {H : Type} {enc : TypeId × Value → H} {W : World} {base : Nat} {v : Value} {d : DataW H} {p : List MemPlace}
    (hv : Value.okWide Try.prog W .any base 49 v) (h : DataW.Trod enc Try.prog W 0 (fun _ => true) true 49 v d p) : ∃ a : Ar, v = a.v := by
  obtain ⟨cs, rfl, hs⟩ := okWide_struct Try.underlying49 hv
  have hs : cs.size = 5 := hs.trans (by kernel_rfl)
  obtain ⟨fuel, hf⟩ := h
  have hf : DataW.trod enc Try.prog W 0 (fun _ => true) true fuel 49 cs.toList = some (d, p) := by simpa [Value.cells] using hf
  obtain ⟨n0, h0, _⟩ := field_int Try.underlying49 hf 0 _ .i64 rfl Try.underlying3 (by kernel_rfl)
  obtain ⟨n1, h1, _⟩ := field_int Try.underlying49 hf 1 _ .i64 rfl Try.underlying3 (by kernel_rfl)
  obtain ⟨n2, h2, _⟩ := field_int Try.underlying49 hf 2 _ .i64 rfl Try.underlying3 (by kernel_rfl)
  obtain ⟨n3, h3, _⟩ := field_int Try.underlying49 hf 3 _ .i64 rfl Try.underlying3 (by kernel_rfl)
  obtain ⟨n4, h4, _⟩ := field_int Try.underlying49 hf 4 _ .i64 rfl Try.underlying3 (by kernel_rfl)
  exact ⟨⟨n0, n1, n2, n3, n4⟩, by rw [five_of hs h0 h1 h2 h3 h4]; rfl⟩

set_option maxRecDepth 100000 in
theorem open_spot {H : Type} {enc : TypeId × Value → H} {W : World} {base : Nat} {v : Value} {d : DataW H} {p : List MemPlace}
    (hv : Value.okWide Try.prog W .any base 51 v) (h : DataW.Trod enc Try.prog W 0 (fun _ => true) true 51 v d p) :
    ∃ (a b c x : Int) (j : UInt64), v = .agg #[.int .i64 a, .int .i64 b, .int .i64 c, .int .i64 x, .int .u64 (wrd j)] := by
  obtain ⟨cs, rfl, hs⟩ := okWide_struct Try.underlying51 hv
  have hs : cs.size = 5 := hs.trans (by kernel_rfl)
  obtain ⟨fuel, hf⟩ := h
  have hf : DataW.trod enc Try.prog W 0 (fun _ => true) true fuel 51 cs.toList = some (d, p) := by simpa [Value.cells] using hf
  obtain ⟨n0, h0, _⟩ := field_int Try.underlying51 hf 0 _ .i64 rfl Try.underlying3 (by kernel_rfl)
  obtain ⟨n1, h1, _⟩ := field_int Try.underlying51 hf 1 _ .i64 rfl Try.underlying3 (by kernel_rfl)
  obtain ⟨n2, h2, _⟩ := field_int Try.underlying51 hf 2 _ .i64 rfl Try.underlying3 (by kernel_rfl)
  obtain ⟨n3, h3, _⟩ := field_int Try.underlying51 hf 3 _ .i64 rfl Try.underlying3 (by kernel_rfl)
  obtain ⟨n4, h4, w4⟩ := field_int Try.underlying51 hf 4 _ .u64 rfl Try.underlying34 (by kernel_rfl)
  have e4 := wv_unw w4
  refine ⟨n0, n1, n2, n3, unw (.int .u64 n4), ?_⟩
  rw [← e4] at h4
  rw [five_of hs h0 h1 h2 h3 h4]
  rfl
end Go.Proofs.Ytnkngaicegcejaa

/-
  What a hasher is made of, opened. Lemmas alone; no statement is claimed here.
-/
import Derived.Test.YtlnnfijdldkpiaaOpenP
import Derived.Test.YtlnnfijdldkpiaaFed
namespace Go.Proofs.Ytlnnfijdldkpiaa
open Go.ChangeShapes Go.WideShapes Go.ChangeAt Go.RowKit

set_option maxRecDepth 100000 in
theorem got_start {H : Type} {enc : TypeId × Value → H} {W : World} {L : List Value} (h : Got enc W 34 L) : ∃ (k : Int) (p : Pr) (ls lp key : List UInt8) (Ak : Option Addr) (nk ck : Nat), L = [Value.int .i64 k] ++ p.cs.toList ++ [Value.slice Ak nk ck] ∧ PrIn W p ls lp ∧ key.length = nk ∧ nk ≤ ck ∧ ck ≤ 140737488351232 ∧ RS cB W W.heap.size Ak key := by
  obtain ⟨hl, hf⟩ := got_struct Try.underlying34 h
  have hl : L.length = 13 := hl.trans (by kernel_rfl)
  have ci : Try.prog.cellsOf 3 = 1 := by kernel_rfl
  have cp : Try.prog.cellsOf 26 = 11 := by kernel_rfl
  have cb : Try.prog.cellsOf 24 = 1 := by kernel_rfl
  have g0 : Got enc W 3 ((L.drop 0).take (Try.prog.cellsOf 3)) := hf 0 _ rfl
  rw [ci] at g0
  obtain ⟨k, e0, _⟩ := got_int Try.underlying3 g0
  have g1 : Got enc W 26 ((L.drop 1).take (Try.prog.cellsOf 26)) := hf 1 _ rfl
  rw [cp] at g1
  obtain ⟨p, ls, lp, e1, hp⟩ := got_params g1
  have g2 : Got enc W 24 ((L.drop 12).take (Try.prog.cellsOf 24)) := hf 2 _ rfl
  rw [cb] at g2
  obtain ⟨A, n, c, l, e2, h1, h2, h3, h4⟩ := got_bytes g2
  refine ⟨k, p, ls, lp, l, A, n, c, ?_, hp, h1, h2, h3, h4⟩
  rw [← e0, ← e1, ← e2]
  rw [List.drop_zero]
  have q1 : L.take 1 ++ (L.drop 1).take 11 = L.take 12 := by rw [← List.take_add]
  have q2 : (L.drop 12).take 1 = L.drop 12 := List.take_of_length_le (by rw [List.length_drop]; omega)
  rw [q1, q2, List.take_append_drop]
set_option maxRecDepth 100000 in
theorem open_start {H : Type} {enc : TypeId × Value → H} {W : World} {base : Nat} {v : Value} {d : DataW H} {p : List MemPlace} {ts : List TypeId} {ds : List (DataW H)}
    (hv : Value.okWide Try.prog W .any base 34 v) (h : DataW.Trod enc Try.prog W 0 (fun _ => true) true 34 v d p) (hlt : ∀ x ∈ p, x.block < W.heap.size)
    (hsz : (DataW.weightsEach Try.prog ts ds).all (· ≤ reachBytes) = true) {j : Nat} (ht : ts[j]? = some 34) (hd : ds[j]? = some d) :
    ∃ (k : Int) (p : Pr) (ls lp key : List UInt8) (Ak : Option Addr) (nk ck : Nat), v = stV k p (.slice Ak nk ck) ∧ PrIn W p ls lp ∧ key.length = nk ∧ nk ≤ ck ∧ ck ≤ 140737488351232 ∧ RS cB W W.heap.size Ak key := by
  obtain ⟨cs, rfl, hs⟩ := okWide_struct Try.underlying34 hv
  obtain ⟨k, p, ls, lp, key, Ak, nk, ck, e, hp, h1, h2, h3, h4⟩ := got_start (got_top h hlt hsz ht hd)
  refine ⟨k, p, ls, lp, key, Ak, nk, ck, ?_, hp, h1, h2, h3, h4⟩
  have e2 : cs.toList = [Value.int .i64 k] ++ p.cs.toList ++ [Value.slice Ak nk ck] := e
  have e3 : cs = ([Value.int .i64 k] ++ p.cs.toList ++ [Value.slice Ak nk ck]).toArray := by rw [← e2]
  rw [e3]
  rfl
end Go.Proofs.Ytlnnfijdldkpiaa

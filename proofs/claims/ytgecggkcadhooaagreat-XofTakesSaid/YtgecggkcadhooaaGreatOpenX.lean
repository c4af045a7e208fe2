/-
  What a stream is made of, opened. Lemmas alone; no statement is claimed here.
-/
import Derived.Test.YtgecggkcadhooaaGreatOpenP
namespace Go.Proofs.YtgecggkcadhooaaGreat
open Go.ChangeShapes Go.WideShapes Go.ChangeAt Go.RowKit

/-- a Start of layer 7 -/
def sxV (k len : Int) (Ak : Option Addr) (nk ck : Nat) (s t : Sl) : Value := .agg #[.int .i64 k, .int .i64 len, .slice Ak nk ck, s.v, t.v]
set_option maxRecDepth 100000 in
theorem got_xstart {H : Type} {enc : TypeId × Value → H} {W : World} {L : List Value} (h : Got enc W 24 L) : ∃ (k len : Int) (key ls lp : List UInt8) (Ak : Option Addr) (nk ck : Nat) (s t : Sl), L = [Value.int .i64 k, Value.int .i64 len, Value.slice Ak nk ck, s.v, t.v] ∧
    (key.length = nk ∧ nk ≤ ck ∧ ck ≤ 140737488351232 ∧ RS cB W W.heap.size Ak key) ∧ (ls.length = s.n ∧ s.n ≤ s.c ∧ s.c ≤ 140737488351232 ∧ RS cB W W.heap.size s.A ls) ∧ (lp.length = t.n ∧ t.n ≤ t.c ∧ t.c ≤ 140737488351232 ∧ RS cB W W.heap.size t.A lp) := by
  obtain ⟨hl, hf⟩ := got_struct Tryz.underlying24 h
  have hl : L.length = 5 := hl.trans (by kernel_rfl)
  have ci : Tryz.prog.cellsOf 3 = 1 := by kernel_rfl
  have cb : Tryz.prog.cellsOf 22 = 1 := by kernel_rfl
  have g0 : Got enc W 3 ((L.drop 0).take (Tryz.prog.cellsOf 3)) := hf 0 _ rfl
  rw [ci] at g0
  obtain ⟨k, e0, _⟩ := got_int Tryz.underlying3 g0
  have g1 : Got enc W 3 ((L.drop 1).take (Tryz.prog.cellsOf 3)) := hf 1 _ rfl
  rw [ci] at g1
  obtain ⟨len, e1, _⟩ := got_int Tryz.underlying3 g1
  have g2 : Got enc W 22 ((L.drop 2).take (Tryz.prog.cellsOf 22)) := hf 2 _ rfl
  rw [cb] at g2
  obtain ⟨A, n, c, l, e2, h1, h2, h3, h4⟩ := got_bytes g2
  have g3 : Got enc W 22 ((L.drop 3).take (Tryz.prog.cellsOf 22)) := hf 3 _ rfl
  rw [cb] at g3
  obtain ⟨A3, n3, c3, l3, e3, i1, i2, i3, i4⟩ := got_bytes g3
  have g4 : Got enc W 22 ((L.drop 4).take (Tryz.prog.cellsOf 22)) := hf 4 _ rfl
  rw [cb] at g4
  obtain ⟨A4, n4, c4, l4, e4, j1, j2, j3, j4⟩ := got_bytes g4
  refine ⟨k, len, l, l3, l4, A, n, c, ⟨A3, n3, c3⟩, ⟨A4, n4, c4⟩, ?_, ⟨h1, h2, h3, h4⟩, ⟨i1, i2, i3, i4⟩, ⟨j1, j2, j3, j4⟩⟩
  match L, hl with
  | [a, b, c, d, e], _ =>
    simp at e0 e1 e2 e3 e4
    subst e0 e1 e2 e3 e4
    rfl
set_option maxRecDepth 100000 in
theorem open_xstart {H : Type} {enc : TypeId × Value → H} {W : World} {base : Nat} {v : Value} {d : DataW H} {p : List MemPlace} {ts : List TypeId} {ds : List (DataW H)}
    (hv : Value.okWide Tryz.prog W .any base 24 v) (h : DataW.Trod enc Tryz.prog W 0 (fun _ => true) true 24 v d p) (hlt : ∀ x ∈ p, x.block < W.heap.size)
    (hsz : (DataW.weightsEach Tryz.prog ts ds).all (· ≤ reachBytes) = true) {j : Nat} (ht : ts[j]? = some 24) (hd : ds[j]? = some d) :
    ∃ (k len : Int) (key ls lp : List UInt8) (Ak : Option Addr) (nk ck : Nat) (s t : Sl), v = sxV k len Ak nk ck s t ∧
    (key.length = nk ∧ nk ≤ ck ∧ ck ≤ 140737488351232 ∧ RS cB W W.heap.size Ak key) ∧ (ls.length = s.n ∧ s.n ≤ s.c ∧ s.c ≤ 140737488351232 ∧ RS cB W W.heap.size s.A ls) ∧ (lp.length = t.n ∧ t.n ≤ t.c ∧ t.c ≤ 140737488351232 ∧ RS cB W W.heap.size t.A lp) := by
  obtain ⟨cs, rfl, hs⟩ := okWide_struct Tryz.underlying24 hv
  obtain ⟨k, len, key, ls, lp, Ak, nk, ck, s, t, e, h1, h2, h3⟩ := got_xstart (got_top h hlt hsz ht hd)
  refine ⟨k, len, key, ls, lp, Ak, nk, ck, s, t, ?_, h1, h2, h3⟩
  have e2 : cs.toList = [Value.int .i64 k, Value.int .i64 len, Value.slice Ak nk ck, s.v, t.v] := e
  have e3 : cs = ([Value.int .i64 k, Value.int .i64 len, Value.slice Ak nk ck, s.v, t.v] : List Value).toArray := by rw [← e2]
  rw [e3]
  rfl
end Go.Proofs.YtgecggkcadhooaaGreat

/-
  Trees and pools that came in, opened. Lemmas alone; no statement is claimed here.
-/
import Derived.Test.YtgkonjbfojchcaaGreatOpen
import Derived.Test.YtgkonjbfojchcaaGreatCValid
namespace Go.Proofs.YtgkonjbfojchcaaGreat
open Go.ChangeShapes Go.WideShapes Go.ChangeAt Go.RowKit

theorem nine_ {L : List Value} {a b c d e f g h i : Value} (hl : L.length = 9) (h0 : L[0]? = some a) (h1 : L[1]? = some b) (h2 : L[2]? = some c) (h3 : L[3]? = some d) (h4 : L[4]? = some e) (h5 : L[5]? = some f) (h6 : L[6]? = some g) (h7 : L[7]? = some h) (h8 : L[8]? = some i) : L = [a, b, c, d, e, f, g, h, i] := by
  match L, hl with
  | [_, _, _, _, _, _, _, _, _], _ =>
    simp only [List.getElem?_cons_zero, List.getElem?_cons_succ, Option.some.injEq] at h0 h1 h2 h3 h4 h5 h6 h7 h8
    subst h0 h1 h2 h3 h4 h5 h6 h7 h8
    rfl
theorem two_ {L : List Value} {a b : Value} (hl : L.length = 2) (h0 : L[0]? = some a) (h1 : L[1]? = some b) : L = [a, b] := by
  match L, hl with
  | [_, _], _ =>
    simp only [List.getElem?_cons_zero, List.getElem?_cons_succ, Option.some.injEq] at h0 h1
    subst h0 h1
    rfl
/-- what a tree's slices hold -/
structure TrIn (W : World) (t : Tr) (lk ls lp : List UInt8) : Prop where
  hk : lk.length = t.key.n
  hs : ls.length = t.salt.n
  hp : lp.length = t.pers.n
  nk : t.key.n ≤ 140737488351232
  ns : t.salt.n ≤ 140737488351232
  np : t.pers.n ≤ 140737488351232
  rk : RS cB W W.heap.size t.key.A lk
  rs : RS cB W W.heap.size t.salt.A ls
  rp : RS cB W W.heap.size t.pers.A lp
set_option maxRecDepth 100000 in
theorem got_tree {H : Type} {enc : TypeId × Value → H} {W : World} {L : List Value} (h : Got enc W 28 L) : ∃ (t : Tr) (lk ls lp : List UInt8), L = t.cs.toList ∧ TrIn W t lk ls lp := by
  obtain ⟨hl, hf⟩ := got_struct Tryz.underlying28 h
  have hl : L.length = 9 := hl.trans (by kernel_rfl)
  have ck : Tryz.prog.cellsOf 25 = 1 := by kernel_rfl
  have ci : Tryz.prog.cellsOf 3 = 1 := by kernel_rfl
  have c32 : Tryz.prog.cellsOf 26 = 1 := by kernel_rfl
  have cb : Tryz.prog.cellsOf 22 = 1 := by kernel_rfl
  have g0 : Got enc W 25 ((L.drop 0).take (Tryz.prog.cellsOf 25)) := hf 0 _ rfl
  rw [ck] at g0
  obtain ⟨n0, e0, _⟩ := got_int Tryz.underlying25 g0
  have g1 : Got enc W 3 ((L.drop 1).take (Tryz.prog.cellsOf 3)) := hf 1 _ rfl
  rw [ci] at g1
  obtain ⟨n1, e1, _⟩ := got_int Tryz.underlying3 g1
  have g2 : Got enc W 3 ((L.drop 2).take (Tryz.prog.cellsOf 3)) := hf 2 _ rfl
  rw [ci] at g2
  obtain ⟨n2, e2, _⟩ := got_int Tryz.underlying3 g2
  have g3 : Got enc W 3 ((L.drop 3).take (Tryz.prog.cellsOf 3)) := hf 3 _ rfl
  rw [ci] at g3
  obtain ⟨n3, e3, _⟩ := got_int Tryz.underlying3 g3
  have g4 : Got enc W 26 ((L.drop 4).take (Tryz.prog.cellsOf 26)) := hf 4 _ rfl
  rw [c32] at g4
  obtain ⟨n4, e4, _⟩ := got_int Tryz.underlying26 g4
  have g5 : Got enc W 3 ((L.drop 5).take (Tryz.prog.cellsOf 3)) := hf 5 _ rfl
  rw [ci] at g5
  obtain ⟨n5, e5, _⟩ := got_int Tryz.underlying3 g5
  have g6 : Got enc W 22 ((L.drop 6).take (Tryz.prog.cellsOf 22)) := hf 6 _ rfl
  rw [cb] at g6
  obtain ⟨A6, n6, c6, l6, e6, hl6, hn6, hc6, hr6⟩ := got_bytes g6
  have g7 : Got enc W 22 ((L.drop 7).take (Tryz.prog.cellsOf 22)) := hf 7 _ rfl
  rw [cb] at g7
  obtain ⟨A7, n7, c7, l7, e7, hl7, hn7, hc7, hr7⟩ := got_bytes g7
  have g8 : Got enc W 22 ((L.drop 8).take (Tryz.prog.cellsOf 22)) := hf 8 _ rfl
  rw [cb] at g8
  obtain ⟨A8, n8, c8, l8, e8, hl8, hn8, hc8, hr8⟩ := got_bytes g8
  exact ⟨⟨n0, n1, n2, n3, n4, n5, ⟨A6, n6, c6⟩, ⟨A7, n7, c7⟩, ⟨A8, n8, c8⟩⟩, l6, l7, l8, nine_ hl (cut_at e0) (cut_at e1) (cut_at e2) (cut_at e3) (cut_at e4) (cut_at e5) (cut_at e6) (cut_at e7) (cut_at e8), ⟨hl6, hl7, hl8, by show n6 ≤ _; omega, by show n7 ≤ _; omega, by show n8 ≤ _; omega, hr6, hr7, hr8⟩⟩
set_option maxRecDepth 100000 in
theorem open_tree {H : Type} {enc : TypeId × Value → H} {W : World} {base : Nat} {v : Value} {d : DataW H} {p : List MemPlace} {ts : List TypeId} {ds : List (DataW H)}
    (hv : Value.okWide Tryz.prog W .any base 28 v) (h : DataW.Trod enc Tryz.prog W 0 (fun _ => true) true 28 v d p) (hlt : ∀ x ∈ p, x.block < W.heap.size)
    (hsz : (DataW.weightsEach Tryz.prog ts ds).all (· ≤ reachBytes) = true) {j : Nat} (ht : ts[j]? = some 28) (hd : ds[j]? = some d) :
    ∃ (t : Tr) (lk ls lp : List UInt8), v = .agg t.cs ∧ TrIn W t lk ls lp := by
  obtain ⟨cs, rfl, hs⟩ := okWide_struct Tryz.underlying28 hv
  obtain ⟨t, lk, ls, lp, e, hp⟩ := got_tree (got_top h hlt hsz ht hd)
  have e2 : cs.toList = t.cs.toList := e
  exact ⟨t, lk, ls, lp, by rw [Array.toList_inj.1 e2], hp⟩
set_option maxRecDepth 100000 in
theorem open_pool {H : Type} {enc : TypeId × Value → H} {W : World} {base : Nat} {v : Value} {d : DataW H} {p : List MemPlace} {ts : List TypeId} {ds : List (DataW H)}
    (hv : Value.okWide Tryz.prog W .any base 30 v) (h : DataW.Trod enc Tryz.prog W 0 (fun _ => true) true 30 v d p) (hlt : ∀ x ∈ p, x.block < W.heap.size)
    (hsz : (DataW.weightsEach Tryz.prog ts ds).all (· ≤ reachBytes) = true) {j : Nat} (ht : ts[j]? = some 30) (hd : ds[j]? = some d) :
    ∃ (a b : Int), v = .agg #[.int .i64 a, .int .i64 b] := by
  obtain ⟨cs, rfl, hs⟩ := okWide_struct Tryz.underlying30 hv
  obtain ⟨hl, hf⟩ := got_struct Tryz.underlying30 (got_top h hlt hsz ht hd)
  have ci : Tryz.prog.cellsOf 3 = 1 := by kernel_rfl
  change cs.toList.length = _ at hl
  have hl : cs.toList.length = 2 := hl.trans (by kernel_rfl)
  have g0 : Got enc W 3 ((cs.toList.drop 0).take (Tryz.prog.cellsOf 3)) := hf 0 _ rfl
  rw [ci] at g0
  obtain ⟨a, q0, _⟩ := got_int Tryz.underlying3 g0
  have g1 : Got enc W 3 ((cs.toList.drop 1).take (Tryz.prog.cellsOf 3)) := hf 1 _ rfl
  rw [ci] at g1
  obtain ⟨b, q1, _⟩ := got_int Tryz.underlying3 g1
  have e2 : cs.toList = (#[Value.int .i64 a, .int .i64 b]).toList := two_ hl (cut_at q0) (cut_at q1)
  exact ⟨a, b, by rw [Array.toList_inj.1 e2]⟩
end Go.Proofs.YtgkonjbfojchcaaGreat

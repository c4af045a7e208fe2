/-
  What the statements of layer 8 are given, opened. Lemmas alone; no statement is claimed here.
-/
import Derived.Test.YtghpofnaojbbkaaOpenP
namespace Go.Proofs.Ytghpofnaojbbkaa
open Go.ChangeShapes Go.WideShapes Go.ChangeAt Go.RowKit

theorem six_l {L : List Value} {a b c d e f : Value} (hl : L.length = 6) (h0 : L[0]? = some a) (h1 : L[1]? = some b) (h2 : L[2]? = some c) (h3 : L[3]? = some d) (h4 : L[4]? = some e) (h5 : L[5]? = some f) : L = [a, b, c, d, e, f] := by
  match L, hl with
  | [_, _, _, _, _, _], _ =>
    simp only [List.getElem?_cons_zero, List.getElem?_cons_succ, Option.some.injEq] at h0 h1 h2 h3 h4 h5
    subst h0 h1 h2 h3 h4 h5
    rfl
/-- a slice that reads as l -/
structure SlIn (W : World) (s : Sl) (l : List UInt8) : Prop where
  len : l.length = s.n
  cap : s.n ≤ s.c ∧ s.c ≤ 140737488351232
  reads : RS cB W W.heap.size s.A l
theorem SlIn.below {W W' : World} {s : Sl} {l : List UInt8} (h : SlIn W s l) (hb : Below W.heap.size W W') : SlIn W' s l := ⟨h.len, h.cap, (h.reads.below hb).more hb.size⟩
/-- a plan in memory -/
def planC (k d : Int) (a b c e : Sl) : Array Value := #[.int .i64 k, .int .i64 d, .slice a.A a.n a.c, .slice b.A b.n b.c, .slice c.A c.n c.c, .slice e.A e.n e.c]
set_option maxRecDepth 100000 in
theorem open_plan {H : Type} {enc : TypeId × Value → H} {W : World} {base : Nat} {v : Value} {d : DataW H} {p : List MemPlace} {ts : List TypeId} {ds : List (DataW H)}
    (hv : Value.okWide Try.prog W .any base 24 v) (h : DataW.Trod enc Try.prog W 0 (fun _ => true) true 24 v d p) (hlt : ∀ x ∈ p, x.block < W.heap.size)
    (hsz : (DataW.weightsEach Try.prog ts ds).all (· ≤ reachBytes) = true) {j : Nat} (ht : ts[j]? = some 24) (hd : ds[j]? = some d) :
    ∃ (k dg : Int) (a b c e : Sl) (la lb lc le_ : List UInt8), v = .agg (planC k dg a b c e) ∧ SlIn W a la ∧ SlIn W b lb ∧ SlIn W c lc ∧ SlIn W e le_ := by
  obtain ⟨cs, rfl, hs⟩ := okWide_struct Try.underlying24 hv
  obtain ⟨hl, hf⟩ := got_struct Try.underlying24 (got_top h hlt hsz ht hd)
  change cs.toList.length = _ at hl
  have hl : cs.toList.length = 6 := hl.trans (by kernel_rfl)
  have ci : Try.prog.cellsOf 3 = 1 := by kernel_rfl
  have cb : Try.prog.cellsOf 22 = 1 := by kernel_rfl
  have g0 : Got enc W 3 ((cs.toList.drop 0).take (Try.prog.cellsOf 3)) := hf 0 _ rfl
  rw [ci] at g0
  obtain ⟨k, e0, _⟩ := got_int Try.underlying3 g0
  have g1 : Got enc W 3 ((cs.toList.drop 1).take (Try.prog.cellsOf 3)) := hf 1 _ rfl
  rw [ci] at g1
  obtain ⟨dg, e1, _⟩ := got_int Try.underlying3 g1
  have g2 : Got enc W 22 ((cs.toList.drop 2).take (Try.prog.cellsOf 22)) := hf 2 _ rfl
  rw [cb] at g2
  obtain ⟨A2, n2, c2, l2, e2, hl2, hn2, hc2, hr2⟩ := got_bytes g2
  have g3 : Got enc W 22 ((cs.toList.drop 3).take (Try.prog.cellsOf 22)) := hf 3 _ rfl
  rw [cb] at g3
  obtain ⟨A3, n3, c3, l3, e3, hl3, hn3, hc3, hr3⟩ := got_bytes g3
  have g4 : Got enc W 22 ((cs.toList.drop 4).take (Try.prog.cellsOf 22)) := hf 4 _ rfl
  rw [cb] at g4
  obtain ⟨A4, n4, c4, l4, e4, hl4, hn4, hc4, hr4⟩ := got_bytes g4
  have g5 : Got enc W 22 ((cs.toList.drop 5).take (Try.prog.cellsOf 22)) := hf 5 _ rfl
  rw [cb] at g5
  obtain ⟨A5, n5, c5, l5, e5, hl5, hn5, hc5, hr5⟩ := got_bytes g5
  have e6 : cs.toList = (planC k dg ⟨A2, n2, c2⟩ ⟨A3, n3, c3⟩ ⟨A4, n4, c4⟩ ⟨A5, n5, c5⟩).toList := six_l hl (cut_at e0) (cut_at e1) (cut_at e2) (cut_at e3) (cut_at e4) (cut_at e5)
  exact ⟨k, dg, ⟨A2, n2, c2⟩, ⟨A3, n3, c3⟩, ⟨A4, n4, c4⟩, ⟨A5, n5, c5⟩, l2, l3, l4, l5, by rw [Array.toList_inj.1 e6], ⟨hl2, ⟨hn2, hc2⟩, hr2⟩, ⟨hl3, ⟨hn3, hc3⟩, hr3⟩, ⟨hl4, ⟨hn4, hc4⟩, hr4⟩, ⟨hl5, ⟨hn5, hc5⟩, hr5⟩⟩
end Go.Proofs.Ytghpofnaojbbkaa

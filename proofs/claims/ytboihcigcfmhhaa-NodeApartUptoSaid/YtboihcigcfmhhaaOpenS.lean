/-
  What a hasher is made of, opened. Lemmas alone; no statement is claimed here.
-/
import Derived.Test.YtboihcigcfmhhaaOpenP
import Derived.Test.YtboihcigcfmhhaaFed
namespace Go.Proofs.Ytboihcigcfmhhaa
open Go.ChangeShapes Go.WideShapes Go.ChangeAt Go.RowKit

set_option maxRecDepth 100000 in
theorem got_ints {H : Type} {enc : TypeId × Value → H} {W : World} {L : List Value} (h : Got enc W 46 L) : ∃ (A : Option Addr) (n c : Nat) (l : List Int), L = [.slice A n c] ∧ l.length = n ∧ n ≤ c ∧ c ≤ 140737488351232 ∧ RS cI W W.heap.size A l ∧ ∀ z ∈ l, -9223372036854775808 ≤ z ∧ z ≤ 9223372036854775807 := by
  obtain ⟨A, n, c, h1, hn, hm, hw, hA, hel⟩ := got_slice Try.underlying46 h
  have e1 : Try.prog.cellsOf 3 = 1 := by kernel_rfl
  have e2 : Try.prog.bytesOf 3 = 8 := by kernel_rfl
  rw [e1] at hA hel
  rw [e2] at hw
  have hx : ∀ i, i < n → ∃ x : Int, (-9223372036854775808 ≤ x ∧ x ≤ 9223372036854775807) ∧ ∀ a, A = some a → W.cell? (a.add i) = some (.int .i64 x) := by
    intro i hi
    obtain ⟨a, cl, ha, hc, hg⟩ := hel i hi
    obtain ⟨z, hz, hwf⟩ := got_int Try.underlying3 hg
    have hr : -9223372036854775808 ≤ z ∧ z ≤ 9223372036854775807 := by simpa [Lit.wf, IntKind.min, IntKind.max, IntKind.signed, IntKind.bits] using hwf
    refine ⟨z, hr, fun b hb => ?_⟩
    rw [ha] at hb; cases hb
    have h2 := hc 0 (.int .i64 z) (by rw [hz]; rfl)
    rw [Nat.mul_one, Nat.add_zero] at h2
    exact h2
  obtain ⟨l, hl, hall, hcell⟩ : ∃ l : List Int, l.length = n ∧ (∀ z ∈ l, -9223372036854775808 ≤ z ∧ z ≤ 9223372036854775807) ∧ ∀ i (hi : i < l.length), ∀ a, A = some a → W.cell? (a.add i) = some (.int .i64 l[i]) := by
    clear hel hw hm hn h1
    induction n with
    | zero => exact ⟨[], rfl, (fun z hz => by cases hz), fun i hi => by cases hi⟩
    | succ n ih =>
      obtain ⟨l, hl, hall, hc⟩ := ih (fun i hi => hx i (by omega))
      obtain ⟨x, hxr, hxx⟩ := hx n (by omega)
      refine ⟨l ++ [x], by simp [hl], (fun z hz => by rcases List.mem_append.1 hz with h | h; exact hall z h; (simp only [List.mem_singleton] at h; rw [h]; exact hxr)), fun i hi a ha => ?_⟩
      by_cases h2 : i < l.length
      · rw [List.getElem_append_left h2]; exact hc i h2 a ha
      · have e : i = n := by simp at hi; omega
        subst e
        rw [List.getElem_append_right (by omega)]
        simp only [hl, Nat.sub_self, List.getElem_cons_zero]
        exact hxx a ha
  have hreach : reachBytes = 140737488351232 := by decide
  refine ⟨A, n, c, l, h1, hl, hn, by omega, ⟨by simp, fun hpos => ?_⟩, hall⟩
  obtain ⟨a, cl, ha, _, _⟩ := hel 0 (by omega)
  refine ⟨a, ha, hA (by decide) a ha (by omega), fun j u hu => ?_⟩
  rw [List.getElem?_map] at hu
  cases hj : l[j]? with
  | none => rw [hj] at hu; cases hu
  | some x =>
    rw [hj] at hu
    have hjl := (List.getElem?_eq_some_iff.1 hj).1
    have := hcell j hjl a ha
    rw [this]
    have e : l[j] = x := (List.getElem?_eq_some_iff.1 hj).2
    rw [e]
    exact hu
set_option maxRecDepth 100000 in
theorem open_ints_ {H : Type} {enc : TypeId × Value → H} {W : World} {base : Nat} {v : Value} {d : DataW H} {p : List MemPlace} {ts : List TypeId} {ds : List (DataW H)}
    (hv : Value.okWide Try.prog W .any base 46 v) (h : DataW.Trod enc Try.prog W 0 (fun _ => true) true 46 v d p) (hlt : ∀ x ∈ p, x.block < W.heap.size)
    (hsz : (DataW.weightsEach Try.prog ts ds).all (· ≤ reachBytes) = true) {j : Nat} (ht : ts[j]? = some 46) (hd : ds[j]? = some d) :
    ∃ (A : Option Addr) (n c : Nat) (l : List Int), v = .slice A n c ∧ l.length = n ∧ n ≤ c ∧ c ≤ 140737488351232 ∧ RS cI W W.heap.size A l ∧ ∀ z ∈ l, -9223372036854775808 ≤ z ∧ z ≤ 9223372036854775807 := by
  obtain ⟨a0, len, cap, rfl⟩ := okWide_slice Try.underlying46 hv
  obtain ⟨A, n, c, l, e, h1, h2, h3, h4, h5⟩ := got_ints (got_top h hlt hsz ht hd)
  refine ⟨A, n, c, l, ?_, h1, h2, h3, h4, h5⟩
  have e2 : [Value.slice a0 len cap] = [Value.slice A n c] := e
  exact List.cons.inj e2 |>.1
set_option maxRecDepth 100000 in
theorem got_start {H : Type} {enc : TypeId × Value → H} {W : World} {L : List Value} (h : Got enc W 28 L) : ∃ (k : Int) (p : Pr) (ls lp key : List UInt8) (Ak : Option Addr) (nk ck : Nat), L = [Value.int .i64 k] ++ p.cs.toList ++ [Value.slice Ak nk ck] ∧ PrIn W p ls lp ∧ key.length = nk ∧ nk ≤ ck ∧ ck ≤ 140737488351232 ∧ RS cB W W.heap.size Ak key := by
  obtain ⟨hl, hf⟩ := got_struct Try.underlying28 h
  have hl : L.length = 13 := hl.trans (by kernel_rfl)
  have ci : Try.prog.cellsOf 3 = 1 := by kernel_rfl
  have cp : Try.prog.cellsOf 26 = 11 := by kernel_rfl
  have cb : Try.prog.cellsOf 24 = 1 := by kernel_rfl
  have g0 : Got enc W 3 ((L.drop 0).take (Try.prog.cellsOf 3)) := hf 0 _ rfl
  rw [ci] at g0
  obtain ⟨k, e0, _⟩ := got_int Try.underlying3 g0
  have g1 : Got enc W 26 ((L.drop 1).take (Try.prog.cellsOf 26)) := hf 1 _ rfl
  rw [cp] at g1
  obtain ⟨p, ls, lp, e1, hp⟩ := got_params g1
  have g2 : Got enc W 24 ((L.drop 12).take (Try.prog.cellsOf 24)) := hf 2 _ rfl
  rw [cb] at g2
  obtain ⟨A, n, c, l, e2, h1, h2, h3, h4⟩ := got_bytes g2
  refine ⟨k, p, ls, lp, l, A, n, c, ?_, hp, h1, h2, h3, h4⟩
  rw [← e0, ← e1, ← e2]
  rw [List.drop_zero]
  have q1 : L.take 1 ++ (L.drop 1).take 11 = L.take 12 := by rw [← List.take_add]
  have q2 : (L.drop 12).take 1 = L.drop 12 := List.take_of_length_le (by rw [List.length_drop]; omega)
  rw [q1, q2, List.take_append_drop]
set_option maxRecDepth 100000 in
theorem open_start {H : Type} {enc : TypeId × Value → H} {W : World} {base : Nat} {v : Value} {d : DataW H} {p : List MemPlace} {ts : List TypeId} {ds : List (DataW H)}
    (hv : Value.okWide Try.prog W .any base 28 v) (h : DataW.Trod enc Try.prog W 0 (fun _ => true) true 28 v d p) (hlt : ∀ x ∈ p, x.block < W.heap.size)
    (hsz : (DataW.weightsEach Try.prog ts ds).all (· ≤ reachBytes) = true) {j : Nat} (ht : ts[j]? = some 28) (hd : ds[j]? = some d) :
    ∃ (k : Int) (p : Pr) (ls lp key : List UInt8) (Ak : Option Addr) (nk ck : Nat), v = stV k p (.slice Ak nk ck) ∧ PrIn W p ls lp ∧ key.length = nk ∧ nk ≤ ck ∧ ck ≤ 140737488351232 ∧ RS cB W W.heap.size Ak key := by
  obtain ⟨cs, rfl, hs⟩ := okWide_struct Try.underlying28 hv
  obtain ⟨k, p, ls, lp, key, Ak, nk, ck, e, hp, h1, h2, h3, h4⟩ := got_start (got_top h hlt hsz ht hd)
  refine ⟨k, p, ls, lp, key, Ak, nk, ck, ?_, hp, h1, h2, h3, h4⟩
  have e2 : cs.toList = [Value.int .i64 k] ++ p.cs.toList ++ [Value.slice Ak nk ck] := e
  have e3 : cs = ([Value.int .i64 k] ++ p.cs.toList ++ [Value.slice Ak nk ck]).toArray := by rw [← e2]
  rw [e3]
  rfl
end Go.Proofs.Ytboihcigcfmhhaa

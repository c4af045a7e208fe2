/-
  Data that came in, opened: structs within structs, slices of them. Lemmas alone; no statement is claimed here.
-/
import Derived.Test.YtboihcigcfmhhaaFrame
namespace Go.Proofs.Ytboihcigcfmhhaa
open Go.ChangeShapes Go.WideShapes Go.ChangeAt Go.RowKit

/-- cells that read as data of a type -/
def Got {H : Type} (enc : TypeId × Value → H) (W : World) (t : TypeId) (L : List Value) : Prop :=
  ∃ (m : Nat) (y : DataW H × List MemPlace), DataW.trod enc Try.prog W 0 (fun _ => true) true m t L = some y ∧ (∀ x ∈ y.2, x.block < W.heap.size) ∧ (y.1.weights Try.prog t).all (· ≤ reachBytes) = true
section
variable {H : Type} {enc : TypeId × Value → H} {W : World} {t : TypeId} {L : List Value}

theorem got_top {v : Value} {d : DataW H} {p : List MemPlace} {ts : List TypeId} {ds : List (DataW H)} (h : DataW.Trod enc Try.prog W 0 (fun _ => true) true t v d p) (hlt : ∀ x ∈ p, x.block < W.heap.size)
    (hsz : (DataW.weightsEach Try.prog ts ds).all (· ≤ reachBytes) = true) {j : Nat} (ht : ts[j]? = some t) (hd : ds[j]? = some d) : Got enc W t v.cells.toList := by
  obtain ⟨m, hm⟩ := h
  refine ⟨m, (d, p), hm, hlt, ?_⟩
  rw [List.all_eq_true] at hsz ⊢
  exact fun n hn => hsz n (DataW.weights_mem_each ht hd n hn)
theorem got_struct {fs : Array Field} (ht : Try.prog.underlying t = some (.struct fs)) (h : Got enc W t L) : L.length = Try.prog.cellsOf t ∧ ∀ (i : Nat) (f : Field), fs[i]? = some f → Got enc W f.type ((L.drop f.offset).take (Try.prog.cellsOf f.type)) := by
  obtain ⟨m, y, hy, hlt, hw⟩ := h
  obtain ⟨xs, n, _, hx, hl, hlen, hf⟩ := DataW.trod_struct ht hy
  refine ⟨hl, fun i f hi => ?_⟩
  have h1 := hf i f hi
  have hi2 : i < xs.length := by rw [hlen]; exact (Array.getElem?_eq_some_iff.1 hi).1
  rw [List.getElem?_eq_getElem hi2] at h1
  refine ⟨n, xs[i], h1, fun x hx2 => hlt x (by rw [hx]; exact List.mem_flatMap.2 ⟨xs[i], List.getElem_mem hi2, hx2⟩), ?_⟩
  rw [hx] at hw
  have hu : DataW.weights Try.prog t (.agg (xs.map (·.1))) = DataW.weightsEach Try.prog (fs.toList.map (·.type)) (xs.map (·.1)) := by
    simp only [DataW.weights, ht]
  rw [hu, List.all_eq_true] at hw
  rw [List.all_eq_true]
  refine fun q hq => hw q (DataW.weights_mem_each (j := i) (t := f.type) (d := xs[i].1) ?_ ?_ q hq)
  · rw [List.getElem?_map, Array.getElem?_toList, hi]; rfl
  · rw [List.getElem?_map, List.getElem?_eq_getElem hi2]; rfl
theorem got_int {k : IntKind} (ht : Try.prog.underlying t = some (.int k)) (h : Got enc W t L) : ∃ n, L = [.int k n] ∧ (Lit.int k n).wf = true := by
  obtain ⟨m, y, hy, _⟩ := h
  obtain ⟨n, h1, _, h3⟩ := DataW.trod_int ht hy
  exact ⟨n, h1, h3⟩
theorem got_bool (ht : Try.prog.underlying t = some .bool) (h : Got enc W t L) : ∃ b, L = [.bool b] := by
  obtain ⟨m, y, hy, _⟩ := h
  obtain ⟨b, h1, _⟩ := DataW.trod_bool ht hy
  exact ⟨b, h1⟩
theorem got_string (ht : Try.prog.underlying t = some .string) (h : Got enc W t L) : ∃ s : ByteArray, L = [.string s] ∧ s.size ≤ 140737488351232 := by
  obtain ⟨m, y, hy, _, hw⟩ := h
  obtain ⟨s, h1, hx, _⟩ := DataW.trod_string ht hy
  refine ⟨s, h1, ?_⟩
  rw [hx] at hw
  have h2 : s.data.toList.length ≤ reachBytes := by
    have h := List.all_eq_true.1 hw s.data.toList.length (by simp only [DataW.weights, List.mem_singleton])
    exact of_decide_eq_true h
  simp only [reachBytes] at h2
  have e : s.size = s.data.toList.length := rfl
  omega
/-- a slice, element by element -/
theorem got_slice {e : TypeId} (ht : Try.prog.underlying t = some (.slice e)) (h : Got enc W t L) :
    ∃ (A : Option Addr) (n c : Nat), L = [.slice A n c] ∧ n ≤ c ∧ c ≤ maxLen ∧ c * Try.prog.bytesOf e ≤ reachBytes ∧ (0 < Try.prog.cellsOf e → ∀ a, A = some a → 0 < c → a.block < W.heap.size) ∧
      ∀ i, i < n → ∃ a cl, A = some a ∧ (∀ j v, cl[j]? = some v → W.cell? (a.add (i * Try.prog.cellsOf e + j)) = some v) ∧ Got enc W e cl := by
  obtain ⟨m, y, hy, hlt, hw⟩ := h
  rcases DataW.trod_slice ht hy with ⟨h1, _⟩ | ⟨a, len, cap, elems, rest, n, _, h1, hx, _, hl, hm, hlen, hel, hsp, _⟩
  · exact ⟨none, 0, 0, h1, Nat.le_refl _, Nat.zero_le _, by rw [Nat.zero_mul]; exact Nat.zero_le _, (fun _ a h => by cases h), fun i hi => absurd hi (by omega)⟩
  · obtain ⟨hr, hrest⟩ := hsp rfl
    have hwl : (elems.length + rest.length) * Try.prog.bytesOf e ≤ reachBytes ∧ ∀ (i : Nat) (x : DataW H × List MemPlace), elems[i]? = some x → (x.1.weights Try.prog e).all (· ≤ reachBytes) = true := by
      rw [hx] at hw
      have hu : DataW.weights Try.prog t (.slice (elems.map (·.1)) (rest.map (·.1))) = ((elems.map (·.1)).length + (rest.map (·.1)).length) * Try.prog.bytesOf e :: (DataW.weightsAll Try.prog e (elems.map (·.1)) ++ DataW.weightsAll Try.prog e (rest.map (·.1))) := by
        simp only [DataW.weights, ht]
      rw [hu, List.all_cons, List.length_map, List.length_map, Bool.and_eq_true] at hw
      refine ⟨of_decide_eq_true hw.1, fun i x hi => ?_⟩
      have hmem : ∀ (l : List (DataW H)) (d : DataW H), d ∈ l → ∀ q, q ∈ d.weights Try.prog e → q ∈ DataW.weightsAll Try.prog e l := by
        intro l
        induction l with
        | nil => intro d hd; cases hd
        | cons z r ih =>
          intro d hd q hq
          simp only [DataW.weightsAll, List.mem_append]
          rcases List.mem_cons.1 hd with rfl | hd
          · exact .inl hq
          · exact .inr (ih d hd q hq)
      rw [List.all_eq_true]
      refine fun q hq => List.all_eq_true.1 hw.2 q (List.mem_append.2 (.inl (hmem _ x.1 (List.mem_map.2 ⟨x, List.mem_of_getElem? hi, rfl⟩) q hq)))
    refine ⟨some a, len, cap, h1, hl, hm, ?_, ?_, ?_⟩
    · have e : elems.length + rest.length = cap := by omega
      rw [← e]; exact hwl.1
    · intro hc b hb hpos
      cases hb
      refine hlt (.cell a.block a.off) ?_
      rw [hx]
      refine List.mem_append.2 (.inl (MemPlace.mem_row.2 ⟨0, ?_, by simp⟩))
      have e : elems.length + rest.length = cap := by omega
      rw [e]
      exact Nat.mul_pos hpos hc
    · intro i hi
      have h2 := hel i hi
      have hi2 : i < elems.length := by omega
      rw [List.getElem?_eq_getElem hi2] at h2
      cases hcl : W.cells? 0 (a.add (i * Try.prog.cellsOf e)) (Try.prog.cellsOf e) with
      | none => rw [hcl] at h2; cases h2
      | some cl =>
        rw [hcl] at h2
        refine ⟨a, cl, rfl, ?_, ?_⟩
        · obtain ⟨_, hcn, hca⟩ := World.cells?_some hcl
          intro j v hv
          have hj : j < Try.prog.cellsOf e := by rw [← hcn]; exact (List.getElem?_eq_some_iff.1 hv).1
          rw [← hv, ← hca j hj]
          rw [add_of_add]
        · exact ⟨n, elems[i], h2, fun x hx2 => hlt x (by rw [hx]; exact List.mem_append.2 (.inr (List.mem_flatMap.2 ⟨elems[i], List.mem_append.2 (.inl (List.getElem_mem hi2)), hx2⟩))), hwl.2 i _ (List.getElem?_eq_getElem hi2)⟩
set_option maxRecDepth 100000 in
theorem got_bytes (h : Got enc W 24 L) : ∃ (A : Option Addr) (n c : Nat) (l : List UInt8), L = [.slice A n c] ∧ l.length = n ∧ n ≤ c ∧ c ≤ 140737488351232 ∧ RS cB W W.heap.size A l := by
  obtain ⟨A, n, c, h1, hn, hm, hw, hA, hel⟩ := got_slice Try.underlying24 h
  have e1 : Try.prog.cellsOf 5 = 1 := by kernel_rfl
  have e2 : Try.prog.bytesOf 5 = 1 := by kernel_rfl
  rw [e1] at hA hel
  rw [e2, Nat.mul_one] at hw
  have hx : ∀ i, i < n → ∃ x : UInt8, ∀ a, A = some a → W.cell? (a.add i) = some (.int .u8 (byt x)) := by
    intro i hi
    obtain ⟨a, cl, ha, hc, hg⟩ := hel i hi
    obtain ⟨z, hz, hwf⟩ := got_int Try.underlying5 hg
    have hr : 0 ≤ z ∧ z ≤ 255 := by simpa [Lit.wf, IntKind.min, IntKind.max, IntKind.signed, IntKind.bits] using hwf
    refine ⟨UInt8.ofNat z.toNat, fun b hb => ?_⟩
    rw [ha] at hb; cases hb
    have h2 := hc 0 (.int .u8 z) (by rw [hz]; rfl)
    rw [Nat.mul_one, Nat.add_zero] at h2
    rw [h2, byt_ofNat _ (by omega)]
    congr 2; omega
  obtain ⟨l, hl, hcell⟩ : ∃ l : List UInt8, l.length = n ∧ ∀ i (hi : i < l.length), ∀ a, A = some a → W.cell? (a.add i) = some (.int .u8 (byt l[i])) := by
    clear hel hw hm hn h1
    induction n with
    | zero => exact ⟨[], rfl, fun i hi => by cases hi⟩
    | succ n ih =>
      obtain ⟨l, hl, hc⟩ := ih (fun i hi => hx i (by omega))
      obtain ⟨x, hxx⟩ := hx n (by omega)
      refine ⟨l ++ [x], by simp [hl], fun i hi a ha => ?_⟩
      by_cases h2 : i < l.length
      · rw [List.getElem_append_left h2]; exact hc i h2 a ha
      · have e : i = n := by simp at hi; omega
        subst e
        rw [List.getElem_append_right (by omega)]
        simp only [hl, Nat.sub_self, List.getElem_cons_zero]
        exact hxx a ha
  have hreach : reachBytes = 140737488351232 := by decide
  refine ⟨A, n, c, l, h1, hl, hn, by omega, ⟨by simp, fun hpos => ?_⟩⟩
  obtain ⟨a, cl, ha, _, _⟩ := hel 0 (by omega)
  refine ⟨a, ha, hA (by decide) a ha (by omega), fun j u hu => ?_⟩
  rw [List.getElem?_map] at hu
  cases hj : l[j]? with
  | none => rw [hj] at hu; cases hu
  | some x =>
    rw [hj] at hu
    have hjl := (List.getElem?_eq_some_iff.1 hj).1
    have := hcell j hjl a ha
    rw [this]
    have e : l[j] = x := (List.getElem?_eq_some_iff.1 hj).2
    rw [e]
    exact hu
end
/-- a list told by its cuts -/
theorem cut_at {α : Type} {L : List α} {k : Nat} {a : α} (h : (L.drop k).take 1 = [a]) : L[k]? = some a := by
  have h2 := congrArg (fun q => q[0]?) h
  simpa [List.getElem?_take, List.getElem?_drop] using h2
end Go.Proofs.Ytboihcigcfmhhaa

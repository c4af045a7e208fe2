/-
  Y9: contracts and lemmas alone; no statement is claimed here.
-/
import Derived.Test.YtboihcigcfmhhaaGreatRows
import Derived.Test.YtboihcigcfmhhaaGreatY6
namespace Go.Proofs.YtboihcigcfmhhaaGreat.bulks
theorem one_le {H : Type} (d : DataW H) : 1 <= Rows.uptoBulk d := by
  cases d with
  | lit l => cases l <;> simp [Rows.uptoBulk]
  | nil => simp [Rows.uptoBulk]
  | ptr d => simp [Rows.uptoBulk]
  | slice elems spare => simp [Rows.uptoBulk]
  | agg parts => simp [Rows.uptoBulk]
  | iface t d => simp [Rows.uptoBulk]
  | map entries => simp [Rows.uptoBulk]
  | held h => simp [Rows.uptoBulk]
theorem part_le {H : Type} {d : DataW H} {l : List (DataW H)} (h : d ∈ l) : Rows.uptoBulk d <= Rows.uptoBulkAll l := by
  induction l with
  | nil => cases h
  | cons x r ih =>
    simp only [Rows.uptoBulkAll]
    cases List.mem_cons.1 h with
    | inl e => subst e; omega
    | inr e => have := ih e; omega
theorem append {H : Type} (l r : List (DataW H)) : Rows.uptoBulkAll (l ++ r) = Rows.uptoBulkAll l + Rows.uptoBulkAll r := by
  induction l with
  | nil => simp [Rows.uptoBulkAll]
  | cons x l ih => simp only [List.cons_append, Rows.uptoBulkAll, ih]; omega
theorem length_le {H : Type} (l : List (DataW H)) : l.length <= Rows.uptoBulkAll l := by
  induction l with
  | nil => simp [Rows.uptoBulkAll]
  | cons x r ih => have := one_le x; simp only [Rows.uptoBulkAll, List.length_cons]; omega
theorem slice_le {H : Type} (elems spare : List (DataW H)) : elems.length + spare.length + 1 <= Rows.uptoBulk (.slice elems spare) := by
  have h1 := length_le elems;have h2 := length_le spare;simp only [Rows.uptoBulk];omega
theorem slice_elems {H : Type} (elems spare : List (DataW H)) : Rows.uptoBulkAll elems + 1 <= Rows.uptoBulk (.slice elems spare) := by
  simp only [Rows.uptoBulk];omega
theorem string_eq {H : Type} (bytes : List UInt8) : Rows.uptoBulk (DataW.lit (H := H) (.string bytes)) = bytes.length + 1 := by
  simp [Rows.uptoBulk]
theorem bound {H : Type} {l : List (DataW H)} (hk : Rows.uptoSmall H l = true) : Rows.uptoBulkAll l <= 1048576 := by
  simpa [Rows.uptoSmall] using hk
theorem room {n b : Nat} (hn : n <= 2097152) (hb : b <= 4096) : (n + n / 4 + 192) * b <= 281474976710656 := by
  have h : (n + n / 4 + 192) * b <= 2621632 * 4096 := Nat.mul_le_mul (by omega) hb;omega
theorem bytes_le {H : Type} {d : DataW H} {n c : Nat} (h : (d = .nil /\ n = 0) \/ ∃ elems spare, d = .slice elems spare /\ elems.length = n /\ elems.length + spare.length = c) : n <= Rows.uptoBulk d := by
  rcases h with ⟨_, rfl⟩ | ⟨elems, spare, rfl, rfl, _⟩
  · omega
  · have := slice_le elems spare; omega
end Go.Proofs.YtboihcigcfmhhaaGreat.bulks
namespace Go.Proofs.YtboihcigcfmhhaaGreat
open _root_.List renaming length_map → bZE
open _root_.List renaming getElem?_eq_getElem → aZP
open Go.ChangeShapes Go.WideShapes Go.ChangeAt Go.RowKit
def GotB {H : Type} (enc : TypeId × Value -> H) (W : World) (t : TypeId) (L : List Value) (b : Nat) : Prop :=
  ∃ (m : Nat) (y : DataW H × List MemPlace), DataW.trod enc Tryz.prog W 0 (fun _ => true) true m t L = some y /\ (∀ x ∈ y.2, x.block < W.heap.size) /\ (y.1.weights Tryz.prog t).all (· <= reachBytes) = true /\ Rows.uptoBulk y.1 = b
theorem bulkAll_map {H : Type} : ∀ l : List (DataW H), Rows.uptoBulkAll l = (l.map Rows.uptoBulk).sum
 | [] => by simp [Rows.uptoBulkAll]
 | x :: r => by simp only [Rows.uptoBulkAll, List.map_cons, List.sum_cons, bulkAll_map r]
theorem build {α : Type} (wt : α -> Nat) : ∀ (bs : List Nat) (P : Nat -> α -> Prop), (∀ i b, bs[i]? = some b -> ∃ x, wt x <= b /\ P i x) -> ∃ xs : List α, xs.length = bs.length /\ (xs.map wt).sum <= bs.sum /\ ∀ i x, xs[i]? = some x -> P i x
 | [], _, _ => ⟨[], rfl, by simp, fun i x h => by simp at h⟩
 | b :: r, P, h => by
  obtain ⟨x, h1, h2⟩ := h 0 b rfl;obtain ⟨xs, h3, h4, h5⟩ := build wt r (fun i => P (i + 1)) (fun i b hb => h (i + 1) b (by simpa using hb));refine ⟨x :: xs, by simp [h3], by simp; omega, fun i y hy => ?_⟩
  cases i with
  | zero => simp at hy; subst hy; exact h2
  | succ i => exact h5 i y (by simpa using hy)
section
variable {H : Type} {enc : TypeId × Value -> H} {W : World} {t : TypeId} {L : List Value} {b : Nat}
theorem GotB.got (h : GotB enc W t L b) : Got enc W t L := by
 obtain ⟨m, y, h1, h2, h3, _⟩ := h;exact ⟨m, y, h1, h2, h3⟩
theorem gotB_top {v : Value} {d : DataW H} {p : List MemPlace} {ts : List TypeId} {ds : List (DataW H)} (h : DataW.Trod enc Tryz.prog W 0 (fun _ => true) true t v d p) (hlt : ∀ x ∈ p, x.block < W.heap.size)
  (hsz : (DataW.weightsEach Tryz.prog ts ds).all (· <= reachBytes) = true) {j : Nat} (ht : ts[j]? = some t) (hd : ds[j]? = some d) : GotB enc W t v.cells.toList (Rows.uptoBulk d) := by
 obtain ⟨m, hm⟩ := h;refine ⟨m, (d, p), hm, hlt, ?_, rfl⟩;rw [List.all_eq_true] at hsz ⊢;exact fun n hn => hsz n (DataW.weights_mem_each ht hd n hn)
theorem gotB_struct {fs : Array Field} (ht : Tryz.prog.underlying t = some (.struct fs)) (h : GotB enc W t L b) : L.length = Tryz.prog.cellsOf t /\ ∃ bs : List Nat, bs.length = fs.size /\ bs.sum + 1 = b /\ ∀ (i : Nat) (f : Field), fs[i]? = some f -> ∃ bi, bs[i]? = some bi /\ GotB enc W f.type ((L.drop f.offset).take (Tryz.prog.cellsOf f.type)) bi := by
 obtain ⟨m, y, hy, hlt, hw, hb⟩ := h;obtain ⟨xs, n, _, hx, hl, hlen, hf⟩ := DataW.trod_struct ht hy;refine ⟨hl, xs.map (fun x => Rows.uptoBulk x.1), by rw [bZE, hlen], ?_, fun i f hi => ?_⟩
 ·rw [<- hb, hx]
  show _ = Rows.uptoBulkAll _ + 1
  rw [bulkAll_map, List.map_map]
  rfl
 have h1 := hf i f hi;have hi2 : i < xs.length := by rw [hlen]; exact (Array.getElem?_eq_some_iff.1 hi).1
 rw [aZP hi2] at h1;refine ⟨Rows.uptoBulk xs[i].1, by rw [List.getElem?_map, aZP hi2]; rfl, n, xs[i], h1, fun x hx2 => hlt x (by rw [hx]; exact List.mem_flatMap.2 ⟨xs[i], List.getElem_mem hi2, hx2⟩), ?_, rfl⟩;rw [hx] at hw;have hu : DataW.weights Tryz.prog t (.agg (xs.map (·.1))) = DataW.weightsEach Tryz.prog (fs.toList.map (·.type)) (xs.map (·.1)) := by
  simp only [DataW.weights, ht]
 rw [hu, List.all_eq_true] at hw;rw [List.all_eq_true];refine fun q hq => hw q (DataW.weights_mem_each (j := i) (t := f.type) (d := xs[i].1) ?_ ?_ q hq)
 ·rw [List.getElem?_map, Array.getElem?_toList, hi]; rfl
 ·rw [List.getElem?_map, aZP hi2]; rfl
theorem gotB_slice {e : TypeId} (ht : Tryz.prog.underlying t = some (.slice e)) (h : GotB enc W t L b) :
  ∃ (A : Option Addr) (n c : Nat), L = [.slice A n c] /\ n <= c /\ c < b /\ (0 < Tryz.prog.cellsOf e -> ∀ a, A = some a -> 0 < c -> a.block < W.heap.size) /\ ∃ bs : List Nat, bs.length = n /\ bs.sum < b /\
   ∀ i bi, bs[i]? = some bi -> ∃ a cl, A = some a /\ (∀ j v, cl[j]? = some v -> W.cell? (a.add (i * Tryz.prog.cellsOf e + j)) = some v) /\ GotB enc W e cl bi := by
 obtain ⟨m, y, hy, hlt, hw, hb⟩ := h;rcases DataW.trod_slice ht hy with ⟨h1, h2⟩ | ⟨a, len, cap, elems, rest, n, _, h1, hx, _, hl, hm, hlen, hel, hsp, _⟩
 ·have hb1 : 1 = b := by rw [<- hb, h2]; rfl
  exact ⟨none, 0, 0, h1, Nat.le_refl _, by omega, (fun _ a h => by cases h), [], rfl, by simp; omega, fun i bi h => by simp at h⟩
 ·obtain ⟨hr, hrest⟩ := hsp rfl
  have hb2 : (elems.map (fun x => Rows.uptoBulk x.1)).sum + (rest.map (fun x => Rows.uptoBulk x.1)).sum + 1 = b := by
   rw [<- hb, hx]
   show _ = Rows.uptoBulkAll _ + Rows.uptoBulkAll _ + 1
   rw [bulkAll_map, bulkAll_map, List.map_map, List.map_map]
   rfl
  have hcl : elems.length + rest.length + 1 <= b := by
   have := bulks.slice_le (elems.map (·.1)) (rest.map (·.1));rw [bZE, bZE] at this;rw [<- hb, hx];exact this
  have hwl : ∀ (i : Nat) (x : DataW H × List MemPlace), elems[i]? = some x -> (x.1.weights Tryz.prog e).all (· <= reachBytes) = true := by
   rw [hx] at hw;have hu : DataW.weights Tryz.prog t (.slice (elems.map (·.1)) (rest.map (·.1))) = ((elems.map (·.1)).length + (rest.map (·.1)).length) * Tryz.prog.bytesOf e :: (DataW.weightsAll Tryz.prog e (elems.map (·.1)) ++ DataW.weightsAll Tryz.prog e (rest.map (·.1))) := by
    simp only [DataW.weights, ht]
   rw [hu, List.all_cons, bZE, bZE, Bool.and_eq_true] at hw;refine fun i x hi => ?_
   have hmem : ∀ (l : List (DataW H)) (d : DataW H), d ∈ l -> ∀ q, q ∈ d.weights Tryz.prog e -> q ∈ DataW.weightsAll Tryz.prog e l := by
    intro l
    induction l with
    | nil => intro d hd; cases hd
    | cons z r ih =>
     intro d hd q hq;simp only [DataW.weightsAll, List.mem_append];rcases List.mem_cons.1 hd with rfl | hd
     ·exact .inl hq
     ·exact .inr (ih d hd q hq)
   rw [List.all_eq_true];refine fun q hq => List.all_eq_true.1 hw.2 q (List.mem_append.2 (.inl (hmem _ x.1 (List.mem_map.2 ⟨x, List.mem_of_getElem? hi, rfl⟩) q hq)))
  refine ⟨some a, len, cap, h1, hl, by omega, ?_, elems.map (fun x => Rows.uptoBulk x.1), by rw [bZE, hlen], by omega, ?_⟩
  ·intro hc b hb hpos
   cases hb
   refine hlt (.cell a.block a.off) ?_;rw [hx];refine List.mem_append.2 (.inl (MemPlace.mem_row.2 ⟨0, ?_, by simp⟩));have e : elems.length + rest.length = cap := by omega
   rw [e];exact Nat.mul_pos hpos hc
  ·intro i bi hbi
   have hi : i < len := by
    have := (List.getElem?_eq_some_iff.1 hbi).1;rw [bZE] at this; omega
   have h2 := hel i hi;have hi2 : i < elems.length := by omega
   rw [aZP hi2] at h2;have hbe : Rows.uptoBulk elems[i].1 = bi := by
    rw [List.getElem?_map, aZP hi2] at hbi;exact Option.some.inj hbi
   cases hcl : W.cells? 0 (a.add (i * Tryz.prog.cellsOf e)) (Tryz.prog.cellsOf e) with
   | none => rw [hcl] at h2; cases h2
   | some cl =>
    rw [hcl] at h2;refine ⟨a, cl, rfl, ?_, ?_⟩
    ·obtain ⟨_, hcn, hca⟩ := World.cells?_some hcl
     intro j v hv;have hj : j < Tryz.prog.cellsOf e := by rw [<- hcn]; exact (List.getElem?_eq_some_iff.1 hv).1
     rw [<- hv, <- hca j hj];rw [add_of_add]
    ·exact ⟨n, elems[i], h2, fun x hx2 => hlt x (by rw [hx]; exact List.mem_append.2 (.inr (List.mem_flatMap.2 ⟨elems[i], List.mem_append.2 (.inl (List.getElem_mem hi2)), hx2⟩))), hwl i _ (aZP hi2), hbe⟩
theorem gotB_bytes (h : GotB enc W 24 L b) : ∃ (A : Option Addr) (n c : Nat) (l : List UInt8), L = [.slice A n c] /\ l.length = n /\ n <= c /\ c < b /\ RS cB W W.heap.size A l := by
 obtain ⟨A, n, c, l, h1, h2, h3, -, h5⟩ := got_bytes h.got;obtain ⟨A', n', c', h1', -, h3', -⟩ := gotB_slice Tryz.underlying24 h;rw [h1] at h1';injection h1' with e _
 injection e with _ _ e
 subst e;exact ⟨A, n, c, l, h1, h2, h3, h3', h5⟩
end
end Go.Proofs.YtboihcigcfmhhaaGreat

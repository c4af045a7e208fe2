/-
  Y6: contracts and lemmas alone; no statement is claimed here.
-/
import Derived.Test.YtboihcigcfmhhaaGreatY0
import Derived.OpenShut
import Derived.SizedLaws
import Derived.JoinedCond
import Derived.Deep.CondSized
import Derived.Deep.Slices
namespace Go.Proofs.YtboihcigcfmhhaaGreat
open Go renaming reachBytes → cZK
open _root_.List renaming all_eq_true → cZE
open _root_.List renaming getElem?_map → bZK
open _root_.List renaming getElem?_eq_getElem → aZP
open Go.ChangeShapes Go.WideShapes Go.ChangeAt Go.RowKit
theorem own_ : ownKnob Tryz.prog.godebug = none := by kernel_rfl
theorem laidOut_ : laidOutB Tryz.prog = true := by kernel_rfl
theorem trodAll_again {H : Type} {enc : TypeId × Value -> H} {W W' : World} (hb : Below W.heap.size W W') : ∀ (ts : List TypeId) (vs : List Value) (ds : List (DataW H)) (ps : List MemPlace),
  DataW.TrodAll enc Tryz.prog W 0 (fun _ => true) true ts vs ds ps -> (∀ t ∈ ts, Tryz.prog.readableRec t = true /\ t < Tryz.prog.types.size) -> (∀ x ∈ ps, x.block < W.heap.size) ->
  DataW.TrodAll enc Tryz.prog W' 0 (fun b => decide (b < W.heap.size)) true ts vs ds ps
 | [], vs, ds, ps, h, _, _ => by
  obtain ⟨rfl, rfl, rfl⟩ := trodAll_nil h;exact trodAll_mk0
 | t :: ts, vs, ds, ps, h, hr, hlt => by
  obtain ⟨v, vs', d, ds', p, q, rfl, rfl, rfl, h0, r0⟩ := trodAll_cons h;have h1 := hr t (by simp);exact trodAll_cons_mk (Below.trod laidOut_ h1.1 h1.2 h0 hb (fun x hx => hlt x (by simp [hx]))) (trodAll_again hb ts vs' ds' q r0 (fun t ht => hr t (by simp [ht])) (fun x hx => hlt x (by simp [hx])))
theorem law_post {H : Type} {enc : TypeId × Value -> H} {fn : Func} {s : ChangeSpec} {W W' : World} {args : Array Value} {ds gs : List (DataW H)} {before : List MemPlace}
  (hW : DataW.Whole enc Tryz.prog fn.params.toList s.vars false W args.toList ds gs before) (hv : s.vars = []) (hr : fn.resultTypes = #[4])
  (ht : ∀ t ∈ fn.params.toList, Tryz.prog.readableRec t = true /\ t < Tryz.prog.types.size)
  (hfn : s.fn H (ds ++ []) = { results := [.lit (.bool true)], args := ds }) (hb : Below W.heap.size W W') :
  s.post enc Tryz.prog fn false true false false W args (.bool true) W' := by
 have hW' := hW;obtain ⟨p, q, hA, hV, rfl, hfz, hnd⟩ := hW;rw [hv] at hV;obtain ⟨rfl, rfl⟩ := trodVars_none hV;simp only [List.append_nil] at hW';refine ⟨ds, [], p, [], p, [], hW', ?_, ?_, ?_, hb.frame _, fun h => by cases h⟩
 ·rw [hfn, hr]
  exact trodAll_cons_mk (shut_bool Tryz.underlying4 true) trodAll_mk0
 ·rw [hfn]
  exact trodAll_again hb _ _ _ _ hA ht (fun x hx => hW'.lt x hx)
 ·rw [hfn, hv]
  rfl
def Got {H : Type} (enc : TypeId × Value -> H) (W : World) (t : TypeId) (L : List Value) : Prop :=
  ∃ (m : Nat) (y : DataW H × List MemPlace), DataW.trod enc Tryz.prog W 0 (fun _ => true) true m t L = some y /\ (∀ x ∈ y.2, x.block < W.heap.size) /\ (y.1.weights Tryz.prog t).all (· <= cZK) = true
section
variable {H : Type} {enc : TypeId × Value -> H} {W : World} {t : TypeId} {L : List Value}
theorem got_top {v : Value} {d : DataW H} {p : List MemPlace} {ts : List TypeId} {ds : List (DataW H)} (h : DataW.Trod enc Tryz.prog W 0 (fun _ => true) true t v d p) (hlt : ∀ x ∈ p, x.block < W.heap.size)
  (hsz : (DataW.weightsEach Tryz.prog ts ds).all (· <= cZK) = true) {j : Nat} (ht : ts[j]? = some t) (hd : ds[j]? = some d) : Got enc W t v.cells.toList := by
 obtain ⟨m, hm⟩ := h;refine ⟨m, (d, p), hm, hlt, ?_⟩;rw [cZE] at hsz ⊢;exact fun n hn => hsz n (DataW.weights_mem_each ht hd n hn)
theorem got_struct {fs : Array Field} (ht : Tryz.prog.underlying t = some (.struct fs)) (h : Got enc W t L) : L.length = Tryz.prog.cellsOf t /\ ∀ (i : Nat) (f : Field), fs[i]? = some f -> Got enc W f.type ((L.drop f.offset).take (Tryz.prog.cellsOf f.type)) := by
 obtain ⟨m, y, hy, hlt, hw⟩ := h;obtain ⟨xs, n, _, hx, hl, hlen, hf⟩ := DataW.trod_struct ht hy;refine ⟨hl, fun i f hi => ?_⟩;have h1 := hf i f hi;have hi2 : i < xs.length := by rw [hlen]; exact (Array.getElem?_eq_some_iff.1 hi).1
 rw [aZP hi2] at h1;refine ⟨n, xs[i], h1, fun x hx2 => hlt x (by rw [hx]; exact List.mem_flatMap.2 ⟨xs[i], List.getElem_mem hi2, hx2⟩), ?_⟩;rw [hx] at hw;have hu : DataW.weights Tryz.prog t (.agg (xs.map (·.1))) = DataW.weightsEach Tryz.prog (fs.toList.map (·.type)) (xs.map (·.1)) := by
  simp only [DataW.weights, ht]
 rw [hu, cZE] at hw;rw [cZE];refine fun q hq => hw q (DataW.weights_mem_each (j := i) (t := f.type) (d := xs[i].1) ?_ ?_ q hq)
 ·rw [bZK, Array.getElem?_toList, hi]; rfl
 ·rw [bZK, aZP hi2]; rfl
theorem got_int {k : IntKind} (ht : Tryz.prog.underlying t = some (.int k)) (h : Got enc W t L) : ∃ n, L = [.int k n] /\ (Lit.int k n).wf = true := by
 obtain ⟨m, y, hy, _⟩ := h;obtain ⟨n, h1, _, h3⟩ := DataW.trod_int ht hy;exact ⟨n, h1, h3⟩
theorem got_bool (ht : Tryz.prog.underlying t = some .bool) (h : Got enc W t L) : ∃ b, L = [.bool b] := by
 obtain ⟨m, y, hy, _⟩ := h;obtain ⟨b, h1, _⟩ := DataW.trod_bool ht hy;exact ⟨b, h1⟩
theorem got_slice {e : TypeId} (ht : Tryz.prog.underlying t = some (.slice e)) (h : Got enc W t L) :
  ∃ (A : Option Addr) (n c : Nat), L = [.slice A n c] /\ n <= c /\ c <= maxLen /\ c * Tryz.prog.bytesOf e <= cZK /\ (0 < Tryz.prog.cellsOf e -> ∀ a, A = some a -> 0 < c -> a.block < W.heap.size) /\
   ∀ i, i < n -> ∃ a cl, A = some a /\ (∀ j v, cl[j]? = some v -> W.cell? (a.add (i * Tryz.prog.cellsOf e + j)) = some v) /\ Got enc W e cl := by
 obtain ⟨m, y, hy, hlt, hw⟩ := h;rcases DataW.trod_slice ht hy with ⟨h1, _⟩ | ⟨a, len, cap, elems, rest, n, _, h1, hx, _, hl, hm, hlen, hel, hsp, _⟩
 ·exact ⟨none, 0, 0, h1, Nat.le_refl _, Nat.zero_le _, by rw [Nat.zero_mul]; exact Nat.zero_le _, (fun _ a h => by cases h), fun i hi => absurd hi (by omega)⟩
 ·obtain ⟨hr, hrest⟩ := hsp rfl
  have hwl : (elems.length + rest.length) * Tryz.prog.bytesOf e <= cZK /\ ∀ (i : Nat) (x : DataW H × List MemPlace), elems[i]? = some x -> (x.1.weights Tryz.prog e).all (· <= cZK) = true := by
   rw [hx] at hw;have hu : DataW.weights Tryz.prog t (.slice (elems.map (·.1)) (rest.map (·.1))) = ((elems.map (·.1)).length + (rest.map (·.1)).length) * Tryz.prog.bytesOf e :: (DataW.weightsAll Tryz.prog e (elems.map (·.1)) ++ DataW.weightsAll Tryz.prog e (rest.map (·.1))) := by
    simp only [DataW.weights, ht]
   rw [hu, List.all_cons, List.length_map, List.length_map, Bool.and_eq_true] at hw;refine ⟨of_decide_eq_true hw.1, fun i x hi => ?_⟩;have hmem : ∀ (l : List (DataW H)) (d : DataW H), d ∈ l -> ∀ q, q ∈ d.weights Tryz.prog e -> q ∈ DataW.weightsAll Tryz.prog e l := by
    intro l
    induction l with
    | nil => intro d hd; cases hd
    | cons z r ih =>
     intro d hd q hq;simp only [DataW.weightsAll, List.mem_append];rcases List.mem_cons.1 hd with rfl | hd
     ·exact .inl hq
     ·exact .inr (ih d hd q hq)
   rw [cZE];refine fun q hq => List.all_eq_true.1 hw.2 q (List.mem_append.2 (.inl (hmem _ x.1 (List.mem_map.2 ⟨x, List.mem_of_getElem? hi, rfl⟩) q hq)))
  refine ⟨some a, len, cap, h1, hl, hm, ?_, ?_, ?_⟩
  ·have e : elems.length + rest.length = cap := by omega
   rw [<- e]; exact hwl.1
  ·intro hc b hb hpos
   cases hb
   refine hlt (.cell a.block a.off) ?_;rw [hx];refine List.mem_append.2 (.inl (MemPlace.mem_row.2 ⟨0, ?_, by simp⟩));have e : elems.length + rest.length = cap := by omega
   rw [e];exact Nat.mul_pos hpos hc
  ·intro i hi
   have h2 := hel i hi;have hi2 : i < elems.length := by omega
   rw [aZP hi2] at h2
   cases hcl : W.cells? 0 (a.add (i * Tryz.prog.cellsOf e)) (Tryz.prog.cellsOf e) with
   | none => rw [hcl] at h2; cases h2
   | some cl =>
    rw [hcl] at h2;refine ⟨a, cl, rfl, ?_, ?_⟩
    ·obtain ⟨_, hcn, hca⟩ := World.cells?_some hcl
     intro j v hv;have hj : j < Tryz.prog.cellsOf e := by rw [<- hcn]; exact (List.getElem?_eq_some_iff.1 hv).1
     rw [<- hv, <- hca j hj];rw [add_of_add]
    ·exact ⟨n, elems[i], h2, fun x hx2 => hlt x (by rw [hx]; exact List.mem_append.2 (.inr (List.mem_flatMap.2 ⟨elems[i], List.mem_append.2 (.inl (List.getElem_mem hi2)), hx2⟩))), hwl.2 i _ (aZP hi2)⟩
set_option maxRecDepth 100000 in
theorem got_bytes (h : Got enc W 24 L) : ∃ (A : Option Addr) (n c : Nat) (l : List UInt8), L = [.slice A n c] /\ l.length = n /\ n <= c /\ c <= 140737488351232 /\ RS cB W W.heap.size A l := by
 obtain ⟨A, n, c, h1, hn, hm, hw, hA, hel⟩ := got_slice Tryz.underlying24 h;have e1 : Tryz.prog.cellsOf 5 = 1 := by kernel_rfl
 have e2 : Tryz.prog.bytesOf 5 = 1 := by kernel_rfl
 rw [e1] at hA hel;rw [e2, Nat.mul_one] at hw;have hx : ∀ i, i < n -> ∃ x : UInt8, ∀ a, A = some a -> W.cell? (a.add i) = some (.int .u8 (byt x)) := by
  intro i hi;obtain ⟨a, cl, ha, hc, hg⟩ := hel i hi;obtain ⟨z, hz, hwf⟩ := got_int Tryz.underlying5 hg;have hr : 0 <= z /\ z <= 255 := by simpa [Lit.wf, IntKind.min, IntKind.max, IntKind.signed, IntKind.bits] using hwf
  refine ⟨UInt8.ofNat z.toNat, fun b hb => ?_⟩;rw [ha] at hb; cases hb;have h2 := hc 0 (.int .u8 z) (by rw [hz]; rfl);rw [Nat.mul_one, Nat.add_zero] at h2;rw [h2, byt_ofNat _ (by omega)]
  congr 2; omega
 obtain ⟨l, hl, hcell⟩ : ∃ l : List UInt8, l.length = n /\ ∀ i (hi : i < l.length), ∀ a, A = some a -> W.cell? (a.add i) = some (.int .u8 (byt l[i])) := by
  clear hel hw hm hn h1
  induction n with
  | zero => exact ⟨[], rfl, fun i hi => by cases hi⟩
  | succ n ih =>
   obtain ⟨l, hl, hc⟩ := ih (fun i hi => hx i (by omega));obtain ⟨x, hxx⟩ := hx n (by omega);refine ⟨l ++ [x], by simp [hl], fun i hi a ha => ?_⟩
   by_cases h2 : i < l.length
   ·rw [List.getElem_append_left h2]; exact hc i h2 a ha
   ·have e : i = n := by simp at hi; omega
    subst e;rw [List.getElem_append_right (by omega)];simp only [hl, Nat.sub_self, List.getElem_cons_zero];exact hxx a ha
 have hreach : cZK = 140737488351232 := by decide
 refine ⟨A, n, c, l, h1, hl, hn, by omega, ⟨by simp, fun hpos => ?_⟩⟩;obtain ⟨a, cl, ha, _, _⟩ := hel 0 (by omega);refine ⟨a, ha, hA (by decide) a ha (by omega), fun j u hu => ?_⟩;rw [bZK] at hu
 cases hj : l[j]? with
 | none => rw [hj] at hu; cases hu
 | some x =>
  rw [hj] at hu;have hjl := (List.getElem?_eq_some_iff.1 hj).1;have := hcell j hjl a ha;rw [this];have e : l[j] = x := (List.getElem?_eq_some_iff.1 hj).2;rw [e];exact hu
end
theorem cut_at {α : Type} {L : List α} {k : Nat} {a : α} (h : (L.drop k).take 1 = [a]) : L[k]? = some a := by
 have h2 := congrArg (fun q => q[0]?) h;simpa [List.getElem?_take, List.getElem?_drop] using h2
end Go.Proofs.YtboihcigcfmhhaaGreat

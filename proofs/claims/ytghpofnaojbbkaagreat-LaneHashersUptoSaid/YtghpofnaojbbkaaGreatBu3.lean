/-
  Bu3: contracts and lemmas alone; no statement is claimed here.
-/
import Derived.Test.YtghpofnaojbbkaaGreatCoreA
import Derived.OpenShut
import Derived.SizedLaws
import Derived.JoinedCond
import Derived.Deep.CondSized
import Derived.Deep.Slices
import Derived.Test.YtghpofnaojbbkaaGreatHashC
import Derived.Test.YtghpofnaojbbkaaGreatRows
/- From a contract 'it returns true, and nothing that was there has turned' to a statement of this seat: how the arguments are opened, and how the end is shut, for every law alike. Lemmas alone; no statement is claimed here. -/
namespace Go.Proofs.YtghpofnaojbbkaaGreat
open Go.ChangeShapes Go.WideShapes Go.ChangeAt Go.RowKit

theorem own_ : ownKnob Tryz.prog.godebug = none := by kernel_rfl
theorem laidOut_ : laidOutB Tryz.prog = true := by kernel_rfl

theorem trodAll_again {H : Type} {enc : TypeId × Value → H} {W W' : World} (hb : Below W.heap.size W W') : ∀ (ts : List TypeId) (vs : List Value) (ds : List (DataW H)) (ps : List MemPlace),
  DataW.TrodAll enc Tryz.prog W 0 (fun _ => true) true ts vs ds ps → (∀ t ∈ ts, Tryz.prog.readableRec t = true ∧ t < Tryz.prog.types.size) → (∀ x ∈ ps, x.block < W.heap.size) →
  DataW.TrodAll enc Tryz.prog W' 0 (fun b => decide (b < W.heap.size)) true ts vs ds ps
 | [], vs, ds, ps, h, _, _ => by
  obtain ⟨rfl, rfl, rfl⟩ := trodAll_nil h
  exact trodAll_mk0
 | t :: ts, vs, ds, ps, h, hr, hlt => by
  obtain ⟨v, vs', d, ds', p, q, rfl, rfl, rfl, h0, r0⟩ := trodAll_cons h
  have h1 := hr t (by simp)
  exact trodAll_cons_mk (Below.trod laidOut_ h1.1 h1.2 h0 hb (fun x hx => hlt x (by simp [hx]))) (trodAll_again hb ts vs' ds' q r0 (fun t ht => hr t (by simp [ht])) (fun x hx => hlt x (by simp [hx])))

theorem law_post {H : Type} {enc : TypeId × Value → H} {fn : Func} {s : ChangeSpec} {W W' : World} {args : Array Value} {ds gs : List (DataW H)} {before : List MemPlace}
  (hW : DataW.Whole enc Tryz.prog fn.params.toList s.vars false W args.toList ds gs before) (hv : s.vars = []) (hr : fn.resultTypes = #[4])
  (ht : ∀ t ∈ fn.params.toList, Tryz.prog.readableRec t = true ∧ t < Tryz.prog.types.size)
  (hfn : s.fn H (ds ++ []) = { results := [.lit (.bool true)], args := ds }) (hb : Below W.heap.size W W') :
  s.post enc Tryz.prog fn false true false false W args (.bool true) W' := by
 have hW' := hW
 obtain ⟨p, q, hA, hV, rfl, hfz, hnd⟩ := hW
 rw [hv] at hV
 obtain ⟨rfl, rfl⟩ := trodVars_none hV
 simp only [List.append_nil] at hW'
 refine ⟨ds, [], p, [], p, [], hW', ?_, ?_, ?_, hb.frame _, fun h => by cases h⟩
 ·rw [hfn, hr]
  exact trodAll_cons_mk (shut_bool Tryz.underlying4 true) trodAll_mk0
 ·rw [hfn]
  exact trodAll_again hb _ _ _ _ hA ht (fun x hx => hW'.lt x hx)
 ·rw [hfn, hv]
  rfl

end Go.Proofs.YtghpofnaojbbkaaGreat

/- Data that came in, opened: structs within structs, slices of them. Lemmas alone; no statement is claimed here. -/
namespace Go.Proofs.YtghpofnaojbbkaaGreat
open Go.ChangeShapes Go.WideShapes Go.ChangeAt Go.RowKit

def Got {H : Type} (enc : TypeId × Value → H) (W : World) (t : TypeId) (L : List Value) : Prop :=
  ∃ (m : Nat) (y : DataW H × List MemPlace), DataW.trod enc Tryz.prog W 0 (fun _ => true) true m t L = some y ∧ (∀ x ∈ y.2, x.block < W.heap.size) ∧ (y.1.weights Tryz.prog t).all (· ≤ reachBytes) = true
section
variable {H : Type} {enc : TypeId × Value → H} {W : World} {t : TypeId} {L : List Value}

theorem got_top {v : Value} {d : DataW H} {p : List MemPlace} {ts : List TypeId} {ds : List (DataW H)} (h : DataW.Trod enc Tryz.prog W 0 (fun _ => true) true t v d p) (hlt : ∀ x ∈ p, x.block < W.heap.size)
  (hsz : (DataW.weightsEach Tryz.prog ts ds).all (· ≤ reachBytes) = true) {j : Nat} (ht : ts[j]? = some t) (hd : ds[j]? = some d) : Got enc W t v.cells.toList := by
 obtain ⟨m, hm⟩ := h
 refine ⟨m, (d, p), hm, hlt, ?_⟩
 rw [List.all_eq_true] at hsz ⊢
 exact fun n hn => hsz n (DataW.weights_mem_each ht hd n hn)
theorem got_struct {fs : Array Field} (ht : Tryz.prog.underlying t = some (.struct fs)) (h : Got enc W t L) : L.length = Tryz.prog.cellsOf t ∧ ∀ (i : Nat) (f : Field), fs[i]? = some f → Got enc W f.type ((L.drop f.offset).take (Tryz.prog.cellsOf f.type)) := by
 obtain ⟨m, y, hy, hlt, hw⟩ := h
 obtain ⟨xs, n, _, hx, hl, hlen, hf⟩ := DataW.trod_struct ht hy
 refine ⟨hl, fun i f hi => ?_⟩
 have h1 := hf i f hi
 have hi2 : i < xs.length := by rw [hlen]; exact (Array.getElem?_eq_some_iff.1 hi).1
 rw [List.getElem?_eq_getElem hi2] at h1
 refine ⟨n, xs[i], h1, fun x hx2 => hlt x (by rw [hx]; exact List.mem_flatMap.2 ⟨xs[i], List.getElem_mem hi2, hx2⟩), ?_⟩
 rw [hx] at hw
 have hu : DataW.weights Tryz.prog t (.agg (xs.map (·.1))) = DataW.weightsEach Tryz.prog (fs.toList.map (·.type)) (xs.map (·.1)) := by
  simp only [DataW.weights, ht]
 rw [hu, List.all_eq_true] at hw
 rw [List.all_eq_true]
 refine fun q hq => hw q (DataW.weights_mem_each (j := i) (t := f.type) (d := xs[i].1) ?_ ?_ q hq)
 ·rw [List.getElem?_map, Array.getElem?_toList, hi]; rfl
 ·rw [List.getElem?_map, List.getElem?_eq_getElem hi2]; rfl
theorem got_int {k : IntKind} (ht : Tryz.prog.underlying t = some (.int k)) (h : Got enc W t L) : ∃ n, L = [.int k n] ∧ (Lit.int k n).wf = true := by
 obtain ⟨m, y, hy, _⟩ := h
 obtain ⟨n, h1, _, h3⟩ := DataW.trod_int ht hy
 exact ⟨n, h1, h3⟩
theorem got_slice {e : TypeId} (ht : Tryz.prog.underlying t = some (.slice e)) (h : Got enc W t L) :
  ∃ (A : Option Addr) (n c : Nat), L = [.slice A n c] ∧ n ≤ c ∧ c ≤ maxLen ∧ c * Tryz.prog.bytesOf e ≤ reachBytes ∧ (0 < Tryz.prog.cellsOf e → ∀ a, A = some a → 0 < c → a.block < W.heap.size) ∧
   ∀ i, i < n → ∃ a cl, A = some a ∧ (∀ j v, cl[j]? = some v → W.cell? (a.add (i * Tryz.prog.cellsOf e + j)) = some v) ∧ Got enc W e cl := by
 obtain ⟨m, y, hy, hlt, hw⟩ := h
 rcases DataW.trod_slice ht hy with ⟨h1, _⟩ | ⟨a, len, cap, elems, rest, n, _, h1, hx, _, hl, hm, hlen, hel, hsp, _⟩
 ·exact ⟨none, 0, 0, h1, Nat.le_refl _, Nat.zero_le _, by rw [Nat.zero_mul]; exact Nat.zero_le _, (fun _ a h => by cases h), fun i hi => absurd hi (by omega)⟩
 ·obtain ⟨hr, hrest⟩ := hsp rfl
  have hwl : (elems.length + rest.length) * Tryz.prog.bytesOf e ≤ reachBytes ∧ ∀ (i : Nat) (x : DataW H × List MemPlace), elems[i]? = some x → (x.1.weights Tryz.prog e).all (· ≤ reachBytes) = true := by
   rw [hx] at hw
   have hu : DataW.weights Tryz.prog t (.slice (elems.map (·.1)) (rest.map (·.1))) = ((elems.map (·.1)).length + (rest.map (·.1)).length) * Tryz.prog.bytesOf e :: (DataW.weightsAll Tryz.prog e (elems.map (·.1)) ++ DataW.weightsAll Tryz.prog e (rest.map (·.1))) := by
    simp only [DataW.weights, ht]
   rw [hu, List.all_cons, List.length_map, List.length_map, Bool.and_eq_true] at hw
   refine ⟨of_decide_eq_true hw.1, fun i x hi => ?_⟩
   have hmem : ∀ (l : List (DataW H)) (d : DataW H), d ∈ l → ∀ q, q ∈ d.weights Tryz.prog e → q ∈ DataW.weightsAll Tryz.prog e l := by
    intro l
    induction l with
    | nil => intro d hd; cases hd
    | cons z r ih =>
     intro d hd q hq
     simp only [DataW.weightsAll, List.mem_append]
     rcases List.mem_cons.1 hd with rfl | hd
     ·exact .inl hq
     ·exact .inr (ih d hd q hq)
   rw [List.all_eq_true]
   refine fun q hq => List.all_eq_true.1 hw.2 q (List.mem_append.2 (.inl (hmem _ x.1 (List.mem_map.2 ⟨x, List.mem_of_getElem? hi, rfl⟩) q hq)))
  refine ⟨some a, len, cap, h1, hl, hm, ?_, ?_, ?_⟩
  ·have e : elems.length + rest.length = cap := by omega
   rw [← e]; exact hwl.1
  ·intro hc b hb hpos
   cases hb
   refine hlt (.cell a.block a.off) ?_
   rw [hx]
   refine List.mem_append.2 (.inl (MemPlace.mem_row.2 ⟨0, ?_, by simp⟩))
   have e : elems.length + rest.length = cap := by omega
   rw [e]
   exact Nat.mul_pos hpos hc
  ·intro i hi
   have h2 := hel i hi
   have hi2 : i < elems.length := by omega
   rw [List.getElem?_eq_getElem hi2] at h2
   cases hcl : W.cells? 0 (a.add (i * Tryz.prog.cellsOf e)) (Tryz.prog.cellsOf e) with
   | none => rw [hcl] at h2; cases h2
   | some cl =>
    rw [hcl] at h2
    refine ⟨a, cl, rfl, ?_, ?_⟩
    ·obtain ⟨_, hcn, hca⟩ := World.cells?_some hcl
     intro j v hv
     have hj : j < Tryz.prog.cellsOf e := by rw [← hcn]; exact (List.getElem?_eq_some_iff.1 hv).1
     rw [← hv, ← hca j hj]
     rw [add_of_add]
    ·exact ⟨n, elems[i], h2, fun x hx2 => hlt x (by rw [hx]; exact List.mem_append.2 (.inr (List.mem_flatMap.2 ⟨elems[i], List.mem_append.2 (.inl (List.getElem_mem hi2)), hx2⟩))), hwl.2 i _ (List.getElem?_eq_getElem hi2)⟩
set_option maxRecDepth 100000 in
theorem got_bytes (h : Got enc W 22 L) : ∃ (A : Option Addr) (n c : Nat) (l : List UInt8), L = [.slice A n c] ∧ l.length = n ∧ n ≤ c ∧ c ≤ 140737488351232 ∧ RS cB W W.heap.size A l := by
 obtain ⟨A, n, c, h1, hn, hm, hw, hA, hel⟩ := got_slice Tryz.underlying22 h
 have e1 : Tryz.prog.cellsOf 5 = 1 := by kernel_rfl
 have e2 : Tryz.prog.bytesOf 5 = 1 := by kernel_rfl
 rw [e1] at hA hel
 rw [e2, Nat.mul_one] at hw
 have hx : ∀ i, i < n → ∃ x : UInt8, ∀ a, A = some a → W.cell? (a.add i) = some (.int .u8 (byt x)) := by
  intro i hi
  obtain ⟨a, cl, ha, hc, hg⟩ := hel i hi
  obtain ⟨z, hz, hwf⟩ := got_int Tryz.underlying5 hg
  have hr : 0 ≤ z ∧ z ≤ 255 := by simpa [Lit.wf, IntKind.min, IntKind.max, IntKind.signed, IntKind.bits] using hwf
  refine ⟨UInt8.ofNat z.toNat, fun b hb => ?_⟩
  rw [ha] at hb; cases hb
  have h2 := hc 0 (.int .u8 z) (by rw [hz]; rfl)
  rw [Nat.mul_one, Nat.add_zero] at h2
  rw [h2, byt_ofNat _ (by omega)]
  congr 2; omega
 obtain ⟨l, hl, hcell⟩ : ∃ l : List UInt8, l.length = n ∧ ∀ i (hi : i < l.length), ∀ a, A = some a → W.cell? (a.add i) = some (.int .u8 (byt l[i])) := by
  clear hel hw hm hn h1
  induction n with
  | zero => exact ⟨[], rfl, fun i hi => by cases hi⟩
  | succ n ih =>
   obtain ⟨l, hl, hc⟩ := ih (fun i hi => hx i (by omega))
   obtain ⟨x, hxx⟩ := hx n (by omega)
   refine ⟨l ++ [x], by simp [hl], fun i hi a ha => ?_⟩
   by_cases h2 : i < l.length
   ·rw [List.getElem_append_left h2]; exact hc i h2 a ha
   ·have e : i = n := by simp at hi; omega
    subst e
    rw [List.getElem_append_right (by omega)]
    simp only [hl, Nat.sub_self, List.getElem_cons_zero]
    exact hxx a ha
 have hreach : reachBytes = 140737488351232 := by decide
 refine ⟨A, n, c, l, h1, hl, hn, by omega, ⟨by simp, fun hpos => ?_⟩⟩
 obtain ⟨a, cl, ha, _, _⟩ := hel 0 (by omega)
 refine ⟨a, ha, hA (by decide) a ha (by omega), fun j u hu => ?_⟩
 rw [List.getElem?_map] at hu
 cases hj : l[j]? with
 | none => rw [hj] at hu; cases hu
 | some x =>
  rw [hj] at hu
  have hjl := (List.getElem?_eq_some_iff.1 hj).1
  have := hcell j hjl a ha
  rw [this]
  have e : l[j] = x := (List.getElem?_eq_some_iff.1 hj).2
  rw [e]
  exact hu
end
theorem cut_at {α : Type} {L : List α} {k : Nat} {a : α} (h : (L.drop k).take 1 = [a]) : L[k]? = some a := by
 have h2 := congrArg (fun q => q[0]?) h
 simpa [List.getElem?_take, List.getElem?_drop] using h2
end Go.Proofs.YtghpofnaojbbkaaGreat

/- Parameters that came in, opened. Lemmas alone; no statement is claimed here. -/
namespace Go.Proofs.YtghpofnaojbbkaaGreat
open Go.ChangeShapes Go.WideShapes Go.ChangeAt Go.RowKit

structure PrIn (W : World) (p : Pr) (ls lp : List UInt8) : Prop where
  fit : p.Fit
  hls : ls.length = p.salt.n
  hlp : lp.length = p.pers.n
  rs : RS cB W W.heap.size p.salt.A ls
  rp : RS cB W W.heap.size p.pers.A lp
  cs : p.salt.n ≤ p.salt.c ∧ p.salt.c ≤ 140737488351232
  cp : p.pers.n ≤ p.pers.c ∧ p.pers.c ≤ 140737488351232
end Go.Proofs.YtghpofnaojbbkaaGreat

/- What the statements of layer 8 are given, opened. Lemmas alone; no statement is claimed here. -/
namespace Go.Proofs.YtghpofnaojbbkaaGreat
open Go.ChangeShapes Go.WideShapes Go.ChangeAt Go.RowKit

theorem six_l {L : List Value} {a b c d e f : Value} (hl : L.length = 6) (h0 : L[0]? = some a) (h1 : L[1]? = some b) (h2 : L[2]? = some c) (h3 : L[3]? = some d) (h4 : L[4]? = some e) (h5 : L[5]? = some f) : L = [a, b, c, d, e, f] := by
 match L, hl with
 | [_, _, _, _, _, _], _ =>
  simp only [List.getElem?_cons_zero, List.getElem?_cons_succ, Option.some.injEq] at h0 h1 h2 h3 h4 h5
  subst h0 h1 h2 h3 h4 h5
  rfl
structure SlIn (W : World) (s : Sl) (l : List UInt8) : Prop where
  len : l.length = s.n
  cap : s.n ≤ s.c ∧ s.c ≤ 140737488351232
  reads : RS cB W W.heap.size s.A l
theorem SlIn.below {W W' : World} {s : Sl} {l : List UInt8} (h : SlIn W s l) (hb : Below W.heap.size W W') : SlIn W' s l := ⟨h.len, h.cap, (h.reads.below hb).more hb.size⟩
def planC (k d : Int) (a b c e : Sl) : Array Value := #[.int .i64 k, .int .i64 d, .slice a.A a.n a.c, .slice b.A b.n b.c, .slice c.A c.n c.c, .slice e.A e.n e.c]
set_option maxRecDepth 100000 in
theorem open_plan {H : Type} {enc : TypeId × Value → H} {W : World} {base : Nat} {v : Value} {d : DataW H} {p : List MemPlace} {ts : List TypeId} {ds : List (DataW H)}
  (hv : Value.okWide Tryz.prog W .any base 24 v) (h : DataW.Trod enc Tryz.prog W 0 (fun _ => true) true 24 v d p) (hlt : ∀ x ∈ p, x.block < W.heap.size)
  (hsz : (DataW.weightsEach Tryz.prog ts ds).all (· ≤ reachBytes) = true) {j : Nat} (ht : ts[j]? = some 24) (hd : ds[j]? = some d) :
  ∃ (k dg : Int) (a b c e : Sl) (la lb lc le_ : List UInt8), v = .agg (planC k dg a b c e) ∧ SlIn W a la ∧ SlIn W b lb ∧ SlIn W c lc ∧ SlIn W e le_ := by
 obtain ⟨cs, rfl, hs⟩ := okWide_struct Tryz.underlying24 hv
 obtain ⟨hl, hf⟩ := got_struct Tryz.underlying24 (got_top h hlt hsz ht hd)
 change cs.toList.length = _ at hl
 have hl : cs.toList.length = 6 := hl.trans (by kernel_rfl)
 have ci : Tryz.prog.cellsOf 3 = 1 := by kernel_rfl
 have cb : Tryz.prog.cellsOf 22 = 1 := by kernel_rfl
 have g0 : Got enc W 3 ((cs.toList.drop 0).take (Tryz.prog.cellsOf 3)) := hf 0 _ rfl
 rw [ci] at g0
 obtain ⟨k, e0, _⟩ := got_int Tryz.underlying3 g0
 have g1 : Got enc W 3 ((cs.toList.drop 1).take (Tryz.prog.cellsOf 3)) := hf 1 _ rfl
 rw [ci] at g1
 obtain ⟨dg, e1, _⟩ := got_int Tryz.underlying3 g1
 have g2 : Got enc W 22 ((cs.toList.drop 2).take (Tryz.prog.cellsOf 22)) := hf 2 _ rfl
 rw [cb] at g2
 obtain ⟨A2, n2, c2, l2, e2, hl2, hn2, hc2, hr2⟩ := got_bytes g2
 have g3 : Got enc W 22 ((cs.toList.drop 3).take (Tryz.prog.cellsOf 22)) := hf 3 _ rfl
 rw [cb] at g3
 obtain ⟨A3, n3, c3, l3, e3, hl3, hn3, hc3, hr3⟩ := got_bytes g3
 have g4 : Got enc W 22 ((cs.toList.drop 4).take (Tryz.prog.cellsOf 22)) := hf 4 _ rfl
 rw [cb] at g4
 obtain ⟨A4, n4, c4, l4, e4, hl4, hn4, hc4, hr4⟩ := got_bytes g4
 have g5 : Got enc W 22 ((cs.toList.drop 5).take (Tryz.prog.cellsOf 22)) := hf 5 _ rfl
 rw [cb] at g5
 obtain ⟨A5, n5, c5, l5, e5, hl5, hn5, hc5, hr5⟩ := got_bytes g5
 have e6 : cs.toList = (planC k dg ⟨A2, n2, c2⟩ ⟨A3, n3, c3⟩ ⟨A4, n4, c4⟩ ⟨A5, n5, c5⟩).toList := six_l hl (cut_at e0) (cut_at e1) (cut_at e2) (cut_at e3) (cut_at e4) (cut_at e5)
 exact ⟨k, dg, ⟨A2, n2, c2⟩, ⟨A3, n3, c3⟩, ⟨A4, n4, c4⟩, ⟨A5, n5, c5⟩, l2, l3, l4, l5, by rw [Array.toList_inj.1 e6], ⟨hl2, ⟨hn2, hc2⟩, hr2⟩, ⟨hl3, ⟨hn3, hc3⟩, hr3⟩, ⟨hl4, ⟨hn4, hc4⟩, hr4⟩, ⟨hl5, ⟨hn5, hc5⟩, hr5⟩⟩
end Go.Proofs.YtghpofnaojbbkaaGreat

/- FOR A PROOF OF AN '..UptoSaid': WHAT THE BOUND GIVES. Copy it as <Name>Bulk.lean (put your seat's Name for YtghpofnaojbbkaaGreat, the bound of 'uptoSmall' for 1048576), name it in GOCLAIM.json's 'order' behind <Name>Rows. By an AI agent, Sun Nov 15 2026. No person has read it. No macro, syntax, notation, axiom, sorry. -/
namespace Go.Proofs.YtghpofnaojbbkaaGreat.bulks

theorem one_le {H : Type} (d : DataW H) : 1 ≤ Rows.uptoBulk d := by
 cases d with
 | lit l => cases l <;> simp [Rows.uptoBulk]
 | nil => simp [Rows.uptoBulk]
 | ptr d => simp [Rows.uptoBulk]
 | slice elems spare => simp [Rows.uptoBulk]
 | agg parts => simp [Rows.uptoBulk]
 | iface t d => simp [Rows.uptoBulk]
 | map entries => simp [Rows.uptoBulk]
 | held h => simp [Rows.uptoBulk]

theorem append {H : Type} (l r : List (DataW H)) : Rows.uptoBulkAll (l ++ r) = Rows.uptoBulkAll l + Rows.uptoBulkAll r := by
 induction l with
 | nil => simp [Rows.uptoBulkAll]
 | cons x l ih => simp only [List.cons_append, Rows.uptoBulkAll, ih]; omega

theorem length_le {H : Type} (l : List (DataW H)) : l.length ≤ Rows.uptoBulkAll l := by
 induction l with
 | nil => simp [Rows.uptoBulkAll]
 | cons x r ih => have := one_le x; simp only [Rows.uptoBulkAll, List.length_cons]; omega

theorem slice_le {H : Type} (elems spare : List (DataW H)) : elems.length + spare.length + 1 ≤ Rows.uptoBulk (.slice elems spare) := by
 have h1 := length_le elems
 have h2 := length_le spare
 simp only [Rows.uptoBulk]
 omega
theorem bound {H : Type} {l : List (DataW H)} (hk : Rows.uptoSmall H l = true) : Rows.uptoBulkAll l ≤ 1048576 := by
 simpa [Rows.uptoSmall] using hk

theorem room {n b : Nat} (hn : n ≤ 2097152) (hb : b ≤ 4096) : (n + n / 4 + 192) * b ≤ 281474976710656 := by
 have h : (n + n / 4 + 192) * b ≤ 2621632 * 4096 := Nat.mul_le_mul (by omega) hb
 omega

end Go.Proofs.YtghpofnaojbbkaaGreat.bulks

/- Data that came in, opened, with their bulk. Lemmas alone; no statement is claimed here. -/
namespace Go.Proofs.YtghpofnaojbbkaaGreat
open Go.ChangeShapes Go.WideShapes Go.ChangeAt Go.RowKit

def GotB {H : Type} (enc : TypeId × Value → H) (W : World) (t : TypeId) (L : List Value) (b : Nat) : Prop :=
  ∃ (m : Nat) (y : DataW H × List MemPlace), DataW.trod enc Tryz.prog W 0 (fun _ => true) true m t L = some y ∧ (∀ x ∈ y.2, x.block < W.heap.size) ∧ (y.1.weights Tryz.prog t).all (· ≤ reachBytes) = true ∧ Rows.uptoBulk y.1 = b
theorem bulkAll_map {H : Type} : ∀ l : List (DataW H), Rows.uptoBulkAll l = (l.map Rows.uptoBulk).sum
 | [] => by simp [Rows.uptoBulkAll]
 | x :: r => by simp only [Rows.uptoBulkAll, List.map_cons, List.sum_cons, bulkAll_map r]
theorem build {α : Type} (wt : α → Nat) : ∀ (bs : List Nat) (P : Nat → α → Prop), (∀ i b, bs[i]? = some b → ∃ x, wt x ≤ b ∧ P i x) → ∃ xs : List α, xs.length = bs.length ∧ (xs.map wt).sum ≤ bs.sum ∧ ∀ i x, xs[i]? = some x → P i x
 | [], _, _ => ⟨[], rfl, by simp, fun i x h => by simp at h⟩
 | b :: r, P, h => by
  obtain ⟨x, h1, h2⟩ := h 0 b rfl
  obtain ⟨xs, h3, h4, h5⟩ := build wt r (fun i => P (i + 1)) (fun i b hb => h (i + 1) b (by simpa using hb))
  refine ⟨x :: xs, by simp [h3], by simp; omega, fun i y hy => ?_⟩
  cases i with
  | zero => simp at hy; subst hy; exact h2
  | succ i => exact h5 i y (by simpa using hy)
section
variable {H : Type} {enc : TypeId × Value → H} {W : World} {t : TypeId} {L : List Value} {b : Nat}

theorem GotB.got (h : GotB enc W t L b) : Got enc W t L := by
 obtain ⟨m, y, h1, h2, h3, _⟩ := h
 exact ⟨m, y, h1, h2, h3⟩
theorem gotB_top {v : Value} {d : DataW H} {p : List MemPlace} {ts : List TypeId} {ds : List (DataW H)} (h : DataW.Trod enc Tryz.prog W 0 (fun _ => true) true t v d p) (hlt : ∀ x ∈ p, x.block < W.heap.size)
  (hsz : (DataW.weightsEach Tryz.prog ts ds).all (· ≤ reachBytes) = true) {j : Nat} (ht : ts[j]? = some t) (hd : ds[j]? = some d) : GotB enc W t v.cells.toList (Rows.uptoBulk d) := by
 obtain ⟨m, hm⟩ := h
 refine ⟨m, (d, p), hm, hlt, ?_, rfl⟩
 rw [List.all_eq_true] at hsz ⊢
 exact fun n hn => hsz n (DataW.weights_mem_each ht hd n hn)
theorem gotB_struct {fs : Array Field} (ht : Tryz.prog.underlying t = some (.struct fs)) (h : GotB enc W t L b) : L.length = Tryz.prog.cellsOf t ∧ ∃ bs : List Nat, bs.length = fs.size ∧ bs.sum + 1 = b ∧ ∀ (i : Nat) (f : Field), fs[i]? = some f → ∃ bi, bs[i]? = some bi ∧ GotB enc W f.type ((L.drop f.offset).take (Tryz.prog.cellsOf f.type)) bi := by
 obtain ⟨m, y, hy, hlt, hw, hb⟩ := h
 obtain ⟨xs, n, _, hx, hl, hlen, hf⟩ := DataW.trod_struct ht hy
 refine ⟨hl, xs.map (fun x => Rows.uptoBulk x.1), by rw [List.length_map, hlen], ?_, fun i f hi => ?_⟩
 ·rw [← hb, hx]
  show _ = Rows.uptoBulkAll _ + 1
  rw [bulkAll_map, List.map_map]
  rfl
 have h1 := hf i f hi
 have hi2 : i < xs.length := by rw [hlen]; exact (Array.getElem?_eq_some_iff.1 hi).1
 rw [List.getElem?_eq_getElem hi2] at h1
 refine ⟨Rows.uptoBulk xs[i].1, by rw [List.getElem?_map, List.getElem?_eq_getElem hi2]; rfl, n, xs[i], h1, fun x hx2 => hlt x (by rw [hx]; exact List.mem_flatMap.2 ⟨xs[i], List.getElem_mem hi2, hx2⟩), ?_, rfl⟩
 rw [hx] at hw
 have hu : DataW.weights Tryz.prog t (.agg (xs.map (·.1))) = DataW.weightsEach Tryz.prog (fs.toList.map (·.type)) (xs.map (·.1)) := by
  simp only [DataW.weights, ht]
 rw [hu, List.all_eq_true] at hw
 rw [List.all_eq_true]
 refine fun q hq => hw q (DataW.weights_mem_each (j := i) (t := f.type) (d := xs[i].1) ?_ ?_ q hq)
 ·rw [List.getElem?_map, Array.getElem?_toList, hi]; rfl
 ·rw [List.getElem?_map, List.getElem?_eq_getElem hi2]; rfl
theorem gotB_slice {e : TypeId} (ht : Tryz.prog.underlying t = some (.slice e)) (h : GotB enc W t L b) :
  ∃ (A : Option Addr) (n c : Nat), L = [.slice A n c] ∧ n ≤ c ∧ c < b ∧ (0 < Tryz.prog.cellsOf e → ∀ a, A = some a → 0 < c → a.block < W.heap.size) ∧ ∃ bs : List Nat, bs.length = n ∧ bs.sum < b ∧
   ∀ i bi, bs[i]? = some bi → ∃ a cl, A = some a ∧ (∀ j v, cl[j]? = some v → W.cell? (a.add (i * Tryz.prog.cellsOf e + j)) = some v) ∧ GotB enc W e cl bi := by
 obtain ⟨m, y, hy, hlt, hw, hb⟩ := h
 rcases DataW.trod_slice ht hy with ⟨h1, h2⟩ | ⟨a, len, cap, elems, rest, n, _, h1, hx, _, hl, hm, hlen, hel, hsp, _⟩
 ·have hb1 : 1 = b := by rw [← hb, h2]; rfl
  exact ⟨none, 0, 0, h1, Nat.le_refl _, by omega, (fun _ a h => by cases h), [], rfl, by simp; omega, fun i bi h => by simp at h⟩
 ·obtain ⟨hr, hrest⟩ := hsp rfl
  have hb2 : (elems.map (fun x => Rows.uptoBulk x.1)).sum + (rest.map (fun x => Rows.uptoBulk x.1)).sum + 1 = b := by
   rw [← hb, hx]
   show _ = Rows.uptoBulkAll _ + Rows.uptoBulkAll _ + 1
   rw [bulkAll_map, bulkAll_map, List.map_map, List.map_map]
   rfl
  have hcl : elems.length + rest.length + 1 ≤ b := by
   have := bulks.slice_le (elems.map (·.1)) (rest.map (·.1))
   rw [List.length_map, List.length_map] at this
   rw [← hb, hx]
   exact this
  have hwl : ∀ (i : Nat) (x : DataW H × List MemPlace), elems[i]? = some x → (x.1.weights Tryz.prog e).all (· ≤ reachBytes) = true := by
   rw [hx] at hw
   have hu : DataW.weights Tryz.prog t (.slice (elems.map (·.1)) (rest.map (·.1))) = ((elems.map (·.1)).length + (rest.map (·.1)).length) * Tryz.prog.bytesOf e :: (DataW.weightsAll Tryz.prog e (elems.map (·.1)) ++ DataW.weightsAll Tryz.prog e (rest.map (·.1))) := by
    simp only [DataW.weights, ht]
   rw [hu, List.all_cons, List.length_map, List.length_map, Bool.and_eq_true] at hw
   refine fun i x hi => ?_
   have hmem : ∀ (l : List (DataW H)) (d : DataW H), d ∈ l → ∀ q, q ∈ d.weights Tryz.prog e → q ∈ DataW.weightsAll Tryz.prog e l := by
    intro l
    induction l with
    | nil => intro d hd; cases hd
    | cons z r ih =>
     intro d hd q hq
     simp only [DataW.weightsAll, List.mem_append]
     rcases List.mem_cons.1 hd with rfl | hd
     ·exact .inl hq
     ·exact .inr (ih d hd q hq)
   rw [List.all_eq_true]
   refine fun q hq => List.all_eq_true.1 hw.2 q (List.mem_append.2 (.inl (hmem _ x.1 (List.mem_map.2 ⟨x, List.mem_of_getElem? hi, rfl⟩) q hq)))
  refine ⟨some a, len, cap, h1, hl, by omega, ?_, elems.map (fun x => Rows.uptoBulk x.1), by rw [List.length_map, hlen], by omega, ?_⟩
  ·intro hc b hb hpos
   cases hb
   refine hlt (.cell a.block a.off) ?_
   rw [hx]
   refine List.mem_append.2 (.inl (MemPlace.mem_row.2 ⟨0, ?_, by simp⟩))
   have e : elems.length + rest.length = cap := by omega
   rw [e]
   exact Nat.mul_pos hpos hc
  ·intro i bi hbi
   have hi : i < len := by
    have := (List.getElem?_eq_some_iff.1 hbi).1
    rw [List.length_map] at this; omega
   have h2 := hel i hi
   have hi2 : i < elems.length := by omega
   rw [List.getElem?_eq_getElem hi2] at h2
   have hbe : Rows.uptoBulk elems[i].1 = bi := by
    rw [List.getElem?_map, List.getElem?_eq_getElem hi2] at hbi
    exact Option.some.inj hbi
   cases hcl : W.cells? 0 (a.add (i * Tryz.prog.cellsOf e)) (Tryz.prog.cellsOf e) with
   | none => rw [hcl] at h2; cases h2
   | some cl =>
    rw [hcl] at h2
    refine ⟨a, cl, rfl, ?_, ?_⟩
    ·obtain ⟨_, hcn, hca⟩ := World.cells?_some hcl
     intro j v hv
     have hj : j < Tryz.prog.cellsOf e := by rw [← hcn]; exact (List.getElem?_eq_some_iff.1 hv).1
     rw [← hv, ← hca j hj]
     rw [add_of_add]
    ·exact ⟨n, elems[i], h2, fun x hx2 => hlt x (by rw [hx]; exact List.mem_append.2 (.inr (List.mem_flatMap.2 ⟨elems[i], List.mem_append.2 (.inl (List.getElem_mem hi2)), hx2⟩))), hwl i _ (List.getElem?_eq_getElem hi2), hbe⟩
theorem gotB_bytes (h : GotB enc W 22 L b) : ∃ (A : Option Addr) (n c : Nat) (l : List UInt8), L = [.slice A n c] ∧ l.length = n ∧ n ≤ c ∧ c < b ∧ RS cB W W.heap.size A l := by
 obtain ⟨A, n, c, l, h1, h2, h3, -, h5⟩ := got_bytes h.got
 obtain ⟨A', n', c', h1', -, h3', -⟩ := gotB_slice Tryz.underlying22 h
 rw [h1] at h1'
 injection h1' with e _
 injection e with _ _ e
 subst e
 exact ⟨A, n, c, l, h1, h2, h3, h3', h5⟩
end
end Go.Proofs.YtghpofnaojbbkaaGreat

/- A script that a statement is given: calls of a number and bytes. Lemmas alone; no statement is claimed here. -/
namespace Go.Proofs.YtghpofnaojbbkaaGreat
open Go.ChangeShapes Go.WideShapes Go.ChangeAt Go.RowKit

theorem le_sum {x : Nat} : ∀ {l : List Nat}, x ∈ l → x ≤ l.sum
 | [], h => by cases h
 | y :: r, h => by
  rcases List.mem_cons.1 h with rfl | h
  ·simp
  ·have := le_sum h; simp; omega
structure OpV where
  what : Int
  s : Sl
  l : List UInt8
def Scr (W : World) (A : Option Addr) (os : List OpV) : Prop :=
  ∀ i o, os[i]? = some o → ∃ a, A = some a ∧ a.block < W.heap.size ∧ W.cell? (a.add (i * 2)) = some (.int .i64 o.what) ∧ W.cell? (a.add (i * 2 + 1)) = some (.slice o.s.A o.s.n o.s.c) ∧ SlIn W o.s o.l
theorem Scr.below {W W' : World} {A : Option Addr} {os : List OpV} (h : Scr W A os) (hb : Below W.heap.size W W') : Scr W' A os := fun i o ho => by
 obtain ⟨a, h1, h2, h3, h4, h5⟩ := h i o ho
 exact ⟨a, h1, Nat.lt_of_lt_of_le h2 hb.size, by rw [hb.cell (by rw [block_of_add]; exact h2)]; exact h3, by rw [hb.cell (by rw [block_of_add]; exact h2)]; exact h4, h5.below hb⟩
def opsW (os : List OpV) : Nat := (os.map (fun o => o.l.length)).sum
theorem opsW_take (os : List OpV) (k : Nat) (o : OpV) (h : os[k]? = some o) : opsW (os.take (k + 1)) = opsW (os.take k) + o.l.length := by
 unfold opsW
 rw [List.take_add_one, h]
 simp
theorem opsW_le : ∀ (os : List OpV) (k : Nat), opsW (os.take k) ≤ opsW os
 | [], k => by simp [opsW]
 | o :: r, 0 => by simp [opsW]
 | o :: r, k + 1 => by have := opsW_le r k; simp [opsW] at this ⊢; omega
set_option maxRecDepth 100000 in
theorem open_ops {H : Type} {enc : TypeId × Value → H} {W : World} {base : Nat} {v : Value} {d : DataW H} {p : List MemPlace} {ts : List TypeId} {ds : List (DataW H)}
  (hv : Value.okWide Tryz.prog W .any base 25 v) (h : DataW.Trod enc Tryz.prog W 0 (fun _ => true) true 25 v d p) (hlt : ∀ x ∈ p, x.block < W.heap.size)
  (hsz : (DataW.weightsEach Tryz.prog ts ds).all (· ≤ reachBytes) = true) {j : Nat} (ht : ts[j]? = some 25) (hd : ds[j]? = some d) :
  ∃ (A : Option Addr) (n c : Nat) (os : List OpV), v = .slice A n c ∧ os.length = n ∧ n ≤ c ∧ c < Rows.uptoBulk d ∧ opsW os < Rows.uptoBulk d ∧ Scr W A os := by
 obtain ⟨a0, len, cap, rfl⟩ := okWide_slice Tryz.underlying25 hv
 obtain ⟨A, n, c, e1, h1, h2, h3, bs, hl, hs, hel⟩ := gotB_slice Tryz.underlying25 (gotB_top h hlt hsz ht hd)
 have c2 : Tryz.prog.cellsOf 36 = 2 := by kernel_rfl
 have ci : Tryz.prog.cellsOf 3 = 1 := by kernel_rfl
 have cb : Tryz.prog.cellsOf 22 = 1 := by kernel_rfl
 rw [c2] at h3 hel
 obtain ⟨os, q1, q2, q3⟩ := build (fun o : OpV => o.l.length) bs (fun i o => ∃ a, A = some a ∧ a.block < W.heap.size ∧ W.cell? (a.add (i * 2)) = some (.int .i64 o.what) ∧ W.cell? (a.add (i * 2 + 1)) = some (.slice o.s.A o.s.n o.s.c) ∧ SlIn W o.s o.l) (fun i b hb => by
  obtain ⟨a, cl, ha, hc, hg⟩ := hel i b hb
  obtain ⟨hcl, bs2, hb1, hb2, hf⟩ := gotB_struct Tryz.underlying36 hg
  obtain ⟨b0, hb0, g0⟩ := hf 0 _ rfl
  obtain ⟨b1, hb1', g1⟩ := hf 1 _ rfl
  have g0 : GotB enc W 3 ((cl.drop 0).take (Tryz.prog.cellsOf 3)) b0 := g0
  rw [ci] at g0
  obtain ⟨k, e0, _⟩ := got_int Tryz.underlying3 g0.got
  have g1 : GotB enc W 22 ((cl.drop 1).take (Tryz.prog.cellsOf 22)) b1 := g1
  rw [cb] at g1
  obtain ⟨A1, n1, c1, l1, e1, hl1, hn1, hc1, hr1⟩ := gotB_bytes g1
  have hb1s : b1 ≤ b := by
   have : b1 ≤ bs2.sum := le_sum (List.mem_of_getElem? hb1')
   omega
  have hi : i < n := by rw [← hl]; exact (List.getElem?_eq_some_iff.1 hb).1
  have hcap : c1 ≤ 140737488351232 := by
   obtain ⟨A', n', c', l', z1, _, _, z4, _⟩ := got_bytes g1.got
   rw [e1] at z1
   injection z1 with z1 _
   injection z1 with _ _ z1
   omega
  exact ⟨⟨k, ⟨A1, n1, c1⟩, l1⟩, by show l1.length ≤ b; omega, a, ha, h3 (by decide) a ha (by omega), hc 0 _ (cut_at e0), hc 1 _ (cut_at e1), hl1, ⟨hn1, hcap⟩, hr1⟩)
 exact ⟨A, n, c, os, (List.cons.inj (show [Value.slice a0 len cap] = [Value.slice A n c] from e1)).1, by omega, h1, h2, by unfold opsW; omega, q3⟩
end Go.Proofs.YtghpofnaojbbkaaGreat

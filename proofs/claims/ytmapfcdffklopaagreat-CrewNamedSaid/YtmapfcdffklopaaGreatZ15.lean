/-
  Z15: contracts and lemmas alone; no statement is claimed here.
-/
import Derived.Test.YtmapfcdffklopaaGreatZ0
import Derived.OpenShut
import Derived.SizedLaws
import Derived.JoinedCond
import Derived.Deep.CondSized
import Derived.Deep.Slices
import Derived.Test.YtmapfcdffklopaaGreatZ13
import Derived.Test.YtmapfcdffklopaaGreatRows
namespace Go.Proofs.YtmapfcdffklopaaGreat
open Go.ChangeShapes Go.WideShapes Go.ChangeAt Go.RowKit
theorem own_ : ownKnob Tryz.prog.godebug = none := by kernel_rfl
theorem laidOut_ : laidOutB Tryz.prog = true := by kernel_rfl
theorem trodAll_again {H : Type} {enc : TypeId × Value -> H} {W W' : World} (hb : Below W.heap.size W W') : ∀ (ts : List TypeId) (vs : List Value) (ds : List (DataW H)) (ps : List MemPlace),
  DataW.TrodAll enc Tryz.prog W 0 (fun _ => true) true ts vs ds ps -> (∀ t ∈ ts, Tryz.prog.readableRec t = true /\ t < Tryz.prog.types.size) -> (∀ x ∈ ps, x.block < W.heap.size) ->
  DataW.TrodAll enc Tryz.prog W' 0 (fun b => decide (b < W.heap.size)) true ts vs ds ps
 | [], vs, ds, ps, h, _, _ => by
  obtain ⟨rfl, rfl, rfl⟩ := trodAll_nil h;exact trodAll_mk0
 | t :: ts, vs, ds, ps, h, hr, hlt => by
  obtain ⟨v, vs', d, ds', p, q, rfl, rfl, rfl, h0, r0⟩ := trodAll_cons h;have h1 := hr t (by simp);exact trodAll_cons_mk (Below.trod laidOut_ h1.1 h1.2 h0 hb (fun x hx => hlt x (by simp [hx]))) (trodAll_again hb ts vs' ds' q r0 (fun t ht => hr t (by simp [ht])) (fun x hx => hlt x (by simp [hx])))
theorem law_post {H : Type} {enc : TypeId × Value -> H} {fn : Func} {s : ChangeSpec} {W W' : World} {args : Array Value} {ds gs : List (DataW H)} {before : List MemPlace}
  (hW : DataW.Whole enc Tryz.prog fn.params.toList s.vars false W args.toList ds gs before) (hv : s.vars = []) (hr : fn.resultTypes = #[4])
  (ht : ∀ t ∈ fn.params.toList, Tryz.prog.readableRec t = true /\ t < Tryz.prog.types.size)
  (hfn : s.fn H (ds ++ []) = { results := [.lit (.bool true)], args := ds }) (hb : Below W.heap.size W W') :
  s.post enc Tryz.prog fn false true false false W args (.bool true) W' := by
 have hW' := hW;obtain ⟨p, q, hA, hV, rfl, hfz, hnd⟩ := hW;rw [hv] at hV;obtain ⟨rfl, rfl⟩ := trodVars_none hV;simp only [List.append_nil] at hW';refine ⟨ds, [], p, [], p, [], hW', ?_, ?_, ?_, hb.frame _, fun h => by cases h⟩
 ·rw [hfn, hr]
  exact trodAll_cons_mk (shut_bool Tryz.underlying4 true) trodAll_mk0
 ·rw [hfn]
  exact trodAll_again hb _ _ _ _ hA ht (fun x hx => hW'.lt x hx)
 ·rw [hfn, hv]
  rfl
set_option maxRecDepth 100000 in
theorem open_bytes {H : Type} {enc : TypeId × Value -> H} {W : World} {base : Nat} {v : Value} {d : DataW H} {p : List MemPlace}
  (hv : Value.okWide Tryz.prog W .any base 22 v) (h : DataW.Trod enc Tryz.prog W 0 (fun _ => true) true 22 v d p) (hlt : ∀ x ∈ p, x.block < W.heap.size) :
  ∃ (A : Option Addr) (c n : Nat) (l : List UInt8), v = .slice A n c /\ l.length = n /\ n <= c /\ c <= maxLen /\ RS cB W W.heap.size A l /\ ((d = .nil /\ n = 0) \/ ∃ elems spare, d = .slice elems spare /\ elems.length = n /\ elems.length + spare.length = c) := by
 obtain ⟨a0, len, cap, rfl⟩ := okWide_slice Tryz.underlying22 hv;obtain ⟨fuel, hf⟩ := h;rcases open_ints Tryz.underlying22 Tryz.underlying5 (by kernel_rfl) hf with ⟨hcs, hx⟩ | ⟨a, len', cap', zs, hcs, _, hl, hm, hz, hx, hcell, hwz⟩
 ·simp [Value.cells] at hcs
  obtain ⟨rfl, rfl, rfl⟩ := hcs;simp only [Prod.mk.injEq] at hx;exact ⟨none, 0, 0, [], rfl, rfl, Nat.le_refl _, by simp, RS.nil _, .inl ⟨hx.1, rfl⟩⟩
 ·simp [Value.cells] at hcs
  obtain ⟨rfl, rfl, rfl⟩ := hcs;simp only [Prod.mk.injEq] at hx;obtain ⟨rfl, rfl⟩ := hx;simp only [if_true] at hz;have hw : ∀ n ∈ zs, 0 <= n /\ n <= 255 := fun n hn => by
   have := hwz n hn;simpa [Lit.wf, IntKind.min, IntKind.max, IntKind.signed, IntKind.bits] using this
  refine ⟨some a, cap, len, (zs.take len).map (fun z => UInt8.ofNat z.toNat), rfl, by simp; omega, hl, hm, ⟨by simp, fun hn => ⟨a, rfl, ?_, fun j u hu => ?_⟩⟩, .inr ⟨_, _, rfl, by simp [lits]; omega, by simp [lits]; omega⟩⟩
  ·have hz0 : 0 < zs.length := by simp at hn; omega
   exact hlt (.cell a.block a.off) (MemPlace.mem_row.2 ⟨0, hz0, by simp⟩)
  ·rw [List.getElem?_map, List.getElem?_map] at hu
   cases hj : (zs.take len)[j]? with
   | none => rw [hj] at hu; simp at hu
   | some z =>
    rw [hj] at hu;simp only [Option.map_some, Option.some.injEq] at hu;subst hu;rw [List.getElem?_take] at hj
    split at hj
    ·have hjl : j < zs.length := (List.getElem?_eq_some_iff.1 hj).1
     have hz2 := hw z (List.mem_of_getElem? hj);rw [hcell j hjl, List.getD_eq_getElem?_getD, hj];simp only [Option.getD_some, Option.some.injEq]
     show _ = Value.int IntKind.u8 (byt (UInt8.ofNat z.toNat))
     unfold byt;rw [UInt8.toNat_ofNat', Nat.mod_eq_of_lt (by omega)]
     congr 1
     omega
    ·cases hj
theorem bytes_reach {H : Type} {ts : List TypeId} {ds : List (DataW H)} (hsz : (DataW.weightsEach Tryz.prog ts ds).all (· <= reachBytes) = true) {j : Nat} {d : DataW H} (ht : ts[j]? = some 22) (hd : ds[j]? = some d) {n c : Nat} (hnc : n <= c)
  (h : (d = .nil /\ n = 0) \/ ∃ elems spare, d = .slice elems spare /\ elems.length = n /\ elems.length + spare.length = c) : n <= 140737488351232 := by
 rcases h with ⟨_, rfl⟩ | ⟨elems, spare, rfl, h1, h2⟩
 ·omega
 ·have := sized_slice hsz ht hd Tryz.underlying22
  rw [h2, show Tryz.prog.bytesOf 5 = 1 from by kernel_rfl] at this;simp only [reachBytes] at this;omega
def Got {H : Type} (enc : TypeId × Value -> H) (W : World) (t : TypeId) (L : List Value) : Prop :=
  ∃ (m : Nat) (y : DataW H × List MemPlace), DataW.trod enc Tryz.prog W 0 (fun _ => true) true m t L = some y /\ (∀ x ∈ y.2, x.block < W.heap.size) /\ (y.1.weights Tryz.prog t).all (· <= reachBytes) = true
section
variable {H : Type} {enc : TypeId × Value -> H} {W : World} {t : TypeId} {L : List Value}
end
structure PrIn (W : World) (p : Pr) (ls lp : List UInt8) : Prop where
  fit : p.Fit
  hls : ls.length = p.salt.n
  hlp : lp.length = p.pers.n
  rs : RS cB W W.heap.size p.salt.A ls
  rp : RS cB W W.heap.size p.pers.A lp
  cs : p.salt.n <= p.salt.c /\ p.salt.c <= 140737488351232
  cp : p.pers.n <= p.pers.c /\ p.pers.c <= 140737488351232
structure SlIn (W : World) (s : Sl) (l : List UInt8) : Prop where
  len : l.length = s.n
  cap : s.n <= s.c /\ s.c <= 140737488351232
  reads : RS cB W W.heap.size s.A l
theorem SlIn.below {W W' : World} {s : Sl} {l : List UInt8} (h : SlIn W s l) (hb : Below W.heap.size W W') : SlIn W' s l := ⟨h.len, h.cap, (h.reads.below hb).more hb.size⟩
def planC (k d : Int) (a b c e : Sl) : Array Value := #[.int .i64 k, .int .i64 d, .slice a.A a.n a.c, .slice b.A b.n b.c, .slice c.A c.n c.c, .slice e.A e.n e.c]
end Go.Proofs.YtmapfcdffklopaaGreat
namespace Go.Proofs.YtmapfcdffklopaaGreat.bulks
theorem one_le {H : Type} (d : DataW H) : 1 <= Rows.uptoBulk d := by
  cases d with
  | lit l => cases l <;> simp [Rows.uptoBulk]
  | nil => simp [Rows.uptoBulk]
  | ptr d => simp [Rows.uptoBulk]
  | slice elems spare => simp [Rows.uptoBulk]
  | agg parts => simp [Rows.uptoBulk]
  | iface t d => simp [Rows.uptoBulk]
  | map entries => simp [Rows.uptoBulk]
  | held h => simp [Rows.uptoBulk]
theorem part_le {H : Type} {d : DataW H} {l : List (DataW H)} (h : d ∈ l) : Rows.uptoBulk d <= Rows.uptoBulkAll l := by
  induction l with
  | nil => cases h
  | cons x r ih =>
    simp only [Rows.uptoBulkAll]
    cases List.mem_cons.1 h with
    | inl e => subst e; omega
    | inr e => have := ih e; omega
theorem append {H : Type} (l r : List (DataW H)) : Rows.uptoBulkAll (l ++ r) = Rows.uptoBulkAll l + Rows.uptoBulkAll r := by
  induction l with
  | nil => simp [Rows.uptoBulkAll]
  | cons x l ih => simp only [List.cons_append, Rows.uptoBulkAll, ih]; omega
theorem length_le {H : Type} (l : List (DataW H)) : l.length <= Rows.uptoBulkAll l := by
  induction l with
  | nil => simp [Rows.uptoBulkAll]
  | cons x r ih => have := one_le x; simp only [Rows.uptoBulkAll, List.length_cons]; omega
theorem slice_le {H : Type} (elems spare : List (DataW H)) : elems.length + spare.length + 1 <= Rows.uptoBulk (.slice elems spare) := by
  have h1 := length_le elems;have h2 := length_le spare;simp only [Rows.uptoBulk];omega
theorem slice_elems {H : Type} (elems spare : List (DataW H)) : Rows.uptoBulkAll elems + 1 <= Rows.uptoBulk (.slice elems spare) := by
  simp only [Rows.uptoBulk];omega
theorem string_eq {H : Type} (bytes : List UInt8) : Rows.uptoBulk (DataW.lit (H := H) (.string bytes)) = bytes.length + 1 := by
  simp [Rows.uptoBulk]
theorem bound {H : Type} {l : List (DataW H)} (hk : Rows.uptoSmall H l = true) : Rows.uptoBulkAll l <= 1048576 := by
  simpa [Rows.uptoSmall] using hk
theorem room {n b : Nat} (hn : n <= 2097152) (hb : b <= 4096) : (n + n / 4 + 192) * b <= 281474976710656 := by
  have h : (n + n / 4 + 192) * b <= 2621632 * 4096 := Nat.mul_le_mul (by omega) hb;omega
theorem bytes_le {H : Type} {d : DataW H} {n c : Nat} (h : (d = .nil /\ n = 0) \/ ∃ elems spare, d = .slice elems spare /\ elems.length = n /\ elems.length + spare.length = c) : n <= Rows.uptoBulk d := by
  rcases h with ⟨_, rfl⟩ | ⟨elems, spare, rfl, rfl, _⟩
  · omega
  · have := slice_le elems spare; omega
end Go.Proofs.YtmapfcdffklopaaGreat.bulks
namespace Go.Proofs.YtmapfcdffklopaaGreat
open Go.ChangeShapes Go.WideShapes Go.ChangeAt Go.RowKit
def GotB {H : Type} (enc : TypeId × Value -> H) (W : World) (t : TypeId) (L : List Value) (b : Nat) : Prop :=
  ∃ (m : Nat) (y : DataW H × List MemPlace), DataW.trod enc Tryz.prog W 0 (fun _ => true) true m t L = some y /\ (∀ x ∈ y.2, x.block < W.heap.size) /\ (y.1.weights Tryz.prog t).all (· <= reachBytes) = true /\ Rows.uptoBulk y.1 = b
section
variable {H : Type} {enc : TypeId × Value -> H} {W : World} {t : TypeId} {L : List Value} {b : Nat}
end
structure OpV where
  what : Int
  s : Sl
  l : List UInt8
def Scr (W : World) (A : Option Addr) (os : List OpV) : Prop :=
  ∀ i o, os[i]? = some o -> ∃ a, A = some a /\ a.block < W.heap.size /\ W.cell? (a.add (i * 2)) = some (.int .i64 o.what) /\ W.cell? (a.add (i * 2 + 1)) = some (.slice o.s.A o.s.n o.s.c) /\ SlIn W o.s o.l
theorem Scr.below {W W' : World} {A : Option Addr} {os : List OpV} (h : Scr W A os) (hb : Below W.heap.size W W') : Scr W' A os := fun i o ho => by
 obtain ⟨a, h1, h2, h3, h4, h5⟩ := h i o ho;exact ⟨a, h1, Nat.lt_of_lt_of_le h2 hb.size, by rw [hb.cell (by rw [block_of_add]; exact h2)]; exact h3, by rw [hb.cell (by rw [block_of_add]; exact h2)]; exact h4, h5.below hb⟩
def opsW (os : List OpV) : Nat := (os.map (fun o => o.l.length)).sum
def sxV (k len : Int) (Ak : Option Addr) (nk ck : Nat) (s t : Sl) : Value := .agg #[.int .i64 k, .int .i64 len, .slice Ak nk ck, s.v, t.v]
end Go.Proofs.YtmapfcdffklopaaGreat

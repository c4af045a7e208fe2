/-
  Z23: contracts and lemmas alone; no statement is claimed here.
-/
import Derived.Test.YtmapfcdffklopaaGreatZx
import Derived.Test.YtmapfcdffklopaaGreatZxc
import Derived.Test.YtmapfcdffklopaaGreatZ21
set_option maxRecDepth 20000
namespace Go.Proofs.YtmapfcdffklopaaGreat
open _root_.List renaming length_map → bZE
open _root_.List renaming getElem?_append_right → aZV
open _root_.List renaming length_drop → aZS
open _root_.List renaming length_take → aZJ
open Go renaming results_tmp2 → aZG
open Go renaming bodyPost_ret → aZB
open Lib renaming hid -> zH
open Go.RowKit
attribute [local go_sem] pureUpon Ords.of
theorem xgiven_any (base p : Nat) (big : Bool) (len : Int) (key ls lp : List UInt8) (wr : UInt64) (e : Eng) (root : List UInt8) (pos : Nat) (cs : Array Value) (Ak : Option Addr) (ck : Nat) (s pp : Sl) (q : Nat) (F : List Nat) (Ar : Option Addr) (cr : Nat) (hv : Int) (now : List UInt8) (w : World)
  (hX : XG w base p big len key ls lp wr e root pos cs Ak ck s pp q F Ar cr hv now) :
  Calls Tryz.prog 44 #[.pointer (some ⟨p, 0, none⟩)] w fun r w' => r = .returned (.tuple #[]) /\ w = w' := by
 have h0 : 1 <= root.length := by rw [hX.rl]; cases big <;> decide
 obtain ⟨g, rfl, -⟩ : ∃ g, Ar = some ⟨g, 0, none⟩ /\ True := by
  rcases hX.or.form with ⟨-, -, h⟩ | ⟨g, h, -⟩
  ·rw [h] at h0; cases h0
  ·exact ⟨g, h, trivial⟩
 have d9 : w.cell? ⟨p, 9, none⟩ = some (.slice (some ⟨g, 0, none⟩) (bOf big) (bOf big)) := (hX.blk.cell 9).trans hX.xc.c9;have hbo : ∀ W, Sem.run Tryz.prog (Go.binOp .eql 22 (.slice (some ⟨g, 0, none⟩) (bOf big) (bOf big)) (.slice none 0 0)) W = .ok (.bool false) W := by intro W; rfl
 clear hX h0;generalize bOf big = f at *;go_enter Tryz.func44, Tryz.ntmps44;go_wp2_with fail;go_end0;exact ⟨rfl, rfl⟩
def skipS (T pos n : Nat) : Nat × Int := if 0 < n /\ T - pos = 0 then (0, 70) else (min n (T - pos), 0)
theorem XG.drewN {w : World} {base p : Nat} {big : Bool} {len : Int} {key ls lp : List UInt8} {wr : UInt64} {e : Eng} {root : List UInt8} {pos : Nat} {cs : Array Value} {Ak : Option Addr} {ck : Nat} {s pp : Sl} {q : Nat} {F : List Nat} {Ar : Option Addr} {cr : Nat} {hv : Int} {now : List UInt8} (h : XG w base p big len key ls lp wr e root pos cs Ak ck s pp q F Ar cr hv now) (n : Nat) : XG (w.drewN n) base p big len key ls lp wr e root pos cs Ak ck s pp q F Ar cr hv now :=
 ⟨h.blk.drewN n, h.xc, h.hnow, h.hls, h.hlp, h.ok.drewN n, h.os.drewN n, h.op.drewN n, h.fk, h.fs, h.fp, h.nd.drewN n, h.hp, h.hF, h.pF, h.or.drewN n, h.rl, h.fr, h.hve, h.hpos⟩
theorem XG.moved {w : World} {base p : Nat} {big : Bool} {len : Int} {key ls lp : List UInt8} {wr : UInt64} {e : Eng} {root : List UInt8} {pos : Nat} {cs : Array Value} {Ak : Option Addr} {ck : Nat} {s pp : Sl} {q : Nat} {F : List Nat} {Ar : Option Addr} {cr : Nat} {hv : Int} {now : List UInt8} (h : XG w base p big len key ls lp wr e root pos cs Ak ck s pp q F Ar cr hv now) (pos' : Nat) (hp : pos' <= totN (kOf big) len) : XG (w.setCell ⟨p, 10, none⟩ (.int .u64 pos')) base p big len key ls lp wr e root pos' (cs.setIfInBounds 10 (.int .u64 pos')) Ak ck s pp q F Ar cr hv now := by
 have B5 := But.setCell (p := ⟨p, 10, none⟩) (But.refl [p] w) (.inl (List.mem_singleton.2 rfl)) (.int .u64 pos');have sg : ∀ {k : Nat}, k ∈ [p] -> k ∈ p :: F := fun h => List.mem_cons.2 (.inl (List.mem_singleton.1 h))
 exact ⟨h.blk.set_ 10 _, h.xc.put10 _, h.hnow, h.hls, h.hlp, h.ok.but B5 (fun a ha hm => h.fk a ha (sg hm)), h.os.but B5 (fun a ha hm => h.fs a ha (sg hm)), h.op.but B5 (fun a ha hm => h.fp a ha (sg hm)), h.fk, h.fs, h.fp, h.nd.but B5 (fun k hk hm => h.pF (by rw [<- List.mem_singleton.1 hm]; exact hk)), h.hp, h.hF, h.pF, h.or.but B5 (fun a ha hm => h.fr a ha (sg hm)), h.rl, h.fr, h.hve, hp⟩
set_option maxHeartbeats 2000000 in
theorem xskip_of (Q : Option Addr -> Prop) (base p : Nat) (big : Bool) (len : Int) (key ls lp : List UInt8) (wr : UInt64) (e : Eng) (root : List UInt8) (pos n T : Nat) (Ak : Option Addr) (ck : Nat) (s pp : Sl) (q : Nat) (F : List Nat) (w : World) (hn : n < 18446744073709551616) (hTT : totN (kOf big) len = T) (hT : xTotal (kOf big) len = T) (hT2 : T <= 274877906944) (hpo : pos <= T)
  (hno : Calls Tryz.prog 29 #[.pointer (some ⟨p, 0, none⟩)] w fun r w' => r = .returned (.bool false) /\ w = w')
  (hgi : Calls Tryz.prog 44 #[.pointer (some ⟨p, 0, none⟩)] w fun r w' => r = .returned (.tuple #[]) /\ ∃ cs' Ar cr hv now, XG w' base p big len key ls lp wr e root pos cs' Ak ck s pp q F Ar cr hv now /\ But [p] w w' /\ Q Ar) :
  Calls Tryz.prog 23 #[.pointer (some ⟨p, 0, none⟩), .int .u64 n] w fun r w' => r = .returned (.tuple #[.int .u64 (skipS T pos n).1, .int .i64 (skipS T pos n).2]) /\ ∃ cs' Ar cr hv now, XG w' base p big len key ls lp wr e root (pos + (skipS T pos n).1) cs' Ak ck s pp q F Ar cr hv now /\ But [p] w w' /\ Q Ar := by
 have HNO := zH hno; have HGI := zH hgi; have HT := zH hT; have HTT := zH hTT; clear hno hgi hT hTT;obtain ⟨L, hL⟩ : ∃ L, L = T - pos := ⟨_, rfl⟩;have w1' : IntKind.u64.wrap ((T : Int) - (pos : Int)) = L := by rw [wrap_u64]; omega
 unfold skipS;rw [<- hL]
 by_cases h : 0 < n /\ L = 0
 ·exact zS40
 ·rw [if_neg h]
  by_cases h1 : 0 < n
  ·have t1 : (0 < n) = True := by simp [h1]
   have t2 : (L = 0) = False := by simp; omega
   have t3 : ((L : Int) == 0) = false := by simp; omega
   by_cases h2 : L < n
   ·open kA in exact zS40
   ·open kB in exact zS40
  ·open kC in exact zS40
def byteOf (f : Nat) (P : Nat -> List UInt8) (j : Nat) : UInt8 := (P (j / f)).getD (j % f) 0
def rowOf (f : Nat) (P : Nat -> List UInt8) (at_ n : Nat) : List UInt8 := (List.range n).map fun j => byteOf f P (at_ + j)
theorem rowOf_len (f : Nat) (P : Nat -> List UInt8) (at_ n : Nat) : (rowOf f P at_ n).length = n := by simp [rowOf]
theorem rowOf_add (f : Nat) (P : Nat -> List UInt8) (at_ n m : Nat) : rowOf f P at_ (n + m) = rowOf f P at_ n ++ rowOf f P (at_ + n) m := by
 unfold rowOf;rw [List.range_add, List.map_append, List.map_map]
 congr 1
 apply List.map_congr_left;intro j _
 show byteOf f P (at_ + (n + j)) = byteOf f P (at_ + n + j)
 rw [Nat.add_assoc]
theorem rowOf_piece (f : Nat) (P : Nat -> List UInt8) (at_ m : Nat) (hf : 1 <= f) (hm : at_ % f + m <= (P (at_ / f)).length) (hm2 : at_ % f + m <= f) : ((P (at_ / f)).drop (at_ % f)).take m = rowOf f P at_ m := by
 apply List.ext_getElem
 ·rw [aZJ, aZS, rowOf_len]; omega
 ·intro j h1 h2
  rw [rowOf_len] at h2;have hd := Nat.div_add_mod at_ f;have e1 : (at_ + j) / f = at_ / f := by
   have h3 : at_ + j = f * (at_ / f) + (at_ % f + j) := by omega
   rw [h3, Nat.mul_add_div (by omega), Nat.div_eq_of_lt (show at_ % f + j < f by omega), Nat.add_zero]
  have e2 : (at_ + j) % f = at_ % f + j := by
   have h3 : at_ + j = f * (at_ / f) + (at_ % f + j) := by omega
   rw [h3, Nat.mul_add_mod, Nat.mod_eq_of_lt (show at_ % f + j < f by omega)]
  simp only [rowOf, List.getElem_take, List.getElem_drop, List.getElem_map, List.getElem_range];unfold byteOf;rw [e1, e2, List.getD_eq_getElem?_getD, List.getElem?_eq_getElem (by omega)]
  rfl
theorem rowOf_succ (f : Nat) (P : Nat -> List UInt8) (at_ n : Nat) : rowOf f P at_ (n + 1) = rowOf f P at_ n ++ [byteOf f P (at_ + n)] := by
 rw [rowOf_add]
 rfl
theorem laid_far (L X : List Value) (k i : Nat) (hk : k + X.length <= L.length) (hi : i < k \/ k + X.length <= i) : (L.take k ++ (X ++ L.drop (k + X.length)))[i]? = L[i]? := by
 have h1 : (L.take k).length = k := by rw [aZJ]; omega
 rcases hi with hi | hi
 ·rw [List.getElem?_append_left (by omega), List.getElem?_take_of_lt hi]
 ·rw [aZV (by omega), aZV (by omega), List.getElem?_drop, h1]
  congr 1
  omega
theorem wpList_copyRow {w : World} {ops : Array Oper} {rest : List Oper} {o : Oper} {a : Act} {Q : Exit -> Act -> World -> Prop} (hgd : o.guard = none) (d s : Operand)
  (ho : o.op = .call { callee := .builtin .copy, args := #[d, s], argTypes := #[22, 22] }) {g k n dc sn sc B : Nat} {sA : Option Addr} {m : List UInt8} {t : TypeId} {cs : Array Value} (hd : a.eval d = .slice (some ⟨g, k, none⟩) n dc) (hs : a.eval s = .slice sA sn sc)
  (hb : Blk w g t cs) (hr : RS cB w B sA m) (hm : m.length = sn) (hn : sn <= n) (hfit : k + sn <= cs.size) (h0 : 1 <= sn)
  (h : ∀ w', Blk w' g t (cs.toList.take k ++ (m.map cB.enc ++ cs.toList.drop (k + sn))).toArray -> w.grownBy w' (some g) -> wpList Tryz.prog ops Q rest (a.put o.dst (goInt sn)) w') : wpList Tryz.prog ops Q (o :: rest) a w := by
 subst hm;obtain ⟨ad, rfl, hlt, hc⟩ := hr.2 (by omega);have e : (m.map cB.enc).length = m.length := bZE _;refine wpList_copy_own hgd d s 22 22 ho 5 (by kernel_rfl) (by kernel_rfl) g k n dc ad m.length sc hd hs cs t hb (m.map cB.enc) (by rw [e]; exact (Nat.min_eq_left hn).symm) hc (by rw [e]; exact hfit) (fun v hv => ?_) ?_
 ·simp only [List.mem_map] at hv; obtain ⟨x, _, rfl⟩ := hv; rfl
 ·rw [e]
  exact h _ (setRow_heap w g _ _ _ _ hb) ⟨rfl, rfl, rfl, by simp [World.setRow], fun j _ hj => setRow_other w g j _ (fun e => hj (by rw [e]))⟩
theorem XC.putNow {cs : Array Value} {k f c t : Int} {kn : Bool} {kv sv pv nv rv : Value} {pos hv : Int} {wv : Value} {now : List UInt8} (h : XC cs k f c t kn kv sv pv nv rv pos hv wv now) (m : List UInt8) (hm : m.length <= 64) :
  XC (cs.toList.take 11 ++ (m.map cB.enc ++ cs.toList.drop (11 + m.length))).toArray k f c t kn kv sv pv nv rv pos hv wv (m ++ now.drop m.length) := by
 have hsz : cs.toList.length = 77 := by rw [Array.length_toList]; exact h.sz
 have e : (m.map cB.enc).length = m.length := bZE _;have far : ∀ i, i < 11 \/ 75 <= i -> (cs.toList.take 11 ++ (m.map cB.enc ++ cs.toList.drop (11 + m.length))).toArray[i]? = cs[i]? := by
  intro i hi;rw [List.getElem?_toArray, <- e, laid_far _ _ _ _ (by rw [e]; omega) (by rw [e]; omega), Array.getElem?_toList]
 refine ⟨?_, (far 0 (by omega)).trans h.c0, (far 1 (by omega)).trans h.c1, (far 2 (by omega)).trans h.c2, (far 3 (by omega)).trans h.c3, (far 4 (by omega)).trans h.c4, (far 5 (by omega)).trans h.c5, (far 6 (by omega)).trans h.c6, (far 7 (by omega)).trans h.c7, (far 8 (by omega)).trans h.c8, (far 9 (by omega)).trans h.c9, (far 10 (by omega)).trans h.c10, (far 75 (by omega)).trans h.c75, (far 76 (by omega)).trans h.c76, ?_⟩
 ·simp only [List.size_toArray, List.length_append, aZJ, aZS, e, hsz]; omega
 ·have h1 := h.now
  simp only [Array.toList_extract, List.extract_eq_take_drop] at h1 ⊢;have h2 : (cs.toList.take 11).length = 11 := by rw [aZJ, hsz]; rfl
  rw [List.drop_append_of_le_length (by omega), List.drop_of_length_le (by omega), List.nil_append, List.take_append, List.take_of_length_le (by rw [e]; omega), List.map_append, List.map_drop, <- h1, e, List.drop_take, List.drop_drop]
def xfoot (p : Nat) (F : List Nat) (Ak As Ap Ar : Option Addr) : List Nat := p :: (F ++ (obl Ak ++ (obl As ++ (obl Ap ++ obl Ar))))
theorem mem_xfoot {p k : Nat} {F : List Nat} {Ak As Ap Ar : Option Addr} : k ∈ xfoot p F Ak As Ap Ar ↔ k = p \/ k ∈ F \/ (∃ a, Ak = some a /\ a.block = k) \/ (∃ a, As = some a /\ a.block = k) \/ (∃ a, Ap = some a /\ a.block = k) \/ (∃ a, Ar = some a /\ a.block = k) := by
 unfold xfoot;simp only [List.mem_cons, List.mem_append, mem_obl]
section
variable {w w' : World} {base p : Nat} {big : Bool} {len : Int} {key ls lp : List UInt8} {wr : UInt64} {e : Eng} {root : List UInt8} {pos : Nat} {cs : Array Value} {Ak : Option Addr} {ck : Nat} {s pp : Sl} {q : Nat} {F : List Nat} {Ar : Option Addr} {cr : Nat} {hv : Int} {now : List UInt8}
theorem XG.lt (h : XG w base p big len key ls lp wr e root pos cs Ak ck s pp q F Ar cr hv now) : ∀ k, k ∈ xfoot p F Ak s.A pp.A Ar -> k < w.heap.size := by open kA in exact zS76
theorem XG.low (h : XG w base p big len key ls lp wr e root pos cs Ak ck s pp q F Ar cr hv now) : ∀ k, k ∈ xfoot p F Ak s.A pp.A Ar -> base <= k := by open kA in exact zS77
theorem XG.but {G : List Nat} (h : XG w base p big len key ls lp wr e root pos cs Ak ck s pp q F Ar cr hv now) (hb : But G w w') (hd : ∀ k, k ∈ xfoot p F Ak s.A pp.A Ar -> k ∉ G) : XG w' base p big len key ls lp wr e root pos cs Ak ck s pp q F Ar cr hv now :=
 ⟨h.blk.but hb (hd _ (mem_xfoot.2 (.inl rfl))), h.xc, h.hnow, h.hls, h.hlp, h.ok.but hb (fun a ha => hd _ (mem_xfoot.2 (.inr (.inr (.inl ⟨a, ha, rfl⟩))))), h.os.but hb (fun a ha => hd _ (mem_xfoot.2 (.inr (.inr (.inr (.inl ⟨a, ha, rfl⟩)))))), h.op.but hb (fun a ha => hd _ (mem_xfoot.2 (.inr (.inr (.inr (.inr (.inl ⟨a, ha, rfl⟩))))))), h.fk, h.fs, h.fp,
  h.nd.but hb (fun _ hk => hd _ (mem_xfoot.2 (.inr (.inl hk)))), h.hp, h.hF, h.pF, h.or.but hb (fun a ha => hd _ (mem_xfoot.2 (.inr (.inr (.inr (.inr (.inr ⟨a, ha, rfl⟩))))))), h.rl, h.fr, h.hve, h.hpos⟩
theorem XG.below (h : XG w base p big len key ls lp wr e root pos cs Ak ck s pp q F Ar cr hv now) (hb : Below w.heap.size w w') : XG w' base p big len key ls lp wr e root pos cs Ak ck s pp q F Ar cr hv now :=
 h.but (But.of hb []) (fun _ _ hm => by cases hm)
theorem XG.own (h : XG w base p big len key ls lp wr e root pos cs Ak ck s pp q F Ar cr hv now) (hb : But [p] w w') {pos' : Nat} {cs' : Array Value} {hv' : Int} {now' : List UInt8} (hB : Blk w' p 71 cs')
  (hx : XC cs' (kOf big) (mostOf (kOf big)) (xCode (kOf big) len) (xTotal (kOf big) len) (decide (len ≠ -1)) (.slice Ak key.length ck) s.v pp.v (.pointer (some ⟨q, 0, none⟩)) (.slice Ar (bOf big) (bOf big)) pos' hv' (givesV p) now') (hn : now'.length = 64)
  (hve : hv' = -1 \/ ∃ i : Nat, hv' = i /\ i * bOf big < totN (kOf big) len /\ now'.take (pceM (bOf big) (totN (kOf big) len) i) = pieceL big len ls lp root i) (hpos : pos' <= totN (kOf big) len) :
  XG w' base p big len key ls lp wr e root pos' cs' Ak ck s pp q F Ar cr hv' now' := by
 have sg : ∀ {k : Nat}, k ∈ [p] -> k ∈ p :: F := fun h => List.mem_cons.2 (.inl (List.mem_singleton.1 h))
 exact ⟨hB, hx, hn, h.hls, h.hlp, h.ok.but hb (fun a ha hm => h.fk a ha (sg hm)), h.os.but hb (fun a ha hm => h.fs a ha (sg hm)), h.op.but hb (fun a ha hm => h.fp a ha (sg hm)), h.fk, h.fs, h.fp, h.nd.but hb (fun k hk hm => h.pF (by rw [<- List.mem_singleton.1 hm]; exact hk)), h.hp, h.hF, h.pF, h.or.but hb (fun a ha hm => h.fr a ha (sg hm)), h.rl, h.fr, hve, hpos⟩
theorem XG.cells (h : XG w base p big len key ls lp wr e root pos cs Ak ck s pp q F Ar cr hv now) {T c : Nat} (hT : xTotal (kOf big) len = T) (hC : xCode (kOf big) len = c) :
  w.cell? ⟨p, 0, none⟩ = some (.int .i64 (kOf big)) /\ w.cell? ⟨p, 1, none⟩ = some (.int .i64 (bOf big)) /\ w.cell? ⟨p, 2, none⟩ = some (.int .u32 c) /\ w.cell? ⟨p, 3, none⟩ = some (.int .u64 T) /\ w.cell? ⟨p, 4, none⟩ = some (.bool (decide (len ≠ -1))) /\
  w.cell? ⟨p, 6, none⟩ = some (.slice s.A s.n s.c) /\ w.cell? ⟨p, 7, none⟩ = some (.slice pp.A pp.n pp.c) /\ w.cell? ⟨p, 9, none⟩ = some (.slice Ar (bOf big) (bOf big)) /\ w.cell? ⟨p, 10, none⟩ = some (.int .u64 pos) /\ w.cell? ⟨p, 75, none⟩ = some (.int .i64 hv) :=
 ⟨(h.blk.cell 0).trans h.xc.c0, by rw [<- mostOf_k]; exact (h.blk.cell 1).trans h.xc.c1, by rw [<- hC]; exact (h.blk.cell 2).trans h.xc.c2, by rw [<- hT]; exact (h.blk.cell 3).trans h.xc.c3, (h.blk.cell 4).trans h.xc.c4, (h.blk.cell 6).trans h.xc.c6, (h.blk.cell 7).trans h.xc.c7, (h.blk.cell 9).trans h.xc.c9, (h.blk.cell 10).trans h.xc.c10, (h.blk.cell 75).trans h.xc.c75⟩
theorem XG.cut (h : XG w base p big len key ls lp wr e root pos cs Ak ck s pp q F Ar cr hv now) (f m : Nat) (hm : f + m <= 64) : RS cB w (p + 1) (some ⟨p, 11 + f, none⟩) ((now.drop f).take m) := by
 have hl : ((now.drop f).take m).length = m := by rw [aZJ, aZS, h.hnow]; omega
 refine ⟨by rw [hl, bZE, hl, Nat.mul_one], fun _ => ⟨_, rfl, Nat.lt_succ_self p, fun j u hu => ?_⟩⟩;have hj : j < m := by
  rcases Nat.lt_or_ge j m with hj | hj
  ·exact hj
  ·rw [List.getElem?_eq_none (by rw [bZE, hl]; exact hj)] at hu; cases hu
 have hn := h.xc.now;rw [show ((⟨p, 11 + f, none⟩ : Addr).add j) = ⟨p, 11 + f + j, none⟩ from by unfold Addr.add; split <;> simp_all];rw [h.blk.cell];have e1 : (cs.extract 11 75).toList[f + j]? = cs[11 + f + j]? := by
  rw [Array.getElem?_toList, Array.getElem?_extract, if_pos (by have := h.xc.sz; omega), Nat.add_assoc]
 rw [<- e1, hn, List.getElem?_map, <- hu, List.getElem?_map, List.getElem?_take_of_lt hj, List.getElem?_drop]
end
theorem slice_now (p fr m : Nat) (h : fr + m <= 64) (h1 : 1 <= m) (W : World) : Sem.run Tryz.prog (Instr.sliceAt 69 (.pointer (some ⟨p, 11, none⟩)) (some (.int .i64 fr)) (some (.int .i64 ((fr : Int) + (m : Int)))) none) W = .ok (.slice (some ⟨p, 11 + fr, none⟩) m (64 - fr)) W := by
 have ha : Tryz.prog.arrayLen 69 = 64 := by kernel_rfl
 have h2 := run_sliceAt_array_lh (P := Tryz.prog) W 69 ⟨p, 11, none⟩ (by kernel_rfl) .i64 .i64 (fr : Int) ((fr : Int) + (m : Int)) (by omega) (by omega) (by rw [ha]; omega);have h3 : (sizeOf (Tryz.prog.elem 69)).run Tryz.prog W = .ok 1 W := by rfl
 refine h2.trans ?_;rw [h3];have e1 : ((fr : Int) + (m : Int)).toNat = fr + m := by omega
 have e2 : (fr : Int).toNat = fr := by omega
 show Result.ok (slicedAt _ _ _ _ _) W = _
 rw [e1, e2, ha];unfold slicedAt;rw [if_neg (by omega), show fr + m - fr = m from by omega];have e3 : (⟨p, 11, none⟩ : Addr).add (fr * 1) = ⟨p, 11 + fr, none⟩ := by unfold Addr.add; split <;> simp_all
 rw [e3]
end Go.Proofs.YtmapfcdffklopaaGreat

/-
  Y33: contracts and lemmas alone; no statement is claimed here.
-/
import Derived.Test.YtmapfcdffklopaaGreatY32
namespace Go.Proofs.YtmapfcdffklopaaGreat
open Go.RowKit

def xfoot (p : Nat) (F : List Nat) (Ak As Ap Ar : Option Addr) : List Nat := p :: (F ++ (obl Ak ++ (obl As ++ (obl Ap ++ obl Ar))))
theorem mem_xfoot {p k : Nat} {F : List Nat} {Ak As Ap Ar : Option Addr} : k ∈ xfoot p F Ak As Ap Ar ↔ k = p ∨ k ∈ F ∨ (∃ a, Ak = some a ∧ a.block = k) ∨ (∃ a, As = some a ∧ a.block = k) ∨ (∃ a, Ap = some a ∧ a.block = k) ∨ (∃ a, Ar = some a ∧ a.block = k) := by
 unfold xfoot
 simp only [List.mem_cons, List.mem_append, mem_obl]
section
variable {w w' : World} {base p : Nat} {big : Bool} {len : Int} {key ls lp : List UInt8} {wr : UInt64} {e : Eng} {root : List UInt8} {pos : Nat} {cs : Array Value} {Ak : Option Addr} {ck : Nat} {s pp : Sl} {q : Nat} {F : List Nat} {Ar : Option Addr} {cr : Nat} {hv : Int} {now : List UInt8}
theorem XG.lt (h : XG w base p big len key ls lp wr e root pos cs Ak ck s pp q F Ar cr hv now) : ∀ k, k ∈ xfoot p F Ak s.A pp.A Ar → k < w.heap.size := by
 intro k hk
 rcases mem_xfoot.1 hk with h1 | h1 | ⟨a, h1, h2⟩ | ⟨a, h1, h2⟩ | ⟨a, h1, h2⟩ | ⟨a, h1, h2⟩
 ·rw [h1]; exact h.blk.lt
 ·exact h.nd.lt _ h1
 ·rw [← h2]; exact (h.ok.block_lt a h1).2
 ·rw [← h2]; exact (h.os.block_lt a h1).2
 ·rw [← h2]; exact (h.op.block_lt a h1).2
 ·rw [← h2]; exact (h.or.block_lt a h1).2
theorem XG.but {G : List Nat} (h : XG w base p big len key ls lp wr e root pos cs Ak ck s pp q F Ar cr hv now) (hb : But G w w') (hd : ∀ k, k ∈ xfoot p F Ak s.A pp.A Ar → k ∉ G) : XG w' base p big len key ls lp wr e root pos cs Ak ck s pp q F Ar cr hv now :=
 ⟨h.blk.but hb (hd _ (mem_xfoot.2 (.inl rfl))), h.xc, h.hnow, h.hls, h.hlp, h.ok.but hb (fun a ha => hd _ (mem_xfoot.2 (.inr (.inr (.inl ⟨a, ha, rfl⟩))))), h.os.but hb (fun a ha => hd _ (mem_xfoot.2 (.inr (.inr (.inr (.inl ⟨a, ha, rfl⟩)))))), h.op.but hb (fun a ha => hd _ (mem_xfoot.2 (.inr (.inr (.inr (.inr (.inl ⟨a, ha, rfl⟩))))))), h.fk, h.fs, h.fp,
  h.nd.but hb (fun _ hk => hd _ (mem_xfoot.2 (.inr (.inl hk)))), h.hp, h.hF, h.pF, h.or.but hb (fun a ha => hd _ (mem_xfoot.2 (.inr (.inr (.inr (.inr (.inr ⟨a, ha, rfl⟩))))))), h.rl, h.fr, h.hve, h.hpos⟩
theorem XG.below (h : XG w base p big len key ls lp wr e root pos cs Ak ck s pp q F Ar cr hv now) (hb : Below w.heap.size w w') : XG w' base p big len key ls lp wr e root pos cs Ak ck s pp q F Ar cr hv now :=
 h.but (But.of hb []) (fun _ _ hm => by cases hm)
theorem XG.own (h : XG w base p big len key ls lp wr e root pos cs Ak ck s pp q F Ar cr hv now) (hb : But [p] w w') {pos' : Nat} {cs' : Array Value} {hv' : Int} {now' : List UInt8} (hB : Blk w' p 71 cs')
  (hx : XC cs' (kOf big) (mostOf (kOf big)) (xCode (kOf big) len) (xTotal (kOf big) len) (decide (len ≠ -1)) (.slice Ak key.length ck) s.v pp.v (.pointer (some ⟨q, 0, none⟩)) (.slice Ar (bOf big) (bOf big)) pos' hv' (givesV p) now') (hn : now'.length = 64)
  (hve : hv' = -1 ∨ ∃ i : Nat, hv' = i ∧ i * bOf big < totN (kOf big) len ∧ now'.take (pceM (bOf big) (totN (kOf big) len) i) = pieceL big len ls lp root i) (hpos : pos' ≤ totN (kOf big) len) :
  XG w' base p big len key ls lp wr e root pos' cs' Ak ck s pp q F Ar cr hv' now' := by
 have sg : ∀ {k : Nat}, k ∈ [p] → k ∈ p :: F := fun h => List.mem_cons.2 (.inl (List.mem_singleton.1 h))
 exact ⟨hB, hx, hn, h.hls, h.hlp, h.ok.but hb (fun a ha hm => h.fk a ha (sg hm)), h.os.but hb (fun a ha hm => h.fs a ha (sg hm)), h.op.but hb (fun a ha hm => h.fp a ha (sg hm)), h.fk, h.fs, h.fp, h.nd.but hb (fun k hk hm => h.pF (by rw [← List.mem_singleton.1 hm]; exact hk)), h.hp, h.hF, h.pF, h.or.but hb (fun a ha hm => h.fr a ha (sg hm)), h.rl, h.fr, hve, hpos⟩
theorem XG.cells (h : XG w base p big len key ls lp wr e root pos cs Ak ck s pp q F Ar cr hv now) {T c : Nat} (hT : xTotal (kOf big) len = T) (hC : xCode (kOf big) len = c) :
  w.cell? ⟨p, 0, none⟩ = some (.int .i64 (kOf big)) ∧ w.cell? ⟨p, 1, none⟩ = some (.int .i64 (bOf big)) ∧ w.cell? ⟨p, 2, none⟩ = some (.int .u32 c) ∧ w.cell? ⟨p, 3, none⟩ = some (.int .u64 T) ∧ w.cell? ⟨p, 4, none⟩ = some (.bool (decide (len ≠ -1))) ∧
  w.cell? ⟨p, 6, none⟩ = some (.slice s.A s.n s.c) ∧ w.cell? ⟨p, 7, none⟩ = some (.slice pp.A pp.n pp.c) ∧ w.cell? ⟨p, 9, none⟩ = some (.slice Ar (bOf big) (bOf big)) ∧ w.cell? ⟨p, 10, none⟩ = some (.int .u64 pos) ∧ w.cell? ⟨p, 75, none⟩ = some (.int .i64 hv) :=
 ⟨(h.blk.cell 0).trans h.xc.c0, by rw [← mostOf_k]; exact (h.blk.cell 1).trans h.xc.c1, by rw [← hC]; exact (h.blk.cell 2).trans h.xc.c2, by rw [← hT]; exact (h.blk.cell 3).trans h.xc.c3, (h.blk.cell 4).trans h.xc.c4, (h.blk.cell 6).trans h.xc.c6, (h.blk.cell 7).trans h.xc.c7, (h.blk.cell 9).trans h.xc.c9, (h.blk.cell 10).trans h.xc.c10, (h.blk.cell 75).trans h.xc.c75⟩
theorem XG.cut (h : XG w base p big len key ls lp wr e root pos cs Ak ck s pp q F Ar cr hv now) (f m : Nat) (hm : f + m ≤ 64) : RS cB w (p + 1) (some ⟨p, 11 + f, none⟩) ((now.drop f).take m) := by
 have hl : ((now.drop f).take m).length = m := by rw [List.length_take, List.length_drop, h.hnow]; omega
 refine ⟨by rw [hl, List.length_map, hl, Nat.mul_one], fun _ => ⟨_, rfl, Nat.lt_succ_self p, fun j u hu => ?_⟩⟩
 have hj : j < m := by
  rcases Nat.lt_or_ge j m with hj | hj
  ·exact hj
  ·rw [List.getElem?_eq_none (by rw [List.length_map, hl]; exact hj)] at hu; cases hu
 have hn := h.xc.now
 rw [show ((⟨p, 11 + f, none⟩ : Addr).add j) = ⟨p, 11 + f + j, none⟩ from by unfold Addr.add; split <;> simp_all]
 rw [h.blk.cell]
 have e1 : (cs.extract 11 75).toList[f + j]? = cs[11 + f + j]? := by
  rw [Array.getElem?_toList, Array.getElem?_extract, if_pos (by have := h.xc.sz; omega), Nat.add_assoc]
 rw [← e1, hn, List.getElem?_map, ← hu, List.getElem?_map, List.getElem?_take_of_lt hj, List.getElem?_drop]
end
set_option maxRecDepth 20000 in
theorem slice_now (p fr m : Nat) (h : fr + m ≤ 64) (h1 : 1 ≤ m) (W : World) : Sem.run Tryz.prog (Instr.sliceAt 69 (.pointer (some ⟨p, 11, none⟩)) (some (.int .i64 fr)) (some (.int .i64 ((fr : Int) + (m : Int)))) none) W = .ok (.slice (some ⟨p, 11 + fr, none⟩) m (64 - fr)) W := by
 have ha : Tryz.prog.arrayLen 69 = 64 := by kernel_rfl
 have h2 := run_sliceAt_array_lh (P := Tryz.prog) W 69 ⟨p, 11, none⟩ (by kernel_rfl) .i64 .i64 (fr : Int) ((fr : Int) + (m : Int)) (by omega) (by omega) (by rw [ha]; omega)
 have h3 : (sizeOf (Tryz.prog.elem 69)).run Tryz.prog W = .ok 1 W := by rfl
 refine h2.trans ?_
 rw [h3]
 have e1 : ((fr : Int) + (m : Int)).toNat = fr + m := by omega
 have e2 : (fr : Int).toNat = fr := by omega
 show Result.ok (slicedAt _ _ _ _ _) W = _
 rw [e1, e2, ha]
 unfold slicedAt
 rw [if_neg (by omega), show fr + m - fr = m from by omega]
 have e3 : (⟨p, 11, none⟩ : Addr).add (fr * 1) = ⟨p, 11 + fr, none⟩ := by unfold Addr.add; split <;> simp_all
 rw [e3]
end Go.Proofs.YtmapfcdffklopaaGreat

/-
  Y32: contracts and lemmas alone; no statement is claimed here.
-/
import Derived.Test.YtmapfcdffklopaaGreatY29
import Derived.Test.YtmapfcdffklopaaGreatY31
namespace Go.Proofs.YtmapfcdffklopaaGreat
open Go.RowKit

def byteOf (f : Nat) (P : Nat → List UInt8) (j : Nat) : UInt8 := (P (j / f)).getD (j % f) 0
def rowOf (f : Nat) (P : Nat → List UInt8) (at_ n : Nat) : List UInt8 := (List.range n).map fun j => byteOf f P (at_ + j)
theorem rowOf_len (f : Nat) (P : Nat → List UInt8) (at_ n : Nat) : (rowOf f P at_ n).length = n := by simp [rowOf]
theorem rowOf_add (f : Nat) (P : Nat → List UInt8) (at_ n m : Nat) : rowOf f P at_ (n + m) = rowOf f P at_ n ++ rowOf f P (at_ + n) m := by
 unfold rowOf
 rw [List.range_add, List.map_append, List.map_map]
 congr 1
 apply List.map_congr_left
 intro j _
 show byteOf f P (at_ + (n + j)) = byteOf f P (at_ + n + j)
 rw [Nat.add_assoc]
theorem rowOf_piece (f : Nat) (P : Nat → List UInt8) (at_ m : Nat) (hf : 1 ≤ f) (hm : at_ % f + m ≤ (P (at_ / f)).length) (hm2 : at_ % f + m ≤ f) : ((P (at_ / f)).drop (at_ % f)).take m = rowOf f P at_ m := by
 apply List.ext_getElem
 ·rw [List.length_take, List.length_drop, rowOf_len]; omega
 ·intro j h1 h2
  rw [rowOf_len] at h2
  have hd := Nat.div_add_mod at_ f
  have e1 : (at_ + j) / f = at_ / f := by
   have h3 : at_ + j = f * (at_ / f) + (at_ % f + j) := by omega
   rw [h3, Nat.mul_add_div (by omega), Nat.div_eq_of_lt (show at_ % f + j < f by omega), Nat.add_zero]
  have e2 : (at_ + j) % f = at_ % f + j := by
   have h3 : at_ + j = f * (at_ / f) + (at_ % f + j) := by omega
   rw [h3, Nat.mul_add_mod, Nat.mod_eq_of_lt (show at_ % f + j < f by omega)]
  simp only [rowOf, List.getElem_take, List.getElem_drop, List.getElem_map, List.getElem_range]
  unfold byteOf
  rw [e1, e2, List.getD_eq_getElem?_getD, List.getElem?_eq_getElem (by omega)]
  rfl
theorem rowOf_succ (f : Nat) (P : Nat → List UInt8) (at_ n : Nat) : rowOf f P at_ (n + 1) = rowOf f P at_ n ++ [byteOf f P (at_ + n)] := by
 rw [rowOf_add]
 rfl
end Go.Proofs.YtmapfcdffklopaaGreat
namespace Go.Proofs.YtmapfcdffklopaaGreat
open Go.RowKit

theorem laid_far (L X : List Value) (k i : Nat) (hk : k + X.length ≤ L.length) (hi : i < k ∨ k + X.length ≤ i) : (L.take k ++ (X ++ L.drop (k + X.length)))[i]? = L[i]? := by
 have h1 : (L.take k).length = k := by rw [List.length_take]; omega
 rcases hi with hi | hi
 ·rw [List.getElem?_append_left (by omega), List.getElem?_take_of_lt hi]
 ·rw [List.getElem?_append_right (by omega), List.getElem?_append_right (by omega), List.getElem?_drop, h1]
  congr 1
  omega
theorem wpList_copyRow {w : World} {ops : Array Oper} {rest : List Oper} {o : Oper} {a : Act} {Q : Exit → Act → World → Prop} (hgd : o.guard = none) (d s : Operand)
  (ho : o.op = .call { callee := .builtin .copy, args := #[d, s], argTypes := #[22, 22] }) {g k n dc sn sc B : Nat} {sA : Option Addr} {m : List UInt8} {t : TypeId} {cs : Array Value} (hd : a.eval d = .slice (some ⟨g, k, none⟩) n dc) (hs : a.eval s = .slice sA sn sc)
  (hb : Blk w g t cs) (hr : RS cB w B sA m) (hm : m.length = sn) (hn : sn ≤ n) (hfit : k + sn ≤ cs.size) (h0 : 1 ≤ sn)
  (h : ∀ w', Blk w' g t (cs.toList.take k ++ (m.map cB.enc ++ cs.toList.drop (k + sn))).toArray → w.grownBy w' (some g) → wpList Tryz.prog ops Q rest (a.put o.dst (goInt sn)) w') : wpList Tryz.prog ops Q (o :: rest) a w := by
 subst hm
 obtain ⟨ad, rfl, hlt, hc⟩ := hr.2 (by omega)
 have e : (m.map cB.enc).length = m.length := List.length_map _
 refine wpList_copy_own hgd d s 22 22 ho 5 (by kernel_rfl) (by kernel_rfl) g k n dc ad m.length sc hd hs cs t hb (m.map cB.enc) (by rw [e]; exact (Nat.min_eq_left hn).symm) hc (by rw [e]; exact hfit) (fun v hv => ?_) ?_
 ·simp only [List.mem_map] at hv; obtain ⟨x, _, rfl⟩ := hv; rfl
 ·rw [e]
  exact h _ (setRow_heap w g _ _ _ _ hb) ⟨rfl, rfl, rfl, by simp [World.setRow], fun j _ hj => setRow_other w g j _ (fun e => hj (by rw [e]))⟩
theorem XC.putNow {cs : Array Value} {k f c t : Int} {kn : Bool} {kv sv pv nv rv : Value} {pos hv : Int} {wv : Value} {now : List UInt8} (h : XC cs k f c t kn kv sv pv nv rv pos hv wv now) (m : List UInt8) (hm : m.length ≤ 64) :
  XC (cs.toList.take 11 ++ (m.map cB.enc ++ cs.toList.drop (11 + m.length))).toArray k f c t kn kv sv pv nv rv pos hv wv (m ++ now.drop m.length) := by
 have hsz : cs.toList.length = 77 := by rw [Array.length_toList]; exact h.sz
 have e : (m.map cB.enc).length = m.length := List.length_map _
 have far : ∀ i, i < 11 ∨ 75 ≤ i → (cs.toList.take 11 ++ (m.map cB.enc ++ cs.toList.drop (11 + m.length))).toArray[i]? = cs[i]? := by
  intro i hi
  rw [List.getElem?_toArray, ← e, laid_far _ _ _ _ (by rw [e]; omega) (by rw [e]; omega), Array.getElem?_toList]
 refine ⟨?_, (far 0 (by omega)).trans h.c0, (far 1 (by omega)).trans h.c1, (far 2 (by omega)).trans h.c2, (far 3 (by omega)).trans h.c3, (far 4 (by omega)).trans h.c4, (far 5 (by omega)).trans h.c5, (far 6 (by omega)).trans h.c6, (far 7 (by omega)).trans h.c7, (far 8 (by omega)).trans h.c8, (far 9 (by omega)).trans h.c9, (far 10 (by omega)).trans h.c10, (far 75 (by omega)).trans h.c75, (far 76 (by omega)).trans h.c76, ?_⟩
 ·simp only [List.size_toArray, List.length_append, List.length_take, List.length_drop, e, hsz]; omega
 ·have h1 := h.now
  simp only [Array.toList_extract, List.extract_eq_take_drop] at h1 ⊢
  have h2 : (cs.toList.take 11).length = 11 := by rw [List.length_take, hsz]; rfl
  rw [List.drop_append_of_le_length (by omega), List.drop_of_length_le (by omega), List.nil_append, List.take_append, List.take_of_length_le (by rw [e]; omega), List.map_append, List.map_drop, ← h1, e, List.drop_take, List.drop_drop]
end Go.Proofs.YtmapfcdffklopaaGreat

/-
  Argon's memory, as the program has it: lanes of blocks; begin. Contracts alone; no statement is claimed here.
-/
import Derived.Test.YtbghkdhkahkfnaaAFilP
import Derived.Test.YtbghkdhkahkfnaaStartA
import Derived.Laws.Cover3
namespace Go.Proofs.Ytbghkdhkahkfnaa
open Go.RowKit
attribute [local go_sem] pureUpon Ords.of

def bcs (b : List UInt8) : List Value := b.map cB.enc
theorem bcs_len (b : List UInt8) : (bcs b).length = b.length := by simp [bcs]
theorem bcs_ones (b : List UInt8) : ∀ v ∈ bcs b, v.oneCell' = true := by
 intro v hv
 simp only [bcs, List.mem_map] at hv
 obtain ⟨x, -, rfl⟩ := hv
 rfl
theorem bcs_size {b : List UInt8} (h : b.length = 1024) : (Try.prog.info? 61).map (·.size) = some (bcs b).length := by rw [bcs_len, h]; kernel_rfl
theorem bcs_sizeA {b : List UInt8} (h : b.length = 1024) : (Try.prog.info? 61).map (·.size) = some (bcs b).toArray.size := by rw [List.size_toArray, bcs_len, h]; kernel_rfl
structure LaneAt (w : World) (g C : Nat) (f : Nat → List UInt8) : Prop where
  cells : ∀ c, c < C → w.rangeAt g (c * 1024) (bcs (f c))
  there : w.there g 0 (C * 1024)
section
variable {w w' : World} {g C : Nat} {f : Nat → List UInt8}
theorem World.rangeAt_blk {b o : Nat} {cs : List Value} (h : w.rangeAt b o cs) (hb : w'.heap[b]? = w.heap[b]?) : w'.rangeAt b o cs := fun j v hv => (World.cell?_of_block hb).trans (h j v hv)
theorem World.there_blk {b o n : Nat} (h : w.there b o n) (hb : w'.heap[b]? = w.heap[b]?) : w'.there b o n := fun j hj => by
 obtain ⟨h1, h2⟩ := h j hj
 refine ⟨by rw [World.cell?_of_block (w := w) (w' := w') (a := ⟨b, o + j, none⟩) hb]; exact h1, ?_⟩
 rw [← h2]
 unfold World.frozen?
 rw [hb]
theorem LaneAt.of_ (h : LaneAt w g C f) (hb : w'.heap[g]? = w.heap[g]?) : LaneAt w' g C f :=
 ⟨fun c hc => World.rangeAt_blk (h.cells c hc) hb, World.there_blk h.there hb⟩
theorem LaneAt.lt (h : LaneAt w g C f) (hC : 0 < C) : g < w.heap.size := by
 obtain ⟨h1, -⟩ := h.there 0 (by omega)
 rcases Nat.lt_or_ge g w.heap.size with h2 | h2
 ·exact h2
 ·exfalso
  have h3 : w.heap[g]? = none := Array.getElem?_eq_none h2
  unfold World.cell? at h1
  simp [h3] at h1
theorem LaneAt.reads (h : LaneAt w g C f) (hC : 0 < C) {c : Nat} (hc : c < C) : RS cB w w.heap.size (some ⟨g, c * 1024, none⟩) (f c) := by
 refine ⟨by rw [List.length_map, Nat.mul_one], fun _ => ⟨_, rfl, h.lt hC, fun j u hu => ?_⟩⟩
 rw [Addr.add_mid]
 exact h.cells c hc j u hu
theorem LaneAt.put (h : LaneAt w g C f) (hf : ∀ c, (f c).length = 1024) {c : Nat} (hc : c < C) {b : List UInt8} (hb : b.length = 1024) : LaneAt (w.setCells g (c * 1024) (bcs b)) g C (fun c' => if c' = c then b else f c') := by
 refine ⟨fun c' hc' => ?_, World.there_setCells h.there g (c * 1024) (bcs b)⟩
 have ht : w.there g (c * 1024) (bcs b).length := fun j hj => by
  rw [bcs_len, hb] at hj
  have h2 := h.there (c * 1024 + j) (by have : (c + 1) * 1024 ≤ C * 1024 := Nat.mul_le_mul_right _ hc; omega)
  rw [Nat.zero_add] at h2
  exact h2
 by_cases e : c' = c
 ·subst e
  rw [if_pos rfl]
  exact World.rangeAt_setCells_same w g (c' * 1024) (bcs b) ht
 ·rw [if_neg e]
  refine World.rangeAt_setCells_apart (h.cells c' hc') g (c * 1024) (bcs b) (.inr ?_)
  rw [bcs_len, bcs_len, hb, hf]
  rcases Nat.lt_or_gt_of_ne e with h1 | h1
  ·left; have : (c' + 1) * 1024 ≤ c * 1024 := Nat.mul_le_mul_right _ h1; omega
  ·right; have : (c + 1) * 1024 ≤ c' * 1024 := Nat.mul_le_mul_right _ h1; omega
theorem LaneAt.ext (h : LaneAt w g C f) {f' : Nat → List UInt8} (he : ∀ c, c < C → f' c = f c) : LaneAt w g C f' := ⟨fun c hc => by rw [he c hc]; exact h.cells c hc, h.there⟩
theorem LaneAt.thereC (h : LaneAt w g C f) {c : Nat} (hc : c < C) : w.there g (c * 1024) 1024 := fun j hj => by
 have h2 := h.there (c * 1024 + j) (by have : (c + 1) * 1024 ≤ C * 1024 := Nat.mul_le_mul_right _ hc; omega)
 rw [Nat.zero_add] at h2
 exact h2
end
theorem heap_setCells_other (b k : Nat) : ∀ (vs : List Value) (o : Nat) (w : World), k ≠ b → (w.setCells b o vs).heap[k]? = w.heap[k]?
 | [], _, _, _ => rfl
 | v :: r, o, w, h => (heap_setCells_other b k r (o + 1) (w.setCell ⟨b, o, none⟩ v) h).trans (Below.heap_setCell w ⟨b, o, none⟩ v k h)
def cK (C : Nat) : Cod Nat := ⟨59, 56, 24, .slice none 0 0, fun g => .slice (some ⟨g, 0, none⟩) C C⟩
theorem cK_ok (C : Nat) : (cK C).Ok Try.prog := ⟨Try.underlying56, by kernel_rfl, rfl, fun _ => rfl⟩
def memC (a : Ar) (A : Option Addr) (n c : Nat) : Array Value := #[.int .i64 a.kind, .int .i64 a.mem, .int .i64 a.passes, .int .i64 a.lanes, .int .i64 a.tag, .slice A n c]
structure PLn (w : World) (H : Nat) (a : Ar) (m : Nat) (A : Option Addr) (cap : Nat) (gs : List Nat) (F : AMem) : Prop where
  row : OS (cK a.cl) w H A cap gs
  len : gs.length = m
  lane : ∀ (l g : Nat), gs[l]? = some g → LaneAt w g a.cl (F l)
  low : ∀ g, g ∈ gs → H ≤ g
  far : ∀ (l k g : Nat), gs[l]? = some g → gs[k]? = some g → l = k
  fa : ∀ x, A = some x → x.block ∉ gs
section
variable {w w' : World} {H : Nat} {a : Ar} {m : Nat} {A : Option Addr} {cap : Nat} {gs : List Nat} {F : AMem}
theorem PLn.lt (h : PLn w H a m A cap gs F) (hC : 0 < a.cl) : ∀ g, g ∈ gs → g < w.heap.size := fun g hg => by
 obtain ⟨l, hl⟩ := List.mem_iff_getElem?.1 hg
 exact (h.lane l g hl).lt hC
theorem PLn.below (h : PLn w H a m A cap gs F) (hC : 0 < a.cl) (hb : Below w.heap.size w w') : PLn w' H a m A cap gs F :=
 ⟨h.row.below hb (Nat.le_refl _), h.len, fun l g hg => (h.lane l g hg).of_ (hb.block g (h.lt hC g (List.mem_of_getElem? hg))), h.low, h.far, h.fa⟩
theorem PLn.drewN (h : PLn w H a m A cap gs F) (n : Nat) : PLn (w.drewN n) H a m A cap gs F := ⟨h.row.drewN n, h.len, fun l g hg => (h.lane l g hg).of_ rfl, h.low, h.far, h.fa⟩
theorem PLn.but {G : List Nat} (h : PLn w H a m A cap gs F) (hC : 0 < a.cl) (hb : But G w w') (hG : ∀ g, g ∈ gs → g ∉ G) (hA : ∀ x, A = some x → x.block ∉ G) : PLn w' H a m A cap gs F :=
 ⟨h.row.but hb hA, h.len, fun l g hg => (h.lane l g hg).of_ (hb.block g (h.lt hC g (List.mem_of_getElem? hg)) (hG g (List.mem_of_getElem? hg))), h.low, h.far, h.fa⟩
theorem PLn.empty (w : World) (H : Nat) (a : Ar) (F : AMem) : PLn w H a 0 none 0 [] F := ⟨OS.nil w H 0 rfl, rfl, fun l g h => by simp at h, fun g h => by simp at h, fun l k g h => by simp at h, fun x h => by cases h⟩
theorem PLn.put (h : PLn w H a m A cap gs F) (hF : ∀ l c, (F l c).length = 1024) {l c g : Nat} (hg : gs[l]? = some g) (hc : c < a.cl) {b : List UInt8} (hb : b.length = 1024) : PLn (w.setCells g (c * 1024) (bcs b)) H a m A cap gs (putM F l c b) := by
 have hgm : g ∈ gs := List.mem_of_getElem? hg
 have hfar : ∀ k, k ≠ g → (w.setCells g (c * 1024) (bcs b)).heap[k]? = w.heap[k]? := fun k hk => by
  have h1 := (Below.refl k w)
  exact heap_setCells_other g k (bcs b) (c * 1024) w hk
 refine ⟨h.row.of_block (fun x hx => hfar _ (fun e => h.fa x hx (by rw [e]; exact hgm))), h.len, fun l' g' hg' => ?_, h.low, h.far, h.fa⟩
 by_cases e : l' = l
 ·subst e
  rw [hg] at hg'
  obtain rfl : g = g' := Option.some.inj hg'
  refine ((h.lane l' g hg).put (hF l') hc hb).ext (fun c' _ => ?_)
  unfold putM
  by_cases e2 : c' = c
  ·rw [if_pos ⟨rfl, e2⟩, if_pos e2]
  ·rw [if_neg (fun q => e2 q.2), if_neg e2]
 ·refine ((h.lane l' g' hg').of_ (hfar g' (fun e2 => e (h.far l' l g (by rw [← e2]; exact hg') hg)))).ext (fun c' _ => ?_)
  unfold putM
  rw [if_neg (fun q => e q.1)]
theorem PLn.snoc (h : PLn w H a m A cap gs F) (hC : 0 < a.cl) {g : Nat} (hl : LaneAt w g a.cl (F m)) (hg : H ≤ g) (hn : g ∉ gs) (hA : ∀ x, A = some x → x.block ≠ g) {A' : Option Addr} {cap' : Nat} (ho : OS (cK a.cl) w' H A' cap' (gs ++ [g])) (hgr : w.grownBy w' (A.map (·.block))) (hA' : A'.map (·.block) = A.map (·.block) ∨ A'.map (·.block) = some w.heap.size) : PLn w' H a (m + 1) A' cap' (gs ++ [g]) F := by
 have kp : ∀ k, k < w.heap.size → (∀ x, A = some x → x.block ≠ k) → w'.heap[k]? = w.heap[k]? := fun k hlt hne => hgr.block k hlt (fun e => by
  cases hh : A with
  | none => rw [hh] at e; cases e
  | some x => rw [hh] at e; exact hne x hh (Option.some.inj e).symm)
 have hlt := h.lt hC
 refine ⟨ho, by rw [List.length_append, h.len]; rfl, fun l q hq => ?_, fun q hq => ?_, fun l k q hq hk => ?_, fun x hx hm => ?_⟩
 ·by_cases e : l < gs.length
  ·rw [List.getElem?_append_left e] at hq
   have hqm := List.mem_of_getElem? hq
   exact (h.lane l q hq).of_ (kp q (hlt q hqm) (fun x hx e2 => h.fa x hx (by rw [e2]; exact hqm)))
  ·have hl2 := (List.getElem?_eq_some_iff.1 hq).1
   rw [List.length_append] at hl2
   have e3 : l = m := by rw [← h.len]; simp at hl2; omega
   subst e3
   rw [List.getElem?_append_right (by omega), h.len, Nat.sub_self] at hq
   obtain rfl : g = q := Option.some.inj hq
   exact hl.of_ (kp g (hl.lt hC) hA)
 ·rcases List.mem_append.1 hq with hq | hq
  ·exact h.low q hq
  ·rw [List.mem_singleton] at hq; subst hq; exact hg
 ·have hcase : ∀ i, (gs ++ [g])[i]? = some q → (i < gs.length ∧ gs[i]? = some q) ∨ (i = gs.length ∧ q = g) := fun i hi => by
   by_cases e : i < gs.length
   ·rw [List.getElem?_append_left e] at hi; exact .inl ⟨e, hi⟩
   ·have hl2 := (List.getElem?_eq_some_iff.1 hi).1
    rw [List.length_append] at hl2
    have e3 : i = gs.length := by simp at hl2; omega
    subst e3
    rw [List.getElem?_append_right (Nat.le_refl _), Nat.sub_self] at hi
    exact .inr ⟨rfl, (Option.some.inj hi).symm⟩
  rcases hcase l hq with ⟨a1, a2⟩ | ⟨a1, a2⟩ <;> rcases hcase k hk with ⟨b1, b2⟩ | ⟨b1, b2⟩
  ·exact h.far l k q a2 b2
  ·exact absurd (by rw [← b2]; exact List.mem_of_getElem? a2) hn
  ·exact absurd (by rw [← a2]; exact List.mem_of_getElem? b2) hn
  ·omega
 ·rcases hA' with e | e
  ·rw [hx] at e
   cases hh : A with
   | none => rw [hh] at e; cases e
   | some y =>
    rw [hh] at e
    have e2 : x.block = y.block := Option.some.inj e
    rcases List.mem_append.1 hm with hm | hm
    ·exact h.fa y hh (by rw [← e2]; exact hm)
    ·rw [List.mem_singleton] at hm; exact hA y hh (by rw [← e2]; exact hm)
  ·rw [hx] at e
   have e2 : x.block = w.heap.size := Option.some.inj e
   rcases List.mem_append.1 hm with hm | hm
   ·have := hlt _ hm; omega
   ·rw [List.mem_singleton] at hm; have := hl.lt hC; omega
end
theorem made_zero (n : Nat) : madeCells (Array.replicate 1024 (Value.int .u8 0)) n = Array.replicate n (.int .u8 0) := by
 apply Array.ext
 ·simp [madeCells]
 ·intro i h1 h2
  have h3 : i % 1024 < (Array.replicate 1024 (Value.int .u8 0)).size := by rw [Array.size_replicate]; exact Nat.mod_lt _ (by decide)
  simp only [madeCells, Array.getElem_map, Array.getElem_range, Array.size_replicate, Array.getElem_replicate]
  rw [getElem!_pos (Array.replicate 1024 (Value.int .u8 0)) (i % 1024) h3, Array.getElem_replicate]
theorem block_info : (Try.prog.info? 61).map (fun i => (i.zero, i.size, i.bytes)) = some (some (.agg (Array.replicate 1024 (.int .u8 0))), 1024, 1024) := by kernel_rfl
theorem run_makeBlocks (C : Nat) (hC : C ≤ 4096) (w : World) : (Instr.makeSlice 59 (.int .i64 (C : Int)) (.int .i64 (C : Int))).run Try.prog w = .ok (.slice (some ⟨w.heap.size, 0, none⟩) C C) (w.alloc (.cells (Array.replicate (C * 1024) (.int .u8 0)) 61)) := by
 obtain ⟨i, hi, hz, hz1, hz2⟩ := info_parts block_info
 have h := run_make_rowN (P := Try.prog) 59 61 i _ Try.underlying59 hi hz .i64 .i64 C C (Nat.le_refl _) (by rw [hz2]; omega) (by omega) w
 rw [hz1] at h
 rw [h]
 show Result.ok _ (w.alloc (.cells (madeCells (Array.replicate 1024 (Value.int .u8 0)) (C * 1024)) _)) = _
 rw [made_zero]
theorem lane_made (w : World) (C : Nat) : LaneAt (w.alloc (.cells (Array.replicate (C * 1024) (.int .u8 0)) 61)) w.heap.size C (fun _ => zeroB) := by
 have hb : Blk (w.alloc (.cells (Array.replicate (C * 1024) (.int .u8 0)) 61)) w.heap.size 61 (Array.replicate (C * 1024) (.int .u8 0)) := Blk.new w _ _
 refine ⟨fun c hc j v hv => ?_, fun j hj => ⟨?_, hb.frozen _⟩⟩
 ·rw [hb.cell]
  have hj : j < 1024 := by have := (List.getElem?_eq_some_iff.1 hv).1; rw [bcs_len, zeroB_len] at this; exact this
  have hlt : c * 1024 + j < C * 1024 := by have : (c + 1) * 1024 ≤ C * 1024 := Nat.mul_le_mul_right _ hc; omega
  rw [Array.getElem?_replicate, if_pos hlt]
  unfold bcs zeroB at hv
  rw [List.map_replicate, List.getElem?_replicate, if_pos hj] at hv
  exact hv
 ·rw [hb.cell, Array.getElem?_replicate, if_pos (by omega)]
  rfl
end Go.Proofs.Ytbghkdhkahkfnaa

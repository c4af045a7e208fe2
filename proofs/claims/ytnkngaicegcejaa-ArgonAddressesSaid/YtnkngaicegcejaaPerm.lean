/-
  Perm, for the program and for the reference: sixteen words go through eight Blends. Contracts alone; no statement is claimed here.
-/
import Derived.Test.YtnkngaicegcejaaBlendP
import Derived.Test.YtnkngaicegcejaaOrd
namespace Go.Proofs.Ytnkngaicegcejaa
open Go.RowKit
attribute [local go_sem] pureUpon

/-- words as an array's cells -/
def wv (x : UInt64) : Value := .int .u64 (wrd x)
def wcs (l : List UInt64) : Array Value := (l.map wv).toArray
theorem wcs_size (l : List UInt64) : (wcs l).size = l.length := by simp [wcs]
theorem wcs_all (l : List UInt64) : (wcs l).all (·.oneCell') = true := by simp [wcs, wv, Value.oneCell']
theorem wcs_set (l : List UInt64) (i : Nat) (x : UInt64) : (wcs l).setIfInBounds i (wv x) = wcs (l.set i x) := by simp [wcs, List.map_set]
theorem wcs_get (l : List UInt64) (i : Nat) (h : i < l.length) : (wcs l)[i]? = some (wv (l.getD i 0)) := by
  simp [wcs, List.getElem?_map, List.getElem?_eq_getElem h]

structure P4 where
  a : Nat
  b : Nat
  c : Nat
  d : Nat
def places : List P4 := [⟨0, 4, 8, 12⟩, ⟨1, 5, 9, 13⟩, ⟨2, 6, 10, 14⟩, ⟨3, 7, 11, 15⟩, ⟨0, 5, 10, 15⟩, ⟨1, 6, 11, 12⟩, ⟨2, 7, 8, 13⟩, ⟨3, 4, 9, 14⟩]
def place (k : Nat) : P4 := places.getD k ⟨0, 1, 2, 3⟩
def P4.at (p : P4) (l : List UInt64) : Q4 := ⟨l.getD p.a 0, l.getD p.b 0, l.getD p.c 0, l.getD p.d 0⟩
def P4.put (p : P4) (l : List UInt64) (q : Q4) : List UInt64 := (((l.set p.a q.a).set p.b q.b).set p.c q.c).set p.d q.d
def permTo : Nat → List UInt64 → List UInt64
  | 0, l => l
  | k + 1, l => (place k).put (permTo k l) (blend ((place k).at (permTo k l)))
def perm (l : List UInt64) : List UInt64 := permTo 8 l
theorem put_len (p : P4) (l : List UInt64) (q : Q4) : (p.put l q).length = l.length := by simp [P4.put]
theorem permTo_len (k : Nat) (l : List UInt64) : (permTo k l).length = l.length := by
  induction k with
  | zero => rfl
  | succ k ih => unfold permTo; rw [put_len, ih]
theorem place_ok : ∀ k, k < 8 → (place k).a < 16 ∧ (place k).b < 16 ∧ (place k).c < 16 ∧ (place k).d < 16 ∧ (place k).a ≠ (place k).b ∧ (place k).a ≠ (place k).c ∧ (place k).a ≠ (place k).d ∧ (place k).b ≠ (place k).c ∧ (place k).b ≠ (place k).d ∧ (place k).c ≠ (place k).d := by decide

def row4 (p : P4) : Value := .agg #[.int .i64 p.a, .int .i64 p.b, .int .i64 p.c, .int .i64 p.d]
def tabled : Value := (.agg #[.int .i64 0, .int .i64 4, .int .i64 8, .int .i64 12, .int .i64 1, .int .i64 5, .int .i64 9, .int .i64 13, .int .i64 2, .int .i64 6, .int .i64 10, .int .i64 14, .int .i64 3, .int .i64 7, .int .i64 11, .int .i64 15, .int .i64 0, .int .i64 5, .int .i64 10, .int .i64 15, .int .i64 1, .int .i64 6, .int .i64 11, .int .i64 12, .int .i64 2, .int .i64 7, .int .i64 8, .int .i64 13, .int .i64 3, .int .i64 4, .int .i64 9, .int .i64 14])
theorem index_place0 (w : World) : (Instr.index 82 (.agg #[.int .i64 0, .int .i64 4, .int .i64 8, .int .i64 12, .int .i64 1, .int .i64 5, .int .i64 9, .int .i64 13, .int .i64 2, .int .i64 6, .int .i64 10, .int .i64 14, .int .i64 3, .int .i64 7, .int .i64 11, .int .i64 15, .int .i64 0, .int .i64 5, .int .i64 10, .int .i64 15, .int .i64 1, .int .i64 6, .int .i64 11, .int .i64 12, .int .i64 2, .int .i64 7, .int .i64 8, .int .i64 13, .int .i64 3, .int .i64 4, .int .i64 9, .int .i64 14]) (.int .i64 0)).run Try.prog w = .ok (row4 (place 0)) w := by kernel_rfl
theorem index_place1 (w : World) : (Instr.index 82 (.agg #[.int .i64 0, .int .i64 4, .int .i64 8, .int .i64 12, .int .i64 1, .int .i64 5, .int .i64 9, .int .i64 13, .int .i64 2, .int .i64 6, .int .i64 10, .int .i64 14, .int .i64 3, .int .i64 7, .int .i64 11, .int .i64 15, .int .i64 0, .int .i64 5, .int .i64 10, .int .i64 15, .int .i64 1, .int .i64 6, .int .i64 11, .int .i64 12, .int .i64 2, .int .i64 7, .int .i64 8, .int .i64 13, .int .i64 3, .int .i64 4, .int .i64 9, .int .i64 14]) (.int .i64 1)).run Try.prog w = .ok (row4 (place 1)) w := by kernel_rfl
theorem index_place2 (w : World) : (Instr.index 82 (.agg #[.int .i64 0, .int .i64 4, .int .i64 8, .int .i64 12, .int .i64 1, .int .i64 5, .int .i64 9, .int .i64 13, .int .i64 2, .int .i64 6, .int .i64 10, .int .i64 14, .int .i64 3, .int .i64 7, .int .i64 11, .int .i64 15, .int .i64 0, .int .i64 5, .int .i64 10, .int .i64 15, .int .i64 1, .int .i64 6, .int .i64 11, .int .i64 12, .int .i64 2, .int .i64 7, .int .i64 8, .int .i64 13, .int .i64 3, .int .i64 4, .int .i64 9, .int .i64 14]) (.int .i64 2)).run Try.prog w = .ok (row4 (place 2)) w := by kernel_rfl
theorem index_place3 (w : World) : (Instr.index 82 (.agg #[.int .i64 0, .int .i64 4, .int .i64 8, .int .i64 12, .int .i64 1, .int .i64 5, .int .i64 9, .int .i64 13, .int .i64 2, .int .i64 6, .int .i64 10, .int .i64 14, .int .i64 3, .int .i64 7, .int .i64 11, .int .i64 15, .int .i64 0, .int .i64 5, .int .i64 10, .int .i64 15, .int .i64 1, .int .i64 6, .int .i64 11, .int .i64 12, .int .i64 2, .int .i64 7, .int .i64 8, .int .i64 13, .int .i64 3, .int .i64 4, .int .i64 9, .int .i64 14]) (.int .i64 3)).run Try.prog w = .ok (row4 (place 3)) w := by kernel_rfl
theorem index_place4 (w : World) : (Instr.index 82 (.agg #[.int .i64 0, .int .i64 4, .int .i64 8, .int .i64 12, .int .i64 1, .int .i64 5, .int .i64 9, .int .i64 13, .int .i64 2, .int .i64 6, .int .i64 10, .int .i64 14, .int .i64 3, .int .i64 7, .int .i64 11, .int .i64 15, .int .i64 0, .int .i64 5, .int .i64 10, .int .i64 15, .int .i64 1, .int .i64 6, .int .i64 11, .int .i64 12, .int .i64 2, .int .i64 7, .int .i64 8, .int .i64 13, .int .i64 3, .int .i64 4, .int .i64 9, .int .i64 14]) (.int .i64 4)).run Try.prog w = .ok (row4 (place 4)) w := by kernel_rfl
theorem index_place5 (w : World) : (Instr.index 82 (.agg #[.int .i64 0, .int .i64 4, .int .i64 8, .int .i64 12, .int .i64 1, .int .i64 5, .int .i64 9, .int .i64 13, .int .i64 2, .int .i64 6, .int .i64 10, .int .i64 14, .int .i64 3, .int .i64 7, .int .i64 11, .int .i64 15, .int .i64 0, .int .i64 5, .int .i64 10, .int .i64 15, .int .i64 1, .int .i64 6, .int .i64 11, .int .i64 12, .int .i64 2, .int .i64 7, .int .i64 8, .int .i64 13, .int .i64 3, .int .i64 4, .int .i64 9, .int .i64 14]) (.int .i64 5)).run Try.prog w = .ok (row4 (place 5)) w := by kernel_rfl
theorem index_place6 (w : World) : (Instr.index 82 (.agg #[.int .i64 0, .int .i64 4, .int .i64 8, .int .i64 12, .int .i64 1, .int .i64 5, .int .i64 9, .int .i64 13, .int .i64 2, .int .i64 6, .int .i64 10, .int .i64 14, .int .i64 3, .int .i64 7, .int .i64 11, .int .i64 15, .int .i64 0, .int .i64 5, .int .i64 10, .int .i64 15, .int .i64 1, .int .i64 6, .int .i64 11, .int .i64 12, .int .i64 2, .int .i64 7, .int .i64 8, .int .i64 13, .int .i64 3, .int .i64 4, .int .i64 9, .int .i64 14]) (.int .i64 6)).run Try.prog w = .ok (row4 (place 6)) w := by kernel_rfl
theorem index_place7 (w : World) : (Instr.index 82 (.agg #[.int .i64 0, .int .i64 4, .int .i64 8, .int .i64 12, .int .i64 1, .int .i64 5, .int .i64 9, .int .i64 13, .int .i64 2, .int .i64 6, .int .i64 10, .int .i64 14, .int .i64 3, .int .i64 7, .int .i64 11, .int .i64 15, .int .i64 0, .int .i64 5, .int .i64 10, .int .i64 15, .int .i64 1, .int .i64 6, .int .i64 11, .int .i64 12, .int .i64 2, .int .i64 7, .int .i64 8, .int .i64 13, .int .i64 3, .int .i64 4, .int .i64 9, .int .i64 14]) (.int .i64 7)).run Try.prog w = .ok (row4 (place 7)) w := by kernel_rfl
theorem index_place (k : Nat) (hk : k < 8) (w : World) : (Instr.index 82 (.agg #[.int .i64 0, .int .i64 4, .int .i64 8, .int .i64 12, .int .i64 1, .int .i64 5, .int .i64 9, .int .i64 13, .int .i64 2, .int .i64 6, .int .i64 10, .int .i64 14, .int .i64 3, .int .i64 7, .int .i64 11, .int .i64 15, .int .i64 0, .int .i64 5, .int .i64 10, .int .i64 15, .int .i64 1, .int .i64 6, .int .i64 11, .int .i64 12, .int .i64 2, .int .i64 7, .int .i64 8, .int .i64 13, .int .i64 3, .int .i64 4, .int .i64 9, .int .i64 14]) (.int .i64 k)).run Try.prog w = .ok (row4 (place k)) w := by
  have h : k = 0 ∨ k = 1 ∨ k = 2 ∨ k = 3 ∨ k = 4 ∨ k = 5 ∨ k = 6 ∨ k = 7 := by omega
  rcases h with rfl | rfl | rfl | rfl | rfl | rfl | rfl | rfl
  · exact index_place0 w
  · exact index_place1 w
  · exact index_place2 w
  · exact index_place3 w
  · exact index_place4 w
  · exact index_place5 w
  · exact index_place6 w
  · exact index_place7 w

set_option maxRecDepth 10000 in
set_option maxHeartbeats 8000000 in
theorem perm_any (l : List UInt64) (hl : l.length = 16) (w : World) :
    Calls Try.prog 22 #[.agg (wcs l)] w fun e w' => e = .returned (.agg (wcs (perm l))) ∧ Below w.heap.size w w' := by
  have HL := Lib.hid hl; clear hl
  go_enter Try.func22, Try.ntmps22
  go_wp2
  obtain ⟨H, hH⟩ : ∃ H, H = w.heap.size := ⟨_, rfl⟩
  rw [← hH]
  have HH := Lib.hid hH; clear hH
  go_loopw [4, 14] (fun p i wr => ∃ k : Nat, k ≤ 8 ∧ i = .int .i64 k ∧ Blk wr H 35 (wcs (permTo k l)) ∧ (∃ cs, cs.size = 16 ∧ Blk wr (H + 1) 35 cs) ∧ Below H w wr) (fun _ i _ => 8 - (intOf i).toNat)
  case atStart =>
    refine ⟨0, by omega, rfl, ?_, ⟨#[.int .u64 0, .int .u64 0, .int .u64 0, .int .u64 0, .int .u64 0, .int .u64 0, .int .u64 0, .int .u64 0, .int .u64 0, .int .u64 0, .int .u64 0, .int .u64 0, .int .u64 0, .int .u64 0, .int .u64 0, .int .u64 0], rfl, ?_⟩, ?_⟩
    · rw [HH.out]; exact (Blk.new _ _ _).alloc _
    · rw [HH.out]
      have := Blk.new (w.alloc (.cells (wcs l) 35)) 35 #[.int .u64 0, .int .u64 0, .int .u64 0, .int .u64 0, .int .u64 0, .int .u64 0, .int .u64 0, .int .u64 0, .int .u64 0, .int .u64 0, .int .u64 0, .int .u64 0, .int .u64 0, .int .u64 0, .int .u64 0, .int .u64 0]
      simpa using this
    · rw [HH.out]; exact ((Below.refl _ _).alloc (Nat.le_refl _) _).alloc (by simp) _
  case round =>
    obtain ⟨k, hk, rfl, hb, ⟨cs2, hcs2, hb2⟩, hbw⟩ := hrel
    have HB := Lib.hid hb; have HB2 := Lib.hid hb2; have HC2 := Lib.hid hcs2; clear hb hb2 hcs2
    by_cases hlt : k < 8
    · have hidx := index_place k hlt
      unfold row4 at hidx
      obtain ⟨ha, hb, hc, hd, h1, h2, h3, h4, h5, h6⟩ := place_ok k hlt
      have HLk : Hid ((permTo k l).length = 16) := by show _ = _; rw [permTo_len, HL.out]
      obtain ⟨pl, hpl⟩ : ∃ p, p = place k := ⟨_, rfl⟩
      rw [← hpl] at hidx ha hb hc hd h1 h2 h3 h4 h5 h6
      obtain ⟨pa, pb, pc, pd⟩ := pl
      dsimp only at hidx ha hb hc hd h1 h2 h3 h4 h5 h6
      obtain ⟨L, hL⟩ : ∃ L, L = permTo k l := ⟨_, rfl⟩
      rw [← hL] at HB HLk
      have HPL := Lib.hid hpl; have HLL := Lib.hid hL; clear hpl hL
      obtain ⟨q, hq⟩ : ∃ q, q = P4.at ⟨pa, pb, pc, pd⟩ L := ⟨_, rfl⟩
      have ga : wr.cell? ⟨H, pa, none⟩ = some (.int .u64 (wrd q.a)) := by rw [HB.out.cell, wcs_get _ _ (by rw [HLk.out]; exact ha), hq]; rfl
      have gb : wr.cell? ⟨H, pb, none⟩ = some (.int .u64 (wrd q.b)) := by rw [HB.out.cell, wcs_get _ _ (by rw [HLk.out]; exact hb), hq]; rfl
      have gc : wr.cell? ⟨H, pc, none⟩ = some (.int .u64 (wrd q.c)) := by rw [HB.out.cell, wcs_get _ _ (by rw [HLk.out]; exact hc), hq]; rfl
      have gd : wr.cell? ⟨H, pd, none⟩ = some (.int .u64 (wrd q.d)) := by rw [HB.out.cell, wcs_get _ _ (by rw [HLk.out]; exact hd), hq]; rfl
      have fa : ∀ i, wr.frozen? ⟨H, i, none⟩ = false := HB.out.frozen
      have hHs : H < wr.heap.size := HB.out.lt
      have HQ := Lib.hid hq; clear hq
      have i1 : (0 : Int) ≤ pa ∧ (pa : Int) < 16 := by omega
      have i2 : (0 : Int) ≤ pb ∧ (pb : Int) < 16 := by omega
      have i3 : (0 : Int) ≤ pc ∧ (pc : Int) < 16 := by omega
      have i4 : (0 : Int) ≤ pd ∧ (pd : Int) < 16 := by omega
      obtain ⟨i1, i1'⟩ := i1
      obtain ⟨i2, i2'⟩ := i2
      obtain ⟨i3, i3'⟩ := i3
      obtain ⟨i4, i4'⟩ := i4
      go_wp2
      have hne : H ≠ wr.heap.size := by omega
      have T0 := Blk.new wr 81 #[.int .i64 pa, .int .i64 pb, .int .i64 pc, .int .i64 pd]
      refine wp_region_ord (fun w' => Blk w' wr.heap.size 81 #[.int .i64 pa, .int .i64 pb, .int .i64 pc, .int .i64 pd]) (fun _ n h => Blk.drewN h n)
        [(0, 0), (0, 1), (0, 2), (0, 3), (0, 4), (0, 5), (0, 6), (0, 7), (0, 8), (0, 9), (0, 10), (1, 11), (0, 12), (0, 13), (0, 14), (1, 15), (0, 16), (0, 17), (0, 18), (1, 19), (0, 20), (0, 21), (0, 22), (1, 23), (1, 24), (0, 25), (0, 26), (0, 27), (0, 28), (0, 29), (0, 30), (2, 31), (0, 32), (2, 33), (0, 34), (2, 35), (0, 36), (2, 37)] (by kernel_rfl) rfl (by kernel_rfl) (by kernel_rfl) (fun c a d v w h => by cases d <;> exact h) ?_ ?_
      · exact T0
      refine ord_pure rfl (fun K hK => ?_); go_simp; refine hK _ ?_; clear hK K
      refine ord_held (v := .int .i64 pa) rfl rfl (fun w' hS => ?_) ?_; have s0 : w'.cell? ⟨wr.heap.size, 0, none⟩ = some (.int .i64 pa) := hS.cell 0; go_simp; go_simp
      refine ord_pure rfl (fun K hK => ?_); go_simp; refine hK _ ?_; clear hK K
      refine ord_held (v := .int .i64 pb) rfl rfl (fun w' hS => ?_) ?_; have s0 : w'.cell? ⟨wr.heap.size, 1, none⟩ = some (.int .i64 pb) := hS.cell 1; go_simp; go_simp
      refine ord_pure rfl (fun K hK => ?_); go_simp; refine hK _ ?_; clear hK K
      refine ord_held (v := .int .i64 pc) rfl rfl (fun w' hS => ?_) ?_; have s0 : w'.cell? ⟨wr.heap.size, 2, none⟩ = some (.int .i64 pc) := hS.cell 2; go_simp; go_simp
      refine ord_pure rfl (fun K hK => ?_); go_simp; refine hK _ ?_; clear hK K
      refine ord_held (v := .int .i64 pd) rfl rfl (fun w' hS => ?_) ?_; have s0 : w'.cell? ⟨wr.heap.size, 3, none⟩ = some (.int .i64 pd) := hS.cell 3; go_simp; go_simp
      refine ord_pure rfl (fun K hK => ?_); go_simp; refine hK _ ?_; clear hK K
      refine ord_held (v := .int .i64 pa) rfl rfl (fun w' hS => ?_) ?_; have s0 : w'.cell? ⟨wr.heap.size, 0, none⟩ = some (.int .i64 pa) := hS.cell 0; go_simp; go_simp
      refine ord_pure rfl (fun K hK => ?_); go_simp; refine hK _ ?_; clear hK K
      refine ord_read rfl (fun K hK => ?_); go_simp; refine hK _ ?_; clear hK K
      refine ord_pure rfl (fun K hK => ?_); go_simp; refine hK _ ?_; clear hK K
      refine ord_held (v := .int .i64 pb) rfl rfl (fun w' hS => ?_) ?_; have s0 : w'.cell? ⟨wr.heap.size, 1, none⟩ = some (.int .i64 pb) := hS.cell 1; go_simp; go_simp
      refine ord_pure rfl (fun K hK => ?_); go_simp; refine hK _ ?_; clear hK K
      refine ord_read rfl (fun K hK => ?_); go_simp; refine hK _ ?_; clear hK K
      refine ord_pure rfl (fun K hK => ?_); go_simp; refine hK _ ?_; clear hK K
      refine ord_held (v := .int .i64 pc) rfl rfl (fun w' hS => ?_) ?_; have s0 : w'.cell? ⟨wr.heap.size, 2, none⟩ = some (.int .i64 pc) := hS.cell 2; go_simp; go_simp
      refine ord_pure rfl (fun K hK => ?_); go_simp; refine hK _ ?_; clear hK K
      refine ord_read rfl (fun K hK => ?_); go_simp; refine hK _ ?_; clear hK K
      refine ord_pure rfl (fun K hK => ?_); go_simp; refine hK _ ?_; clear hK K
      refine ord_held (v := .int .i64 pd) rfl rfl (fun w' hS => ?_) ?_; have s0 : w'.cell? ⟨wr.heap.size, 3, none⟩ = some (.int .i64 pd) := hS.cell 3; go_simp; go_simp
      refine ord_pure rfl (fun K hK => ?_); go_simp; refine hK _ ?_; clear hK K
      refine ord_read rfl (fun K hK => ?_); go_simp; refine hK _ ?_; clear hK K
      refine ord_read rfl (fun K hK => ?_)
      go_simp
      apply Exists.intro
      refine ⟨fun _ => ?_, hK _ ?_⟩
      · go_at_call 20
        refine (blend_any q _).mono ?_
        rintro e w' ⟨rfl, rfl⟩
        exact ⟨rfl, _, rfl⟩
      clear hK K
      refine ord_pure rfl (fun K hK => ?_); go_simp; refine hK _ ?_; clear hK K
      refine ord_pure rfl (fun K hK => ?_); go_simp; refine hK _ ?_; clear hK K
      refine ord_pure rfl (fun K hK => ?_); go_simp; refine hK _ ?_; clear hK K
      refine ord_pure rfl (fun K hK => ?_); go_simp; refine hK _ ?_; clear hK K
      refine ord_pure rfl (fun K hK => ?_); go_simp; refine hK _ ?_; clear hK K
      refine ord_pure rfl (fun K hK => ?_); go_simp; refine hK _ ?_; clear hK K
      refine ord_loud rfl (fun n1 => ?_)
      go_wp2
      have T1 := (T0.drewN n1).far (p := ⟨H, pa, none⟩) (Ne.symm hne) (.int .u64 (wrd (blend q).a))
      refine ⟨T1, ?_⟩
      refine ord_pure rfl (fun K hK => ?_); go_simp; refine hK _ ?_; clear hK K
      refine ord_loud rfl (fun n2 => ?_)
      go_wp2
      have T2 := (T1.drewN n2).far (p := ⟨H, pb, none⟩) (Ne.symm hne) (.int .u64 (wrd (blend q).b))
      refine ⟨T2, ?_⟩
      refine ord_pure rfl (fun K hK => ?_); go_simp; refine hK _ ?_; clear hK K
      refine ord_loud rfl (fun n3 => ?_)
      go_wp2
      have T3 := (T2.drewN n3).far (p := ⟨H, pc, none⟩) (Ne.symm hne) (.int .u64 (wrd (blend q).c))
      refine ⟨T3, ?_⟩
      refine ord_pure rfl (fun K hK => ?_); go_simp; refine hK _ ?_; clear hK K
      refine ord_loud rfl (fun n4 => ?_)
      go_wp2
      have T4 := (T3.drewN n4).far (p := ⟨H, pd, none⟩) (Ne.symm hne) (.int .u64 (wrd (blend q).d))
      refine ⟨T4, ?_⟩
      refine ord_end (fun n5 => ?_)
      go_wp2
      case roundEnd =>
      have B4 := (((((((HB.out.alloc (.cells #[.int .i64 pa, .int .i64 pb, .int .i64 pc, .int .i64 pd] 81)).drewN n1).set_ pa (wv (blend q).a)).drewN n2).set_ pb (wv (blend q).b)).drewN n3 |>.set_ pc (wv (blend q).c)).drewN n4 |>.set_ pd (wv (blend q).d)).drewN n5
      rw [wcs_set, wcs_set, wcs_set, wcs_set] at B4
      refine ⟨⟨k + 1, by omega, rfl, ?_, ⟨cs2, HC2.out, ?_⟩, ?_⟩, ?_⟩
      · show Blk _ H _ (wcs ((place k).put (permTo k l) (blend ((place k).at (permTo k l)))))
        rw [← HPL.out, ← HLL.out, ← HQ.out]
        exact B4
      · have hf : H + 1 ≠ H := by omega
        exact (((((((HB2.out.alloc _).drewN n1).far hf _).drewN n2).far hf _).drewN n3 |>.far hf _).drewN n4 |>.far hf _).drewN n5
      · have hr : H ≤ H := Nat.le_refl _
        exact below_drewN (below_put (below_drewN (below_put (below_drewN (below_put (below_drewN (below_put (below_drewN (hbw.alloc (Nat.le_of_lt hHs) _) n1) hr) n2) hr) n3) hr) n4) hr) n5
      · simp only [intOf]; omega
    · obtain rfl : k = 8 := by omega
      have hsz : (Try.prog.info? 35).map (·.size) = some (wcs (permTo 8 l)).size := by rw [wcs_size, permTo_len, HL.out]; kernel_rfl
      have hold : cs2.size = (wcs (permTo 8 l)).size := by rw [wcs_size, permTo_len, HL.out, HC2.out]
      have hu : Try.prog.underlying 35 = some (.array 16 34) := by kernel_rfl
      go_wp2_with (first
        | (refine wpList_load_row rfl 35 _ rfl H rfl 35 _ _ _ HB.out hu rfl hsz ?_)
        | (refine wpList_store_row rfl 35 _ _ rfl (H + 1) _ rfl rfl 35 _ HB2.out hsz hold (wcs_all _) ?_))
      refine bodyPost_ret (results_cell_row rfl _ _ (H + 1) _ _ _ _ rfl (HB2.out.row _) hu rfl hsz) rfl ⟨rfl, ?_⟩
      rw [← HH.out]
      exact below_row hbw (by omega) _
end Go.Proofs.Ytnkngaicegcejaa

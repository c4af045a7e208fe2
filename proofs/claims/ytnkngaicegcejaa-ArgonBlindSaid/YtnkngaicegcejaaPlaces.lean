/-
  Places, the reference's table of a round's places. Contracts alone; no statement is claimed here.
-/
import Derived.Test.YtnkngaicegcejaaPerm
import Derived.Deep.CutRange
import Derived.OwnWalk
namespace Go.Proofs.Ytnkngaicegcejaa
open Go.RowKit

/-- the table's cells -/
def tableCells : Array Value := #[.int .i64 0, .int .i64 4, .int .i64 8, .int .i64 12, .int .i64 1, .int .i64 5, .int .i64 9, .int .i64 13, .int .i64 2, .int .i64 6, .int .i64 10, .int .i64 14, .int .i64 3, .int .i64 7, .int .i64 11, .int .i64 15,
      .int .i64 0, .int .i64 5, .int .i64 10, .int .i64 15, .int .i64 1, .int .i64 6, .int .i64 11, .int .i64 12, .int .i64 2, .int .i64 7, .int .i64 8, .int .i64 13, .int .i64 3, .int .i64 4, .int .i64 9, .int .i64 14]
theorem table_at : ∀ k, k < 8 → tableCells[k * 4]? = some (.int .i64 (place k).a) ∧ tableCells[k * 4 + 1]? = some (.int .i64 (place k).b) ∧ tableCells[k * 4 + 2]? = some (.int .i64 (place k).c) ∧ tableCells[k * 4 + 3]? = some (.int .i64 (place k).d) := by
  intro k hk
  have h : k = 0 ∨ k = 1 ∨ k = 2 ∨ k = 3 ∨ k = 4 ∨ k = 5 ∨ k = 6 ∨ k = 7 := by omega
  rcases h with rfl | rfl | rfl | rfl | rfl | rfl | rfl | rfl <;> exact ⟨rfl, rfl, rfl, rfl⟩
set_option maxRecDepth 10000 in
set_option maxHeartbeats 2000000 in
theorem places_any (k : Nat) (hk : k < 8) (w : World) :
    Calls Try.prog 52 #[.int .i64 k] w fun e w' => e = .returned (row4 (place k)) ∧ Below w.heap.size w w' := by
  have h0 : (0 : Int) ≤ k ∧ (k : Int) < 8 := by omega
  obtain ⟨h0, h8⟩ := h0
  have hm : (k : Int).tmod 8 = k := by rw [Int.tmod_eq_emod_of_nonneg h0]; omega
  obtain ⟨H, hH⟩ : ∃ H, H = w.heap.size := ⟨_, rfl⟩
  rw [← hH]
  have HH := Lib.hid hH; clear hH
  have T0 : Blk ((w.alloc (.cells #[.int .i64 0, .int .i64 0, .int .i64 0, .int .i64 0] 81)).alloc (.cells #[.int .i64 0, .int .i64 0, .int .i64 0, .int .i64 0, .int .i64 0, .int .i64 0, .int .i64 0, .int .i64 0, .int .i64 0, .int .i64 0, .int .i64 0, .int .i64 0, .int .i64 0, .int .i64 0, .int .i64 0, .int .i64 0, .int .i64 0, .int .i64 0, .int .i64 0, .int .i64 0, .int .i64 0, .int .i64 0, .int .i64 0, .int .i64 0, .int .i64 0, .int .i64 0, .int .i64 0, .int .i64 0, .int .i64 0, .int .i64 0, .int .i64 0, .int .i64 0] 82)) (w.heap.size + 1) 82 #[.int .i64 0, .int .i64 0, .int .i64 0, .int .i64 0, .int .i64 0, .int .i64 0, .int .i64 0, .int .i64 0, .int .i64 0, .int .i64 0, .int .i64 0, .int .i64 0, .int .i64 0, .int .i64 0, .int .i64 0, .int .i64 0, .int .i64 0, .int .i64 0, .int .i64 0, .int .i64 0, .int .i64 0, .int .i64 0, .int .i64 0, .int .i64 0, .int .i64 0, .int .i64 0, .int .i64 0, .int .i64 0, .int .i64 0, .int .i64 0, .int .i64 0, .int .i64 0] := by simpa using Blk.new (w.alloc (.cells #[.int .i64 0, .int .i64 0, .int .i64 0, .int .i64 0] 81)) 82 #[.int .i64 0, .int .i64 0, .int .i64 0, .int .i64 0, .int .i64 0, .int .i64 0, .int .i64 0, .int .i64 0, .int .i64 0, .int .i64 0, .int .i64 0, .int .i64 0, .int .i64 0, .int .i64 0, .int .i64 0, .int .i64 0, .int .i64 0, .int .i64 0, .int .i64 0, .int .i64 0, .int .i64 0, .int .i64 0, .int .i64 0, .int .i64 0, .int .i64 0, .int .i64 0, .int .i64 0, .int .i64 0, .int .i64 0, .int .i64 0, .int .i64 0, .int .i64 0]
  have T := T0.row tableCells
  have Y := (((Blk.new w 81 #[.int .i64 0, .int .i64 0, .int .i64 0, .int .i64 0]).alloc (.cells #[.int .i64 0, .int .i64 0, .int .i64 0, .int .i64 0, .int .i64 0, .int .i64 0, .int .i64 0, .int .i64 0, .int .i64 0, .int .i64 0, .int .i64 0, .int .i64 0, .int .i64 0, .int .i64 0, .int .i64 0, .int .i64 0, .int .i64 0, .int .i64 0, .int .i64 0, .int .i64 0, .int .i64 0, .int .i64 0, .int .i64 0, .int .i64 0, .int .i64 0, .int .i64 0, .int .i64 0, .int .i64 0, .int .i64 0, .int .i64 0, .int .i64 0, .int .i64 0] 82)).rowFar (k := w.heap.size + 1) (by omega) tableCells)
  have Y := Lib.hid Y
  obtain ⟨T0⟩ : Nonempty (Hid (Blk ((w.alloc (.cells #[.int .i64 0, .int .i64 0, .int .i64 0, .int .i64 0] 81)).alloc (.cells #[.int .i64 0, .int .i64 0, .int .i64 0, .int .i64 0, .int .i64 0, .int .i64 0, .int .i64 0, .int .i64 0, .int .i64 0, .int .i64 0, .int .i64 0, .int .i64 0, .int .i64 0, .int .i64 0, .int .i64 0, .int .i64 0, .int .i64 0, .int .i64 0, .int .i64 0, .int .i64 0, .int .i64 0, .int .i64 0, .int .i64 0, .int .i64 0, .int .i64 0, .int .i64 0, .int .i64 0, .int .i64 0, .int .i64 0, .int .i64 0, .int .i64 0, .int .i64 0] 82)) (w.heap.size + 1) 82 #[.int .i64 0, .int .i64 0, .int .i64 0, .int .i64 0, .int .i64 0, .int .i64 0, .int .i64 0, .int .i64 0, .int .i64 0, .int .i64 0, .int .i64 0, .int .i64 0, .int .i64 0, .int .i64 0, .int .i64 0, .int .i64 0, .int .i64 0, .int .i64 0, .int .i64 0, .int .i64 0, .int .i64 0, .int .i64 0, .int .i64 0, .int .i64 0, .int .i64 0, .int .i64 0, .int .i64 0, .int .i64 0, .int .i64 0, .int .i64 0, .int .i64 0, .int .i64 0])) := ⟨Lib.hid T0⟩
  obtain ⟨a0, a1, a2, a3⟩ := table_at k hk
  have c0 := (T.cell (k * 4)).trans a0
  have c1 := (T.cell (k * 4 + 1)).trans a1
  have c2 := (T.cell (k * 4 + 2)).trans a2
  have c3 := (T.cell (k * 4 + 3)).trans a3
  clear a0 a1 a2 a3 T
  obtain ⟨p, hp⟩ : ∃ p, p = place k := ⟨_, rfl⟩
  rw [← hp]
  rw [← hp] at c0 c1 c2 c3
  clear hp
  go_enter Try.func52, Try.ntmps52
  have hsz : (Try.prog.info? 82).map (·.size) = some tableCells.size := by kernel_rfl
  have hall : tableCells.all (·.oneCell') = true := by kernel_rfl
  have hsz4 : (Try.prog.info? 81).map (·.size) = some (#[Value.int .i64 p.a, .int .i64 p.b, .int .i64 p.c, .int .i64 p.d]).size := by kernel_rfl
  have hall4 : (#[Value.int .i64 p.a, .int .i64 p.b, .int .i64 p.c, .int .i64 p.d]).all (·.oneCell') = true := by simp [Value.oneCell']
  have hu : Try.prog.underlying 81 = some (.array 4 3) := by kernel_rfl
  go_wp2_with (first
    | (refine wpList_store_row rfl 82 _ _ rfl (w.heap.size + 1) tableCells rfl rfl 82 _ T0.out hsz rfl hall ?_)
    | (refine wpList_store_row rfl 81 _ _ rfl w.heap.size #[Value.int .i64 p.a, .int .i64 p.b, .int .i64 p.c, .int .i64 p.d] rfl rfl 81 _ Y.out hsz4 rfl hall4 ?_))
  refine bodyPost_ret (results_cell_row rfl _ _ w.heap.size _ _ _ _ rfl (Y.out.row _) hu rfl hsz4) rfl ⟨rfl, ?_⟩
  rw [HH.out]
  exact below_row (below_row (((Below.refl _ _).alloc (Nat.le_refl _) _).alloc (by simp) _) (by omega) _) (Nat.le_refl _) _
end Go.Proofs.Ytnkngaicegcejaa

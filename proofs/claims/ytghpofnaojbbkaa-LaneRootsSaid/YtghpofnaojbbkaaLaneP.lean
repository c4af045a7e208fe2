/-
  Dealing a message out over lanes, in plain Lean: the bytes of each lane. Lemmas alone; no statement is claimed here.
-/
import Derived.Test.YtghpofnaojbbkaaCoreA
namespace Go.Proofs.Ytghpofnaojbbkaa

/-- the bytes that belong to lane j of a message dealt out over n lanes in blocks of blk -/
def laneB (n blk j : Nat) (data : List UInt8) : List UInt8 := (data.zipIdx.filter fun p => p.2 / blk % n == j).map (·.1)

theorem laneB_nil (n blk j : Nat) : laneB n blk j [] = [] := rfl
theorem laneB_snoc (n blk j : Nat) (l : List UInt8) (c : UInt8) :
    laneB n blk j (l ++ [c]) = if l.length / blk % n = j then laneB n blk j l ++ [c] else laneB n blk j l := by
  unfold laneB
  rw [List.zipIdx_append, List.filter_append, List.map_append]
  by_cases h : l.length / blk % n = j <;> simp [h]
theorem laneB_le (n blk j : Nat) (l : List UInt8) : (laneB n blk j l).length ≤ l.length := by
  unfold laneB
  simp only [List.length_map]
  exact Nat.le_trans (List.length_filter_le _ _) (by simp)
theorem laneB_piece (n blk j q : Nat) : ∀ (m l : List UInt8), (∀ i, i < m.length → (l.length + i) / blk = q) →
    laneB n blk j (l ++ m) = if q % n = j then laneB n blk j l ++ m else laneB n blk j l := by
  intro m
  induction m with
  | nil => intro l _; simp
  | cons c m ih =>
    intro l h
    have hq := h 0 (by simp)
    have e : l ++ c :: m = (l ++ [c]) ++ m := by simp
    rw [e, ih (l ++ [c]) (fun i hi => by have := h (i + 1) (by simp; omega); simpa [Nat.add_assoc, Nat.add_comm 1 i] using this), laneB_snoc]
    simp only [Nat.add_zero] at hq
    rw [hq]
    by_cases e : q % n = j <;> simp [e]

end Go.Proofs.Ytghpofnaojbbkaa

/-
  Joining lanes, in plain Lean. Lemmas alone; no statement is claimed here.
-/
import Derived.Test.YtnkngaicegcejaaLaneP
namespace Go.Proofs.Ytnkngaicegcejaa

def laneAt (n blk i : Nat) : Nat := i / blk % n
/-- how many of the first i bytes belong to lane l -/
def cnt (n blk l : Nat) : Nat → Nat
  | 0 => 0
  | i + 1 => cnt n blk l i + if laneAt n blk i = l then 1 else 0
def Pair (n blk : Nat) : Prop := (n = 4 ∧ blk = 128) ∨ (n = 8 ∧ blk = 64)

theorem cnt_closed {n blk : Nat} (h : Pair n blk) (l : Nat) (hl : l < n) (i : Nat) : cnt n blk l i = i / 512 * blk + min blk (i % 512 - l * blk) := by
  induction i with
  | zero => simp [cnt]
  | succ i ih =>
    unfold cnt laneAt
    rw [ih]
    rcases h with ⟨rfl, rfl⟩ | ⟨rfl, rfl⟩
    · split <;> omega
    · split <;> omega
theorem cnt_at {n blk : Nat} (h : Pair n blk) (i : Nat) : cnt n blk (laneAt n blk i) i = i / 512 * blk + i % blk := by
  have hl : laneAt n blk i < n := by unfold laneAt; exact Nat.mod_lt _ (by rcases h with h | h <;> omega)
  rw [cnt_closed h _ hl]
  unfold laneAt
  rcases h with ⟨rfl, rfl⟩ | ⟨rfl, rfl⟩ <;> omega
theorem cnt_le (n blk l i : Nat) : cnt n blk l i ≤ i := by
  induction i with
  | zero => simp [cnt]
  | succ i ih => unfold cnt; split <;> omega

abbrev LL := List (List UInt8)
def fits (n blk : Nat) (ls : LL) (i : Nat) : Prop := cnt n blk (laneAt n blk i) i < (ls.getD (laneAt n blk i) []).length
instance (n blk : Nat) (ls : LL) (i : Nat) : Decidable (fits n blk ls i) := by unfold fits; infer_instance
def good (n blk : Nat) (ls : LL) (k : Nat) : Prop := ∀ i, i < k → fits n blk ls i
def goodB (n blk : Nat) (ls : LL) : Nat → Bool
  | 0 => true
  | k + 1 => goodB n blk ls k && decide (fits n blk ls k)
theorem goodB_iff (n blk : Nat) (ls : LL) (k : Nat) : goodB n blk ls k = true ↔ good n blk ls k := by
  induction k with
  | zero => simp [goodB, good]
  | succ k ih =>
    simp only [goodB, Bool.and_eq_true, decide_eq_true_eq, ih]
    constructor
    · rintro ⟨h1, h2⟩ i hi
      by_cases h : i = k
      · subst h; exact h2
      · exact h1 i (by omega)
    · intro h
      exact ⟨fun i hi => h i (by omega), h k (by omega)⟩
def byteJ (n blk : Nat) (ls : LL) (i : Nat) : UInt8 := (ls.getD (laneAt n blk i) []).getD (cnt n blk (laneAt n blk i) i) 0
def joinTo (n blk : Nat) (ls : LL) (k : Nat) : List UInt8 := (List.range k).map (byteJ n blk ls)
theorem joinTo_len (n blk : Nat) (ls : LL) (k : Nat) : (joinTo n blk ls k).length = k := by simp [joinTo]
theorem joinTo_succ (n blk : Nat) (ls : LL) (k : Nat) : joinTo n blk ls (k + 1) = joinTo n blk ls k ++ [byteJ n blk ls k] := by simp [joinTo, List.range_succ]
/-- a piece: the bytes of one block -/
theorem piece {n blk : Nat} (h : Pair n blk) (q m : Nat) (hm : m ≤ blk) :
    (∀ i, i < m → laneAt n blk (q * blk + i) = q % n ∧ cnt n blk (q % n) (q * blk + i) = q * blk / 512 * blk + i) := by
  intro i hi
  have h1 : laneAt n blk (q * blk + i) = q % n := by
    unfold laneAt
    rcases h with ⟨rfl, rfl⟩ | ⟨rfl, rfl⟩ <;> omega
  refine ⟨h1, ?_⟩
  rw [← h1, cnt_at h]
  rcases h with ⟨rfl, rfl⟩ | ⟨rfl, rfl⟩ <;> omega
theorem joinTo_piece {n blk : Nat} (h : Pair n blk) (ls : LL) (q m : Nat) (hm : m ≤ blk) (hlen : q * blk / 512 * blk + m ≤ (ls.getD (q % n) []).length) :
    joinTo n blk ls (q * blk + m) = joinTo n blk ls (q * blk) ++ ((ls.getD (q % n) []).drop (q * blk / 512 * blk)).take m := by
  have hp := piece h q m hm
  have hB : ∀ i, i < m → byteJ n blk ls (q * blk + i) = (ls.getD (q % n) []).getD (q * blk / 512 * blk + i) 0 := fun i hi => by
    obtain ⟨e1, e2⟩ := hp i hi
    unfold byteJ
    rw [e1, e2]
  generalize ls.getD (q % n) [] = L at *
  generalize q * blk / 512 * blk = f at *
  unfold joinTo
  rw [List.range_add, List.map_append, List.map_map]
  congr 1
  apply List.ext_getElem
  · simp; omega
  · intro i h1 h2
    have hi : i < m := by simpa using h1
    simp only [List.getElem_map, List.getElem_range, Function.comp]
    rw [hB i hi, List.getElem_take, List.getElem_drop, List.getD_eq_getElem?_getD, List.getElem?_eq_getElem (by omega)]
    rfl
theorem fits_piece {n blk : Nat} (h : Pair n blk) (ls : LL) (q m : Nat) (hm : m ≤ blk) (hlen : q * blk / 512 * blk + m ≤ (ls.getD (q % n) []).length) (hg : good n blk ls (q * blk)) : good n blk ls (q * blk + m) := by
  intro i hi
  by_cases h1 : i < q * blk
  · exact hg i h1
  · obtain ⟨j, rfl⟩ : ∃ j, i = q * blk + j := ⟨i - q * blk, by omega⟩
    obtain ⟨e1, e2⟩ := piece h q m hm j (by omega)
    unfold fits
    rw [e1, e2]; omega
theorem not_fits_piece {n blk : Nat} (h : Pair n blk) (ls : LL) (q m k : Nat) (hm : m ≤ blk) (hm0 : 0 < m) (hk : q * blk + m ≤ k) (hlen : ¬ q * blk / 512 * blk + m ≤ (ls.getD (q % n) []).length) : ¬ good n blk ls k := by
  intro hg
  have h1 := hg (q * blk + (m - 1)) (by omega)
  obtain ⟨e1, e2⟩ := piece h q m hm (m - 1) (by omega)
  unfold fits at h1
  rw [e1, e2] at h1
  omega
def total (ls : LL) : Nat := (ls.map List.length).sum
/-- the answer of a join -/
instance (n blk : Nat) (ls : LL) (k : Nat) : Decidable (good n blk ls k) := decidable_of_iff _ (goodB_iff n blk ls k)
def joinE (n blk : Nat) (ls : LL) : Int := if ls.length = n then (if good n blk ls (total ls) then 0 else 80) else 80
def joinL (n blk : Nat) (ls : LL) : List UInt8 := if ls.length = n ∧ good n blk ls (total ls) then joinTo n blk ls (total ls) else []
end Go.Proofs.Ytnkngaicegcejaa

/-
  There and back, in plain Lean: what is dealt out is joined again. Lemmas alone; no statement is claimed here.
-/
import Derived.Test.YtnkngaicegcejaaJoinP
namespace Go.Proofs.Ytnkngaicegcejaa

theorem snocInd {α : Type} {P : List α → Prop} (h0 : P []) (hs : ∀ l a, P l → P (l ++ [a])) (l : List α) : P l := by
  rw [← l.reverse_reverse]
  induction l.reverse with
  | nil => exact h0
  | cons a l ih => rw [List.reverse_cons]; exact hs _ _ ih
theorem laneB_len (n blk j : Nat) (l : List UInt8) : (laneB n blk j l).length = cnt n blk j l.length := by
  refine snocInd (P := fun l => (laneB n blk j l).length = cnt n blk j l.length) rfl (fun l c ih => ?_) l
  rw [laneB_snoc, List.length_append]
  show _ = cnt n blk j (l.length + 1)
  unfold cnt laneAt
  split <;> simp [ih]
theorem cnt_mono (n blk j : Nat) {a b : Nat} (h : a ≤ b) : cnt n blk j a ≤ cnt n blk j b := by
  induction b with
  | zero => obtain rfl : a = 0 := by omega
            exact Nat.le_refl _
  | succ b ih =>
    by_cases hab : a = b + 1
    · subst hab; exact Nat.le_refl _
    · have := ih (by omega)
      simp only [cnt]; omega
theorem laneB_append (n blk j : Nat) (l m : List UInt8) : ∃ t, laneB n blk j (l ++ m) = laneB n blk j l ++ t := by
  refine snocInd (P := fun m => ∃ t, laneB n blk j (l ++ m) = laneB n blk j l ++ t) ⟨[], by simp⟩ (fun m c ih => ?_) m
  obtain ⟨t, ht⟩ := ih
  rw [← List.append_assoc, laneB_snoc]
  split
  · exact ⟨t ++ [c], by rw [ht, List.append_assoc]⟩
  · exact ⟨t, ht⟩
theorem laneB_at (n blk : Nat) (l : List UInt8) (i : Nat) (hi : i < l.length) : (laneB n blk (laneAt n blk i) l)[cnt n blk (laneAt n blk i) i]? = some l[i] := by
  have e : l = (l.take i ++ [l[i]]) ++ l.drop (i + 1) := by
    rw [List.append_assoc, List.singleton_append, ← List.drop_eq_getElem_cons hi, List.take_append_drop]
  have hl : (l.take i).length = i := by simp; omega
  obtain ⟨t, ht⟩ := laneB_append n blk (laneAt n blk i) (l.take i ++ [l[i]]) (l.drop (i + 1))
  rw [← e, laneB_snoc, hl, if_pos (by rfl)] at ht
  have hc : (laneB n blk (laneAt n blk i) (l.take i)).length = cnt n blk (laneAt n blk i) i := by rw [laneB_len, hl]
  rw [ht, List.append_assoc, List.getElem?_append_right (by omega), hc]
  simp

theorem sum_zero (n : Nat) : ((List.range n).map fun _ => 0).sum = 0 := by
  induction n with
  | zero => rfl
  | succ n ih => simp only [List.range_succ, List.map_append, List.sum_append, ih, List.map_cons, List.map_nil, List.sum_cons, List.sum_nil, Nat.add_zero]
theorem sum_one (n k : Nat) (h : k < n) : ((List.range n).map fun j => if k = j then 1 else 0).sum = 1 := by
  induction n with
  | zero => omega
  | succ n ih =>
    rw [List.range_succ, List.map_append, List.sum_append]
    by_cases hk : k = n
    · subst hk
      have : ((List.range k).map fun j => if k = j then 1 else 0) = (List.range k).map fun _ => 0 := List.map_congr_left fun j hj => by
        have := List.mem_range.1 hj
        rw [if_neg (by omega)]
      rw [this, sum_zero]
      simp
    · have := ih (by omega)
      simp [hk, this]
theorem sum_add (n : Nat) (f g : Nat → Nat) : ((List.range n).map fun j => f j + g j).sum = ((List.range n).map f).sum + ((List.range n).map g).sum := by
  induction n with
  | zero => rfl
  | succ n ih => simp only [List.range_succ, List.map_append, List.sum_append, ih, List.map_cons, List.map_nil, List.sum_cons, List.sum_nil]; omega
theorem sum_cnt (n blk : Nat) (hn : 0 < n) (i : Nat) : ((List.range n).map fun j => cnt n blk j i).sum = i := by
  induction i with
  | zero =>
    have : ((List.range n).map fun j => cnt n blk j 0) = (List.range n).map fun _ => 0 := rfl
    rw [this, sum_zero]
  | succ i ih =>
    have e : ((List.range n).map fun j => cnt n blk j (i + 1)) = (List.range n).map fun j => cnt n blk j i + if laneAt n blk i = j then 1 else 0 := rfl
    rw [e, sum_add, ih, sum_one _ (laneAt n blk i) (Nat.mod_lt _ hn)]
theorem sum_eq (n : Nat) (f g : Nat → Nat) (h : ∀ j, j < n → f j ≤ g j) (hs : ((List.range n).map f).sum = ((List.range n).map g).sum) : ∀ j, j < n → f j = g j := by
  have key : ∀ m, m ≤ n → ((List.range m).map f).sum ≤ ((List.range m).map g).sum := by
    intro m
    induction m with
    | zero => intro _; exact Nat.le_refl _
    | succ m ih =>
      intro hm
      have := ih (by omega); have := h m (by omega)
      simp only [List.range_succ, List.map_append, List.sum_append, List.map_cons, List.map_nil, List.sum_cons, List.sum_nil]; omega
  induction n with
  | zero => intro j hj; omega
  | succ n ih =>
    have h1 := key n (by omega)
    have h2 := h n (by omega)
    simp only [List.range_succ, List.map_append, List.sum_append, List.map_cons, List.map_nil, List.sum_cons, List.sum_nil] at hs
    intro j hj
    by_cases e : j = n
    · subst e; omega
    · exact ih (fun j hj => h j (by omega)) (by omega) (fun m hm => key m (by omega)) j (by omega)

theorem lens (ls : LL) : ls.map List.length = (List.range ls.length).map fun j => (ls.getD j []).length := by
  apply List.ext_getElem
  · simp
  · intro i h1 h2
    have hi : i < ls.length := by simpa using h1
    simp [hi]

/-- the lanes of a message join to it -/
theorem back {n blk : Nat} (hn : 0 < n) (ls : LL) (data : List UInt8) (hl : ls.length = n) (h : ∀ j, j < n → ls.getD j [] = laneB n blk j data) :
    total ls = data.length ∧ good n blk ls data.length ∧ joinTo n blk ls data.length = data := by
  have hla : ∀ i, laneAt n blk i < n := fun i => Nat.mod_lt _ hn
  refine ⟨?_, ?_, ?_⟩
  · unfold total
    rw [lens, hl]
    have : ((List.range n).map fun j => (ls.getD j []).length) = (List.range n).map fun j => cnt n blk j data.length := List.map_congr_left fun j hj => by
      rw [h j (List.mem_range.1 hj), laneB_len]
    rw [this, sum_cnt n blk hn]
  · intro i hi
    unfold fits
    rw [h _ (hla i), laneB_len]
    have := cnt_mono n blk (laneAt n blk i) (show i + 1 ≤ data.length by omega)
    simp only [cnt, if_true] at this
    omega
  · apply List.ext_getElem
    · simp [joinTo]
    · intro i h1 h2
      simp only [joinTo, List.getElem_map, List.getElem_range]
      unfold byteJ
      rw [h _ (hla i), List.getD_eq_getElem?_getD, laneB_at n blk data i h2]
      rfl
theorem back_yes {n blk : Nat} (hn : 0 < n) (ls : LL) (data : List UInt8) (hl : ls.length = n) (h : ∀ j, j < n → ls.getD j [] = laneB n blk j data) : joinE n blk ls = 0 ∧ joinL n blk ls = data := by
  obtain ⟨h1, h2, h3⟩ := back hn ls data hl h
  unfold joinE joinL
  rw [h1, if_pos hl, if_pos h2, if_pos ⟨hl, h2⟩]
  exact ⟨rfl, h3⟩

/-- what joins is dealt out into just these lanes -/
theorem forth {n blk : Nat} (hn : 0 < n) (ls : LL) (h0 : joinE n blk ls = 0) : ls.length = n ∧ ∀ j, j < n → laneB n blk j (joinL n blk ls) = ls.getD j [] := by
  unfold joinE at h0
  split at h0
  · rename_i hl
    split at h0
    · rename_i hg
      refine ⟨hl, ?_⟩
      unfold joinL
      rw [if_pos ⟨hl, hg⟩]
      have step : ∀ j k, k ≤ total ls → cnt n blk j k ≤ (ls.getD j []).length ∧ laneB n blk j (joinTo n blk ls k) = (ls.getD j []).take (cnt n blk j k) := by
        intro j k
        induction k with
        | zero => intro _; exact ⟨by simp [cnt], by simp [joinTo, cnt, laneB_nil]⟩
        | succ k ih =>
          intro hk
          obtain ⟨i1, i2⟩ := ih (by omega)
          have hf := hg k (by omega)
          unfold fits at hf
          rw [joinTo_succ, laneB_snoc, joinTo_len]
          show cnt n blk j k + (if laneAt n blk k = j then 1 else 0) ≤ _ ∧ _
          by_cases e : laneAt n blk k = j
          · subst e
            refine ⟨by simp; exact hf, ?_⟩
            rw [if_pos (by rfl), i2]
            show _ = List.take (cnt n blk _ k + (if laneAt n blk k = laneAt n blk k then 1 else 0)) _
            rw [if_pos rfl, List.take_add_one, List.getElem?_eq_getElem hf]
            unfold byteJ
            generalize ls.getD (laneAt n blk k) [] = L at *
            rw [List.getD_eq_getElem?_getD, List.getElem?_eq_getElem hf]
            rfl
          · refine ⟨by simp [e]; exact i1, ?_⟩
            rw [if_neg (by exact e), i2]
            show _ = List.take (cnt n blk j k + (if laneAt n blk k = j then 1 else 0)) _
            rw [if_neg e]
            rfl
      have hs : ((List.range n).map fun j => cnt n blk j (total ls)).sum = ((List.range n).map fun j => (ls.getD j []).length).sum := by
        rw [sum_cnt n blk hn]
        unfold total
        rw [lens ls, hl]
      have he := sum_eq n _ _ (fun j _ => (step j (total ls) (Nat.le_refl _)).1) hs
      intro j hj
      rw [(step j (total ls) (Nat.le_refl _)).2, he j hj, List.take_length]
    · omega
  · omega
end Go.Proofs.Ytnkngaicegcejaa

/-
  Regions that draw their order, walked in one order of the prover's choice. Each operation is held (it yields one value in every world that meets S, a condition of the prover's that each loud operation keeps), reading (one value in every world that differs by draws alone), or loud. Loud operations are forced one behind the other; what reads is done before, or behind, each of them. Then one walk serves every order. Lemmas alone; no statement is claimed here.
-/
import Derived.Test.YtnkngaicegcejaaBase
import Derived.OrdersHeld
namespace Go.Proofs.Ytnkngaicegcejaa
open Go.RowKit

/-- the same world, some draws later -/
def Cw (w : World) : World → Prop := fun w' => ∃ n, w' = w.drewN n
theorem Cw.refl (w : World) : Cw w w := ⟨0, rfl⟩

section
variable {P : Program} {ops : Array Oper} {Q : Exit → Act → World → Prop} {md : Region.Mode} {cls : Nat → Nat} {S : World → Prop}

/-- is operation i among those that t waits for, by way of at most n edges? -/
def ancB (md : Region.Mode) (ops : Array Oper) : Nat → Nat → Nat → Bool
  | 0, _, _ => false
  | n + 1, t, i => match ops[t]? with
    | none => false
    | some o => o.after.any (fun e => Region.binds md e && e.on == i) || o.after.any (fun e => Region.binds md e && ancB md ops n e.on i)

/-- what is listed is closed: with each operation all that it waits for -/
def Closed (md : Region.Mode) (ops : Array Oper) (listed : Array Bool) : Prop :=
  ∀ j oj, ops[j]? = some oj → listed.getD j false = true → ∀ e ∈ oj.after, Region.binds md e = true → listed.getD e.on false = true

theorem closed_none (n : Nat) : Closed md ops (Array.replicate n false) := by
  intro j oj _ h
  rcases Nat.lt_or_ge j n with h' | h'
  · simp [h'] at h
  · simp [h'] at h
theorem Closed.set {listed : Array Bool} {i : Nat} (h : Closed md ops listed) (hi : i ∈ Region.ready md ops listed) : Closed md ops (listed.setIfInBounds i true) := by
  obtain ⟨_, oi, hoi, hall⟩ := mem_ready.1 hi
  intro j oj hj hl e he hb
  by_cases hij : i = j
  · subst hij
    have : oj = oi := Option.some.inj (hj.symm.trans hoi)
    subst this
    exact getD_set_true (hall e he hb)
  · rw [getD_set_ne false hij] at hl
    exact getD_set_true (h j oj hj hl e he hb)
theorem ancB_listed {listed : Array Bool} (hc : Closed md ops listed) : ∀ (n t i : Nat), ancB md ops n t i = true → listed.getD t false = true → listed.getD i false = true
  | 0, t, i, h, _ => by cases h
  | n + 1, t, i, h, ht => by
    unfold ancB at h
    split at h
    · cases h
    · rename_i o ho
      rw [Bool.or_eq_true] at h
      rcases h with h | h
      · obtain ⟨e, he, hb⟩ := Array.any_eq_true'.1 h
        simp only [Bool.and_eq_true, beq_iff_eq] at hb
        rw [← hb.2]
        exact hc t o ho ht e he hb.1
      · obtain ⟨e, he, hb⟩ := Array.any_eq_true'.1 h
        simp only [Bool.and_eq_true] at hb
        exact ancB_listed hc n e.on i hb.2 (hc t o ho ht e he hb.1)
theorem ancB_ready {listed : Array Bool} (hc : Closed md ops listed) {n t i : Nat} (h : ancB md ops n t i = true) (ht : t ∈ Region.ready md ops listed) : listed.getD i false = true := by
  obtain ⟨_, o, ho, hall⟩ := mem_ready.1 ht
  cases n with
  | zero => cases h
  | succ n =>
    unfold ancB at h
    rw [ho] at h
    simp only [Bool.or_eq_true] at h
    rcases h with h | h
    · obtain ⟨e, he, hb⟩ := Array.any_eq_true'.1 h
      simp only [Bool.and_eq_true, beq_iff_eq] at hb
      rw [← hb.2]
      exact hall e he hb.1
    · obtain ⟨e, he, hb⟩ := Array.any_eq_true'.1 h
      simp only [Bool.and_eq_true] at hb
      exact ancB_listed hc n e.on i hb.2 (hall e he hb.1)

/-- one operation, by its class, from the world w or some draws later -/
def stepC (P : Program) (ops : Array Oper) (Q : Exit → Act → World → Prop) (S : World → Prop) (c i : Nat) (K : Act → World → Prop) (a : Act) (w : World) : Prop :=
  match c with
  | 0 => ∃ o v, ops[i]? = some o ∧ YieldsIf P ops S o v a ∧ K (a.put o.dst v) w
  | 1 => ∃ o v, ops[i]? = some o ∧ YieldsIn P ops (Cw w) o v a ∧ K (a.put o.dst v) w
  | _ => ∀ w', Cw w w' → wpOp P ops Q i (fun a' w'' => S w'' ∧ K a' w'') a w'

/-- whatever order is picked from here on -/
def anyC (P : Program) (md : Region.Mode) (ops : Array Oper) (Q : Exit → Act → World → Prop) (S : World → Prop) (cls : Nat → Nat) : Nat → Array Bool → Act → World → Prop
  | 0, listed, a, w => Region.ready md ops listed = [] ∧ ∀ w', Cw w w' → Q .normal a w'
  | f + 1, listed, a, w => (Region.ready md ops listed = [] → ∀ w', Cw w w' → Q .normal a w') ∧
    ∀ i ∈ Region.ready md ops listed, stepC P ops Q S (cls i) i (anyC P md ops Q S cls f (listed.setIfInBounds i true)) a w

theorem anyC_any (hSd : ∀ w n, S w → S (w.drewN n)) : ∀ (f : Nat) (listed : Array Bool) (a : Act) (w : World), anyC P md ops Q S cls f listed a w → S w → ∀ w', Cw w w' → wpAny P md ops Q f listed a w'
  | 0, _, _, _, h, _, w', hw => ⟨h.1, h.2 w' hw⟩
  | f + 1, listed, a, w, h, hS, w', hw => by
    have hS' : S w' := by obtain ⟨n, rfl⟩ := hw; exact hSd w n hS
    refine ⟨fun h0 => h.1 h0 w' hw, fun i hi => ?_⟩
    have h1 := h.2 i hi
    unfold stepC at h1
    split at h1
    · obtain ⟨o, v, ho, hy, hK⟩ := h1
      exact hy.wpOp ho hS' (anyC_any hSd f _ _ _ hK hS w' hw)
    · obtain ⟨o, v, ho, hy, hK⟩ := h1
      exact wpOp_of_qOp (C := Cw w) (K := fun a' => anyC P md ops Q S cls f (listed.setIfInBounds i true) a' w) hw (fun a' w'' hw'' hh => anyC_any hSd f _ _ _ hh hS w'' hw'') (hy.qOp ho hK)
    · exact wpOp_mono (fun a' w'' hh => anyC_any hSd f _ _ _ hh.2 hh.1 w'' (Cw.refl _)) (h1 w' hw)

theorem unready {i : Nat} {oj : Oper} {listed : Array Bool} (hi : i ∈ Region.ready md ops listed) (hall : ∀ e ∈ oj.after, Region.binds md e = true → listed.getD e.on false = true) :
    ∀ e ∈ oj.after, Region.binds md e = true → e.on ≠ i := fun e he hb heq => by
  have h1 := hall e he hb
  have h0 := (mem_ready.1 hi).1
  rw [heq] at h1
  rcases Nat.lt_or_ge i listed.size with h' | h'
  · simp [h'] at h0 h1; rw [h0] at h1; cases h1
  · simp [Array.getElem?_eq_none h'] at h1

/-- **What is pure may be taken first.** -/
theorem anyC_pure {i : Nat} {oi : Oper} {v : Value} (hi : ops[i]? = some oi) (hci : cls i = 0) (hsel : ∀ (j : Nat) (o : Oper) cs b, ops[j]? = some o → o.op ≠ .select cs b)
    (hQ : ∀ c a w, Q (.panic c) (a.put oi.dst v) w → Q (.panic c) a w) :
    ∀ (f : Nat) (listed : Array Bool) (a : Act) (w : World),
      (∀ j oj, ops[j]? = some oj → j ≠ i → listed.getD j true = false → (∀ e ∈ oj.after, Region.binds md e = true → e.on ≠ i) → oi.apart ops oj = true) →
      i ∈ Region.ready md ops listed → YieldsIf P ops S oi v a →
      anyC P md ops Q S cls f (listed.setIfInBounds i true) (a.put oi.dst v) w → anyC P md ops Q S cls (f + 1) listed a w := by
  intro f
  induction f with
  | zero =>
    intro listed a w _ hr hy H
    refine ⟨fun h => (by rw [h] at hr; cases hr), fun j hj => ?_⟩
    by_cases hji : j = i
    · subst hji; rw [hci]; exact ⟨oi, v, hi, hy, H⟩
    · have := ready_mono hj hji
      rw [H.1] at this
      cases this
  | succ f ih =>
    intro listed a w hfree hr hy H
    refine ⟨fun h => (by rw [h] at hr; cases hr), fun j hj => ?_⟩
    by_cases hji : j = i
    · subst hji; rw [hci]; exact ⟨oi, v, hi, hy, H⟩
    · have h1 := H.2 j (ready_mono hj hji)
      obtain ⟨hjun, oj, hoj, hall⟩ := mem_ready.1 hj
      have hap := hfree j oj hoj hji hjun (unready hr hall)
      obtain ⟨p1, p2, p3⟩ := Oper.apart_spec hap
      have hfree' : ∀ k ok, ops[k]? = some ok → k ≠ i → (listed.setIfInBounds j true).getD k true = false →
          (∀ e ∈ ok.after, Region.binds md e = true → e.on ≠ i) → oi.apart ops ok = true := fun k ok hk hki hun hno => by
        refine hfree k ok hk hki ?_ hno
        by_cases hjk : j = k
        · subst hjk; exact hjun
        · rw [getD_set_ne true hjk] at hun; exact hun
      have keep : ∀ (a : Act), YieldsIf P ops S oi v a → ∀ u, YieldsIf P ops S oi v (a.put oj.dst u) := fun a hy u =>
        hy.of_same (execOp_put oi (fun cs b => hsel i oi cs b hi) a oj.dst u p3) (wanted_put oi a oj.dst u p3)
      have go : ∀ a' w', YieldsIf P ops S oi v a' → anyC P md ops Q S cls f ((listed.setIfInBounds i true).setIfInBounds j true) (a'.put oi.dst v) w' → anyC P md ops Q S cls (f + 1) (listed.setIfInBounds j true) a' w' := fun a' w' hy' h' => by
        refine ih (listed.setIfInBounds j true) a' w' hfree' (ready_mono hr (Ne.symm hji)) hy' ?_
        rw [Array.setIfInBounds_comm _ _ hji]
        exact h'
      unfold stepC at h1 ⊢
      split at h1
      · obtain ⟨o, u, ho, hyu, hK⟩ := h1
        rw [hoj] at ho; injection ho with ho; subst ho
        refine ⟨oj, u, hoj, hyu.of_same (execOp_put oj (fun cs b => hsel j oj cs b hoj) a oi.dst v p1).symm (wanted_put oj a oi.dst v p1).symm, go _ _ (keep a hy u) ?_⟩
        rw [← Act.put_comm a v u p2]
        exact hK
      · obtain ⟨o, u, ho, hyu, hK⟩ := h1
        rw [hoj] at ho; injection ho with ho; subst ho
        refine ⟨oj, u, hoj, hyu.of_same (execOp_put oj (fun cs b => hsel j oj cs b hoj) a oi.dst v p1).symm (wanted_put oj a oi.dst v p1).symm, go _ _ (keep a hy u) ?_⟩
        rw [← Act.put_comm a v u p2]
        exact hK
      · exact fun w' hw' => wpOp_mono (fun a' w'' h3 => ⟨h3.2.1, go a' w'' h3.1 h3.2.2⟩) (wpOp_putIf hoj hap (fun cs b => hsel i oi cs b hi) (fun cs b => hsel j oj cs b hoj) hQ hy (h1 w' hw'))

/-- **What reads may be taken first**, where every loud operation that has not come up waits for it. -/
theorem anyC_read {i : Nat} {oi : Oper} {v : Value} (hi : ops[i]? = some oi) (hci : cls i = 1) (hsel : ∀ (j : Nat) (o : Oper) cs b, ops[j]? = some o → o.op ≠ .select cs b) :
    ∀ (f : Nat) (listed : Array Bool) (a : Act) (w : World),
      (∀ j oj, ops[j]? = some oj → j ≠ i → listed.getD j true = false → (∀ e ∈ oj.after, Region.binds md e = true → e.on ≠ i) → oi.apart ops oj = true) →
      (∀ j oj, ops[j]? = some oj → listed.getD j true = false → 2 ≤ cls j → ∃ n, ancB md ops n j i = true) → Closed md ops listed →
      i ∈ Region.ready md ops listed → YieldsIn P ops (Cw w) oi v a →
      anyC P md ops Q S cls f (listed.setIfInBounds i true) (a.put oi.dst v) w → anyC P md ops Q S cls (f + 1) listed a w := by
  intro f
  induction f with
  | zero =>
    intro listed a w _ _ _ hr hy H
    refine ⟨fun h => (by rw [h] at hr; cases hr), fun j hj => ?_⟩
    by_cases hji : j = i
    · subst hji; rw [hci]; exact ⟨oi, v, hi, hy, H⟩
    · have := ready_mono hj hji
      rw [H.1] at this
      cases this
  | succ f ih =>
    intro listed a w hfree hloud hcl hr hy H
    refine ⟨fun h => (by rw [h] at hr; cases hr), fun j hj => ?_⟩
    by_cases hji : j = i
    · subst hji; rw [hci]; exact ⟨oi, v, hi, hy, H⟩
    · have h1 := H.2 j (ready_mono hj hji)
      obtain ⟨hjun, oj, hoj, hall⟩ := mem_ready.1 hj
      have hap := hfree j oj hoj hji hjun (unready hr hall)
      obtain ⟨p1, p2, p3⟩ := Oper.apart_spec hap
      have hfree' : ∀ k ok, ops[k]? = some ok → k ≠ i → (listed.setIfInBounds j true).getD k true = false →
          (∀ e ∈ ok.after, Region.binds md e = true → e.on ≠ i) → oi.apart ops ok = true := fun k ok hk hki hun hno => by
        refine hfree k ok hk hki ?_ hno
        by_cases hjk : j = k
        · subst hjk; exact hjun
        · rw [getD_set_ne true hjk] at hun; exact hun
      have hloud' : ∀ k ok, ops[k]? = some ok → (listed.setIfInBounds j true).getD k true = false → 2 ≤ cls k → ∃ n, ancB md ops n k i = true := fun k ok hk hun h2 => by
        refine hloud k ok hk ?_ h2
        by_cases hjk : j = k
        · subst hjk; exact hjun
        · rw [getD_set_ne true hjk] at hun; exact hun
      have keep : ∀ (a : Act), YieldsIn P ops (Cw w) oi v a → ∀ u, YieldsIn P ops (Cw w) oi v (a.put oj.dst u) := fun a hy u =>
        hy.of_same (execOp_put oi (fun cs b => hsel i oi cs b hi) a oj.dst u p3) (wanted_put oi a oj.dst u p3)
      have go : ∀ a', YieldsIn P ops (Cw w) oi v a' → anyC P md ops Q S cls f ((listed.setIfInBounds i true).setIfInBounds j true) (a'.put oi.dst v) w → anyC P md ops Q S cls (f + 1) (listed.setIfInBounds j true) a' w := fun a' hy' h' => by
        refine ih (listed.setIfInBounds j true) a' w hfree' hloud' (hcl.set hj) (ready_mono hr (Ne.symm hji)) hy' ?_
        rw [Array.setIfInBounds_comm _ _ hji]
        exact h'
      unfold stepC at h1 ⊢
      split at h1
      · obtain ⟨o, u, ho, hyu, hK⟩ := h1
        rw [hoj] at ho; injection ho with ho; subst ho
        refine ⟨oj, u, hoj, hyu.of_same (execOp_put oj (fun cs b => hsel j oj cs b hoj) a oi.dst v p1).symm (wanted_put oj a oi.dst v p1).symm, go _ (keep a hy u) ?_⟩
        rw [← Act.put_comm a v u p2]
        exact hK
      · obtain ⟨o, u, ho, hyu, hK⟩ := h1
        rw [hoj] at ho; injection ho with ho; subst ho
        refine ⟨oj, u, hoj, hyu.of_same (execOp_put oj (fun cs b => hsel j oj cs b hoj) a oi.dst v p1).symm (wanted_put oj a oi.dst v p1).symm, go _ (keep a hy u) ?_⟩
        rw [← Act.put_comm a v u p2]
        exact hK
      · rename_i c0 c1
        exfalso
        have h2 : 2 ≤ cls j := by
          rcases Nat.lt_or_ge (cls j) 2 with hlt | hge
          · have : cls j = 0 ∨ cls j = 1 := by omega
            rcases this with h | h
            · exact absurd h c0
            · exact absurd h c1
          · exact hge
        obtain ⟨n, hn⟩ := hloud j oj hoj hjun h2
        have := ancB_ready hcl hn hj
        have hun := (mem_ready.1 hr).1
        rcases Nat.lt_or_ge i listed.size with h' | h'
        · simp [h'] at hun this; rw [hun] at this; cases this
        · simp [Array.getElem?_eq_none h'] at this
end

/-! ### The walk -/
section
variable {P : Program} {Q : Exit → Act → World → Prop} {S : World → Prop}
/-- one after another, in the order given: class 0 pure, 1 reading, else loud -/
def ordWalk (P : Program) (ops : Array Oper) (Q : Exit → Act → World → Prop) (S : World → Prop) : List (Nat × Nat) → Act → World → Prop
  | [], a, w => ∀ w', Cw w w' → Q .normal a w'
  | (0, i) :: s, a, w => ∃ o v, ops[i]? = some o ∧ YieldsIf P ops S o v a ∧ ordWalk P ops Q S s (a.put o.dst v) w
  | (1, i) :: s, a, w => ∃ o v, ops[i]? = some o ∧ YieldsIn P ops (Cw w) o v a ∧ ordWalk P ops Q S s (a.put o.dst v) w
  | (_, i) :: s, a, w => ∀ w', Cw w w' → wpOp P ops Q i (fun a' w'' => S w'' ∧ ordWalk P ops Q S s a' w'') a w'

/-- the class of an operation, by the order given -/
def clsOf (s : List (Nat × Nat)) (i : Nat) : Nat := ((s.find? fun p => p.2 == i).map (·.1)).getD 2

/-- does the order given serve? (loud ones: each is the only one that may come up, or only pure ones beside it) -/
def ordB (md : Region.Mode) (ops : Array Oper) (all : List (Nat × Nat)) : List (Nat × Nat) → Array Bool → Bool
  | [], listed => (Region.ready md ops listed).isEmpty
  | (c, i) :: s, listed => (Region.ready md ops listed).contains i && clsOf all i == c &&
    (match c with
     | 0 => Region.free md ops listed i
     | 1 => Region.free md ops listed i && (List.range ops.size).all fun j => listed.getD j true || decide (clsOf all j < 2) || ancB md ops 4 j i
     | _ => Region.ready md ops listed == [i]) && ordB md ops all s (listed.setIfInBounds i true)

theorem anyC_of_ord {md : Region.Mode} {ops : Array Oper} {all : List (Nat × Nat)} (hsel : Region.noSelect ops = true) (hQ : ∀ c a d v w, Q (.panic c) (a.put d v) w → Q (.panic c) a w) :
    ∀ (s : List (Nat × Nat)) (listed : Array Bool) (a : Act) (w : World), Closed md ops listed → ordB md ops all s listed = true → ordWalk P ops Q S s a w → anyC P md ops Q S (clsOf all) s.length listed a w
  | [], listed, a, w, _, hB, h => ⟨by simpa [ordB] using hB, h⟩
  | (c, i) :: s, listed, a, w, hcl, hB, h => by
    simp only [ordB, Bool.and_eq_true, beq_iff_eq] at hB
    obtain ⟨⟨⟨hr, hc⟩, hm⟩, hs⟩ := hB
    have hr' : i ∈ Region.ready md ops listed := by simpa using hr
    match c, hc, hm, h with
    | 0, hc, hm, h =>
      obtain ⟨o, v, ho, hy, hK⟩ := h
      exact anyC_pure ho hc (Region.noSelect_spec hsel) (fun c a w => hQ c a _ _ w) s.length listed a w (Region.free_spec ho hm) hr' hy (anyC_of_ord hsel hQ s _ _ _ (hcl.set hr') hs hK)
    | 1, hc, hm, h =>
      obtain ⟨o, v, ho, hy, hK⟩ := h
      simp only [Bool.and_eq_true] at hm
      refine anyC_read ho hc (Region.noSelect_spec hsel) s.length listed a w (Region.free_spec ho hm.1) (fun j oj hj hun h2 => ⟨4, ?_⟩) hcl hr' hy (anyC_of_ord hsel hQ s _ _ _ (hcl.set hr') hs hK)
      have h3 := List.all_eq_true.1 hm.2 j (List.mem_range.2 (Array.getElem?_eq_some_iff.1 hj).1)
      simp only [Bool.or_eq_true, decide_eq_true_eq] at h3
      rcases h3 with (h3 | h3) | h3
      · rw [hun] at h3; cases h3
      · omega
      · exact h3
    | c + 2, hc, hm, h =>
      have hm' : Region.ready md ops listed = [i] := by simpa using hm
      refine ⟨fun h0 => (by rw [h0] at hm'; cases hm'), fun j hj => ?_⟩
      rw [hm'] at hj
      have hji : j = i := by simpa using hj
      subst hji
      unfold stepC
      rw [hc]
      exact fun w' hw' => wpOp_mono (fun a' w'' h' => ⟨h'.1, anyC_of_ord hsel hQ s _ _ _ (hcl.set hr') hs h'.2⟩) (h w' hw')

/-- **ONE WALK IN THE ORDER GIVEN SERVES EVERY ORDER.** -/
theorem wp_region_ord {id : Nat} {a : Act} {w : World} {l : List Oper} (S : World → Prop) (hSd : ∀ w n, S w → S (w.drewN n)) (s : List (Nat × Nat)) (hm : P.follows .mixedOrders = true) (hlen : s.length = l.length) (hsel : Region.noSelect l.toArray = true) (hB : ordB .any l.toArray s s (Array.replicate l.length false) = true)
    (hQ : ∀ c a d v w, Q (.panic c) (a.put d v) w → Q (.panic c) a w) (hS : S w) (h : ordWalk P l.toArray Q S s a w) : (Code.region id l.toArray true).wp P Q a w := by
  refine wp_region_any hm ?_
  have h1 := anyC_of_ord hsel hQ s (Array.replicate l.length false) a w (closed_none _) hB h
  rw [hlen] at h1
  have h2 := anyC_any hSd _ _ _ _ h1 hS w.drew ⟨1, rfl⟩
  simpa using h2

/-- what a pure operation has come to, in the world w -/
def pureUpon (w : World) (v : Value) : Result Next → Prop
  | .ok (.value u) w' => w' = w ∧ u = v
  | _ => False
theorem pureUpon_spec {w : World} {v : Value} {r : Result Next} (h : pureUpon w v r) : r = .ok (.value v) w := by
  cases r with
  | ok n w' => cases n <;> simp only [pureUpon] at h; obtain ⟨rfl, rfl⟩ := h; rfl
  | halt x w' => simp only [pureUpon] at h

theorem ord_pure {ops : Array Oper} {i : Nat} {s : List (Nat × Nat)} {a : Act} {w : World} {o : Oper} (ho : ops[i]? = some o)
    (h : ∀ K : Act → Prop, (∀ a, ordWalk P ops Q S s a w → K a) → if Region.wanted o (yielded ops a.tmps) then ∃ v, (∀ w, pureUpon w v ((execOp a.eval o).run P w)) ∧ K (a.put o.dst v) else K (a.put o.dst undef)) : ordWalk P ops Q S ((0, i) :: s) a w := by
  have h1 := h _ (fun _ h => h)
  by_cases hw : Region.wanted o (yielded ops a.tmps) = true
  · rw [if_pos hw] at h1
    obtain ⟨v, hv, hK⟩ := h1
    exact ⟨o, v, ho, .inl ⟨hw, fun w _ => pureUpon_spec (hv w)⟩, hK⟩
  · rw [if_neg hw] at h1
    exact ⟨o, undef, ho, .inr ⟨by simpa using hw, rfl⟩, h1⟩
theorem ord_held {ops : Array Oper} {i : Nat} {s : List (Nat × Nat)} {a : Act} {w : World} {o : Oper} {v : Value} (ho : ops[i]? = some o) (hw : Region.wanted o (yielded ops a.tmps) = true)
    (hv : ∀ w, S w → pureUpon w v ((execOp a.eval o).run P w)) (h : ordWalk P ops Q S s (a.put o.dst v) w) : ordWalk P ops Q S ((0, i) :: s) a w :=
  ⟨o, v, ho, .inl ⟨hw, fun w hS => pureUpon_spec (hv w hS)⟩, h⟩
theorem ord_read {ops : Array Oper} {i : Nat} {s : List (Nat × Nat)} {a : Act} {w : World} {o : Oper} (ho : ops[i]? = some o)
    (h : ∀ K : Act → Prop, (∀ a, ordWalk P ops Q S s a w → K a) → if Region.wanted o (yielded ops a.tmps) then o.quiet P a (fun w' => ∃ n, w' = w.drewN n) K else K (a.put o.dst undef)) : ordWalk P ops Q S ((1, i) :: s) a w := by
  have h1 := h _ (fun _ h => h)
  by_cases hw : Region.wanted o (yielded ops a.tmps) = true
  · rw [if_pos hw] at h1
    obtain ⟨v, hv, hK⟩ := h1
    exact ⟨o, v, ho, .inl ⟨hw, hv⟩, hK⟩
  · rw [if_neg hw] at h1
    exact ⟨o, undef, ho, .inr ⟨by simpa using hw, rfl⟩, h1⟩
theorem ord_loud {ops : Array Oper} {i : Nat} {s : List (Nat × Nat)} {a : Act} {w : World} {o : Oper} (ho : ops[i]? = some o)
    (h : ∀ n, wpList P ops (Exit.then (fun a w => S w ∧ ordWalk P ops Q S s a w) Q) [o] a (w.drewN n)) : ordWalk P ops Q S ((2, i) :: s) a w := by
  rintro w' ⟨n, rfl⟩
  have h1 := h n
  unfold wpOp
  rw [ho]
  dsimp only
  simp only [wpList] at h1
  split
  · rename_i hw
    rw [if_pos hw] at h1
    rcases h1 with h1 | ⟨h1, h2⟩
    · refine .inl ?_
      unfold Oper.wp at *
      generalize (execOp a.eval o).run P (w.drewN n) = r at *
      cases r with
      | ok x w' =>
        cases x <;> simp only [Oper.upon] at h1 ⊢
        case value => exact h1
        case skip => exact h1
        case defer => exact h1
        case enter =>
          refine Calls.mono h1 fun e w'' he => ?_
          cases e with
          | returned u => exact he
          | panicked c => exact he
          | outgrown => exact he
        case row => exact h1
      | halt x w' => cases x <;> simp only [Oper.upon] at h1 ⊢ <;> exact h1
    · exact .inr ⟨h1, h2⟩
  · rename_i hw
    rw [if_neg hw] at h1
    exact h1
theorem ord_end {ops : Array Oper} {a : Act} {w : World} (h : ∀ n, Q .normal a (w.drewN n)) : ordWalk P ops Q S [] a w := by
  rintro w' ⟨n, rfl⟩; exact h n
end

/-! ### A walk that forks: two loud operations, either of which may come first -/
inductive Ords
  | fin
  | one (c i : Nat) (t : Ords)
  | two (i j : Nat) (a b : Ords)
def Ords.size : Ords → Nat
  | .fin => 0
  | .one _ _ t => t.size + 1
  | .two _ _ a _ => a.size + 1
/-- the classes, by the left road -/
def Ords.left : Ords → List (Nat × Nat)
  | .fin => []
  | .one c i t => (c, i) :: t.left
  | .two i j a _ => (2, i) :: (2, j) :: a.left
section
variable {P : Program} {Q : Exit → Act → World → Prop} {S : World → Prop}
def ordsWalk (P : Program) (ops : Array Oper) (Q : Exit → Act → World → Prop) (S : World → Prop) : Ords → Act → World → Prop
  | .fin, a, w => ∀ w', Cw w w' → Q .normal a w'
  | .one 0 i s, a, w => ∃ o v, ops[i]? = some o ∧ YieldsIf P ops S o v a ∧ ordsWalk P ops Q S s (a.put o.dst v) w
  | .one 1 i s, a, w => ∃ o v, ops[i]? = some o ∧ YieldsIn P ops (Cw w) o v a ∧ ordsWalk P ops Q S s (a.put o.dst v) w
  | .one _ i s, a, w => ∀ w', Cw w w' → wpOp P ops Q i (fun a' w'' => S w'' ∧ ordsWalk P ops Q S s a' w'') a w'
  | .two i j s t, a, w => (∀ w', Cw w w' → wpOp P ops Q i (fun a' w'' => S w'' ∧ ordsWalk P ops Q S s a' w'') a w') ∧ (∀ w', Cw w w' → wpOp P ops Q j (fun a' w'' => S w'' ∧ ordsWalk P ops Q S t a' w'') a w')
def ordsB (md : Region.Mode) (ops : Array Oper) (all : List (Nat × Nat)) : Ords → Array Bool → Bool
  | .fin, listed => (Region.ready md ops listed).isEmpty
  | .one c i s, listed => (Region.ready md ops listed).contains i && clsOf all i == c &&
    (match c with
     | 0 => Region.free md ops listed i
     | 1 => Region.free md ops listed i && (List.range ops.size).all fun j => listed.getD j true || decide (clsOf all j < 2) || ancB md ops 4 j i
     | _ => Region.ready md ops listed == [i]) && ordsB md ops all s (listed.setIfInBounds i true)
  | .two i j s t, listed => Region.ready md ops listed == [i, j] && decide (2 ≤ clsOf all i) && decide (2 ≤ clsOf all j) && s.size == t.size && ordsB md ops all s (listed.setIfInBounds i true) && ordsB md ops all t (listed.setIfInBounds j true)

theorem stepC_loud {ops : Array Oper} {c i : Nat} {K : Act → World → Prop} {a : Act} {w : World} (hc : 2 ≤ c) (h : ∀ w', Cw w w' → wpOp P ops Q i (fun a' w'' => S w'' ∧ K a' w'') a w') : stepC P ops Q S c i K a w := by
  match c, hc with
  | c + 2, _ => exact h
theorem anyC_of_ords {md : Region.Mode} {ops : Array Oper} {all : List (Nat × Nat)} (hsel : Region.noSelect ops = true) (hQ : ∀ c a d v w, Q (.panic c) (a.put d v) w → Q (.panic c) a w) :
    ∀ (s : Ords) (listed : Array Bool) (a : Act) (w : World), Closed md ops listed → ordsB md ops all s listed = true → ordsWalk P ops Q S s a w → anyC P md ops Q S (clsOf all) s.size listed a w
  | .fin, listed, a, w, _, hB, h => ⟨by simpa [ordsB] using hB, h⟩
  | .one c i s, listed, a, w, hcl, hB, h => by
    simp only [ordsB, Bool.and_eq_true, beq_iff_eq] at hB
    obtain ⟨⟨⟨hr, hc⟩, hm⟩, hs⟩ := hB
    have hr' : i ∈ Region.ready md ops listed := by simpa using hr
    match c, hc, hm, h with
    | 0, hc, hm, h =>
      obtain ⟨o, v, ho, hy, hK⟩ := h
      exact anyC_pure ho hc (Region.noSelect_spec hsel) (fun c a w => hQ c a _ _ w) s.size listed a w (Region.free_spec ho hm) hr' hy (anyC_of_ords hsel hQ s _ _ _ (hcl.set hr') hs hK)
    | 1, hc, hm, h =>
      obtain ⟨o, v, ho, hy, hK⟩ := h
      simp only [Bool.and_eq_true] at hm
      refine anyC_read ho hc (Region.noSelect_spec hsel) s.size listed a w (Region.free_spec ho hm.1) (fun j oj hj hun h2 => ⟨4, ?_⟩) hcl hr' hy (anyC_of_ords hsel hQ s _ _ _ (hcl.set hr') hs hK)
      have h3 := List.all_eq_true.1 hm.2 j (List.mem_range.2 (Array.getElem?_eq_some_iff.1 hj).1)
      simp only [Bool.or_eq_true, decide_eq_true_eq] at h3
      rcases h3 with (h3 | h3) | h3
      · rw [hun] at h3; cases h3
      · omega
      · exact h3
    | c + 2, hc, hm, h =>
      have hm' : Region.ready md ops listed = [i] := by simpa using hm
      refine ⟨fun h0 => (by rw [h0] at hm'; cases hm'), fun j hj => ?_⟩
      rw [hm'] at hj
      have hji : j = i := by simpa using hj
      subst hji
      rw [hc]
      exact stepC_loud (by omega) fun w' hw' => wpOp_mono (fun a' w'' h' => ⟨h'.1, anyC_of_ords hsel hQ s _ _ _ (hcl.set hr') hs h'.2⟩) (h w' hw')
  | .two i j s t, listed, a, w, hcl, hB, h => by
    simp only [ordsB, Bool.and_eq_true, beq_iff_eq, decide_eq_true_eq] at hB
    obtain ⟨⟨⟨⟨⟨hm, hi2⟩, hj2⟩, hsz⟩, hs⟩, ht⟩ := hB
    refine ⟨fun h0 => (by rw [h0] at hm; cases hm), fun k hk => ?_⟩
    have hk0 := hk
    rw [hm] at hk
    have hk' : k = i ∨ k = j := by simpa using hk
    rcases hk' with rfl | rfl
    · exact stepC_loud hi2 fun w' hw' => wpOp_mono (fun a' w'' h' => ⟨h'.1, anyC_of_ords hsel hQ s _ _ _ (hcl.set hk0) hs h'.2⟩) (h.1 w' hw')
    · refine stepC_loud hj2 fun w' hw' => wpOp_mono (fun a' w'' h' => ⟨h'.1, ?_⟩) (h.2 w' hw')
      rw [hsz]
      exact anyC_of_ords hsel hQ t _ _ _ (hcl.set hk0) ht h'.2

/-- **ONE WALK (A FORK WHERE TWO LOUD ONES ARE FREE) SERVES EVERY ORDER.** -/
theorem wp_region_ords {id : Nat} {a : Act} {w : World} {l : List Oper} (S : World → Prop) (hSd : ∀ w n, S w → S (w.drewN n)) (s : Ords) (hm : P.follows .mixedOrders = true) (hlen : s.size = l.length) (hsel : Region.noSelect l.toArray = true) (hB : ordsB .any l.toArray s.left s (Array.replicate l.length false) = true)
    (hQ : ∀ c a d v w, Q (.panic c) (a.put d v) w → Q (.panic c) a w) (hS : S w) (h : ordsWalk P l.toArray Q S s a w) : (Code.region id l.toArray true).wp P Q a w := by
  refine wp_region_any hm ?_
  have h1 := anyC_of_ords hsel hQ s (Array.replicate l.length false) a w (closed_none _) hB h
  rw [hlen] at h1
  have h2 := anyC_any hSd _ _ _ _ h1 hS w.drew ⟨1, rfl⟩
  simpa using h2

theorem ords_pure {ops : Array Oper} {i : Nat} {s : Ords} {a : Act} {w : World} {o : Oper} (ho : ops[i]? = some o)
    (h : ∀ K : Act → Prop, (∀ a, ordsWalk P ops Q S s a w → K a) → if Region.wanted o (yielded ops a.tmps) then ∃ v, (∀ w, pureUpon w v ((execOp a.eval o).run P w)) ∧ K (a.put o.dst v) else K (a.put o.dst undef)) : ordsWalk P ops Q S (.one 0 i s) a w := by
  have h1 := h _ (fun _ h => h)
  by_cases hw : Region.wanted o (yielded ops a.tmps) = true
  · rw [if_pos hw] at h1
    obtain ⟨v, hv, hK⟩ := h1
    exact ⟨o, v, ho, .inl ⟨hw, fun w _ => pureUpon_spec (hv w)⟩, hK⟩
  · rw [if_neg hw] at h1
    exact ⟨o, undef, ho, .inr ⟨by simpa using hw, rfl⟩, h1⟩
theorem ords_held {ops : Array Oper} {i : Nat} {s : Ords} {a : Act} {w : World} {o : Oper} {v : Value} (ho : ops[i]? = some o) (hw : Region.wanted o (yielded ops a.tmps) = true)
    (hv : ∀ w, S w → pureUpon w v ((execOp a.eval o).run P w)) (h : ordsWalk P ops Q S s (a.put o.dst v) w) : ordsWalk P ops Q S (.one 0 i s) a w :=
  ⟨o, v, ho, .inl ⟨hw, fun w hS => pureUpon_spec (hv w hS)⟩, h⟩
theorem ords_read {ops : Array Oper} {i : Nat} {s : Ords} {a : Act} {w : World} {o : Oper} (ho : ops[i]? = some o)
    (h : ∀ K : Act → Prop, (∀ a, ordsWalk P ops Q S s a w → K a) → if Region.wanted o (yielded ops a.tmps) then o.quiet P a (fun w' => ∃ n, w' = w.drewN n) K else K (a.put o.dst undef)) : ordsWalk P ops Q S (.one 1 i s) a w := by
  have h1 := h _ (fun _ h => h)
  by_cases hw : Region.wanted o (yielded ops a.tmps) = true
  · rw [if_pos hw] at h1
    obtain ⟨v, hv, hK⟩ := h1
    exact ⟨o, v, ho, .inl ⟨hw, hv⟩, hK⟩
  · rw [if_neg hw] at h1
    exact ⟨o, undef, ho, .inr ⟨by simpa using hw, rfl⟩, h1⟩
theorem loud_of_list {ops : Array Oper} {i : Nat} {K : Act → World → Prop} {a : Act} {w : World} {o : Oper} (ho : ops[i]? = some o)
    (h : ∀ n, wpList P ops (Exit.then (fun a w => S w ∧ K a w) Q) [o] a (w.drewN n)) : ∀ w', Cw w w' → wpOp P ops Q i (fun a' w'' => S w'' ∧ K a' w'') a w' := by
  rintro w' ⟨n, rfl⟩
  have h1 := h n
  unfold wpOp
  rw [ho]
  dsimp only
  simp only [wpList] at h1
  split
  · rename_i hw
    rw [if_pos hw] at h1
    rcases h1 with h1 | ⟨h1, h2⟩
    · refine .inl ?_
      unfold Oper.wp at *
      generalize (execOp a.eval o).run P (w.drewN n) = r at *
      cases r with
      | ok x w' =>
        cases x <;> simp only [Oper.upon] at h1 ⊢
        case value => exact h1
        case skip => exact h1
        case defer => exact h1
        case enter =>
          refine Calls.mono h1 fun e w'' he => ?_
          cases e with
          | returned u => exact he
          | panicked c => exact he
          | outgrown => exact he
        case row => exact h1
      | halt x w' => cases x <;> simp only [Oper.upon] at h1 ⊢ <;> exact h1
    · exact .inr ⟨h1, h2⟩
  · rename_i hw
    rw [if_neg hw] at h1
    exact h1
theorem ords_loud {ops : Array Oper} {i : Nat} {s : Ords} {a : Act} {w : World} {o : Oper} (ho : ops[i]? = some o)
    (h : ∀ n, wpList P ops (Exit.then (fun a w => S w ∧ ordsWalk P ops Q S s a w) Q) [o] a (w.drewN n)) : ordsWalk P ops Q S (.one 2 i s) a w :=
  loud_of_list ho h
theorem ords_two {ops : Array Oper} {i j : Nat} {s t : Ords} {a : Act} {w : World} {o p : Oper} (ho : ops[i]? = some o) (hp : ops[j]? = some p)
    (h : ∀ n, wpList P ops (Exit.then (fun a w => S w ∧ ordsWalk P ops Q S s a w) Q) [o] a (w.drewN n)) (k : ∀ n, wpList P ops (Exit.then (fun a w => S w ∧ ordsWalk P ops Q S t a w) Q) [p] a (w.drewN n)) : ordsWalk P ops Q S (.two i j s t) a w :=
  ⟨loud_of_list ho h, loud_of_list hp k⟩
theorem ords_end {ops : Array Oper} {a : Act} {w : World} (h : ∀ n, Q .normal a (w.drewN n)) : ordsWalk P ops Q S .fin a w := by
  rintro w' ⟨n, rfl⟩; exact h n
/-- what is held yields the value that it yields now -/
theorem ords_heldK {ops : Array Oper} {i : Nat} {s : Ords} {a : Act} {w : World} {o : Oper} (ho : ops[i]? = some o)
    (h : ∀ (K : Act → Prop) (K' : Value → Prop), (∀ a, ordsWalk P ops Q S s a w → K a) → (∀ v, (∀ w', S w' → pureUpon w' v ((execOp a.eval o).run P w')) → K' v) →
      if Region.wanted o (yielded ops a.tmps) then ∃ v, pureUpon w v ((execOp a.eval o).run P w) ∧ K' v ∧ K (a.put o.dst v) else K (a.put o.dst undef)) : ordsWalk P ops Q S (.one 0 i s) a w := by
  have h1 := h _ _ (fun _ h => h) (fun _ h => h)
  by_cases hw : Region.wanted o (yielded ops a.tmps) = true
  · rw [if_pos hw] at h1
    obtain ⟨v, _, hv, hK⟩ := h1
    exact ords_held ho hw hv hK
  · rw [if_neg hw] at h1
    exact ⟨o, undef, ho, .inr ⟨by simpa using hw, rfl⟩, h1⟩
/-- what is held yields one value in every world that meets S -/
theorem ords_hold {ops : Array Oper} {i : Nat} {s : Ords} {a : Act} {w : World} {o : Oper} (ho : ops[i]? = some o) (hw : Region.wanted o (yielded ops a.tmps) = true)
    (h : ∃ v, (∀ w, S w → pureUpon w v ((execOp a.eval o).run P w)) ∧ ordsWalk P ops Q S s (a.put o.dst v) w) : ordsWalk P ops Q S (.one 0 i s) a w := by
  obtain ⟨v, hv, h⟩ := h
  exact ords_held ho hw hv h
/-- the same walk, where S is: all that was there is as it was -/
theorem wp_region_B {id : Nat} {a : Act} {w : World} {l : List Oper} (s : Ords) (hm : P.follows .mixedOrders = true) (hlen : s.size = l.length) (hsel : Region.noSelect l.toArray = true) (hB : ordsB .any l.toArray s.left s (Array.replicate l.length false) = true)
    (hQ : ∀ c a d v w, Q (.panic c) (a.put d v) w → Q (.panic c) a w) (h : ordsWalk P l.toArray Q (fun w' => Below w.heap.size w w') s a w) : (Code.region id l.toArray true).wp P Q a w :=
  wp_region_ords (fun w' => Below w.heap.size w w') (fun _ _ h => ⟨h.os, h.tape, h.output, h.size, h.block⟩) s hm hlen hsel hB hQ (Below.refl _ _) h
/-- a list of classes, then a tree -/
def Ords.of : List (Nat × Nat) → Ords → Ords
  | [], t => t
  | (c, i) :: s, t => .one c i (Ords.of s t)
end

end Go.Proofs.Ytnkngaicegcejaa

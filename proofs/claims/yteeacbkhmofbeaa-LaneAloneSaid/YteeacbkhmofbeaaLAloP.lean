/-
  A byte that is turned changes the bytes of just one lane, in plain Lean. Lemmas alone; no statement is claimed here.
-/
import Derived.Test.YteeacbkhmofbeaaLCalP
namespace Go.Proofs.Yteeacbkhmofbeaa

def laneZ (n blk j o : Nat) (l : List UInt8) : List UInt8 := ((l.zipIdx o).filter fun p => p.2 / blk % n == j).map (·.1)
theorem laneZ_append (n blk j o : Nat) (l m : List UInt8) : laneZ n blk j o (l ++ m) = laneZ n blk j o l ++ laneZ n blk j (o + l.length) m := by
  unfold laneZ
  rw [List.zipIdx_append, List.filter_append, List.map_append]
theorem laneZ_cons (n blk j o : Nat) (c : UInt8) (l : List UInt8) : laneZ n blk j o (c :: l) = (if o / blk % n = j then [c] else []) ++ laneZ n blk j (o + 1) l := by
  unfold laneZ
  rw [List.zipIdx_cons, List.filter_cons]
  by_cases h : o / blk % n = j <;> simp [h]
theorem laneB_zero (n blk j : Nat) (l : List UInt8) : laneB n blk j l = laneZ n blk j 0 l := rfl
theorem laneB_turned (n blk j at_ : Nat) (l : List UInt8) (d x : UInt8) (hd : l[at_]? = some d) (hx : d ≠ x) : (laneB n blk j l = laneB n blk j (l.set at_ x)) ↔ at_ / blk % n ≠ j := by
  have hlt : at_ < l.length := (List.getElem?_eq_some_iff.1 hd).1
  have hg : l[at_] = d := (List.getElem?_eq_some_iff.1 hd).2
  have e1 : l = l.take at_ ++ d :: l.drop (at_ + 1) := by
    rw [← hg, List.getElem_cons_drop, List.take_append_drop]
  have e2 : l.set at_ x = l.take at_ ++ x :: l.drop (at_ + 1) := by
    rw [List.set_eq_take_append_cons_drop, if_pos hlt]
  rw [e2]
  have e3 : laneB n blk j l = laneB n blk j (l.take at_ ++ d :: l.drop (at_ + 1)) := congrArg _ e1
  rw [e3]
  have hl : (l.take at_).length = at_ := by rw [List.length_take]; omega
  rw [laneB_zero, laneB_zero, laneZ_append, laneZ_append, laneZ_cons, laneZ_cons, hl, Nat.zero_add]
  by_cases h : at_ / blk % n = j
  · rw [if_pos h, if_pos h]
    constructor
    · intro e
      have e := List.append_cancel_left e
      injection e with e
      exact absurd e hx
    · intro e; exact absurd h e
  · rw [if_neg h, if_neg h]
    exact ⟨fun _ => h, fun _ => rfl⟩
theorem turned_ne (d : UInt8) : d ≠ d ^^^ 1 := by
  intro h
  have h2 : d ^^^ d = d ^^^ (d ^^^ 1) := congrArg (d ^^^ ·) h
  rw [← UInt8.xor_assoc, UInt8.xor_self, UInt8.zero_xor] at h2
  exact absurd h2 (by decide)
def LP.turned (P : LP) (at_ : Nat) (x : UInt8) : LP := { P with data := P.data.set at_ x }
theorem LP.turned_call (P : LP) (at_ : Nat) (x : UInt8) (i : Nat) : ((P.turned at_ x).call i).b = (P.call i).b ∧ ((P.turned at_ x).call i).key = (P.call i).key ∧ ((P.turned at_ x).call i).last = (P.call i).last ∧ ((P.turned at_ x).call i).m = (P.call i).m := by
  unfold LP.call
  show (if i < lnOf P.big then _ else _ : CP).b = _ ∧ (if i < lnOf P.big then _ else _ : CP).key = _ ∧ (if i < lnOf P.big then _ else _ : CP).last = _ ∧ (if i < lnOf P.big then _ else _ : CP).m = _
  split <;> exact ⟨rfl, rfl, rfl, rfl⟩
theorem LP.turned_data (P : LP) (at_ : Nat) (d : UInt8) (hd : P.data[at_]? = some d) (i : Nat) (hi : i < lnOf P.big) : ((P.call i).data = ((P.turned at_ (d ^^^ 1)).call i).data) ↔ at_ / blOf P.big % lnOf P.big ≠ i := by
  rw [P.call_lt hi, LP.call_lt (P.turned at_ (d ^^^ 1)) hi]
  exact laneB_turned (lnOf P.big) (blOf P.big) i at_ P.data d _ hd (turned_ne d)
theorem LP.turned_err (P : LP) (at_ : Nat) (x : UInt8) : (P.turned at_ x).err = P.err := rfl
end Go.Proofs.Yteeacbkhmofbeaa

/-
  Rows of calls (structs of six cells) of one's own, and append to them. Lemmas alone; no statement is claimed here.
-/
import Derived.Test.YtghpofnaojbbkaaGreatBu1
import Derived.Deep.MidRow
namespace Go.Proofs.YtghpofnaojbbkaaGreat
open Go.RowKit

structure CC where
  k : Int
  b : Sl
  key : Sl
  data : Sl
  last : Bool
  m : Int
def CC.cs (x : CC) : Array Value := callV x.k x.b x.key x.data x.last x.m
theorem CC.size (x : CC) : x.cs.toList.length = 6 := rfl
theorem CC.one (x : CC) : ∀ u ∈ x.cs.toList, u.oneCell' = true := by
 intro u hu
 have h : x.cs.toList = [.int .i64 x.k, .slice x.b.A x.b.n x.b.c, .slice x.key.A x.key.n x.key.c, .bool x.last, .int .i64 x.m, .slice x.data.A x.data.n x.data.c] := rfl
 rw [h] at hu
 simp only [List.mem_cons, List.not_mem_nil, or_false] at hu
 rcases hu with rfl | rfl | rfl | rfl | rfl | rfl <;> rfl
def flat6 (l : List CC) : List Value := l.flatMap fun x => x.cs.toList
theorem flat6_snoc (l : List CC) (x : CC) : flat6 (l ++ [x]) = flat6 l ++ x.cs.toList := by simp [flat6]
theorem flat6_at : ∀ (l : List CC) (i : Nat) (x : CC), l[i]? = some x → ∀ j v, x.cs.toList[j]? = some v → (flat6 l)[i * 6 + j]? = some v
 | [], i, x, h => by simp at h
 | y :: l, 0, x, h => by
  intro j v hv
  injection h with h
  subst h
  show (flat6 (y :: l))[0 * 6 + j]? = some v
  have hj : j < y.cs.toList.length := (List.getElem?_eq_some_iff.1 hv).1
  rw [show 0 * 6 + j = j by omega]
  unfold flat6
  rw [List.flatMap_cons, List.getElem?_append_left hj]
  exact hv
 | y :: l, i + 1, x, h => by
  intro j v hv
  have h' := flat6_at l i x h j v hv
  unfold flat6 at h' ⊢
  rw [List.flatMap_cons, List.getElem?_append_right (by rw [y.size]; omega), y.size, show (i + 1) * 6 + j - 6 = i * 6 + j by omega]
  exact h'

def CO (w : World) (base : Nat) (A : Option Addr) (c : Nat) (l : List CC) : Prop := w.ownsRow base 61 6 (.slice A l.length c) l.length (flat6 l)

section
variable {w w' : World} {B base : Nat} {A : Option Addr} {c : Nat} {l : List CC}
theorem CO.nil (w : World) (base : Nat) : CO w base none 0 [] := World.ownsRow_nil w base 61 6
theorem CO.form (h : CO w base A c l) : (A = none ∧ c = 0 ∧ l = []) ∨ ∃ g, A = some ⟨g, 0, none⟩ ∧ base ≤ g ∧ g < w.heap.size ∧ l.length ≤ c ∧ c ≤ maxLen := by
 rcases h.2 with ⟨hv, hn⟩ | ⟨g, cap, cur, hv, hb, hg, hle, hm, _⟩
 ·injection hv with h1 h2 h3
  exact .inl ⟨h1, h3, List.eq_nil_of_length_eq_zero hn⟩
 ·injection hv with h1 h2 h3
  subst h1; subst h3
  exact .inr ⟨g, rfl, hb, (Array.getElem?_eq_some_iff.1 hg).1, hle, hm⟩
theorem CO.block_lt (h : CO w base A c l) : ∀ a, A = some a → base ≤ a.block ∧ a.block < w.heap.size := by
 intro a ha
 rcases h.form with ⟨h0, _⟩ | ⟨g, hg, hb, hl, _⟩
 ·rw [h0] at ha; cases ha
 ·rw [hg] at ha; injection ha with ha; subst ha; exact ⟨hb, hl⟩
theorem CO.kept {row : Option Nat} (h : CO w base A c l) (hg : w.grownBy w' row) (hne : ∀ a, A = some a → row ≠ some a.block) : CO w' base A c l := by
 refine World.ownsRow.kept h hg ?_
 cases A with
 | none => exact .inl rfl
 | some a => exact .inr (fun e => hne a rfl (by rw [← e]; rfl))
theorem CO.alloc (h : CO w base A c l) (o : Obj) : CO (w.alloc o) base A c l := World.ownsRow.alloc h o
theorem CO.drewN (h : CO w base A c l) (k : Nat) : CO (w.drewN k) base A c l := h
theorem CO.of_block (h : CO w base A c l) (hb : ∀ a, A = some a → w'.heap[a.block]? = w.heap[a.block]?) : CO w' base A c l := by
 obtain ⟨h1, h2⟩ := h
 refine ⟨h1, ?_⟩
 rcases h2 with h2 | ⟨g, cap, cur, hv, hg, hh, r⟩
 ·exact .inl h2
 ·refine .inr ⟨g, cap, cur, hv, hg, ?_, r⟩
  injection hv with hv
  rw [hb _ hv]; exact hh
theorem CO.below (h : CO w base A c l) (hb : Below w.heap.size w w') : CO w' base A c l :=
 h.of_block fun a ha => hb.block _ (h.block_lt a ha).2
theorem CO.setFar (h : CO w base A c l) {p : Addr} (hp : ∀ a, A = some a → a.block ≠ p.block) (u : Value) : CO (w.setCell p u) base A c l :=
 h.of_block fun a ha => Below.heap_setCell w p u _ (hp a ha)
theorem CO.mono (h : CO w base A c l) (hb : B ≤ base) : CO w B A c l := by
 obtain ⟨h1, h2⟩ := h
 refine ⟨h1, ?_⟩
 rcases h2 with h2 | ⟨g, cap, cur, hv, hg, r⟩
 ·exact .inl h2
 ·exact .inr ⟨g, cap, cur, hv, by omega, r⟩
theorem CO.ne_blk (h : CO w base A c l) {g : Nat} {t : TypeId} {cs : Array Value} (hb : Blk w g t cs) (hne : 61 ≠ t) : ∀ a, A = some a → a.block ≠ g := by
 intro a ha he
 have := own_blk_ne h hb hne
 subst ha
 exact this (by rw [← he]; rfl)
theorem CO.ne_os (h : CO w base A c l) {base' c' : Nat} {A' : Option Addr} {m : List UInt8} (h' : OS cB w base' A' c' m) : ∀ a b, A = some a → A' = some b → a.block ≠ b.block := by
 intro a b ha hb
 rcases h'.2 with ⟨hv, _⟩ | ⟨g', cap, cur, hv, _, hg, _⟩
 ·rw [hb] at hv; cases hv
 ·have e : A' = some ⟨g', 0, none⟩ := by injection hv
  rw [hb] at e
  have e2 : b = ⟨g', 0, none⟩ := Option.some.inj e
  rw [e2]
  exact h.ne_blk (t := 5) (cs := cur) hg (by decide) a ha
theorem CO.at_ {g : Nat} (h : CO w base (some ⟨g, 0, none⟩) c l) {i : Nat} {x : CC} (hi : l[i]? = some x) : w.rangeAt g (i * 6) x.cs.toList := by
 intro j v hv
 have hj : j < 6 := (List.getElem?_eq_some_iff.1 hv).1
 have hil : i < l.length := (List.getElem?_eq_some_iff.1 hi).1
 rw [World.ownsRow.cellAt h (i * 6 + j) (by omega)]
 exact flat6_at l i x hi j v hv
end

def zcall : Value := .agg #[.int .i64 0, .slice none 0 0, .slice none 0 0, .bool false, .int .i64 0, .slice none 0 0]
theorem call_info : (Tryz.prog.info? 61).map (fun i => (i.zero, i.size, i.bytes)) = some (some zcall, 6, 96) := by unfold zcall; kernel_rfl
section
variable (w : World)
theorem run_appC {ty : TypeId} {base : Nat} {A : Option Addr} {c : Nat} {l : List CC} (hown : CO w base A c l) {g : Nat} {t : TypeId} {y : CC} (hb : Blk w g t y.cs) (c' : Nat) (hlen : l.length ≤ 1000) (hbase : base ≤ w.heap.size) :
  ∃ A1 c1 w1, (Builtin.append_ #[56, 56] ty #[.slice A l.length c, .slice (some ⟨g, 0, none⟩) 1 c']).run Tryz.prog w = .ok (.slice A1 (l.length + 1) c1) w1 ∧ CO w1 base A1 c1 (l ++ [y]) ∧ w.grownBy w1 (A.map (·.block)) ∧
   (A1.map (·.block) = A.map (·.block) ∨ A1.map (·.block) = some w.heap.size) := by
 obtain ⟨i, hi, hz, hz1, hz2⟩ := info_parts call_info
 have hr : Reads w (g + 1) 6 (some ⟨g, 0, none⟩) 1 y.cs.toList := ⟨rfl, fun _ => ⟨_, rfl, Nat.lt_succ_self g, fun j u hu => by
  rw [Addr.add_mid, Nat.zero_add, hb.cell]
  rw [← hu, Array.getElem?_toList]⟩⟩
 obtain ⟨v', w', h1, h2, h3, h4⟩ := run_append_any (P := Tryz.prog) w base 56 ty 61 i zcall 6 96 Tryz.underlying56 hi hz hz1 hz2 rfl (by omega) _ _ _ hown (g + 1) (some ⟨g, 0, none⟩) 1 c' _ hr
  y.one (by simp only [maxLen]; omega) (by omega) hbase
 have hob : (Value.slice A l.length c).ownBlock = A.map (·.block) := by cases A <;> rfl
 rw [hob] at h3 h4
 have hv : ∃ A1 c1, v' = .slice A1 (l.length + 1) c1 := by
  rcases h2.2 with ⟨rfl, h0⟩ | ⟨g, cap, cur, rfl, _⟩
  ·exact ⟨none, 0, by rw [h0]⟩
  ·exact ⟨_, _, rfl⟩
 obtain ⟨A1, c1, rfl⟩ := hv
 have hob1 : (Value.slice A1 (l.length + 1) c1).ownBlock = A1.map (·.block) := by cases A1 <;> rfl
 rw [hob1] at h4
 refine ⟨A1, c1, w', h1, ?_, h3, h4⟩
 unfold CO
 rw [List.length_append, flat6_snoc]
 exact h2
theorem wp_appC {o : Oper} {a : Act} {K : Act → World → Prop} {Q : Exit → Act → World → Prop} (s x : Operand)
  (ho : o.op = .call { callee := .builtin .append, args := #[s, x], argTypes := #[56, 56] })
  {base : Nat} {A : Option Addr} {c n : Nat} {l : List CC} (hown : CO w base A c l) (hs : a.eval s = .slice A n c) (hn : l.length = n) {g : Nat} {t : TypeId} {y : CC} (hb : Blk w g t y.cs) {c' : Nat} (hx : a.eval x = .slice (some ⟨g, 0, none⟩) 1 c')
  (hlen : n ≤ 1000) (hbase : base ≤ w.heap.size)
  (h : ∀ A1 c1 w1, CO w1 base A1 c1 (l ++ [y]) → w.grownBy w1 (A.map (·.block)) → (A1.map (·.block) = A.map (·.block) ∨ A1.map (·.block) = some w.heap.size) → K (a.put o.dst (.slice A1 (n + 1) c1)) w1) : o.wp Tryz.prog a w K Q := by
 subst hn
 obtain ⟨A1, c1, w1, hrun, h2, h3, h4⟩ := run_appC w (ty := o.type) hown hb c' hlen hbase
 unfold Oper.wp execOp
 simp only [ho, resolve, invoke, builtin, Sem.run_bind, Sem.run_pure, Result.andThen_ok, List.map_toArray, List.map_cons, List.map_nil, hs, hx]
 rw [hrun]
 exact h A1 c1 w1 h2 h3 h4
theorem wpList_appC {ops : Array Oper} {rest : List Oper} {o : Oper} {a : Act} {Q : Exit → Act → World → Prop} (hgd : o.guard = none) (s x : Operand)
  (ho : o.op = .call { callee := .builtin .append, args := #[s, x], argTypes := #[56, 56] })
  {base : Nat} {A : Option Addr} {c n : Nat} {l : List CC} (hown : CO w base A c l) (hs : a.eval s = .slice A n c) (hn : l.length = n) {g : Nat} {t : TypeId} {y : CC} (hb : Blk w g t y.cs) {c' : Nat} (hx : a.eval x = .slice (some ⟨g, 0, none⟩) 1 c')
  (hlen : n ≤ 1000) (hbase : base ≤ w.heap.size)
  (h : ∀ A1 c1 w1, CO w1 base A1 c1 (l ++ [y]) → w.grownBy w1 (A.map (·.block)) → (A1.map (·.block) = A.map (·.block) ∨ A1.map (·.block) = some w.heap.size) → wpList Tryz.prog ops Q rest (a.put o.dst (.slice A1 (n + 1) c1)) w1) : wpList Tryz.prog ops Q (o :: rest) a w :=
 wpList_plain hgd fun _ hK => wp_appC w s x ho hown hs hn hb hx hlen hbase fun A1 c1 w1 h2 h3 h4 => hK _ _ (h A1 c1 w1 h2 h3 h4)
end
end Go.Proofs.YtghpofnaojbbkaaGreat

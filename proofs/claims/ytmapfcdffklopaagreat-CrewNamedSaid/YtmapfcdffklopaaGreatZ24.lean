/-
  Z24: contracts and lemmas alone; no statement is claimed here.
-/
import Derived.Test.YtmapfcdffklopaaGreatZ20
import Derived.Deep.MidRow
import Derived.Test.YtmapfcdffklopaaGreatZ4
import Derived.Test.YtmapfcdffklopaaGreatZ6
import Derived.Test.YtmapfcdffklopaaGreatZ14
namespace Go.Proofs.YtmapfcdffklopaaGreat
open _root_.List renaming getElem?_append_left → bZH
open _root_.Nat renaming zero_le → aZY
open _root_.List renaming getElem?_append_right → aZV
open _root_.Nat renaming lt_of_lt_of_le → aZO
open _root_.List renaming length_append → aZN
open _root_.Option.some renaming inj → aZF
open _root_.Nat renaming le_refl → aZC
open Lib renaming hid -> zH
open Go.RowKit
structure CC where
  k : Int
  b : Sl
  key : Sl
  data : Sl
  last : Bool
  m : Int
def CC.cs (x : CC) : Array Value := callV x.k x.b x.key x.data x.last x.m
theorem CC.size (x : CC) : x.cs.toList.length = 6 := rfl
theorem CC.one (x : CC) : ∀ u ∈ x.cs.toList, u.oneCell' = true := by
 intro u hu;have h : x.cs.toList = [.int .i64 x.k, .slice x.b.A x.b.n x.b.c, .slice x.key.A x.key.n x.key.c, .bool x.last, .int .i64 x.m, .slice x.data.A x.data.n x.data.c] := rfl;rw [h] at hu;simp only [List.mem_cons, List.not_mem_nil, or_false] at hu;rcases hu with rfl | rfl | rfl | rfl | rfl | rfl <;> rfl
def flat6 (l : List CC) : List Value := l.flatMap fun x => x.cs.toList
theorem flat6_snoc (l : List CC) (x : CC) : flat6 (l ++ [x]) = flat6 l ++ x.cs.toList := by simp [flat6]
theorem flat6_at : ∀ (l : List CC) (i : Nat) (x : CC), l[i]? = some x -> ∀ j v, x.cs.toList[j]? = some v -> (flat6 l)[i * 6 + j]? = some v
 | [], i, x, h => by simp at h
 | y :: l, 0, x, h => by
  intro j v hv;injection h with h
  subst h
  show (flat6 (y :: l))[0 * 6 + j]? = some v
  have hj : j < y.cs.toList.length := (List.getElem?_eq_some_iff.1 hv).1;rw [show 0 * 6 + j = j by omega];unfold flat6;rw [List.flatMap_cons, bZH hj];exact hv
 | y :: l, i + 1, x, h => by
  intro j v hv;have h' := flat6_at l i x h j v hv;unfold flat6 at h' ⊢;rw [List.flatMap_cons, aZV (by rw [y.size]; omega), y.size, show (i + 1) * 6 + j - 6 = i * 6 + j by omega];exact h'
def CO (w : World) (base : Nat) (A : Option Addr) (c : Nat) (l : List CC) : Prop := w.ownsRow base 107 6 (.slice A l.length c) l.length (flat6 l)
section
variable {w w' : World} {B base : Nat} {A : Option Addr} {c : Nat} {l : List CC}
theorem CO.nil (w : World) (base : Nat) : CO w base none 0 [] := World.ownsRow_nil w base 107 6
theorem CO.form (h : CO w base A c l) : (A = none /\ c = 0 /\ l = []) \/ ∃ g, A = some ⟨g, 0, none⟩ /\ base <= g /\ g < w.heap.size /\ l.length <= c /\ c <= maxLen := by
 rcases h.2 with ⟨hv, hn⟩ | ⟨g, cap, cur, hv, hb, hg, hle, hm, _⟩
 ·injection hv with h1 h2 h3
  exact .inl ⟨h1, h3, List.eq_nil_of_length_eq_zero hn⟩
 ·injection hv with h1 h2 h3
  subst h1; subst h3;exact .inr ⟨g, rfl, hb, (Array.getElem?_eq_some_iff.1 hg).1, hle, hm⟩
theorem CO.block_lt (h : CO w base A c l) : ∀ a, A = some a -> base <= a.block /\ a.block < w.heap.size := by
 intro a ha;rcases h.form with ⟨h0, _⟩ | ⟨g, hg, hb, hl, _⟩
 ·rw [h0] at ha; cases ha
 ·rw [hg] at ha; injection ha with ha; subst ha; exact ⟨hb, hl⟩
theorem CO.kept {row : Option Nat} (h : CO w base A c l) (hg : w.grownBy w' row) (hne : ∀ a, A = some a -> row ≠ some a.block) : CO w' base A c l := by
 refine World.ownsRow.kept h hg ?_
 cases A with
 | none => exact .inl rfl
 | some a => exact .inr (fun e => hne a rfl (by rw [<- e]; rfl))
theorem CO.alloc (h : CO w base A c l) (o : Obj) : CO (w.alloc o) base A c l := World.ownsRow.alloc h o
theorem CO.drewN (h : CO w base A c l) (k : Nat) : CO (w.drewN k) base A c l := h
theorem CO.of_block (h : CO w base A c l) (hb : ∀ a, A = some a -> w'.heap[a.block]? = w.heap[a.block]?) : CO w' base A c l := by
 obtain ⟨h1, h2⟩ := h;refine ⟨h1, ?_⟩;rcases h2 with h2 | ⟨g, cap, cur, hv, hg, hh, r⟩
 ·exact .inl h2
 ·refine .inr ⟨g, cap, cur, hv, hg, ?_, r⟩
  injection hv with hv
  rw [hb _ hv]; exact hh
theorem CO.below (h : CO w base A c l) (hb : Below w.heap.size w w') : CO w' base A c l :=
 h.of_block fun a ha => hb.block _ (h.block_lt a ha).2
theorem CO.setFar (h : CO w base A c l) {p : Addr} (hp : ∀ a, A = some a -> a.block ≠ p.block) (u : Value) : CO (w.setCell p u) base A c l :=
 h.of_block fun a ha => Below.heap_setCell w p u _ (hp a ha)
theorem CO.mono (h : CO w base A c l) (hb : B <= base) : CO w B A c l := by
 obtain ⟨h1, h2⟩ := h;refine ⟨h1, ?_⟩;rcases h2 with h2 | ⟨g, cap, cur, hv, hg, r⟩
 ·exact .inl h2
 ·exact .inr ⟨g, cap, cur, hv, by omega, r⟩
theorem CO.ne_blk (h : CO w base A c l) {g : Nat} {t : TypeId} {cs : Array Value} (hb : Blk w g t cs) (hne : 107 ≠ t) : ∀ a, A = some a -> a.block ≠ g := by
 intro a ha he;have := own_blk_ne h hb hne;subst ha;exact this (by rw [<- he]; rfl)
theorem CO.ne_os (h : CO w base A c l) {base' c' : Nat} {A' : Option Addr} {m : List UInt8} (h' : OS cB w base' A' c' m) : ∀ a b, A = some a -> A' = some b -> a.block ≠ b.block := by
 intro a b ha hb;rcases h'.2 with ⟨hv, _⟩ | ⟨g', cap, cur, hv, _, hg, _⟩
 ·rw [hb] at hv; cases hv
 ·have e : A' = some ⟨g', 0, none⟩ := by injection hv
  rw [hb] at e;have e2 : b = ⟨g', 0, none⟩ := aZF e;rw [e2];exact h.ne_blk (t := 5) (cs := cur) hg (by decide) a ha
theorem CO.at_ {g : Nat} (h : CO w base (some ⟨g, 0, none⟩) c l) {i : Nat} {x : CC} (hi : l[i]? = some x) : w.rangeAt g (i * 6) x.cs.toList := by
 intro j v hv;have hj : j < 6 := (List.getElem?_eq_some_iff.1 hv).1;have hil : i < l.length := (List.getElem?_eq_some_iff.1 hi).1;rw [World.ownsRow.cellAt h (i * 6 + j) (by omega)];exact flat6_at l i x hi j v hv
end
def zcall : Value := .agg #[.int .i64 0, .slice none 0 0, .slice none 0 0, .bool false, .int .i64 0, .slice none 0 0]
theorem call_info : (Tryz.prog.info? 107).map (fun i => (i.zero, i.size, i.bytes)) = some (some zcall, 6, 96) := by unfold zcall; kernel_rfl
section
variable (w : World)
theorem run_appC {ty : TypeId} {base : Nat} {A : Option Addr} {c : Nat} {l : List CC} (hown : CO w base A c l) {g : Nat} {t : TypeId} {y : CC} (hb : Blk w g t y.cs) (c' : Nat) (hlen : l.length <= 1000) (hbase : base <= w.heap.size) :
  ∃ A1 c1 w1, (Builtin.append_ #[102, 102] ty #[.slice A l.length c, .slice (some ⟨g, 0, none⟩) 1 c']).run Tryz.prog w = .ok (.slice A1 (l.length + 1) c1) w1 /\ CO w1 base A1 c1 (l ++ [y]) /\ w.grownBy w1 (A.map (·.block)) /\
   (A1.map (·.block) = A.map (·.block) \/ A1.map (·.block) = some w.heap.size) := by
 obtain ⟨i, hi, hz, hz1, hz2⟩ := info_parts call_info;have hr : Reads w (g + 1) 6 (some ⟨g, 0, none⟩) 1 y.cs.toList := ⟨rfl, fun _ => ⟨_, rfl, Nat.lt_succ_self g, fun j u hu => by
  rw [Addr.add_mid, Nat.zero_add, hb.cell];rw [<- hu, Array.getElem?_toList]⟩⟩
 obtain ⟨v', w', h1, h2, h3, h4⟩ := run_append_any (P := Tryz.prog) w base 102 ty 107 i zcall 6 96 Tryz.underlying102 hi hz hz1 hz2 rfl (by omega) _ _ _ hown (g + 1) (some ⟨g, 0, none⟩) 1 c' _ hr
  y.one (by simp only [maxLen]; omega) (by omega) hbase
 have hob : (Value.slice A l.length c).ownBlock = A.map (·.block) := by cases A <;> rfl
 rw [hob] at h3 h4;have hv : ∃ A1 c1, v' = .slice A1 (l.length + 1) c1 := by
  rcases h2.2 with ⟨rfl, h0⟩ | ⟨g, cap, cur, rfl, _⟩
  ·exact ⟨none, 0, by rw [h0]⟩
  ·exact ⟨_, _, rfl⟩
 obtain ⟨A1, c1, rfl⟩ := hv;have hob1 : (Value.slice A1 (l.length + 1) c1).ownBlock = A1.map (·.block) := by cases A1 <;> rfl
 rw [hob1] at h4;refine ⟨A1, c1, w', h1, ?_, h3, h4⟩;unfold CO;rw [aZN, flat6_snoc];exact h2
theorem wp_appC {o : Oper} {a : Act} {K : Act -> World -> Prop} {Q : Exit -> Act -> World -> Prop} (s x : Operand)
  (ho : o.op = .call { callee := .builtin .append, args := #[s, x], argTypes := #[102, 102] })
  {base : Nat} {A : Option Addr} {c n : Nat} {l : List CC} (hown : CO w base A c l) (hs : a.eval s = .slice A n c) (hn : l.length = n) {g : Nat} {t : TypeId} {y : CC} (hb : Blk w g t y.cs) {c' : Nat} (hx : a.eval x = .slice (some ⟨g, 0, none⟩) 1 c')
  (hlen : n <= 1000) (hbase : base <= w.heap.size)
  (h : ∀ A1 c1 w1, CO w1 base A1 c1 (l ++ [y]) -> w.grownBy w1 (A.map (·.block)) -> (A1.map (·.block) = A.map (·.block) \/ A1.map (·.block) = some w.heap.size) -> K (a.put o.dst (.slice A1 (n + 1) c1)) w1) : o.wp Tryz.prog a w K Q := by
 subst hn;obtain ⟨A1, c1, w1, hrun, h2, h3, h4⟩ := run_appC w (ty := o.type) hown hb c' hlen hbase;unfold Oper.wp execOp;simp only [ho, resolve, invoke, builtin, Sem.run_bind, Sem.run_pure, Result.andThen_ok, List.map_toArray, List.map_cons, List.map_nil, hs, hx];rw [hrun];exact h A1 c1 w1 h2 h3 h4
theorem wpList_appC {ops : Array Oper} {rest : List Oper} {o : Oper} {a : Act} {Q : Exit -> Act -> World -> Prop} (hgd : o.guard = none) (s x : Operand)
  (ho : o.op = .call { callee := .builtin .append, args := #[s, x], argTypes := #[102, 102] })
  {base : Nat} {A : Option Addr} {c n : Nat} {l : List CC} (hown : CO w base A c l) (hs : a.eval s = .slice A n c) (hn : l.length = n) {g : Nat} {t : TypeId} {y : CC} (hb : Blk w g t y.cs) {c' : Nat} (hx : a.eval x = .slice (some ⟨g, 0, none⟩) 1 c')
  (hlen : n <= 1000) (hbase : base <= w.heap.size)
  (h : ∀ A1 c1 w1, CO w1 base A1 c1 (l ++ [y]) -> w.grownBy w1 (A.map (·.block)) -> (A1.map (·.block) = A.map (·.block) \/ A1.map (·.block) = some w.heap.size) -> wpList Tryz.prog ops Q rest (a.put o.dst (.slice A1 (n + 1) c1)) w1) : wpList Tryz.prog ops Q (o :: rest) a w :=
 wpList_plain hgd fun _ hK => wp_appC w s x ho hown hs hn hb hx hlen hbase fun A1 c1 w1 h2 h3 h4 => hK _ _ (h A1 c1 w1 h2 h3 h4)
end
def lnOf (big : Bool) : Nat := if big then 4 else 8
def blOf (big : Bool) : Nat := if big then 128 else 64
structure CP where
  b : List UInt8
  key : List UInt8
  last : Bool
  m : Int
  data : List UInt8
def CP.out (k : Int) (c : CP) : List UInt8 × Int := callS k c.b c.key c.last c.m c.data
structure LP where
  big : Bool
  digest : Int
  key : List UInt8
  ls : List UInt8
  lp : List UInt8
  data : List UInt8
def LP.par (P : LP) (i : Nat) (s t : Sl) : Pr := lanePar (lnOf P.big) (bOf P.big) P.digest P.key.length i s t
def LP.blk (P : LP) (i : Nat) : List UInt8 := encL P.big (P.par i Sl.nil Sl.nil) P.ls P.lp
def LP.lane (P : LP) (i : Nat) : CP := ⟨P.blk i, P.key, decide (lnOf P.big - 1 <= i), bOf P.big, laneB (lnOf P.big) (blOf P.big) i P.data⟩
def LP.outs (P : LP) : Nat -> List UInt8
  | 0 => []
  | k + 1 => P.outs k ++ ((P.lane k).out (kOf P.big)).1
def LP.root (P : LP) : CP := ⟨P.blk (lnOf P.big), [], true, P.digest, P.outs (lnOf P.big)⟩
def LP.call (P : LP) (i : Nat) : CP := if i < lnOf P.big then P.lane i else P.root
def LP.err (P : LP) : Int := chk (kOf P.big) (P.par (lnOf P.big) ⟨none, P.ls.length, 0⟩ ⟨none, P.lp.length, 0⟩)
theorem lnOf_pos (big : Bool) : 4 <= lnOf big /\ lnOf big <= 8 := by cases big <;> decide
theorem callS_le (k : Int) (b key : List UInt8) (last : Bool) (m : Int) (data : List UInt8) : (callS k b key last m data).1.length <= 64 :=
 call_ways (P := fun R => R.1.length <= 64) k b key last m data (fun _ _ => aZY _) (fun _ _ _ => aZY _) (fun _ _ _ _ _ => aZY _) (fun _ _ _ _ _ => aZY _) (fun big _ _ _ n _ hn => by
  have h1 : bOf big <= 64 := by cases big <;> decide
  show (List.take n _).length <= 64
  rw [List.length_take];omega)
theorem LP.outs_le (P : LP) : ∀ k, (P.outs k).length <= 64 * k
 | 0 => aZC _
 | k + 1 => by
  have h1 := P.outs_le k;have h2 := callS_le (kOf P.big) (P.lane k).b (P.lane k).key (P.lane k).last (P.lane k).m (P.lane k).data
  show (P.outs k ++ ((P.lane k).out (kOf P.big)).1).length <= _
  rw [aZN];unfold CP.out;omega
theorem LP.call_lt (P : LP) {i : Nat} (h : i < lnOf P.big) : P.call i = P.lane i := if_pos h
theorem LP.call_root (P : LP) : P.call (lnOf P.big) = P.root := if_neg (Nat.lt_irrefl _)
theorem encTo_par (P : LP) (i : Nat) (s t : Sl) : ∀ k, encTo P.big (P.par i s t) k = encTo P.big (P.par i Sl.nil Sl.nil) k
 | 0 => rfl
 | k + 1 => by
  unfold encTo;rw [encTo_par P i s t k]
  rfl
theorem LP.blk_eq (P : LP) (i : Nat) (s t : Sl) : encL P.big (P.par i s t) P.ls P.lp = P.blk i := by
 unfold LP.blk encL;rw [encTo_par]
theorem LP.fit (P : LP) (i : Nat) (h : i <= lnOf P.big) (s t : Sl) : (P.par i s t).Fit := by
 have h8 := lnOf_pos P.big;refine ⟨⟨Int.le_refl _, by show (0 : Int) < _; decide⟩, ?_, ⟨Int.le_refl _, by show (0 : Int) < _; decide⟩⟩
 show 0 <= (if (i : Int) = _ then (0 : Int) else i) /\ (if (i : Int) = _ then (0 : Int) else i) < 18446744073709551616
 split <;> omega
theorem LP.chk_eq (P : LP) (i : Nat) (h : i <= lnOf P.big) (s t : Sl) (hs : P.ls.length = s.n) (ht : P.lp.length = t.n) : chk (kOf P.big) (P.par i s t) = P.err := by
 have h8 := lnOf_pos P.big;have e : ∀ j : Nat, j <= lnOf P.big -> ∀ s t : Sl, chk (kOf P.big) (P.par j s t) = if mostOf (kOf P.big) = 0 then 1 else if P.digest < 1 \/ mostOf (kOf P.big) < P.digest then 20 else if (P.key.length : Int) < 0 \/ mostOf (kOf P.big) < P.key.length then 8
   else if (lnOf P.big : Int) < 0 \/ 255 < (lnOf P.big : Int) then 21 else if (bOf P.big : Int) < 0 \/ mostOf (kOf P.big) < (bOf P.big : Int) then 26 else if mostOf (kOf P.big) < 4 * s.n then 27 else if mostOf (kOf P.big) < 4 * t.n then 28 else 0 := by
  intro j hj s t;unfold chk LP.par lanePar
  dsimp only
  have o1 : ¬ (((0 : Int) ≠ 0 /\ 4294967296 <= (if (j : Int) = (lnOf P.big : Int) then (0 : Int) else j)) \/ ((0 : Int) = 0 /\ kOf P.big = 2 /\ 281474976710656 <= (if (j : Int) = (lnOf P.big : Int) then (0 : Int) else j))) := by
   split <;> omega
  have o2 : ¬ ((2 : Int) < 0 \/ (255 : Int) < 2 \/ ((2 : Int) = 0 /\ (0 : Int) = 0)) := by omega
  have o3 : ¬ (kOf P.big = 2 /\ (65535 : Int) < 0) := by omega
  have o4 : ¬ ((if (j : Int) = (lnOf P.big : Int) then (1 : Int) else 0) < 0 \/ 255 < (if (j : Int) = (lnOf P.big : Int) then (1 : Int) else 0)) := by split <;> omega
  rw [if_neg o1, if_neg o2, if_neg o3, if_neg o4]
 unfold LP.err;rw [e i h, e (lnOf P.big) (aZC _), hs, ht]
structure CIn (w : World) (k : Int) (x : CC) (c : CP) : Prop where
  kd : x.k = k
  last : x.last = c.last
  m : x.m = c.m
  inn : CallIn w x.b x.key x.data c.b c.key c.data
def Sl.apart (s : Sl) (R : Option Nat) : Prop := 0 < s.n -> ∀ a, s.A = some a -> R ≠ some a.block
def CC.apart (x : CC) (R : Option Nat) : Prop := x.b.apart R /\ x.key.apart R /\ x.data.apart R
theorem RS.kept {α : Type} {cd : Cod α} {w w' : World} {A : Option Addr} {l : List α} {row : Option Nat} (h : RS cd w w.heap.size A l) (hg : w.grownBy w' row) (hne : 0 < l.length -> ∀ a, A = some a -> row ≠ some a.block) : RS cd w' w'.heap.size A l := by
 refine ⟨h.1, fun hn => ?_⟩;obtain ⟨ad, e, hb, hc⟩ := h.2 hn;refine ⟨ad, e, aZO hb hg.size, fun j u hu => ?_⟩;rw [<- hc j u hu];refine World.cell?_of_block ?_;rw [block_of_add];exact hg.block ad.block hb (fun e2 => hne hn ad e e2.symm)
theorem RS.lowC {α : Type} {cd : Cod α} {w : World} {B : Nat} {A : Option Addr} {l : List α} (h : RS cd w B A l) (hn : 0 < l.length) : ∀ a, A = some a -> a.block < B := by
 intro a ha;obtain ⟨ad, e, hb, -⟩ := h.2 hn;rw [ha] at e;rw [aZF e];exact hb
theorem CIn.below {w w' : World} {k : Int} {x : CC} {c : CP} (h : CIn w k x c) (hb : Below w.heap.size w w') : CIn w' k x c := ⟨h.kd, h.last, h.m, h.inn.below hb⟩
theorem CIn.kept {w w' : World} {k : Int} {x : CC} {c : CP} {row : Option Nat} (h : CIn w k x c) (hg : w.grownBy w' row) (hne : x.apart row) : CIn w' k x c :=
 ⟨h.kd, h.last, h.m, h.inn.bl, h.inn.bc, h.inn.br.kept hg (fun hn => hne.1 (by rw [<- h.inn.bl]; exact hn)), h.inn.kl, h.inn.kr.kept hg (fun hn => hne.2.1 (by rw [<- h.inn.kl]; exact hn)), h.inn.dl, h.inn.dc, h.inn.dr.kept hg (fun hn => hne.2.2 (by rw [<- h.inn.dl]; exact hn))⟩
theorem Sl.apart_new {w : World} {s : Sl} {l : List UInt8} (hr : RS cB w w.heap.size s.A l) (hl : l.length = s.n) : s.apart (some w.heap.size) := by
 intro hn a ha e;have h1 := hr.lowC (by rw [hl]; exact hn) a ha;have h2 : w.heap.size = a.block := aZF e;omega
theorem CIn.apart_new {w : World} {k : Int} {x : CC} {c : CP} (h : CIn w k x c) : x.apart (some w.heap.size) := ⟨Sl.apart_new h.inn.br h.inn.bl, Sl.apart_new h.inn.kr h.inn.kl, Sl.apart_new h.inn.dr h.inn.dl⟩
structure CRel (w : World) (H : Nat) (P : LP) (n m : Nat) (Al : Option Addr) (cl : Nat) (l : List CC) (Ao : Option Addr) (co : Nat) : Prop where
  row : CO w H Al cl l
  out : OS cB w H Ao co (P.outs m)
  len : l.length = n
  inn : ∀ (i : Nat) (x : CC), l[i]? = some x -> CIn w (kOf P.big) x (P.call i)
  far : ∀ (i : Nat) (x : CC), l[i]? = some x -> i < lnOf P.big -> x.apart (Al.map (·.block)) /\ x.apart (Ao.map (·.block))
section
variable {w w' : World} {H : Nat} {P : LP} {n m : Nat} {Al : Option Addr} {cl : Nat} {l : List CC} {Ao : Option Addr} {co : Nat}
theorem CRel.start (w : World) (H : Nat) (P : LP) : CRel w H P 0 0 none 0 [] none 0 := ⟨CO.nil w H, OS.nil w H 0 rfl, rfl, fun i x h => by simp at h, fun i x h => by simp at h⟩
theorem CRel.below (h : CRel w H P n m Al cl l Ao co) (hb : Below w.heap.size w w') : CRel w' H P n m Al cl l Ao co :=
 ⟨h.row.below hb, h.out.below hb (aZC _), h.len, fun i x hx => (h.inn i x hx).below hb, h.far⟩
theorem far_step {x : CC} {w : World} {k : Int} {c : CP} {A A' : Option Addr} (h : x.apart (A.map (·.block))) (hl : CIn w k x c) (hA : A'.map (·.block) = A.map (·.block) \/ A'.map (·.block) = some w.heap.size) : x.apart (A'.map (·.block)) := by
 rcases hA with e | e
 ·rw [e]; exact h
 ·rw [e]; exact hl.apart_new
theorem CRel.outs (h : CRel w H P n m Al cl l Ao co) (hn : n <= lnOf P.big) {A' : Option Addr} {c' : Nat} (ho : OS cB w' H A' c' (P.outs (m + 1))) (hg : w.grownBy w' (Ao.map (·.block))) (hA : A'.map (·.block) = Ao.map (·.block) \/ A'.map (·.block) = some w.heap.size) : CRel w' H P n (m + 1) Al cl l A' c' := by
 have hi : ∀ (i : Nat) (x : CC), l[i]? = some x -> i < lnOf P.big := fun i x hx => by have h1 := (List.getElem?_eq_some_iff.1 hx).1; have h2 := h.len; omega
 refine ⟨h.row.kept hg (fun a ha e => ?_), ho, h.len, fun i x hx => (h.inn i x hx).kept hg (h.far i x hx (hi i x hx)).2, fun i x hx hlt => ⟨(h.far i x hx hlt).1, far_step (h.far i x hx hlt).2 (h.inn i x hx) hA⟩⟩
 cases hAo : Ao with
 | none => rw [hAo] at e; cases e
 | some b =>
  rw [hAo] at e;exact h.row.ne_os h.out a b ha hAo (aZF e).symm
theorem CRel.snoc (h : CRel w H P n m Al cl l Ao co) (hn : n <= lnOf P.big) {y : CC} (hy : CIn w (kOf P.big) y (P.call n)) (hf1 : y.apart (Al.map (·.block))) (hf2 : n < lnOf P.big -> y.apart (Ao.map (·.block)))
  {A' : Option Addr} {c' : Nat} (ho : CO w' H A' c' (l ++ [y])) (hg : w.grownBy w' (Al.map (·.block))) (hA : A'.map (·.block) = Al.map (·.block) \/ A'.map (·.block) = some w.heap.size) : CRel w' H P (n + 1) m A' c' (l ++ [y]) Ao co := by
 have cs : ∀ (i : Nat) (x : CC), (l ++ [y])[i]? = some x -> (l[i]? = some x /\ i < lnOf P.big) \/ (i = n /\ x = y) := by
  intro i x hx;have hlt := (List.getElem?_eq_some_iff.1 hx).1;rw [aZN, h.len] at hlt
  by_cases hi : i < n
  ·rw [bZH (by rw [h.len]; exact hi)] at hx
   exact .inl ⟨hx, by omega⟩
  ·have e : i = n := by simp at hlt; omega
   subst e;rw [aZV (by rw [h.len]; omega), h.len, Nat.sub_self] at hx;exact .inr ⟨rfl, (aZF hx).symm⟩
 refine ⟨ho, h.out.kept hg (fun a ha e => ?_), by rw [aZN, h.len]; rfl, fun i x hx => ?_, fun i x hx hlt => ?_⟩
 ·cases hAl : Al with
  | none => rw [hAl] at e; cases e
  | some b =>
   rw [hAl] at e;exact h.row.ne_os h.out b a hAl ha (aZF e)
 ·rcases cs i x hx with ⟨h1, h2⟩ | ⟨rfl, rfl⟩
  ·exact (h.inn i x h1).kept hg (h.far i x h1 h2).1
  ·exact hy.kept hg hf1
 ·rcases cs i x hx with ⟨h1, h2⟩ | ⟨rfl, rfl⟩
  ·exact ⟨far_step (h.far i x h1 h2).1 (h.inn i x h1) hA, (h.far i x h1 h2).2⟩
  ·exact ⟨far_step hf1 hy hA, hf2 hlt⟩
end
attribute [local go_sem] pureUpon Ords.of
theorem apart_fresh {s : Sl} {R : Option Nat} {B : Nat} (h : ∀ a, s.A = some a -> B <= a.block) (hR : ∀ g, R = some g -> g < B) : s.apart R := fun _ a ha e => Nat.lt_irrefl _ (aZO (hR _ e) (h a ha))
theorem apart_old {s : Sl} {R : Option Nat} {B : Nat} {w : World} {l : List UInt8} (h : RS cB w B s.A l) (hl : l.length = s.n) (hR : ∀ g, R = some g -> B <= g) : s.apart R := fun hn a ha e => Nat.lt_irrefl _ (aZO (h.lowC (by rw [hl]; exact hn) a ha) (hR _ e))
theorem row_ge {α : Type} {cd : Cod α} {w : World} {H c : Nat} {A : Option Addr} {l : List α} (h : OS cd w H A c l) : ∀ g, A.map (·.block) = some g -> H <= g /\ g < w.heap.size := by
 intro g e
 cases hA : A with
 | none => rw [hA] at e; cases e
 | some a => rw [hA] at e; have := h.block_lt a hA; have e2 : a.block = g := aZF e; rw [<- e2]; exact this
theorem crow_ge {w : World} {H c : Nat} {A : Option Addr} {l : List CC} (h : CO w H A c l) : ∀ g, A.map (·.block) = some g -> H <= g /\ g < w.heap.size := by
 intro g e
 cases hA : A with
 | none => rw [hA] at e; cases e
 | some a => rw [hA] at e; have := h.block_lt a hA; have e2 : a.block = g := aZF e; rw [<- e2]; exact this
theorem callC_size (x : CC) : (Tryz.prog.info? 107).map (·.size) = some x.cs.size := by unfold CC.cs callV; kernel_rfl
theorem LP.blk_len (P : LP) (he : P.err = 0) (i : Nat) : (P.blk i).length = bOf P.big := by
 obtain ⟨-, -, -, -, -, -, h7, h8⟩ := chk_range he;exact encL_len P.big _ P.ls P.lp h7 h8
theorem bsz {H : Nat} {a b : World} (h : H = a.heap.size) (hb : Below H a b) : H <= b.heap.size := by rw [h]; exact hb.size
theorem below_appC {B base : Nat} {a w w' : World} {A : Option Addr} {c : Nat} {l : List CC} (h : Below B a w) (hown : CO w base A c l) (hg : w.grownBy w' (A.map (·.block))) (hB : B <= base) (hs : B <= w.heap.size) : Below B a w' := by
 refine h.grown hg hs (fun g e => ?_);exact Nat.le_trans hB (crow_ge hown g e).1
theorem num8 (k : Nat) : Value.int .i64 ((k : Int) + 1) = .int .i64 ((k + 1 : Nat) : Int) := rfl
theorem kindOf_of (big : Bool) (w : World) : Calls Tryz.prog 130 #[.int .i64 (kOf big)] w fun e w' => e = .returned (.tuple #[.agg (shC (lnOf big) (blOf big) (bOf big)), .bool true]) /\ Below w.heap.size w w' := by
 cases big with
 | true => exact of_big w
 | false => exact of_small w
structure LIn (w : World) (P : LP) (sk ss sp sd : Sl) : Prop where
  hk : P.key.length = sk.n
  hs : P.ls.length = ss.n
  hp : P.lp.length = sp.n
  hd : P.data.length = sd.n
  nk : sk.n <= 140737488351232
  ns : ss.n <= 140737488351232
  np : sp.n <= 140737488351232
  nd : sd.n <= 140737488351232
  dc : sd.n <= sd.c /\ sd.c <= 9223372036854775807
  rk : RS cB w w.heap.size sk.A P.key
  rs : RS cB w w.heap.size ss.A P.ls
  rp : RS cB w w.heap.size sp.A P.lp
  rd : RS cB w w.heap.size sd.A P.data
theorem lset_any (P : LP) (sk ss sp sd : Sl) (w : World) (h : LIn w P sk ss sp sd) :
  Calls Tryz.prog 111 #[.int .i64 (kOf P.big), .int .i64 P.digest, .slice sk.A sk.n sk.c, .slice ss.A ss.n ss.c, .slice sp.A sp.n sp.c] w fun e w' => ∃ a b c : Sl, e = .returned (.tuple #[.agg (setC (lnOf P.big) (blOf P.big) (bOf P.big) (kOf P.big) P.digest a b c), .int .i64 P.err]) /\ a.n = sk.n /\ b.n = ss.n /\ c.n = sp.n /\ OS cB w' w.heap.size a.A a.c P.key /\ OS cB w' w.heap.size b.A b.c P.ls /\ OS cB w' w.heap.size c.A c.c P.lp /\ Below w.heap.size w w' := by
 have h8 := lnOf_pos P.big;refine (set_kind (kOf P.big) (lnOf P.big) (blOf P.big) (bOf P.big) P.digest sk ss sp P.key P.ls P.lp (by omega) (by omega) (zH (kindOf_of P.big)) w h.hk h.hs h.hp h.nk h.ns h.np h.rk h.rs h.rp).mono ?_;rintro e w' ⟨a, b, c, rfl, ha, hb, hc, r⟩;refine ⟨a, b, c, ?_, ha, hb, hc, r⟩;rw [<- P.chk_eq (lnOf P.big) (aZC _) b c (by rw [h.hs, hb]) (by rw [h.hp, hc])];unfold LP.par;rw [h.hk]
end Go.Proofs.YtmapfcdffklopaaGreat

/-
  LaneHashers, the law. Contracts alone; no statement is claimed here.
-/
import Derived.Test.YtghpofnaojbbkaaGreatLHsh
import Derived.Test.YtghpofnaojbbkaaGreatSpoN
namespace Go.Proofs.YtghpofnaojbbkaaGreat
open Go.RowKit
attribute [local go_sem] pureUpon Ords.of

def Oth (w : World) (P : LP) (d : Nat) (v : Value) (M : List UInt8) (D Wr : List Nat) : Prop :=
  (v = .pointer none ∧ D = [] ∧ Wr = []) ∨ ∃ g, v = .pointer (some ⟨g, 0, none⟩) ∧ HX w P d g M D Wr
theorem Oth.but {w w' : World} {P : LP} {d : Nat} {v : Value} {M : List UInt8} {D Wr G : List Nat} (h : Oth w P d v M D Wr) (hb : But G w w') (hD : ∀ k, k ∈ D → k ∉ G) (hW : ∀ k, k ∈ Wr → k ∉ G) : Oth w' P d v M D Wr := by
 rcases h with h | ⟨g, h1, h2⟩
 ·exact .inl h
 ·exact .inr ⟨g, h1, h2.but hb hD hW⟩
theorem Oth.below {w w' : World} {P : LP} {d : Nat} {v : Value} {M : List UInt8} {D Wr : List Nat} (h : Oth w P d v M D Wr) (hb : Below w.heap.size w w') : Oth w' P d v M D Wr := h.but (But.of hb []) (fun _ _ h => by cases h) (fun _ _ h => by cases h)
theorem Oth.lt {w : World} {P : LP} {d : Nat} {v : Value} {M : List UInt8} {D Wr : List Nat} (h : Oth w P d v M D Wr) : (∀ k, k ∈ D → k < w.heap.size) ∧ ∀ k, k ∈ Wr → k < w.heap.size := by
 rcases h with ⟨-, rfl, rfl⟩ | ⟨g, h1, h2⟩
 ·exact ⟨fun _ h => by simp at h, fun _ h => by simp at h⟩
 ·exact ⟨h2.ltD, h2.ltW⟩
structure Lst (w : World) (M : List UInt8) (A : Option Addr) (c : Nat) (V : List Nat) : Prop where
  rs : RS cB w w.heap.size A M
  cap : M.length ≤ c ∧ c ≤ 9223372036854775807
  far : M ≠ [] → ∀ x, A = some x → x.block ∉ V
theorem Lst.but {w w' : World} {M : List UInt8} {A : Option Addr} {c : Nat} {V G : List Nat} (h : Lst w M A c V) (hb : But G w w') (hG : M ≠ [] → ∀ x, A = some x → x.block ∉ G) : Lst w' M A c V :=
 ⟨by
  by_cases h0 : M = []
  ·rw [h0]; exact RS.nil _
  ·exact (h.rs.but (Nat.le_refl _) hb (hG h0)).more hb.size, h.cap, h.far⟩
theorem Lst.lt {w : World} {M : List UInt8} {A : Option Addr} {c : Nat} {V : List Nat} (h : Lst w M A c V) (h0 : M ≠ []) : ∀ x, A = some x → x.block < w.heap.size := fun x hx => h.rs.low h0 x hx
structure Two (w wr : World) (gP : Nat) (pc : Array Value) (P : LP) (d n : Nat) (g : Nat) (o : Value) (N M M2 : List UInt8) (A A2 : Option Addr) (c c2 : Nat) (D Wr D2 Wr2 : List Nat) : Prop where
  one : HX wr P d g N D Wr
  two : Oth wr P d o M2 D2 Wr2
  l1 : Lst wr M A c (Wr ++ Wr2)
  l2 : Lst wr M2 A2 c2 (Wr ++ Wr2)
  f1 : ∀ k, k ∈ D → k ∉ Wr2
  f2 : ∀ k, k ∈ D2 → k ∉ Wr
  f3 : ∀ k, k ∈ Wr → k ∉ Wr2
  low : ∀ k, k ∈ Wr ∨ k ∈ Wr2 → gP < k
  n1 : M.length ≤ n
  n2 : M2.length ≤ n
  blk : Blk wr gP 24 pc
  gp : w.heap.size ≤ gP
  bel : Below w.heap.size w wr
section
variable {w wr w' : World} {gP : Nat} {pc : Array Value} {P : LP} {d n g : Nat} {o : Value} {N M M2 : List UInt8} {A A2 : Option Addr} {c c2 : Nat} {D Wr D2 Wr2 G : List Nat}
theorem Two.but (h : Two w wr gP pc P d n g o N M M2 A A2 c c2 D Wr D2 Wr2) (hb : But G wr w') (hG : ∀ k, k ∈ G → wr.heap.size ≤ k) : Two w w' gP pc P d n g o N M M2 A A2 c c2 D Wr D2 Wr2 := by
 have nin : ∀ {k}, k < wr.heap.size → k ∉ G := fun h1 h2 => Nat.lt_irrefl _ (Nat.lt_of_lt_of_le h1 (hG _ h2))
 exact ⟨h.one.but hb (fun k hk => nin (h.one.ltD k hk)) (fun k hk => nin (h.one.ltW k hk)), h.two.but hb (fun k hk => nin (h.two.lt.1 k hk)) (fun k hk => nin (h.two.lt.2 k hk)), h.l1.but hb (fun h0 x hx => nin (h.l1.lt h0 x hx)), h.l2.but hb (fun h0 x hx => nin (h.l2.lt h0 x hx)), h.f1, h.f2, h.f3, h.low, h.n1, h.n2, h.blk.but hb (nin h.blk.lt), h.gp, h.bel.trans (hb.toBelow h.bel.size (fun k hk => Nat.le_trans h.bel.size (hG k hk)))⟩
theorem Two.below (h : Two w wr gP pc P d n g o N M M2 A A2 c c2 D Wr D2 Wr2) (hb : Below wr.heap.size wr w') : Two w w' gP pc P d n g o N M M2 A A2 c c2 D Wr D2 Wr2 := h.but (But.of hb []) (fun _ h => by cases h)
theorem Two.drewN (h : Two w wr gP pc P d n g o N M M2 A A2 c c2 D Wr D2 Wr2) (k : Nat) : Two w (wr.drewN k) gP pc P d n g o N M M2 A A2 c c2 D Wr D2 Wr2 := h.below (bdr (b0 wr) k)
theorem Two.more (h : Two w wr gP pc P d n g o N M M2 A A2 c c2 D Wr D2 Wr2) {m : Nat} (hm : n ≤ m) : Two w wr gP pc P d m g o N M M2 A A2 c c2 D Wr D2 Wr2 := ⟨h.one, h.two, h.l1, h.l2, h.f1, h.f2, h.f3, h.low, Nat.le_trans h.n1 hm, Nat.le_trans h.n2 hm, h.blk, h.gp, h.bel⟩
theorem Two.step (h : Two w wr gP pc P d n g o N M M2 A A2 c c2 D Wr D2 Wr2) {N' : List UInt8} {D' Wr' : List Nat} (hx : HX w' P d g N' D' Wr') (hD : ∀ k, k ∈ D' → k ∈ D ∨ wr.heap.size ≤ k) (hW : ∀ k, k ∈ Wr' → k ∈ Wr ∨ wr.heap.size ≤ k) (hb : But Wr wr w') :
  Two w w' gP pc P d n g o N' M M2 A A2 c c2 D' Wr' D2 Wr2 := by
 have nw : ∀ {k}, k < wr.heap.size → k ∉ Wr → k ∉ Wr' := fun h1 h2 h3 => by
  rcases hW _ h3 with h4 | h4
  ·exact h2 h4
  ·omega
 have hgl := h.blk.lt
 have hls : ∀ {L : List UInt8} {B : Option Addr} {q : Nat}, Lst wr L B q (Wr ++ Wr2) → Lst w' L B q (Wr' ++ Wr2) := fun hl => by
  have h2 := hl.but hb (fun h0 x hx hk => hl.far h0 x hx (List.mem_append.2 (.inl hk)))
  exact ⟨h2.rs, h2.cap, fun h0 x hx hk => by
   have h3 := hl.far h0 x hx
   rcases List.mem_append.1 hk with hk | hk
   ·exact nw (hl.lt h0 x hx) (fun h4 => h3 (List.mem_append.2 (.inl h4))) hk
   ·exact h3 (List.mem_append.2 (.inr hk))⟩
 refine ⟨hx, h.two.but hb (fun k hk => h.f2 k hk) (fun k hk hk2 => h.f3 k hk2 hk), hls h.l1, hls h.l2, fun k hk hk2 => ?_, fun k hk => nw (h.two.lt.1 k hk) (h.f2 k hk), fun k hk hk2 => ?_, fun k hk => ?_, h.n1, h.n2, h.blk.but hb (fun hk => Nat.lt_irrefl _ (h.low _ (.inl hk))), h.gp, ?_⟩
 ·rcases hD k hk with h1 | h1
  ·exact h.f1 k h1 hk2
  ·have := h.two.lt.2 k hk2; omega
 ·rcases hW k hk with h1 | h1
  ·exact h.f3 k h1 hk2
  ·have := h.two.lt.2 k hk2; omega
 ·rcases hk with hk | hk
  ·rcases hW k hk with h1 | h1
   ·exact h.low k (.inl h1)
   ·omega
  ·exact h.low k (.inr hk)
 ·exact h.bel.trans (hb.toBelow h.bel.size (fun k hk => by have h1 := h.low k (.inl hk); have h2 := h.gp; omega))
theorem Two.list (h : Two w wr gP pc P d n g o N M M2 A A2 c c2 D Wr D2 Wr2) {M' : List UInt8} {A' : Option Addr} {c' m : Nat} (hl : Lst wr M' A' c' (Wr ++ Wr2)) (hm : M'.length ≤ m) (hnm : n ≤ m) : Two w wr gP pc P d m g o N M' M2 A' A2 c' c2 D Wr D2 Wr2 :=
 ⟨h.one, h.two, hl, h.l2, h.f1, h.f2, h.f3, h.low, hm, Nat.le_trans h.n2 hnm, h.blk, h.gp, h.bel⟩
theorem Two.fresh (h : Two w wr gP pc P d n g o N M M2 A A2 c c2 D Wr D2 Wr2) {k : Nat} (hk : wr.heap.size ≤ k) : k ∉ Wr ∧ k ∉ Wr2 ∧ k ∉ D ∧ k ∉ D2 :=
 ⟨fun hm => by have := h.one.ltW k hm; omega, fun hm => by have := h.two.lt.2 k hm; omega, fun hm => by have := h.one.ltD k hm; omega, fun hm => by have := h.two.lt.1 k hm; omega⟩
theorem Two.row (h : Two w wr gP pc P d n g o N M M2 A A2 c c2 D Wr D2 Wr2) (hb : But G wr w') (hG : ∀ k, k ∈ G → k ∉ Wr ∧ k ∉ Wr2 ∧ k ∉ D ∧ k ∉ D2 ∧ gP < k ∧ (M ≠ [] → ∀ x, A = some x → x.block ≠ k) ∧ (M2 ≠ [] → ∀ x, A2 = some x → x.block ≠ k)) : Two w w' gP pc P d n g o N M M2 A A2 c c2 D Wr D2 Wr2 :=
 ⟨h.one.but hb (fun k hk hk2 => (hG k hk2).2.2.1 hk) (fun k hk hk2 => (hG k hk2).1 hk), h.two.but hb (fun k hk hk2 => (hG k hk2).2.2.2.1 hk) (fun k hk hk2 => (hG k hk2).2.1 hk), h.l1.but hb (fun h0 x hx hk => (hG _ hk).2.2.2.2.2.1 h0 x hx rfl), h.l2.but hb (fun h0 x hx hk => (hG _ hk).2.2.2.2.2.2 h0 x hx rfl), h.f1, h.f2, h.f3, h.low, h.n1, h.n2, h.blk.but hb (fun hk => Nat.lt_irrefl _ (hG _ hk).2.2.2.2.1), h.gp, h.bel.trans (hb.toBelow h.bel.size (fun k hk => by have h1 := (hG k hk).2.2.2.2.1; have h2 := h.gp; omega))⟩
theorem Two.newrow (h : Two w wr gP pc P d n g o N M M2 A A2 c c2 D Wr D2 Wr2) {k : Nat} (hk : wr.heap.size ≤ k) : k ∉ Wr ∧ k ∉ Wr2 ∧ k ∉ D ∧ k ∉ D2 ∧ gP < k ∧ (M ≠ [] → ∀ x, A = some x → x.block ≠ k) ∧ (M2 ≠ [] → ∀ x, A2 = some x → x.block ≠ k) := by
 obtain ⟨h1, h2, h3, h4⟩ := h.fresh hk
 exact ⟨h1, h2, h3, h4, Nat.lt_of_lt_of_le h.blk.lt hk, fun h0 x hx => Nat.ne_of_lt (Nat.lt_of_lt_of_le (h.l1.lt h0 x hx) hk), fun h0 x hx => Nat.ne_of_lt (Nat.lt_of_lt_of_le (h.l2.lt h0 x hx) hk)⟩
theorem Two.fork (h : Two w wr gP pc P d n g o M M M2 A A2 c c2 D Wr D2 Wr2) {q : Nat} {D' Wr' : List Nat} (hx : HX w' P d q M D' Wr') (hD : ∀ k, k ∈ D' → k ∈ D ∨ wr.heap.size ≤ k) (hW : ∀ k, k ∈ Wr' → wr.heap.size ≤ k) (hb : Below wr.heap.size wr w') :
  Two w w' gP pc P d n g (.pointer (some ⟨q, 0, none⟩)) M M M A A c c D Wr D' Wr' := by
 have h2 := h.below hb
 have hgl := h.blk.lt
 have hl : Lst w' M A c (Wr ++ Wr') := ⟨h2.l1.rs, h2.l1.cap, fun h0 x hx hk => by
  rcases List.mem_append.1 hk with hk | hk
  ·exact h.l1.far h0 x hx (List.mem_append.2 (.inl hk))
  ·have := hW _ hk; have := h.l1.lt h0 x hx; omega⟩
 refine ⟨h2.one, .inr ⟨q, rfl, hx⟩, hl, hl, fun k hk hk2 => ?_, fun k hk hk2 => ?_, fun k hk hk2 => ?_, fun k hk => ?_, h.n1, h.n1, h2.blk, h.gp, h2.bel⟩
 ·have := hW k hk2; have := h.one.ltD k hk; omega
 ·rcases hD k hk with h1 | h1
  ·exact h.one.apart k h1 hk2
  ·have := h.one.ltW k hk2; omega
 ·have := hW k hk2; have := h.one.ltW k hk; omega
 ·rcases hk with hk | hk
  ·exact h.low k (.inl hk)
  ·have := hW k hk; omega
theorem Two.swap {q : Nat} (h : Two w wr gP pc P d n g (.pointer (some ⟨q, 0, none⟩)) M M M2 A A2 c c2 D Wr D2 Wr2) : Two w wr gP pc P d n q (.pointer (some ⟨g, 0, none⟩)) M2 M2 M A2 A c2 c D2 Wr2 D Wr := by
 have hq : HX wr P d q M2 D2 Wr2 := by
  rcases h.two with ⟨h1, -⟩ | ⟨g', h1, h2⟩
  ·cases h1
  ·injection h1 with h1; injection h1 with h1; injection h1 with h1
   subst h1; exact h2
 have sw : ∀ {k}, k ∈ Wr2 ++ Wr → k ∈ Wr ++ Wr2 := fun hk => List.mem_append.2 ((List.mem_append.1 hk).symm)
 exact ⟨hq, .inr ⟨g, rfl, h.one⟩, ⟨h.l2.rs, h.l2.cap, fun h0 x hx hk => h.l2.far h0 x hx (sw hk)⟩, ⟨h.l1.rs, h.l1.cap, fun h0 x hx hk => h.l1.far h0 x hx (sw hk)⟩, h.f2, h.f1, fun k hk hk2 => h.f3 k hk2 hk, fun k hk => h.low k hk.symm, h.n2, h.n1, h.blk, h.gp, h.bel⟩
end
theorem numH (k : Nat) : Value.int .i64 ((k : Int) + 1) = .int .i64 ((k + 1 : Nat) : Int) := rfl
theorem measHs (n k : Nat) (h : k < n) : n - (intOf (.int .i64 ((k : Int) + 1))).toNat < n - (intOf (.int .i64 (k : Int))).toNat := by simp [intOf]; omega
theorem SlIn.linM {W : World} {a b c e : Sl} {la lb lc le_ : List UInt8} (ha : SlIn W a la) (hb : SlIn W b lb) (hc : SlIn W c lc) (big : Bool) (dg : Int) (h1 : le_.length = e.n) (h2 : e.n ≤ 140737488351232) (h3 : e.n ≤ e.c ∧ e.c ≤ 9223372036854775807) (h4 : RS cB W W.heap.size e.A le_) : LIn W ⟨big, dg, la, lb, lc, le_⟩ a b c e :=
 ⟨ha.len, hb.len, hc.len, h1, by have := ha.cap; omega, by have := hb.cap; omega, by have := hc.cap; omega, h2, h3, ha.reads, hb.reads, hc.reads, h4⟩
theorem digOf_eq (big : Bool) (dg : Int) (d : Nat) (hd : dg = d) (la lb lc M : List UInt8) : (LP.mk big dg la lb lc M).dig = digOf ⟨big, dg, la, lb, lc, []⟩ d M := by
 have h : dg.toNat = d := by rw [hd]; rfl
 show List.take dg.toNat _ = List.take d _
 rw [h]
 rfl
theorem but_row {w w' : World} {A : Option Addr} (h : w.grownBy w' (A.map (·.block))) : But (obl A) w w' := But.grown h (fun k hk => .inl (mem_obl.2 (by
 cases A with
 | none => cases hk
 | some x => exact ⟨x, rfl, Option.some.inj hk⟩)))
set_option maxRecDepth 20000 in
set_option maxHeartbeats 4000000 in
theorem laneHashers_no (k dg E : Int) (a b c e : Sl) (la lb lc : List UInt8) (S : Value) (w : World) (ha : SlIn w a la) (hb : SlIn w b lb) (hc : SlIn w c lc)
  (h1 : ∀ (u : World) (a' b' c' : Sl), (∀ big dg, LIn u ⟨big, dg, la, lb, lc, []⟩ a' b' c' ⟨none, 0, 0⟩) → Calls Tryz.prog 5 #[.int .i64 k, .int .i64 dg, .slice a'.A a'.n a'.c, .slice b'.A b'.n b'.c, .slice c'.A c'.n c'.c] u fun r w' => r = .returned (.tuple #[.pointer none, .int .i64 E]) ∧ Below u.heap.size u w')
  (h2 : ∀ (u : World), (∀ big dg, LIn u ⟨big, dg, la, lb, lc, []⟩ a b c ⟨none, 0, 0⟩) → Calls Tryz.prog 6 #[.int .i64 k, .int .i64 dg, .slice a.A a.n a.c, .slice b.A b.n b.c, .slice c.A c.n c.c, .slice none 0 0] u fun r w' => r = .returned (.tuple #[.slice none 0 0, .int .i64 E]) ∧ Below u.heap.size u w')
  (hE : E ≠ 0) :
  Calls Tryz.prog 3 #[.agg (planC k dg a b c e), S] w fun r w' => r = .returned (.bool true) ∧ Below w.heap.size w w' := by
 have hcp := fun (y : Sl) (l : List UInt8) W (h : SlIn W y l) => copied08_any y.A y.c y.n l W h.len (by have := h.cap; omega) h.reads
 have t1 : (E != 0) = true := by simpa using hE
 have t2 : (E != E) = false := by simp
 have HCP := Lib.hid hcp; have H1 := Lib.hid h1; have H2 := Lib.hid h2; have HA := Lib.hid ha; have HBB := Lib.hid hb; have HC := Lib.hid hc
 clear hcp h1 h2 ha hb hc hE
 go_enter Tryz.func3, Tryz.ntmps3
 go_upto_region 1 with fail
 have HBK := Lib.hid (Blk.new w 24 (planC k dg a b c e))
 have HB := Lib.hid (bal (b0 w) (.cells (planC k dg a b c e) 24))
 obtain ⟨g, hg⟩ : ∃ g, g = w.heap.size := ⟨_, rfl⟩
 rw [← hg] at HBK ⊢
 have HG := Lib.hid hg
 clear hg
 generalize w.alloc (.cells (planC k dg a b c e) 24) = u at *
 have q0 : u.cell? ⟨g, 0, none⟩ = some (.int .i64 k) := HBK.out.cell 0; have q1 : u.cell? ⟨g, 1, none⟩ = some (.int .i64 dg) := HBK.out.cell 1; have q2 : u.cell? ⟨g, 2, none⟩ = some (.slice a.A a.n a.c) := HBK.out.cell 2; have q3 : u.cell? ⟨g, 3, none⟩ = some (.slice b.A b.n b.c) := HBK.out.cell 3; have q4 : u.cell? ⟨g, 4, none⟩ = some (.slice c.A c.n c.c) := HBK.out.cell 4
 go_wp2_with fail
 refine (HCP.out a la u (HA.out.below HB.out)).mono ?_
 rintro e1 u1 ⟨A1, c1, rfl, ho1, hb1⟩
 have HL1 := Lib.hid (fun x (hx : A1 = some x) => (ho1.block_lt x hx).2)
 have HO1 := Lib.hid (ho1.mono (show g + 1 ≤ _ from HBK.out.lt))
 obtain ⟨u, hu⟩ : ∃ u, u = u1 := ⟨_, rfl⟩
 subst hu
 clear q0 q1 q2 q3 q4
 replace HB := Lib.hid (bcall HB.out hb1); replace HBK := Lib.hid (HBK.out.below hb1 HBK.out.lt)
 have q0 : u.cell? ⟨g, 0, none⟩ = some (.int .i64 k) := HBK.out.cell 0; have q1 : u.cell? ⟨g, 1, none⟩ = some (.int .i64 dg) := HBK.out.cell 1; have q2 : u.cell? ⟨g, 2, none⟩ = some (.slice a.A a.n a.c) := HBK.out.cell 2; have q3 : u.cell? ⟨g, 3, none⟩ = some (.slice b.A b.n b.c) := HBK.out.cell 3; have q4 : u.cell? ⟨g, 4, none⟩ = some (.slice c.A c.n c.c) := HBK.out.cell 4
 clear hb1 ho1
 go_wp2_with fail
 refine (HCP.out b lb u (HBB.out.below HB.out)).mono ?_
 rintro e2 u2 ⟨A2, c2, rfl, ho2, hb2⟩
 have HL2 := Lib.hid (fun x (hx : A2 = some x) => (ho2.block_lt x hx).2)
 have HD12 := Lib.hid (fun x y (hx : A1 = some x) (hy : A2 = some y) => Nat.ne_of_lt (Nat.lt_of_lt_of_le (HL1.out x hx) (ho2.block_lt y hy).1))
 have HO2 := Lib.hid (ho2.mono (show g + 1 ≤ _ from HBK.out.lt))
 replace HO1 := Lib.hid (HO1.out.below hb2 (Nat.le_refl _)); replace HL1 := Lib.hid (fun x (hx : A1 = some x) => Nat.lt_of_lt_of_le (HL1.out x hx) hb2.size)
 obtain ⟨u, hu⟩ : ∃ u, u = u2 := ⟨_, rfl⟩
 subst hu
 clear q0 q1 q2 q3 q4
 replace HB := Lib.hid (bcall HB.out hb2); replace HBK := Lib.hid (HBK.out.below hb2 HBK.out.lt)
 have q0 : u.cell? ⟨g, 0, none⟩ = some (.int .i64 k) := HBK.out.cell 0; have q1 : u.cell? ⟨g, 1, none⟩ = some (.int .i64 dg) := HBK.out.cell 1; have q2 : u.cell? ⟨g, 2, none⟩ = some (.slice a.A a.n a.c) := HBK.out.cell 2; have q3 : u.cell? ⟨g, 3, none⟩ = some (.slice b.A b.n b.c) := HBK.out.cell 3; have q4 : u.cell? ⟨g, 4, none⟩ = some (.slice c.A c.n c.c) := HBK.out.cell 4
 clear hb2 ho2
 go_wp2_with fail
 refine (HCP.out c lc u (HC.out.below HB.out)).mono ?_
 rintro e3 u3 ⟨A3, c3, rfl, ho3, hb3⟩
 have HD13 := Lib.hid (fun x y (hx : A1 = some x) (hy : A3 = some y) => Nat.ne_of_lt (Nat.lt_of_lt_of_le (HL1.out x hx) (ho3.block_lt y hy).1))
 have HD23 := Lib.hid (fun x y (hx : A2 = some x) (hy : A3 = some y) => Nat.ne_of_lt (Nat.lt_of_lt_of_le (HL2.out x hx) (ho3.block_lt y hy).1))
 have HO3 := Lib.hid (ho3.mono (show g + 1 ≤ _ from HBK.out.lt))
 replace HO1 := Lib.hid (HO1.out.below hb3 (Nat.le_refl _)); replace HO2 := Lib.hid (HO2.out.below hb3 (Nat.le_refl _))
 obtain ⟨u, hu⟩ : ∃ u, u = u3 := ⟨_, rfl⟩
 subst hu
 clear q0 q1 q2 q3 q4
 replace HB := Lib.hid (bcall HB.out hb3); replace HBK := Lib.hid (HBK.out.below hb3 HBK.out.lt)
 have q0 : u.cell? ⟨g, 0, none⟩ = some (.int .i64 k) := HBK.out.cell 0; have q1 : u.cell? ⟨g, 1, none⟩ = some (.int .i64 dg) := HBK.out.cell 1; have q2 : u.cell? ⟨g, 2, none⟩ = some (.slice a.A a.n a.c) := HBK.out.cell 2; have q3 : u.cell? ⟨g, 3, none⟩ = some (.slice b.A b.n b.c) := HBK.out.cell 3; have q4 : u.cell? ⟨g, 4, none⟩ = some (.slice c.A c.n c.c) := HBK.out.cell 4
 clear hb3 ho3 HL1 HL2
 go_wp2_with fail
 have hlin : ∀ big dg, LIn u ⟨big, dg, la, lb, lc, []⟩ ⟨A1, a.n, c1⟩ ⟨A2, b.n, c2⟩ ⟨A3, c.n, c3⟩ ⟨none, 0, 0⟩ := fun big dg =>
  ⟨HA.out.len, HBB.out.len, HC.out.len, rfl, by have := HA.out.cap; show a.n ≤ _; omega, by have := HBB.out.cap; show b.n ≤ _; omega, by have := HC.out.cap; show c.n ≤ _; omega, Nat.zero_le _, ⟨Nat.le_refl _, Nat.zero_le _⟩, HO1.out.reads, HO2.out.reads, HO3.out.reads, RS.nil _⟩
 have HLN := Lib.hid hlin
 clear hlin
 refine (H1.out u ⟨A1, a.n, c1⟩ ⟨A2, b.n, c2⟩ ⟨A3, c.n, c3⟩ HLN.out).mono ?_
 rintro e5 u5 ⟨rfl, hb5⟩
 obtain ⟨u, hu⟩ : ∃ u, u = u5 := ⟨_, rfl⟩
 subst hu
 clear q0 q1 q2 q3 q4
 replace HB := Lib.hid (bcall HB.out hb5); replace HBK := Lib.hid (HBK.out.below hb5 HBK.out.lt)
 have q0 : u.cell? ⟨g, 0, none⟩ = some (.int .i64 k) := HBK.out.cell 0; have q1 : u.cell? ⟨g, 1, none⟩ = some (.int .i64 dg) := HBK.out.cell 1; have q2 : u.cell? ⟨g, 2, none⟩ = some (.slice a.A a.n a.c) := HBK.out.cell 2; have q3 : u.cell? ⟨g, 3, none⟩ = some (.slice b.A b.n b.c) := HBK.out.cell 3; have q4 : u.cell? ⟨g, 4, none⟩ = some (.slice c.A c.n c.c) := HBK.out.cell 4
 clear hb5 HLN
 go_wp2_with fail
 refine (H2.out u (fun big dg => (HA.out.below HB.out).linM (HBB.out.below HB.out) (HC.out.below HB.out) big dg rfl (Nat.zero_le _) ⟨Nat.le_refl _, Nat.zero_le _⟩ (RS.nil _))).mono ?_
 rintro e6 u6 ⟨rfl, hb6⟩
 clear q0 q1 q2 q3 q4
 replace HB := Lib.hid (bcall HB.out hb6); replace HBK := Lib.hid (HBK.out.below hb6 HBK.out.lt)
 clear hb6
 go_wp2_with fail
 exact bodyPost_ret (results_tmp rfl _ _ _) rfl ⟨by simp, HB.out⟩
theorem Scr.at_ {W : World} {sa : Addr} {os : List OpV} (h : Scr W (some sa) os) {i : Nat} {o : OpV} (ho : os[i]? = some o) : sa.block < W.heap.size ∧ W.cell? (sa.add (i * 2)) = some (.int .i64 o.what) ∧ W.cell? (sa.add (i * 2 + 1)) = some (.slice o.s.A o.s.n o.s.c) ∧ SlIn W o.s o.l := by
 obtain ⟨a, h1, h2⟩ := h i o ho
 injection h1 with h1
 subst h1
 exact h2
set_option maxRecDepth 20000 in
set_option maxHeartbeats 8000000 in
theorem laneHashers_ok (k : Int) (big : Bool) (hk : k = kOf big) (dg : Int) (a b c e : Sl) (la lb lc : List UInt8) (As : Option Addr) (ns cs : Nat) (os : List OpV) (w : World) (ha : SlIn w a la) (hb : SlIn w b lb) (hc : SlIn w c lc) (hn : os.length = ns) (hns : ns ≤ 1048576) (hnc : ns ≤ cs) (htot : opsW os ≤ 1048576) (hscr : Scr w As os) (hok : (LP.mk big dg la lb lc []).err = 0) :
  Calls Tryz.prog 3 #[.agg (planC k dg a b c e), .slice As ns cs] w fun r w' => r = .returned (.bool true) ∧ Below w.heap.size w w' := by
 obtain ⟨d, hd, hd1, hd2⟩ := LP.err_dig hok
 have hd0 : dg = d := hd
 have hd64 : d ≤ 64 := by have := bOf_le big; have h : d ≤ bOf big := hd2; omega
 obtain ⟨P, hP⟩ : ∃ P : LP, P = ⟨big, dg, la, lb, lc, []⟩ := ⟨_, rfl⟩
 have hPb : P.big = big := by rw [hP]
 have hcp := fun (y : Sl) (l : List UInt8) W (h : SlIn W y l) => copied08_any y.A y.c y.n l W h.len (by have := h.cap; omega) h.reads
 have hnw := fun (u : World) (a' b' c' : Sl) (h : LIn u ⟨big, dg, la, lb, lc, []⟩ a' b' c' ⟨none, 0, 0⟩) => newX_any ⟨big, dg, la, lb, lc, []⟩ hok d hd a' b' c' ⟨none, 0, 0⟩ u h
 have hdl : ∀ M, (digOf P d M).length = d := fun M => by
  have h := LP.dig_len ⟨big, dg, la, lb, lc, M⟩ hok
  rw [digOf_eq big dg d hd0, ← hP] at h
  exact Int.ofNat.inj (h.trans hd)
 have hrd := fun (u : World) (M : List UInt8) (sd : Sl) (h : LIn u ⟨big, dg, la, lb, lc, M⟩ a b c sd) => refDigest_any ⟨big, dg, la, lb, lc, M⟩ hok a b c sd u h
 dsimp only at hnw hrd
 rw [← hP] at hnw
 rw [← hk] at hnw hrd
 have hrd2 : ∀ (u : World) (M : List UInt8) (sd : Sl), LIn u ⟨big, dg, la, lb, lc, M⟩ a b c sd → Calls Tryz.prog 6 #[.int .i64 k, .int .i64 dg, .slice a.A a.n a.c, .slice b.A b.n b.c, .slice c.A c.n c.c, .slice sd.A sd.n sd.c] u (fun r w' => ∃ A c cc, r = .returned (.tuple #[.slice A d cc, .int .i64 0]) ∧ d ≤ cc ∧ OS cB w' u.heap.size A c (digOf P d M) ∧ Below u.heap.size u w') := fun u M sd h =>
  (hrd u M sd h).mono fun _ _ ⟨A, n, c, cc, q1, q2, q3, q4, q5⟩ => by
   rw [digOf_eq big dg d hd0, ← hP] at q2 q4
   rw [hdl] at q2
   subst q2
   exact ⟨A, c, cc, q1, q3, q4, q5⟩
 have HLP := Lib.hid (fun (u : World) (a' b' c' sd : Sl) (h : LIn u ⟨big, dg, la, lb, lc, []⟩ a' b' c' sd) => (show LIn u P a' b' c' sd by rw [hP]; exact h))
 have hPe : P.err = 0 := by rw [hP]; exact hok
 have hPd : P.digest = d := by rw [hP]; exact hd0
 have hwr := fun (g : Nat) (M L : List UInt8) (D Wr : List Nat) (Ab : Option Addr) (nb cb : Nat) (u : World) h1 h2 h3 h4 h5 h6 => writeX_any P d g M L D Wr Ab nb cb u h1 h2 h3 h4 h5 h6
 have hsm := fun (g : Nat) (M : List UInt8) (D Wr : List Nat) (u : World) h1 => sumX_any P hPe d hPd g M D Wr u h1
 have hre := fun (g : Nat) (M : List UInt8) (D Wr : List Nat) (u : World) h1 => resetX_any P hPe d hPd g M D Wr u h1
 have hfk := fun (g : Nat) (M : List UInt8) (D Wr : List Nat) (u : World) h1 => forkX_any P d g M D Wr u h1
 have htk := fun (g : Nat) (M : List UInt8) (D Wr : List Nat) (u : World) h1 => takenX_any P d g M D Wr u h1
 have hrt := fun (t : Nat) (ht : t < 18446744073709551616) (u : World) => refTaken_any big t ht u
 rw [← hk] at hrt
 rw [hPb] at htk
 have hsa : ∀ (A B : Option Addr) (c1 c2 : Nat) (M : List UInt8) (u : World), RS cB u u.heap.size A (digOf P d M) → RS cB u u.heap.size B (digOf P d M) → Calls Tryz.prog 12 #[.slice A d c1, .slice B d c2] u (fun e w' => e = .returned (.bool true) ∧ ∃ n, w' = u.drewN n) := fun A B c1 c2 M u h1 h2 =>
  (same_any A B c1 c2 (digOf P d M) (digOf P d M) u.heap.size u.heap.size d d u (hdl M) (hdl M) (by omega) h1 h2).mono fun _ _ ⟨q1, q2⟩ => ⟨q1.trans (by rw [decide_eq_true rfl]), q2⟩
 have hspn := fun (g c n base : Nat) (l : List UInt8) (u : World) (h1 : l.length = n) (h2 : n ≤ 140737488355000) (h3 : OS cB u base (some ⟨g, 0, none⟩) c l) => spoilN_any g c n base l u h1 h2 h3
 have hwi := fun (A : Option Addr) (c n : Nat) (l : List UInt8) (u : World) h1 h2 h3 => wide_any A c n l u h1 h2 h3
 have hke := fun (A1 A2 : Option Addr) (c1 c2 n : Nat) (l : List UInt8) (B1 : Nat) (u : World) h1 h2 h3 h4 h5 => kept_any A1 A2 c1 c2 n l B1 u h1 h2 h3 h4 h5
 have hc2 := fun (A : Option Addr) (c n : Nat) (l : List UInt8) (u : World) h1 h2 h3 => copied08_any A c n l u h1 h2 h3
 have HD1 : Hid (1 ≤ d) := Lib.hid hd1
 have HSA2 := Lib.hid hsa; have HSPN := Lib.hid hspn; have HWI := Lib.hid hwi; have HKE := Lib.hid hke; have HC2 := Lib.hid hc2
 clear hsa hspn hwi hke hc2
 have hsp := fun (A : Option Addr) (c n base : Nat) (l : List UInt8) (u : World) (h1 : l.length = n) (h2 : n ≤ 140737488355000) (h3 : OS cB u base A c l) (h4 : base ≤ u.heap.size) => spoil_any A c n base l u h1 h2 h3 h4
 have HCP := Lib.hid hcp; have HNW := Lib.hid hnw; have HRD := Lib.hid hrd2; have HWR := Lib.hid hwr; have HSM := Lib.hid hsm; have HRE := Lib.hid hre; have HFK := Lib.hid hfk; have HTK := Lib.hid htk; have HRT := Lib.hid hrt; have HSP := Lib.hid hsp
 have HA := Lib.hid ha; have HBB := Lib.hid hb; have HC := Lib.hid hc; have HDL := Lib.hid hdl; have HN := Lib.hid hn; have HTO := Lib.hid htot; have HSC := Lib.hid hscr
 clear hcp hnw hrd hrd2 hwr hsm hre hfk htk hrt hsp ha hb hc hdl hn htot hscr hPe hPd hPb hd hd0 hok hd1 hd2 hk hP
 go_enter Tryz.func3, Tryz.ntmps3
 go_upto_region 1 with fail
 have HBK := Lib.hid (Blk.new w 24 (planC k dg a b c e))
 have HB := Lib.hid (bal (b0 w) (.cells (planC k dg a b c e) 24))
 obtain ⟨g, hg⟩ : ∃ g, g = w.heap.size := ⟨_, rfl⟩
 rw [← hg] at HBK ⊢
 have HG := Lib.hid hg
 clear hg
 generalize w.alloc (.cells (planC k dg a b c e) 24) = u at *
 have q0 : u.cell? ⟨g, 0, none⟩ = some (.int .i64 k) := HBK.out.cell 0; have q1 : u.cell? ⟨g, 1, none⟩ = some (.int .i64 dg) := HBK.out.cell 1; have q2 : u.cell? ⟨g, 2, none⟩ = some (.slice a.A a.n a.c) := HBK.out.cell 2; have q3 : u.cell? ⟨g, 3, none⟩ = some (.slice b.A b.n b.c) := HBK.out.cell 3; have q4 : u.cell? ⟨g, 4, none⟩ = some (.slice c.A c.n c.c) := HBK.out.cell 4
 go_wp2_with fail
 refine (HCP.out a la u (HA.out.below HB.out)).mono ?_
 rintro e1 u1 ⟨A1, c1, rfl, ho1, hb1⟩
 have HL1 := Lib.hid (fun x (hx : A1 = some x) => (ho1.block_lt x hx).2)
 have HO1 := Lib.hid (ho1.mono (show g + 1 ≤ _ from HBK.out.lt))
 obtain ⟨u, hu⟩ : ∃ u, u = u1 := ⟨_, rfl⟩
 subst hu
 clear q0 q1 q2 q3 q4
 replace HB := Lib.hid (bcall HB.out hb1); replace HBK := Lib.hid (HBK.out.below hb1 HBK.out.lt)
 have q0 : u.cell? ⟨g, 0, none⟩ = some (.int .i64 k) := HBK.out.cell 0; have q1 : u.cell? ⟨g, 1, none⟩ = some (.int .i64 dg) := HBK.out.cell 1; have q2 : u.cell? ⟨g, 2, none⟩ = some (.slice a.A a.n a.c) := HBK.out.cell 2; have q3 : u.cell? ⟨g, 3, none⟩ = some (.slice b.A b.n b.c) := HBK.out.cell 3; have q4 : u.cell? ⟨g, 4, none⟩ = some (.slice c.A c.n c.c) := HBK.out.cell 4
 clear hb1 ho1
 go_wp2_with fail
 refine (HCP.out b lb u (HBB.out.below HB.out)).mono ?_
 rintro e2 u2 ⟨A2, c2, rfl, ho2, hb2⟩
 have HL2 := Lib.hid (fun x (hx : A2 = some x) => (ho2.block_lt x hx).2)
 have HD12 := Lib.hid (fun x y (hx : A1 = some x) (hy : A2 = some y) => Nat.ne_of_lt (Nat.lt_of_lt_of_le (HL1.out x hx) (ho2.block_lt y hy).1))
 have HO2 := Lib.hid (ho2.mono (show g + 1 ≤ _ from HBK.out.lt))
 replace HO1 := Lib.hid (HO1.out.below hb2 (Nat.le_refl _)); replace HL1 := Lib.hid (fun x (hx : A1 = some x) => Nat.lt_of_lt_of_le (HL1.out x hx) hb2.size)
 obtain ⟨u, hu⟩ : ∃ u, u = u2 := ⟨_, rfl⟩
 subst hu
 clear q0 q1 q2 q3 q4
 replace HB := Lib.hid (bcall HB.out hb2); replace HBK := Lib.hid (HBK.out.below hb2 HBK.out.lt)
 have q0 : u.cell? ⟨g, 0, none⟩ = some (.int .i64 k) := HBK.out.cell 0; have q1 : u.cell? ⟨g, 1, none⟩ = some (.int .i64 dg) := HBK.out.cell 1; have q2 : u.cell? ⟨g, 2, none⟩ = some (.slice a.A a.n a.c) := HBK.out.cell 2; have q3 : u.cell? ⟨g, 3, none⟩ = some (.slice b.A b.n b.c) := HBK.out.cell 3; have q4 : u.cell? ⟨g, 4, none⟩ = some (.slice c.A c.n c.c) := HBK.out.cell 4
 clear hb2 ho2
 go_wp2_with fail
 refine (HCP.out c lc u (HC.out.below HB.out)).mono ?_
 rintro e3 u3 ⟨A3, c3, rfl, ho3, hb3⟩
 have HD13 := Lib.hid (fun x y (hx : A1 = some x) (hy : A3 = some y) => Nat.ne_of_lt (Nat.lt_of_lt_of_le (HL1.out x hx) (ho3.block_lt y hy).1))
 have HD23 := Lib.hid (fun x y (hx : A2 = some x) (hy : A3 = some y) => Nat.ne_of_lt (Nat.lt_of_lt_of_le (HL2.out x hx) (ho3.block_lt y hy).1))
 have HO3 := Lib.hid (ho3.mono (show g + 1 ≤ _ from HBK.out.lt))
 replace HO1 := Lib.hid (HO1.out.below hb3 (Nat.le_refl _)); replace HO2 := Lib.hid (HO2.out.below hb3 (Nat.le_refl _))
 obtain ⟨u, hu⟩ : ∃ u, u = u3 := ⟨_, rfl⟩
 subst hu
 clear q0 q1 q2 q3 q4
 replace HB := Lib.hid (bcall HB.out hb3); replace HBK := Lib.hid (HBK.out.below hb3 HBK.out.lt)
 have q0 : u.cell? ⟨g, 0, none⟩ = some (.int .i64 k) := HBK.out.cell 0; have q1 : u.cell? ⟨g, 1, none⟩ = some (.int .i64 dg) := HBK.out.cell 1; have q2 : u.cell? ⟨g, 2, none⟩ = some (.slice a.A a.n a.c) := HBK.out.cell 2; have q3 : u.cell? ⟨g, 3, none⟩ = some (.slice b.A b.n b.c) := HBK.out.cell 3; have q4 : u.cell? ⟨g, 4, none⟩ = some (.slice c.A c.n c.c) := HBK.out.cell 4
 clear hb3 ho3 HL1 HL2
 go_wp2_with fail
 have hlin : LIn u ⟨big, dg, la, lb, lc, []⟩ ⟨A1, a.n, c1⟩ ⟨A2, b.n, c2⟩ ⟨A3, c.n, c3⟩ ⟨none, 0, 0⟩ :=
  ⟨HA.out.len, HBB.out.len, HC.out.len, rfl, by have := HA.out.cap; show a.n ≤ _; omega, by have := HBB.out.cap; show b.n ≤ _; omega, by have := HC.out.cap; show c.n ≤ _; omega, Nat.zero_le _, ⟨Nat.le_refl _, Nat.zero_le _⟩, HO1.out.reads, HO2.out.reads, HO3.out.reads, RS.nil _⟩
 have HLN := Lib.hid hlin
 have HX1 := Lib.hid (fun x (hx : A1 = some x ∨ A2 = some x ∨ A3 = some x) => (show g + 1 ≤ x.block ∧ x.block < u.heap.size by
  rcases hx with hx | hx | hx
  ·exact HO1.out.block_lt x hx
  ·exact HO2.out.block_lt x hx
  ·exact HO3.out.block_lt x hx))
 clear hlin
 refine (HNW.out u ⟨A1, a.n, c1⟩ ⟨A2, b.n, c2⟩ ⟨A3, c.n, c3⟩ (HLP.out _ _ _ _ _ HLN.out)).mono ?_
 rintro e5 u5 ⟨gh, D, Wr, rfl, hx5, hD5, hW5, hb5⟩
 have HX := Lib.hid hx5
 have HDW := Lib.hid (fun j (hj : j ∈ D ∨ j ∈ Wr) => (show u.heap.size ≤ j by rcases hj with hj | hj; exact hD5 j hj; exact hW5 j hj))
 replace HO1 := Lib.hid (HO1.out.below hb5 (Nat.le_refl _)); replace HO2 := Lib.hid (HO2.out.below hb5 (Nat.le_refl _)); replace HO3 := Lib.hid (HO3.out.below hb5 (Nat.le_refl _))
 have HFR := Lib.hid (fun x (hx : A1 = some x ∨ A2 = some x ∨ A3 = some x) => (show g + 1 ≤ x.block ∧ x.block ∉ D ∧ x.block ∉ Wr by
  have h1 := HX1.out x hx
  exact ⟨h1.1, fun h => Nat.lt_irrefl _ (Nat.lt_of_lt_of_le h1.2 (HDW.out _ (.inl h))), fun h => Nat.lt_irrefl _ (Nat.lt_of_lt_of_le h1.2 (HDW.out _ (.inr h)))⟩))
 have HGD := Lib.hid (fun j (hj : j ∈ Wr) => Nat.lt_of_lt_of_le HBK.out.lt (HDW.out j (.inr hj)))
 clear HX1 HDW HLN
 obtain ⟨u, hu⟩ : ∃ u, u = u5 := ⟨_, rfl⟩
 subst hu
 clear q0 q1 q2 q3 q4
 replace HB := Lib.hid (bcall HB.out hb5); replace HBK := Lib.hid (HBK.out.below hb5 HBK.out.lt)
 have q0 : u.cell? ⟨g, 0, none⟩ = some (.int .i64 k) := HBK.out.cell 0; have q1 : u.cell? ⟨g, 1, none⟩ = some (.int .i64 dg) := HBK.out.cell 1; have q2 : u.cell? ⟨g, 2, none⟩ = some (.slice a.A a.n a.c) := HBK.out.cell 2; have q3 : u.cell? ⟨g, 3, none⟩ = some (.slice b.A b.n b.c) := HBK.out.cell 3; have q4 : u.cell? ⟨g, 4, none⟩ = some (.slice c.A c.n c.c) := HBK.out.cell 4
 clear hb5 hx5 hD5 hW5
 go_wp2_with fail
 refine (HRD.out u [] ⟨none, 0, 0⟩ ((HA.out.below HB.out).linM (HBB.out.below HB.out) (HC.out.below HB.out) big dg rfl (Nat.zero_le _) ⟨Nat.le_refl _, Nat.zero_le _⟩ (RS.nil _))).mono ?_
 rintro e6 u6 ⟨A6, c6, cc6, rfl, -, -, hb6⟩
 replace HX := Lib.hid (HX.out.below hb6)
 replace HO1 := Lib.hid (HO1.out.below hb6 (Nat.le_refl _)); replace HO2 := Lib.hid (HO2.out.below hb6 (Nat.le_refl _)); replace HO3 := Lib.hid (HO3.out.below hb6 (Nat.le_refl _))
 obtain ⟨u, hu⟩ : ∃ u, u = u6 := ⟨_, rfl⟩
 subst hu
 clear q0 q1 q2 q3 q4
 replace HB := Lib.hid (bcall HB.out hb6); replace HBK := Lib.hid (HBK.out.below hb6 HBK.out.lt)
 clear hb6
 go_wp2_with fail
 go_wp2_with fail
 refine (HSP.out A1 c1 a.n (g + 1) la u HA.out.len (by have := HA.out.cap; omega) HO1.out HBK.out.lt).mono ?_
 rintro e7 u7 ⟨rfl, hg7⟩
 have hbt := but_row hg7
 have hfr : ∀ j, j ∈ obl A1 → g + 1 ≤ j ∧ j ∉ D ∧ j ∉ Wr := fun j hj => by
  obtain ⟨x, hx, rfl⟩ := mem_obl.1 hj
  exact HFR.out x (.inl hx)
 replace HX := Lib.hid (HX.out.but hbt (fun j hj hj2 => (hfr j hj2).2.1 hj) (fun j hj hj2 => (hfr j hj2).2.2 hj))
 replace HBK := Lib.hid (HBK.out.but hbt (fun hj => Nat.lt_irrefl _ (hfr g hj).1))
 replace HB := Lib.hid (HB.out.trans (hbt.toBelow HB.out.size (fun j hj => by have h1 := (hfr j hj).1; have h2 := HG.out; omega)))
 replace HO2 := Lib.hid (HO2.out.but hbt (fun x hx hj => by obtain ⟨y, hy, e⟩ := mem_obl.1 hj; exact HD12.out y x hy hx e))
 replace HO3 := Lib.hid (HO3.out.but hbt (fun x hx hj => by obtain ⟨y, hy, e⟩ := mem_obl.1 hj; exact HD13.out y x hy hx e))
 clear hbt hfr hg7
 obtain ⟨u, hu⟩ : ∃ u, u = u7 := ⟨_, rfl⟩
 subst hu
 go_wp2_with fail
 refine (HSP.out A2 c2 b.n (g + 1) lb u HBB.out.len (by have := HBB.out.cap; omega) HO2.out HBK.out.lt).mono ?_
 rintro e7 u7 ⟨rfl, hg7⟩
 have hbt := but_row hg7
 have hfr : ∀ j, j ∈ obl A2 → g + 1 ≤ j ∧ j ∉ D ∧ j ∉ Wr := fun j hj => by
  obtain ⟨x, hx, rfl⟩ := mem_obl.1 hj
  exact HFR.out x (.inr (.inl hx))
 replace HX := Lib.hid (HX.out.but hbt (fun j hj hj2 => (hfr j hj2).2.1 hj) (fun j hj hj2 => (hfr j hj2).2.2 hj))
 replace HBK := Lib.hid (HBK.out.but hbt (fun hj => Nat.lt_irrefl _ (hfr g hj).1))
 replace HB := Lib.hid (HB.out.trans (hbt.toBelow HB.out.size (fun j hj => by have h1 := (hfr j hj).1; have h2 := HG.out; omega)))
 replace HO3 := Lib.hid (HO3.out.but hbt (fun x hx hj => by obtain ⟨y, hy, e⟩ := mem_obl.1 hj; exact HD23.out y x hy hx e))
 clear hbt hfr hg7
 obtain ⟨u, hu⟩ : ∃ u, u = u7 := ⟨_, rfl⟩
 subst hu
 go_wp2_with fail
 refine (HSP.out A3 c3 c.n (g + 1) lc u HC.out.len (by have := HC.out.cap; omega) HO3.out HBK.out.lt).mono ?_
 rintro e7 u7 ⟨rfl, hg7⟩
 have hbt := but_row hg7
 have hfr : ∀ j, j ∈ obl A3 → g + 1 ≤ j ∧ j ∉ D ∧ j ∉ Wr := fun j hj => by
  obtain ⟨x, hx, rfl⟩ := mem_obl.1 hj
  exact HFR.out x (.inr (.inr hx))
 replace HX := Lib.hid (HX.out.but hbt (fun j hj hj2 => (hfr j hj2).2.1 hj) (fun j hj hj2 => (hfr j hj2).2.2 hj))
 replace HBK := Lib.hid (HBK.out.but hbt (fun hj => Nat.lt_irrefl _ (hfr g hj).1))
 replace HB := Lib.hid (HB.out.trans (hbt.toBelow HB.out.size (fun j hj => by have h1 := (hfr j hj).1; have h2 := HG.out; omega)))
 skip
 clear hbt hfr hg7
 obtain ⟨u, hu⟩ : ∃ u, u = u7 := ⟨_, rfl⟩
 subst hu
 have HT : Hid (Two w u g (planC k dg a b c e) P d (opsW (os.take 0)) gh (.pointer none) [] [] [] none none 0 0 D Wr [] []) := Lib.hid
  ⟨HX.out, .inl ⟨rfl, rfl, rfl⟩, ⟨RS.nil _, ⟨Nat.le_refl _, Nat.zero_le _⟩, fun h => absurd rfl h⟩, ⟨RS.nil _, ⟨Nat.le_refl _, Nat.zero_le _⟩, fun h => absurd rfl h⟩, fun j _ h => by simp at h, fun j h => by simp at h, fun j _ h => by simp at h, fun j h => by
   rcases h with h | h
   ·exact HGD.out j h
   ·simp at h, Nat.zero_le _, Nat.zero_le _, HBK.out, Nat.le_of_eq HG.out.symm, HB.out⟩
 clear HO1 HO2 HO3 HD12 HD13 HD23 HX HFR HGD HBK HB
 go_wp2_with fail
 go_loopw [8, 12, 13, 14, 15] (fun h o mi ot ix wr => ∃ (j g1 z z2 c1 c2 : Nat) (D Wr D2 Wr2 : List Nat) (M M2 : List UInt8) (A A2 : Option Addr), j ≤ ns ∧ ix = .int .i64 j ∧ h = .pointer (some ⟨g1, 0, none⟩) ∧ mi = .slice A z c1 ∧ ot = .slice A2 z2 c2 ∧ M.length = z ∧ M2.length = z2 ∧ Two w wr g (planC k dg a b c e) P d (opsW (os.take j)) g1 o M M M2 A A2 c1 c2 D Wr D2 Wr2) (fun _ _ _ _ ix _ => ns - (intOf ix).toNat)
 case atStart => exact ⟨0, gh, 0, 0, 0, 0, D, Wr, [], [], [], [], none, none, Nat.zero_le _, rfl, rfl, rfl, rfl, rfl, rfl, HT.out⟩
 case round =>
  clear HT
  clear u
  obtain ⟨j, g1, z, z2, cz, cz2, D, Wr, D2, Wr2, M, M2, A, A2, hj, rfl, rfl, rfl, rfl, hz, hz2, htw⟩ := hrel
  have HT := Lib.hid htw; have HZ := Lib.hid hz; have HZ2 := Lib.hid hz2
  clear htw hz hz2
  have HW := Lib.hid (fun (m : Nat) => opsW_le os m)
  by_cases hlt : j < ns
  ·have HJ := Lib.hid hlt
   have d1 : decide ((j : Int) < (ns : Int)) = true := by simp; omega
   have i9 : (j : Int) < (ns : Int) := by omega
   obtain ⟨op, hop⟩ : ∃ op, os[j]? = some op := ⟨_, List.getElem?_eq_getElem (by rw [HN.out]; exact hlt)⟩
   obtain ⟨sa, hA, -⟩ := (HSC.out.below HT.out.bel) j op hop
   subst hA
   have HOP := Lib.hid hop
   have HSA := Lib.hid (fun (W : World) (hW : Below w.heap.size w W) => (HSC.out.below hW).at_ hop)
   have HTK2 := Lib.hid (opsW_take os j op hop)
   clear hop hlt
   have hol : op.l.length ≤ 1048576 := by have h1 := HW.out (j + 1); have h2 := HTO.out; have h3 := HTK2.out; omega
   have hzb : z ≤ 1048576 := by have h1 := HT.out.n1; have h2 := HW.out j; have h3 := HTO.out; rw [HZ.out] at h1; omega
   obtain ⟨hal, s1, s2, hsl⟩ := HSA.out wr HT.out.bel
   rw [← add_of_add] at s2
   change (wr).cell? ⟨(sa.add (j * 2)).block, (sa.add (j * 2)).off + 1, none⟩ = _ at s2
   have HSL := Lib.hid hsl
   clear hsl
   by_cases w0 : op.what = 0
   ·have t0 : (op.what == 0) = true := by simp [w0]
    clear w0
    have hsn : op.s.n ≤ 1048576 := by rw [← HSL.out.len]; exact hol
    go_wp2_with fail
    refine (HWI.out op.s.A op.s.c op.s.n op.l wr HSL.out.len (by omega) HSL.out.reads).mono ?_
    rintro e6 u6 ⟨A6, c6, rfl, ho6, hb6⟩
    have hcm := ho6.len_le
    rw [List.length_append, HSL.out.len, marks_len] at hcm
    unfold maxLen at hcm
    have hn6 : op.s.n ≤ c6 := by omega
    have hcx : c6 ≤ 9223372036854775807 := by omega
    have HO6 := Lib.hid ho6
    have HN6 := Lib.hid (fun x (hx : A6 = some x) => HT.out.newrow (k := x.block) (ho6.block_lt x hx).1)
    replace HT := Lib.hid (HT.out.below hb6)
    clear ho6 hb6 hcm
    clear hal s1 s2 HSL
    obtain ⟨hal, s1, s2, hsl⟩ := HSA.out u6 HT.out.bel
    rw [← add_of_add] at s2
    change (u6).cell? ⟨(sa.add (j * 2)).block, (sa.add (j * 2)).off + 1, none⟩ = _ at s2
    have HSL := Lib.hid hsl
    clear hsl
    go_wp2_with fail
    have hrd6 := HO6.out.reads.take op.s.n
    rw [List.take_left' HSL.out.len] at hrd6
    refine (HWR.out g1 M op.l D Wr A6 op.s.n c6 u6 HT.out.one HSL.out.len hn6 hcx hrd6 (fun _ x hx => (HN6.out x hx).1)).mono ?_
    rintro e7 u7 ⟨rfl, Wr', hx7, hW7, hb7⟩
    have HN7 := Lib.hid (fun x (hx : A6 = some x) => (show x.block ∉ Wr' by
     intro hm
     rcases hW7 _ hm with h1 | h1
     ·exact (HN6.out x hx).1 h1
     ·have := (HO6.out.block_lt x hx).2; omega))
    replace HO6 := Lib.hid (HO6.out.but hb7 (fun x hx => (HN6.out x hx).1))
    replace HT := Lib.hid (HT.out.step hx7 (fun i hi => .inl hi) hW7 hb7)
    clear hx7 hW7 hb7 hrd6
    clear hal s1 s2 HSL
    obtain ⟨hal, s1, s2, hsl⟩ := HSA.out u7 HT.out.bel
    rw [← add_of_add] at s2
    change (u7).cell? ⟨(sa.add (j * 2)).block, (sa.add (j * 2)).off + 1, none⟩ = _ at s2
    have HSL := Lib.hid hsl
    clear hsl
    go_wp2_with fail
    refine (HKE.out A6 op.s.A c6 op.s.c op.s.n op.l u7.heap.size u7 HSL.out.len (by omega) HO6.out.reads HSL.out.reads (Nat.le_refl _)).mono ?_
    rintro e8 u8 ⟨rfl, hb8⟩
    replace HO6 := Lib.hid (HO6.out.below hb8 (Nat.le_refl _)); replace HT := Lib.hid (HT.out.below hb8)
    clear hb8
    clear hal s1 s2 HSL
    obtain ⟨hal, s1, s2, hsl⟩ := HSA.out u8 HT.out.bel
    rw [← add_of_add] at s2
    change (u8).cell? ⟨(sa.add (j * 2)).block, (sa.add (j * 2)).off + 1, none⟩ = _ at s2
    have HSL := Lib.hid hsl
    clear hsl
    go_wp2_with fail
    have hot := HO6.out.take op.s.n (by rw [List.length_append, HSL.out.len]; omega)
    rw [List.take_left' HSL.out.len] at hot
    refine (HSP.out A6 c6 op.s.n 0 op.l u8 HSL.out.len (by omega) (hot.mono (Nat.zero_le _)) (Nat.zero_le _)).mono ?_
    rintro e9 u9 ⟨rfl, hg9⟩
    replace HT := Lib.hid (HT.out.row (but_row hg9) (fun i hi => by
     obtain ⟨x, hx, rfl⟩ := mem_obl.1 hi
     exact ⟨HN7.out x hx, (HN6.out x hx).2⟩))
    clear hg9 hot HO6 HN6 HN7
    clear hal s1 s2 HSL
    obtain ⟨hal, s1, s2, hsl⟩ := HSA.out u9 HT.out.bel
    rw [← add_of_add] at s2
    change (u9).cell? ⟨(sa.add (j * 2)).block, (sa.add (j * 2)).off + 1, none⟩ = _ at s2
    have HSL := Lib.hid hsl
    clear hsl
    go_wp2_with fail
    obtain ⟨u, hu⟩ : ∃ u, u = u9 := ⟨_, rfl⟩
    subst hu
    have hz47 : z + op.s.n ≤ 140737488355328 := by omega
    refine wp_region_ords (fun w' => w'.cell? ⟨(sa.add (j * 2)).block, (sa.add (j * 2)).off + 1, none⟩ = some (.slice op.s.A op.s.n op.s.c)) (fun _ n h => h) (Ords.of [(0, 0), (0, 2), (0, 3), (0, 4), (0, 5), (0, 6), (2, 1), (2, 7), (0, 8)] .fin) (by kernel_rfl) rfl (by kernel_rfl) (by kernel_rfl) (fun c a d v w h => by cases d <;> exact h) s2 ?_
    iterate 5 (refine ords_pure rfl (fun K hK => ?_); go_simp; refine hK _ ?_; clear hK K)
    refine ords_heldK rfl (fun K K2 hK hK2 => ?_); go_simp; refine ⟨hK2 _ (fun w9 hS => ?_), hK _ ?_⟩; (clear hK hK2 K K2; have s2 : w9.cell? ⟨(sa.add (j * 2)).block, (sa.add (j * 2)).off + 1, none⟩ = some (.slice op.s.A op.s.n op.s.c) := hS; clear hS; go_simp); (clear hK hK2 K K2)
    refine ords_loud rfl (fun n1 => ?_)
    replace HT := Lib.hid (HT.out.drewN n1)
    replace HSL := Lib.hid (HSL.out.below (bdr (b0 _) n1))
    clear hal s1 s2
    generalize u.drewN n1 = u at *
    go_wp2_with (go_at_call 4; refine (HC2.out A cz z M u HZ.out (by omega) HT.out.l1.rs).mono ?_; rintro e10 u10 ⟨A10, c10, rfl, ho10, hb10⟩)
    have HN10 := Lib.hid (fun i (hi : u.heap.size ≤ i) => HT.out.newrow (k := i) hi)
    have HO10 := Lib.hid ho10
    have HU := Lib.hid hb10.size
    replace HT := Lib.hid (HT.out.below hb10)
    clear ho10 hb10 HSL
    obtain ⟨hal, s1, s2, hsl⟩ := HSA.out u10 HT.out.bel
    rw [← add_of_add] at s2
    change (u10).cell? ⟨(sa.add (j * 2)).block, (sa.add (j * 2)).off + 1, none⟩ = _ at s2
    have HSL := Lib.hid hsl
    clear hsl
    refine ⟨s2, ?_⟩
    go_simp
    refine ords_loud rfl (fun n2 => ?_)
    replace HT := Lib.hid (HT.out.drewN n2)
    replace HO10 := Lib.hid (HO10.out.drewN n2)
    replace HU := Lib.hid (show u.heap.size ≤ (u10.drewN n2).heap.size from HU.out)
    replace HSL := Lib.hid (HSL.out.below (bdr (b0 _) n2))
    clear hal s1 s2
    generalize u10.drewN n2 = u10 at *
    (refine wpList_appB _ rfl (.tmp 129) (.tmp 134) rfl HO10.out rfl HZ.out HSL.out.reads rfl HSL.out.len hz47 HU.out ?_; intro A11 c11 u11 ho11 hg11 hA11)
    have HL11 := Lib.hid ho11
    have HF11 := Lib.hid (fun x (hx : A11 = some x) => (show u.heap.size ≤ x.block by
     rcases hA11 with e | e
     ·cases hh : A10 with
      | none => rw [hx, hh] at e; cases e
      | some y => rw [hx, hh] at e; have e2 : x.block = y.block := Option.some.inj e; rw [e2]; exact (HO10.out.block_lt y hh).1
     ·rw [hx] at e
      have e2 : x.block = u10.heap.size := Option.some.inj e
      rw [e2]; exact HU.out))
    replace HT := Lib.hid (HT.out.row (But.grown (F := obl A10) hg11 (fun i hi => .inl (mem_obl.2 (by cases hh : A10 with | none => rw [hh] at hi; cases hi | some y => rw [hh] at hi; exact ⟨y, rfl, Option.some.inj hi⟩)))) (fun i hi => by
     obtain ⟨x, hx, rfl⟩ := mem_obl.1 hi
     exact HN10.out _ (HO10.out.block_lt x hx).1))
    clear ho11 hg11 hA11 HSL HO10
    obtain ⟨hal, s1, s2, hsl⟩ := HSA.out u11 HT.out.bel
    rw [← add_of_add] at s2
    change (u11).cell? ⟨(sa.add (j * 2)).block, (sa.add (j * 2)).off + 1, none⟩ = _ at s2
    have HSL := Lib.hid hsl
    clear hsl
    refine ⟨s2, ?_⟩
    go_simp
    refine ords_pure rfl (fun K hK => ?_); go_simp; refine hK _ ?_; clear hK K
    refine ords_end (fun n3 => ?_)
    replace HT := Lib.hid (HT.out.drewN n3)
    replace HL11 := Lib.hid (HL11.out.drewN n3)
    replace HSL := Lib.hid (HSL.out.below (bdr (b0 _) n3))
    clear hal s1 s2
    generalize u11.drewN n3 = u11 at *
    have hml : (M ++ op.l).length = z + op.s.n := by rw [List.length_append, HZ.out, HSL.out.len]
    have HT2 := Lib.hid (HT.out.list (M' := M ++ op.l) (A' := A11) (c' := c11) (m := opsW (os.take (j + 1))) ⟨HL11.out.reads, by have h1 := HL11.out.len_le; unfold maxLen at h1; exact h1, fun _ x hx hm => by
     have h1 := HN10.out _ (HF11.out x hx)
     rcases List.mem_append.1 hm with hm | hm
     ·exact h1.1 hm
     ·exact h1.2.1 hm⟩ (by rw [HTK2.out, List.length_append]; have := HT.out.n1; omega) (by rw [HTK2.out]; omega))
    have HML := Lib.hid hml
    clear hml HT HL11 HF11 HN10
    go_wp2_with fail
    exact ⟨⟨j + 1, g1, z + op.s.n, z2, c11, cz2, D, Wr', D2, Wr2, M ++ op.l, M2, A11, A2, HJ.out, numH j, rfl, rfl, rfl, HML.out, HZ2.out, HT2.out⟩, measHs ns j HJ.out⟩
   have t0 : (op.what == 0) = false := by simp [w0]
   by_cases w1 : op.what = 1
   ·have t1 : (op.what == 1) = true := by simp [w1]
    clear w0 w1
    have hcz := HT.out.l1.cap
    rw [HZ.out] at hcz
    have q0 : wr.cell? ⟨g, 0, none⟩ = some (.int .i64 k) := HT.out.blk.cell 0; have q1 : wr.cell? ⟨g, 1, none⟩ = some (.int .i64 dg) := HT.out.blk.cell 1; have q2 : wr.cell? ⟨g, 2, none⟩ = some (.slice a.A a.n a.c) := HT.out.blk.cell 2; have q3 : wr.cell? ⟨g, 3, none⟩ = some (.slice b.A b.n b.c) := HT.out.blk.cell 3; have q4 : wr.cell? ⟨g, 4, none⟩ = some (.slice c.A c.n c.c) := HT.out.blk.cell 4
    go_wp2_with fail
    refine (HRD.out wr M ⟨A, z, cz⟩ ((HA.out.below HT.out.bel).linM (HBB.out.below HT.out.bel) (HC.out.below HT.out.bel) big dg HZ.out (by show z ≤ _; omega) hcz HT.out.l1.rs)).mono ?_
    rintro e6 u6 ⟨A6, c6, cc6, rfl, -, ho6, hb6⟩
    have HO6 := Lib.hid ho6
    replace HT := Lib.hid (HT.out.below hb6)
    clear q0 q1 q2 q3 q4
    clear ho6 hb6 hcz hal s1 s2 HSL
    go_wp2_with fail
    refine (HSM.out g1 M D Wr u6 HT.out.one).mono ?_
    rintro e7 u7 ⟨A7, c7, rfl, ho7, hb7⟩
    obtain ⟨g7, rfl⟩ : ∃ g7, A7 = some ⟨g7, 0, none⟩ := by
     rcases ho7.form with ⟨_, _, h0⟩ | ⟨g, h, _⟩
     ·have h1 := HDL.out M
      rw [h0] at h1
      have h2 := HD1.out
      simp at h1
      omega
     ·exact ⟨g, h⟩
    have HN7 := Lib.hid (HT.out.newrow (k := g7) (ho7.block_lt _ rfl).1)
    have H67 := Lib.hid (fun x (hx : A6 = some x) => Nat.ne_of_lt (Nat.lt_of_lt_of_le (HO6.out.block_lt x hx).2 (ho7.block_lt _ rfl).1))
    have HO7 := Lib.hid ho7
    replace HO6 := Lib.hid (HO6.out.below hb7 (Nat.le_refl _)); replace HT := Lib.hid (HT.out.below hb7)
    clear ho7 hb7
    go_wp2_with fail
    refine (HSA2.out _ _ _ _ M u7 HO7.out.reads HO6.out.reads).mono ?_
    rintro e8 u8 ⟨rfl, n8, rfl⟩
    replace HO6 := Lib.hid (HO6.out.drewN n8); replace HO7 := Lib.hid (HO7.out.drewN n8); replace HT := Lib.hid (HT.out.drewN n8)
    generalize u7.drewN n8 = u8 at *
    go_wp2_with fail
    refine (HSPN.out g7 c7 d _ (digOf P d M) u8 (HDL.out M) (by omega) HO7.out).mono ?_
    rintro e9 u9 ⟨rfl, hg9⟩
    have hbt : But [g7] u8 u9 := But.grown hg9 (fun i hi => .inl (by rw [← Option.some.inj hi]; simp))
    replace HT := Lib.hid (HT.out.row hbt (fun i hi => by rw [List.mem_singleton] at hi; subst hi; exact HN7.out))
    replace HO6 := Lib.hid (HO6.out.but hbt (fun x hx hi => H67.out x hx (by rw [List.mem_singleton] at hi; exact hi)))
    clear hbt hg9 HO7 HN7 H67
    go_wp2_with fail
    refine (HSM.out g1 M D Wr u9 HT.out.one).mono ?_
    rintro e10 u10 ⟨A10, c10, rfl, ho10, hb10⟩
    have HO10 := Lib.hid ho10
    replace HO6 := Lib.hid (HO6.out.below hb10 (Nat.le_refl _)); replace HT := Lib.hid (HT.out.below hb10)
    clear ho10 hb10
    go_wp2_with fail
    refine (HSA2.out _ _ _ _ M u10 HO10.out.reads HO6.out.reads).mono ?_
    rintro e11 u11 ⟨rfl, n11, rfl⟩
    have HT2 := Lib.hid ((HT.out.drewN n11).more (m := opsW (os.take (j + 1))) (by rw [HTK2.out]; omega))
    clear HO6 HO10 HT
    go_wp2_with fail
    exact ⟨⟨j + 1, g1, z, z2, cz, cz2, D, Wr, D2, Wr2, M, M2, A, A2, HJ.out, numH j, rfl, rfl, rfl, HZ.out, HZ2.out, HT2.out⟩, measHs ns j HJ.out⟩
   have t1 : (op.what == 1) = false := by simp [w1]
   by_cases w2 : op.what = 2
   ·have t2 : (op.what == 2) = true := by simp [w2]
    clear w0 w1 w2
    go_wp2_with fail
    refine (HRE.out g1 M D Wr wr HT.out.one).mono ?_
    rintro e6 u6 ⟨rfl, D', Wr', hx6, hD6, hW6, hb6⟩
    have HT2 := Lib.hid ((HT.out.step hx6 hD6 hW6 hb6).list (M' := []) (A' := none) (c' := 0) (m := opsW (os.take (j + 1))) ⟨RS.nil _, ⟨Nat.le_refl _, Nat.zero_le _⟩, fun h => absurd rfl h⟩ (Nat.zero_le _) (by rw [HTK2.out]; omega))
    clear hx6 hD6 hW6 hb6
    clear hal s1 s2
    go_wp2_with fail
    exact ⟨⟨j + 1, g1, 0, z2, 0, cz2, D', Wr', D2, Wr2, [], M2, none, A2, HJ.out, numH j, rfl, rfl, rfl, rfl, HZ2.out, HT2.out⟩, measHs ns j HJ.out⟩
   have t2 : (op.what == 2) = false := by simp [w2]
   by_cases w3 : op.what = 3
   ·have t3 : (op.what == 3) = true := by simp [w3]
    clear w0 w1 w2 w3
    have htk := HTK.out g1 M D Wr wr HT.out.one
    rw [HZ.out, Nat.mod_eq_of_lt (show z < 18446744073709551616 by omega)] at htk
    have hrt := fun W => HRT.out z (show z < 18446744073709551616 by omega) W
    obtain ⟨y, hy⟩ : ∃ y, y = z / blOf big % lnOf big := ⟨_, rfl⟩
    rw [← hy] at htk hrt
    have HTT := Lib.hid htk; have HRR := Lib.hid hrt
    have hwz : IntKind.u64.wrap (z : Int) = z := by rw [wrap_u64]; omega
    clear hy htk hrt
    go_wp2_with fail
    refine HTT.out.mono ?_
    rintro e6 u6 ⟨rfl, hb6⟩
    replace HT := Lib.hid (HT.out.below hb6)
    clear hb6 hal s1 s2 HSL HTT
    have q0 : u6.cell? ⟨g, 0, none⟩ = some (.int .i64 k) := HT.out.blk.cell 0; have q1 : u6.cell? ⟨g, 1, none⟩ = some (.int .i64 dg) := HT.out.blk.cell 1; have q2 : u6.cell? ⟨g, 2, none⟩ = some (.slice a.A a.n a.c) := HT.out.blk.cell 2; have q3 : u6.cell? ⟨g, 3, none⟩ = some (.slice b.A b.n b.c) := HT.out.blk.cell 3; have q4 : u6.cell? ⟨g, 4, none⟩ = some (.slice c.A c.n c.c) := HT.out.blk.cell 4
    go_wp2_with fail
    refine (HRR.out u6).mono ?_
    rintro e7 u7 ⟨rfl, hb7⟩
    have HT2 := Lib.hid ((HT.out.below hb7).more (m := opsW (os.take (j + 1))) (by rw [HTK2.out]; omega))
    clear q0 q1 q2 q3 q4
    clear hb7 HT HRR
    go_wp2_with fail
    exact ⟨⟨j + 1, g1, z, z2, cz, cz2, D, Wr, D2, Wr2, M, M2, A, A2, HJ.out, numH j, rfl, rfl, rfl, HZ.out, HZ2.out, HT2.out⟩, measHs ns j HJ.out⟩
   have t3 : (op.what == 3) = false := by simp [w3]
   by_cases w4 : op.what = 4
   ·have t4 : (op.what == 4) = true := by simp [w4]
    clear w0 w1 w2 w3 w4
    go_wp2_with fail
    refine (HFK.out g1 M D Wr wr HT.out.one).mono ?_
    rintro e6 u6 ⟨q, D', Wr', rfl, hx6, hD6, hW6, hb6⟩
    have HT2 := Lib.hid ((HT.out.fork hx6 hD6 hW6 hb6).more (m := opsW (os.take (j + 1))) (by rw [HTK2.out]; omega))
    clear hx6 hD6 hW6 hb6
    clear hal s1 s2
    go_wp2_with fail
    exact ⟨⟨j + 1, g1, z, z, cz, cz, D, Wr, D', Wr', M, M, A, A, HJ.out, numH j, rfl, rfl, rfl, HZ.out, HZ.out, HT2.out⟩, measHs ns j HJ.out⟩
   have t4 : (op.what == 4) = false := by simp [w4]
   clear w0 w1 w2 w3 w4
   rcases HT.out.two with ⟨ho, -, -⟩ | ⟨q, ho, -⟩
   ·subst ho
    have HT2 := Lib.hid (HT.out.more (m := opsW (os.take (j + 1))) (by rw [HTK2.out]; omega))
    go_wp2_with fail
    exact ⟨⟨j + 1, g1, z, z2, cz, cz2, D, Wr, D2, Wr2, M, M2, A, A2, HJ.out, numH j, rfl, rfl, rfl, HZ.out, HZ2.out, HT2.out⟩, measHs ns j HJ.out⟩
   ·subst ho
    have HT2 := Lib.hid (HT.out.swap.more (m := opsW (os.take (j + 1))) (by rw [HTK2.out]; omega))
    go_wp2_with fail
    exact ⟨⟨j + 1, q, z2, z, cz2, cz, D2, Wr2, D, Wr, M2, M, A2, A, HJ.out, numH j, rfl, rfl, rfl, HZ2.out, HZ.out, HT2.out⟩, measHs ns j HJ.out⟩
  ·obtain rfl : j = ns := by omega
   have d1 : decide ((j : Int) < (j : Int)) = false := by simp
   have hsl := HT.out.blk
   have q0 : wr.cell? ⟨g, 0, none⟩ = some (.int .i64 k) := HT.out.blk.cell 0; have q1 : wr.cell? ⟨g, 1, none⟩ = some (.int .i64 dg) := HT.out.blk.cell 1; have q2 : wr.cell? ⟨g, 2, none⟩ = some (.slice a.A a.n a.c) := HT.out.blk.cell 2; have q3 : wr.cell? ⟨g, 3, none⟩ = some (.slice b.A b.n b.c) := HT.out.blk.cell 3; have q4 : wr.cell? ⟨g, 4, none⟩ = some (.slice c.A c.n c.c) := HT.out.blk.cell 4
   have hzb : z ≤ 1048576 := by have h1 := HT.out.n1; have h2 := HW.out j; have h3 := HTO.out; rw [HZ.out] at h1; omega
   have hcz := HT.out.l1.cap
   clear hsl
   go_wp2_with fail
   refine (HRD.out wr M ⟨A, z, cz⟩ ((HA.out.below HT.out.bel).linM (HBB.out.below HT.out.bel) (HC.out.below HT.out.bel) big dg HZ.out (by show z ≤ _; omega) (by rw [HZ.out] at hcz; exact hcz) HT.out.l1.rs)).mono ?_
   rintro e6 u6 ⟨A6, c6, cc6, rfl, hd6, ho6, hb6⟩
   have HO6 := Lib.hid ho6
   replace HT := Lib.hid (HT.out.below hb6)
   clear q0 q1 q2 q3 q4
   clear ho6 hb6 hcz
   go_wp2_with fail
   refine (HSM.out g1 M D Wr u6 HT.out.one).mono ?_
   rintro e7 u7 ⟨A7, c7, rfl, ho7, hb7⟩
   have HO7 := Lib.hid ho7
   replace HO6 := Lib.hid (HO6.out.below hb7 (Nat.le_refl _)); replace HT := Lib.hid (HT.out.below hb7)
   clear ho7 hb7
   go_wp2_with fail
   refine (HSA2.out _ _ _ _ M u7 HO7.out.reads HO6.out.reads).mono ?_
   rintro e8 u8 ⟨rfl, n8, rfl⟩
   have HT2 := Lib.hid (HT.out.drewN n8)
   clear HT HO6 HO7
   go_wp2_with fail
   exact bodyPost_ret (results_tmp rfl _ _ _) rfl ⟨rfl, HT2.out.bel⟩
theorem laneHashers_law (k dg : Int) (a b c e : Sl) (la lb lc : List UInt8) (As : Option Addr) (ns cs : Nat) (os : List OpV) (w : World) (ha : SlIn w a la) (hb : SlIn w b lb) (hc : SlIn w c lc) (hn : os.length = ns) (hns : ns ≤ 1048576) (hnc : ns ≤ cs) (htot : opsW os ≤ 1048576) (hscr : Scr w As os) :
  Calls Tryz.prog 3 #[.agg (planC k dg a b c e), .slice As ns cs] w fun r w' => r = .returned (.bool true) ∧ Below w.heap.size w w' := by
 by_cases hk : ∃ big, k = kOf big
 ·obtain ⟨big, rfl⟩ := hk
  by_cases hok : (LP.mk big dg la lb lc []).err = 0
  ·exact laneHashers_ok (kOf big) big rfl dg a b c e la lb lc As ns cs os w ha hb hc hn hns hnc htot hscr hok
  ·exact laneHashers_no (kOf big) dg (LP.mk big dg la lb lc []).err a b c e la lb lc _ w ha hb hc
    (fun u a' b' c' h => lnewErr_any ⟨big, dg, la, lb, lc, []⟩ a' b' c' ⟨none, 0, 0⟩ u (h big dg) hok)
    (fun u h => refDigestErr_any (kOf big) (.int .i64 dg) _ _ _ _ _ hok u (rcallsErr_any ⟨big, dg, la, lb, lc, []⟩ a b c ⟨none, 0, 0⟩ u (h big dg) hok)) hok
 ·have h1 : k ≠ 1 := fun h => hk ⟨true, h⟩
  have h2 : k ≠ 2 := fun h => hk ⟨false, h⟩
  exact laneHashers_no k dg 1 a b c e la lb lc _ w ha hb hc
   (fun u a' b' c' _ => lnewKind_any k _ _ _ _ h1 h2 u)
   (fun u _ => refDigestErr_any k (.int .i64 dg) _ _ _ _ 1 (by decide) u (rcallsKind_any k _ _ _ _ _ h1 h2 u)) (by decide)
end Go.Proofs.YtghpofnaojbbkaaGreat

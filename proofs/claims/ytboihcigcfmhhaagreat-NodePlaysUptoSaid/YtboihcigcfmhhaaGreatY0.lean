/-
  Y0: contracts and lemmas alone; no statement is claimed here.
-/
import Derived.Test.YtboihcigcfmhhaaGreatRows
import Derived.WalkKit
import Derived.WalkSpells
import Derived.WalkLawsBesides
import Derived.ProofKit
import Derived.Deep.QuietTactic
import Derived.BigQuiet
import Derived.Lib.Hide
import Derived.Deep.AppendLies
import Derived.Deep.Draws
import Derived.Deep.RegionLaw
import Derived.Maps.AppendAt
import Derived.Deep.OwnRows
import Derived.OrdersHeld
import Derived.Outline
import Derived.Laws.Rows
import Derived.Deep.MidRow
namespace Go.Proofs.YtboihcigcfmhhaaGreat
open _root_.Nat renaming mod_lt → cZJ
open Go.World renaming setCells → cZI
open Go.Region renaming ready → cZD
open _root_.Nat renaming mod_eq_of_lt → cZB
open _root_.UInt8 renaming ofNat → bZZ
open Go.Ending renaming returned → bZR
open Go.Region renaming wanted → bZO
open _root_.List renaming getElem?_map → bZK
open _root_.List renaming eq_nil_of_length_eq_zero → bZA
open Go.IntKind renaming wrap → aZU
open Go.IntKind renaming bits → aZR
open _root_.List renaming getElem?_eq_getElem → aZP
open _root_.Nat renaming lt_of_lt_of_le → aZO
open Go.IntKind renaming signed → aZM
open _root_.Nat renaming le_trans → aZL
open Go.World renaming setCell → aZI
open Go.RowKit
theorem block_of_add (a : Addr) (n : Nat) : (a.add n).block = a.block := by unfold Addr.add; split <;> rfl
theorem add_of_add (a : Addr) (i j : Nat) : (a.add i).add j = a.add (i + j) := by
 unfold Addr.add
 by_cases hi : i = 0 <;> by_cases hj : j = 0 <;> simp [hi, hj, Nat.add_assoc]
def Reads (w : World) (B size : Nat) (A : Option Addr) (n : Nat) (xs : List Value) : Prop :=
  xs.length = n * size /\ (0 < n -> ∃ ad, A = some ad /\ ad.block < B /\ ∀ j u, xs[j]? = some u -> w.cell? (ad.add j) = some u)
section
variable {w w' : World} {B B' size n : Nat} {A : Option Addr} {xs : List Value}
theorem Reads.keep (h : Reads w B size A n xs) (hk : ∀ p : Addr, p.block < B -> w'.cell? p = w.cell? p) : Reads w' B size A n xs :=
 ⟨h.1, fun hn => by
  obtain ⟨ad, e, hb, hc⟩ := h.2 hn;exact ⟨ad, e, hb, fun j u hu => (hk _ (by rw [block_of_add]; exact hb)).trans (hc j u hu)⟩⟩
theorem Reads.more (h : Reads w B size A n xs) (hB : B <= B') : Reads w B' size A n xs :=
 ⟨h.1, fun hn => by
  obtain ⟨ad, e, hb, hc⟩ := h.2 hn;exact ⟨ad, e, by omega, hc⟩⟩
theorem Reads.below (h : Reads w B size A n xs) (hb : Below B w w') : Reads w' B size A n xs := h.keep fun _ hp => hb.cell hp
theorem Reads.alloc (h : Reads w B size A n xs) (hB : B <= w.heap.size) (o : Obj) : Reads (w.alloc o) B size A n xs := h.keep fun p hp => World.cell?_alloc_lt w o p (by omega)
theorem Reads.setCell (h : Reads w B size A n xs) {p : Addr} (hB : B <= p.block) (u : Value) : Reads (w.setCell p u) B size A n xs :=
 h.keep fun q hq => World.cell?_setCell_other w p q u (fun e => by subst e; omega)
theorem Reads.grown (h : Reads w B size A n xs) {row : Option Nat} (hg : w.grownBy w' row) (hB : B <= w.heap.size) (hr : ∀ g, row = some g -> B <= g) : Reads w' B size A n xs :=
 h.keep fun p hp => World.cell?_of_block (hg.block p.block (by omega) (fun e => by have := hr _ e.symm; omega))
theorem Reads.cut (h : Reads w B size A n xs) {k cap : Nat} (hk : k <= n) (hc : n <= cap) :
  Reads w B size (if cap = k then A else A.map (·.add (k * size))) (n - k) (xs.drop (k * size)) := by
 refine ⟨by rw [List.length_drop, h.1, Nat.sub_mul], fun hn => ?_⟩;obtain ⟨ad, rfl, hb, hcell⟩ := h.2 (by omega);rw [if_neg (by omega)];refine ⟨ad.add (k * size), rfl, by rw [block_of_add]; exact hb, fun j u hu => ?_⟩;rw [add_of_add];exact hcell _ u (by rw [<- hu, List.getElem?_drop])
theorem Reads.of_own {base : Nat} {e : TypeId} {c : Nat} (h : w.ownsRow base e size (.slice A n c) n xs) : Reads w w.heap.size size A n xs := by
 refine ⟨h.1, fun hn => ?_⟩;obtain ⟨g, cap, hv, _, hlt⟩ := h.form hn;have hA : A = some ⟨g, 0, none⟩ := by injection hv
 subst hA;exact ⟨_, rfl, hlt, h.cells (g := g) rfl⟩
end
def Blk (w : World) (g : Nat) (t : TypeId) (cs : Array Value) : Prop := w.heap[g]? = some (.cells cs t (0, 0))
section
variable {w w' : World} {g : Nat} {t : TypeId} {cs : Array Value}
theorem Blk.lt (h : Blk w g t cs) : g < w.heap.size := by
 rcases Nat.lt_or_ge g w.heap.size with hlt | hge
 ·exact hlt
 ·unfold Blk at h; rw [Array.getElem?_eq_none hge] at h; cases h
theorem Blk.cell (h : Blk w g t cs) (i : Nat) : w.cell? ⟨g, i, none⟩ = cs[i]? := cell_of_row w g i cs t (0, 0) h
theorem Blk.frozen (h : Blk w g t cs) (i : Nat) : w.frozen? ⟨g, i, none⟩ = false := by
 unfold Blk at h;simp [World.frozen?, h]
theorem Blk.new (w : World) (t : TypeId) (cs : Array Value) : Blk (w.alloc (.cells cs t)) w.heap.size t cs := heap_alloc_new w _
theorem Blk.drewN (h : Blk w g t cs) (n : Nat) : Blk (w.drewN n) g t cs := h
theorem Blk.alloc (h : Blk w g t cs) (o : Obj) : Blk (w.alloc o) g t cs := (Below.heap_alloc w o g h.lt).trans h
theorem Blk.set_ (h : Blk w g t cs) (i : Nat) (u : Value) : Blk (w.setCell ⟨g, i, none⟩ u) g t (cs.setIfInBounds i u) := by
 unfold Blk at h ⊢;simp [aZI, Array.getElem?_modify, h]
theorem Blk.far (h : Blk w g t cs) {p : Addr} (hp : g ≠ p.block) (u : Value) : Blk (w.setCell p u) g t cs := (Below.heap_setCell w p u g hp).trans h
theorem Blk.below {B : Nat} (h : Blk w g t cs) (hb : Below B w w') (hg : g < B) : Blk w' g t cs := (hb.block g hg).trans h
theorem Blk.grown {row : Option Nat} (h : Blk w g t cs) (hb : w.grownBy w' row) (hg : some g ≠ row) : Blk w' g t cs := (hb.block g h.lt hg).trans h
theorem Blk.ne_ {g' : Nat} {t' : TypeId} {cs' : Array Value} (h : Blk w g t cs) (h' : Blk w g' t' cs') (hne : t ≠ t') : g ≠ g' := by
 rintro rfl;unfold Blk at h h';rw [h] at h';injection h' with h'
 injection h' with _ ht
 exact hne ht
theorem own_blk_ne {base : Nat} {e : TypeId} {size n : Nat} {v : Value} {xs : List Value} (h : w.ownsRow base e size v n xs) (hg : Blk w g t cs) (hne : e ≠ t) : v.ownBlock ≠ some g := by
 rcases h.2 with ⟨rfl, _⟩ | ⟨g', cap, cur, rfl, _, hh, _⟩
 ·simp [Value.ownBlock]
 ·intro he
  have : g' = g := by simpa [Value.ownBlock] using he
  subst this;exact Blk.ne_ (t := e) hh hg hne rfl
end
section
variable {P : Program} (w : World)
theorem run_append_of_nil (base : Nat) (t ty e : TypeId) (i : TypeInfo) (size : Nat) (ht : P.underlying t = some (.slice e)) (hi : P.info? e = some i)
  (v : Value) (n : Nat) (xs : List Value) (hown : w.ownsRow base e size v n xs) (c : Nat) : (Builtin.append_ #[t, t] ty #[v, .slice none 0 c]).run P w = .ok v w := by
 rcases hown.2 with ⟨rfl, rfl⟩ | ⟨g, cap, cur, rfl, _, _, hnc, _⟩
 ·simp [Builtin.append_, run_underlying ht, sizeOf, typeInfo, hi, Builtin.lenOf, Builtin.firstCells]
 ·simp [Builtin.append_, run_underlying ht, sizeOf, typeInfo, hi, Builtin.lenOf, Builtin.firstCells, hnc, storeCells]
theorem run_append_any (base : Nat) (t ty e : TypeId) (i : TypeInfo) (z : Value) (size bytes : Nat) (ht : P.underlying t = some (.slice e)) (hi : P.info? e = some i) (hz : i.zero = some z)
  (hsize : i.size = size) (hby : i.bytes = bytes) (hzs : z.cells.size = size) (hsz : 0 < size)
  (v : Value) (n : Nat) (xs : List Value) (hown : w.ownsRow base e size v n xs)
  (B : Nat) (A : Option Addr) (m c : Nat) (news : List Value) (hr : Reads w B size A m news) (h1 : ∀ u ∈ news, u.oneCell' = true)
  (h63 : n + m <= maxLen) (hbytes : (n + m) * bytes <= 140737488355328) (hbase : base <= w.heap.size) :
  ∃ v' w', (Builtin.append_ #[t, t] ty #[v, .slice A m c]).run P w = .ok v' w' /\ w'.ownsRow base e size v' (n + m) (xs ++ news) /\ w.grownBy w' v.ownBlock /\
   (v'.ownBlock = v.ownBlock \/ v'.ownBlock = some w.heap.size) := by
 rcases A with _ | ad
 ·have hm : m = 0 := by
   rcases Nat.eq_zero_or_pos m with h0 | h0
   ·exact h0
   ·obtain ⟨ad, h, _⟩ := hr.2 h0
    cases h
  subst hm;have hn : news = [] := bZA (by simpa using hr.1);subst hn;exact ⟨v, w, run_append_of_nil w base t ty e i size ht hi v n xs hown c, by simpa using hown, World.grownBy.refl w _, .inl rfl⟩
 ·have hcells : ∀ j u, news[j]? = some u -> w.cell? (ad.add j) = some u := by
   intro j u hu;rcases Nat.eq_zero_or_pos m with h0 | h0
   ·subst h0
    have hn : news = [] := bZA (by simpa using hr.1);subst hn;simp at hu
   ·obtain ⟨ad', h, _, hc⟩ := hr.2 h0
    injection h with h
    subst h;exact hc j u hu
  obtain ⟨v', w', hrun, h2, h3, _, h5⟩ := run_append_own_at (P := P) w base t ty e i z size bytes ht hi hz hsize hby hzs hsz v n xs hown ad m c news hr.1 hcells h1 h63 hbytes hbase;exact ⟨v', w', hrun, h2, h3, h5⟩
end
theorem results_tmp4 {fn : Func} {t u v x : Tmp} (h : fn.results = #[.tmp t, .tmp u, .tmp v, .tmp x]) (tmps : Array Value) (P : Program) (w : World) :
  (results fn tmps).run P w = .ok (.tuple #[tmps.getD t undef, tmps.getD u undef, tmps.getD v undef, tmps.getD x undef]) w := by simp [results, h]
theorem below_drewN {B : Nat} {a w : World} (h : Below B a w) (n : Nat) : Below B a (w.drewN n) := ⟨h.os, h.tape, h.output, h.size, h.block⟩
theorem only_drewN {a w : World} {row : Option Nat} (h : a.grownBy w row) (n : Nat) : a.grownBy (w.drewN n) row := ⟨h.os, h.tape, h.output, h.size, h.block⟩
theorem only_alloc {a w : World} {row : Option Nat} (h : a.grownBy w row) (o : Obj) : a.grownBy (w.alloc o) row :=
 ⟨h.os, h.tape, h.output, aZL h.size (by simp), fun i hi hne => (Below.heap_alloc w o i (aZO hi h.size)).trans (h.block i hi hne)⟩
theorem only_of_below {a w : World} (h : Below a.heap.size a w) (row : Option Nat) : a.grownBy w row := ⟨h.os, h.tape, h.output, h.size, fun i hi _ => h.block i hi⟩
theorem run_make_rowN {P : Program} (t e : TypeId) (i : TypeInfo) (z : Value) (ht : P.underlying t = some (.slice e)) (hi : P.info? e = some i) (hz : i.zero = some z)
  (kl kc : IntKind) (n c : Nat) (hnc : n <= c) (hbytes : i.bytes * c <= 281474976710656) (h63 : c <= 9223372036854775807) (w : World) :
  (Instr.makeSlice t (.int kl (n : Int)) (.int kc (c : Int))).run P w = .ok (.slice (some ⟨w.heap.size, 0, none⟩) n c) (w.alloc (.cells (madeCells z.cells (c * i.size)) e)) := by
 have hb : (i.bytes : Int) * (c : Int) <= 281474976710656 := by
  have h : ((i.bytes * c : Nat) : Int) <= 281474976710656 := by omega
  rwa [Int.natCast_mul] at h
 have hr := run_make (P := P) w t e i z ht hi hz kl kc n c (by omega) (by omega) hb (by omega);simp only [Int.toNat_natCast] at hr;exact hr
structure Cod (α : Type) where
  e : TypeId
  sl : TypeId
  bytes : Nat
  zero : Value
  enc : α -> Value
structure Cod.Ok {α : Type} (cd : Cod α) (P : Program) : Prop where
  under : P.underlying cd.sl = some (.slice cd.e)
  info : (P.info? cd.e).map (fun i => (i.zero, i.size, i.bytes)) = some (some cd.zero, 1, cd.bytes)
  zcell : cd.zero.cells = #[cd.zero]
  one : ∀ x, (cd.enc x).oneCell' = true
def byt (c : UInt8) : Int := (c.toNat : Int)
def wrd (c : UInt64) : Int := (c.toNat : Int)
theorem byt_range (c : UInt8) : 0 <= byt c /\ byt c <= 255 := by unfold byt; have := c.toNat_lt; omega
theorem byt_inj {c d : UInt8} (h : byt c = byt d) : c = d := by unfold byt at h; exact UInt8.toNat_inj.1 (by omega)
theorem wrd_lo (c : UInt64) : 0 <= wrd c := by unfold wrd; omega
theorem byt_xor (x y : UInt8) : bits .xor .u8 (byt x) (byt y) = byt (x ^^^ y) := by
 unfold byt;rw [u8_xor_nat _ _ x.toNat_lt y.toNat_lt, UInt8.toNat_xor]
def cB : Cod UInt8 := ⟨5, 24, 1, .int .u8 0, fun c => .int .u8 (byt c)⟩
def RS {α : Type} (cd : Cod α) (w : World) (B : Nat) (A : Option Addr) (l : List α) : Prop := Reads w B 1 A l.length (l.map cd.enc)
def OS {α : Type} (cd : Cod α) (w : World) (base : Nat) (A : Option Addr) (c : Nat) (l : List α) : Prop :=
  w.ownsRow base cd.e 1 (.slice A l.length c) l.length (l.map cd.enc)
section
variable {α : Type} {cd : Cod α} {w w' : World} {B B' base : Nat} {A : Option Addr} {c : Nat} {l m : List α}
theorem RS.nil (A : Option Addr) : RS cd w B A [] := ⟨by simp, fun h => absurd h (by simp)⟩
theorem RS.below (h : RS cd w B A l) (hb : Below B w w') : RS cd w' B A l := Reads.below h hb
theorem RS.more (h : RS cd w B A l) (hB : B <= B') : RS cd w B' A l := Reads.more h hB
theorem RS.drewN (h : RS cd w B A l) (k : Nat) : RS cd (w.drewN k) B A l := h
theorem RS.alloc (h : RS cd w B A l) (hB : B <= w.heap.size) (o : Obj) : RS cd (w.alloc o) B A l := Reads.alloc h hB o
theorem RS.setCell (h : RS cd w B A l) {p : Addr} (hB : B <= p.block) (u : Value) : RS cd (w.setCell p u) B A l := Reads.setCell h hB u
theorem RS.grown (h : RS cd w B A l) {row : Option Nat} (hg : w.grownBy w' row) (hB : B <= w.heap.size) (hr : ∀ g, row = some g -> B <= g) : RS cd w' B A l := Reads.grown h hg hB hr
theorem RS.at_ (h : RS cd w B A l) {k : Nat} (hk : k < l.length) : ∃ ad x, A = some ad /\ ad.block < B /\ l[k]? = some x /\ w.cell? (ad.add k) = some (cd.enc x) := by
 obtain ⟨ad, e, hb, hc⟩ := h.2 (by omega);refine ⟨ad, l[k], e, hb, aZP hk, hc k _ ?_⟩;simp [bZK, aZP hk]
theorem RS.cut (h : RS cd w B A l) {k cap : Nat} (hk : k <= l.length) (hc : l.length <= cap) :
  RS cd w B (if cap = k then A else A.map (·.add k)) (l.drop k) := by
 have := Reads.cut (k := k) h hk hc;unfold RS;rw [List.length_drop, List.map_drop];simpa using this
theorem RS.take (h : RS cd w B A l) (k : Nat) : RS cd w B A (l.take k) := by
 refine ⟨by simp, fun hn => ?_⟩;obtain ⟨ad, e, hb, hc⟩ := h.2 (by simp at hn; omega);refine ⟨ad, e, hb, fun j u hu => hc j u ?_⟩;rw [List.map_take, List.getElem?_take] at hu
 split at hu
 ·exact hu
 ·cases hu
theorem RS.one' {w1 : World} {g : Nat} {x : α} (h : w1.cell? ⟨g, 0, none⟩ = some (cd.enc x)) : RS cd w1 (g + 1) (some ⟨g, 0, none⟩) [x] := by
 refine ⟨by simp, fun _ => ⟨_, rfl, by simp, fun j u hu => ?_⟩⟩
 match j, hu with
 | 0, hu => simp at hu; subst hu; simpa [Addr.add] using h
 | j + 1, hu => simp at hu
theorem OS.nil (w : World) (base c : Nat) (hc : c = 0) : OS cd w base none c [] := by subst hc; exact World.ownsRow_nil w base cd.e 1
theorem OS.form (h : OS cd w base A c l) : (A = none /\ c = 0 /\ l = []) \/ ∃ g, A = some ⟨g, 0, none⟩ /\ base <= g /\ g < w.heap.size /\ l.length <= c /\ c <= maxLen := by
 rcases h.2 with ⟨hv, hn⟩ | ⟨g, cap, cur, hv, hb, hg, hle, hm, _⟩
 ·injection hv with h1 h2 h3
  exact .inl ⟨h1, h3, bZA hn⟩
 ·injection hv with h1 h2 h3
  subst h1; subst h3;exact .inr ⟨g, rfl, hb, (Array.getElem?_eq_some_iff.1 hg).1, hle, hm⟩
theorem OS.len_le (h : OS cd w base A c l) : l.length <= c /\ c <= maxLen := by
 rcases h.form with ⟨_, rfl, rfl⟩ | ⟨_, _, _, _, h1, h2⟩
 ·simp
 ·exact ⟨h1, h2⟩
theorem OS.reads (h : OS cd w base A c l) : RS cd w w.heap.size A l := Reads.of_own h
theorem OS.block_lt (h : OS cd w base A c l) : ∀ a, A = some a -> base <= a.block /\ a.block < w.heap.size := by
 intro a ha;rcases h.form with ⟨h0, _⟩ | ⟨g, hg, hb, hl, _⟩
 ·rw [h0] at ha; cases ha
 ·rw [hg] at ha; injection ha with ha; subst ha; exact ⟨hb, hl⟩
theorem OS.kept {row : Option Nat} (h : OS cd w base A c l) (hg : w.grownBy w' row) (hne : ∀ a, A = some a -> row ≠ some a.block) : OS cd w' base A c l := by
 refine World.ownsRow.kept h hg ?_
 cases A with
 | none => exact .inl rfl
 | some a => exact .inr (fun e => hne a rfl (by rw [<- e]; rfl))
theorem OS.alloc (h : OS cd w base A c l) (o : Obj) : OS cd (w.alloc o) base A c l := World.ownsRow.alloc h o
theorem OS.drewN (h : OS cd w base A c l) (k : Nat) : OS cd (w.drewN k) base A c l := h
theorem OS.of_block (h : OS cd w base A c l) (hb : ∀ a, A = some a -> w'.heap[a.block]? = w.heap[a.block]?) : OS cd w' base A c l := by
 obtain ⟨h1, h2⟩ := h;refine ⟨h1, ?_⟩;rcases h2 with h2 | ⟨g, cap, cur, hv, hg, hh, r⟩
 ·exact .inl h2
 ·refine .inr ⟨g, cap, cur, hv, hg, ?_, r⟩
  injection hv with hv
  rw [hb _ hv]; exact hh
theorem OS.below (h : OS cd w base A c l) (hb : Below B w w') (hB : w.heap.size <= B) : OS cd w' base A c l :=
 h.of_block fun a ha => hb.block _ (aZO (h.block_lt a ha).2 hB)
theorem OS.setFar (h : OS cd w base A c l) {p : Addr} (hp : ∀ a, A = some a -> a.block ≠ p.block) (u : Value) : OS cd (w.setCell p u) base A c l :=
 h.of_block fun a ha => Below.heap_setCell w p u _ (hp a ha)
theorem OS.mono (h : OS cd w base A c l) (hb : B <= base) : OS cd w B A c l := by
 obtain ⟨h1, h2⟩ := h;refine ⟨h1, ?_⟩;rcases h2 with h2 | ⟨g, cap, cur, hv, hg, r⟩
 ·exact .inl h2
 ·exact .inr ⟨g, cap, cur, hv, by omega, r⟩
theorem OS.take (h : OS cd w base A c l) (k : Nat) (hk : k <= l.length) : OS cd w base A c (l.take k) := by
 obtain ⟨h1, h2⟩ := h;have hlen : (l.take k).length = k := by simp; omega
 refine ⟨by simp, ?_⟩;rcases h2 with ⟨hv, hn⟩ | ⟨g, cap, cur, hv, hb, hg, hle, hm, hs, ht⟩
 ·have hl : l = [] := bZA hn
  subst hl;exact .inl ⟨by simpa using hv, by simp⟩
 ·refine .inr ⟨g, cap, cur, ?_, hb, hg, by rw [hlen]; omega, hm, hs, ?_⟩
  ·injection hv with h1 h2 h3
   rw [h1, h3]
  ·rw [hlen, List.map_take, <- ht, List.take_take]
   congr 1
   omega
theorem OS.at_ (h : OS cd w base A c l) {k : Nat} (hk : k < l.length) : ∃ g x, A = some ⟨g, 0, none⟩ /\ base <= g /\ g < w.heap.size /\ l[k]? = some x /\ w.cell? ⟨g, k, none⟩ = some (cd.enc x) /\ w.frozen? ⟨g, k, none⟩ = false := by
 rcases h.form with ⟨_, _, rfl⟩ | ⟨g, rfl, hb, hl, _⟩
 ·simp at hk
 ·refine ⟨g, l[k], rfl, hb, hl, aZP hk, ?_, World.ownsRow.frozenAt h k⟩
  rw [World.ownsRow.cellAt h k (by omega)];simp [bZK, aZP hk]
theorem OS.set {g : Nat} (h : OS cd w base (some ⟨g, 0, none⟩) c l) (k : Nat) (x : α) : OS cd (w.setCell ⟨g, k, none⟩ (cd.enc x)) base (some ⟨g, 0, none⟩) c (l.set k x) := by
 by_cases hk : k < l.length
 ·have := World.ownsRow.stored h k (cd.enc x)
  unfold OS;rw [List.length_set, List.map_set];exact this.1
 ·rw [List.set_eq_of_length_le (by omega)]
  obtain ⟨h1, h2⟩ := h;refine ⟨h1, ?_⟩;rcases h2 with ⟨hv, _⟩ | ⟨g', cap, cur, hv, hb, hg, hle, hm, hs, ht⟩
  ·cases hv
  ·injection hv with hv _ hc
   injection hv with hv
   injection hv with hv
   subst hv; subst hc;refine .inr ⟨g, c, cur.setIfInBounds k (cd.enc x), rfl, hb, ?_, hle, hm, by simpa using hs, ?_⟩
   ·simp [aZI, Array.getElem?_modify, hg]
   ·rw [<- ht, Array.toList_setIfInBounds, List.take_set_of_le (by omega)]
theorem OS.made (w : World) (n c : Nat) (z : α) (hz : cd.enc z = cd.zero) (hn : n <= c) (hc : c <= maxLen) (hb : base <= w.heap.size) :
  OS cd (w.alloc (.cells (madeCells #[cd.zero] c) cd.e)) base (some ⟨w.heap.size, 0, none⟩) c (List.replicate n z) := by
 refine ⟨by simp, .inr ⟨w.heap.size, c, _, by simp, hb, heap_alloc_new w _, by simpa using hn, hc, by simp [madeCells], ?_⟩⟩;rw [toList_madeCells_one];simp [List.take_replicate, hz];omega
end
theorem OS.madeAt {α : Type} {cd : Cod α} {base g : Nat} (w : World) (n c : Nat) (z : α) (hz : cd.enc z = cd.zero) (hn : n <= c) (hc : c <= maxLen) (hb : base <= w.heap.size) (hg : w.heap.size = g) :
  OS cd (w.alloc (.cells (madeCells #[cd.zero] c) cd.e)) base (some ⟨g, 0, none⟩) c (List.replicate n z) := by
 subst hg; exact OS.made w n c z hz hn hc hb
section
variable {P : Program} (w : World) {α : Type} {cd : Cod α}
theorem run_appS (hok : cd.Ok P) {ty : TypeId} {base : Nat} {A : Option Addr} {c : Nat} {l : List α} (hown : OS cd w base A c l) {B : Nat} {A' : Option Addr} {c' : Nat} {m : List α} (hr : RS cd w B A' m)
  (hbytes : (l.length + m.length) * cd.bytes <= 140737488355328) (hlen : l.length + m.length <= 140737488355328) (hbase : base <= w.heap.size) :
  ∃ A1 c1 w1, (Builtin.append_ #[cd.sl, cd.sl] ty #[.slice A l.length c, .slice A' m.length c']).run P w = .ok (.slice A1 (l.length + m.length) c1) w1 /\ OS cd w1 base A1 c1 (l ++ m) /\ w.grownBy w1 (A.map (·.block)) /\
   (A1.map (·.block) = A.map (·.block) \/ A1.map (·.block) = some w.heap.size) := by
 obtain ⟨i, hi, hz, hz1, hz2⟩ := info_parts hok.info;obtain ⟨v', w', h1, h2, h3, h4⟩ := run_append_any (P := P) w base cd.sl ty cd.e i cd.zero 1 cd.bytes hok.under hi hz hz1 hz2 (by rw [hok.zcell]; rfl) (by omega) _ _ _ hown B A' m.length c' _ hr
  (by intro u hu; simp only [List.mem_map] at hu; obtain ⟨x, _, rfl⟩ := hu; exact hok.one x) (by simp only [maxLen]; omega) hbytes hbase
 have hob : (Value.slice A l.length c).ownBlock = A.map (·.block) := by cases A <;> rfl
 rw [hob] at h3 h4;have hv : ∃ A1 c1, v' = .slice A1 (l.length + m.length) c1 := by
  rcases h2.2 with ⟨rfl, h0⟩ | ⟨g, cap, cur, rfl, _⟩
  ·exact ⟨none, 0, by rw [h0]⟩
  ·exact ⟨_, _, rfl⟩
 obtain ⟨A1, c1, rfl⟩ := hv;have hob1 : (Value.slice A1 (l.length + m.length) c1).ownBlock = A1.map (·.block) := by cases A1 <;> rfl
 rw [hob1] at h4;refine ⟨A1, c1, w', h1, ?_, h3, h4⟩;unfold OS;rw [List.length_append, List.map_append];exact h2
theorem wp_appS (hok : cd.Ok P) {o : Oper} {a : Act} {K : Act -> World -> Prop} {Q : Exit -> Act -> World -> Prop} (s x : Operand)
  (ho : o.op = .call { callee := .builtin .append, args := #[s, x], argTypes := #[cd.sl, cd.sl] })
  {base : Nat} {A : Option Addr} {c n : Nat} {l : List α} (hown : OS cd w base A c l) (hs : a.eval s = .slice A n c) (hn : l.length = n) {B : Nat} {A' : Option Addr} {c' n' : Nat} {m : List α} (hr : RS cd w B A' m) (hx : a.eval x = .slice A' n' c') (hn' : m.length = n')
  (hbytes : (n + n') * cd.bytes <= 140737488355328) (hlen : n + n' <= 140737488355328) (hbase : base <= w.heap.size)
  (h : ∀ A1 c1 w1, OS cd w1 base A1 c1 (l ++ m) -> w.grownBy w1 (A.map (·.block)) -> (A1.map (·.block) = A.map (·.block) \/ A1.map (·.block) = some w.heap.size) -> K (a.put o.dst (.slice A1 (n + n') c1)) w1) : o.wp P a w K Q := by
 subst hn; subst hn';obtain ⟨A1, c1, w1, hrun, h2, h3, h4⟩ := run_appS (P := P) w hok (ty := o.type) hown hr hbytes hlen hbase;unfold Oper.wp execOp;simp only [ho, resolve, invoke, builtin, Sem.run_bind, Sem.run_pure, Result.andThen_ok, List.map_toArray, List.map_cons, List.map_nil, hs, hx];rw [hrun];exact h A1 c1 w1 h2 h3 h4
theorem wpList_appS (hok : cd.Ok P) {ops : Array Oper} {rest : List Oper} {o : Oper} {a : Act} {Q : Exit -> Act -> World -> Prop} (hgd : o.guard = none) (s x : Operand)
  (ho : o.op = .call { callee := .builtin .append, args := #[s, x], argTypes := #[cd.sl, cd.sl] })
  {base : Nat} {A : Option Addr} {c n : Nat} {l : List α} (hown : OS cd w base A c l) (hs : a.eval s = .slice A n c) (hn : l.length = n) {B : Nat} {A' : Option Addr} {c' n' : Nat} {m : List α} (hr : RS cd w B A' m) (hx : a.eval x = .slice A' n' c') (hn' : m.length = n')
  (hbytes : (n + n') * cd.bytes <= 140737488355328) (hlen : n + n' <= 140737488355328) (hbase : base <= w.heap.size)
  (h : ∀ A1 c1 w1, OS cd w1 base A1 c1 (l ++ m) -> w.grownBy w1 (A.map (·.block)) -> (A1.map (·.block) = A.map (·.block) \/ A1.map (·.block) = some w.heap.size) -> wpList P ops Q rest (a.put o.dst (.slice A1 (n + n') c1)) w1) : wpList P ops Q (o :: rest) a w :=
 wpList_plain hgd fun _ hK => wp_appS w hok s x ho hown hs hn hr hx hn' hbytes hlen hbase fun A1 c1 w1 h2 h3 h4 => hK _ _ (h A1 c1 w1 h2 h3 h4)
end
theorem run_makeS {P : Program} {α : Type} {cd : Cod α} (hok : cd.Ok P) (kl kc : IntKind) (n c : Nat) (hnc : n <= c) (hbytes : cd.bytes * c <= 281474976710656) (h63 : c <= 9223372036854775807) (w : World) :
  (Instr.makeSlice cd.sl (.int kl (n : Int)) (.int kc (c : Int))).run P w = .ok (.slice (some ⟨w.heap.size, 0, none⟩) n c) (w.alloc (.cells (madeCells #[cd.zero] c) cd.e)) := by
 obtain ⟨i, hi, hz, hz1, hz2⟩ := info_parts hok.info;have := run_make_rowN (P := P) cd.sl cd.e i cd.zero hok.under hi hz kl kc n c hnc (by rw [hz2]; exact hbytes) h63 w;rw [hok.zcell, hz1, Nat.mul_one] at this;exact this
theorem cB_ok : cB.Ok Tryz.prog := ⟨Tryz.underlying24, by kernel_rfl, rfl, fun _ => rfl⟩
theorem Blk.row {w : World} {g : Nat} {t : TypeId} {cs : Array Value} (h : Blk w g t cs) (cs' : Array Value) : Blk (w.setRow g cs') g t cs' := setRow_heap w g cs cs' t _ h
theorem Blk.rowFar {w : World} {g : Nat} {t : TypeId} {cs : Array Value} (h : Blk w g t cs) {k : Nat} (hk : g ≠ k) (cs' : Array Value) : Blk (w.setRow k cs') g t cs := (setRow_other w k g cs' hk).trans h
theorem below_row {B g : Nat} {a w : World} (h : Below B a w) (hg : B <= g) (cs : Array Value) : Below B a (w.setRow g cs) :=
 h.trans ⟨rfl, rfl, rfl, by simp, fun k hk => setRow_other w g k cs (by omega)⟩
theorem below_put {B g i : Nat} {a w : World} {u : Value} (h : Below B a w) (hg : B <= g) : Below B a (w.setCell ⟨g, i, none⟩ u) := h.setCell (p := ⟨g, i, none⟩) hg u
theorem below_app {α : Type} {cd : Cod α} {B base : Nat} {a w w' : World} {A : Option Addr} {c : Nat} {l : List α} (h : Below B a w) (hown : OS cd w base A c l) (hg : w.grownBy w' (A.map (·.block))) (hB : B <= base) (hs : B <= w.heap.size) : Below B a w' :=
 h.grown hg hs (by
  intro k hk
  cases A with
  | none => cases hk
  | some ad => simp at hk; rw [<- hk]; exact aZL hB (hown.block_lt ad rfl).1)
theorem OS.ne_blk {α : Type} {cd : Cod α} {w : World} {base : Nat} {A : Option Addr} {c : Nat} {l : List α} (h : OS cd w base A c l) {g : Nat} {t : TypeId} {cs : Array Value} (hb : Blk w g t cs) (hne : cd.e ≠ t) : ∀ a, A = some a -> a.block ≠ g := by
 intro a ha e;subst ha;exact own_blk_ne h hb hne (by rw [<- e]; rfl)
theorem OS.ne_row {α : Type} {cd : Cod α} {w : World} {base : Nat} {A : Option Addr} {c : Nat} {l : List α} (h : OS cd w base A c l) {g : Nat} {t : TypeId} {cs : Array Value} (hb : Blk w g t cs) (hne : cd.e ≠ t) : some g ≠ A.map (·.block) := by
 intro e
 cases A with
 | none => cases e
 | some a => simp at e; exact h.ne_blk hb hne a rfl e.symm
theorem grown_undrewN {w w' : World} {k : Nat} {row : Option Nat} (h : (w.drewN k).grownBy w' row) : w.grownBy w' row := ⟨h.os, h.tape, h.output, h.size, h.block⟩
theorem cell_new (w : World) (x : Value) (t : TypeId) : (w.alloc (.cells #[x] t)).cell? ⟨w.heap.size, 0, none⟩ = some x := World.cell?_alloc_at _ _ _ _ rfl
theorem grown_set {a w : World} {R : Option Nat} (h : a.grownBy w R) {p : Addr} (hp : R = some p.block \/ a.heap.size <= p.block) (u : Value) : a.grownBy (w.setCell p u) R :=
 ⟨h.os, h.tape, h.output, by simpa [aZI] using h.size, fun i hi hne => (Below.heap_setCell w p u i (by
  rintro rfl;rcases hp with hp | hp
  ·exact hne hp.symm
  ·omega)).trans (h.block i hi hne)⟩
section
variable (w : World) {ops : Array Oper} {rest : List Oper} {o : Oper} {a : Act} {Q : Exit -> Act -> World -> Prop} {base : Nat} {A : Option Addr} {c n : Nat} {l : List UInt8}
theorem wpList_appB (hgd : o.guard = none) (s x : Operand)
  (ho : o.op = .call { callee := .builtin .append, args := #[s, x], argTypes := #[24, 24] })
  (hown : OS cB w base A c l) (hs : a.eval s = .slice A n c) (hn : l.length = n) {B : Nat} {A' : Option Addr} {c' n' : Nat} {m : List UInt8} (hr : RS cB w B A' m) (hx : a.eval x = .slice A' n' c') (hn' : m.length = n')
  (hlen : n + n' <= 140737488355328) (hbase : base <= w.heap.size)
  (h : ∀ A1 c1 w1, OS cB w1 base A1 c1 (l ++ m) -> w.grownBy w1 (A.map (·.block)) -> (A1.map (·.block) = A.map (·.block) \/ A1.map (·.block) = some w.heap.size) -> wpList Tryz.prog ops Q rest (a.put o.dst (.slice A1 (n + n') c1)) w1) : wpList Tryz.prog ops Q (o :: rest) a w :=
 wpList_appS w cB_ok hgd s x ho hown hs hn hr hx hn' (by show (n + n') * 1 <= _; omega) hlen hbase h
theorem wpList_appB1 (hgd : o.guard = none) (s x : Operand)
  (ho : o.op = .call { callee := .builtin .append, args := #[s, x], argTypes := #[24, 24] })
  (hown : OS cB w base A c l) (hs : a.eval s = .slice A n c) (hn : l.length = n) {g : Nat} {X : Int} (hx : a.eval x = .slice (some ⟨g, 0, none⟩) 1 1) (hcell : w.cell? ⟨g, 0, none⟩ = some (.int .u8 X)) (y : UInt8) (hX : X = byt y)
  (hlen : n + 1 <= 140737488355328) (hbase : base <= w.heap.size)
  (h : ∀ A1 c1 w1, OS cB w1 base A1 c1 (l ++ [y]) -> w.grownBy w1 (A.map (·.block)) -> (A1.map (·.block) = A.map (·.block) \/ A1.map (·.block) = some w.heap.size) -> wpList Tryz.prog ops Q rest (a.put o.dst (.slice A1 (n + 1) c1)) w1) : wpList Tryz.prog ops Q (o :: rest) a w := by
 subst hX;exact wpList_appS w cB_ok hgd s x ho hown hs hn (RS.one' (cd := cB) hcell) hx rfl (by show (n + 1) * 1 <= _; omega) hlen hbase h
variable {K : Act -> World -> Prop} {E : Prop}
end
def Cw (w : World) : World -> Prop := fun w' => ∃ n, w' = w.drewN n
theorem Cw.refl (w : World) : Cw w w := ⟨0, rfl⟩
section
variable {P : Program} {ops : Array Oper} {Q : Exit -> Act -> World -> Prop} {md : Region.Mode} {cls : Nat -> Nat} {S : World -> Prop}
def ancB (md : Region.Mode) (ops : Array Oper) : Nat -> Nat -> Nat -> Bool
  | 0, _, _ => false
  | n + 1, t, i => match ops[t]? with
    | none => false
    | some o => o.after.any (fun e => Region.binds md e && e.on == i) || o.after.any (fun e => Region.binds md e && ancB md ops n e.on i)
def Closed (md : Region.Mode) (ops : Array Oper) (listed : Array Bool) : Prop :=
  ∀ j oj, ops[j]? = some oj -> listed.getD j false = true -> ∀ e ∈ oj.after, Region.binds md e = true -> listed.getD e.on false = true
theorem closed_none (n : Nat) : Closed md ops (Array.replicate n false) := by
 intro j oj _ h;rcases Nat.lt_or_ge j n with h' | h'
 ·simp [h'] at h
 ·simp [h'] at h
theorem Closed.set {listed : Array Bool} {i : Nat} (h : Closed md ops listed) (hi : i ∈ cZD md ops listed) : Closed md ops (listed.setIfInBounds i true) := by
 obtain ⟨_, oi, hoi, hall⟩ := mem_ready.1 hi;intro j oj hj hl e he hb
 by_cases hij : i = j
 ·subst hij
  have : oj = oi := Option.some.inj (hj.symm.trans hoi);subst this;exact getD_set_true (hall e he hb)
 ·rw [getD_set_ne false hij] at hl
  exact getD_set_true (h j oj hj hl e he hb)
theorem ancB_listed {listed : Array Bool} (hc : Closed md ops listed) : ∀ (n t i : Nat), ancB md ops n t i = true -> listed.getD t false = true -> listed.getD i false = true
 | 0, t, i, h, _ => by cases h
 | n + 1, t, i, h, ht => by
  unfold ancB at h
  split at h
  ·cases h
  ·rename_i o ho
   rw [Bool.or_eq_true] at h;rcases h with h | h
   ·obtain ⟨e, he, hb⟩ := Array.any_eq_true'.1 h
    simp only [Bool.and_eq_true, beq_iff_eq] at hb;rw [<- hb.2];exact hc t o ho ht e he hb.1
   ·obtain ⟨e, he, hb⟩ := Array.any_eq_true'.1 h
    simp only [Bool.and_eq_true] at hb;exact ancB_listed hc n e.on i hb.2 (hc t o ho ht e he hb.1)
theorem ancB_ready {listed : Array Bool} (hc : Closed md ops listed) {n t i : Nat} (h : ancB md ops n t i = true) (ht : t ∈ cZD md ops listed) : listed.getD i false = true := by
 obtain ⟨_, o, ho, hall⟩ := mem_ready.1 ht
 cases n with
 | zero => cases h
 | succ n =>
  unfold ancB at h;rw [ho] at h;simp only [Bool.or_eq_true] at h;rcases h with h | h
  ·obtain ⟨e, he, hb⟩ := Array.any_eq_true'.1 h
   simp only [Bool.and_eq_true, beq_iff_eq] at hb;rw [<- hb.2];exact hall e he hb.1
  ·obtain ⟨e, he, hb⟩ := Array.any_eq_true'.1 h
   simp only [Bool.and_eq_true] at hb;exact ancB_listed hc n e.on i hb.2 (hall e he hb.1)
def stepC (P : Program) (ops : Array Oper) (Q : Exit -> Act -> World -> Prop) (S : World -> Prop) (c i : Nat) (K : Act -> World -> Prop) (a : Act) (w : World) : Prop :=
  match c with
  | 0 => ∃ o v, ops[i]? = some o /\ YieldsIf P ops S o v a /\ K (a.put o.dst v) w
  | 1 => ∃ o v, ops[i]? = some o /\ YieldsIn P ops (Cw w) o v a /\ K (a.put o.dst v) w
  | _ => ∀ w', Cw w w' -> wpOp P ops Q i (fun a' w'' => S w'' /\ K a' w'') a w'
def anyC (P : Program) (md : Region.Mode) (ops : Array Oper) (Q : Exit -> Act -> World -> Prop) (S : World -> Prop) (cls : Nat -> Nat) : Nat -> Array Bool -> Act -> World -> Prop
  | 0, listed, a, w => cZD md ops listed = [] /\ ∀ w', Cw w w' -> Q .normal a w'
  | f + 1, listed, a, w => (cZD md ops listed = [] -> ∀ w', Cw w w' -> Q .normal a w') /\
    ∀ i ∈ cZD md ops listed, stepC P ops Q S (cls i) i (anyC P md ops Q S cls f (listed.setIfInBounds i true)) a w
theorem anyC_any (hSd : ∀ w n, S w -> S (w.drewN n)) : ∀ (f : Nat) (listed : Array Bool) (a : Act) (w : World), anyC P md ops Q S cls f listed a w -> S w -> ∀ w', Cw w w' -> wpAny P md ops Q f listed a w'
 | 0, _, _, _, h, _, w', hw => ⟨h.1, h.2 w' hw⟩
 | f + 1, listed, a, w, h, hS, w', hw => by
  have hS' : S w' := by obtain ⟨n, rfl⟩ := hw; exact hSd w n hS
  refine ⟨fun h0 => h.1 h0 w' hw, fun i hi => ?_⟩;have h1 := h.2 i hi;unfold stepC at h1
  split at h1
  ·obtain ⟨o, v, ho, hy, hK⟩ := h1
   exact hy.wpOp ho hS' (anyC_any hSd f _ _ _ hK hS w' hw)
  ·obtain ⟨o, v, ho, hy, hK⟩ := h1
   exact wpOp_of_qOp (C := Cw w) (K := fun a' => anyC P md ops Q S cls f (listed.setIfInBounds i true) a' w) hw (fun a' w'' hw'' hh => anyC_any hSd f _ _ _ hh hS w'' hw'') (hy.qOp ho hK)
  ·exact wpOp_mono (fun a' w'' hh => anyC_any hSd f _ _ _ hh.2 hh.1 w'' (Cw.refl _)) (h1 w' hw)
theorem unready {i : Nat} {oj : Oper} {listed : Array Bool} (hi : i ∈ cZD md ops listed) (hall : ∀ e ∈ oj.after, Region.binds md e = true -> listed.getD e.on false = true) :
  ∀ e ∈ oj.after, Region.binds md e = true -> e.on ≠ i := fun e he hb heq => by
 have h1 := hall e he hb;have h0 := (mem_ready.1 hi).1;rw [heq] at h1;rcases Nat.lt_or_ge i listed.size with h' | h'
 ·simp [h'] at h0 h1; rw [h0] at h1; cases h1
 ·simp [Array.getElem?_eq_none h'] at h1
theorem anyC_pure {i : Nat} {oi : Oper} {v : Value} (hi : ops[i]? = some oi) (hci : cls i = 0) (hsel : ∀ (j : Nat) (o : Oper) cs b, ops[j]? = some o -> o.op ≠ .select cs b)
  (hQ : ∀ c a w, Q (.panic c) (a.put oi.dst v) w -> Q (.panic c) a w) :
  ∀ (f : Nat) (listed : Array Bool) (a : Act) (w : World),
   (∀ j oj, ops[j]? = some oj -> j ≠ i -> listed.getD j true = false -> (∀ e ∈ oj.after, Region.binds md e = true -> e.on ≠ i) -> oi.apart ops oj = true) ->
   i ∈ cZD md ops listed -> YieldsIf P ops S oi v a ->
   anyC P md ops Q S cls f (listed.setIfInBounds i true) (a.put oi.dst v) w -> anyC P md ops Q S cls (f + 1) listed a w := by
 intro f
 induction f with
 | zero =>
  intro listed a w _ hr hy H;refine ⟨fun h => (by rw [h] at hr; cases hr), fun j hj => ?_⟩
  by_cases hji : j = i
  ·subst hji; rw [hci]; exact ⟨oi, v, hi, hy, H⟩
  ·have := ready_mono hj hji
   rw [H.1] at this
   cases this
 | succ f ih =>
  intro listed a w hfree hr hy H;refine ⟨fun h => (by rw [h] at hr; cases hr), fun j hj => ?_⟩
  by_cases hji : j = i
  ·subst hji; rw [hci]; exact ⟨oi, v, hi, hy, H⟩
  ·have h1 := H.2 j (ready_mono hj hji)
   obtain ⟨hjun, oj, hoj, hall⟩ := mem_ready.1 hj;have hap := hfree j oj hoj hji hjun (unready hr hall);obtain ⟨p1, p2, p3⟩ := Oper.apart_spec hap;have hfree' : ∀ k ok, ops[k]? = some ok -> k ≠ i -> (listed.setIfInBounds j true).getD k true = false ->
     (∀ e ∈ ok.after, Region.binds md e = true -> e.on ≠ i) -> oi.apart ops ok = true := fun k ok hk hki hun hno => by
    refine hfree k ok hk hki ?_ hno
    by_cases hjk : j = k
    ·subst hjk; exact hjun
    ·rw [getD_set_ne true hjk] at hun; exact hun
   have keep : ∀ (a : Act), YieldsIf P ops S oi v a -> ∀ u, YieldsIf P ops S oi v (a.put oj.dst u) := fun a hy u =>
    hy.of_same (execOp_put oi (fun cs b => hsel i oi cs b hi) a oj.dst u p3) (wanted_put oi a oj.dst u p3)
   have go : ∀ a' w', YieldsIf P ops S oi v a' -> anyC P md ops Q S cls f ((listed.setIfInBounds i true).setIfInBounds j true) (a'.put oi.dst v) w' -> anyC P md ops Q S cls (f + 1) (listed.setIfInBounds j true) a' w' := fun a' w' hy' h' => by
    refine ih (listed.setIfInBounds j true) a' w' hfree' (ready_mono hr (Ne.symm hji)) hy' ?_;rw [Array.setIfInBounds_comm _ _ hji];exact h'
   unfold stepC at h1 ⊢
   split at h1
   ·obtain ⟨o, u, ho, hyu, hK⟩ := h1
    rw [hoj] at ho; injection ho with ho; subst ho
    refine ⟨oj, u, hoj, hyu.of_same (execOp_put oj (fun cs b => hsel j oj cs b hoj) a oi.dst v p1).symm (wanted_put oj a oi.dst v p1).symm, go _ _ (keep a hy u) ?_⟩;rw [<- Act.put_comm a v u p2];exact hK
   ·obtain ⟨o, u, ho, hyu, hK⟩ := h1
    rw [hoj] at ho; injection ho with ho; subst ho
    refine ⟨oj, u, hoj, hyu.of_same (execOp_put oj (fun cs b => hsel j oj cs b hoj) a oi.dst v p1).symm (wanted_put oj a oi.dst v p1).symm, go _ _ (keep a hy u) ?_⟩;rw [<- Act.put_comm a v u p2];exact hK
   ·exact fun w' hw' => wpOp_mono (fun a' w'' h3 => ⟨h3.2.1, go a' w'' h3.1 h3.2.2⟩) (wpOp_putIf hoj hap (fun cs b => hsel i oi cs b hi) (fun cs b => hsel j oj cs b hoj) hQ hy (h1 w' hw'))
theorem anyC_read {i : Nat} {oi : Oper} {v : Value} (hi : ops[i]? = some oi) (hci : cls i = 1) (hsel : ∀ (j : Nat) (o : Oper) cs b, ops[j]? = some o -> o.op ≠ .select cs b) :
  ∀ (f : Nat) (listed : Array Bool) (a : Act) (w : World),
   (∀ j oj, ops[j]? = some oj -> j ≠ i -> listed.getD j true = false -> (∀ e ∈ oj.after, Region.binds md e = true -> e.on ≠ i) -> oi.apart ops oj = true) ->
   (∀ j oj, ops[j]? = some oj -> listed.getD j true = false -> 2 <= cls j -> ∃ n, ancB md ops n j i = true) -> Closed md ops listed ->
   i ∈ cZD md ops listed -> YieldsIn P ops (Cw w) oi v a ->
   anyC P md ops Q S cls f (listed.setIfInBounds i true) (a.put oi.dst v) w -> anyC P md ops Q S cls (f + 1) listed a w := by
 intro f
 induction f with
 | zero =>
  intro listed a w _ _ _ hr hy H;refine ⟨fun h => (by rw [h] at hr; cases hr), fun j hj => ?_⟩
  by_cases hji : j = i
  ·subst hji; rw [hci]; exact ⟨oi, v, hi, hy, H⟩
  ·have := ready_mono hj hji
   rw [H.1] at this
   cases this
 | succ f ih =>
  intro listed a w hfree hloud hcl hr hy H;refine ⟨fun h => (by rw [h] at hr; cases hr), fun j hj => ?_⟩
  by_cases hji : j = i
  ·subst hji; rw [hci]; exact ⟨oi, v, hi, hy, H⟩
  ·have h1 := H.2 j (ready_mono hj hji)
   obtain ⟨hjun, oj, hoj, hall⟩ := mem_ready.1 hj;have hap := hfree j oj hoj hji hjun (unready hr hall);obtain ⟨p1, p2, p3⟩ := Oper.apart_spec hap;have hfree' : ∀ k ok, ops[k]? = some ok -> k ≠ i -> (listed.setIfInBounds j true).getD k true = false ->
     (∀ e ∈ ok.after, Region.binds md e = true -> e.on ≠ i) -> oi.apart ops ok = true := fun k ok hk hki hun hno => by
    refine hfree k ok hk hki ?_ hno
    by_cases hjk : j = k
    ·subst hjk; exact hjun
    ·rw [getD_set_ne true hjk] at hun; exact hun
   have hloud' : ∀ k ok, ops[k]? = some ok -> (listed.setIfInBounds j true).getD k true = false -> 2 <= cls k -> ∃ n, ancB md ops n k i = true := fun k ok hk hun h2 => by
    refine hloud k ok hk ?_ h2
    by_cases hjk : j = k
    ·subst hjk; exact hjun
    ·rw [getD_set_ne true hjk] at hun; exact hun
   have keep : ∀ (a : Act), YieldsIn P ops (Cw w) oi v a -> ∀ u, YieldsIn P ops (Cw w) oi v (a.put oj.dst u) := fun a hy u =>
    hy.of_same (execOp_put oi (fun cs b => hsel i oi cs b hi) a oj.dst u p3) (wanted_put oi a oj.dst u p3)
   have go : ∀ a', YieldsIn P ops (Cw w) oi v a' -> anyC P md ops Q S cls f ((listed.setIfInBounds i true).setIfInBounds j true) (a'.put oi.dst v) w -> anyC P md ops Q S cls (f + 1) (listed.setIfInBounds j true) a' w := fun a' hy' h' => by
    refine ih (listed.setIfInBounds j true) a' w hfree' hloud' (hcl.set hj) (ready_mono hr (Ne.symm hji)) hy' ?_;rw [Array.setIfInBounds_comm _ _ hji];exact h'
   unfold stepC at h1 ⊢
   split at h1
   ·obtain ⟨o, u, ho, hyu, hK⟩ := h1
    rw [hoj] at ho; injection ho with ho; subst ho
    refine ⟨oj, u, hoj, hyu.of_same (execOp_put oj (fun cs b => hsel j oj cs b hoj) a oi.dst v p1).symm (wanted_put oj a oi.dst v p1).symm, go _ (keep a hy u) ?_⟩;rw [<- Act.put_comm a v u p2];exact hK
   ·obtain ⟨o, u, ho, hyu, hK⟩ := h1
    rw [hoj] at ho; injection ho with ho; subst ho
    refine ⟨oj, u, hoj, hyu.of_same (execOp_put oj (fun cs b => hsel j oj cs b hoj) a oi.dst v p1).symm (wanted_put oj a oi.dst v p1).symm, go _ (keep a hy u) ?_⟩;rw [<- Act.put_comm a v u p2];exact hK
   ·rename_i c0 c1
    exfalso
    have h2 : 2 <= cls j := by
     rcases Nat.lt_or_ge (cls j) 2 with hlt | hge
     ·have : cls j = 0 \/ cls j = 1 := by omega
      rcases this with h | h
      ·exact absurd h c0
      ·exact absurd h c1
     ·exact hge
    obtain ⟨n, hn⟩ := hloud j oj hoj hjun h2;have := ancB_ready hcl hn hj;have hun := (mem_ready.1 hr).1;rcases Nat.lt_or_ge i listed.size with h' | h'
    ·simp [h'] at hun this; rw [hun] at this; cases this
    ·simp [Array.getElem?_eq_none h'] at this
end
section
variable {P : Program} {Q : Exit -> Act -> World -> Prop} {S : World -> Prop}
def ordWalk (P : Program) (ops : Array Oper) (Q : Exit -> Act -> World -> Prop) (S : World -> Prop) : List (Nat × Nat) -> Act -> World -> Prop
  | [], a, w => ∀ w', Cw w w' -> Q .normal a w'
  | (0, i) :: s, a, w => ∃ o v, ops[i]? = some o /\ YieldsIf P ops S o v a /\ ordWalk P ops Q S s (a.put o.dst v) w
  | (1, i) :: s, a, w => ∃ o v, ops[i]? = some o /\ YieldsIn P ops (Cw w) o v a /\ ordWalk P ops Q S s (a.put o.dst v) w
  | (_, i) :: s, a, w => ∀ w', Cw w w' -> wpOp P ops Q i (fun a' w'' => S w'' /\ ordWalk P ops Q S s a' w'') a w'
def clsOf (s : List (Nat × Nat)) (i : Nat) : Nat := ((s.find? fun p => p.2 == i).map (·.1)).getD 2
def ordB (md : Region.Mode) (ops : Array Oper) (all : List (Nat × Nat)) : List (Nat × Nat) -> Array Bool -> Bool
  | [], listed => (cZD md ops listed).isEmpty
  | (c, i) :: s, listed => (cZD md ops listed).contains i && clsOf all i == c &&
    (match c with
     | 0 => Region.free md ops listed i
     | 1 => Region.free md ops listed i && (List.range ops.size).all fun j => listed.getD j true || decide (clsOf all j < 2) || ancB md ops 4 j i
     | _ => cZD md ops listed == [i]) && ordB md ops all s (listed.setIfInBounds i true)
def pureUpon (w : World) (v : Value) : Result Next -> Prop
  | .ok (.value u) w' => w' = w /\ u = v
  | _ => False
theorem pureUpon_spec {w : World} {v : Value} {r : Result Next} (h : pureUpon w v r) : r = .ok (.value v) w := by
 cases r with
 | ok n w' => cases n <;> simp only [pureUpon] at h; obtain ⟨rfl, rfl⟩ := h; rfl
 | halt x w' => simp only [pureUpon] at h
end
inductive Ords
  | fin
  | one (c i : Nat) (t : Ords)
  | two (i j : Nat) (a b : Ords)
def Ords.size : Ords -> Nat
  | .fin => 0
  | .one _ _ t => t.size + 1
  | .two _ _ a _ => a.size + 1
def Ords.left : Ords -> List (Nat × Nat)
  | .fin => []
  | .one c i t => (c, i) :: t.left
  | .two i j a _ => (2, i) :: (2, j) :: a.left
section
variable {P : Program} {Q : Exit -> Act -> World -> Prop} {S : World -> Prop}
def ordsWalk (P : Program) (ops : Array Oper) (Q : Exit -> Act -> World -> Prop) (S : World -> Prop) : Ords -> Act -> World -> Prop
  | .fin, a, w => ∀ w', Cw w w' -> Q .normal a w'
  | .one 0 i s, a, w => ∃ o v, ops[i]? = some o /\ YieldsIf P ops S o v a /\ ordsWalk P ops Q S s (a.put o.dst v) w
  | .one 1 i s, a, w => ∃ o v, ops[i]? = some o /\ YieldsIn P ops (Cw w) o v a /\ ordsWalk P ops Q S s (a.put o.dst v) w
  | .one _ i s, a, w => ∀ w', Cw w w' -> wpOp P ops Q i (fun a' w'' => S w'' /\ ordsWalk P ops Q S s a' w'') a w'
  | .two i j s t, a, w => (∀ w', Cw w w' -> wpOp P ops Q i (fun a' w'' => S w'' /\ ordsWalk P ops Q S s a' w'') a w') /\ (∀ w', Cw w w' -> wpOp P ops Q j (fun a' w'' => S w'' /\ ordsWalk P ops Q S t a' w'') a w')
def ordsB (md : Region.Mode) (ops : Array Oper) (all : List (Nat × Nat)) : Ords -> Array Bool -> Bool
  | .fin, listed => (cZD md ops listed).isEmpty
  | .one c i s, listed => (cZD md ops listed).contains i && clsOf all i == c &&
    (match c with
     | 0 => Region.free md ops listed i
     | 1 => Region.free md ops listed i && (List.range ops.size).all fun j => listed.getD j true || decide (clsOf all j < 2) || ancB md ops 4 j i
     | _ => cZD md ops listed == [i]) && ordsB md ops all s (listed.setIfInBounds i true)
  | .two i j s t, listed => cZD md ops listed == [i, j] && decide (2 <= clsOf all i) && decide (2 <= clsOf all j) && s.size == t.size && ordsB md ops all s (listed.setIfInBounds i true) && ordsB md ops all t (listed.setIfInBounds j true)
theorem stepC_loud {ops : Array Oper} {c i : Nat} {K : Act -> World -> Prop} {a : Act} {w : World} (hc : 2 <= c) (h : ∀ w', Cw w w' -> wpOp P ops Q i (fun a' w'' => S w'' /\ K a' w'') a w') : stepC P ops Q S c i K a w := by
 match c, hc with
 | c + 2, _ => exact h
theorem anyC_of_ords {md : Region.Mode} {ops : Array Oper} {all : List (Nat × Nat)} (hsel : Region.noSelect ops = true) (hQ : ∀ c a d v w, Q (.panic c) (a.put d v) w -> Q (.panic c) a w) :
  ∀ (s : Ords) (listed : Array Bool) (a : Act) (w : World), Closed md ops listed -> ordsB md ops all s listed = true -> ordsWalk P ops Q S s a w -> anyC P md ops Q S (clsOf all) s.size listed a w
 | .fin, listed, a, w, _, hB, h => ⟨by simpa [ordsB] using hB, h⟩
 | .one c i s, listed, a, w, hcl, hB, h => by
  simp only [ordsB, Bool.and_eq_true, beq_iff_eq] at hB;obtain ⟨⟨⟨hr, hc⟩, hm⟩, hs⟩ := hB;have hr' : i ∈ cZD md ops listed := by simpa using hr
  match c, hc, hm, h with
  | 0, hc, hm, h =>
   obtain ⟨o, v, ho, hy, hK⟩ := h;exact anyC_pure ho hc (Region.noSelect_spec hsel) (fun c a w => hQ c a _ _ w) s.size listed a w (Region.free_spec ho hm) hr' hy (anyC_of_ords hsel hQ s _ _ _ (hcl.set hr') hs hK)
  | 1, hc, hm, h =>
   obtain ⟨o, v, ho, hy, hK⟩ := h;simp only [Bool.and_eq_true] at hm;refine anyC_read ho hc (Region.noSelect_spec hsel) s.size listed a w (Region.free_spec ho hm.1) (fun j oj hj hun h2 => ⟨4, ?_⟩) hcl hr' hy (anyC_of_ords hsel hQ s _ _ _ (hcl.set hr') hs hK);have h3 := List.all_eq_true.1 hm.2 j (List.mem_range.2 (Array.getElem?_eq_some_iff.1 hj).1);simp only [Bool.or_eq_true, decide_eq_true_eq] at h3;rcases h3 with (h3 | h3) | h3
   ·rw [hun] at h3; cases h3
   ·omega
   ·exact h3
  | c + 2, hc, hm, h =>
   have hm' : cZD md ops listed = [i] := by simpa using hm
   refine ⟨fun h0 => (by rw [h0] at hm'; cases hm'), fun j hj => ?_⟩;rw [hm'] at hj;have hji : j = i := by simpa using hj
   subst hji;rw [hc];exact stepC_loud (by omega) fun w' hw' => wpOp_mono (fun a' w'' h' => ⟨h'.1, anyC_of_ords hsel hQ s _ _ _ (hcl.set hr') hs h'.2⟩) (h w' hw')
 | .two i j s t, listed, a, w, hcl, hB, h => by
  simp only [ordsB, Bool.and_eq_true, beq_iff_eq, decide_eq_true_eq] at hB;obtain ⟨⟨⟨⟨⟨hm, hi2⟩, hj2⟩, hsz⟩, hs⟩, ht⟩ := hB;refine ⟨fun h0 => (by rw [h0] at hm; cases hm), fun k hk => ?_⟩;have hk0 := hk;rw [hm] at hk;have hk' : k = i \/ k = j := by simpa using hk
  rcases hk' with rfl | rfl
  ·exact stepC_loud hi2 fun w' hw' => wpOp_mono (fun a' w'' h' => ⟨h'.1, anyC_of_ords hsel hQ s _ _ _ (hcl.set hk0) hs h'.2⟩) (h.1 w' hw')
  ·refine stepC_loud hj2 fun w' hw' => wpOp_mono (fun a' w'' h' => ⟨h'.1, ?_⟩) (h.2 w' hw')
   rw [hsz];exact anyC_of_ords hsel hQ t _ _ _ (hcl.set hk0) ht h'.2
theorem wp_region_ords {id : Nat} {a : Act} {w : World} {l : List Oper} (S : World -> Prop) (hSd : ∀ w n, S w -> S (w.drewN n)) (s : Ords) (hm : P.follows .mixedOrders = true) (hlen : s.size = l.length) (hsel : Region.noSelect l.toArray = true) (hB : ordsB .any l.toArray s.left s (Array.replicate l.length false) = true)
  (hQ : ∀ c a d v w, Q (.panic c) (a.put d v) w -> Q (.panic c) a w) (hS : S w) (h : ordsWalk P l.toArray Q S s a w) : (Code.region id l.toArray true).wp P Q a w := by
 refine wp_region_any hm ?_;have h1 := anyC_of_ords hsel hQ s (Array.replicate l.length false) a w (closed_none _) hB h;rw [hlen] at h1;have h2 := anyC_any hSd _ _ _ _ h1 hS w.drew ⟨1, rfl⟩;simpa using h2
theorem wrZ {P : Program} {Q : Exit -> Act -> World -> Prop} {id : Nat} {a : Act} {w : World} {l : List Oper} (S : World -> Prop) (hSd : ∀ w n, S w -> S (w.drewN n)) (s : Ords) (hS : S w) (h : ordsWalk P l.toArray Q S s a w) (hm : P.follows .mixedOrders = true := by kernel_rfl) (hlen : s.size = l.length := by exact rfl) (hsel : Region.noSelect l.toArray = true := by kernel_rfl) (hB : ordsB .any l.toArray s.left s (Array.replicate l.length false) = true := by kernel_rfl)
    (hQ : ∀ c a d v w, Q (.panic c) (a.put d v) w -> Q (.panic c) a w := by (intro c a d v w h; cases d <;> exact h)) : (Code.region id l.toArray true).wp P Q a w := wp_region_ords S hSd s hm hlen hsel hB hQ hS h
theorem ords_pure {ops : Array Oper} {i : Nat} {s : Ords} {a : Act} {w : World} {o : Oper} (ho : ops[i]? = some o)
  (h : ∀ K : Act -> Prop, (∀ a, ordsWalk P ops Q S s a w -> K a) -> if bZO o (yielded ops a.tmps) then ∃ v, (∀ w, pureUpon w v ((execOp a.eval o).run P w)) /\ K (a.put o.dst v) else K (a.put o.dst undef)) : ordsWalk P ops Q S (.one 0 i s) a w := by
 have h1 := h _ (fun _ h => h)
 by_cases hw : bZO o (yielded ops a.tmps) = true
 ·rw [if_pos hw] at h1
  obtain ⟨v, hv, hK⟩ := h1;exact ⟨o, v, ho, .inl ⟨hw, fun w _ => pureUpon_spec (hv w)⟩, hK⟩
 ·rw [if_neg hw] at h1
  exact ⟨o, undef, ho, .inr ⟨by simpa using hw, rfl⟩, h1⟩
theorem ords_held {ops : Array Oper} {i : Nat} {s : Ords} {a : Act} {w : World} {o : Oper} {v : Value} (ho : ops[i]? = some o) (hw : bZO o (yielded ops a.tmps) = true)
  (hv : ∀ w, S w -> pureUpon w v ((execOp a.eval o).run P w)) (h : ordsWalk P ops Q S s (a.put o.dst v) w) : ordsWalk P ops Q S (.one 0 i s) a w :=
 ⟨o, v, ho, .inl ⟨hw, fun w hS => pureUpon_spec (hv w hS)⟩, h⟩
theorem ords_read {ops : Array Oper} {i : Nat} {s : Ords} {a : Act} {w : World} {o : Oper} (ho : ops[i]? = some o)
  (h : ∀ K : Act -> Prop, (∀ a, ordsWalk P ops Q S s a w -> K a) -> if bZO o (yielded ops a.tmps) then o.quiet P a (fun w' => ∃ n, w' = w.drewN n) K else K (a.put o.dst undef)) : ordsWalk P ops Q S (.one 1 i s) a w := by
 have h1 := h _ (fun _ h => h)
 by_cases hw : bZO o (yielded ops a.tmps) = true
 ·rw [if_pos hw] at h1
  obtain ⟨v, hv, hK⟩ := h1;exact ⟨o, v, ho, .inl ⟨hw, hv⟩, hK⟩
 ·rw [if_neg hw] at h1
  exact ⟨o, undef, ho, .inr ⟨by simpa using hw, rfl⟩, h1⟩
theorem loud_of_list {ops : Array Oper} {i : Nat} {K : Act -> World -> Prop} {a : Act} {w : World} {o : Oper} (ho : ops[i]? = some o)
  (h : ∀ n, wpList P ops (Exit.then (fun a w => S w /\ K a w) Q) [o] a (w.drewN n)) : ∀ w', Cw w w' -> wpOp P ops Q i (fun a' w'' => S w'' /\ K a' w'') a w' := by
 rintro w' ⟨n, rfl⟩;have h1 := h n;unfold wpOp;rw [ho]
 dsimp only
 simp only [wpList] at h1
 split
 ·rename_i hw
  rw [if_pos hw] at h1;rcases h1 with h1 | ⟨h1, h2⟩
  ·refine .inl ?_
   unfold Oper.wp at *;generalize (execOp a.eval o).run P (w.drewN n) = r at *
   cases r with
   | ok x w' =>
    cases x <;> simp only [Oper.upon] at h1 ⊢
    case value => exact h1
    case skip => exact h1
    case defer => exact h1
    case enter =>
     refine Calls.mono h1 fun e w'' he => ?_
     cases e with
     | returned u => exact he
     | panicked c => exact he
     | outgrown => exact he
    case row => exact h1
   | halt x w' => cases x <;> simp only [Oper.upon] at h1 ⊢ <;> exact h1
  ·exact .inr ⟨h1, h2⟩
 ·rename_i hw
  rw [if_neg hw] at h1;exact h1
theorem ords_loud {ops : Array Oper} {i : Nat} {s : Ords} {a : Act} {w : World} {o : Oper} (ho : ops[i]? = some o)
  (h : ∀ n, wpList P ops (Exit.then (fun a w => S w /\ ordsWalk P ops Q S s a w) Q) [o] a (w.drewN n)) : ordsWalk P ops Q S (.one 2 i s) a w :=
 loud_of_list ho h
theorem ords_two {ops : Array Oper} {i j : Nat} {s t : Ords} {a : Act} {w : World} {o p : Oper} (ho : ops[i]? = some o) (hp : ops[j]? = some p)
  (h : ∀ n, wpList P ops (Exit.then (fun a w => S w /\ ordsWalk P ops Q S s a w) Q) [o] a (w.drewN n)) (k : ∀ n, wpList P ops (Exit.then (fun a w => S w /\ ordsWalk P ops Q S t a w) Q) [p] a (w.drewN n)) : ordsWalk P ops Q S (.two i j s t) a w :=
 ⟨loud_of_list ho h, loud_of_list hp k⟩
theorem ords_end {ops : Array Oper} {a : Act} {w : World} (h : ∀ n, Q .normal a (w.drewN n)) : ordsWalk P ops Q S .fin a w := by
 rintro w' ⟨n, rfl⟩; exact h n
theorem ords_heldK {ops : Array Oper} {i : Nat} {s : Ords} {a : Act} {w : World} {o : Oper} (ho : ops[i]? = some o)
  (h : ∀ (K : Act -> Prop) (K' : Value -> Prop), (∀ a, ordsWalk P ops Q S s a w -> K a) -> (∀ v, (∀ w', S w' -> pureUpon w' v ((execOp a.eval o).run P w')) -> K' v) ->
   if bZO o (yielded ops a.tmps) then ∃ v, pureUpon w v ((execOp a.eval o).run P w) /\ K' v /\ K (a.put o.dst v) else K (a.put o.dst undef)) : ordsWalk P ops Q S (.one 0 i s) a w := by
 have h1 := h _ _ (fun _ h => h) (fun _ h => h)
 by_cases hw : bZO o (yielded ops a.tmps) = true
 ·rw [if_pos hw] at h1
  obtain ⟨v, _, hv, hK⟩ := h1;exact ords_held ho hw hv hK
 ·rw [if_neg hw] at h1
  exact ⟨o, undef, ho, .inr ⟨by simpa using hw, rfl⟩, h1⟩
theorem wp_region_B {id : Nat} {a : Act} {w : World} {l : List Oper} (s : Ords) (hm : P.follows .mixedOrders = true) (hlen : s.size = l.length) (hsel : Region.noSelect l.toArray = true) (hB : ordsB .any l.toArray s.left s (Array.replicate l.length false) = true)
  (hQ : ∀ c a d v w, Q (.panic c) (a.put d v) w -> Q (.panic c) a w) (h : ordsWalk P l.toArray Q (fun w' => Below w.heap.size w w') s a w) : (Code.region id l.toArray true).wp P Q a w :=
 wp_region_ords (fun w' => Below w.heap.size w w') (fun _ _ h => ⟨h.os, h.tape, h.output, h.size, h.block⟩) s hm hlen hsel hB hQ (Below.refl _ _) h
def Ords.of : List (Nat × Nat) -> Ords -> Ords
  | [], t => t
  | (c, i) :: s, t => .one c i (Ords.of s t)
end
section
variable {W w1 : World} {G : Prop}
theorem with0 (hb : Below W.heap.size W w1) (h : (∀ b o, b < W.heap.size -> w1.cell? ⟨b, o, none⟩ = W.cell? ⟨b, o, none⟩) -> (∀ b o, b < W.heap.size -> w1.frozen? ⟨b, o, none⟩ = W.frozen? ⟨b, o, none⟩) -> G) : G :=
 h (fun b o h => hb.cell (p := ⟨b, o, none⟩) h) (fun b o h => hb.frozen (p := ⟨b, o, none⟩) h)
theorem withN {n : Nat} (hb : Below (W.drewN n).heap.size (W.drewN n) w1) (h : (∀ b o, b < W.heap.size -> w1.cell? ⟨b, o, none⟩ = W.cell? ⟨b, o, none⟩) -> (∀ b o, b < W.heap.size -> w1.frozen? ⟨b, o, none⟩ = W.frozen? ⟨b, o, none⟩) -> G) : G :=
 h (fun b o h => hb.cell (p := ⟨b, o, none⟩) h) (fun b o h => hb.frozen (p := ⟨b, o, none⟩) h)
end
theorem undrN {W w1 : World} {n : Nat} (hb : Below (W.drewN n).heap.size (W.drewN n) w1) : Below W.heap.size W w1 := ⟨hb.os, hb.tape, hb.output, hb.size, hb.block⟩
theorem b0 (w : World) : Below w.heap.size w w := Below.refl _ _
theorem bal {w w1 : World} (h : Below w.heap.size w w1) (o : Obj) : Below w.heap.size w (w1.alloc o) := h.alloc h.size o
theorem bdr {w w1 : World} (h : Below w.heap.size w w1) (n : Nat) : Below w.heap.size w (w1.drewN n) := below_drewN h n
theorem bcall {w w1 w2 : World} (h : Below w.heap.size w w1) (h2 : Below w1.heap.size w1 w2) : Below w.heap.size w w2 := h.trans (h2.mono h.size)
theorem bput {w w1 : World} (h : Below w.heap.size w w1) {p : Addr} (hp : w.heap.size <= p.block) (u : Value) : Below w.heap.size w (w1.setCell p u) := h.setCell hp u
theorem bapp {α : Type} {cd : Cod α} {w w1 w' : World} {A : Option Addr} {c : Nat} {l : List α} (h : Below w.heap.size w w1) (hown : OS cd w1 w.heap.size A c l) (hg : w1.grownBy w' (A.map (·.block))) : Below w.heap.size w w' :=
 below_app h hown hg (Nat.le_refl _) h.size
theorem cnew (W : World) (x : Value) (t : TypeId) {g : Nat} (h : W.heap.size = g) : (W.alloc (.cells #[x] t)).cell? ⟨g, 0, none⟩ = some x := by subst h; exact cell_new W x t
theorem fill_put {α : Type} (z : List α) (k n : Nat) (a v : α) (hk : k < n) (hz : z[k]? = some v) : (z.take k ++ List.replicate (n - k) a).set k v = z.take (k + 1) ++ List.replicate (n - (k + 1)) a := by
 obtain ⟨m, hm⟩ : ∃ m, n - k = m + 1 := ⟨n - k - 1, by omega⟩;have hm2 : n - (k + 1) = m := by omega
 have hl : (z.take k).length = k := by have := (List.getElem?_eq_some_iff.1 hz).1; simp; omega
 rw [hm, hm2, List.take_add_one, hz, List.replicate_succ, List.set_append, if_neg (by rw [hl]; omega), hl, Nat.sub_self, List.set_cons_zero, List.append_assoc]
 rfl
theorem fill_len {α : Type} (z : List α) (k n : Nat) (a : α) (hk : k <= n) (hz : z.length = n) : (z.take k ++ List.replicate (n - k) a).length = n := by simp; omega
theorem ret_int {k : IntKind} {a b : Int} (h : a = b) : bZR (.int k a) = .returned (.int k b) := by rw [h]
theorem ret_bool {a b : Bool} (h : a = b) : bZR (.bool a) = .returned (.bool b) := by rw [h]
theorem gdr {w w1 : World} {R : Option Nat} (h : w.grownBy w1 R) (n : Nat) : w.grownBy (w1.drewN n) R := ⟨h.os, h.tape, h.output, h.size, h.block⟩
theorem bgr {w w1 w2 : World} {g : Nat} (h : Below w.heap.size w w1) (hg : w1.grownBy w2 (some g)) (hw : w.heap.size <= g) : Below w.heap.size w w2 :=
 h.grown hg h.size (fun k hk => by injection hk with hk; omega)
theorem grown_grown {a w w' : World} {g : Nat} (h : a.grownBy w (some g)) (hb : w.grownBy w' (some g)) : a.grownBy w' (some g) :=
 ⟨hb.os.trans h.os, hb.tape.trans h.tape, hb.output.trans h.output, aZL h.size hb.size, fun i hi hne => (hb.block i (aZO hi h.size) hne).trans (h.block i hi hne)⟩
theorem grown_below {a w w' : World} {R : Option Nat} (h : a.grownBy w R) (hb : Below w.heap.size w w') : a.grownBy w' R :=
 ⟨hb.os.trans h.os, hb.tape.trans h.tape, hb.output.trans h.output, aZL h.size hb.size, fun i hi hne => (hb.block i (aZO hi h.size)).trans (h.block i hi hne)⟩
theorem gdr_in {w w' : World} {R : Option Nat} {n : Nat} (h : (w.drewN n).grownBy w' R) : w.grownBy w' R := ⟨h.os, h.tape, h.output, h.size, h.block⟩
theorem results_cell_tmp {P : Program} {fn : Func} {p q : Tmp} {ty : TypeId} (h : fn.results = #[.cell p ty, .tmp q]) (tmps : Array Value) (w : World) (g : Nat) (t : TypeId) (cs : Array Value) (d : TypeDesc)
  (hp : tmps.getD p undef = .pointer (some ⟨g, 0, none⟩)) (hg : Blk w g t cs) (hu : P.underlying ty = some d) (hd : (match d with | .struct _ | .array _ _ => true | _ => false) = true) (hi : (P.info? ty).map (·.size) = some cs.size) :
  (results fn tmps).run P w = .ok (.tuple #[.agg cs, tmps.getD q undef]) w := by
 have hl := run_loadVar_row (P := P) w g t ty cs (0, 0) d hg hu hd hi;have hp' : tmps[p]?.getD undef = .pointer (some ⟨g, 0, none⟩) := by simpa using hp
 simp [results, h, hp', asAddr, hl]
theorem brow {w w1 : World} (h : Below w.heap.size w w1) {g : Nat} (hg : w.heap.size <= g) (cs : Array Value) : Below w.heap.size w (w1.setRow g cs) := below_row h hg cs
def icv (n : Nat) : Value := .int .i64 n
def ics (l : List Nat) : Array Value := (l.map icv).toArray
theorem ics_size (l : List Nat) : (ics l).size = l.length := by simp [ics]
theorem ics_get (l : List Nat) (i : Nat) (h : i < l.length) : (ics l)[i]? = some (icv (l.getD i 0)) := by
 simp [ics, bZK, aZP h]
theorem ics_all (l : List Nat) : (ics l).all (·.oneCell') = true := by simp [ics, icv, Value.oneCell']
def laidOver : Array Value -> Nat -> List Value -> Array Value
  | cs, _, [] => cs
  | cs, o, v :: r => laidOver (cs.setIfInBounds o v) (o + 1) r
theorem Blk.setCells {g : Nat} {t : TypeId} : ∀ (vs : List Value) {w : World} {cs : Array Value} (o : Nat), Blk w g t cs -> Blk (w.setCells g o vs) g t (laidOver cs o vs)
 | [], _, _, _, h => h
 | v :: r, w, cs, o, h => by rw [cZI]; exact Blk.setCells r (o + 1) (h.set_ o v)
theorem Blk.setCellsFar {g k : Nat} {t : TypeId} {cs : Array Value} : ∀ (vs : List Value) {w : World} (o : Nat), Blk w g t cs -> g ≠ k -> Blk (w.setCells k o vs) g t cs
 | [], _, _, h, _ => h
 | v :: r, w, o, h, hk => by rw [cZI]; exact Blk.setCellsFar r (o + 1) (h.far (p := ⟨k, o, none⟩) hk v) hk
theorem grown_setCells {w : World} {k : Nat} : ∀ (vs : List Value) {w1 : World} (o : Nat), w.grownBy w1 (some k) -> w.grownBy (w1.setCells k o vs) (some k)
 | [], _, _, h => h
 | v :: r, w1, o, h => by rw [cZI]; exact grown_setCells r (o + 1) (grown_set h (p := ⟨k, o, none⟩) (.inl rfl) v)
theorem Blk.range {w : World} {g : Nat} {t : TypeId} {cs : Array Value} (h : Blk w g t cs) (o n : Nat) : w.rangeAt g o (cs.extract o (o + n)).toList := World.rangeAt_of_block h o n
theorem Blk.there {w : World} {g : Nat} {t : TypeId} {cs : Array Value} (h : Blk w g t cs) (o n : Nat) (hn : o + n <= cs.size) : w.there g o n := fun j hj =>
 ⟨by rw [h.cell, Array.getElem?_eq_getElem (by omega)]; rfl, h.frozen _⟩
def slLen : Value -> Nat
  | .slice _ n _ => n
  | _ => 0
structure Grown2 (w w' : World) (R S : Option Nat) : Prop where
  os : w'.os = w.os
  tape : w'.tape = w.tape
  output : w'.output = w.output
  size : w.heap.size <= w'.heap.size
  block : ∀ k, k < w.heap.size -> some k ≠ R -> some k ≠ S -> w'.heap[k]? = w.heap[k]?
section
variable {w w1 w2 : World} {R S : Option Nat}
theorem Grown2.refl (w : World) (R S : Option Nat) : Grown2 w w R S := ⟨rfl, rfl, rfl, Nat.le_refl _, fun _ _ _ _ => rfl⟩
theorem Grown2.below (h : Grown2 w w1 R S) (hb : Below w1.heap.size w1 w2) : Grown2 w w2 R S :=
 ⟨hb.os.trans h.os, hb.tape.trans h.tape, hb.output.trans h.output, aZL h.size hb.size, fun k hk h1 h2 => (hb.block k (aZO hk h.size)).trans (h.block k hk h1 h2)⟩
theorem Grown2.drewN (h : Grown2 w w1 R S) (n : Nat) : Grown2 w (w1.drewN n) R S := ⟨h.os, h.tape, h.output, h.size, h.block⟩
theorem Grown2.grown (h : Grown2 w w1 R S) {T : Option Nat} (hg : w1.grownBy w2 T) (hT : T = R \/ T = S \/ ∀ k, T = some k -> w.heap.size <= k) : Grown2 w w2 R S :=
 ⟨hg.os.trans h.os, hg.tape.trans h.tape, hg.output.trans h.output, aZL h.size hg.size, fun k hk h1 h2 => (hg.block k (aZO hk h.size) (fun e => by
  rcases hT with rfl | rfl | hT
  ·exact h1 e
  ·exact h2 e
  ·have := hT k e.symm; omega)).trans (h.block k hk h1 h2)⟩
theorem Grown2.setCell (h : Grown2 w w1 R S) {p : Addr} (hp : R = some p.block) (u : Value) : Grown2 w (w1.setCell p u) R S :=
 h.grown (T := some p.block) ⟨rfl, rfl, rfl, by simp [aZI], fun k _ hk => Below.heap_setCell w1 p u k (fun e => hk (by rw [e]))⟩ (.inl hp.symm)
theorem Grown2.setCells {g : Nat} : ∀ (vs : List Value) {w1 : World} (o : Nat), Grown2 w w1 (some g) S -> Grown2 w (w1.setCells g o vs) (some g) S
 | [], _, _, h => h
 | v :: r, w1, o, h => by rw [cZI]; exact Grown2.setCells r (o + 1) (h.setCell (p := ⟨g, o, none⟩) rfl v)
theorem Grown2.toBelow (h : Grown2 w w1 R S) {B : Nat} (hB : B <= w.heap.size) (hR : ∀ k, R = some k -> B <= k) (hS : ∀ k, S = some k -> B <= k) : Below B w w1 :=
 ⟨h.os, h.tape, h.output, h.size, fun k hk => h.block k (by omega) (fun e => by have := hR k e.symm; omega) (fun e => by have := hS k e.symm; omega)⟩
theorem RS.keep2 {α : Type} {cd : Cod α} {B : Nat} {A : Option Addr} {l : List α} (h : RS cd w B A l) (hB : B <= w.heap.size) (hg : Grown2 w w1 R S) (hA : ∀ a, A = some a -> some a.block ≠ R /\ some a.block ≠ S) : RS cd w1 B A l := by
 refine ⟨h.1, fun hn => ?_⟩;obtain ⟨ad, e, hb, hc⟩ := h.2 hn;obtain ⟨h1, h2⟩ := hA ad e;refine ⟨ad, e, hb, fun j u hu => ?_⟩;have hbl : (ad.add j).block = ad.block := block_of_add ad j;rw [<- hc j u hu];exact World.cell?_of_block (by rw [hbl]; exact hg.block ad.block (by omega) h1 h2)
theorem OS.keep2 {α : Type} {cd : Cod α} {base c : Nat} {A : Option Addr} {l : List α} (h : OS cd w base A c l) (hg : Grown2 w w1 R S) (hA : ∀ a, A = some a -> some a.block ≠ R /\ some a.block ≠ S) : OS cd w1 base A c l :=
 h.of_block fun a ha => hg.block a.block (h.block_lt a ha).2 (hA a ha).1 (hA a ha).2
theorem Blk.keep2 {g : Nat} {t : TypeId} {cs : Array Value} (h : Blk w g t cs) (hg : Grown2 w w1 R S) (h1 : some g ≠ R) (h2 : some g ≠ S) : Blk w1 g t cs := (hg.block g h.lt h1 h2).trans h
theorem Grown2.trans (h : Grown2 w w1 R S) {R' S' : Option Nat} (h2 : Grown2 w1 w2 R' S') (hR : R' = R \/ R' = S \/ ∀ k, R' = some k -> w.heap.size <= k) (hS : S' = R \/ S' = S \/ ∀ k, S' = some k -> w.heap.size <= k) : Grown2 w w2 R S :=
 ⟨h2.os.trans h.os, h2.tape.trans h.tape, h2.output.trans h.output, aZL h.size h2.size, fun k hk a b => (h2.block k (aZO hk h.size)
  (fun e => by rcases hR with rfl | rfl | hR <;> first | exact a e | exact b e | (have := hR k e.symm; omega))
  (fun e => by rcases hS with rfl | rfl | hS <;> first | exact a e | exact b e | (have := hS k e.symm; omega))).trans (h.block k hk a b)⟩
end
theorem pure_load_mid {P : Program} {o : Oper} {a : Act} {w : World} (ty : TypeId) (x : Operand) (ho : o.op = .load ty x)
  (b off : Nat) (hx : a.eval x = .pointer (some ⟨b, off, none⟩)) (cs : List Value) (d : TypeDesc) (hc : w.rangeAt b off cs) (hu : P.underlying ty = some d) (hd : d.isRow = true) (hi : (P.info? ty).map (·.size) = some cs.length) :
  pureUpon w (.agg cs.toArray) ((execOp a.eval o).run P w) := by
 unfold execOp;simp only [ho, hx, Instr.loadAt, Instr.sureAddr, Sem.run_bind, Sem.run_pure, Result.andThen_ok, run_loadVar_mid w b off ty cs d hc hu hd hi];exact ⟨rfl, rfl⟩
theorem laidOver_list : ∀ (vs : List Value) (cs : Array Value) (o : Nat), o + vs.length <= cs.size -> (laidOver cs o vs).toList = cs.toList.take o ++ vs ++ cs.toList.drop (o + vs.length)
 | [], cs, o, _ => by simp [laidOver]
 | v :: r, cs, o, h => by
  rw [List.length_cons] at h;unfold laidOver;rw [laidOver_list r _ _ (by rw [Array.size_setIfInBounds]; omega), Array.toList_setIfInBounds, List.take_add_one, List.getElem?_set_self (by rw [Array.length_toList]; omega), List.take_set_of_le (Nat.le_refl _), List.drop_set_of_lt (by omega), List.length_cons, show o + 1 + r.length = o + (r.length + 1) by omega];simp
theorem ords_readV {P : Program} {Q : Exit -> Act -> World -> Prop} {S : World -> Prop} {ops : Array Oper} {i : Nat} {s : Ords} {a : Act} {w : World} {o : Oper} {v : Value} (ho : ops[i]? = some o) (hw : bZO o (yielded ops a.tmps) = true)
  (hv : ∀ n, pureUpon (w.drewN n) v ((execOp a.eval o).run P (w.drewN n))) (h : ordsWalk P ops Q S s (a.put o.dst v) w) : ordsWalk P ops Q S (.one 1 i s) a w := by
 refine ⟨o, v, ho, .inl ⟨hw, ?_⟩, h⟩;rintro w' ⟨n, rfl⟩;unfold Oper.quietAt;rw [pureUpon_spec (hv n)];exact ⟨rfl, rfl⟩
theorem OS.setCellsFar {α : Type} {cd : Cod α} {base c k : Nat} {A : Option Addr} {l : List α} : ∀ (vs : List Value) {w : World} (o : Nat), OS cd w base A c l -> (∀ a, A = some a -> a.block ≠ k) -> OS cd (w.setCells k o vs) base A c l
 | [], _, _, h, _ => h
 | v :: r, w, o, h, hk => by rw [cZI]; exact OS.setCellsFar r (o + 1) (h.setFar (p := ⟨k, o, none⟩) hk v) hk
theorem Blk.whole {w : World} {g : Nat} {t : TypeId} {cs : Array Value} (h : Blk w g t cs) : w.rangeAt g 0 cs.toList := by
 have h1 := h.range 0 cs.size;simpa using h1
def wv (x : UInt64) : Value := .int .u64 (wrd x)
def wcs (l : List UInt64) : Array Value := (l.map wv).toArray
theorem wcs_size (l : List UInt64) : (wcs l).size = l.length := by simp [wcs]
theorem wcs_all (l : List UInt64) : (wcs l).all (·.oneCell') = true := by simp [wcs, wv, Value.oneCell']
theorem wcs_set (l : List UInt64) (i : Nat) (x : UInt64) : (wcs l).setIfInBounds i (wv x) = wcs (l.set i x) := by simp [wcs, List.map_set]
theorem wcs_get (l : List UInt64) (i : Nat) (h : i < l.length) : (wcs l)[i]? = some (wv (l.getD i 0)) := by
 simp [wcs, bZK, aZP h]
def rotr (x : UInt64) (k : Nat) : UInt64 := UInt64.ofNat (x.toNat / 2 ^ k + x.toNat % 2 ^ k * 2 ^ (64 - k))
theorem wrd_lt (x : UInt64) : x.toNat < 18446744073709551616 := x.toNat_lt
theorem wrd_add (x y : UInt64) : IntKind.u64.wrap (wrd x + wrd y) = wrd (x + y) := by
 unfold wrd;rw [UInt64.toNat_add];simp only [aZU, aZR, aZM];simp
theorem wrd_xor (x y : UInt64) : bits .xor .u64 (wrd x) (wrd y) = wrd (x ^^^ y) := by
 unfold wrd;rw [u64_xor_nat _ _ (wrd_lt x) (wrd_lt y), UInt64.toNat_xor]
theorem wrd_ofNat (n : Nat) : wrd (UInt64.ofNat n) = ((n % 18446744073709551616 : Nat) : Int) := by
 unfold wrd; rw [UInt64.toNat_ofNat']
theorem wrap_u64 (n : Int) : IntKind.u64.wrap n = n % 18446744073709551616 := by simp [aZU, aZR, aZM]
theorem rot_parts (x : UInt64) (k : Nat) (hk : k <= 64) : ∃ a b : Nat, IntKind.u64.wrap (wrd x * ((2 ^ (64 - k) : Nat) : Int)) = (a : Int) /\ wrd x / ((2 ^ k : Nat) : Int) = (b : Int) /\ a < 18446744073709551616 /\ b < 18446744073709551616 /\
  ((a ||| b : Nat) : Int) = wrd (rotr x k) := by
 unfold rotr;rw [wrd_ofNat, wrap_u64];unfold wrd;have hx := wrd_lt x;generalize x.toNat = n at *;have hpow : 2 ^ k * 2 ^ (64 - k) = 18446744073709551616 := by
  rw [<- Nat.pow_add, show k + (64 - k) = 64 by omega]
 have h1 : ((n : Int) * ((2 ^ (64 - k) : Nat) : Int)) % 18446744073709551616 = ((n % 2 ^ k * 2 ^ (64 - k) : Nat) : Int) := by
  rw [<- Int.natCast_mul, show (18446744073709551616 : Int) = ((18446744073709551616 : Nat) : Int) from rfl, <- Int.natCast_emod, <- hpow, Nat.mul_mod_mul_right]
 have h2 : (n : Int) / ((2 ^ k : Nat) : Int) = ((n / 2 ^ k : Nat) : Int) := by rw [<- Int.natCast_ediv]
 have hlt : n / 2 ^ k < 2 ^ (64 - k) := by
  rw [Nat.div_lt_iff_lt_mul (Nat.two_pow_pos k), Nat.mul_comm, hpow]; exact hx
 have hmod : n % 2 ^ k < 2 ^ k := cZJ _ (Nat.two_pow_pos k);have hsum : n % 2 ^ k * 2 ^ (64 - k) + n / 2 ^ k < 18446744073709551616 := by
  calc n % 2 ^ k * 2 ^ (64 - k) + n / 2 ^ k < n % 2 ^ k * 2 ^ (64 - k) + 2 ^ (64 - k) := Nat.add_lt_add_left hlt _
   _ = (n % 2 ^ k + 1) * 2 ^ (64 - k) := by rw [Nat.succ_mul]
   _ <= 2 ^ k * 2 ^ (64 - k) := Nat.mul_le_mul_right _ hmod
   _ = 18446744073709551616 := hpow
 have hj := nat_join (64 - k) (n % 2 ^ k * 2 ^ (64 - k)) (n / 2 ^ k) (Nat.mul_mod_left _ _) hlt;generalize n % 2 ^ k * 2 ^ (64 - k) = a at *;generalize n / 2 ^ k = b at *;refine ⟨a, b, h1, h2, by omega, by omega, ?_⟩;rw [hj, Nat.add_comm b a, cZB hsum]
theorem rot_form (x : UInt64) (k : Nat) (hk : k <= 64) : bits .or .u64 (IntKind.u64.wrap (wrd x * ((2 ^ (64 - k) : Nat) : Int))) (wrd x / ((2 ^ k : Nat) : Int)) = wrd (rotr x k) := by
 obtain ⟨a, b, h1, h2, ha, hb, h3⟩ := rot_parts x k hk;rw [h1, h2, u64_or_nat _ _ ha hb, h3]
theorem rot_form' (x : UInt64) (k : Nat) (hk : k <= 64) : bits .or .u64 (wrd x / ((2 ^ k : Nat) : Int)) (IntKind.u64.wrap (wrd x * ((2 ^ (64 - k) : Nat) : Int))) = wrd (rotr x k) := by
 obtain ⟨a, b, h1, h2, ha, hb, h3⟩ := rot_parts x k hk;rw [h1, h2, u64_or_nat _ _ hb ha, Nat.or_comm, h3]
theorem rotl_32 (x : UInt64) (w : World) :
  Calls Tryz.prog 132 #[.int .u64 (wrd x), .int .i64 (-32)] w fun e w' => e = .returned (.int .u64 (wrd (rotr x 32))) /\ w = w' := by
 have h1 : bits .and .u64 (IntKind.u64.wrap (-32)) 63 = 32 := by decide
 have h2 := rot_form x 32 (by omega);go_enter Tryz.func132, Tryz.ntmps132;go_wp2;go_ret;exact ⟨congrArg (fun n => bZR (Value.int .u64 n)) h2, rfl⟩
theorem rotl_24 (x : UInt64) (w : World) :
  Calls Tryz.prog 132 #[.int .u64 (wrd x), .int .i64 (-24)] w fun e w' => e = .returned (.int .u64 (wrd (rotr x 24))) /\ w = w' := by
 have h1 : bits .and .u64 (IntKind.u64.wrap (-24)) 63 = 40 := by decide
 have h2 := rot_form x 24 (by omega);go_enter Tryz.func132, Tryz.ntmps132;go_wp2;go_ret;exact ⟨congrArg (fun n => bZR (Value.int .u64 n)) h2, rfl⟩
theorem rotl_16 (x : UInt64) (w : World) :
  Calls Tryz.prog 132 #[.int .u64 (wrd x), .int .i64 (-16)] w fun e w' => e = .returned (.int .u64 (wrd (rotr x 16))) /\ w = w' := by
 have h1 : bits .and .u64 (IntKind.u64.wrap (-16)) 63 = 48 := by decide
 have h2 := rot_form x 16 (by omega);go_enter Tryz.func132, Tryz.ntmps132;go_wp2;go_ret;exact ⟨congrArg (fun n => bZR (Value.int .u64 n)) h2, rfl⟩
theorem rotl_63 (x : UInt64) (w : World) :
  Calls Tryz.prog 132 #[.int .u64 (wrd x), .int .i64 (-63)] w fun e w' => e = .returned (.int .u64 (wrd (rotr x 63))) /\ w = w' := by
 have h1 : bits .and .u64 (IntKind.u64.wrap (-63)) 63 = 1 := by decide
 have h2 := rot_form x 63 (by omega);go_enter Tryz.func132, Tryz.ntmps132;go_wp2;go_ret;exact ⟨congrArg (fun n => bZR (Value.int .u64 n)) h2, rfl⟩
def wr3 (c : UInt32) : Int := (c.toNat : Int)
def rot3 (x : UInt32) (k : Nat) : UInt32 := UInt32.ofNat (x.toNat / 2 ^ k + x.toNat % 2 ^ k * 2 ^ (32 - k))
theorem wr3_lt (x : UInt32) : x.toNat < 4294967296 := x.toNat_lt
theorem wr3_add (x y : UInt32) : IntKind.u32.wrap (wr3 x + wr3 y) = wr3 (x + y) := by
 unfold wr3;rw [UInt32.toNat_add];simp only [aZU, aZR, aZM];simp
theorem wr3_xor (x y : UInt32) : bits .xor .u32 (wr3 x) (wr3 y) = wr3 (x ^^^ y) := by
 unfold wr3;rw [u32_xor_nat _ _ (wr3_lt x) (wr3_lt y), UInt32.toNat_xor]
theorem wr3_ofNat (n : Nat) : wr3 (UInt32.ofNat n) = ((n % 4294967296 : Nat) : Int) := by
 unfold wr3; rw [UInt32.toNat_ofNat']
theorem wrap_u32w (n : Int) : IntKind.u32.wrap n = n % 4294967296 := by simp [aZU, aZR, aZM]
theorem rot3_parts (x : UInt32) (k : Nat) (hk : k <= 32) : ∃ a b : Nat, IntKind.u32.wrap (wr3 x * ((2 ^ (32 - k) : Nat) : Int)) = (a : Int) /\ wr3 x / ((2 ^ k : Nat) : Int) = (b : Int) /\ a < 4294967296 /\ b < 4294967296 /\
  ((a ||| b : Nat) : Int) = wr3 (rot3 x k) := by
 unfold rot3;rw [wr3_ofNat, wrap_u32w];unfold wr3;have hx := wr3_lt x;generalize x.toNat = n at *;have hpow : 2 ^ k * 2 ^ (32 - k) = 4294967296 := by
  rw [<- Nat.pow_add, show k + (32 - k) = 32 by omega]
 have h1 : ((n : Int) * ((2 ^ (32 - k) : Nat) : Int)) % 4294967296 = ((n % 2 ^ k * 2 ^ (32 - k) : Nat) : Int) := by
  rw [<- Int.natCast_mul, show (4294967296 : Int) = ((4294967296 : Nat) : Int) from rfl, <- Int.natCast_emod, <- hpow, Nat.mul_mod_mul_right]
 have h2 : (n : Int) / ((2 ^ k : Nat) : Int) = ((n / 2 ^ k : Nat) : Int) := by rw [<- Int.natCast_ediv]
 have hlt : n / 2 ^ k < 2 ^ (32 - k) := by
  rw [Nat.div_lt_iff_lt_mul (Nat.two_pow_pos k), Nat.mul_comm, hpow]; exact hx
 have hmod : n % 2 ^ k < 2 ^ k := cZJ _ (Nat.two_pow_pos k);have hsum : n % 2 ^ k * 2 ^ (32 - k) + n / 2 ^ k < 4294967296 := by
  calc n % 2 ^ k * 2 ^ (32 - k) + n / 2 ^ k < n % 2 ^ k * 2 ^ (32 - k) + 2 ^ (32 - k) := Nat.add_lt_add_left hlt _
   _ = (n % 2 ^ k + 1) * 2 ^ (32 - k) := by rw [Nat.succ_mul]
   _ <= 2 ^ k * 2 ^ (32 - k) := Nat.mul_le_mul_right _ hmod
   _ = 4294967296 := hpow
 have hj := nat_join (32 - k) (n % 2 ^ k * 2 ^ (32 - k)) (n / 2 ^ k) (Nat.mul_mod_left _ _) hlt;generalize n % 2 ^ k * 2 ^ (32 - k) = a at *;generalize n / 2 ^ k = b at *;refine ⟨a, b, h1, h2, by omega, by omega, ?_⟩;rw [hj, Nat.add_comm b a, cZB hsum]
theorem rot3_form (x : UInt32) (k : Nat) (hk : k <= 32) : bits .or .u32 (IntKind.u32.wrap (wr3 x * ((2 ^ (32 - k) : Nat) : Int))) (wr3 x / ((2 ^ k : Nat) : Int)) = wr3 (rot3 x k) := by
 obtain ⟨a, b, h1, h2, ha, hb, h3⟩ := rot3_parts x k hk;rw [h1, h2, u32_or_nat _ _ ha hb, h3]
theorem rot3_form' (x : UInt32) (k : Nat) (hk : k <= 32) : bits .or .u32 (wr3 x / ((2 ^ k : Nat) : Int)) (IntKind.u32.wrap (wr3 x * ((2 ^ (32 - k) : Nat) : Int))) = wr3 (rot3 x k) := by
 obtain ⟨a, b, h1, h2, ha, hb, h3⟩ := rot3_parts x k hk;rw [h1, h2, u32_or_nat _ _ hb ha, Nat.or_comm, h3]
theorem rotl3_16 (x : UInt32) (w : World) :
  Calls Tryz.prog 133 #[.int .u32 (wr3 x), .int .i64 (-16)] w fun e w' => e = .returned (.int .u32 (wr3 (rot3 x 16))) /\ w = w' := by
 have h1 : bits .and .u64 (IntKind.u64.wrap (-16)) 31 = 16 := by decide
 have h2 := rot3_form x 16 (by omega);go_enter Tryz.func133, Tryz.ntmps133;go_wp2;go_ret;exact ⟨congrArg (fun n => bZR (Value.int .u32 n)) h2, rfl⟩
theorem rotl3_12 (x : UInt32) (w : World) :
  Calls Tryz.prog 133 #[.int .u32 (wr3 x), .int .i64 (-12)] w fun e w' => e = .returned (.int .u32 (wr3 (rot3 x 12))) /\ w = w' := by
 have h1 : bits .and .u64 (IntKind.u64.wrap (-12)) 31 = 20 := by decide
 have h2 := rot3_form x 12 (by omega);go_enter Tryz.func133, Tryz.ntmps133;go_wp2;go_ret;exact ⟨congrArg (fun n => bZR (Value.int .u32 n)) h2, rfl⟩
theorem rotl3_8 (x : UInt32) (w : World) :
  Calls Tryz.prog 133 #[.int .u32 (wr3 x), .int .i64 (-8)] w fun e w' => e = .returned (.int .u32 (wr3 (rot3 x 8))) /\ w = w' := by
 have h1 : bits .and .u64 (IntKind.u64.wrap (-8)) 31 = 24 := by decide
 have h2 := rot3_form x 8 (by omega);go_enter Tryz.func133, Tryz.ntmps133;go_wp2;go_ret;exact ⟨congrArg (fun n => bZR (Value.int .u32 n)) h2, rfl⟩
theorem rotl3_7 (x : UInt32) (w : World) :
  Calls Tryz.prog 133 #[.int .u32 (wr3 x), .int .i64 (-7)] w fun e w' => e = .returned (.int .u32 (wr3 (rot3 x 7))) /\ w = w' := by
 have h1 : bits .and .u64 (IntKind.u64.wrap (-7)) 31 = 25 := by decide
 have h2 := rot3_form x 7 (by omega);go_enter Tryz.func133, Tryz.ntmps133;go_wp2;go_ret;exact ⟨congrArg (fun n => bZR (Value.int .u32 n)) h2, rfl⟩
def wv3 (x : UInt32) : Value := .int .u32 (wr3 x)
def wc3 (l : List UInt32) : Array Value := (l.map wv3).toArray
theorem wc3_size (l : List UInt32) : (wc3 l).size = l.length := by simp [wc3]
theorem wc3_all (l : List UInt32) : (wc3 l).all (·.oneCell') = true := by simp [wc3, wv3, Value.oneCell']
theorem wc3_set (l : List UInt32) (i : Nat) (x : UInt32) : (wc3 l).setIfInBounds i (wv3 x) = wc3 (l.set i x) := by simp [wc3, List.map_set]
theorem wc3_get (l : List UInt32) (i : Nat) (h : i < l.length) : (wc3 l)[i]? = some (wv3 (l.getD i 0)) := by
 simp [wc3, bZK, aZP h]
structure Qd (α : Type) where
  a : α
  b : α
  c : α
  d : α
structure Pl where
  a : Nat
  b : Nat
  c : Nat
  d : Nat
structure Pl.Ok (p : Pl) : Prop where
  a : p.a < 16
  b : p.b < 16
  c : p.c < 16
  d : p.d < 16
  ab : p.a ≠ p.b
  ac : p.a ≠ p.c
  ad : p.a ≠ p.d
  bc : p.b ≠ p.c
  bd : p.b ≠ p.d
  cd : p.c ≠ p.d
section
variable {α : Type}
def Pl.get (z : α) (p : Pl) (l : List α) : Qd α := ⟨l.getD p.a z, l.getD p.b z, l.getD p.c z, l.getD p.d z⟩
def Pl.lay (p : Pl) (l : List α) (q : Qd α) : List α := (((l.set p.a q.a).set p.b q.b).set p.c q.c).set p.d q.d
theorem lay_len (p : Pl) (l : List α) (q : Qd α) : (p.lay l q).length = l.length := by simp [Pl.lay]
theorem lay_get {p : Pl} (h : p.Ok) (z : α) (l : List α) (hl : l.length = 16) : p.lay l (p.get z l) = l := by
 have g : ∀ k, k < 16 -> l.set k (l.getD k z) = l := by
  intro k hk;rw [List.getD_eq_getElem?_getD, aZP (by omega)];simp
 unfold Pl.lay Pl.get
 dsimp only
 rw [g _ h.a, g _ h.b, g _ h.c, g _ h.d]
theorem lay_a {p : Pl} (h : p.Ok) (l : List α) (q : Qd α) (v : α) : (p.lay l q).set p.a v = p.lay l { q with a := v } := by
 unfold Pl.lay;rw [List.set_comm _ _ h.ad.symm, List.set_comm _ _ h.ac.symm, List.set_comm _ _ h.ab.symm, List.set_set]
theorem lay_b {p : Pl} (h : p.Ok) (l : List α) (q : Qd α) (v : α) : (p.lay l q).set p.b v = p.lay l { q with b := v } := by
 unfold Pl.lay;rw [List.set_comm _ _ h.bd.symm, List.set_comm _ _ h.bc.symm, List.set_set]
theorem lay_c {p : Pl} (h : p.Ok) (l : List α) (q : Qd α) (v : α) : (p.lay l q).set p.c v = p.lay l { q with c := v } := by
 unfold Pl.lay;rw [List.set_comm _ _ h.cd.symm, List.set_set]
theorem lay_d {p : Pl} (l : List α) (q : Qd α) (v : α) : (p.lay l q).set p.d v = p.lay l { q with d := v } := by
 unfold Pl.lay;rw [List.set_set]
theorem at_a {p : Pl} (h : p.Ok) (l : List α) (q : Qd α) (hl : l.length = 16) : (p.lay l q)[p.a]? = some q.a := by
 unfold Pl.lay;rw [List.getElem?_set_ne h.ad.symm, List.getElem?_set_ne h.ac.symm, List.getElem?_set_ne h.ab.symm, List.getElem?_set_self (by have := h.a; omega)]
theorem at_b {p : Pl} (h : p.Ok) (l : List α) (q : Qd α) (hl : l.length = 16) : (p.lay l q)[p.b]? = some q.b := by
 unfold Pl.lay;rw [List.getElem?_set_ne h.bd.symm, List.getElem?_set_ne h.bc.symm, List.getElem?_set_self (by have := h.b; simp; omega)]
theorem at_c {p : Pl} (h : p.Ok) (l : List α) (q : Qd α) (hl : l.length = 16) : (p.lay l q)[p.c]? = some q.c := by
 unfold Pl.lay;rw [List.getElem?_set_ne h.cd.symm, List.getElem?_set_self (by have := h.c; simp; omega)]
theorem at_d {p : Pl} (h : p.Ok) (l : List α) (q : Qd α) (hl : l.length = 16) : (p.lay l q)[p.d]? = some q.d := by
 unfold Pl.lay;rw [List.getElem?_set_self (by have := h.d; simp; omega)]
end
def plsL : List Pl := [⟨0, 4, 8, 12⟩, ⟨1, 5, 9, 13⟩, ⟨2, 6, 10, 14⟩, ⟨3, 7, 11, 15⟩, ⟨0, 5, 10, 15⟩, ⟨1, 6, 11, 12⟩, ⟨2, 7, 8, 13⟩, ⟨3, 4, 9, 14⟩]
def pls (k : Nat) : Pl := plsL.getD k ⟨0, 1, 2, 3⟩
theorem pls_ok : ∀ k, k < 8 -> (pls k).Ok := by
 intro k hk;have h : k = 0 \/ k = 1 \/ k = 2 \/ k = 3 \/ k = 4 \/ k = 5 \/ k = 6 \/ k = 7 := by omega
 rcases h with rfl | rfl | rfl | rfl | rfl | rfl | rfl | rfl <;> constructor <;> decide
def plv (p : Pl) : Value := .agg #[.int .i64 p.a, .int .i64 p.b, .int .i64 p.c, .int .i64 p.d]
def sigmas : List (List Nat) := [
  [0, 1, 2, 3, 4, 5, 6, 7, 8, 9, 10, 11, 12, 13, 14, 15],
  [14, 10, 4, 8, 9, 15, 13, 6, 1, 12, 0, 2, 11, 7, 5, 3],
  [11, 8, 12, 0, 5, 2, 15, 13, 10, 14, 3, 6, 7, 1, 9, 4],
  [7, 9, 3, 1, 13, 12, 11, 14, 2, 6, 5, 10, 4, 0, 15, 8],
  [9, 0, 5, 7, 2, 4, 10, 15, 14, 1, 11, 12, 6, 8, 3, 13],
  [2, 12, 6, 10, 0, 11, 8, 3, 4, 13, 7, 5, 15, 14, 1, 9],
  [12, 5, 1, 15, 14, 13, 4, 10, 0, 7, 6, 3, 9, 2, 8, 11],
  [13, 11, 7, 14, 12, 1, 3, 9, 5, 0, 15, 4, 8, 6, 2, 10],
  [6, 15, 14, 9, 11, 3, 0, 8, 12, 2, 13, 7, 1, 4, 10, 5],
  [10, 2, 8, 4, 7, 6, 1, 5, 15, 11, 9, 14, 3, 12, 13, 0]]
def sigma (r : Nat) : List Nat := sigmas.getD (r % 10) []
theorem sigma_len (r : Nat) : (sigma r).length = 16 := by
 unfold sigma;have h : r % 10 < 10 := cZJ _ (by omega);generalize r % 10 = n at *
 revert n; decide
theorem sigma_lt (r i : Nat) (hi : i < 16) : (sigma r).getD i 0 < 16 := by
 unfold sigma;have h : r % 10 < 10 := cZJ _ (by omega);generalize r % 10 = n at *
 revert i; revert n; decide
def le : List UInt8 -> Nat
  | [] => 0
  | b :: l => b.toNat + 256 * le l
theorem le_lt : ∀ l : List UInt8, le l < 256 ^ l.length
 | [] => by simp [le]
 | b :: l => by
  have h1 := le_lt l;have h2 : b.toNat < 256 := b.toNat_lt;simp only [le, List.length_cons, Nat.pow_succ];omega
theorem le_snoc (l : List UInt8) (b : UInt8) : le (l ++ [b]) = le l + 256 ^ l.length * b.toNat := by
 induction l with
 | nil => simp [le]
 | cons c l ih => simp only [List.cons_append, le, ih, List.length_cons, Nat.pow_succ, Nat.mul_add]; rw [<- Nat.mul_assoc, Nat.mul_comm 256, Nat.mul_comm (256 ^ l.length)]; omega
theorem le_bound (l : List UInt8) (h : l.length <= 8) : le l < 18446744073709551616 := by
 have h1 := le_lt l;have h2 : 256 ^ l.length <= 256 ^ 8 := Nat.pow_le_pow_right (by omega) h;omega
def word (l : List UInt8) : UInt64 := UInt64.ofNat (le l)
theorem wrd_word (l : List UInt8) (h : l.length <= 8) : wrd (word l) = (le l : Int) := by
 unfold wrd word;rw [UInt64.toNat_ofNat', cZB (le_bound l h)]
theorem pow8 (k : Nat) : (2 : Int) ^ (8 * k) = ((256 ^ k : Nat) : Int) := by
 rw [Int.pow_mul, Int.natCast_pow]; rfl
theorem pow256 (k : Nat) (h : k <= 8) : 256 ^ k <= 18446744073709551616 := by
 have : 256 ^ k <= 256 ^ 8 := Nat.pow_le_pow_right (by omega) h;omega
theorem mul256 (k b : Nat) (hk : k < 8) (hb : b < 256) : b * 256 ^ k < 18446744073709551616 := by
 have h1 : b * 256 ^ k <= 255 * 256 ^ k := Nat.mul_le_mul_right _ (by omega);have h2 := pow256 (k + 1) (by omega);rw [Nat.pow_succ] at h2;have h3 : 0 < 256 ^ k := Nat.pow_pos (by omega);omega
theorem ld_step (x k : Nat) (b : UInt8) (hk : k < 8) (hx : x < 256 ^ k) : bits .or .u64 (x : Int) (IntKind.u64.wrap (byt b * 2 ^ (8 * k))) = ((x + 256 ^ k * b.toNat : Nat) : Int) := by
 have hb : b.toNat < 256 := b.toNat_lt;have h1 := mul256 k b.toNat hk hb;have e : IntKind.u64.wrap (byt b * 2 ^ (8 * k)) = ((b.toNat * 256 ^ k : Nat) : Int) := by
  rw [pow8, wrap_u64];unfold byt;rw [<- Int.natCast_mul];omega
 rw [e, u64_or_nat _ _ (by have := pow256 k (by omega); omega) h1]
 congr 1
 have h2 : 256 ^ k = 2 ^ (8 * k) := by rw [Nat.pow_mul]
 rw [h2] at hx ⊢;rw [Nat.mul_comm (b.toNat), Nat.or_comm, <- Nat.two_pow_add_eq_or_of_lt hx];omega
theorem ld_back (x j : Nat) (b : UInt8) (hj : j < 8) (hx : x < 256 ^ j) : IntKind.u64.wrap (IntKind.u64.wrap ((x : Int) * 256) + byt b) = ((b.toNat + 256 * x : Nat) : Int) := by
 have hb : b.toNat < 256 := b.toNat_lt;have h2 := pow256 (j + 1) (by omega);rw [Nat.pow_succ] at h2;rw [wrap_u64, wrap_u64];unfold byt;omega
def storeN (x : Nat) (n : Nat) : List UInt8 := (List.range n).map fun i => bZZ (x / 256 ^ i % 256)
theorem storeN_len (x n : Nat) : (storeN x n).length = n := by simp [storeN]
theorem storeN_succ (x n : Nat) : storeN x (n + 1) = storeN x n ++ [bZZ (x / 256 ^ n % 256)] := by simp [storeN, List.range_succ]
theorem byt_ofNat (n : Nat) (h : n < 256) : byt (bZZ n) = (n : Int) := by unfold byt; rw [UInt8.toNat_ofNat', cZB h]
theorem le_storeN (x : Nat) : ∀ n, le (storeN x n) = x % 256 ^ n
 | 0 => by simp [storeN, le, Nat.mod_one]
 | n + 1 => by
  rw [storeN_succ, le_snoc, le_storeN x n, storeN_len, UInt8.toNat_ofNat', Nat.mod_mod, Nat.pow_succ, Nat.mod_mul]
theorem word_storeN (x : UInt64) : word (storeN x.toNat 8) = x := by
 unfold word;rw [le_storeN, cZB (by have := x.toNat_lt; omega)];simp
theorem storeN_put (y k n : Nat) (hk : k < n) : (storeN y k ++ List.replicate (n - k) 0).set k (bZZ (y / 256 ^ k % 256)) = storeN y (k + 1) ++ List.replicate (n - (k + 1)) 0 := by
 obtain ⟨m, hm⟩ : ∃ m, n - k = m + 1 := ⟨n - k - 1, by omega⟩;have hm2 : n - (k + 1) = m := by omega
 rw [hm, hm2, storeN_succ, List.replicate_succ, List.set_append, if_neg (by rw [storeN_len]; omega), storeN_len, Nat.sub_self, List.set_cons_zero, List.append_assoc]
 rfl
theorem storeN_byte (y k : Nat) : (y : Int) / 2 ^ (8 * k) % 256 = byt (bZZ (y / 256 ^ k % 256)) := by
 rw [byt_ofNat _ (cZJ _ (by omega)), pow8]
 rfl
end Go.Proofs.YtboihcigcfmhhaaGreat

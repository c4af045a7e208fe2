/-
  Z4: contracts and lemmas alone; no statement is claimed here.
-/
import Derived.Test.YtmapfcdffklopaaGreatZx
import Derived.Test.YtmapfcdffklopaaGreatZxc
import Derived.Test.YtmapfcdffklopaaGreatZ0
import Derived.Outline
set_option maxHeartbeats 4000000
set_option maxRecDepth 20000
namespace Go.Proofs.YtmapfcdffklopaaGreat
open Go.IntKind renaming wrap → aZU
open Go.IntKind renaming bits → aZR
open Go.IntKind renaming signed → aZM
open Go renaming results_tmp → aZK
open _root_.Nat renaming le_refl → aZC
open Go renaming bodyPost_ret → aZB
open Lib renaming hid -> zH
open Go.RowKit
structure Sl where
  A : Option Addr
  n : Nat
  c : Nat
def Sl.v (s : Sl) : Value := .slice s.A s.n s.c
def Sl.nil : Sl := ⟨none, 0, 0⟩
structure Pr where
  digest : Int
  key : Int
  fanout : Int
  depth : Int
  leaf : Int
  offset : Int
  xof : Int
  nd : Int
  inner : Int
  salt : Sl
  pers : Sl
def Pr.cs (p : Pr) : Array Value := #[.int .i64 p.digest, .int .i64 p.key, .int .i64 p.fanout, .int .i64 p.depth, .int .u32 p.leaf, .int .u64 p.offset, .int .u32 p.xof, .int .i64 p.nd, .int .i64 p.inner, p.salt.v, p.pers.v]
def Pr.v (p : Pr) : Value := .agg p.cs
def mostOf (k : Int) : Int := if k = 1 then 64 else if k = 2 then 32 else 0
def chk (k : Int) (p : Pr) : Int :=
  if mostOf k = 0 then 1
  else if p.digest < 1 \/ mostOf k < p.digest then 20
  else if p.key < 0 \/ mostOf k < p.key then 8
  else if p.fanout < 0 \/ 255 < p.fanout then 21
  else if p.depth < 0 \/ 255 < p.depth \/ (p.depth = 0 /\ p.xof = 0) then 22
  else if (p.xof ≠ 0 /\ 4294967296 <= p.offset) \/ (p.xof = 0 /\ k = 2 /\ 281474976710656 <= p.offset) then 23
  else if k = 2 /\ 65535 < p.xof then 24
  else if p.nd < 0 \/ 255 < p.nd then 25
  else if p.inner < 0 \/ mostOf k < p.inner then 26
  else if mostOf k < 4 * p.salt.n then 27
  else if mostOf k < 4 * p.pers.n then 28
  else 0
theorem within_any (n lo hi : Int) (w : World) : Calls Tryz.prog 86 #[.int .i64 n, .int .i64 lo, .int .i64 hi] w fun e w' => e = .returned (.bool (decide (lo <= n) && decide (n <= hi))) /\ w = w' := by
 go_enter Tryz.func86, Tryz.ntmps86;go_wp2
 all_goals go_ret
 all_goals exact ⟨ret_bool (by simp <;> omega), rfl⟩
theorem sizes_big (w : World) : Calls Tryz.prog 85 #[.int .i64 1] w fun e w' => e = .returned (.tuple #[.int .i64 64, .int .i64 64, .int .i64 16]) /\ w = w' := by
 go_enter Tryz.func85, Tryz.ntmps85;go_wp2;exact aZB (results_tmp3 rfl _ _ _) rfl ⟨rfl, rfl⟩
theorem sizes_small (w : World) : Calls Tryz.prog 85 #[.int .i64 2] w fun e w' => e = .returned (.tuple #[.int .i64 32, .int .i64 32, .int .i64 8]) /\ w = w' := by
 go_enter Tryz.func85, Tryz.ntmps85;go_wp2;exact aZB (results_tmp3 rfl _ _ _) rfl ⟨rfl, rfl⟩
theorem sizes_none (k : Int) (h1 : (k == 1) = false) (h2 : (k == 2) = false) (w : World) : Calls Tryz.prog 85 #[.int .i64 k] w fun e w' => e = .returned (.tuple #[.int .i64 0, .int .i64 0, .int .i64 0]) /\ w = w' := by
 go_enter Tryz.func85, Tryz.ntmps85;go_wp2;exact aZB (results_tmp3 rfl _ _ _) rfl ⟨rfl, rfl⟩
theorem most_big (w : World) : Calls Tryz.prog 62 #[.int .i64 1] w fun e w' => e = .returned (.int .i64 64) /\ w = w' := by
 go_enter Tryz.func62, Tryz.ntmps62;go_wp2;go_ret;exact ⟨rfl, rfl⟩
theorem most_small (w : World) : Calls Tryz.prog 62 #[.int .i64 2] w fun e w' => e = .returned (.int .i64 32) /\ w = w' := by
 go_enter Tryz.func62, Tryz.ntmps62;go_wp2;go_ret;exact ⟨rfl, rfl⟩
theorem most_none (k : Int) (h1 : (k == 1) = false) (h2 : (k == 2) = false) (w : World) : Calls Tryz.prog 62 #[.int .i64 k] w fun e w' => e = .returned (.int .i64 0) /\ w = w' := by
 go_enter Tryz.func62, Tryz.ntmps62;go_wp2;go_ret;exact ⟨rfl, rfl⟩
theorem check_any (k : Int) (p : Pr) (w : World) : Calls Tryz.prog 58 #[.int .i64 k, p.v] w fun e w' => e = .returned (.int .i64 (chk k p)) /\ Below w.heap.size w w' := by
 obtain ⟨r, hr⟩ : ∃ r, r = chk k p := ⟨_, rfl⟩;rw [<- hr];obtain ⟨d, ky, fo, de, le, of, xo, nd, inn, ⟨sA, sn, sc⟩, ⟨pA, pn, pc⟩⟩ := p;have HR := zH hr; clear hr;unfold Pr.v Pr.cs Sl.v
 dsimp only
 by_cases h1 : k = 1
 ·open kA in exact zS65
 ·by_cases h2 : k = 2
  ·exact zS65
  ·open kA in exact zS75
theorem value_1 (p : Pr) (w : World) (hp : 0 <= p.digest /\ p.digest < 18446744073709551616) : Calls Tryz.prog 108 #[p.v, .int .i64 1] w fun e w' => e = .returned (.int .u64 (p.digest)) /\ Below w.heap.size w w' := by
 have hq : IntKind.u64.wrap (p.digest) = p.digest := by simp [aZU, aZR, aZM]; omega
 obtain ⟨a0, a1, a2, a3, a4, a5, a6, a7, a8, a9, a10⟩ := p;unfold Pr.v Pr.cs;dsimp only at *;go_enter Tryz.func108, Tryz.ntmps108;go_wp2;exact aZB (aZK rfl _ _ _) rfl ⟨by rfl, bal (b0 w) _⟩
theorem value_2 (p : Pr) (w : World) (hp : 0 <= p.key /\ p.key < 18446744073709551616) : Calls Tryz.prog 108 #[p.v, .int .i64 2] w fun e w' => e = .returned (.int .u64 (p.key)) /\ Below w.heap.size w w' := by
  have hq : IntKind.u64.wrap (p.key) = p.key := by simp [aZU, aZR, aZM]; omega
  obtain ⟨a0, a1, a2, a3, a4, a5, a6, a7, a8, a9, a10⟩ := p;unfold Pr.v Pr.cs;dsimp only at *;go_enter Tryz.func108, Tryz.ntmps108;go_wp2;exact aZB (aZK rfl _ _ _) rfl ⟨by rfl, bal (b0 w) _⟩
theorem value_3 (p : Pr) (w : World) (hp : 0 <= p.fanout /\ p.fanout < 18446744073709551616) : Calls Tryz.prog 108 #[p.v, .int .i64 3] w fun e w' => e = .returned (.int .u64 (p.fanout)) /\ Below w.heap.size w w' := by
      have hq : IntKind.u64.wrap (p.fanout) = p.fanout := by simp [aZU, aZR, aZM]; omega
      obtain ⟨a0, a1, a2, a3, a4, a5, a6, a7, a8, a9, a10⟩ := p;unfold Pr.v Pr.cs;dsimp only at *;go_enter Tryz.func108, Tryz.ntmps108;go_wp2;exact aZB (aZK rfl _ _ _) rfl ⟨by rfl, bal (b0 w) _⟩
theorem value_4 (p : Pr) (w : World) (hp : 0 <= p.depth /\ p.depth < 18446744073709551616) : Calls Tryz.prog 108 #[p.v, .int .i64 4] w fun e w' => e = .returned (.int .u64 (p.depth)) /\ Below w.heap.size w w' := by
        have hq : IntKind.u64.wrap (p.depth) = p.depth := by simp [aZU, aZR, aZM]; omega
        obtain ⟨a0, a1, a2, a3, a4, a5, a6, a7, a8, a9, a10⟩ := p;unfold Pr.v Pr.cs;dsimp only at *;go_enter Tryz.func108, Tryz.ntmps108;go_wp2;exact aZB (aZK rfl _ _ _) rfl ⟨by rfl, bal (b0 w) _⟩
theorem value_5 (p : Pr) (w : World) (hp : 0 <= p.leaf /\ p.leaf < 18446744073709551616) : Calls Tryz.prog 108 #[p.v, .int .i64 5] w fun e w' => e = .returned (.int .u64 (p.leaf)) /\ Below w.heap.size w w' := by
          have hq : IntKind.u64.wrap (p.leaf) = p.leaf := by simp [aZU, aZR, aZM]; omega
          obtain ⟨a0, a1, a2, a3, a4, a5, a6, a7, a8, a9, a10⟩ := p;unfold Pr.v Pr.cs;dsimp only at *;go_enter Tryz.func108, Tryz.ntmps108;go_wp2;exact aZB (aZK rfl _ _ _) rfl ⟨by rfl, bal (b0 w) _⟩
theorem value_6 (p : Pr) (w : World) (hp : 0 <= p.offset /\ p.offset < 18446744073709551616) : Calls Tryz.prog 108 #[p.v, .int .i64 6] w fun e w' => e = .returned (.int .u64 (p.offset)) /\ Below w.heap.size w w' := by
            have hq : IntKind.u64.wrap (p.offset) = p.offset := by simp [aZU, aZR, aZM]; omega
            obtain ⟨a0, a1, a2, a3, a4, a5, a6, a7, a8, a9, a10⟩ := p;unfold Pr.v Pr.cs;dsimp only at *;go_enter Tryz.func108, Tryz.ntmps108;go_wp2;exact aZB (aZK rfl _ _ _) rfl ⟨by rfl, bal (b0 w) _⟩
theorem value_7 (p : Pr) (w : World) (hp : 0 <= p.xof /\ p.xof < 18446744073709551616) : Calls Tryz.prog 108 #[p.v, .int .i64 7] w fun e w' => e = .returned (.int .u64 (p.xof)) /\ Below w.heap.size w w' := by
              have hq : IntKind.u64.wrap (p.xof) = p.xof := by simp [aZU, aZR, aZM]; omega
              obtain ⟨a0, a1, a2, a3, a4, a5, a6, a7, a8, a9, a10⟩ := p;unfold Pr.v Pr.cs;dsimp only at *;go_enter Tryz.func108, Tryz.ntmps108;go_wp2;exact aZB (aZK rfl _ _ _) rfl ⟨by rfl, bal (b0 w) _⟩
theorem value_8 (p : Pr) (w : World) (hp : 0 <= p.nd /\ p.nd < 18446744073709551616) : Calls Tryz.prog 108 #[p.v, .int .i64 8] w fun e w' => e = .returned (.int .u64 (p.nd)) /\ Below w.heap.size w w' := by
                have hq : IntKind.u64.wrap (p.nd) = p.nd := by simp [aZU, aZR, aZM]; omega
                obtain ⟨a0, a1, a2, a3, a4, a5, a6, a7, a8, a9, a10⟩ := p;unfold Pr.v Pr.cs;dsimp only at *;go_enter Tryz.func108, Tryz.ntmps108;go_wp2;exact aZB (aZK rfl _ _ _) rfl ⟨by rfl, bal (b0 w) _⟩
theorem value_9 (p : Pr) (w : World) (hp : 0 <= p.inner /\ p.inner < 18446744073709551616) : Calls Tryz.prog 108 #[p.v, .int .i64 9] w fun e w' => e = .returned (.int .u64 (p.inner)) /\ Below w.heap.size w w' := by
                  have hq : IntKind.u64.wrap (p.inner) = p.inner := by simp [aZU, aZR, aZM]; omega
                  obtain ⟨a0, a1, a2, a3, a4, a5, a6, a7, a8, a9, a10⟩ := p;unfold Pr.v Pr.cs;dsimp only at *;go_enter Tryz.func108, Tryz.ntmps108;go_wp2;exact aZB (aZK rfl _ _ _) rfl ⟨by rfl, bal (b0 w) _⟩
def rowTab (big : Bool) : List (Nat × Nat × Nat) := [(1, 0, 1), (2, 1, 1), (3, 2, 1), (4, 3, 1), (5, 4, 4), (6, 8, if big then 8 else 6), (7, 12, if big then 4 else 2), (8, if big then 16 else 14, 1), (9, if big then 17 else 15, 1)]
def rowEnd : List (List UInt8 × Nat) := [([100, 105, 103, 101, 115, 116], 20), ([107, 101, 121], 8), ([102, 97, 110, 111, 117, 116], 21), ([100, 101, 112, 116, 104], 22), ([108, 101, 97, 102], 1), ([111, 102, 102, 115, 101, 116], 23), ([120, 111, 102], 24), ([110, 111, 100, 101], 25), ([105, 110, 110, 101, 114], 26)]
def rowCells (big : Bool) : Array Value := (((rowTab big).zip rowEnd).flatMap fun r => [.int .i64 (r.1.1 : Int), .int .i64 (r.1.2.1 : Int), .int .i64 (r.1.2.2 : Int), .string ⟨r.2.1.toArray⟩, .int .i64 (r.2.2 : Int)]).toArray
theorem rowsBig_any (w : World) : Calls Tryz.prog 106 #[.int .i64 1] w fun e w' => ∃ g, e = .returned (.slice (some ⟨g, 0, none⟩) 9 9) /\ w.heap.size <= g /\ Blk w' g 167 (rowCells true) /\ Below w.heap.size w w' := by
 go_enter Tryz.func106, Tryz.ntmps106;go_wp2;exact aZB (aZK rfl _ _ _) rfl ⟨w.heap.size, rfl, aZC _, Blk.new w _ _, bal (b0 w) _⟩
theorem rowsSmall_any (w : World) : Calls Tryz.prog 106 #[.int .i64 2] w fun e w' => ∃ g, e = .returned (.slice (some ⟨g, 0, none⟩) 9 9) /\ w.heap.size <= g /\ Blk w' g 167 (rowCells false) /\ Below w.heap.size w w' := by
 go_enter Tryz.func106, Tryz.ntmps106;go_wp2;exact aZB (aZK rfl _ _ _) rfl ⟨w.heap.size, rfl, aZC _, Blk.new w _ _, bal (b0 w) _⟩
structure SV where
  A : Option Addr
  c : Nat
  l : List UInt8
def SV.v (s : SV) : Value := .slice s.A s.l.length s.c
def cL : Cod SV := ⟨22, 134, 24, .slice none 0 0, SV.v⟩
theorem cL_ok : cL.Ok Tryz.prog := ⟨Tryz.underlying134, by kernel_rfl, rfl, fun _ => rfl⟩
def SV.none : SV := ⟨Option.none, 0, []⟩
structure Parts (w : World) (base : Nat) (l : List SV) : Prop where
  own : ∀ (i : Nat) (s : SV), l[i]? = some s -> OS cB w base s.A s.c s.l
  apart : ∀ (i j : Nat) (s t : SV), i ≠ j -> l[i]? = some s -> l[j]? = some t -> ∀ (a b : Addr), s.A = some a -> t.A = some b -> a.block ≠ b.block
theorem Parts.nil (w : World) (base : Nat) : Parts w base [] := ⟨fun i s h => by simp at h, fun i j s t _ h => by simp at h⟩
theorem Parts.none_ (w : World) (base n : Nat) : Parts w base (List.replicate n SV.none) := by
 refine ⟨fun i s h => ?_, fun i j s t _ h _ a b ha => ?_⟩
 ·rw [List.getElem?_replicate] at h
  split at h
  ·injection h with h; subst h; exact OS.nil w base 0 rfl
  ·cases h
 ·rw [List.getElem?_replicate] at h
  split at h
  ·injection h with h; subst h; cases ha
  ·cases h
theorem Parts.mono {w : World} {base B : Nat} {l : List SV} (h : Parts w base l) (hb : B <= base) : Parts w B l := ⟨fun i s hs => (h.own i s hs).mono hb, h.apart⟩
theorem Parts.alloc {w : World} {base : Nat} {l : List SV} (h : Parts w base l) (o : Obj) : Parts (w.alloc o) base l := ⟨fun i s hs => (h.own i s hs).alloc o, h.apart⟩
theorem Parts.drewN {w : World} {base : Nat} {l : List SV} (h : Parts w base l) (n : Nat) : Parts (w.drewN n) base l := ⟨h.own, h.apart⟩
theorem Parts.below {w w' : World} {base B : Nat} {l : List SV} (h : Parts w base l) (hb : Below B w w') (hB : w.heap.size <= B) : Parts w' base l := ⟨fun i s hs => (h.own i s hs).below hb hB, h.apart⟩
theorem os_blk_ne {w : World} {base base' : Nat} {A : Option Addr} {c c' g : Nat} {l : List UInt8} {m : List SV} (h : OS cB w base A c l) (h' : OS cL w base' (some ⟨g, 0, none⟩) c' m) : ∀ a, A = some a -> a.block ≠ g := by
 intro a ha;rcases h'.2 with ⟨hv, _⟩ | ⟨g', cap, cur, hv, _, hg, _⟩
 ·cases hv
 ·injection hv with hv
  injection hv with hv
  injection hv with hv
  subst hv;have := own_blk_ne (t := cL.e) (cs := cur) h hg (by decide);subst ha;intro e;exact this (by rw [<- e]; rfl)
theorem Parts.put {w w1 : World} {base : Nat} {l : List SV} (h : Parts w base l) {i : Nat} {s : SV} (hi : l[i]? = some s) (hg : w.grownBy w1 (s.A.map (·.block))) {t : SV} (ht : OS cB w1 base t.A t.c t.l)
  (hat : t.A.map (·.block) = s.A.map (·.block) \/ t.A.map (·.block) = some w.heap.size) : Parts w1 base (l.set i t) := by
 have hil : i < l.length := (List.getElem?_eq_some_iff.1 hi).1;have old : ∀ (j : Nat) (u : SV), j ≠ i -> l[j]? = some u -> OS cB w1 base u.A u.c u.l := fun j u hji hu =>
  (h.own j u hu).kept hg (fun a ha e => by
   cases hs : s.A with
   | none => rw [hs] at e; cases e
   | some b =>
    rw [hs] at e;simp at e;exact h.apart j i u s hji hu hi a b ha hs e.symm)
 have far : ∀ (j : Nat) (u : SV), j ≠ i -> l[j]? = some u -> ∀ (a b : Addr), u.A = some a -> t.A = some b -> a.block ≠ b.block := fun j u hji hu a b ha hb e => by
  have hlt := (h.own j u hu).block_lt a ha;rcases hat with hat | hat
  ·cases hs : s.A with
   | none => rw [hs, hb] at hat; cases hat
   | some c =>
    rw [hs, hb] at hat;simp at hat;exact h.apart j i u s hji hu hi a c ha hs (e.trans hat)
  ·rw [hb] at hat
   simp at hat;omega
 refine ⟨fun j u hu => ?_, fun j k u v hjk hu hv a b ha hb => ?_⟩
 ·by_cases hji : j = i
  ·subst hji
   rw [List.getElem?_set_self hil] at hu;injection hu with hu; subst hu
   exact ht
  ·rw [List.getElem?_set_ne (Ne.symm hji)] at hu
   exact old j u hji hu
 ·by_cases hji : j = i
  ·subst hji
   rw [List.getElem?_set_self hil] at hu;injection hu with hu; subst hu
   rw [List.getElem?_set_ne hjk] at hv;exact (far k v (Ne.symm hjk) hv b a hb ha).symm
  ·rw [List.getElem?_set_ne (Ne.symm hji)] at hu
   by_cases hki : k = i
   ·subst hki
    rw [List.getElem?_set_self hil] at hv;injection hv with hv; subst hv
    exact far j u hji hu a b ha hb
   ·rw [List.getElem?_set_ne (Ne.symm hki)] at hv
    exact h.apart j k u v hjk hu hv a b ha hb
theorem Parts.setFar {w : World} {base : Nat} {l : List SV} (h : Parts w base l) {p : Addr} (hp : ∀ (i : Nat) (s : SV) (a : Addr), l[i]? = some s -> s.A = some a -> a.block ≠ p.block) (u : Value) : Parts (w.setCell p u) base l :=
 ⟨fun i s hs => (h.own i s hs).setFar (fun a ha => hp i s a hs ha) u, h.apart⟩
structure Tab (w : World) (base g c : Nat) (l : List SV) : Prop where
  row : OS cL w base (some ⟨g, 0, none⟩) c l
  parts : Parts w base l
theorem Tab.mono {w : World} {base B g c : Nat} {l : List SV} (h : Tab w base g c l) (hb : B <= base) : Tab w B g c l := ⟨h.row.mono hb, h.parts.mono hb⟩
theorem Tab.alloc {w : World} {base g c : Nat} {l : List SV} (h : Tab w base g c l) (o : Obj) : Tab (w.alloc o) base g c l := ⟨h.row.alloc o, h.parts.alloc o⟩
theorem Tab.drew {w : World} {base g c : Nat} {l : List SV} (h : Tab w base g c l) : Tab w.drew base g c l := ⟨h.row, ⟨h.parts.own, h.parts.apart⟩⟩
theorem Tab.drewN {w : World} {base g c : Nat} {l : List SV} (h : Tab w base g c l) (n : Nat) : Tab (w.drewN n) base g c l := ⟨h.row, h.parts.drewN n⟩
theorem Tab.below {w w' : World} {base B g c : Nat} {l : List SV} (h : Tab w base g c l) (hb : Below B w w') (hB : w.heap.size <= B) : Tab w' base g c l := ⟨h.row.below hb hB, h.parts.below hb hB⟩
theorem Tab.row_kept {w w1 : World} {base g c : Nat} {l : List SV} (h : Tab w base g c l) {i : Nat} {s : SV} (hi : l[i]? = some s) (hg : w.grownBy w1 (s.A.map (·.block))) : OS cL w1 base (some ⟨g, 0, none⟩) c l :=
 h.row.kept hg (fun a ha e => by
  injection ha with ha; subst ha
  cases hs : s.A with
  | none => rw [hs] at e; cases e
  | some b =>
   rw [hs] at e;simp at e;exact os_blk_ne (h.parts.own i s hi) h.row b hs e)
theorem Tab.far {w w1 : World} {base g c : Nat} {l : List SV} (h : Tab w base g c l) {i : Nat} {s : SV} (hi : l[i]? = some s) (hg : w.grownBy w1 (s.A.map (·.block))) :
  w1.cell? ⟨g, i, none⟩ = some s.v /\ w1.frozen? ⟨g, i, none⟩ = false := by
 have hil : i < l.length := (List.getElem?_eq_some_iff.1 hi).1;obtain ⟨g', x, e, _, _, ex, hc, hf⟩ := (h.row_kept hi hg).at_ hil;injection e with e; injection e with e; subst e
 rw [hi] at ex; injection ex with ex; subst ex
 exact ⟨hc, hf⟩
theorem Tab.put {w w1 : World} {base g c : Nat} {l : List SV} (h : Tab w base g c l) {i : Nat} {s : SV} (hi : l[i]? = some s) (hg : w.grownBy w1 (s.A.map (·.block))) {t : SV} (ht : OS cB w1 base t.A t.c t.l)
  (hat : t.A.map (·.block) = s.A.map (·.block) \/ t.A.map (·.block) = some w.heap.size) : Tab (w1.setCell ⟨g, i, none⟩ t.v) base g c (l.set i t) := by
 have hrow := h.row_kept hi hg;have hp := h.parts.put hi hg ht hat;refine ⟨hrow.set i t, hp.setFar (fun j u a hu ha => ?_) _⟩;exact os_blk_ne (hp.own j u hu) hrow a ha
def laneB (n blk j : Nat) (data : List UInt8) : List UInt8 := (data.zipIdx.filter fun p => p.2 / blk % n == j).map (·.1)
theorem laneB_snoc (n blk j : Nat) (l : List UInt8) (c : UInt8) :
  laneB n blk j (l ++ [c]) = if l.length / blk % n = j then laneB n blk j l ++ [c] else laneB n blk j l := by
 unfold laneB;rw [List.zipIdx_append, List.filter_append, List.map_append]
 by_cases h : l.length / blk % n = j <;> simp [h]
theorem laneB_le (n blk j : Nat) (l : List UInt8) : (laneB n blk j l).length <= l.length := by
 unfold laneB;simp only [List.length_map];exact Nat.le_trans (List.length_filter_le _ _) (by simp)
theorem laneB_piece (n blk j q : Nat) : ∀ (m l : List UInt8), (∀ i, i < m.length -> (l.length + i) / blk = q) ->
  laneB n blk j (l ++ m) = if q % n = j then laneB n blk j l ++ m else laneB n blk j l := by
 intro m
 induction m with
 | nil => intro l _; simp
 | cons c m ih =>
  intro l h;have hq := h 0 (by simp);have e : l ++ c :: m = (l ++ [c]) ++ m := by simp
  rw [e, ih (l ++ [c]) (fun i hi => by have := h (i + 1) (by simp; omega); simpa [Nat.add_assoc, Nat.add_comm 1 i] using this), laneB_snoc];simp only [Nat.add_zero] at hq;rw [hq]
  by_cases e : q % n = j <;> simp [e]
def lanesOf (k : Int) : Nat := if k = 1 then 4 else if k = 2 then 8 else 0
def blockOf (k : Int) : Nat := if k = 1 then 128 else if k = 2 then 64 else 0
theorem count_big (w : World) : Calls Tryz.prog 80 #[.int .i64 1] w fun e w' => e = .returned (.int .i64 4) /\ w = w' := by
 go_enter Tryz.func80, Tryz.ntmps80;go_wp2;go_ret;exact ⟨rfl, rfl⟩
theorem count_small (w : World) : Calls Tryz.prog 80 #[.int .i64 2] w fun e w' => e = .returned (.int .i64 8) /\ w = w' := by
 go_enter Tryz.func80, Tryz.ntmps80;go_wp2;go_ret;exact ⟨rfl, rfl⟩
theorem block_big (w : World) : Calls Tryz.prog 104 #[.int .i64 1] w fun e w' => e = .returned (.int .i64 128) /\ w = w' := by
 go_enter Tryz.func104, Tryz.ntmps104;go_wp2;go_ret;exact ⟨rfl, rfl⟩
theorem block_small (w : World) : Calls Tryz.prog 104 #[.int .i64 2] w fun e w' => e = .returned (.int .i64 64) /\ w = w' := by
 go_enter Tryz.func104, Tryz.ntmps104;go_wp2;go_ret;exact ⟨rfl, rfl⟩
theorem refSplit_any (k : Int) (n blk : Nat) (hn0 : 0 < n) (hn8 : n <= 8) (hb0 : 0 < blk) (hC : Hid (∀ w : World, Calls Tryz.prog 80 #[.int .i64 k] w fun e w' => e = .returned (.int .i64 n) /\ w = w'))
  (hB : Hid (∀ w : World, Calls Tryz.prog 104 #[.int .i64 k] w fun e w' => e = .returned (.int .i64 blk) /\ w = w'))
  (A : Option Addr) (c N : Nat) (l : List UInt8) (w : World) (hN : l.length = N) (hm : N <= 140737488355000) (hr : RS cB w w.heap.size A l) :
  Calls Tryz.prog 83 #[.int .i64 k, .slice A N c] w fun e w' => ∃ g svs, e = .returned (.tuple #[.slice (some ⟨g, 0, none⟩) n n, .int .i64 0]) /\ Tab w' w.heap.size g n svs /\ svs.length = n /\
   (∀ j s, svs[j]? = some s -> s.l = laneB n blk j l) /\ Below w.heap.size w w' := by
 have HN := zH hN; have HR := zH hr; clear hN hr;have hmk : ∀ (W : World), (Instr.makeSlice 134 (.int .i64 (n : Int)) (.int .i64 (n : Int))).run Tryz.prog W = .ok (.slice (some ⟨W.heap.size, 0, none⟩) n n) (W.alloc (.cells (madeCells #[cL.zero] n) 22)) := fun (W : World) => run_makeS cL_ok .i64 .i64 n n (aZC _) (by show 24 * n <= _; omega) (by omega) W
 have hne : ((n : Int) == 0) = false := by simp; omega
 go_enter Tryz.func83, Tryz.ntmps83;go_wp2_with fail;refine (hC.out _).mono ?_;rintro e w1 ⟨rfl, rfl⟩;go_wp2;clear hmk;obtain ⟨H, hH⟩ : ∃ H, H = w.heap.size := ⟨_, rfl⟩;have HH := zH hH;rw [<- hH]; clear hH;go_loopw [8] (fun i wr => ∃ (k : Nat) (svs : List SV), k <= N /\ i = .int .i64 k /\ Tab wr H H n svs /\ svs.length = n /\ (∀ (j : Nat) (s : SV), svs[j]? = some s -> s.l = laneB n blk j (l.take k)) /\ Below H w wr) (fun i _ => N - (intOf i).toNat)
 case atStart =>
  have h1 : OS cL (w.alloc (.cells (madeCells #[cL.zero] n) 22)) H (some ⟨H, 0, none⟩) n (List.replicate n SV.none) := by
   rw [HH.out];exact OS.made (cd := cL) w n n SV.none rfl (aZC _) (by unfold maxLen; omega) (aZC _)
  refine ⟨0, List.replicate n SV.none, by omega, rfl, ⟨h1, Parts.none_ _ _ _⟩, by simp, fun j s hs => ?_, by rw [HH.out]; exact (Below.refl _ _).alloc (aZC _) _⟩;rw [List.getElem?_replicate] at hs
  split at hs
  ·injection hs with hs; subst hs; rfl
  ·cases hs
 case round =>
  obtain ⟨i, svs, hi, rfl, htab, hlen, hlane, hbw⟩ := hrel;have HL := zH hlane; have HT := zH htab; have HN2 := zH hlen; clear hlane htab hlen
  by_cases hlt : i < N
  ·obtain ⟨q, hq⟩ : ∃ q, q = i / blk := ⟨_, rfl⟩
   obtain ⟨j, hj⟩ : ∃ j, j = q % n := ⟨_, rfl⟩;have hjn : j < n := by rw [hj]; exact Nat.mod_lt _ hn0
   have hqN : q <= N := by rw [hq]; exact Nat.le_trans (Nat.div_le_self _ _) hi
   have hq' : (i : Int) / (blk : Int) = (q : Int) := by rw [hq]; rfl
   have hj' : (q : Int) % (n : Int) = (j : Int) := by rw [hj]; rfl
   have HQ := zH hq; have HJ := zH hj; clear hq hj;go_wp2_with fail;refine (hB.out _).mono ?_;rintro e w2 ⟨rfl, rfl⟩;go_wp2;obtain ⟨ad, x, rfl, -, ex, gx⟩ := (HR.at_ (k := i) (by rw [HN.out]; exact hlt));have EX := zH ex; clear ex;have gx' : wr.cell? (ad.add i) = some (.int .u8 (byt x)) := by
    have := (HR.below (by rw [<- HH.out]; exact hbw)).at_ (k := i) (by rw [HN.out]; exact hlt);obtain ⟨ad', x', e1, -, e2, e3⟩ := this;injection e1 with e1; subst e1
    rw [EX.out] at e2; injection e2 with e2; subst e2
    exact e3
   clear gx;obtain ⟨g, s, hg, -, hHlt, es, gs, gf⟩ := HT.row.at_ (k := j) (by rw [HN2.out]; exact hjn);injection hg with hg; injection hg with hg; subst hg
   change wr.cell? ⟨H, j, none⟩ = some (.slice s.A s.l.length s.c) at gs;have ES := zH es; clear es;have hos := HT.parts.own j s ES.out;obtain ⟨sA, sc, sl⟩ := s;dsimp only at gs hos;obtain ⟨m, hm2⟩ : ∃ m, m = sl.length := ⟨_, rfl⟩;rw [<- hm2] at gs;have HM := zH hm2; clear hm2;have hsz : H <= wr.heap.size := by have := hbw.size; rw [<- HH.out] at this; exact this
   have hmi : m <= i := by
    have h1 := HL j _ ES.out;dsimp only at h1;rw [HM.out, h1];exact Nat.le_trans (laneB_le _ _ _ _) (by simp; omega)
   go_region_law (refine step_appB1 _ rfl (.tmp 33) (.tmp 38) rfl (OS.drew (hos.alloc _)) rfl HM.symm rfl (cell_new_drew _ _ _) x rfl (by omega) (size_new_drew hsz) ?_; intro A3 c3 w3 hown3 hgrow hat; obtain ⟨gs3, gf3⟩ := (HT.alloc _).drew.far ES.out hgrow)
   all_goals
    have hput := (HT.alloc (.cells #[.int .u8 (byt x)] 5)).drew.put ES hgrow (t := ⟨A3, c3, sl ++ [x]⟩) hown3 hat;have hv : (SV.mk A3 c3 (sl ++ [x])).v = .slice A3 (m + 1) c3 := by
     unfold SV.v
     dsimp only
     rw [List.length_append, <- HM.out]; rfl
    rw [hv] at hput;have hbw3 : Below H w (w3.setCell ⟨H, j, none⟩ (.slice A3 (m + 1) c3)) := (below_app (hbw.alloc hsz (.cells #[.int .u8 (byt x)] 5)).drew (OS.drew (hos.alloc _)) hgrow (aZC _) (size_new_drew hsz)).setCell (aZC _) _;clear hgrow hat hown3 gs3 gf3 hos gs gf gx';go_wp2;go_roundw
    case rel =>
     refine ⟨i + 1, _, by omega, by go_num, hput, by rw [List.length_set]; exact HN2.out, fun j' s' hs' => ?_, hbw3⟩;have e1 : l.take (i + 1) = l.take i ++ [x] := by rw [List.take_add_one, EX.out]; rfl
     rw [e1, laneB_snoc];have e2 : (l.take i).length = i := by rw [List.length_take, HN.out]; omega
     rw [e2, <- HQ.out, <- HJ.out]
     by_cases hjj : j = j'
     ·subst hjj
      rw [List.getElem?_set_self (by rw [HN2.out]; exact hjn)] at hs';injection hs' with hs'; subst hs'
      rw [if_pos rfl]
      show sl ++ [x] = _
      rw [<- HL.out j _ ES.out]
     ·rw [List.getElem?_set_ne hjj] at hs'
      rw [if_neg hjj];exact HL j' s' hs'
    case measure => simp [intOf]; omega
  ·go_wp2
   go_ret2;have hHH := HH.out;subst hHH;refine ⟨_, svs, rfl, HT.out, HN2.out, fun j s hs => ?_, hbw⟩;rw [HL.out j s hs, List.take_of_length_le (by rw [HN.out]; omega)]
theorem of_big (w : World) : Calls Tryz.prog 130 #[.int .i64 1] w fun e w' => e = .returned (.tuple #[.agg #[.int .i64 4, .int .i64 128, .int .i64 64], .bool true]) /\ Below w.heap.size w w' := by
 go_enter Tryz.func130, Tryz.ntmps130;go_wp2;exact aZB (v := .tuple #[.agg #[.int .i64 4, .int .i64 128, .int .i64 64], .bool true]) (by simp [results, Tryz.results130, go_sem]) rfl ⟨rfl, (Below.refl _ _).alloc (aZC _) _⟩
theorem of_small (w : World) : Calls Tryz.prog 130 #[.int .i64 2] w fun e w' => e = .returned (.tuple #[.agg #[.int .i64 8, .int .i64 64, .int .i64 32], .bool true]) /\ Below w.heap.size w w' := by
 go_enter Tryz.func130, Tryz.ntmps130;go_wp2;exact aZB (v := .tuple #[.agg #[.int .i64 8, .int .i64 64, .int .i64 32], .bool true]) (by simp [results, Tryz.results130, go_sem]) rfl ⟨rfl, (Below.refl _ _).alloc (aZC _) _⟩
def lanePar (n most digest key at_ : Int) (salt pers : Sl) : Pr := ⟨digest, key, n, 2, 0, if at_ = n then 0 else at_, 0, if at_ = n then 1 else 0, most, salt, pers⟩
def setV (n blk most k digest : Int) (key salt pers : Sl) : Value := .agg #[.int .i64 n, .int .i64 blk, .int .i64 most, .int .i64 k, .int .i64 digest, key.v, salt.v, pers.v]
theorem setParams_any (n blk most k digest at_ : Int) (key salt pers : Sl) (h0 : 0 <= at_) (h1 : at_ <= n) (h8 : n <= 8) (w : World) :
  Calls Tryz.prog 131 #[setV n blk most k digest key salt pers, .int .i64 at_] w fun e w' => e = .returned (lanePar n most digest key.n at_ salt pers).v /\ Below w.heap.size w w' := by
 obtain ⟨kA, kn, kc⟩ := key;obtain ⟨sA, sn, sc⟩ := salt;obtain ⟨pA, pn, pc⟩ := pers;unfold setV Sl.v lanePar Pr.v Pr.cs Sl.v
 dsimp only
 have hw : IntKind.u64.wrap at_ = at_ := by simp [aZU, aZR, aZM]; omega
 by_cases hn : at_ = n
 ·subst hn
  simp only [if_true];go_enter Tryz.func131, Tryz.ntmps131;go_wp2;exact aZB (v := .agg #[.int .i64 digest, .int .i64 kn, .int .i64 at_, .int .i64 2, .int .u32 0, .int .u64 0, .int .u32 0, .int .i64 1, .int .i64 most, .slice sA sn sc, .slice pA pn pc]) (by simp [results, Tryz.results131, go_sem]) rfl ⟨rfl, bal (bal (bal (b0 _) _) _) _⟩
 ·simp only [if_neg hn]
  go_enter Tryz.func131, Tryz.ntmps131;go_wp2;exact aZB (v := .agg #[.int .i64 digest, .int .i64 kn, .int .i64 n, .int .i64 2, .int .u32 0, .int .u64 at_, .int .u32 0, .int .i64 0, .int .i64 most, .slice sA sn sc, .slice pA pn pc]) (by simp [results, Tryz.results131, go_sem]) rfl ⟨rfl, bal (bal (bal (b0 _) _) _) _⟩
theorem refparams_any (k n most digest key at_ : Int) (salt pers : Sl) (h0 : 0 <= at_) (h1 : at_ <= n) (h8 : n <= 8)
  (hC : Hid (∀ w : World, Calls Tryz.prog 80 #[.int .i64 k] w fun e w' => e = .returned (.int .i64 n) /\ w = w'))
  (hM : Hid (∀ w : World, Calls Tryz.prog 62 #[.int .i64 k] w fun e w' => e = .returned (.int .i64 most) /\ w = w')) (w : World) :
  Calls Tryz.prog 82 #[.int .i64 k, .int .i64 digest, .int .i64 key, .int .i64 at_, salt.v, pers.v] w fun e w' => e = .returned (lanePar n most digest key at_ salt pers).v /\ Below w.heap.size w w' := by
 obtain ⟨sA, sn, sc⟩ := salt;obtain ⟨pA, pn, pc⟩ := pers;unfold lanePar Pr.v Pr.cs Sl.v
 dsimp only
 have hw : IntKind.u64.wrap at_ = at_ := by simp [aZU, aZR, aZM]; omega
 by_cases hn : at_ = n
 ·subst hn
  simp only [if_true];go_enter Tryz.func82, Tryz.ntmps82;go_wp2_with (first | (go_at_call 80; refine (hC.out _).mono ?_; rintro e w1 ⟨rfl, rfl⟩) | (go_at_call 62; refine (hM.out _).mono ?_; rintro e w1 ⟨rfl, rfl⟩));exact aZB (v := .agg #[.int .i64 digest, .int .i64 key, .int .i64 at_, .int .i64 2, .int .u32 0, .int .u64 0, .int .u32 0, .int .i64 1, .int .i64 most, .slice sA sn sc, .slice pA pn pc]) (by simp [results, Tryz.results82, go_sem]) rfl ⟨rfl, bal (bal (b0 _) _) _⟩
 ·simp only [if_neg hn]
  go_enter Tryz.func82, Tryz.ntmps82;go_wp2_with (first | (go_at_call 80; refine (hC.out _).mono ?_; rintro e w1 ⟨rfl, rfl⟩) | (go_at_call 62; refine (hM.out _).mono ?_; rintro e w1 ⟨rfl, rfl⟩));exact aZB (v := .agg #[.int .i64 digest, .int .i64 key, .int .i64 n, .int .i64 2, .int .u32 0, .int .u64 at_, .int .u32 0, .int .i64 0, .int .i64 most, .slice sA sn sc, .slice pA pn pc]) (by simp [results, Tryz.results82, go_sem]) rfl ⟨rfl, bal (bal (b0 _) _) _⟩
end Go.Proofs.YtmapfcdffklopaaGreat

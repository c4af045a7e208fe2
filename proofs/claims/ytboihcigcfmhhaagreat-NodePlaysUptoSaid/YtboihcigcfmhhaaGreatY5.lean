/-
  Y5: contracts and lemmas alone; no statement is claimed here.
-/
import Derived.Test.YtboihcigcfmhhaaGreatY0
import Derived.Outline
set_option maxHeartbeats 4000000
set_option maxRecDepth 20000
namespace Go.Proofs.YtboihcigcfmhhaaGreat
open Go.IntKind renaming wrap → aZU
open Go.IntKind renaming bits → aZR
open Go.IntKind renaming signed → aZM
open Go renaming results_tmp → aZK
open Go renaming bodyPost_ret → aZB
open Lib renaming hid -> zH
open Go.RowKit
structure Sl where
  A : Option Addr
  n : Nat
  c : Nat
def Sl.v (s : Sl) : Value := .slice s.A s.n s.c
def Sl.nil : Sl := ⟨none, 0, 0⟩
structure Pr where
  digest : Int
  key : Int
  fanout : Int
  depth : Int
  leaf : Int
  offset : Int
  xof : Int
  nd : Int
  inner : Int
  salt : Sl
  pers : Sl
def Pr.cs (p : Pr) : Array Value := #[.int .i64 p.digest, .int .i64 p.key, .int .i64 p.fanout, .int .i64 p.depth, .int .u32 p.leaf, .int .u64 p.offset, .int .u32 p.xof, .int .i64 p.nd, .int .i64 p.inner, p.salt.v, p.pers.v]
def Pr.v (p : Pr) : Value := .agg p.cs
def mostOf (k : Int) : Int := if k = 1 then 64 else if k = 2 then 32 else 0
def chk (k : Int) (p : Pr) : Int :=
  if mostOf k = 0 then 1
  else if p.digest < 1 \/ mostOf k < p.digest then 20
  else if p.key < 0 \/ mostOf k < p.key then 8
  else if p.fanout < 0 \/ 255 < p.fanout then 21
  else if p.depth < 0 \/ 255 < p.depth \/ (p.depth = 0 /\ p.xof = 0) then 22
  else if (p.xof ≠ 0 /\ 4294967296 <= p.offset) \/ (p.xof = 0 /\ k = 2 /\ 281474976710656 <= p.offset) then 23
  else if k = 2 /\ 65535 < p.xof then 24
  else if p.nd < 0 \/ 255 < p.nd then 25
  else if p.inner < 0 \/ mostOf k < p.inner then 26
  else if mostOf k < 4 * p.salt.n then 27
  else if mostOf k < 4 * p.pers.n then 28
  else 0
theorem within_any (n lo hi : Int) (w : World) : Calls Tryz.prog 80 #[.int .i64 n, .int .i64 lo, .int .i64 hi] w fun e w' => e = .returned (.bool (decide (lo <= n) && decide (n <= hi))) /\ w = w' := by
 go_enter Tryz.func80, Tryz.ntmps80;go_wp2
 all_goals go_ret
 all_goals exact ⟨ret_bool (by simp <;> omega), rfl⟩
theorem sizes_big (w : World) : Calls Tryz.prog 49 #[.int .i64 1] w fun e w' => e = .returned (.tuple #[.int .i64 64, .int .i64 64, .int .i64 16]) /\ w = w' := by
 go_enter Tryz.func49, Tryz.ntmps49;go_wp2;exact aZB (results_tmp3 rfl _ _ _) rfl ⟨rfl, rfl⟩
theorem sizes_small (w : World) : Calls Tryz.prog 49 #[.int .i64 2] w fun e w' => e = .returned (.tuple #[.int .i64 32, .int .i64 32, .int .i64 8]) /\ w = w' := by
 go_enter Tryz.func49, Tryz.ntmps49;go_wp2;exact aZB (results_tmp3 rfl _ _ _) rfl ⟨rfl, rfl⟩
theorem sizes_none (k : Int) (h1 : (k == 1) = false) (h2 : (k == 2) = false) (w : World) : Calls Tryz.prog 49 #[.int .i64 k] w fun e w' => e = .returned (.tuple #[.int .i64 0, .int .i64 0, .int .i64 0]) /\ w = w' := by
 go_enter Tryz.func49, Tryz.ntmps49;go_wp2;exact aZB (results_tmp3 rfl _ _ _) rfl ⟨rfl, rfl⟩
theorem most_big (w : World) : Calls Tryz.prog 53 #[.int .i64 1] w fun e w' => e = .returned (.int .i64 64) /\ w = w' := by
 go_enter Tryz.func53, Tryz.ntmps53;go_wp2;go_ret;exact ⟨rfl, rfl⟩
theorem most_small (w : World) : Calls Tryz.prog 53 #[.int .i64 2] w fun e w' => e = .returned (.int .i64 32) /\ w = w' := by
 go_enter Tryz.func53, Tryz.ntmps53;go_wp2;go_ret;exact ⟨rfl, rfl⟩
theorem most_none (k : Int) (h1 : (k == 1) = false) (h2 : (k == 2) = false) (w : World) : Calls Tryz.prog 53 #[.int .i64 k] w fun e w' => e = .returned (.int .i64 0) /\ w = w' := by
 go_enter Tryz.func53, Tryz.ntmps53;go_wp2;go_ret;exact ⟨rfl, rfl⟩
theorem check_any (k : Int) (p : Pr) (w : World) : Calls Tryz.prog 48 #[.int .i64 k, p.v] w fun e w' => e = .returned (.int .i64 (chk k p)) /\ Below w.heap.size w w' := by
 obtain ⟨r, hr⟩ : ∃ r, r = chk k p := ⟨_, rfl⟩;rw [<- hr];obtain ⟨d, ky, fo, de, le, of, xo, nd, inn, ⟨sA, sn, sc⟩, ⟨pA, pn, pc⟩⟩ := p;have HR := zH hr; clear hr;unfold Pr.v Pr.cs Sl.v
 dsimp only
 by_cases h1 : k = 1
 ·subst h1
  go_enter Tryz.func48, Tryz.ntmps48;go_wp2_with (first
   | (go_at_call 49; refine (sizes_big _).mono ?_; rintro e w1 ⟨rfl, rfl⟩)
   | (go_at_call 80; refine (within_any _ _ _ _).mono ?_; rintro e w1 ⟨rfl, rfl⟩))
  all_goals refine aZB (aZK rfl _ _ _) rfl ⟨?_, bal (b0 _) _⟩
  all_goals refine ret_int ?_
  all_goals rw [HR.out]
  all_goals (try simp only [bne_iff_ne, ne_eq, Bool.not_eq_true', Bool.not_eq_false', decide_eq_false_iff_not, decide_eq_true_eq, bne_eq_false_iff_eq] at *)
  all_goals unfold chk mostOf
  all_goals dsimp only
  all_goals (repeat (first | rw [if_neg (by omega)] | rw [if_pos (by omega)]))
  all_goals first | rfl | (exfalso; omega)
 ·by_cases h2 : k = 2
  ·subst h2
   go_enter Tryz.func48, Tryz.ntmps48;go_wp2_with (first
    | (go_at_call 49; refine (sizes_small _).mono ?_; rintro e w1 ⟨rfl, rfl⟩)
    | (go_at_call 80; refine (within_any _ _ _ _).mono ?_; rintro e w1 ⟨rfl, rfl⟩))
   all_goals refine aZB (aZK rfl _ _ _) rfl ⟨?_, bal (b0 _) _⟩
   all_goals refine ret_int ?_
   all_goals rw [HR.out]
   all_goals (try simp only [bne_iff_ne, ne_eq, Bool.not_eq_true', Bool.not_eq_false', decide_eq_false_iff_not, decide_eq_true_eq, bne_eq_false_iff_eq] at *)
   all_goals unfold chk mostOf
   all_goals dsimp only
   all_goals (repeat (first | rw [if_neg (by omega)] | rw [if_pos (by omega)]))
   all_goals first | rfl | (exfalso; omega)
  ·have hk1 : (k == 1) = false := by simpa using h1
   have hk2 : (k == 2) = false := by simpa using h2
   have hr := HR.out;unfold chk mostOf at hr;simp only [if_neg h1, if_neg h2, if_true] at hr;subst hr;clear HR h1 h2;go_enter Tryz.func48, Tryz.ntmps48;go_wp2_with (go_at_call 49; refine (sizes_none _ hk1 hk2 _).mono ?_; rintro e w1 ⟨rfl, rfl⟩);exact aZB (aZK rfl _ _ _) rfl ⟨rfl, bal (b0 _) _⟩
theorem value_1 (p : Pr) (w : World) (hp : 0 <= p.digest /\ p.digest < 18446744073709551616) : Calls Tryz.prog 52 #[p.v, .int .i64 1] w fun e w' => e = .returned (.int .u64 (p.digest)) /\ Below w.heap.size w w' := by
 have hq : IntKind.u64.wrap (p.digest) = p.digest := by simp [aZU, aZR, aZM]; omega
 obtain ⟨a0, a1, a2, a3, a4, a5, a6, a7, a8, a9, a10⟩ := p;unfold Pr.v Pr.cs;dsimp only at *;go_enter Tryz.func52, Tryz.ntmps52;go_wp2;exact aZB (aZK rfl _ _ _) rfl ⟨by rfl, bal (b0 w) _⟩
theorem value_2 (p : Pr) (w : World) (hp : 0 <= p.key /\ p.key < 18446744073709551616) : Calls Tryz.prog 52 #[p.v, .int .i64 2] w fun e w' => e = .returned (.int .u64 (p.key)) /\ Below w.heap.size w w' := by
  have hq : IntKind.u64.wrap (p.key) = p.key := by simp [aZU, aZR, aZM]; omega
  obtain ⟨a0, a1, a2, a3, a4, a5, a6, a7, a8, a9, a10⟩ := p;unfold Pr.v Pr.cs;dsimp only at *;go_enter Tryz.func52, Tryz.ntmps52;go_wp2;exact aZB (aZK rfl _ _ _) rfl ⟨by rfl, bal (b0 w) _⟩
theorem value_3 (p : Pr) (w : World) (hp : 0 <= p.fanout /\ p.fanout < 18446744073709551616) : Calls Tryz.prog 52 #[p.v, .int .i64 3] w fun e w' => e = .returned (.int .u64 (p.fanout)) /\ Below w.heap.size w w' := by
      have hq : IntKind.u64.wrap (p.fanout) = p.fanout := by simp [aZU, aZR, aZM]; omega
      obtain ⟨a0, a1, a2, a3, a4, a5, a6, a7, a8, a9, a10⟩ := p;unfold Pr.v Pr.cs;dsimp only at *;go_enter Tryz.func52, Tryz.ntmps52;go_wp2;exact aZB (aZK rfl _ _ _) rfl ⟨by rfl, bal (b0 w) _⟩
theorem value_4 (p : Pr) (w : World) (hp : 0 <= p.depth /\ p.depth < 18446744073709551616) : Calls Tryz.prog 52 #[p.v, .int .i64 4] w fun e w' => e = .returned (.int .u64 (p.depth)) /\ Below w.heap.size w w' := by
        have hq : IntKind.u64.wrap (p.depth) = p.depth := by simp [aZU, aZR, aZM]; omega
        obtain ⟨a0, a1, a2, a3, a4, a5, a6, a7, a8, a9, a10⟩ := p;unfold Pr.v Pr.cs;dsimp only at *;go_enter Tryz.func52, Tryz.ntmps52;go_wp2;exact aZB (aZK rfl _ _ _) rfl ⟨by rfl, bal (b0 w) _⟩
theorem value_5 (p : Pr) (w : World) (hp : 0 <= p.leaf /\ p.leaf < 18446744073709551616) : Calls Tryz.prog 52 #[p.v, .int .i64 5] w fun e w' => e = .returned (.int .u64 (p.leaf)) /\ Below w.heap.size w w' := by
          have hq : IntKind.u64.wrap (p.leaf) = p.leaf := by simp [aZU, aZR, aZM]; omega
          obtain ⟨a0, a1, a2, a3, a4, a5, a6, a7, a8, a9, a10⟩ := p;unfold Pr.v Pr.cs;dsimp only at *;go_enter Tryz.func52, Tryz.ntmps52;go_wp2;exact aZB (aZK rfl _ _ _) rfl ⟨by rfl, bal (b0 w) _⟩
theorem value_6 (p : Pr) (w : World) (hp : 0 <= p.offset /\ p.offset < 18446744073709551616) : Calls Tryz.prog 52 #[p.v, .int .i64 6] w fun e w' => e = .returned (.int .u64 (p.offset)) /\ Below w.heap.size w w' := by
            have hq : IntKind.u64.wrap (p.offset) = p.offset := by simp [aZU, aZR, aZM]; omega
            obtain ⟨a0, a1, a2, a3, a4, a5, a6, a7, a8, a9, a10⟩ := p;unfold Pr.v Pr.cs;dsimp only at *;go_enter Tryz.func52, Tryz.ntmps52;go_wp2;exact aZB (aZK rfl _ _ _) rfl ⟨by rfl, bal (b0 w) _⟩
theorem value_7 (p : Pr) (w : World) (hp : 0 <= p.xof /\ p.xof < 18446744073709551616) : Calls Tryz.prog 52 #[p.v, .int .i64 7] w fun e w' => e = .returned (.int .u64 (p.xof)) /\ Below w.heap.size w w' := by
              have hq : IntKind.u64.wrap (p.xof) = p.xof := by simp [aZU, aZR, aZM]; omega
              obtain ⟨a0, a1, a2, a3, a4, a5, a6, a7, a8, a9, a10⟩ := p;unfold Pr.v Pr.cs;dsimp only at *;go_enter Tryz.func52, Tryz.ntmps52;go_wp2;exact aZB (aZK rfl _ _ _) rfl ⟨by rfl, bal (b0 w) _⟩
theorem value_8 (p : Pr) (w : World) (hp : 0 <= p.nd /\ p.nd < 18446744073709551616) : Calls Tryz.prog 52 #[p.v, .int .i64 8] w fun e w' => e = .returned (.int .u64 (p.nd)) /\ Below w.heap.size w w' := by
                have hq : IntKind.u64.wrap (p.nd) = p.nd := by simp [aZU, aZR, aZM]; omega
                obtain ⟨a0, a1, a2, a3, a4, a5, a6, a7, a8, a9, a10⟩ := p;unfold Pr.v Pr.cs;dsimp only at *;go_enter Tryz.func52, Tryz.ntmps52;go_wp2;exact aZB (aZK rfl _ _ _) rfl ⟨by rfl, bal (b0 w) _⟩
theorem value_9 (p : Pr) (w : World) (hp : 0 <= p.inner /\ p.inner < 18446744073709551616) : Calls Tryz.prog 52 #[p.v, .int .i64 9] w fun e w' => e = .returned (.int .u64 (p.inner)) /\ Below w.heap.size w w' := by
                  have hq : IntKind.u64.wrap (p.inner) = p.inner := by simp [aZU, aZR, aZM]; omega
                  obtain ⟨a0, a1, a2, a3, a4, a5, a6, a7, a8, a9, a10⟩ := p;unfold Pr.v Pr.cs;dsimp only at *;go_enter Tryz.func52, Tryz.ntmps52;go_wp2;exact aZB (aZK rfl _ _ _) rfl ⟨by rfl, bal (b0 w) _⟩
def rowTab (big : Bool) : List (Nat × Nat × Nat) := [(1, 0, 1), (2, 1, 1), (3, 2, 1), (4, 3, 1), (5, 4, 4), (6, 8, if big then 8 else 6), (7, 12, if big then 4 else 2), (8, if big then 16 else 14, 1), (9, if big then 17 else 15, 1)]
def rowEnd : List (List UInt8 × Nat) := [([100, 105, 103, 101, 115, 116], 20), ([107, 101, 121], 8), ([102, 97, 110, 111, 117, 116], 21), ([100, 101, 112, 116, 104], 22), ([108, 101, 97, 102], 1), ([111, 102, 102, 115, 101, 116], 23), ([120, 111, 102], 24), ([110, 111, 100, 101], 25), ([105, 110, 110, 101, 114], 26)]
def rowCells (big : Bool) : Array Value := (((rowTab big).zip rowEnd).flatMap fun r => [.int .i64 (r.1.1 : Int), .int .i64 (r.1.2.1 : Int), .int .i64 (r.1.2.2 : Int), .string ⟨r.2.1.toArray⟩, .int .i64 (r.2.2 : Int)]).toArray
theorem rowsBig_any (w : World) : Calls Tryz.prog 50 #[.int .i64 1] w fun e w' => ∃ g, e = .returned (.slice (some ⟨g, 0, none⟩) 9 9) /\ w.heap.size <= g /\ Blk w' g 102 (rowCells true) /\ Below w.heap.size w w' := by
 go_enter Tryz.func50, Tryz.ntmps50;go_wp2;exact aZB (aZK rfl _ _ _) rfl ⟨w.heap.size, rfl, Nat.le_refl _, Blk.new w _ _, bal (b0 w) _⟩
theorem rowsSmall_any (w : World) : Calls Tryz.prog 50 #[.int .i64 2] w fun e w' => ∃ g, e = .returned (.slice (some ⟨g, 0, none⟩) 9 9) /\ w.heap.size <= g /\ Blk w' g 102 (rowCells false) /\ Below w.heap.size w w' := by
 go_enter Tryz.func50, Tryz.ntmps50;go_wp2;exact aZB (aZK rfl _ _ _) rfl ⟨w.heap.size, rfl, Nat.le_refl _, Blk.new w _ _, bal (b0 w) _⟩
theorem refCheck_any (k : Int) (p : Pr) (w : World) : Calls Tryz.prog 31 #[.int .i64 k, p.v] w fun e w' => e = .returned (.int .i64 (chk k p)) /\ Below w.heap.size w w' := by
 obtain ⟨r, hr⟩ : ∃ r, r = chk k p := ⟨_, rfl⟩;rw [<- hr];obtain ⟨d, ky, fo, de, le, of, xo, nd, inn, ⟨sA, sn, sc⟩, ⟨pA, pn, pc⟩⟩ := p;have HR := zH hr; clear hr;unfold Pr.v Pr.cs Sl.v
 dsimp only
 by_cases h1 : k = 1
 ·subst h1
  by_cases hx : xo = 0
  ·subst hx
   go_enter Tryz.func31, Tryz.ntmps31;go_wp2_with (go_at_call 53; refine (most_big _).mono ?_; rintro e w1 ⟨rfl, rfl⟩)
   all_goals refine aZB (aZK rfl _ _ _) rfl ⟨?_, bal (b0 _) _⟩
   all_goals refine ret_int ?_
   all_goals rw [HR.out]
   all_goals unfold chk mostOf
   all_goals dsimp only
   all_goals (repeat (first | rw [if_neg (by omega)] | rw [if_pos (by omega)]))
  ·have hx0 : (xo == 0) = false := by simpa using hx
   have hx1 : (xo != 0) = true := by simpa using hx
   go_enter Tryz.func31, Tryz.ntmps31;go_wp2_with (go_at_call 53; refine (most_big _).mono ?_; rintro e w1 ⟨rfl, rfl⟩)
   all_goals refine aZB (aZK rfl _ _ _) rfl ⟨?_, bal (b0 _) _⟩
   all_goals refine ret_int ?_
   all_goals rw [HR.out]
   all_goals unfold chk mostOf
   all_goals dsimp only
   all_goals (repeat (first | rw [if_neg (by omega)] | rw [if_pos (by omega)]))
 ·by_cases h2 : k = 2
  ·subst h2
   by_cases hx : xo = 0
   ·subst hx
    go_enter Tryz.func31, Tryz.ntmps31;go_wp2_with (go_at_call 53; refine (most_small _).mono ?_; rintro e w1 ⟨rfl, rfl⟩)
    all_goals refine aZB (aZK rfl _ _ _) rfl ⟨?_, bal (b0 _) _⟩
    all_goals refine ret_int ?_
    all_goals rw [HR.out]
    all_goals unfold chk mostOf
    all_goals dsimp only
    all_goals (repeat (first | rw [if_neg (by omega)] | rw [if_pos (by omega)]))
   ·have hx0 : (xo == 0) = false := by simpa using hx
    have hx1 : (xo != 0) = true := by simpa using hx
    go_enter Tryz.func31, Tryz.ntmps31;go_wp2_with (go_at_call 53; refine (most_small _).mono ?_; rintro e w1 ⟨rfl, rfl⟩)
    all_goals refine aZB (aZK rfl _ _ _) rfl ⟨?_, bal (b0 _) _⟩
    all_goals refine ret_int ?_
    all_goals rw [HR.out]
    all_goals unfold chk mostOf
    all_goals dsimp only
    all_goals (repeat (first | rw [if_neg (by omega)] | rw [if_pos (by omega)]))
  ·have hk1 : (k == 1) = false := by simpa using h1
   have hk2 : (k == 2) = false := by simpa using h2
   have hr := HR.out;unfold chk mostOf at hr;simp only [if_neg h1, if_neg h2, if_true] at hr;subst hr;clear HR h1 h2;go_enter Tryz.func31, Tryz.ntmps31;go_wp2_with (go_at_call 53; refine (most_none _ hk1 hk2 _).mono ?_; rintro e w1 ⟨rfl, rfl⟩);exact aZB (aZK rfl _ _ _) rfl ⟨rfl, bal (b0 _) _⟩
def zeroPar : Pr := ⟨0, 0, 0, 0, 0, 0, 0, 0, 0, Sl.nil, Sl.nil⟩
def zcs : Array Value := #[.int .i64 0, .int .i64 0, .int .i64 0, .int .i64 0, .int .u32 0, .int .u64 0, .int .u32 0, .int .i64 0, .int .i64 0, .slice none 0 0, .slice none 0 0]
theorem Pr.size (p : Pr) : (Tryz.prog.info? 26).map (·.size) = some p.cs.size := by unfold Pr.cs; kernel_rfl
theorem Pr.ones (p : Pr) : p.cs.all (·.oneCell') = true := by unfold Pr.cs Sl.v; simp [Value.oneCell']
end Go.Proofs.YtboihcigcfmhhaaGreat

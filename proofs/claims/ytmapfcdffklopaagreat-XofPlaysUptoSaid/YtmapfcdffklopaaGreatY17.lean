/-
  Y17: contracts and lemmas alone; no statement is claimed here.
-/
import Derived.Test.YtmapfcdffklopaaGreatY5
import Derived.Test.YtmapfcdffklopaaGreatY15
namespace Go.Proofs.YtmapfcdffklopaaGreat
open Go.RowKit

set_option maxHeartbeats 4000000 in
theorem refCheck_any (k : Int) (p : Pr) (w : World) : Calls Tryz.prog 42 #[.int .i64 k, p.v] w fun e w' => e = .returned (.int .i64 (chk k p)) ∧ Below w.heap.size w w' := by
 obtain ⟨r, hr⟩ : ∃ r, r = chk k p := ⟨_, rfl⟩
 rw [← hr]
 obtain ⟨d, ky, fo, de, le, of, xo, nd, inn, ⟨sA, sn, sc⟩, ⟨pA, pn, pc⟩⟩ := p
 have HR := Lib.hid hr; clear hr
 unfold Pr.v Pr.cs Sl.v
 dsimp only
 by_cases h1 : k = 1
 ·subst h1
  by_cases hx : xo = 0
  ·subst hx
   go_enter Tryz.func42, Tryz.ntmps42
   go_wp2_with (go_at_call 62; refine (most_big _).mono ?_; rintro e w1 ⟨rfl, rfl⟩)
   all_goals refine bodyPost_ret (results_tmp rfl _ _ _) rfl ⟨?_, bal (b0 _) _⟩
   all_goals refine ret_int ?_
   all_goals rw [HR.out]
   all_goals unfold chk mostOf
   all_goals dsimp only
   all_goals (repeat (first | rw [if_neg (by omega)] | rw [if_pos (by omega)]))
  ·have hx0 : (xo == 0) = false := by simpa using hx
   have hx1 : (xo != 0) = true := by simpa using hx
   go_enter Tryz.func42, Tryz.ntmps42
   go_wp2_with (go_at_call 62; refine (most_big _).mono ?_; rintro e w1 ⟨rfl, rfl⟩)
   all_goals refine bodyPost_ret (results_tmp rfl _ _ _) rfl ⟨?_, bal (b0 _) _⟩
   all_goals refine ret_int ?_
   all_goals rw [HR.out]
   all_goals unfold chk mostOf
   all_goals dsimp only
   all_goals (repeat (first | rw [if_neg (by omega)] | rw [if_pos (by omega)]))
 ·by_cases h2 : k = 2
  ·subst h2
   by_cases hx : xo = 0
   ·subst hx
    go_enter Tryz.func42, Tryz.ntmps42
    go_wp2_with (go_at_call 62; refine (most_small _).mono ?_; rintro e w1 ⟨rfl, rfl⟩)
    all_goals refine bodyPost_ret (results_tmp rfl _ _ _) rfl ⟨?_, bal (b0 _) _⟩
    all_goals refine ret_int ?_
    all_goals rw [HR.out]
    all_goals unfold chk mostOf
    all_goals dsimp only
    all_goals (repeat (first | rw [if_neg (by omega)] | rw [if_pos (by omega)]))
   ·have hx0 : (xo == 0) = false := by simpa using hx
    have hx1 : (xo != 0) = true := by simpa using hx
    go_enter Tryz.func42, Tryz.ntmps42
    go_wp2_with (go_at_call 62; refine (most_small _).mono ?_; rintro e w1 ⟨rfl, rfl⟩)
    all_goals refine bodyPost_ret (results_tmp rfl _ _ _) rfl ⟨?_, bal (b0 _) _⟩
    all_goals refine ret_int ?_
    all_goals rw [HR.out]
    all_goals unfold chk mostOf
    all_goals dsimp only
    all_goals (repeat (first | rw [if_neg (by omega)] | rw [if_pos (by omega)]))
  ·have hk1 : (k == 1) = false := by simpa using h1
   have hk2 : (k == 2) = false := by simpa using h2
   have hr := HR.out
   unfold chk mostOf at hr
   simp only [if_neg h1, if_neg h2, if_true] at hr
   subst hr
   clear HR h1 h2
   go_enter Tryz.func42, Tryz.ntmps42
   go_wp2_with (go_at_call 62; refine (most_none _ hk1 hk2 _).mono ?_; rintro e w1 ⟨rfl, rfl⟩)
   exact bodyPost_ret (results_tmp rfl _ _ _) rfl ⟨rfl, bal (b0 _) _⟩
end Go.Proofs.YtmapfcdffklopaaGreat
namespace Go.Proofs.YtmapfcdffklopaaGreat
open Go.RowKit
attribute [local go_sem] pureUpon Ords.of

def xMost (k : Int) : Int := if k = 1 then 4294967294 else 65534
def xCode (k len : Int) : Int := if len = -1 then xMost k + 1 else len
def xTotal (k len : Int) : Int := if len = -1 then mostOf k * 4294967296 else len
def xOK (k len : Int) : Prop := (k = 1 ∨ k = 2) ∧ (len = -1 ∨ (1 ≤ len ∧ len ≤ xMost k))
instance (k len : Int) : Decidable (xOK k len) := by unfold xOK; infer_instance
def rootP (k len : Int) (nk : Nat) (s t : Sl) : Pr := ⟨mostOf k, nk, 1, 1, 0, 0, xCode k len, 0, 0, s, t⟩
def xValid (k len : Int) (nk : Nat) (s t : Sl) : Int := if ¬ xOK k len then 1 else if mostOf k < nk then 8 else chk k (rootP k len nk s t)
def shCells (k c t : Int) (kn : Bool) : Array Value := #[.int .i64 k, .int .i64 (mostOf k), .int .u32 c, .int .u64 t, .bool kn]
set_option maxRecDepth 100000 in
set_option maxHeartbeats 1000000 in
theorem shaped_big_unk (w : World) : Calls Tryz.prog 57 #[.int .i64 1, .int .i64 (-1)] w fun e w' => e = .returned (.tuple #[.agg #[.int .i64 1, .int .i64 64, .int .u32 4294967295, .int .u64 274877906944, .bool false], .bool true]) ∧ Below w.heap.size w w' := by
 have hw : IntKind.u32.wrap 4294967295 = 4294967295 := rfl
 have hw2 : IntKind.u64.wrap 274877906944 = 274877906944 := rfl
 go_enter Tryz.func57, Tryz.ntmps57
 go_wp2
 exact bodyPost_ret (results_cell_tmp rfl _ _ w.heap.size 67 _ _ rfl ((Blk.new w _ _).alloc _) Tryz.underlying67 rfl (by kernel_rfl)) rfl ⟨rfl, bal (bal (b0 w) _) _⟩
set_option maxRecDepth 100000 in
set_option maxHeartbeats 1000000 in
theorem shaped_big_ok (L : Int) (h1 : 1 ≤ L) (h2 : L ≤ 4294967294) (w : World) : Calls Tryz.prog 57 #[.int .i64 1, .int .i64 L] w fun e w' => e = .returned (.tuple #[.agg #[.int .i64 1, .int .i64 64, .int .u32 L, .int .u64 L, .bool true], .bool true]) ∧ Below w.heap.size w w' := by
 have t1 : (L == -1) = false := by simp; omega
 have t2 : (L != -1) = true := by simp; omega
 have t3 : decide (1 ≤ L) = true := by simpa using h1
 have t4 : decide (L ≤ 4294967294) = true := by simpa using h2
 have hw : IntKind.u32.wrap L = L := by rw [wrap_u32w]; omega
 have hw2 : IntKind.u64.wrap L = L := by rw [wrap_u64]; omega
 go_enter Tryz.func57, Tryz.ntmps57
 go_wp2
 exact bodyPost_ret (results_cell_tmp rfl _ _ w.heap.size 67 _ _ rfl ((Blk.new w _ _).alloc _) Tryz.underlying67 rfl (by kernel_rfl)) rfl ⟨rfl, bal (bal (b0 w) _) _⟩
set_option maxRecDepth 100000 in
set_option maxHeartbeats 1000000 in
theorem shaped_big_bad (L : Int) (h0 : L ≠ -1) (h1 : ¬ (1 ≤ L ∧ L ≤ 4294967294)) (w : World) : Calls Tryz.prog 57 #[.int .i64 1, .int .i64 L] w fun e w' => ∃ c t, e = .returned (.tuple #[.agg #[.int .i64 1, .int .i64 64, .int .u32 c, .int .u64 t, .bool true], .bool false]) ∧ Below w.heap.size w w' := by
 have t1 : (L == -1) = false := by simpa using h0
 have t2 : (L != -1) = true := by simpa using h0
 obtain ⟨c, hc⟩ : ∃ c, IntKind.u32.wrap L = c := ⟨_, rfl⟩
 obtain ⟨t, ht⟩ : ∃ t, IntKind.u64.wrap L = t := ⟨_, rfl⟩
 by_cases h3 : 1 ≤ L
 ·have t3 : decide (1 ≤ L) = true := by simpa using h3
  have t4 : decide (L ≤ 4294967294) = false := by simp; omega
  clear h0 h1 h3
  go_enter Tryz.func57, Tryz.ntmps57
  go_wp2
  exact bodyPost_ret (results_cell_tmp rfl _ _ w.heap.size 67 _ _ rfl ((Blk.new w _ _).alloc _) Tryz.underlying67 rfl (by kernel_rfl)) rfl ⟨_, _,rfl, bal (bal (b0 w) _) _⟩
 ·have t3 : decide (1 ≤ L) = false := by simpa using h3
  clear h0 h1 h3
  go_enter Tryz.func57, Tryz.ntmps57
  go_wp2
  exact bodyPost_ret (results_cell_tmp rfl _ _ w.heap.size 67 _ _ rfl ((Blk.new w _ _).alloc _) Tryz.underlying67 rfl (by kernel_rfl)) rfl ⟨_, _,rfl, bal (bal (b0 w) _) _⟩
set_option maxRecDepth 100000 in
set_option maxHeartbeats 1000000 in
theorem shaped_small_unk (w : World) : Calls Tryz.prog 57 #[.int .i64 2, .int .i64 (-1)] w fun e w' => e = .returned (.tuple #[.agg #[.int .i64 2, .int .i64 32, .int .u32 65535, .int .u64 137438953472, .bool false], .bool true]) ∧ Below w.heap.size w w' := by
 have hw : IntKind.u32.wrap 65535 = 65535 := rfl
 have hw2 : IntKind.u64.wrap 137438953472 = 137438953472 := rfl
 go_enter Tryz.func57, Tryz.ntmps57
 go_wp2
 exact bodyPost_ret (results_cell_tmp rfl _ _ w.heap.size 67 _ _ rfl ((Blk.new w _ _).alloc _) Tryz.underlying67 rfl (by kernel_rfl)) rfl ⟨rfl, bal (bal (b0 w) _) _⟩
set_option maxRecDepth 100000 in
set_option maxHeartbeats 1000000 in
theorem shaped_small_ok (L : Int) (h1 : 1 ≤ L) (h2 : L ≤ 65534) (w : World) : Calls Tryz.prog 57 #[.int .i64 2, .int .i64 L] w fun e w' => e = .returned (.tuple #[.agg #[.int .i64 2, .int .i64 32, .int .u32 L, .int .u64 L, .bool true], .bool true]) ∧ Below w.heap.size w w' := by
 have t1 : (L == -1) = false := by simp; omega
 have t2 : (L != -1) = true := by simp; omega
 have t3 : decide (1 ≤ L) = true := by simpa using h1
 have t4 : decide (L ≤ 65534) = true := by simpa using h2
 have hw : IntKind.u32.wrap L = L := by rw [wrap_u32w]; omega
 have hw2 : IntKind.u64.wrap L = L := by rw [wrap_u64]; omega
 go_enter Tryz.func57, Tryz.ntmps57
 go_wp2
 exact bodyPost_ret (results_cell_tmp rfl _ _ w.heap.size 67 _ _ rfl ((Blk.new w _ _).alloc _) Tryz.underlying67 rfl (by kernel_rfl)) rfl ⟨rfl, bal (bal (b0 w) _) _⟩
set_option maxRecDepth 100000 in
set_option maxHeartbeats 1000000 in
theorem shaped_small_bad (L : Int) (h0 : L ≠ -1) (h1 : ¬ (1 ≤ L ∧ L ≤ 65534)) (w : World) : Calls Tryz.prog 57 #[.int .i64 2, .int .i64 L] w fun e w' => ∃ c t, e = .returned (.tuple #[.agg #[.int .i64 2, .int .i64 32, .int .u32 c, .int .u64 t, .bool true], .bool false]) ∧ Below w.heap.size w w' := by
 have t1 : (L == -1) = false := by simpa using h0
 have t2 : (L != -1) = true := by simpa using h0
 obtain ⟨c, hc⟩ : ∃ c, IntKind.u32.wrap L = c := ⟨_, rfl⟩
 obtain ⟨t, ht⟩ : ∃ t, IntKind.u64.wrap L = t := ⟨_, rfl⟩
 by_cases h3 : 1 ≤ L
 ·have t3 : decide (1 ≤ L) = true := by simpa using h3
  have t4 : decide (L ≤ 65534) = false := by simp; omega
  clear h0 h1 h3
  go_enter Tryz.func57, Tryz.ntmps57
  go_wp2
  exact bodyPost_ret (results_cell_tmp rfl _ _ w.heap.size 67 _ _ rfl ((Blk.new w _ _).alloc _) Tryz.underlying67 rfl (by kernel_rfl)) rfl ⟨_, _,rfl, bal (bal (b0 w) _) _⟩
 ·have t3 : decide (1 ≤ L) = false := by simpa using h3
  clear h0 h1 h3
  go_enter Tryz.func57, Tryz.ntmps57
  go_wp2
  exact bodyPost_ret (results_cell_tmp rfl _ _ w.heap.size 67 _ _ rfl ((Blk.new w _ _).alloc _) Tryz.underlying67 rfl (by kernel_rfl)) rfl ⟨_, _,rfl, bal (bal (b0 w) _) _⟩
set_option maxRecDepth 100000 in
set_option maxHeartbeats 1000000 in
theorem shaped_none (k L : Int) (h1 : k ≠ 1) (h2 : k ≠ 2) (w : World) : Calls Tryz.prog 57 #[.int .i64 k, .int .i64 L] w fun e w' => ∃ kn, e = .returned (.tuple #[.agg #[.int .i64 k, .int .i64 0, .int .u32 0, .int .u64 0, .bool kn], .bool false]) ∧ Below w.heap.size w w' := by
 have t1 : (k == 1) = false := by simpa using h1
 have t2 : (k == 2) = false := by simpa using h2
 clear h1 h2
 go_enter Tryz.func57, Tryz.ntmps57
 go_wp2
 exact bodyPost_ret (results_cell_tmp rfl _ _ w.heap.size 67 _ _ rfl ((Blk.new w _ _).alloc _) Tryz.underlying67 rfl (by kernel_rfl)) rfl ⟨_,rfl, bal (bal (b0 w) _) _⟩
theorem mostOf_none {k : Int} (h1 : k ≠ 1) (h2 : k ≠ 2) : mostOf k = 0 := by unfold mostOf; rw [if_neg h1, if_neg h2]
theorem shaped_any (k len : Int) (w : World) : Calls Tryz.prog 57 #[.int .i64 k, .int .i64 len] w fun e w' => ∃ c t kn, e = .returned (.tuple #[.agg (shCells k c t kn), .bool (decide (xOK k len))]) ∧ (xOK k len → c = xCode k len ∧ t = xTotal k len ∧ kn = decide (len ≠ -1)) ∧ Below w.heap.size w w' := by
 by_cases h1 : k = 1
 ·subst h1
  by_cases h0 : len = -1
  ·subst h0
   exact (shaped_big_unk w).mono fun r w' ⟨h, hb⟩ => ⟨4294967295, 274877906944, false, h, fun _ => ⟨rfl, rfl, rfl⟩, hb⟩
  ·by_cases hr : 1 ≤ len ∧ len ≤ 4294967294
   ·have ho : xOK 1 len := ⟨.inl rfl, .inr hr⟩
    rw [decide_eq_true ho]
    exact (shaped_big_ok len hr.1 hr.2 w).mono fun r w' ⟨h, hb⟩ => ⟨len, len, true, h, fun _ => ⟨by unfold xCode; rw [if_neg h0], by unfold xTotal; rw [if_neg h0], (decide_eq_true h0).symm⟩, hb⟩
   ·have ho : ¬ xOK 1 len := fun h => hr (h.2.resolve_left h0)
    rw [decide_eq_false ho]
    exact (shaped_big_bad len h0 hr w).mono fun r w' ⟨c, t, h, hb⟩ => ⟨c, t, true, h, fun h => absurd h ho, hb⟩
 ·by_cases h2 : k = 2
  ·subst h2
   by_cases h0 : len = -1
   ·subst h0
    exact (shaped_small_unk w).mono fun r w' ⟨h, hb⟩ => ⟨65535, 137438953472, false, h, fun _ => ⟨rfl, rfl, rfl⟩, hb⟩
   ·by_cases hr : 1 ≤ len ∧ len ≤ 65534
    ·have ho : xOK 2 len := ⟨.inr rfl, .inr hr⟩
     rw [decide_eq_true ho]
     exact (shaped_small_ok len hr.1 hr.2 w).mono fun r w' ⟨h, hb⟩ => ⟨len, len, true, h, fun _ => ⟨by unfold xCode; rw [if_neg h0], by unfold xTotal; rw [if_neg h0], (decide_eq_true h0).symm⟩, hb⟩
    ·have ho : ¬ xOK 2 len := fun h => hr (h.2.resolve_left h0)
     rw [decide_eq_false ho]
     exact (shaped_small_bad len h0 hr w).mono fun r w' ⟨c, t, h, hb⟩ => ⟨c, t, true, h, fun h => absurd h ho, hb⟩
  ·have ho : ¬ xOK k len := fun h => h.1.elim h1 h2
   rw [decide_eq_false ho]
   unfold shCells
   rw [mostOf_none h1 h2]
   exact (shaped_none k len h1 h2 w).mono fun r w' ⟨kn, h, hb⟩ => ⟨0, 0, kn, h, fun h => absurd h ho, hb⟩
set_option maxRecDepth 20000 in
set_option maxHeartbeats 1000000 in
theorem pars_any (k f c t : Int) (kn : Bool) (Ak : Option Addr) (nk ck : Nat) (s p : Sl) (w : World) :
  Calls Tryz.prog 59 #[.agg #[.int .i64 k, .int .i64 f, .int .u32 c, .int .u64 t, .bool kn], .slice Ak nk ck, s.v, p.v] w fun e w' => e = .returned (⟨f, nk, 1, 1, 0, 0, c, 0, 0, s, p⟩ : Pr).v ∧ Below w.heap.size w w' := by
 unfold Pr.v Pr.cs Sl.v
 go_enter Tryz.func59, Tryz.ntmps59
 go_wp2
 exact bodyPost_ret (results_cell_row rfl _ _ (w.heap.size + 1) 81 _ (0, 0) _ rfl (Blk.new2 _ _ _ _) Tryz.underlying81 rfl (by kernel_rfl)) rfl ⟨rfl, bal (bal (b0 w) _) _⟩
end Go.Proofs.YtmapfcdffklopaaGreat

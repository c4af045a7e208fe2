/-
  Z17: contracts and lemmas alone; no statement is claimed here.
-/
import Derived.Test.YtmapfcdffklopaaGreatZx
import Derived.Test.YtmapfcdffklopaaGreatZxc
import Derived.Test.YtmapfcdffklopaaGreatZ4
import Derived.Test.YtmapfcdffklopaaGreatZ13
import Derived.Test.YtmapfcdffklopaaGreatZ14
set_option maxHeartbeats 4000000
set_option maxRecDepth 100000
namespace Go.Proofs.YtmapfcdffklopaaGreat
open Go renaming results_tmp → aZK
open Go renaming wpList_store_row → aZE
open Go renaming bodyPost_ret → aZB
open Lib renaming hid -> zH
open Go.RowKit
theorem refCheck_any (k : Int) (p : Pr) (w : World) : Calls Tryz.prog 42 #[.int .i64 k, p.v] w fun e w' => e = .returned (.int .i64 (chk k p)) /\ Below w.heap.size w w' := by
 obtain ⟨r, hr⟩ : ∃ r, r = chk k p := ⟨_, rfl⟩;rw [<- hr];obtain ⟨d, ky, fo, de, le, of, xo, nd, inn, ⟨sA, sn, sc⟩, ⟨pA, pn, pc⟩⟩ := p;have HR := zH hr; clear hr;unfold Pr.v Pr.cs Sl.v
 dsimp only
 by_cases h1 : k = 1
 ·open kA in exact zS51
 ·by_cases h2 : k = 2
  ·exact zS51
  ·exact zS75
attribute [local go_sem] pureUpon Ords.of
def xMost (k : Int) : Int := if k = 1 then 4294967294 else 65534
def xCode (k len : Int) : Int := if len = -1 then xMost k + 1 else len
def xTotal (k len : Int) : Int := if len = -1 then mostOf k * 4294967296 else len
def xOK (k len : Int) : Prop := (k = 1 \/ k = 2) /\ (len = -1 \/ (1 <= len /\ len <= xMost k))
instance (k len : Int) : Decidable (xOK k len) := by unfold xOK; infer_instance
def rootP (k len : Int) (nk : Nat) (s t : Sl) : Pr := ⟨mostOf k, nk, 1, 1, 0, 0, xCode k len, 0, 0, s, t⟩
def xValid (k len : Int) (nk : Nat) (s t : Sl) : Int := if ¬ xOK k len then 1 else if mostOf k < nk then 8 else chk k (rootP k len nk s t)
def shCells (k c t : Int) (kn : Bool) : Array Value := #[.int .i64 k, .int .i64 (mostOf k), .int .u32 c, .int .u64 t, .bool kn]
theorem shaped_big_unk (w : World) : Calls Tryz.prog 57 #[.int .i64 1, .int .i64 (-1)] w fun e w' => e = .returned (.tuple #[.agg #[.int .i64 1, .int .i64 64, .int .u32 4294967295, .int .u64 274877906944, .bool false], .bool true]) /\ Below w.heap.size w w' := by
 have hw : IntKind.u32.wrap 4294967295 = 4294967295 := rfl;have hw2 : IntKind.u64.wrap 274877906944 = 274877906944 := rfl;go_enter Tryz.func57, Tryz.ntmps57;go_wp2;exact aZB (results_cell_tmp rfl _ _ w.heap.size 67 _ _ rfl ((Blk.new w _ _).alloc _) Tryz.underlying67 rfl (by kernel_rfl)) rfl ⟨rfl, bal (bal (b0 w) _) _⟩
theorem shaped_big_ok (L : Int) (h1 : 1 <= L) (h2 : L <= 4294967294) (w : World) : Calls Tryz.prog 57 #[.int .i64 1, .int .i64 L] w fun e w' => e = .returned (.tuple #[.agg #[.int .i64 1, .int .i64 64, .int .u32 L, .int .u64 L, .bool true], .bool true]) /\ Below w.heap.size w w' := by open kA in exact zS63
theorem shaped_big_bad (L : Int) (h0 : L ≠ -1) (h1 : ¬ (1 <= L /\ L <= 4294967294)) (w : World) : Calls Tryz.prog 57 #[.int .i64 1, .int .i64 L] w fun e w' => ∃ c t, e = .returned (.tuple #[.agg #[.int .i64 1, .int .i64 64, .int .u32 c, .int .u64 t, .bool true], .bool false]) /\ Below w.heap.size w w' := by open kA in exact zS46
theorem shaped_small_unk (w : World) : Calls Tryz.prog 57 #[.int .i64 2, .int .i64 (-1)] w fun e w' => e = .returned (.tuple #[.agg #[.int .i64 2, .int .i64 32, .int .u32 65535, .int .u64 137438953472, .bool false], .bool true]) /\ Below w.heap.size w w' := by
 have hw : IntKind.u32.wrap 65535 = 65535 := rfl;have hw2 : IntKind.u64.wrap 137438953472 = 137438953472 := rfl;go_enter Tryz.func57, Tryz.ntmps57;go_wp2;exact aZB (results_cell_tmp rfl _ _ w.heap.size 67 _ _ rfl ((Blk.new w _ _).alloc _) Tryz.underlying67 rfl (by kernel_rfl)) rfl ⟨rfl, bal (bal (b0 w) _) _⟩
theorem shaped_small_ok (L : Int) (h1 : 1 <= L) (h2 : L <= 65534) (w : World) : Calls Tryz.prog 57 #[.int .i64 2, .int .i64 L] w fun e w' => e = .returned (.tuple #[.agg #[.int .i64 2, .int .i64 32, .int .u32 L, .int .u64 L, .bool true], .bool true]) /\ Below w.heap.size w w' := by exact zS63
theorem shaped_small_bad (L : Int) (h0 : L ≠ -1) (h1 : ¬ (1 <= L /\ L <= 65534)) (w : World) : Calls Tryz.prog 57 #[.int .i64 2, .int .i64 L] w fun e w' => ∃ c t, e = .returned (.tuple #[.agg #[.int .i64 2, .int .i64 32, .int .u32 c, .int .u64 t, .bool true], .bool false]) /\ Below w.heap.size w w' := by exact zS46
theorem shaped_none (k L : Int) (h1 : k ≠ 1) (h2 : k ≠ 2) (w : World) : Calls Tryz.prog 57 #[.int .i64 k, .int .i64 L] w fun e w' => ∃ kn, e = .returned (.tuple #[.agg #[.int .i64 k, .int .i64 0, .int .u32 0, .int .u64 0, .bool kn], .bool false]) /\ Below w.heap.size w w' := by
 have t1 : (k == 1) = false := by simpa using h1
 have t2 : (k == 2) = false := by simpa using h2
 clear h1 h2;go_enter Tryz.func57, Tryz.ntmps57;go_wp2;exact aZB (results_cell_tmp rfl _ _ w.heap.size 67 _ _ rfl ((Blk.new w _ _).alloc _) Tryz.underlying67 rfl (by kernel_rfl)) rfl ⟨_,rfl, bal (bal (b0 w) _) _⟩
theorem mostOf_none {k : Int} (h1 : k ≠ 1) (h2 : k ≠ 2) : mostOf k = 0 := by unfold mostOf; rw [if_neg h1, if_neg h2]
theorem shaped_any (k len : Int) (w : World) : Calls Tryz.prog 57 #[.int .i64 k, .int .i64 len] w fun e w' => ∃ c t kn, e = .returned (.tuple #[.agg (shCells k c t kn), .bool (decide (xOK k len))]) /\ (xOK k len -> c = xCode k len /\ t = xTotal k len /\ kn = decide (len ≠ -1)) /\ Below w.heap.size w w' := by
 by_cases h1 : k = 1
 ·subst h1
  by_cases h0 : len = -1
  ·subst h0
   exact (shaped_big_unk w).mono fun r w' ⟨h, hb⟩ => ⟨4294967295, 274877906944, false, h, fun _ => ⟨rfl, rfl, rfl⟩, hb⟩
  ·by_cases hr : 1 <= len /\ len <= 4294967294
   ·have ho : xOK 1 len := ⟨.inl rfl, .inr hr⟩
    rw [decide_eq_true ho];exact (shaped_big_ok len hr.1 hr.2 w).mono fun r w' ⟨h, hb⟩ => ⟨len, len, true, h, fun _ => ⟨by unfold xCode; rw [if_neg h0], by unfold xTotal; rw [if_neg h0], (decide_eq_true h0).symm⟩, hb⟩
   ·have ho : ¬ xOK 1 len := fun h => hr (h.2.resolve_left h0)
    rw [decide_eq_false ho];exact (shaped_big_bad len h0 hr w).mono fun r w' ⟨c, t, h, hb⟩ => ⟨c, t, true, h, fun h => absurd h ho, hb⟩
 ·by_cases h2 : k = 2
  ·subst h2
   by_cases h0 : len = -1
   ·subst h0
    exact (shaped_small_unk w).mono fun r w' ⟨h, hb⟩ => ⟨65535, 137438953472, false, h, fun _ => ⟨rfl, rfl, rfl⟩, hb⟩
   ·by_cases hr : 1 <= len /\ len <= 65534
    ·have ho : xOK 2 len := ⟨.inr rfl, .inr hr⟩
     rw [decide_eq_true ho];exact (shaped_small_ok len hr.1 hr.2 w).mono fun r w' ⟨h, hb⟩ => ⟨len, len, true, h, fun _ => ⟨by unfold xCode; rw [if_neg h0], by unfold xTotal; rw [if_neg h0], (decide_eq_true h0).symm⟩, hb⟩
    ·have ho : ¬ xOK 2 len := fun h => hr (h.2.resolve_left h0)
     rw [decide_eq_false ho];exact (shaped_small_bad len h0 hr w).mono fun r w' ⟨c, t, h, hb⟩ => ⟨c, t, true, h, fun h => absurd h ho, hb⟩
  ·have ho : ¬ xOK k len := fun h => h.1.elim h1 h2
   rw [decide_eq_false ho];unfold shCells;rw [mostOf_none h1 h2];exact (shaped_none k len h1 h2 w).mono fun r w' ⟨kn, h, hb⟩ => ⟨0, 0, kn, h, fun h => absurd h ho, hb⟩
theorem pars_any (k f c t : Int) (kn : Bool) (Ak : Option Addr) (nk ck : Nat) (s p : Sl) (w : World) :
  Calls Tryz.prog 59 #[.agg #[.int .i64 k, .int .i64 f, .int .u32 c, .int .u64 t, .bool kn], .slice Ak nk ck, s.v, p.v] w fun e w' => e = .returned (⟨f, nk, 1, 1, 0, 0, c, 0, 0, s, p⟩ : Pr).v /\ Below w.heap.size w w' := by
 unfold Pr.v Pr.cs Sl.v;go_enter Tryz.func59, Tryz.ntmps59;go_wp2;exact aZB (results_cell_row rfl _ _ (w.heap.size + 1) 81 _ (0, 0) _ rfl (Blk.new2 _ _ _ _) Tryz.underlying81 rfl (by kernel_rfl)) rfl ⟨rfl, bal (bal (b0 w) _) _⟩
theorem xValid_bad {k len : Int} {nk : Nat} {s t : Sl} (h : ¬ xOK k len) : xValid k len nk s t = 1 := by unfold xValid; rw [if_pos h]
theorem xValid_key {k len : Int} {nk : Nat} {s t : Sl} (h : xOK k len) (h2 : mostOf k < nk) : xValid k len nk s t = 8 := by unfold xValid; rw [if_neg (fun h3 => h3 h), if_pos h2]
theorem xValid_chk {k len : Int} {nk : Nat} {s t : Sl} (h : xOK k len) (h2 : ¬ mostOf k < nk) : xValid k len nk s t = chk k (rootP k len nk s t) := by unfold xValid; rw [if_neg (fun h3 => h3 h), if_neg h2]
def zSh : Array Value := #[.int .i64 0, .int .i64 0, .int .u32 0, .int .u64 0, .bool false]
theorem xvalid_any (k len : Int) (Ak : Option Addr) (nk ck : Nat) (s p : Sl) (w : World) :
  Calls Tryz.prog 38 #[.int .i64 k, .int .i64 len, .slice Ak nk ck, s.v, p.v] w fun e w' => ∃ c t kn, e = .returned (.tuple #[.agg (shCells k c t kn), .int .i64 (xValid k len nk s p)]) /\ (xValid k len nk s p = 0 -> c = xCode k len /\ t = xTotal k len /\ kn = decide (len ≠ -1)) /\ Below w.heap.size w w' := by
 have hs := fun W => shaped_any k len W
 have hu := zH Tryz.underlying67;obtain ⟨f, hmo⟩ : ∃ f, mostOf k = f := ⟨_, rfl⟩
 by_cases ho : xOK k len
 ·rw [decide_eq_true ho] at hs
  by_cases hk : mostOf k < nk
  ·open kA in exact zS35
  ·open kC in exact zS35
 ·open kB in exact zS35
def rootS (k len : Int) (nk : Nat) (s t : Sl) (ls lp key data : List UInt8) : List UInt8 × Int :=
  if xValid k len nk s t ≠ 0 then ([], xValid k len nk s t) else hashS k (rootP k len nk s t) ls lp key false (mostOf k) data
theorem xOK_of {k len : Int} {nk : Nat} {s t : Sl} (h : xValid k len nk s t = 0) : xOK k len := by
 by_cases ho : xOK k len
 ·exact ho
 ·rw [xValid_bad ho] at h; exact absurd h (by decide)
theorem rootP_fit {k len : Int} {nk : Nat} {s t : Sl} (h : xOK k len) : (rootP k len nk s t).Fit := by
 have hm : 0 <= xMost k /\ xMost k <= 4294967294 := by unfold xMost; split <;> decide
 have hc : 0 <= xCode k len /\ xCode k len < 4294967296 := by
  unfold xCode
  split
  ·omega
  ·rename_i h3
   have := h.2.resolve_left h3;omega
 exact ⟨⟨Int.le_refl 0, show (0 : Int) < 4294967296 by decide⟩, ⟨Int.le_refl 0, show (0 : Int) < 18446744073709551616 by decide⟩, hc⟩
end Go.Proofs.YtmapfcdffklopaaGreat

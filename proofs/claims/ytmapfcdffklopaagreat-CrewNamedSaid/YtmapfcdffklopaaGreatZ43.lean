/-
  Z43: contracts and lemmas alone; no statement is claimed here.
-/
import Derived.Test.YtmapfcdffklopaaGreatZx
import Derived.Test.YtmapfcdffklopaaGreatZxb
import Derived.Test.YtmapfcdffklopaaGreatZxc
import Derived.Test.YtmapfcdffklopaaGreatZ41
import Derived.WideShapes
namespace Go.Proofs.YtmapfcdffklopaaGreat
open Go renaming wpList_load_mid → aZX
open Go renaming results_tmp2 → aZG
open Go renaming bodyPost_ret → aZB
open Lib renaming hid -> zH
open Go.RowKit
attribute [local go_sem] pureUpon Ords.of
theorem ba_ne {a n : ByteArray} (h : n ≠ a) : (a.data.toList == n.toList) = false := by
 rw [beq_eq_false_iff_ne, ByteArray.toList_eq];exact fun e => h (Go.WideShapes.bytes_inj e).symm
theorem nmI_at {n : ByteArray} : (n = nm0 -> nmI n = 0) /\ (n = nm1 -> nmI n = 1) /\ (n = nm2 -> nmI n = 2) /\ (n = nm3 -> nmI n = 3) /\ (n = nm4 -> nmI n = 4) /\ (n = nm5 -> nmI n = 5) := by
 refine ⟨?_, ?_, ?_, ?_, ?_, ?_⟩ <;> (rintro rfl; decide +kernel)
theorem nmI_back {n : ByteArray} : (nmI n = 0 -> n = nm0) /\ (nmI n = 1 -> n = nm1) /\ (nmI n = 2 -> n = nm2) /\ (nmI n = 3 -> n = nm3) /\ (nmI n = 4 -> n = nm4) /\ (nmI n = 5 -> n = nm5) := by
 unfold nmI
 by_cases h0 : n = nm0
 ·rw [if_pos h0]; refine ⟨fun _ => h0, ?_, ?_, ?_, ?_, ?_⟩ <;> (intro h; exact absurd h (by decide))
 rw [if_neg h0]
 by_cases h1 : n = nm1
 ·rw [if_pos h1]; refine ⟨?_, fun _ => h1, ?_, ?_, ?_, ?_⟩ <;> (intro h; exact absurd h (by decide))
 rw [if_neg h1]
 by_cases h2 : n = nm2
 ·rw [if_pos h2]; refine ⟨?_, ?_, fun _ => h2, ?_, ?_, ?_⟩ <;> (intro h; exact absurd h (by decide))
 rw [if_neg h2]
 by_cases h3 : n = nm3
 ·rw [if_pos h3]; refine ⟨?_, ?_, ?_, fun _ => h3, ?_, ?_⟩ <;> (intro h; exact absurd h (by decide))
 rw [if_neg h3]
 by_cases h4 : n = nm4
 ·rw [if_pos h4]; refine ⟨?_, ?_, ?_, ?_, fun _ => h4, ?_⟩ <;> (intro h; exact absurd h (by decide))
 rw [if_neg h4]
 by_cases h5 : n = nm5
 ·rw [if_pos h5]; refine ⟨?_, ?_, ?_, ?_, ?_, fun _ => h5⟩ <;> (intro h; exact absurd h (by decide))
 rw [if_neg h5];refine ⟨?_, ?_, ?_, ?_, ?_, ?_⟩ <;> (intro h; exact absurd h (by decide))
theorem nmS_ok {i : Nat} {size : Int} {key data : List UInt8} (h6 : i < 6) (h1 : ¬ (size < 1 \/ (nmMost i : Int) < size)) (h2 : ¬ bOf (nmBig i) < key.length) : nmS i size key data = nmHash i size key data := by
 unfold nmS; rw [if_neg (by omega), if_neg h1, if_neg h2]
theorem nmS_size {i : Nat} {size : Int} {key data : List UInt8} (h6 : i < 6) (h1 : size < 1 \/ (nmMost i : Int) < size) : nmS i size key data = ([], 1) := by
 unfold nmS; rw [if_neg (by omega), if_pos h1]
theorem nmS_key {i : Nat} {size : Int} {key data : List UInt8} (h6 : i < 6) (h1 : ¬ (size < 1 \/ (nmMost i : Int) < size)) (h2 : bOf (nmBig i) < key.length) : nmS i size key data = ([], 8) := by
 unfold nmS; rw [if_neg (by omega), if_neg h1, if_pos h2]
theorem nmS_none {i : Nat} {size : Int} {key data : List UInt8} (h6 : 6 <= i) : nmS i size key data = ([], 171) := by
 unfold nmS; rw [if_pos h6]
set_option maxRecDepth 20000 in
set_option maxHeartbeats 16000000 in
theorem named_any (n : ByteArray) (size : Int) (key data : List UInt8) (Ak Ad : Option Addr) (nk ck nd cd : Nat) (w : World) (hk : key.length = nk) (hrk : RS cB w w.heap.size Ak key) (hdl : data.length = nd) (hnd : nd <= cd) (hcd : cd <= 9223372036854775807) (hnd2 : nd <= 140737488351232) (hrd : RS cB w w.heap.size Ad data) :
  Calls Tryz.prog 12 #[.string n, .int .i64 size, .slice Ak nk ck, .slice Ad nd cd] w (AnsN (nmS (nmI n) size key data) w) := by
 obtain ⟨i, hi⟩ : ∃ i, i = nmI n := ⟨_, rfl⟩;have h1 := nmI_at (n := n);have h2 := nmI_back (n := n);rw [<- hi] at h1 h2 ⊢;obtain ⟨R, hR⟩ : ∃ R, R = nmS i size key data := ⟨_, rfl⟩;rw [<- hR];unfold AnsN;have HI1 := zH h1; have HI2 := zH h2; have HR := zH hR; have HRK := zH hrk; have HRD := zH hrd; have HK := zH hk; have HDL := zH hdl; have HND := zH hnd; have HCD := zH hcd; have HN2 := zH hnd2;clear h1 h2 hR hi hrk hrd hk hdl hnd hcd hnd2;go_enter Tryz.func12, Tryz.ntmps12;go_wp2_with (go_at_call 32; refine (variants_any _).mono ?_; rintro e1 w1 ⟨g, rfl, hg, hbl, hb1⟩);have HB1 := zH hb1; have HBL1 := zH hbl; clear hb1 hbl hg;go_loopw [14] (fun ix wr => ∃ k : Nat, k <= 6 /\ ix = .int .i64 k /\ k <= i /\ Blk wr g 78 varCells /\ Below w.heap.size w wr) (fun ix _ => 6 - (intOf ix).toNat)
 case atStart => exact ⟨0, Nat.zero_le _, rfl, Nat.zero_le _, HBL1.out, HB1.out⟩
 case round =>
  clear HB1 HBL1;clear w1;obtain ⟨k, hk, rfl, hki, hbl, hbw⟩ := hrel;have HBL := zH hbl; have HBW := zH hbw; have HKI := zH hki; clear hbl hbw hki;have hk2 : k = 0 \/ k = 1 \/ k = 2 \/ k = 3 \/ k = 4 \/ k = 5 \/ k = 6 := by omega
  clear hk;rcases hk2 with rfl | rfl | rfl | rfl | rfl | rfl | rfl
  ·have hr : wr.rangeAt g 0 [.string ⟨#[98, 108, 97, 107, 101, 50, 98]⟩, .int .i64 1, .int .i64 64, .int .i64 64, .func (.func 49) #[] #[]] := HBL.range 0 5
   have HRR := zH hr; clear hr
   by_cases hn : n = nm0
   ·open kA in exact zS26
   ·have t0 : (([98, 108, 97, 107, 101, 50, 98] : List UInt8) == n.toList) = false := ba_ne hn
    have HKI2 : Hid (1 <= i) := zH (by have h3 := HKI.out; have h4 : i ≠ 0 := fun e => hn (HI2.out.1 e); omega);clear hn;go_wp2_with (refine aZX rfl 78 (.tmp 16) rfl g 0 rfl _ _ HRR Tryz.underlying78 rfl (by kernel_rfl) ?_);exact ⟨⟨1, by decide, rfl, HKI2.out, HBL.alloc _, bal HBW.out _⟩, by simp [intOf]⟩
  ·have hr : wr.rangeAt g 5 [.string ⟨#[98, 108, 97, 107, 101, 50, 115]⟩, .int .i64 2, .int .i64 32, .int .i64 32, .func (.func 49) #[] #[]] := HBL.range 5 5
   have HRR := zH hr; clear hr
   by_cases hn : n = nm1
   ·open kA in exact zS27
   ·have t0 : (([98, 108, 97, 107, 101, 50, 115] : List UInt8) == n.toList) = false := ba_ne hn
    have HKI2 : Hid (2 <= i) := zH (by have h3 := HKI.out; have h4 : i ≠ 1 := fun e => hn (HI2.out.2.1 e); omega);clear hn;go_wp2_with (refine aZX rfl 78 (.tmp 16) rfl g 5 rfl _ _ HRR Tryz.underlying78 rfl (by kernel_rfl) ?_);exact ⟨⟨2, by decide, rfl, HKI2.out, HBL.alloc _, bal HBW.out _⟩, by simp [intOf]⟩
  ·have hr : wr.rangeAt g 10 [.string ⟨#[98, 108, 97, 107, 101, 50, 98, 112]⟩, .int .i64 1, .int .i64 64, .int .i64 64, .func (.func 50) #[] #[]] := HBL.range 10 5
   have HRR := zH hr; clear hr
   by_cases hn : n = nm2
   ·exact zS26
   ·have t0 : (([98, 108, 97, 107, 101, 50, 98, 112] : List UInt8) == n.toList) = false := ba_ne hn
    have HKI2 : Hid (3 <= i) := zH (by have h3 := HKI.out; have h4 : i ≠ 2 := fun e => hn (HI2.out.2.2.1 e); omega);clear hn;go_wp2_with (refine aZX rfl 78 (.tmp 16) rfl g 10 rfl _ _ HRR Tryz.underlying78 rfl (by kernel_rfl) ?_);exact ⟨⟨3, by decide, rfl, HKI2.out, HBL.alloc _, bal HBW.out _⟩, by simp [intOf]⟩
  ·have hr : wr.rangeAt g 15 [.string ⟨#[98, 108, 97, 107, 101, 50, 115, 112]⟩, .int .i64 2, .int .i64 32, .int .i64 32, .func (.func 50) #[] #[]] := HBL.range 15 5
   have HRR := zH hr; clear hr
   by_cases hn : n = nm3
   ·exact zS27
   ·have t0 : (([98, 108, 97, 107, 101, 50, 115, 112] : List UInt8) == n.toList) = false := ba_ne hn
    have HKI2 : Hid (4 <= i) := zH (by have h3 := HKI.out; have h4 : i ≠ 3 := fun e => hn (HI2.out.2.2.2.1 e); omega);clear hn;go_wp2_with (refine aZX rfl 78 (.tmp 16) rfl g 15 rfl _ _ HRR Tryz.underlying78 rfl (by kernel_rfl) ?_);exact ⟨⟨4, by decide, rfl, HKI2.out, HBL.alloc _, bal HBW.out _⟩, by simp [intOf]⟩
  ·have hr : wr.rangeAt g 20 [.string ⟨#[98, 108, 97, 107, 101, 50, 120, 98]⟩, .int .i64 1, .int .i64 65536, .int .i64 64, .func (.func 51) #[] #[]] := HBL.range 20 5
   have HRR := zH hr; clear hr
   by_cases hn : n = nm4
   ·open kA in exact zS41
   ·have t0 : (([98, 108, 97, 107, 101, 50, 120, 98] : List UInt8) == n.toList) = false := ba_ne hn
    have HKI2 : Hid (5 <= i) := zH (by have h3 := HKI.out; have h4 : i ≠ 4 := fun e => hn (HI2.out.2.2.2.2.1 e); omega);clear hn;go_wp2_with (refine aZX rfl 78 (.tmp 16) rfl g 20 rfl _ _ HRR Tryz.underlying78 rfl (by kernel_rfl) ?_);exact ⟨⟨5, by decide, rfl, HKI2.out, HBL.alloc _, bal HBW.out _⟩, by simp [intOf]⟩
  ·have hr : wr.rangeAt g 25 [.string ⟨#[98, 108, 97, 107, 101, 50, 120, 115]⟩, .int .i64 2, .int .i64 65534, .int .i64 32, .func (.func 51) #[] #[]] := HBL.range 25 5
   have HRR := zH hr; clear hr
   by_cases hn : n = nm5
   ·exact zS41
   ·have t0 : (([98, 108, 97, 107, 101, 50, 120, 115] : List UInt8) == n.toList) = false := ba_ne hn
    have HKI2 : Hid (6 <= i) := zH (by have h3 := HKI.out; have h4 : i ≠ 5 := fun e => hn (HI2.out.2.2.2.2.2 e); omega);clear hn;go_wp2_with (refine aZX rfl 78 (.tmp 16) rfl g 25 rfl _ _ HRR Tryz.underlying78 rfl (by kernel_rfl) ?_);exact ⟨⟨6, by decide, rfl, HKI2.out, HBL.alloc _, bal HBW.out _⟩, by simp [intOf]⟩
  ·have HRR2 : Hid (R = ([], 171)) := zH (by rw [HR.out]; exact nmS_none HKI.out)
   go_wp2_with fail;exact aZB (aZG rfl _ _ _) rfl ⟨none, 0, 0, 0, by rw [HRR2.out]; rfl, by rw [HRR2.out]; rfl, by rw [HRR2.out]; exact OS.nil _ _ 0 rfl, HBW.out⟩
end Go.Proofs.YtmapfcdffklopaaGreat

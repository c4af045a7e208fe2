/-
  Z45: contracts and lemmas alone; no statement is claimed here.
-/
import Derived.Test.YtmapfcdffklopaaGreatZx
import Derived.Test.YtmapfcdffklopaaGreatZxb
import Derived.Test.YtmapfcdffklopaaGreatZ43
import Derived.Test.YtmapfcdffklopaaGreatZ44
import Derived.Test.YtmapfcdffklopaaGreatZ39
set_option maxRecDepth 20000
namespace Go.Proofs.YtmapfcdffklopaaGreat
open Go renaming results_tmp2 → aZG
open Go renaming bodyPost_ret → aZB
open Lib renaming hid -> zH
open Go.RowKit
attribute [local go_sem] pureUpon Ords.of
theorem refName_any (w : World) :
  (Calls Tryz.prog 16 #[.int .i64 0] w fun r w' => r = .returned (.string ⟨#[98, 108, 97, 107, 101, 50, 98]⟩) /\ Below w.heap.size w w') /\
  (Calls Tryz.prog 16 #[.int .i64 1] w fun r w' => r = .returned (.string ⟨#[98, 108, 97, 107, 101, 50, 115]⟩) /\ Below w.heap.size w w') /\
  (Calls Tryz.prog 16 #[.int .i64 2] w fun r w' => r = .returned (.string ⟨#[98, 108, 97, 107, 101, 50, 98, 112]⟩) /\ Below w.heap.size w w') /\
  (Calls Tryz.prog 16 #[.int .i64 3] w fun r w' => r = .returned (.string ⟨#[98, 108, 97, 107, 101, 50, 115, 112]⟩) /\ Below w.heap.size w w') /\
  (Calls Tryz.prog 16 #[.int .i64 4] w fun r w' => r = .returned (.string ⟨#[98, 108, 97, 107, 101, 50, 120, 98]⟩) /\ Below w.heap.size w w') /\
  (Calls Tryz.prog 16 #[.int .i64 5] w fun r w' => r = .returned (.string ⟨#[98, 108, 97, 107, 101, 50, 120, 115]⟩) /\ Below w.heap.size w w') := by
 refine ⟨?_, ?_, ?_, ?_, ?_, ?_⟩
 all_goals
  go_enter Tryz.func16, Tryz.ntmps16;go_wp2_with fail;exact aZB (results_tmp rfl _ _ _) rfl ⟨rfl, bal (b0 w) _⟩
set_option maxHeartbeats 16000000 in
theorem namedR_any (n : ByteArray) (size : Int) (key data : List UInt8) (Ak Ad : Option Addr) (nk ck nd cd : Nat) (w : World) (hk : key.length = nk) (hrk : RS cB w w.heap.size Ak key) (hdl : data.length = nd) (hnd : nd <= cd) (hcd : cd <= 9223372036854775807) (hnd2 : nd <= 140737488351232) (hrd : RS cB w w.heap.size Ad data) :
  Calls Tryz.prog 13 #[.string n, .int .i64 size, .slice Ak nk ck, .slice Ad nd cd] w (AnsN (nmS (nmI n) size key data) w) := by
 obtain ⟨i, hi⟩ : ∃ i, i = nmI n := ⟨_, rfl⟩;have h1 := nmI_at (n := n);have h2 := nmI_back (n := n);rw [<- hi] at h1 h2 ⊢;obtain ⟨R, hR⟩ : ∃ R, R = nmS i size key data := ⟨_, rfl⟩;rw [<- hR];unfold AnsN;have hna := fun W => refName_any W
 have HI1 := zH h1; have HI2 := zH h2; have HR := zH hR; have HRK := zH hrk; have HRD := zH hrd; have HK := zH hk; have HDL := zH hdl; have HND := zH hnd; have HCD := zH hcd; have HN2 := zH hnd2; have HNA := zH hna;have hu := zH Tryz.underlying81;clear h1 h2 hR hi hrk hrd hk hdl hnd hcd hnd2 hna;go_enter Tryz.func13, Tryz.ntmps13;go_wp2_with fail;go_loopw [11, 10] (fun ix vw wr => ∃ (k : Nat) (V : Int), k <= 6 /\ ix = .int .i64 k /\ vw = .int .i64 V /\ Hid (V = if i < k then (i : Int) else -1) /\ Below w.heap.size w wr) (fun ix _ _ => 6 - (intOf ix).toNat)
 case atStart => exact ⟨0, -1, Nat.zero_le _, rfl, rfl, zH (by rw [if_neg (Nat.not_lt_zero _)]), b0 w⟩
 case round =>
  obtain ⟨k, V, hk, rfl, rfl, HV, hbw⟩ := hrel;have HBW := zH hbw; clear hbw;have hk2 : k = 0 \/ k = 1 \/ k = 2 \/ k = 3 \/ k = 4 \/ k = 5 \/ k = 6 := by omega
  clear hk;rcases hk2 with rfl | rfl | rfl | rfl | rfl | rfl | rfl
  ·by_cases hn : n = nm0
   ·have t0 : (([98, 108, 97, 107, 101, 50, 98] : List UInt8) == n.toList) = true := by rw [hn]; decide +kernel
    have HV2 : Hid ((0 : Int) = if i < 1 then (i : Int) else -1) := zH (by rw [HI1.out.1 hn]; rfl);clear hn;go_wp2_with (go_at_call 16; refine ((HNA wr).1).mono ?_; rintro e1 w1 ⟨rfl, hb1⟩);exact ⟨⟨1, 0, by decide, rfl, rfl, HV2, bcall HBW.out hb1⟩, by simp [intOf]⟩
   ·have t0 : (([98, 108, 97, 107, 101, 50, 98] : List UInt8) == n.toList) = false := ba_ne hn
    have HV2 : Hid (V = if i < 1 then (i : Int) else -1) := zH (by
     have h3 : i ≠ 0 := fun e => hn (HI2.out.1 e)
     rw [HV.out]
     by_cases h4 : i < 0
     ·rw [if_pos h4, if_pos (by omega)]
     ·rw [if_neg h4, if_neg (by omega)])
    clear hn;go_wp2_with (go_at_call 16; refine ((HNA wr).1).mono ?_; rintro e1 w1 ⟨rfl, hb1⟩);exact ⟨⟨1, V, by decide, rfl, rfl, HV2, bcall HBW.out hb1⟩, by simp [intOf]⟩
  ·by_cases hn : n = nm1
   ·have t0 : (([98, 108, 97, 107, 101, 50, 115] : List UInt8) == n.toList) = true := by rw [hn]; decide +kernel
    have HV2 : Hid ((1 : Int) = if i < 2 then (i : Int) else -1) := zH (by rw [HI1.out.2.1 hn]; rfl);clear hn;go_wp2_with (go_at_call 16; refine ((HNA wr).2.1).mono ?_; rintro e1 w1 ⟨rfl, hb1⟩);exact ⟨⟨2, 1, by decide, rfl, rfl, HV2, bcall HBW.out hb1⟩, by simp [intOf]⟩
   ·have t0 : (([98, 108, 97, 107, 101, 50, 115] : List UInt8) == n.toList) = false := ba_ne hn
    have HV2 : Hid (V = if i < 2 then (i : Int) else -1) := zH (by
     have h3 : i ≠ 1 := fun e => hn (HI2.out.2.1 e)
     rw [HV.out]
     by_cases h4 : i < 1
     ·rw [if_pos h4, if_pos (by omega)]
     ·rw [if_neg h4, if_neg (by omega)])
    clear hn;go_wp2_with (go_at_call 16; refine ((HNA wr).2.1).mono ?_; rintro e1 w1 ⟨rfl, hb1⟩);exact ⟨⟨2, V, by decide, rfl, rfl, HV2, bcall HBW.out hb1⟩, by simp [intOf]⟩
  ·by_cases hn : n = nm2
   ·have t0 : (([98, 108, 97, 107, 101, 50, 98, 112] : List UInt8) == n.toList) = true := by rw [hn]; decide +kernel
    have HV2 : Hid ((2 : Int) = if i < 3 then (i : Int) else -1) := zH (by rw [HI1.out.2.2.1 hn]; rfl);clear hn;go_wp2_with (go_at_call 16; refine ((HNA wr).2.2.1).mono ?_; rintro e1 w1 ⟨rfl, hb1⟩);exact ⟨⟨3, 2, by decide, rfl, rfl, HV2, bcall HBW.out hb1⟩, by simp [intOf]⟩
   ·have t0 : (([98, 108, 97, 107, 101, 50, 98, 112] : List UInt8) == n.toList) = false := ba_ne hn
    have HV2 : Hid (V = if i < 3 then (i : Int) else -1) := zH (by
     have h3 : i ≠ 2 := fun e => hn (HI2.out.2.2.1 e)
     rw [HV.out]
     by_cases h4 : i < 2
     ·rw [if_pos h4, if_pos (by omega)]
     ·rw [if_neg h4, if_neg (by omega)])
    clear hn;go_wp2_with (go_at_call 16; refine ((HNA wr).2.2.1).mono ?_; rintro e1 w1 ⟨rfl, hb1⟩);exact ⟨⟨3, V, by decide, rfl, rfl, HV2, bcall HBW.out hb1⟩, by simp [intOf]⟩
  ·by_cases hn : n = nm3
   ·have t0 : (([98, 108, 97, 107, 101, 50, 115, 112] : List UInt8) == n.toList) = true := by rw [hn]; decide +kernel
    have HV2 : Hid ((3 : Int) = if i < 4 then (i : Int) else -1) := zH (by rw [HI1.out.2.2.2.1 hn]; rfl);clear hn;go_wp2_with (go_at_call 16; refine ((HNA wr).2.2.2.1).mono ?_; rintro e1 w1 ⟨rfl, hb1⟩);exact ⟨⟨4, 3, by decide, rfl, rfl, HV2, bcall HBW.out hb1⟩, by simp [intOf]⟩
   ·have t0 : (([98, 108, 97, 107, 101, 50, 115, 112] : List UInt8) == n.toList) = false := ba_ne hn
    have HV2 : Hid (V = if i < 4 then (i : Int) else -1) := zH (by
     have h3 : i ≠ 3 := fun e => hn (HI2.out.2.2.2.1 e)
     rw [HV.out]
     by_cases h4 : i < 3
     ·rw [if_pos h4, if_pos (by omega)]
     ·rw [if_neg h4, if_neg (by omega)])
    clear hn;go_wp2_with (go_at_call 16; refine ((HNA wr).2.2.2.1).mono ?_; rintro e1 w1 ⟨rfl, hb1⟩);exact ⟨⟨4, V, by decide, rfl, rfl, HV2, bcall HBW.out hb1⟩, by simp [intOf]⟩
  ·by_cases hn : n = nm4
   ·have t0 : (([98, 108, 97, 107, 101, 50, 120, 98] : List UInt8) == n.toList) = true := by rw [hn]; decide +kernel
    have HV2 : Hid ((4 : Int) = if i < 5 then (i : Int) else -1) := zH (by rw [HI1.out.2.2.2.2.1 hn]; rfl);clear hn;go_wp2_with (go_at_call 16; refine ((HNA wr).2.2.2.2.1).mono ?_; rintro e1 w1 ⟨rfl, hb1⟩);exact ⟨⟨5, 4, by decide, rfl, rfl, HV2, bcall HBW.out hb1⟩, by simp [intOf]⟩
   ·have t0 : (([98, 108, 97, 107, 101, 50, 120, 98] : List UInt8) == n.toList) = false := ba_ne hn
    have HV2 : Hid (V = if i < 5 then (i : Int) else -1) := zH (by
     have h3 : i ≠ 4 := fun e => hn (HI2.out.2.2.2.2.1 e)
     rw [HV.out]
     by_cases h4 : i < 4
     ·rw [if_pos h4, if_pos (by omega)]
     ·rw [if_neg h4, if_neg (by omega)])
    clear hn;go_wp2_with (go_at_call 16; refine ((HNA wr).2.2.2.2.1).mono ?_; rintro e1 w1 ⟨rfl, hb1⟩);exact ⟨⟨5, V, by decide, rfl, rfl, HV2, bcall HBW.out hb1⟩, by simp [intOf]⟩
  ·by_cases hn : n = nm5
   ·have t0 : (([98, 108, 97, 107, 101, 50, 120, 115] : List UInt8) == n.toList) = true := by rw [hn]; decide +kernel
    have HV2 : Hid ((5 : Int) = if i < 6 then (i : Int) else -1) := zH (by rw [HI1.out.2.2.2.2.2 hn]; rfl);clear hn;go_wp2_with (go_at_call 16; refine ((HNA wr).2.2.2.2.2).mono ?_; rintro e1 w1 ⟨rfl, hb1⟩);exact ⟨⟨6, 5, by decide, rfl, rfl, HV2, bcall HBW.out hb1⟩, by simp [intOf]⟩
   ·have t0 : (([98, 108, 97, 107, 101, 50, 120, 115] : List UInt8) == n.toList) = false := ba_ne hn
    have HV2 : Hid (V = if i < 6 then (i : Int) else -1) := zH (by
     have h3 : i ≠ 5 := fun e => hn (HI2.out.2.2.2.2.2 e)
     rw [HV.out]
     by_cases h4 : i < 5
     ·rw [if_pos h4, if_pos (by omega)]
     ·rw [if_neg h4, if_neg (by omega)])
    clear hn;go_wp2_with (go_at_call 16; refine ((HNA wr).2.2.2.2.2).mono ?_; rintro e1 w1 ⟨rfl, hb1⟩);exact ⟨⟨6, V, by decide, rfl, rfl, HV2, bcall HBW.out hb1⟩, by simp [intOf]⟩
  ·by_cases h6 : i < 6
   ·have hV := HV.out
    rw [if_pos h6] at hV;have hi6 : i = 0 \/ i = 1 \/ i = 2 \/ i = 3 \/ i = 4 \/ i = 5 := by omega
    clear h6 HV HI1 HI2 HNA;rcases hi6 with rfl | rfl | rfl | rfl | rfl | rfl
    ·open kA in exact zS11
    ·exact zS11
    ·open kA in exact zS25
    ·exact zS25
    ·open kA in exact zS29
    ·exact zS29
   ·have hV := HV.out
    rw [if_neg h6] at hV;obtain rfl : V = -1 := hV;have HRR2 : Hid (R = ([], 171)) := zH (by rw [HR.out]; exact nmS_none (by omega));clear h6;go_wp2_with fail;exact aZB (aZG rfl _ _ _) rfl ⟨none, 0, 0, 0, by rw [HRR2.out]; rfl, by rw [HRR2.out]; rfl, by rw [HRR2.out]; exact OS.nil _ _ 0 rfl, HBW.out⟩
end Go.Proofs.YtmapfcdffklopaaGreat

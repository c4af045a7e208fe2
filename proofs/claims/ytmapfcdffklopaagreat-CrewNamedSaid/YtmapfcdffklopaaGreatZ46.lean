/-
  Z46: contracts and lemmas alone; no statement is claimed here.
-/
import Derived.Test.YtmapfcdffklopaaGreatZx
import Derived.Test.YtmapfcdffklopaaGreatZxc
import Derived.Test.YtmapfcdffklopaaGreatZ45
import Derived.Test.YtmapfcdffklopaaGreatZ14
set_option maxHeartbeats 8000000
set_option maxRecDepth 20000
namespace Go.Proofs.YtmapfcdffklopaaGreat
open Go renaming wpList_load_mid → aZX
open _root_.Option.some renaming inj → aZF
open _root_.Nat renaming le_refl → aZC
open Lib renaming hid -> zH
open Go.RowKit
attribute [local go_sem] pureUpon Ords.of
def cS : Cod ByteArray := ⟨9, 46, 16, .string ⟨#[]⟩, Value.string⟩
theorem cS_ok : cS.Ok Tryz.prog := ⟨Tryz.underlying46, by kernel_rfl, rfl, fun _ => rfl⟩
def nmL : List ByteArray := [nm0, nm1, nm2, nm3, nm4, nm5]
theorem same17_any (A1 A2 : Option Addr) (c1 c2 : Nat) (l1 l2 : List UInt8) (B1 B2 n1 n2 : Nat) (w : World) (hn1 : l1.length = n1) (hn2 : l2.length = n2) (hm : n1 <= 9223372036854775807)
   (h1 : RS cB w B1 A1 l1) (h2 : RS cB w B2 A2 l2) :
    Calls Tryz.prog 15 #[.slice A1 n1 c1, .slice A2 n2 c2] w fun e w' => e = .returned (.bool (decide (l1 = l2))) /\ ∃ n, w' = w.drewN n := by
  have hs := sameR_any A1 A2 c1 c2 l1 l2 B1 B2 n1 n2 w hn1 hn2 hm h1 h2;have HS := zH hs; clear hs hn1 hn2 hm h1 h2;go_enter Tryz.func15, Tryz.ntmps15;go_wp2_with (go_at_call 37; refine HS.mono ?_; rintro e1 w1 ⟨rfl, n, rfl⟩);exact bodyPost_ret (results_tmp rfl _ _ _) rfl ⟨rfl, n, rfl⟩
theorem names_any (w : World) : Calls Tryz.prog 14 #[] w fun r w' => ∃ g c, r = .returned (.slice (some ⟨g, 0, none⟩) 6 c) /\ OS cS w' w.heap.size (some ⟨g, 0, none⟩) c nmL /\ Below w.heap.size w w' := by
 go_enter Tryz.func14, Tryz.ntmps14;go_wp2_with (go_at_call 32; refine (variants_any _).mono ?_; rintro e1 w1 ⟨g, rfl, hg, hbl, hb1⟩);have HB1 := zH hb1; have HBL1 := zH hbl; clear hb1 hbl hg;go_loopw [6, 1] (fun ix v1 wr => ∃ (k : Nat) (A : Option Addr) (cp : Nat), k <= 6 /\ ix = .int .i64 k /\ v1 = .slice A k cp /\ OS cS wr w.heap.size A cp (nmL.take k) /\ Blk wr g 78 varCells /\ Below w.heap.size w wr) (fun ix _ _ => 6 - (intOf ix).toNat)
 case atStart => exact ⟨0, none, 0, Nat.zero_le _, rfl, rfl, OS.nil _ _ 0 rfl, HBL1.out, HB1.out⟩
 case round =>
  clear HB1 HBL1;clear w1;obtain ⟨k, A, cp, hk, rfl, rfl, ho, hbl, hbw⟩ := hrel;have HO := zH ho; have HBL := zH hbl; have HBW := zH hbw; clear ho hbl hbw;have hk2 : k = 0 \/ k = 1 \/ k = 2 \/ k = 3 \/ k = 4 \/ k = 5 \/ k = 6 := by omega
  clear hk;rcases hk2 with rfl | rfl | rfl | rfl | rfl | rfl | rfl
  ·have hr : wr.rangeAt g 0 [.string ⟨#[98, 108, 97, 107, 101, 50, 98]⟩, .int .i64 1, .int .i64 64, .int .i64 64, .func (.func 49) #[] #[]] := HBL.range 0 5
   have HRR := zH hr; clear hr;have HO2 := zH ((HO.alloc (.cells #[.string ⟨#[98, 108, 97, 107, 101, 50, 98]⟩, .int .i64 1, .int .i64 64, .int .i64 64, .func (.func 49) #[] #[]] 78)).alloc (.cells #[.string ⟨#[98, 108, 97, 107, 101, 50, 98]⟩] 9));have HBL2 := zH ((HBL.alloc (.cells #[.string ⟨#[98, 108, 97, 107, 101, 50, 98]⟩, .int .i64 1, .int .i64 64, .int .i64 64, .func (.func 49) #[] #[]] 78)).alloc (.cells #[.string ⟨#[98, 108, 97, 107, 101, 50, 98]⟩] 9));have HB2 := zH (bal (bal HBW (.cells #[.string ⟨#[98, 108, 97, 107, 101, 50, 98]⟩, .int .i64 1, .int .i64 64, .int .i64 64, .func (.func 49) #[] #[]] 78)) (.cells #[.string ⟨#[98, 108, 97, 107, 101, 50, 98]⟩] 9));go_wp2_with first
    | (refine aZX rfl 78 (.tmp 8) rfl g 0 rfl _ _ HRR Tryz.underlying78 rfl (by kernel_rfl) ?_)
    | (refine wpList_appS _ cS_ok rfl (.tmp 10) (.tmp 13) rfl HO2.out rfl rfl (RS.one' (x := nm0) (cnew (g := wr.heap.size + 1) _ _ _ (by simp))) rfl rfl (by decide) (by decide) HB2.size ?_; intro A4 c4 u4 ho4 hg4 hA4)
   exact ⟨⟨1, A4, c4, by decide, rfl, rfl, ho4, HBL2.grown hg4 (HO2.ne_row HBL2.out (by show 9 ≠ 78; decide)), below_app HB2.out HO2.out hg4 (aZC _) HB2.size⟩, by simp [intOf]⟩
  ·have hr : wr.rangeAt g 5 [.string ⟨#[98, 108, 97, 107, 101, 50, 115]⟩, .int .i64 2, .int .i64 32, .int .i64 32, .func (.func 49) #[] #[]] := HBL.range 5 5
   have HRR := zH hr; clear hr;have HO2 := zH ((HO.alloc (.cells #[.string ⟨#[98, 108, 97, 107, 101, 50, 115]⟩, .int .i64 2, .int .i64 32, .int .i64 32, .func (.func 49) #[] #[]] 78)).alloc (.cells #[.string ⟨#[98, 108, 97, 107, 101, 50, 115]⟩] 9));have HBL2 := zH ((HBL.alloc (.cells #[.string ⟨#[98, 108, 97, 107, 101, 50, 115]⟩, .int .i64 2, .int .i64 32, .int .i64 32, .func (.func 49) #[] #[]] 78)).alloc (.cells #[.string ⟨#[98, 108, 97, 107, 101, 50, 115]⟩] 9));have HB2 := zH (bal (bal HBW (.cells #[.string ⟨#[98, 108, 97, 107, 101, 50, 115]⟩, .int .i64 2, .int .i64 32, .int .i64 32, .func (.func 49) #[] #[]] 78)) (.cells #[.string ⟨#[98, 108, 97, 107, 101, 50, 115]⟩] 9));go_wp2_with first
    | (refine aZX rfl 78 (.tmp 8) rfl g 5 rfl _ _ HRR Tryz.underlying78 rfl (by kernel_rfl) ?_)
    | (refine wpList_appS _ cS_ok rfl (.tmp 10) (.tmp 13) rfl HO2.out rfl rfl (RS.one' (x := nm1) (cnew (g := wr.heap.size + 1) _ _ _ (by simp))) rfl rfl (by decide) (by decide) HB2.size ?_; intro A4 c4 u4 ho4 hg4 hA4)
   exact ⟨⟨2, A4, c4, by decide, rfl, rfl, ho4, HBL2.grown hg4 (HO2.ne_row HBL2.out (by show 9 ≠ 78; decide)), below_app HB2.out HO2.out hg4 (aZC _) HB2.size⟩, by simp [intOf]⟩
  ·have hr : wr.rangeAt g 10 [.string ⟨#[98, 108, 97, 107, 101, 50, 98, 112]⟩, .int .i64 1, .int .i64 64, .int .i64 64, .func (.func 50) #[] #[]] := HBL.range 10 5
   have HRR := zH hr; clear hr;have HO2 := zH ((HO.alloc (.cells #[.string ⟨#[98, 108, 97, 107, 101, 50, 98, 112]⟩, .int .i64 1, .int .i64 64, .int .i64 64, .func (.func 50) #[] #[]] 78)).alloc (.cells #[.string ⟨#[98, 108, 97, 107, 101, 50, 98, 112]⟩] 9));have HBL2 := zH ((HBL.alloc (.cells #[.string ⟨#[98, 108, 97, 107, 101, 50, 98, 112]⟩, .int .i64 1, .int .i64 64, .int .i64 64, .func (.func 50) #[] #[]] 78)).alloc (.cells #[.string ⟨#[98, 108, 97, 107, 101, 50, 98, 112]⟩] 9));have HB2 := zH (bal (bal HBW (.cells #[.string ⟨#[98, 108, 97, 107, 101, 50, 98, 112]⟩, .int .i64 1, .int .i64 64, .int .i64 64, .func (.func 50) #[] #[]] 78)) (.cells #[.string ⟨#[98, 108, 97, 107, 101, 50, 98, 112]⟩] 9));go_wp2_with first
    | (refine aZX rfl 78 (.tmp 8) rfl g 10 rfl _ _ HRR Tryz.underlying78 rfl (by kernel_rfl) ?_)
    | (refine wpList_appS _ cS_ok rfl (.tmp 10) (.tmp 13) rfl HO2.out rfl rfl (RS.one' (x := nm2) (cnew (g := wr.heap.size + 1) _ _ _ (by simp))) rfl rfl (by decide) (by decide) HB2.size ?_; intro A4 c4 u4 ho4 hg4 hA4)
   exact ⟨⟨3, A4, c4, by decide, rfl, rfl, ho4, HBL2.grown hg4 (HO2.ne_row HBL2.out (by show 9 ≠ 78; decide)), below_app HB2.out HO2.out hg4 (aZC _) HB2.size⟩, by simp [intOf]⟩
  ·have hr : wr.rangeAt g 15 [.string ⟨#[98, 108, 97, 107, 101, 50, 115, 112]⟩, .int .i64 2, .int .i64 32, .int .i64 32, .func (.func 50) #[] #[]] := HBL.range 15 5
   have HRR := zH hr; clear hr;have HO2 := zH ((HO.alloc (.cells #[.string ⟨#[98, 108, 97, 107, 101, 50, 115, 112]⟩, .int .i64 2, .int .i64 32, .int .i64 32, .func (.func 50) #[] #[]] 78)).alloc (.cells #[.string ⟨#[98, 108, 97, 107, 101, 50, 115, 112]⟩] 9));have HBL2 := zH ((HBL.alloc (.cells #[.string ⟨#[98, 108, 97, 107, 101, 50, 115, 112]⟩, .int .i64 2, .int .i64 32, .int .i64 32, .func (.func 50) #[] #[]] 78)).alloc (.cells #[.string ⟨#[98, 108, 97, 107, 101, 50, 115, 112]⟩] 9));have HB2 := zH (bal (bal HBW (.cells #[.string ⟨#[98, 108, 97, 107, 101, 50, 115, 112]⟩, .int .i64 2, .int .i64 32, .int .i64 32, .func (.func 50) #[] #[]] 78)) (.cells #[.string ⟨#[98, 108, 97, 107, 101, 50, 115, 112]⟩] 9));go_wp2_with first
    | (refine aZX rfl 78 (.tmp 8) rfl g 15 rfl _ _ HRR Tryz.underlying78 rfl (by kernel_rfl) ?_)
    | (refine wpList_appS _ cS_ok rfl (.tmp 10) (.tmp 13) rfl HO2.out rfl rfl (RS.one' (x := nm3) (cnew (g := wr.heap.size + 1) _ _ _ (by simp))) rfl rfl (by decide) (by decide) HB2.size ?_; intro A4 c4 u4 ho4 hg4 hA4)
   exact ⟨⟨4, A4, c4, by decide, rfl, rfl, ho4, HBL2.grown hg4 (HO2.ne_row HBL2.out (by show 9 ≠ 78; decide)), below_app HB2.out HO2.out hg4 (aZC _) HB2.size⟩, by simp [intOf]⟩
  ·have hr : wr.rangeAt g 20 [.string ⟨#[98, 108, 97, 107, 101, 50, 120, 98]⟩, .int .i64 1, .int .i64 65536, .int .i64 64, .func (.func 51) #[] #[]] := HBL.range 20 5
   have HRR := zH hr; clear hr;have HO2 := zH ((HO.alloc (.cells #[.string ⟨#[98, 108, 97, 107, 101, 50, 120, 98]⟩, .int .i64 1, .int .i64 65536, .int .i64 64, .func (.func 51) #[] #[]] 78)).alloc (.cells #[.string ⟨#[98, 108, 97, 107, 101, 50, 120, 98]⟩] 9));have HBL2 := zH ((HBL.alloc (.cells #[.string ⟨#[98, 108, 97, 107, 101, 50, 120, 98]⟩, .int .i64 1, .int .i64 65536, .int .i64 64, .func (.func 51) #[] #[]] 78)).alloc (.cells #[.string ⟨#[98, 108, 97, 107, 101, 50, 120, 98]⟩] 9));have HB2 := zH (bal (bal HBW (.cells #[.string ⟨#[98, 108, 97, 107, 101, 50, 120, 98]⟩, .int .i64 1, .int .i64 65536, .int .i64 64, .func (.func 51) #[] #[]] 78)) (.cells #[.string ⟨#[98, 108, 97, 107, 101, 50, 120, 98]⟩] 9));go_wp2_with first
    | (refine aZX rfl 78 (.tmp 8) rfl g 20 rfl _ _ HRR Tryz.underlying78 rfl (by kernel_rfl) ?_)
    | (refine wpList_appS _ cS_ok rfl (.tmp 10) (.tmp 13) rfl HO2.out rfl rfl (RS.one' (x := nm4) (cnew (g := wr.heap.size + 1) _ _ _ (by simp))) rfl rfl (by decide) (by decide) HB2.size ?_; intro A4 c4 u4 ho4 hg4 hA4)
   exact ⟨⟨5, A4, c4, by decide, rfl, rfl, ho4, HBL2.grown hg4 (HO2.ne_row HBL2.out (by show 9 ≠ 78; decide)), below_app HB2.out HO2.out hg4 (aZC _) HB2.size⟩, by simp [intOf]⟩
  ·have hr : wr.rangeAt g 25 [.string ⟨#[98, 108, 97, 107, 101, 50, 120, 115]⟩, .int .i64 2, .int .i64 65534, .int .i64 32, .func (.func 51) #[] #[]] := HBL.range 25 5
   have HRR := zH hr; clear hr;have HO2 := zH ((HO.alloc (.cells #[.string ⟨#[98, 108, 97, 107, 101, 50, 120, 115]⟩, .int .i64 2, .int .i64 65534, .int .i64 32, .func (.func 51) #[] #[]] 78)).alloc (.cells #[.string ⟨#[98, 108, 97, 107, 101, 50, 120, 115]⟩] 9));have HBL2 := zH ((HBL.alloc (.cells #[.string ⟨#[98, 108, 97, 107, 101, 50, 120, 115]⟩, .int .i64 2, .int .i64 65534, .int .i64 32, .func (.func 51) #[] #[]] 78)).alloc (.cells #[.string ⟨#[98, 108, 97, 107, 101, 50, 120, 115]⟩] 9));have HB2 := zH (bal (bal HBW (.cells #[.string ⟨#[98, 108, 97, 107, 101, 50, 120, 115]⟩, .int .i64 2, .int .i64 65534, .int .i64 32, .func (.func 51) #[] #[]] 78)) (.cells #[.string ⟨#[98, 108, 97, 107, 101, 50, 120, 115]⟩] 9));go_wp2_with first
    | (refine aZX rfl 78 (.tmp 8) rfl g 25 rfl _ _ HRR Tryz.underlying78 rfl (by kernel_rfl) ?_)
    | (refine wpList_appS _ cS_ok rfl (.tmp 10) (.tmp 13) rfl HO2.out rfl rfl (RS.one' (x := nm5) (cnew (g := wr.heap.size + 1) _ _ _ (by simp))) rfl rfl (by decide) (by decide) HB2.size ?_; intro A4 c4 u4 ho4 hg4 hA4)
   exact ⟨⟨6, A4, c4, by decide, rfl, rfl, ho4, HBL2.grown hg4 (HO2.ne_row HBL2.out (by show 9 ≠ 78; decide)), below_app HB2.out HO2.out hg4 (aZC _) HB2.size⟩, by simp [intOf]⟩
  ·have ho := HO.out
   rw [show nmL.take 6 = nmL from rfl] at ho;obtain ⟨g5, hA5⟩ : ∃ g5, A = some ⟨g5, 0, none⟩ := by
    rcases ho.form with ⟨_, _, h0⟩ | ⟨g, h, _⟩
    ·cases h0
    ·exact ⟨g, h⟩
   subst hA5;have HO6 := zH ho;clear ho;go_wp2_with fail;exact bodyPost_ret (results_tmp rfl _ _ _) rfl ⟨g5, cp, rfl, HO6.out, HBW.out⟩
theorem crewNamed_law (n : ByteArray) (size : Int) (key data : List UInt8) (Ak Ad : Option Addr) (nk ck nd cd : Nat) (w : World) (hk : key.length = nk) (hrk : RS cB w w.heap.size Ak key) (hdl : data.length = nd) (hnd : nd <= cd) (hcd : cd <= 9223372036854775807) (hnd2 : nd <= 140737488351232) (hrd : RS cB w w.heap.size Ad data) :
  Calls Tryz.prog 4 #[.string n, .int .i64 size, .slice Ak nk ck, .slice Ad nd cd] w fun r w' => r = .returned (.bool true) /\ Below w.heap.size w w' := by
 have h1 := named_any n size key data Ak Ad nk ck nd cd w hk hrk hdl hnd hcd hnd2 hrd;have h2 := fun (W : World) (hb : Below w.heap.size w W) => namedR_any n size key data Ak Ad nk ck nd cd W hk ((hrk.below hb).more hb.size) hdl hnd hcd hnd2 ((hrd.below hb).more hb.size)
 generalize nmS (nmI n) size key data = R at *;obtain ⟨R1, R2⟩ := R;unfold AnsN at h1 h2;dsimp only at h1 h2;have hna := fun W => refName_any W
 have hnm := fun W => names_any W
 have t1 : (R2 != R2) = false := by simp
 have H1 := zH h1; have H2 := zH h2; have HNA := zH hna; have HNM := zH hnm;clear h1 h2 hna hnm hrk hrd hk hdl hnd hcd hnd2;go_enter Tryz.func4, Tryz.ntmps4;go_upto_region 2 with (go_at_call 12; refine H1.mono ?_; rintro e1 w1 ⟨A1, j1, c1, x1, rfl, hj1, ho1, hb1⟩)
 have HB := zH hb1; have O1 := zH ho1; have J1 := zH hj1;clear hb1 ho1 hj1 H1;go_upto_region 3 with (go_at_call 13; refine (H2 w1 HB).mono ?_; rintro e2 w2 ⟨A2, j2, c2, x2, rfl, hj2, ho2, hb2⟩)
 replace O1 := zH (O1.below hb2 (aZC _)); have O2 := zH (ho2.mono HB.size); have J2 := zH hj2;replace HB := zH (bcall HB hb2);clear hb2 ho2 hj2 H2;clear w1;go_upto_region 4 with (go_at_call 14; refine (HNM w2).mono ?_; rintro e3 w3 ⟨g3, c3, rfl, ho3, hb3⟩)
 replace O1 := zH (O1.below hb3 (aZC _)); replace O2 := zH (O2.below hb3 (aZC _)); have O3 := zH (ho3.mono HB.size);replace HB := zH (bcall HB hb3);clear hb3 ho3;clear w2;have hsm := same17_any A1 A2 x1 x2 R1 R1 w3.heap.size w3.heap.size j1 j2 w3 J1.out J2.out (by rw [<- J1.out]; exact Nat.le_trans O1.len_le.1 (Nat.le_trans O1.len_le.2 (by unfold maxLen; omega))) O1.reads O2.reads;rw [decide_eq_true (Eq.refl R1)] at hsm;have HSM := zH hsm;clear hsm;go_upto_region 7 with (go_at_call 15; refine HSM.mono ?_; rintro e4 w4 ⟨rfl, m4, rfl⟩)
 replace O3 := zH (O3.drewN m4); replace HB := zH (bdr HB m4);clear HSM O1 O2 J1 J2;generalize w3.drewN m4 = u at *;clear w3;go_loopw [14] (fun ix wr => ∃ k : Nat, k <= 6 /\ ix = .int .i64 k /\ OS cS wr w.heap.size (some ⟨g3, 0, none⟩) c3 nmL /\ Below w.heap.size w wr) (fun ix _ => 6 - (intOf ix).toNat)
 case atStart => exact ⟨0, Nat.zero_le _, rfl, O3.out, HB.out⟩
 case round =>
  clear O3 HB;clear u;obtain ⟨k, hk, rfl, ho, hb⟩ := hrel;have O3 := zH ho; have HB := zH hb;clear ho hb;have hk2 : k = 0 \/ k = 1 \/ k = 2 \/ k = 3 \/ k = 4 \/ k = 5 \/ k = 6 := by omega
  clear hk;rcases hk2 with rfl | rfl | rfl | rfl | rfl | rfl | rfl
  ·have hat : ∀ W, OS cS W w.heap.size (some ⟨g3, 0, none⟩) c3 nmL → W.cell? ⟨g3, 0, none⟩ = some (.string ⟨#[98, 108, 97, 107, 101, 50, 98]⟩) ∧ g3 < W.heap.size := fun W hW => by
     obtain ⟨g', y, e, -, hl, e2, h3, -⟩ := hW.at_ (k := 0) (by decide)
     injection e with e; injection e with e
     subst e
     rw [← Option.some.inj e2] at h3
     exact ⟨h3, hl⟩
   have HAT := Lib.hid hat
   obtain ⟨z1, zl⟩ := hat wr O3.out
   clear hat
   go_upto_region 9 with fail
   refine wp_region_ords (fun w' => OS cS w' w.heap.size (some ⟨g3, 0, none⟩) c3 nmL) (fun _ n h => h.drewN n) (Ords.of [(0, 0), (0, 1), (0, 2), (0, 3), (0, 4), (2, 5), (0, 6)] .fin) (by kernel_rfl) rfl (by kernel_rfl) (by kernel_rfl) (fun c a d v w h => by cases d <;> exact h) O3.out ?_
   iterate 3 (refine ords_pure rfl (fun K hK => ?_); go_simp; refine hK _ ?_; clear hK K)
   refine ords_heldK rfl (fun K K2 hK hK2 => ?_); go_simp; refine ⟨hK2 _ (fun w9 hS => ?_), hK _ ?_⟩; (clear hK hK2 K K2; clear z1 zl; obtain ⟨z1, zl⟩ := HAT.out w9 hS; clear hS; go_simp); (clear hK hK2 K K2)
   refine ords_pure rfl (fun K hK => ?_); go_simp; refine hK _ ?_; clear hK K
   refine ords_loud rfl (fun n1 => ?_)
   clear z1 zl
   replace O3 := Lib.hid (O3.out.drewN n1)
   replace HB := Lib.hid (bdr HB.out n1)
   generalize wr.drewN n1 = u at *
   go_wp2_with (go_at_call 16; refine ((HNA.out u).1).mono ?_; rintro e5 w5 ⟨rfl, hb5⟩)
   replace O3 := Lib.hid (O3.out.below hb5 (Nat.le_refl _))
   replace HB := Lib.hid (bcall HB.out hb5)
   clear hb5
   refine ⟨O3.out, ?_⟩
   go_simp
   refine ords_pure rfl (fun K hK => ?_); go_simp; refine hK _ ?_; clear hK K
   refine ords_end (fun n2 => ?_)
   replace O3 := Lib.hid (O3.out.drewN n2)
   replace HB := Lib.hid (bdr HB.out n2)
   generalize w5.drewN n2 = u5 at *
   go_wp2_with fail
   exact ⟨⟨1, by decide, rfl, O3.out, HB.out⟩, by simp [intOf]⟩
  ·open kB in exact zS38
  ·open kC in exact zS38
  ·open kD in exact zS38
  ·open kE in exact zS38
  ·have hat : ∀ W, OS cS W w.heap.size (some ⟨g3, 0, none⟩) c3 nmL → W.cell? ⟨g3, 5, none⟩ = some (.string ⟨#[98, 108, 97, 107, 101, 50, 120, 115]⟩) ∧ g3 < W.heap.size := fun W hW => by
     obtain ⟨g', y, e, -, hl, e2, h3, -⟩ := hW.at_ (k := 5) (by decide)
     injection e with e; injection e with e
     subst e
     rw [← Option.some.inj e2] at h3
     exact ⟨h3, hl⟩
   have HAT := Lib.hid hat
   obtain ⟨z1, zl⟩ := hat wr O3.out
   clear hat
   go_upto_region 9 with fail
   refine wp_region_ords (fun w' => OS cS w' w.heap.size (some ⟨g3, 0, none⟩) c3 nmL) (fun _ n h => h.drewN n) (Ords.of [(0, 0), (0, 1), (0, 2), (0, 3), (0, 4), (2, 5), (0, 6)] .fin) (by kernel_rfl) rfl (by kernel_rfl) (by kernel_rfl) (fun c a d v w h => by cases d <;> exact h) O3.out ?_
   iterate 3 (refine ords_pure rfl (fun K hK => ?_); go_simp; refine hK _ ?_; clear hK K)
   refine ords_heldK rfl (fun K K2 hK hK2 => ?_); go_simp; refine ⟨hK2 _ (fun w9 hS => ?_), hK _ ?_⟩; (clear hK hK2 K K2; clear z1 zl; obtain ⟨z1, zl⟩ := HAT.out w9 hS; clear hS; go_simp); (clear hK hK2 K K2)
   refine ords_pure rfl (fun K hK => ?_); go_simp; refine hK _ ?_; clear hK K
   refine ords_loud rfl (fun n1 => ?_)
   clear z1 zl
   replace O3 := Lib.hid (O3.out.drewN n1)
   replace HB := Lib.hid (bdr HB.out n1)
   generalize wr.drewN n1 = u at *
   go_wp2_with (go_at_call 16; refine ((HNA.out u).2.2.2.2.2).mono ?_; rintro e5 w5 ⟨rfl, hb5⟩)
   replace O3 := Lib.hid (O3.out.below hb5 (Nat.le_refl _))
   replace HB := Lib.hid (bcall HB.out hb5)
   clear hb5
   refine ⟨O3.out, ?_⟩
   go_simp
   refine ords_pure rfl (fun K hK => ?_); go_simp; refine hK _ ?_; clear hK K
   refine ords_end (fun n2 => ?_)
   replace O3 := Lib.hid (O3.out.drewN n2)
   replace HB := Lib.hid (bdr HB.out n2)
   generalize w5.drewN n2 = u5 at *
   go_wp2_with fail
   exact ⟨⟨6, by decide, rfl, O3.out, HB.out⟩, by simp [intOf]⟩
  ·obtain ⟨g', y, e, hge, hl, e2, z0, f0⟩ := O3.at_ (k := 0) (by decide)
   injection e with e; injection e with e
   subst e;have HGE := zH hge;clear e2 hge;go_upto_region 12 with fail
   have HB2 := zH (HB.setCell (p := ⟨g3, 0, none⟩) HGE (.string n));clear z0 f0 hl;generalize wr.setCell ⟨g3, 0, none⟩ (.string n) = u at *;go_upto_region 13 with (go_at_call 14; refine (HNM u).mono ?_; rintro e6 w6 ⟨g6, c6, rfl, ho6, hb6⟩)
   obtain ⟨g', y, e, hge, hl, e2, z0, f0⟩ := ho6.at_ (k := 0) (by decide);injection e with e; injection e with e
   subst e;have hy : nm0 = y := aZF e2;subst hy;change w6.cell? ⟨g6, 0, none⟩ = some (.string ⟨#[98, 108, 97, 107, 101, 50, 98]⟩) at z0;have HB3 := zH (bcall HB2 hb6);clear e2 hge ho6 hb6;go_wp2_with fail;exact bodyPost_ret (results_tmp rfl _ _ _) rfl ⟨rfl, HB3.out⟩
end Go.Proofs.YtmapfcdffklopaaGreat

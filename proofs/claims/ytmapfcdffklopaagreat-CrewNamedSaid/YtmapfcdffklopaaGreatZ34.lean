/-
  Z34: contracts and lemmas alone; no statement is claimed here.
-/
import Derived.Test.YtmapfcdffklopaaGreatZx
import Derived.Test.YtmapfcdffklopaaGreatZxc
import Derived.Test.YtmapfcdffklopaaGreatZ17
import Derived.Test.YtmapfcdffklopaaGreatZ31
set_option maxHeartbeats 2000000
set_option maxRecDepth 100000
namespace Go.Proofs.YtmapfcdffklopaaGreat
open Go renaming results_tmp → aZK
open Go renaming bodyPost_ret → aZB
open Lib renaming hid -> zH
open Go.RowKit
attribute [local go_sem] pureUpon Ords.of
theorem kind_xof {k len : Int} (h : xOK k len) : ∃ big, k = kOf big := by
 rcases h.1 with h | h
 ·exact ⟨true, h⟩
 ·exact ⟨false, h⟩
theorem refXfull_any (big : Bool) (w : World) : Calls Tryz.prog 41 #[.int .i64 (kOf big)] w fun e w' => e = .returned (.int .i64 (mostOf (kOf big))) /\ w = w' := by
 have hf := fun W => refFull_any big W
 rw [<- mostOf_k] at hf;have HF := zH hf; clear hf;generalize mostOf (kOf big) = m at *;generalize kOf big = kk at *;go_enter Tryz.func41, Tryz.ntmps41;go_wp2_with (go_at_call 33; refine (HF _).mono ?_; rintro e1 w1 ⟨rfl, rfl⟩);exact aZB (aZK rfl _ _ _) rfl ⟨rfl, rfl⟩
theorem refXcode_any (k len : Int) (h : xOK k len) (w : World) : Calls Tryz.prog 63 #[.int .i64 k, .int .i64 len] w fun e w' => e = .returned (.int .u32 (xCode k len)) /\ w = w' := by
 by_cases h0 : len = -1
 ·subst h0
  rcases h.1 with rfl | rfl
  ·show Calls _ _ _ w fun e w' => e = .returned (.int .u32 4294967295) /\ _
   clear h;go_enter Tryz.func63, Tryz.ntmps63;go_wp2_with fail;exact aZB (aZK rfl _ _ _) rfl ⟨rfl, rfl⟩
  ·show Calls _ _ _ w fun e w' => e = .returned (.int .u32 65535) /\ _
   clear h;go_enter Tryz.func63, Tryz.ntmps63;go_wp2_with fail;exact aZB (aZK rfl _ _ _) rfl ⟨rfl, rfl⟩
 ·have e : xCode k len = len := by unfold xCode; rw [if_neg h0]
  have hr := h.2.resolve_left h0;have hm : xMost k <= 4294967294 := by unfold xMost; split <;> decide
  have t1 : (len == -1) = false := by simpa using h0
  have t2 : (len != -1) = true := by simpa using h0
  have hw : IntKind.u32.wrap len = len := by rw [wrap_u32w]; omega
  rw [e];clear e h hr hm h0;go_enter Tryz.func63, Tryz.ntmps63;go_wp2_with fail;exact aZB (aZK rfl _ _ _) rfl ⟨rfl, rfl⟩
theorem refRooted_any (k len : Int) (h : xOK k len) (Ak : Option Addr) (nk ck : Nat) (s p : Sl) (w : World) :
  Calls Tryz.prog 43 #[.int .i64 k, .int .i64 len, .slice Ak nk ck, s.v, p.v] w fun e w' => e = .returned (rootP k len nk s p).v /\ Below w.heap.size w w' := by
 obtain ⟨big, hb⟩ := kind_xof h;have hf := fun W => refXfull_any big W
 rw [<- hb] at hf;have hc := fun W => refXcode_any k len h W
 unfold rootP Pr.v Pr.cs Sl.v;have HF := zH hf; have HC := zH hc; clear hf hc h hb;generalize mostOf k = m at *;generalize xCode k len = c at *;go_enter Tryz.func43, Tryz.ntmps43;go_wp2_with (first
  | (go_at_call 41; refine (HF _).mono ?_; rintro e1 w1 ⟨rfl, rfl⟩)
  | (go_at_call 63; refine (HC _).mono ?_; rintro e2 w2 ⟨rfl, rfl⟩))
 exact aZB (results_cell_row rfl _ _ w.heap.size 81 _ (0, 0) _ rfl (Blk.new _ _ _) Tryz.underlying81 rfl (by kernel_rfl)) rfl ⟨rfl, bal (b0 w) _⟩
theorem refValid_any (k len : Int) (Ak : Option Addr) (nk ck : Nat) (s p : Sl) (w : World) :
  Calls Tryz.prog 19 #[.int .i64 k, .int .i64 len, .slice Ak nk ck, s.v, p.v] w fun e w' => e = .returned (.int .i64 (xValid k len nk s p)) /\ Below w.heap.size w w' := by
 by_cases ho : xOK k len
 ·obtain ⟨big, hb⟩ := kind_xof ho
  have hf := fun W => refXfull_any big W
  rw [<- hb] at hf;have hro := fun W => refRooted_any k len ho Ak nk ck s p W
  have hck := fun W => refCheck_any k (rootP k len nk s p) W
  have hlen : (len = -1 \/ (1 <= len /\ len <= xMost k)) := ho.2
  by_cases hk : mostOf k < nk
  ·rw [xValid_key ho hk]
   have t1 : decide (mostOf k < (nk : Int)) = true := by simpa using hk
   generalize mostOf k = m at *;have HF := zH hf; clear hf hro hck;unfold Sl.v;rcases ho.1 with rfl | rfl
   ·open kA in exact zS53
   ·exact zS53
  ·rw [xValid_chk ho hk]
   have t1 : decide (mostOf k < (nk : Int)) = false := by simpa using hk
   generalize mostOf k = m at *;generalize rootP k len nk s p = P at *;have HF := zH hf; have HRO := zH hro; have HCK := zH hck; clear hf hro hck;unfold Sl.v at *;rcases ho.1 with rfl | rfl
   ·open kA in exact zS44
   ·exact zS44
 ·rw [xValid_bad ho]
  unfold Sl.v
  by_cases h1 : k = 1
  ·open kA in exact zS67
  ·by_cases h2 : k = 2
   ·exact zS67
   ·have t1 : (k == 1) = false := by simpa using h1
    have t2 : (k == 2) = false := by simpa using h2
    have t3 : (k != 1) = true := by simpa using h1
    have t4 : (k != 2) = true := by simpa using h2
    clear ho h1 h2;go_enter Tryz.func19, Tryz.ntmps19;go_wp2_with fail;exact aZB (aZK rfl _ _ _) rfl ⟨rfl, b0 w⟩
theorem refRoot_any (k len : Int) (ls lp key data : List UInt8) (Ak Ad : Option Addr) (nk ck nd cd : Nat) (s p : Sl) (w : World) (hls : ls.length = s.n) (hlp : lp.length = p.n) (hrs : RS cB w w.heap.size s.A ls) (hrp : RS cB w w.heap.size p.A lp)
  (hk : key.length = nk) (hrk : RS cB w w.heap.size Ak key) (hdl : data.length = nd) (hnd : nd <= 140737488355200) (hrd : RS cB w w.heap.size Ad data) :
  Calls Tryz.prog 68 #[.int .i64 k, .int .i64 len, .slice Ak nk ck, s.v, p.v, .slice Ad nd cd] w fun r w' => ∃ A n c cc, r = .returned (.tuple #[.slice A n cc, .int .i64 (rootS k len nk s p ls lp key data).2]) /\ (rootS k len nk s p ls lp key data).1.length = n /\ n <= cc /\ OS cB w' w.heap.size A c (rootS k len nk s p ls lp key data).1 /\ Below w.heap.size w w' := by
 have hva := fun W => refValid_any k len Ak nk ck s p W
 by_cases hv : xValid k len nk s p = 0
 ·have ho := xOK_of hv
  obtain ⟨big, hbg⟩ := kind_xof ho;have hfu := fun W => refXfull_any big W
  rw [<- hbg] at hfu;have hfit := rootP_fit (nk := nk) (s := s) (t := p) ho;have e : rootS k len nk s p ls lp key data = hashS k (rootP k len nk s p) ls lp key false (mostOf k) data := by unfold rootS; rw [if_neg (fun h => h hv)]
  have hha := fun W hrs hrp hrk hrd => refHashS_any k false (mostOf k) (rootP k len nk s p) ls lp key data Ak Ad nk ck nd cd W hfit hls hlp hrs hrp hk hrk hdl hnd hrd
  rw [e];obtain ⟨R, hR⟩ : ∃ R, R = hashS k (rootP k len nk s p) ls lp key false (mostOf k) data := ⟨_, rfl⟩;rw [<- hR];simp only [<- hR] at hha;obtain ⟨OUT, ERR⟩ := R;dsimp only at hha ⊢;have hpa := fun W => refRooted_any k len ho Ak nk ck s p W
  change ∀ W, RS cB W W.heap.size s.A ls -> RS cB W W.heap.size p.A lp -> _ -> _ -> _ at hha;simp only [hv] at hva;generalize rootP k len nk s p = P at *;generalize mostOf k = f at *;have HVA := zH hva; have HHA := zH hha; have HPA := zH hpa; have HRS := zH hrs; have HRP := zH hrp; have HRK := zH hrk; have HRD := zH hrd; have HFU := zH hfu;clear hva hha hpa hrs hrp hrk hrd hv hfit e hR ho hls hlp hk hdl hfu hbg;unfold Sl.v at *;go_enter Tryz.func68, Tryz.ntmps68;go_wp2_with (first
   | (go_at_call 19; refine (HVA _).mono ?_; rintro e1 w1 ⟨rfl, hb1⟩; have HB1 := zH hb1; clear hb1)
   | (go_at_call 43; refine (HPA _).mono ?_; rintro e2 w2 ⟨rfl, hb2⟩; have HB2 := zH (bcall HB1 hb2); clear hb2)
   | (go_at_call 41; refine (HFU _).mono ?_; rintro e3 w3 ⟨rfl, rfl⟩)
   | (go_at_call 34; refine (HHA _ ((HRS.below HB2).more HB2.size) ((HRP.below HB2).more HB2.size) ((HRK.below HB2).more HB2.size) ((HRD.below HB2).more HB2.size)).mono ?_; rintro e4 w4 ⟨A4, m4, c4, cc4, rfl, hl4, hcc4, ho4, hb4⟩; have HB4 := zH (bcall HB2 hb4); have HO4 := zH (ho4.mono (show w.heap.size <= _ from HB2.size)); clear hb4 ho4))
  exact aZB (results_tmp2 rfl _ _ _) rfl ⟨A4, m4, c4, cc4, rfl, hl4, hcc4, HO4.out, HB4.out⟩
 ·have e : rootS k len nk s p ls lp key data = ([], xValid k len nk s p) := by unfold rootS; rw [if_pos hv]
  rw [e];have t1 : (xValid k len nk s p != 0) = true := by simpa using hv
  have t2 : (xValid k len nk s p == 0) = false := by simpa using hv
  obtain ⟨x, hx⟩ : ∃ x, x = xValid k len nk s p := ⟨_, rfl⟩;rw [<- hx] at t1 t2;simp only [<- hx] at hva ⊢;have HVA := zH hva;clear hva hv e hx hrs hrp hrk hrd hls hlp hk hdl;unfold Sl.v at *;go_enter Tryz.func68, Tryz.ntmps68;go_wp2_with (go_at_call 19; refine (HVA _).mono ?_; rintro e1 w1 ⟨rfl, hb1⟩; have HB1 := zH hb1; clear hb1);exact aZB (results_tmp2 rfl _ _ _) rfl ⟨none, 0, 0, 0, rfl, rfl, Nat.le_refl _, OS.nil _ _ _ rfl, HB1.out⟩
end Go.Proofs.YtmapfcdffklopaaGreat

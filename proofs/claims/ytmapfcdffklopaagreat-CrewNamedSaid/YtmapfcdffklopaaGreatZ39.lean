/-
  Z39: contracts and lemmas alone; no statement is claimed here.
-/
import Derived.Test.YtmapfcdffklopaaGreatZx
import Derived.Test.YtmapfcdffklopaaGreatZxb
import Derived.Test.YtmapfcdffklopaaGreatZxc
import Derived.Test.YtmapfcdffklopaaGreatZ27
import Derived.Test.YtmapfcdffklopaaGreatZ38
set_option maxHeartbeats 4000000
set_option maxRecDepth 20000
namespace Go.Proofs.YtmapfcdffklopaaGreat
open Go renaming results_tmp2 → aZG
open _root_.Nat renaming le_refl → aZC
open Go renaming bodyPost_ret → aZB
open Lib renaming hid -> zH
open Go.RowKit
attribute [local go_sem] pureUpon Ords.of
theorem xnewBad_any (k len : Int) (Ak : Option Addr) (nk ck : Nat) (s p : Sl) (w : World) (hv : xValid k len nk s p ≠ 0) :
  Calls Tryz.prog 17 #[.int .i64 k, .int .i64 len, .slice Ak nk ck, s.v, p.v] w fun r w' => r = .returned (.tuple #[.pointer none, .int .i64 (xValid k len nk s p)]) /\ Below w.heap.size w w' := by
 have hva := fun W => xvalid_any k len Ak nk ck s p W
 generalize xValid k len nk s p = x at *;have t1 : (x != 0) = true := by simpa using hv
 have HVA := zH hva; clear hva hv;unfold shCells at HVA;obtain ⟨f, hf⟩ : ∃ f, f = mostOf k := ⟨_, rfl⟩;rw [<- hf] at HVA;clear hf;unfold Sl.v at *;go_enter Tryz.func17, Tryz.ntmps17;go_wp2_with fail;refine (HVA _).mono ?_;rintro e1 w1 ⟨c, t, kn, rfl, -, hb1⟩;have HB := zH (bal hb1 (.cells #[.int .i64 k, .int .i64 f, .int .u32 c, .int .u64 t, .bool kn] 67)); clear hb1;go_wp2_with fail;exact aZB (aZG rfl _ _ _) rfl ⟨rfl, HB.out⟩
def takeS (k len : Int) (key data : List UInt8) (fr0 : Nat) (n : Int) : List UInt8 × Int :=
  if xValid k len key.length noSl noSl ≠ 0 then ([], xValid k len key.length noSl noSl) else
  if n < 0 \/ 65536 < n then ([], 1) else
  if 0 < n /\ (Xm.mk (decide (k = 1)) len key [] []).T <= fr0 then ([], 70) else
  ((Xm.mk (decide (k = 1)) len key [] []).row ((Xm.mk (decide (k = 1)) len key [] []).root data) fr0 (min n.toNat ((Xm.mk (decide (k = 1)) len key [] []).T - fr0)), 0)
theorem takeS_bad {k len : Int} {key data : List UInt8} {fr0 : Nat} {n : Int} (h : xValid k len key.length noSl noSl ≠ 0) : takeS k len key data fr0 n = ([], xValid k len key.length noSl noSl) := by unfold takeS; rw [if_pos h]
theorem xm_of {k len : Int} {key : List UInt8} (h : xValid k len key.length noSl noSl = 0) : ∃ m : Xm, m.Ok /\ k = kOf m.big /\ len = m.len /\ key = m.key /\ [] = m.ls /\ [] = m.lp /\ Xm.mk (decide (k = 1)) len key [] [] = m := by
 have ho := xOK_of h;obtain ⟨big, hb, hb2, -⟩ := xnums ho;subst hb;rw [hb2];exact ⟨⟨big, len, key, [], []⟩, Xm.Ok.of (s := noSl) (p := noSl) rfl rfl h, rfl, rfl, rfl, rfl, rfl, rfl⟩
theorem takeS_arg {k len : Int} {key data : List UInt8} {fr0 : Nat} {n : Int} (h : xValid k len key.length noSl noSl = 0) (h2 : n < 0 \/ 65536 < n) : takeS k len key data fr0 n = ([], 1) := by unfold takeS; rw [if_neg (fun h3 => h3 h), if_pos h2]
theorem takeS_end {k len : Int} {key data : List UInt8} {fr0 : Nat} {n : Int} {m : Xm} (hm : Xm.mk (decide (k = 1)) len key [] [] = m) (h : xValid k len key.length noSl noSl = 0) (h2 : ¬ (n < 0 \/ 65536 < n)) (h3 : 0 < n /\ m.T <= fr0) : takeS k len key data fr0 n = ([], 70) := by unfold takeS; rw [if_neg (fun h3 => h3 h), if_neg h2, hm, if_pos h3]
theorem takeS_ok {k len : Int} {key data : List UInt8} {fr0 : Nat} {n : Int} {m : Xm} (hm : Xm.mk (decide (k = 1)) len key [] [] = m) (h : xValid k len key.length noSl noSl = 0) (h2 : ¬ (n < 0 \/ 65536 < n)) (h3 : ¬ (0 < n /\ m.T <= fr0)) : takeS k len key data fr0 n = (m.row (m.root data) fr0 (min n.toNat (m.T - fr0)), 0) := by unfold takeS; rw [if_neg (fun h3 => h3 h), if_neg h2, hm, if_neg h3]
theorem Xm.readS_skip {m : Xm} (hm : m.Ok) (root : List UInt8) (fr0 n : Nat) (h : ¬ (0 < n /\ m.T <= fr0)) : m.readS root (0 + (skipS m.T 0 fr0).1) n = (m.row root fr0 (min n (m.T - fr0)), 0) := by
 have hT := hm.T2.1;have e : (skipS m.T 0 fr0).1 = min fr0 m.T := by unfold skipS; rw [if_neg (by omega), Nat.sub_zero]
 rw [e, Nat.zero_add];unfold Xm.readS
 by_cases h0 : 0 < n
 ·rw [if_neg (by omega), Nat.min_eq_left (by omega)]
 ·have hn : n = 0 := by omega
  subst hn;rw [if_neg (by omega), Nat.zero_min, Nat.zero_min]
  rfl
theorem xTake_any (k len : Int) (key data : List UInt8) (Ak Ad : Option Addr) (nk ck nd cd fr0 : Nat) (n : Int) (w : World) (hk : key.length = nk) (hrk : RS cB w w.heap.size Ak key) (hd : data.length = nd) (hnd : nd <= cd) (hcd : cd <= 9223372036854775807) (hrd : RS cB w w.heap.size Ad data) (hfr : fr0 < 18446744073709551616) :
    Calls Tryz.prog 72 #[.int .i64 k, .int .i64 len, .slice Ak nk ck, .slice Ad nd cd, .int .u64 fr0, .int .i64 n] w fun r w' => ∃ A j cc, r = .returned (.tuple #[.slice A j cc, .int .i64 (takeS k len key data fr0 n).2]) /\ (takeS k len key data fr0 n).1.length = j /\ j <= cc /\ OS cB w' w.heap.size A cc (takeS k len key data fr0 n).1 /\ Below w.heap.size w w' := by
 by_cases hv : xValid k len key.length noSl noSl = 0
 ·obtain ⟨m, hm, h1, h2, h3, h4, h5, h6⟩ := xm_of hv
  have hnw := xNew m hm Ak nk ck noSl noSl w (by rw [<- h4]; rfl) (by rw [<- h5]; rfl) (by rw [<- h4]; exact RS.nil _) (by rw [<- h5]; exact RS.nil _) (by rw [<- h3]; exact hk) (by rw [<- h3]; exact hrk);rw [<- h1, <- h2] at hnw;unfold Sl.v noSl at hnw;have HNW := zH hnw; have HM := zH hm; have HRD := zH hrd; have HD := zH hd;clear hnw hrk hrd hk hm
  by_cases hn : n < 0 \/ 65536 < n
  ·rw [takeS_arg hv hn]
   clear hv h1 h2 h3 h4 h5 h6
   by_cases h1 : n < 0
   ·open kA in exact zS59
   ·open kB in exact zS59
  ·have t1 : decide (n < 0) = false := by simp; omega
   have t2 : decide (65536 < n) = false := by simp; omega
   obtain ⟨n', rfl⟩ : ∃ n' : Nat, n = n' := ⟨n.toNat, by omega⟩
   by_cases he : (0 : Int) < (n' : Int) /\ m.T <= fr0
   ·exact zS59
   ·rw [takeS_ok h6 hv hn he, show ((n' : Nat) : Int).toNat = n' from rfl]
    have HRK := zH (Xm.readS_skip HM.out (m.root data) fr0 n' (by omega));have HN := zH (show n' <= 65536 by omega); have HFR := zH hfr; have HND := zH hnd; have HCD := zH hcd
    by_cases h0 : 0 < n'
    ·open kA in exact zS24
    ·exact zS24
 ·rw [takeS_bad hv]
  have hnw := xnewBad_any k len Ak nk ck noSl noSl w (by rw [<- hk]; exact hv);rw [hk] at hv ⊢;generalize xValid k len nk noSl noSl = x at *;have t1 : (x != 0) = true := by simpa using hv
  unfold Sl.v noSl at hnw;have HNW := zH hnw; clear hnw hv hk hrk hd hnd hcd hrd hfr;go_enter Tryz.func72, Tryz.ntmps72;go_wp2_with fail;refine HNW.mono ?_;rintro e1 w1 ⟨rfl, hb⟩;have HB := zH hb; clear hb;go_wp2_with fail;exact aZB (aZG rfl _ _ _) rfl ⟨none, 0, 0, rfl, rfl, aZC _, OS.nil _ _ _ rfl, HB.out⟩
theorem refTake_any (k len : Int) (key data : List UInt8) (Ak Ad : Option Addr) (nk ck nd cd fr0 : Nat) (n : Int) (w : World) (hk : key.length = nk) (hrk : RS cB w w.heap.size Ak key) (hd : data.length = nd) (hnd : nd <= 140737488355200) (hrd : RS cB w w.heap.size Ad data) :
  Calls Tryz.prog 36 #[.int .i64 k, .int .i64 len, .slice Ak nk ck, .slice Ad nd cd, .int .u64 fr0, .int .i64 n] w fun r w' => ∃ A j cc, r = .returned (.tuple #[.slice A j cc, .int .i64 (takeS k len key data fr0 n).2]) /\ (takeS k len key data fr0 n).1.length = j /\ OS cB w' w.heap.size A cc (takeS k len key data fr0 n).1 /\ Below w.heap.size w w' := by
 have hva := refValid_any k len Ak nk ck noSl noSl w
 by_cases hv : xValid k len key.length noSl noSl = 0
 ·obtain ⟨m, hm, h1, h2, h3, h4, h5, h6⟩ := xm_of hv
  have ho := xOK_of hv;have hto := fun W => refTotal_any k len ho W
  have eT : totN k len = m.T := by rw [h1, h2]; rfl
  rw [eT] at hto;rw [hk] at hv;rw [hv] at hva;have hpa := fun q cm g at0 n W hb hrk hrm hn => refPart_any q m hm Ak ck noSl noSl Ad nd cm g at0 data fr0 n W hb (by rw [<- h4]; rfl) (by rw [<- h5]; rfl) hrk (by rw [<- h4]; exact RS.nil _) (by rw [<- h5]; exact RS.nil _) hd hnd hrm hn
  unfold rsCells at hpa;rw [<- h1, <- h2, <- h3, hk] at hpa;unfold Sl.v noSl at hva hpa;have hmk : key.length = nk := hk;rw [<- hk] at hv;have HVA := zH hva; have HTO := zH hto; have HPA := zH hpa; have HM := zH hm; have HRD := zH hrd; have HRK := zH hrk;clear hva hto hpa hrk hrd hk hm eT ho hmk hd hnd
  by_cases hn : n < 0 \/ 65536 < n
  ·rw [takeS_arg hv hn]
   clear hv h1 h2 h3 h4 h5 h6
   by_cases h1 : n < 0
   ·open kA in exact zS72
   ·open kB in exact zS72
  ·have t1 : decide (n < 0) = false := by simp; omega
   have t2 : decide (65536 < n) = false := by simp; omega
   obtain ⟨n', rfl⟩ : ∃ n' : Nat, n = n' := ⟨n.toNat, by omega⟩
   by_cases he : (0 : Int) < (n' : Int) /\ m.T <= fr0
   ·exact zS72
   ·rw [takeS_ok h6 hv hn he, show ((n' : Nat) : Int).toNat = n' from rfl]
    have HN := zH (show n' <= 65536 by omega);have hrow := fun root a c => m.row_len root a c
    have HROW := zH hrow; clear hrow
    by_cases h0 : 0 < n'
    ·open kA in exact zS49
    ·exact zS49
 ·rw [takeS_bad hv]
  rw [hk] at hv ⊢;generalize xValid k len nk noSl noSl = x at *;have t1 : (x != 0) = true := by simpa using hv
  unfold Sl.v noSl at hva;have HVA := zH hva; clear hva hv hk hrk hd hnd hrd;go_enter Tryz.func36, Tryz.ntmps36;go_wp2_with (go_at_call 19; refine HVA.mono ?_; rintro e1 w1 ⟨rfl, hb1⟩; have HB := zH hb1; clear hb1);exact aZB (aZG rfl _ _ _) rfl ⟨none, 0, 0, rfl, rfl, OS.nil _ _ _ rfl, HB.out⟩
end Go.Proofs.YtmapfcdffklopaaGreat

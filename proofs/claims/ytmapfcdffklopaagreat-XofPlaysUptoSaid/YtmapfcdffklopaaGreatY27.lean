/-
  Y27: contracts and lemmas alone; no statement is claimed here.
-/
import Derived.Test.YtmapfcdffklopaaGreatY25
import Derived.Test.YtmapfcdffklopaaGreatY21
import Derived.Test.YtmapfcdffklopaaGreatY24
namespace Go.Proofs.YtmapfcdffklopaaGreat
open Go.RowKit
attribute [local go_sem] pureUpon Ords.of

theorem refHashS_any (k : Int) (last : Bool) (m : Int) (p : Pr) (ls lp key data : List UInt8) (Ak Ad : Option Addr) (nk ck nd cd : Nat) (w : World) (hf : p.Fit) (hls : ls.length = p.salt.n) (hlp : lp.length = p.pers.n) (hrs : RS cB w w.heap.size p.salt.A ls) (hrp : RS cB w w.heap.size p.pers.A lp)
  (hk : key.length = nk) (hrk : RS cB w w.heap.size Ak key) (hdl : data.length = nd) (hnd : nd ≤ 140737488355200) (hrd : RS cB w w.heap.size Ad data) :
  Calls Tryz.prog 34 #[.int .i64 k, p.v, .slice Ak nk ck, .bool last, .int .i64 m, .slice Ad nd cd] w fun r w' => ∃ A n c cc, r = .returned (.tuple #[.slice A n cc, .int .i64 (hashS k p ls lp key last m data).2]) ∧ (hashS k p ls lp key last m data).1.length = n ∧ n ≤ cc ∧ OS cB w' w.heap.size A c (hashS k p ls lp key last m data).1 ∧ Below w.heap.size w w' := by
 refine hash_ways (P := fun R => Calls Tryz.prog 34 #[.int .i64 k, p.v, .slice Ak nk ck, .bool last, .int .i64 m, .slice Ad nd cd] w fun r w' => ∃ A n c cc, r = .returned (.tuple #[.slice A n cc, .int .i64 R.2]) ∧ R.1.length = n ∧ n ≤ cc ∧ OS cB w' w.heap.size A c R.1 ∧ Below w.heap.size w w') k p ls lp key last m data ?_ ?_ ?_ ?_
 ·intro hc
  exact (refHashBad_any k last m p Ak Ad nk ck nd cd w hc).mono fun r w' ⟨h1, h2⟩ => ⟨none, 0, 0, 0, h1, rfl, Nat.le_refl _, OS.nil _ _ _ rfl, h2⟩
 ·rintro big rfl hc h1 h2
  exact (refHashKey_any (kOf big) last m p Ak Ad nk ck nd cd w hc (by rw [← hk]; exact h1) (by rw [← hk]; exact h2)).mono fun r w' ⟨h1, h2⟩ => ⟨none, 0, 0, 0, h1, rfl, Nat.le_refl _, OS.nil _ _ _ rfl, h2⟩
 ·rintro big rfl hc h1 h2
  exact (refHashOut_any big last m p ls lp key Ak Ad nk ck nd cd w hc hrs hrp hk (by rw [← hk]; exact h1) hrk h2).mono fun r w' ⟨h1, h2⟩ => ⟨none, 0, 0, 0, h1, rfl, Nat.le_refl _, OS.nil _ _ _ rfl, h2⟩
 ·rintro big rfl hc h1 n rfl hn
  exact (refHash_any big last n p ls lp key data Ak Ad nk ck nd cd w hc hf hls hlp hrs hrp hk (by rw [← hk]; exact h1) hrk hdl hnd hrd hn).mono fun r w' ⟨A, c, cc, h1, h0, h2, h3⟩ => ⟨A, n, c, cc, h1, by rw [List.length_take, hashL_len]; omega, h0, h2, h3⟩
end Go.Proofs.YtmapfcdffklopaaGreat
namespace Go.Proofs.YtmapfcdffklopaaGreat
open Go.RowKit
attribute [local go_sem] pureUpon Ords.of

theorem kind_xof {k len : Int} (h : xOK k len) : ∃ big, k = kOf big := by
 rcases h.1 with h | h
 ·exact ⟨true, h⟩
 ·exact ⟨false, h⟩
theorem refXfull_any (big : Bool) (w : World) : Calls Tryz.prog 41 #[.int .i64 (kOf big)] w fun e w' => e = .returned (.int .i64 (mostOf (kOf big))) ∧ w = w' := by
 have hf := fun W => refFull_any big W
 rw [← mostOf_k] at hf
 have HF := Lib.hid hf; clear hf
 generalize mostOf (kOf big) = m at *
 generalize kOf big = kk at *
 go_enter Tryz.func41, Tryz.ntmps41
 go_wp2_with (go_at_call 33; refine (HF.out _).mono ?_; rintro e1 w1 ⟨rfl, rfl⟩)
 exact bodyPost_ret (results_tmp rfl _ _ _) rfl ⟨rfl, rfl⟩
theorem refXcode_any (k len : Int) (h : xOK k len) (w : World) : Calls Tryz.prog 63 #[.int .i64 k, .int .i64 len] w fun e w' => e = .returned (.int .u32 (xCode k len)) ∧ w = w' := by
 by_cases h0 : len = -1
 ·subst h0
  rcases h.1 with rfl | rfl
  ·show Calls _ _ _ w fun e w' => e = .returned (.int .u32 4294967295) ∧ _
   clear h
   go_enter Tryz.func63, Tryz.ntmps63
   go_wp2_with fail
   exact bodyPost_ret (results_tmp rfl _ _ _) rfl ⟨rfl, rfl⟩
  ·show Calls _ _ _ w fun e w' => e = .returned (.int .u32 65535) ∧ _
   clear h
   go_enter Tryz.func63, Tryz.ntmps63
   go_wp2_with fail
   exact bodyPost_ret (results_tmp rfl _ _ _) rfl ⟨rfl, rfl⟩
 ·have e : xCode k len = len := by unfold xCode; rw [if_neg h0]
  have hr := h.2.resolve_left h0
  have hm : xMost k ≤ 4294967294 := by unfold xMost; split <;> decide
  have t1 : (len == -1) = false := by simpa using h0
  have t2 : (len != -1) = true := by simpa using h0
  have hw : IntKind.u32.wrap len = len := by rw [wrap_u32w]; omega
  rw [e]
  clear e h hr hm h0
  go_enter Tryz.func63, Tryz.ntmps63
  go_wp2_with fail
  exact bodyPost_ret (results_tmp rfl _ _ _) rfl ⟨rfl, rfl⟩
set_option maxRecDepth 20000 in
set_option maxHeartbeats 1000000 in
theorem refRooted_any (k len : Int) (h : xOK k len) (Ak : Option Addr) (nk ck : Nat) (s p : Sl) (w : World) :
  Calls Tryz.prog 43 #[.int .i64 k, .int .i64 len, .slice Ak nk ck, s.v, p.v] w fun e w' => e = .returned (rootP k len nk s p).v ∧ Below w.heap.size w w' := by
 obtain ⟨big, hb⟩ := kind_xof h
 have hf := fun W => refXfull_any big W
 rw [← hb] at hf
 have hc := fun W => refXcode_any k len h W
 unfold rootP Pr.v Pr.cs Sl.v
 have HF := Lib.hid hf; have HC := Lib.hid hc; clear hf hc h hb
 generalize mostOf k = m at *
 generalize xCode k len = c at *
 go_enter Tryz.func43, Tryz.ntmps43
 go_wp2_with (first
  | (go_at_call 41; refine (HF.out _).mono ?_; rintro e1 w1 ⟨rfl, rfl⟩)
  | (go_at_call 63; refine (HC.out _).mono ?_; rintro e2 w2 ⟨rfl, rfl⟩))
 exact bodyPost_ret (results_cell_row rfl _ _ w.heap.size 81 _ (0, 0) _ rfl (Blk.new _ _ _) Tryz.underlying81 rfl (by kernel_rfl)) rfl ⟨rfl, bal (b0 w) _⟩
set_option maxRecDepth 100000 in
set_option maxHeartbeats 1000000 in
theorem refValid_any (k len : Int) (Ak : Option Addr) (nk ck : Nat) (s p : Sl) (w : World) :
  Calls Tryz.prog 19 #[.int .i64 k, .int .i64 len, .slice Ak nk ck, s.v, p.v] w fun e w' => e = .returned (.int .i64 (xValid k len nk s p)) ∧ Below w.heap.size w w' := by
 by_cases ho : xOK k len
 ·obtain ⟨big, hb⟩ := kind_xof ho
  have hf := fun W => refXfull_any big W
  rw [← hb] at hf
  have hro := fun W => refRooted_any k len ho Ak nk ck s p W
  have hck := fun W => refCheck_any k (rootP k len nk s p) W
  have hlen : (len = -1 ∨ (1 ≤ len ∧ len ≤ xMost k)) := ho.2
  by_cases hk : mostOf k < nk
  ·rw [xValid_key ho hk]
   have t1 : decide (mostOf k < (nk : Int)) = true := by simpa using hk
   generalize mostOf k = m at *
   have HF := Lib.hid hf; clear hf hro hck
   unfold Sl.v
   rcases ho.1 with rfl | rfl
   ·by_cases h0 : len = -1
    ·subst h0
     clear ho hb hlen hk
     go_enter Tryz.func19, Tryz.ntmps19
     go_wp2_with (go_at_call 41; refine (HF.out _).mono ?_; rintro e1 w1 ⟨rfl, rfl⟩)
     exact bodyPost_ret (results_tmp rfl _ _ _) rfl ⟨rfl, b0 w⟩
    ·have hr := hlen.resolve_left h0
     have t2 : (len != -1) = true := by simpa using h0
     have t3 : (len == -1) = false := by simpa using h0
     have t4 : decide (len < 1) = false := by simp; omega
     have t5 : decide (4294967294 < len) = false := by have := hr.2; unfold xMost at this; simp at this; simp; omega
     clear ho hb hlen hk h0 hr
     go_enter Tryz.func19, Tryz.ntmps19
     go_wp2_with (go_at_call 41; refine (HF.out _).mono ?_; rintro e1 w1 ⟨rfl, rfl⟩)
     exact bodyPost_ret (results_tmp rfl _ _ _) rfl ⟨rfl, b0 w⟩
   ·by_cases h0 : len = -1
    ·subst h0
     clear ho hb hlen hk
     go_enter Tryz.func19, Tryz.ntmps19
     go_wp2_with (go_at_call 41; refine (HF.out _).mono ?_; rintro e1 w1 ⟨rfl, rfl⟩)
     exact bodyPost_ret (results_tmp rfl _ _ _) rfl ⟨rfl, b0 w⟩
    ·have hr := hlen.resolve_left h0
     have t2 : (len != -1) = true := by simpa using h0
     have t3 : (len == -1) = false := by simpa using h0
     have t4 : decide (len < 1) = false := by simp; omega
     have t5 : decide (65534 < len) = false := by have := hr.2; unfold xMost at this; simp at this; simp; omega
     clear ho hb hlen hk h0 hr
     go_enter Tryz.func19, Tryz.ntmps19
     go_wp2_with (go_at_call 41; refine (HF.out _).mono ?_; rintro e1 w1 ⟨rfl, rfl⟩)
     exact bodyPost_ret (results_tmp rfl _ _ _) rfl ⟨rfl, b0 w⟩
  ·rw [xValid_chk ho hk]
   have t1 : decide (mostOf k < (nk : Int)) = false := by simpa using hk
   generalize mostOf k = m at *
   generalize rootP k len nk s p = P at *
   have HF := Lib.hid hf; have HRO := Lib.hid hro; have HCK := Lib.hid hck; clear hf hro hck
   unfold Sl.v at *
   rcases ho.1 with rfl | rfl
   ·by_cases h0 : len = -1
    ·subst h0
     clear ho hb hlen hk
     go_enter Tryz.func19, Tryz.ntmps19
     go_wp2_with (first
      | (go_at_call 41; refine (HF.out _).mono ?_; rintro e1 w1 ⟨rfl, rfl⟩)
      | (go_at_call 43; refine (HRO.out _).mono ?_; rintro e2 w2 ⟨rfl, hb2⟩)
      | (go_at_call 42; refine (HCK.out _).mono ?_; rintro e3 w3 ⟨rfl, hb3⟩))
     exact bodyPost_ret (results_tmp rfl _ _ _) rfl ⟨rfl, bcall hb2 hb3⟩
    ·have hr := hlen.resolve_left h0
     have t2 : (len != -1) = true := by simpa using h0
     have t3 : (len == -1) = false := by simpa using h0
     have t4 : decide (len < 1) = false := by simp; omega
     have t5 : decide (4294967294 < len) = false := by have := hr.2; unfold xMost at this; simp at this; simp; omega
     clear ho hb hlen hk h0 hr
     go_enter Tryz.func19, Tryz.ntmps19
     go_wp2_with (first
      | (go_at_call 41; refine (HF.out _).mono ?_; rintro e1 w1 ⟨rfl, rfl⟩)
      | (go_at_call 43; refine (HRO.out _).mono ?_; rintro e2 w2 ⟨rfl, hb2⟩)
      | (go_at_call 42; refine (HCK.out _).mono ?_; rintro e3 w3 ⟨rfl, hb3⟩))
     exact bodyPost_ret (results_tmp rfl _ _ _) rfl ⟨rfl, bcall hb2 hb3⟩
   ·by_cases h0 : len = -1
    ·subst h0
     clear ho hb hlen hk
     go_enter Tryz.func19, Tryz.ntmps19
     go_wp2_with (first
      | (go_at_call 41; refine (HF.out _).mono ?_; rintro e1 w1 ⟨rfl, rfl⟩)
      | (go_at_call 43; refine (HRO.out _).mono ?_; rintro e2 w2 ⟨rfl, hb2⟩)
      | (go_at_call 42; refine (HCK.out _).mono ?_; rintro e3 w3 ⟨rfl, hb3⟩))
     exact bodyPost_ret (results_tmp rfl _ _ _) rfl ⟨rfl, bcall hb2 hb3⟩
    ·have hr := hlen.resolve_left h0
     have t2 : (len != -1) = true := by simpa using h0
     have t3 : (len == -1) = false := by simpa using h0
     have t4 : decide (len < 1) = false := by simp; omega
     have t5 : decide (65534 < len) = false := by have := hr.2; unfold xMost at this; simp at this; simp; omega
     clear ho hb hlen hk h0 hr
     go_enter Tryz.func19, Tryz.ntmps19
     go_wp2_with (first
      | (go_at_call 41; refine (HF.out _).mono ?_; rintro e1 w1 ⟨rfl, rfl⟩)
      | (go_at_call 43; refine (HRO.out _).mono ?_; rintro e2 w2 ⟨rfl, hb2⟩)
      | (go_at_call 42; refine (HCK.out _).mono ?_; rintro e3 w3 ⟨rfl, hb3⟩))
     exact bodyPost_ret (results_tmp rfl _ _ _) rfl ⟨rfl, bcall hb2 hb3⟩
 ·rw [xValid_bad ho]
  unfold Sl.v
  by_cases h1 : k = 1
  ·subst h1
   have h0 : len ≠ -1 := fun h => ho ⟨.inl rfl, .inl h⟩
   have hr : ¬ (1 ≤ len ∧ len ≤ 4294967294) := fun h => ho ⟨.inl rfl, .inr h⟩
   have t2 : (len != -1) = true := by simpa using h0
   have t3 : (len == -1) = false := by simpa using h0
   by_cases h5 : len < 1
   ·have t4 : decide (len < 1) = true := by simpa using h5
    clear ho h0 hr h5
    go_enter Tryz.func19, Tryz.ntmps19
    go_wp2_with fail
    exact bodyPost_ret (results_tmp rfl _ _ _) rfl ⟨rfl, b0 w⟩
   ·have t4 : decide (len < 1) = false := by simpa using h5
    have t5 : decide (4294967294 < len) = true := by simp; omega
    clear ho h0 hr h5
    go_enter Tryz.func19, Tryz.ntmps19
    go_wp2_with fail
    exact bodyPost_ret (results_tmp rfl _ _ _) rfl ⟨rfl, b0 w⟩
  ·by_cases h2 : k = 2
   ·subst h2
    have h0 : len ≠ -1 := fun h => ho ⟨.inr rfl, .inl h⟩
    have hr : ¬ (1 ≤ len ∧ len ≤ 65534) := fun h => ho ⟨.inr rfl, .inr h⟩
    have t2 : (len != -1) = true := by simpa using h0
    have t3 : (len == -1) = false := by simpa using h0
    by_cases h5 : len < 1
    ·have t4 : decide (len < 1) = true := by simpa using h5
     clear ho h0 hr h5 h1
     go_enter Tryz.func19, Tryz.ntmps19
     go_wp2_with fail
     exact bodyPost_ret (results_tmp rfl _ _ _) rfl ⟨rfl, b0 w⟩
    ·have t4 : decide (len < 1) = false := by simpa using h5
     have t5 : decide (65534 < len) = true := by simp; omega
     clear ho h0 hr h5 h1
     go_enter Tryz.func19, Tryz.ntmps19
     go_wp2_with fail
     exact bodyPost_ret (results_tmp rfl _ _ _) rfl ⟨rfl, b0 w⟩
   ·have t1 : (k == 1) = false := by simpa using h1
    have t2 : (k == 2) = false := by simpa using h2
    have t3 : (k != 1) = true := by simpa using h1
    have t4 : (k != 2) = true := by simpa using h2
    clear ho h1 h2
    go_enter Tryz.func19, Tryz.ntmps19
    go_wp2_with fail
    exact bodyPost_ret (results_tmp rfl _ _ _) rfl ⟨rfl, b0 w⟩
set_option maxRecDepth 20000 in
set_option maxHeartbeats 2000000 in
theorem refRoot_any (k len : Int) (ls lp key data : List UInt8) (Ak Ad : Option Addr) (nk ck nd cd : Nat) (s p : Sl) (w : World) (hls : ls.length = s.n) (hlp : lp.length = p.n) (hrs : RS cB w w.heap.size s.A ls) (hrp : RS cB w w.heap.size p.A lp)
  (hk : key.length = nk) (hrk : RS cB w w.heap.size Ak key) (hdl : data.length = nd) (hnd : nd ≤ 140737488355200) (hrd : RS cB w w.heap.size Ad data) :
  Calls Tryz.prog 68 #[.int .i64 k, .int .i64 len, .slice Ak nk ck, s.v, p.v, .slice Ad nd cd] w fun r w' => ∃ A n c cc, r = .returned (.tuple #[.slice A n cc, .int .i64 (rootS k len nk s p ls lp key data).2]) ∧ (rootS k len nk s p ls lp key data).1.length = n ∧ n ≤ cc ∧ OS cB w' w.heap.size A c (rootS k len nk s p ls lp key data).1 ∧ Below w.heap.size w w' := by
 have hva := fun W => refValid_any k len Ak nk ck s p W
 by_cases hv : xValid k len nk s p = 0
 ·have ho := xOK_of hv
  obtain ⟨big, hbg⟩ := kind_xof ho
  have hfu := fun W => refXfull_any big W
  rw [← hbg] at hfu
  have hfit := rootP_fit (nk := nk) (s := s) (t := p) ho
  have e : rootS k len nk s p ls lp key data = hashS k (rootP k len nk s p) ls lp key false (mostOf k) data := by unfold rootS; rw [if_neg (fun h => h hv)]
  have hha := fun W hrs hrp hrk hrd => refHashS_any k false (mostOf k) (rootP k len nk s p) ls lp key data Ak Ad nk ck nd cd W hfit hls hlp hrs hrp hk hrk hdl hnd hrd
  rw [e]
  obtain ⟨R, hR⟩ : ∃ R, R = hashS k (rootP k len nk s p) ls lp key false (mostOf k) data := ⟨_, rfl⟩
  rw [← hR]
  simp only [← hR] at hha
  obtain ⟨OUT, ERR⟩ := R
  dsimp only at hha ⊢
  have hpa := fun W => refRooted_any k len ho Ak nk ck s p W
  change ∀ W, RS cB W W.heap.size s.A ls → RS cB W W.heap.size p.A lp → _ → _ → _ at hha
  simp only [hv] at hva
  generalize rootP k len nk s p = P at *
  generalize mostOf k = f at *
  have HVA := Lib.hid hva; have HHA := Lib.hid hha; have HPA := Lib.hid hpa; have HRS := Lib.hid hrs; have HRP := Lib.hid hrp; have HRK := Lib.hid hrk; have HRD := Lib.hid hrd; have HFU := Lib.hid hfu
  clear hva hha hpa hrs hrp hrk hrd hv hfit e hR ho hls hlp hk hdl hfu hbg
  unfold Sl.v at *
  go_enter Tryz.func68, Tryz.ntmps68
  go_wp2_with (first
   | (go_at_call 19; refine (HVA.out _).mono ?_; rintro e1 w1 ⟨rfl, hb1⟩; have HB1 := Lib.hid hb1; clear hb1)
   | (go_at_call 43; refine (HPA.out _).mono ?_; rintro e2 w2 ⟨rfl, hb2⟩; have HB2 := Lib.hid (bcall HB1.out hb2); clear hb2)
   | (go_at_call 41; refine (HFU.out _).mono ?_; rintro e3 w3 ⟨rfl, rfl⟩)
   | (go_at_call 34; refine (HHA.out _ ((HRS.out.below HB2.out).more HB2.out.size) ((HRP.out.below HB2.out).more HB2.out.size) ((HRK.out.below HB2.out).more HB2.out.size) ((HRD.out.below HB2.out).more HB2.out.size)).mono ?_; rintro e4 w4 ⟨A4, m4, c4, cc4, rfl, hl4, hcc4, ho4, hb4⟩; have HB4 := Lib.hid (bcall HB2.out hb4); have HO4 := Lib.hid (ho4.mono (show w.heap.size ≤ _ from HB2.out.size)); clear hb4 ho4))
  exact bodyPost_ret (results_tmp2 rfl _ _ _) rfl ⟨A4, m4, c4, cc4, rfl, hl4, hcc4, HO4.out, HB4.out⟩
 ·have e : rootS k len nk s p ls lp key data = ([], xValid k len nk s p) := by unfold rootS; rw [if_pos hv]
  rw [e]
  have t1 : (xValid k len nk s p != 0) = true := by simpa using hv
  have t2 : (xValid k len nk s p == 0) = false := by simpa using hv
  obtain ⟨x, hx⟩ : ∃ x, x = xValid k len nk s p := ⟨_, rfl⟩
  rw [← hx] at t1 t2
  simp only [← hx] at hva ⊢
  have HVA := Lib.hid hva
  clear hva hv e hx hrs hrp hrk hrd hls hlp hk hdl
  unfold Sl.v at *
  go_enter Tryz.func68, Tryz.ntmps68
  go_wp2_with (go_at_call 19; refine (HVA.out _).mono ?_; rintro e1 w1 ⟨rfl, hb1⟩; have HB1 := Lib.hid hb1; clear hb1)
  exact bodyPost_ret (results_tmp2 rfl _ _ _) rfl ⟨none, 0, 0, 0, rfl, rfl, Nat.le_refl _, OS.nil _ _ _ rfl, HB1.out⟩
end Go.Proofs.YtmapfcdffklopaaGreat

/-
  Y42: contracts and lemmas alone; no statement is claimed here.
-/
import Derived.Test.YtmapfcdffklopaaGreatY41
namespace Go.Proofs.YtmapfcdffklopaaGreat
open Go.RowKit
attribute [local go_sem] pureUpon Ords.of

set_option maxRecDepth 20000 in
theorem rxReadBad_any (q : Nat) (n : Int) (hn : n < 0 ∨ 65536 < n) (w : World) :
  Calls Tryz.prog 31 #[.pointer (some ⟨q, 0, none⟩), .int .i64 n] w fun r w' => r = .returned (.tuple #[.slice none 0 0, .int .i64 1]) ∧ w = w' := by
 by_cases h0 : n < 0
 ·have d0 : decide (n < 0) = true := by simpa using h0
  clear hn
  go_enter Tryz.func31, Tryz.ntmps31
  go_wp2_with fail
  exact bodyPost_ret (results_tmp2 rfl _ _ _) rfl ⟨rfl, rfl⟩
 ·have h1 : 65536 < n := by omega
  have d0 : decide (n < 0) = false := by simpa using h0
  have d1 : decide (n > 65536) = true := by simpa using h1
  have d2 : decide (65536 < n) = true := d1
  clear hn
  go_enter Tryz.func31, Tryz.ntmps31
  go_wp2_with fail
  exact bodyPost_ret (results_tmp2 rfl _ _ _) rfl ⟨rfl, rfl⟩
set_option maxRecDepth 20000 in
set_option maxHeartbeats 4000000 in
theorem rxRead_any (H q : Nat) (m : Xm) (hm : m.Ok) (t : XSt) (Ak : Option Addr) (ck : Nat) (s tt : Sl) (Am : Option Addr) (nm cm : Nat) (w : World) (h : RX w H q m t Ak ck s tt Am nm cm) (hp : t.pos ≤ m.T) (hnm : nm ≤ 140737488355200) (n : Nat) (hn : n ≤ 65536) :
  Calls Tryz.prog 31 #[.pointer (some ⟨q, 0, none⟩), .int .i64 n] w fun r w' => ∃ A k cc, r = .returned (.tuple #[.slice A k cc, .int .i64 (m.readS (m.root t.msg) t.pos n).2]) ∧ (m.readS (m.root t.msg) t.pos n).1.length = k ∧ OS cB w' w.heap.size A cc (m.readS (m.root t.msg) t.pos n).1 ∧ RX w' H q m ⟨t.msg, true, t.pos + k⟩ Ak ck s tt Am nm cm ∧ But [q] w w' := by
 have q6 : w.cell? ⟨q, 6, none⟩ = some (.bool t.gv) := h.cell 6
 have f6 := h.blk.frozen 6
 have ql := h.blk.lt
 have h37 := hm.T37
 have hpa : ∀ (W : World), RX W H q m ⟨t.msg, true, t.pos⟩ Ak ck s tt Am nm cm → Calls Tryz.prog 48 #[.pointer (some ⟨q, 0, none⟩), .int .u64 t.pos, .int .i64 n] W fun r w' => ∃ A c, r = .returned (.slice A (min n (m.T - t.pos)) c) ∧ OS cB w' W.heap.size A c (m.row (m.root t.msg) t.pos (min n (m.T - t.pos))) ∧ Below W.heap.size W w' := fun W hW =>
  refPart_any q m hm Ak ck s tt Am nm cm true t.pos t.msg t.pos n W hW.blk hW.hls hW.hlp (hW.rk.more hW.hH) (hW.rs.more hW.hH) (hW.rp.more hW.hH) hW.len hnm hW.own.reads hn
 obtain ⟨d, hd⟩ : ∃ d, d = m.T - t.pos := ⟨_, rfl⟩
 rw [← hd] at hpa
 obtain ⟨K, hK⟩ : ∃ K, K = min n d := ⟨_, rfl⟩
 rw [← hK] at hpa
 have hrd : m.readS (m.root t.msg) t.pos n = if 0 < n ∧ d = 0 then ([], 70) else (m.row (m.root t.msg) t.pos K, 0) := by rw [hK, hd]; rfl
 have HD := Lib.hid hd; have HX := Lib.hid h; have HPA := Lib.hid hpa
 obtain ⟨pk, hpk⟩ : ∃ pk, pk = t.pos + K := ⟨_, rfl⟩
 have HPK := Lib.hid hpk
 have hpi : (t.pos : Int) + (K : Int) = (pk : Int) := by omega
 have hpw : IntKind.u64.wrap (pk : Int) = (pk : Int) := by rw [wrap_u64]; omega
 have hkw : IntKind.u64.wrap (K : Int) = (K : Int) := by rw [wrap_u64]; omega
 have hn0 : decide ((n : Int) < 0) = false := by simp
 have hn1 : decide ((n : Int) > 65536) = false := by simp; omega
 have hn2 : decide ((65536 : Int) < (n : Int)) = false := hn1
 clear hd h hpk hpa
 by_cases h0 : 0 < n
 ·have d1 : decide ((n : Int) > 0) = true := by simp; omega
  have d2 : decide ((0 : Int) < (n : Int)) = true := d1
  have d3 : (0 < n) = True := eq_true h0
  by_cases hd0 : d = 0
  ·rw [if_pos ⟨h0, hd0⟩] at hrd
   rw [hrd]
   have d4 : ((d : Int) == 0) = true := by simp; omega
   have d5 : (d = 0) = True := eq_true hd0
   have hk0 : K = 0 := by omega
   have HK0 := Lib.hid hk0
   clear h0 hd0 hrd hk0 hK
   go_enter Tryz.func31, Tryz.ntmps31
   go_upto_region 4 with fail
   have hbg := HX.out.blk.set_ 6 (.bool true)
   have hbu0 : But [q] w (w.setCell ⟨q, 6, none⟩ (.bool true)) := (But.refl [q] w).setCell (p := ⟨q, 6, none⟩) (.inl (by simp)) _
   have HX2 := Lib.hid (HX.out.put true t.pos _ hbg hbu0)
   have HB2 := Lib.hid hbu0
   have hsz : Hid ((w.setCell ⟨q, 6, none⟩ (.bool true)).heap.size = w.heap.size) := by show _ = _; simp
   clear hbg hbu0 q6 f6 ql
   generalize w.setCell ⟨q, 6, none⟩ (.bool true) = u at *
   have q7 : u.cell? ⟨q, 7, none⟩ = some (.int .u64 t.pos) := HX2.out.cell 7
   have f7 := HX2.out.blk.frozen 7
   have ql := HX2.out.blk.lt
   have hl0 : Calls Tryz.prog 10 #[.pointer (some ⟨q, 0, none⟩)] u (fun r w' => r = .returned (.int .u64 (d : Nat)) ∧ ∃ k, w' = u.drewN k) := by
    have h1 := rxLeft_any H q m hm ⟨t.msg, true, t.pos⟩ Ak ck s tt Am nm cm u HX2.out hp
    rw [show m.T - (XSt.mk t.msg true t.pos).pos = d from HD.out.symm] at h1
    exact h1
   have HL0 := Lib.hid hl0
   have hpa := fun n1 => HPA.out (u.drewN n1) (HX2.out.below (bdr (b0 u) n1) HX2.out.hH)
   have HPB := Lib.hid hpa
   clear hl0 hpa
   go_wp2_with (go_at_call 10; refine HL0.out.mono ?_; rintro e1 w1 ⟨rfl, n1, rfl⟩)
   exact bodyPost_ret (results_tmp2 rfl _ _ _) rfl ⟨none, 0, 0, rfl, rfl, OS.nil _ _ _ rfl, by rw [Nat.add_zero]; exact HX2.out.below (bdr (b0 u) n1) HX2.out.hH, HB2.out.drewN n1⟩
  ·rw [if_neg (fun h => hd0 h.2)] at hrd
   rw [hrd]
   have d4 : ((d : Int) == 0) = false := by simp; omega
   have d5 : (d = 0) = False := eq_false hd0
   clear h0 hd0 hrd hK
   go_enter Tryz.func31, Tryz.ntmps31
   go_upto_region 4 with fail
   have hbg := HX.out.blk.set_ 6 (.bool true)
   have hbu0 : But [q] w (w.setCell ⟨q, 6, none⟩ (.bool true)) := (But.refl [q] w).setCell (p := ⟨q, 6, none⟩) (.inl (by simp)) _
   have HX2 := Lib.hid (HX.out.put true t.pos _ hbg hbu0)
   have HB2 := Lib.hid hbu0
   have hsz : Hid ((w.setCell ⟨q, 6, none⟩ (.bool true)).heap.size = w.heap.size) := by show _ = _; simp
   clear hbg hbu0 q6 f6 ql
   generalize w.setCell ⟨q, 6, none⟩ (.bool true) = u at *
   have q7 : u.cell? ⟨q, 7, none⟩ = some (.int .u64 t.pos) := HX2.out.cell 7
   have f7 := HX2.out.blk.frozen 7
   have ql := HX2.out.blk.lt
   have hl0 : Calls Tryz.prog 10 #[.pointer (some ⟨q, 0, none⟩)] u (fun r w' => r = .returned (.int .u64 (d : Nat)) ∧ ∃ k, w' = u.drewN k) := by
    have h1 := rxLeft_any H q m hm ⟨t.msg, true, t.pos⟩ Ak ck s tt Am nm cm u HX2.out hp
    rw [show m.T - (XSt.mk t.msg true t.pos).pos = d from HD.out.symm] at h1
    exact h1
   have HL0 := Lib.hid hl0
   have hpa := fun n1 => HPA.out (u.drewN n1) (HX2.out.below (bdr (b0 u) n1) HX2.out.hH)
   have HPB := Lib.hid hpa
   clear hl0 hpa
   go_wp2_with (go_at_call 10; refine HL0.out.mono ?_; rintro e1 w1 ⟨rfl, n1, rfl⟩)
   refine (HPB.out n1).mono ?_
   rintro e2 w2 ⟨A, cc, rfl, ho2, hb2⟩
   have hX3 := (HX2.out.below (bdr (b0 u) n1) HX2.out.hH).below hb2 (by simp; exact HX2.out.hH)
   have hbu3 := (HB2.out.drewN n1).trans (But.of hb2 []) (fun j hj => by cases hj)
   have HX3 := Lib.hid hX3; have HB3 := Lib.hid hbu3; have HO2 := Lib.hid ho2
   have q7 : w2.cell? ⟨q, 7, none⟩ = some (.int .u64 t.pos) := hX3.cell 7
   have f7 := hX3.blk.frozen 7
   have ql := hX3.blk.lt
   clear hX3 hbu3 ho2 hb2
   go_wp2_with fail
   have hbf := HX3.out.blk.set_ 7 (.int .u64 (pk : Nat))
   have hbb : But [q] w2 (w2.setCell ⟨q, 7, none⟩ (.int .u64 (pk : Nat))) := (But.refl [q] w2).setCell (p := ⟨q, 7, none⟩) (.inl (by simp)) _
   have hrx := HX3.out.put true pk _ hbf hbb
   have hof := HO2.out.setFar (p := ⟨q, 7, none⟩) (fun a ha e => by have h1 := (HO2.out.block_lt a ha).1; have h2 := HX2.out.blk.lt; rw [show (u.drewN n1).heap.size = u.heap.size from by simp, e] at h1; exact absurd h2 (Nat.not_lt.2 h1)) (.int .u64 (pk : Nat))
   refine bodyPost_ret (results_tmp2 rfl _ _ _) rfl ⟨A, K, cc, rfl, Xm.row_len _ _ _ _, hof.mono (by simp; exact Nat.le_of_eq hsz.out.symm), by rw [← HPK.out]; exact hrx, HB3.out.trans hbb (fun k hk => .inl hk)⟩
 ·rw [if_neg (fun h => h0 h.1)] at hrd
  rw [hrd]
  have e0 : n = 0 := by omega
  have d1 : decide ((n : Int) > 0) = false := by simp; omega
  have d2 : decide ((0 : Int) < (n : Int)) = false := d1
  have d3 : (0 < n) = False := eq_false h0
  clear h0 hrd hK e0
  go_enter Tryz.func31, Tryz.ntmps31
  go_upto_region 4 with fail
  have hbg := HX.out.blk.set_ 6 (.bool true)
  have hbu0 : But [q] w (w.setCell ⟨q, 6, none⟩ (.bool true)) := (But.refl [q] w).setCell (p := ⟨q, 6, none⟩) (.inl (by simp)) _
  have HX2 := Lib.hid (HX.out.put true t.pos _ hbg hbu0)
  have HB2 := Lib.hid hbu0
  have hsz : Hid ((w.setCell ⟨q, 6, none⟩ (.bool true)).heap.size = w.heap.size) := by show _ = _; simp
  clear hbg hbu0 q6 f6 ql
  generalize w.setCell ⟨q, 6, none⟩ (.bool true) = u at *
  have q7 : u.cell? ⟨q, 7, none⟩ = some (.int .u64 t.pos) := HX2.out.cell 7
  have f7 := HX2.out.blk.frozen 7
  have ql := HX2.out.blk.lt
  have hl0 : Calls Tryz.prog 10 #[.pointer (some ⟨q, 0, none⟩)] u (fun r w' => r = .returned (.int .u64 (d : Nat)) ∧ ∃ k, w' = u.drewN k) := by
   have h1 := rxLeft_any H q m hm ⟨t.msg, true, t.pos⟩ Ak ck s tt Am nm cm u HX2.out hp
   rw [show m.T - (XSt.mk t.msg true t.pos).pos = d from HD.out.symm] at h1
   exact h1
  have HL0 := Lib.hid hl0
  have hpa := fun n1 => HPA.out (u.drewN n1) (HX2.out.below (bdr (b0 u) n1) HX2.out.hH)
  have HPB := Lib.hid hpa
  clear hl0 hpa
  go_wp2_with fail
  have hp0 := HPB.out 0
  rw [World.drewN_zero] at hp0
  refine hp0.mono ?_
  clear hp0
  rintro e2 w2 ⟨A, cc, rfl, ho2, hb2⟩
  have hX3 := HX2.out.below hb2 HX2.out.hH
  have hbu3 := HB2.out.trans (But.of hb2 []) (fun j hj => by cases hj)
  have HX3 := Lib.hid hX3; have HB3 := Lib.hid hbu3; have HO2 := Lib.hid ho2
  have q7 : w2.cell? ⟨q, 7, none⟩ = some (.int .u64 t.pos) := hX3.cell 7
  have f7 := hX3.blk.frozen 7
  have ql := hX3.blk.lt
  clear hX3 hbu3 ho2 hb2
  go_wp2_with fail
  have hbf := HX3.out.blk.set_ 7 (.int .u64 (pk : Nat))
  have hbb : But [q] w2 (w2.setCell ⟨q, 7, none⟩ (.int .u64 (pk : Nat))) := (But.refl [q] w2).setCell (p := ⟨q, 7, none⟩) (.inl (by simp)) _
  have hrx := HX3.out.put true pk _ hbf hbb
  have hof := HO2.out.setFar (p := ⟨q, 7, none⟩) (fun a ha e => by have h1 := (HO2.out.block_lt a ha).1; have h2 := HX2.out.blk.lt; rw [e] at h1; exact absurd h2 (by show ¬ q < _; exact Nat.not_lt.2 h1)) (.int .u64 (pk : Nat))
  refine bodyPost_ret (results_tmp2 rfl _ _ _) rfl ⟨A, K, cc, rfl, Xm.row_len _ _ _ _, hof.mono (Nat.le_of_eq hsz.out.symm), by rw [← HPK.out]; exact hrx, HB3.out.trans hbb (fun k hk => .inl hk)⟩
end Go.Proofs.YtmapfcdffklopaaGreat

/-
  Y40: contracts and lemmas alone; no statement is claimed here.
-/
import Derived.Test.YtmapfcdffklopaaGreatY39
import Derived.Test.YtmapfcdffklopaaGreatY38
namespace Go.Proofs.YtmapfcdffklopaaGreat
open Go.RowKit
attribute [local go_sem] pureUpon Ords.of

structure RX (w : World) (H q : Nat) (m : Xm) (t : XSt) (Ak : Option Addr) (ck : Nat) (s tt : Sl) (Am : Option Addr) (nm cm : Nat) : Prop where
  blk : Blk w q 38 (rsCells m Ak ck s tt (.slice Am nm cm) t.gv t.pos)
  own : OS cB w H Am cm t.msg
  len : t.msg.length = nm
  far : ∀ a, Am = some a → a.block ≠ q
  lo : H ≤ q
  hls : m.ls.length = s.n
  hlp : m.lp.length = tt.n
  rk : RS cB w H Ak m.key
  rs : RS cB w H s.A m.ls
  rp : RS cB w H tt.A m.lp
section
variable {w w' : World} {H q : Nat} {m : Xm} {t : XSt} {Ak : Option Addr} {ck : Nat} {s tt : Sl} {Am : Option Addr} {nm cm : Nat}
theorem RX.but {F : List Nat} (h : RX w H q m t Ak ck s tt Am nm cm) (hb : But F w w') (hq : q ∉ F) (hA : ∀ a, Am = some a → a.block ∉ F) (hF : ∀ k, k ∈ F → H ≤ k) (hH : H ≤ w.heap.size) : RX w' H q m t Ak ck s tt Am nm cm :=
 have hB : Below H w w' := hb.toBelow hH hF
 ⟨h.blk.but hb hq, h.own.but hb hA, h.len, h.far, h.lo, h.hls, h.hlp, h.rk.below hB, h.rs.below hB, h.rp.below hB⟩
theorem RX.below (h : RX w H q m t Ak ck s tt Am nm cm) (hb : Below w.heap.size w w') (hH : H ≤ w.heap.size) : RX w' H q m t Ak ck s tt Am nm cm :=
 h.but (But.of hb []) (by simp) (fun _ _ => by simp) (fun _ hk => by cases hk) hH
theorem RX.cell (h : RX w H q m t Ak ck s tt Am nm cm) (i : Nat) : w.cell? ⟨q, i, none⟩ = (rsCells m Ak ck s tt (.slice Am nm cm) t.gv t.pos)[i]? := h.blk.cell i
theorem RX.hH (h : RX w H q m t Ak ck s tt Am nm cm) : H ≤ w.heap.size := Nat.le_trans h.lo (Nat.le_of_lt h.blk.lt)
theorem RX.put (h : RX w H q m t Ak ck s tt Am nm cm) (g : Bool) (a : Nat) (w' : World) (hb : Blk w' q 38 (rsCells m Ak ck s tt (.slice Am nm cm) g a)) (hbu : But [q] w w') : RX w' H q m ⟨t.msg, g, a⟩ Ak ck s tt Am nm cm :=
 have hB : Below H w w' := hbu.toBelow h.hH (fun k hk => by rw [List.mem_singleton.1 hk]; exact h.lo)
 ⟨hb, h.own.but hbu (fun a ha hm => h.far a ha (List.mem_singleton.1 hm)), h.len, h.far, h.lo, h.hls, h.hlp, h.rk.below hB, h.rs.below hB, h.rp.below hB⟩
end
set_option maxRecDepth 20000 in
theorem rxLeft_any (H q : Nat) (m : Xm) (hm : m.Ok) (t : XSt) (Ak : Option Addr) (ck : Nat) (s tt : Sl) (Am : Option Addr) (nm cm : Nat) (w : World) (h : RX w H q m t Ak ck s tt Am nm cm) (hp : t.pos ≤ m.T) :
  Calls Tryz.prog 10 #[.pointer (some ⟨q, 0, none⟩)] w fun r w' => r = .returned (.int .u64 ((m.T - t.pos : Nat) : Int)) ∧ ∃ n, w' = w.drewN n := by
 have ho := xOK_of (hm.val s tt h.hls.symm h.hlp.symm)
 have hto := fun W => refTotal_any (kOf m.big) m.len ho W
 change ∀ W, Calls _ _ _ W fun e w' => e = .returned (.int .u64 (m.T : Nat)) ∧ _ at hto
 have h37 := hm.T37
 obtain ⟨d, hd⟩ : ∃ d, d = m.T - t.pos := ⟨_, rfl⟩
 have e1 : (m.T : Int) - (t.pos : Int) = (d : Int) := by omega
 have hdw : IntKind.u64.wrap (d : Int) = (d : Int) := by rw [wrap_u64]; omega
 rw [← hd]
 have hc : ∀ n, (w.drewN n).cell? ⟨q, 0, none⟩ = some (.int .i64 (kOf m.big)) ∧ (w.drewN n).cell? ⟨q, 1, none⟩ = some (.int .i64 m.len) ∧ (w.drewN n).cell? ⟨q, 7, none⟩ = some (.int .u64 t.pos) ∧ q < (w.drewN n).heap.size := fun n => ⟨(h.blk.drewN n).cell 0, (h.blk.drewN n).cell 1, (h.blk.drewN n).cell 7, (h.blk.drewN n).lt⟩
 have HTO := Lib.hid hto; have HC := Lib.hid hc
 clear hto h hd hp hm ho h37 hc
 obtain ⟨q0, q1, q7, ql⟩ := HC.out 0
 rw [World.drewN_zero] at q0 q1 q7 ql
 go_enter Tryz.func10, Tryz.ntmps10
 go_upto_region 1 with fail
 refine wp_region_ords (fun w' => ∃ n, w' = w.drewN n) (fun _ n ⟨k, e⟩ => ⟨k + n, by rw [e]; exact World.drewN_drewN _ _ _⟩) (Ords.of [(0, 0), (0, 1), (0, 2), (0, 3), (0, 4), (0, 5), (0, 6), (0, 7), (0, 9), (0, 10), (0, 11), (0, 12), (2, 8), (0, 13), (0, 14)] .fin) (by kernel_rfl) rfl (by kernel_rfl) (by kernel_rfl) (fun c a d v w h => by cases d <;> exact h) ⟨0, (World.drewN_zero w).symm⟩ ?_
 iterate 3 (refine ords_pure rfl (fun K hK => ?_); go_simp; refine hK _ ?_; clear hK K; refine ords_pure rfl (fun K hK => ?_); go_simp; refine hK _ ?_; clear hK K; refine ords_pure rfl (fun K hK => ?_); go_simp; refine hK _ ?_; clear hK K; refine ords_heldK rfl (fun K K2 hK hK2 => ?_); go_simp; refine ⟨hK2 _ (fun w9 hS => ?_), hK _ ?_⟩; (clear hK hK2 K K2; clear q0 q1 q7 ql; obtain ⟨n9, rfl⟩ := hS; obtain ⟨q0, q1, q7, ql⟩ := HC.out n9; go_simp); (clear hK hK2 K K2))
 refine ords_loud rfl (fun n1 => ?_)
 go_wp2_with (go_at_call 30; refine (HTO.out _).mono ?_; rintro e1 w1 ⟨rfl, rfl⟩)
 refine ⟨⟨_, rfl⟩, ?_⟩
 go_simp
 iterate 2 (refine ords_pure rfl (fun K hK => ?_); go_simp; refine hK _ ?_; clear hK K)
 refine ords_end (fun n2 => ?_)
 go_wp2_with fail
 exact bodyPost_ret (results_tmp rfl _ _ _) rfl ⟨rfl, _, by first | rw [World.drewN_drewN] | rfl⟩
set_option maxRecDepth 20000 in
theorem rxReset_any (H q : Nat) (m : Xm) (t : XSt) (Ak : Option Addr) (ck : Nat) (s tt : Sl) (Am : Option Addr) (nm cm : Nat) (w : World) (h : RX w H q m t Ak ck s tt Am nm cm) :
  Calls Tryz.prog 27 #[.pointer (some ⟨q, 0, none⟩)] w fun r w' => r = .returned (.tuple #[]) ∧ RX w' H q m ⟨[], false, 0⟩ Ak ck s tt none 0 0 ∧ But [q] w w' := by
 have q5 : w.cell? ⟨q, 5, none⟩ = some (.slice Am nm cm) := h.cell 5
 have q6 : w.cell? ⟨q, 6, none⟩ = some (.bool t.gv) := h.cell 6
 have q7 : w.cell? ⟨q, 7, none⟩ = some (.int .u64 t.pos) := h.cell 7
 have f5 := h.blk.frozen 5; have f6 := h.blk.frozen 6; have f7 := h.blk.frozen 7
 have ql := h.blk.lt
 have HX := Lib.hid h
 clear h
 go_enter Tryz.func27, Tryz.ntmps27
 go_wp2_with fail
 go_end0
 have hb := ((HX.out.blk.set_ 6 (.bool false)).set_ 7 (.int .u64 0)).set_ 5 (.slice none 0 0)
 have hbu : But [q] w (((w.setCell ⟨q, 6, none⟩ (.bool false)).setCell ⟨q, 7, none⟩ (.int .u64 0)).setCell ⟨q, 5, none⟩ (.slice none 0 0)) :=
  (((But.refl [q] w).setCell (p := ⟨q, 6, none⟩) (.inl (by simp)) _).setCell (p := ⟨q, 7, none⟩) (.inl (by simp)) _).setCell (p := ⟨q, 5, none⟩) (.inl (by simp)) _
 have hB : Below H w _ := hbu.toBelow HX.out.hH (fun k hk => by rw [List.mem_singleton.1 hk]; exact HX.out.lo)
 exact ⟨rfl, ⟨hb, OS.nil _ _ _ rfl, rfl, (fun a ha => by cases ha), HX.out.lo, HX.out.hls, HX.out.hlp, HX.out.rk.below hB, HX.out.rs.below hB, HX.out.rp.below hB⟩, hbu⟩
set_option maxRecDepth 20000 in
set_option maxHeartbeats 4000000 in
theorem rxSkip_any (H q : Nat) (m : Xm) (hm : m.Ok) (t : XSt) (Ak : Option Addr) (ck : Nat) (s tt : Sl) (Am : Option Addr) (nm cm : Nat) (w : World) (h : RX w H q m t Ak ck s tt Am nm cm) (hp : t.pos ≤ m.T) (n : Nat) (hn : n < 18446744073709551616) :
  Calls Tryz.prog 24 #[.pointer (some ⟨q, 0, none⟩), .int .u64 n] w fun r w' => r = .returned (.tuple #[.int .u64 (skipS m.T t.pos n).1, .int .i64 (skipS m.T t.pos n).2]) ∧ RX w' H q m ⟨t.msg, true, t.pos + (skipS m.T t.pos n).1⟩ Ak ck s tt Am nm cm ∧ But [q] w w' := by
 have q6 : w.cell? ⟨q, 6, none⟩ = some (.bool t.gv) := h.cell 6
 have f6 := h.blk.frozen 6
 have ql := h.blk.lt
 have h37 := hm.T37
 obtain ⟨d, hd⟩ : ∃ d, d = m.T - t.pos := ⟨_, rfl⟩
 have hsk : skipS m.T t.pos n = if 0 < n ∧ d = 0 then (0, 70) else (min n d, 0) := by rw [hd]; rfl
 obtain ⟨K, hK⟩ : ∃ K, K = skipS m.T t.pos n := ⟨_, rfl⟩
 rw [← hK] at hsk ⊢
 obtain ⟨k, e⟩ := K
 dsimp only
 have hbd : t.pos + d ≤ 274877906944 := by omega
 have hways : (n = 0 ∧ k = 0 ∧ e = 0) ∨ (0 < n ∧ d = 0 ∧ k = 0 ∧ e = 70) ∨ (0 < n ∧ d ≠ 0 ∧ d < n ∧ k = d ∧ e = 0) ∨ (0 < n ∧ d ≠ 0 ∧ n ≤ d ∧ k = n ∧ e = 0) := by
  by_cases h0 : 0 < n
  ·by_cases hd0 : d = 0
   ·rw [if_pos ⟨h0, hd0⟩] at hsk
    obtain ⟨h1, h2⟩ := Prod.mk.inj hsk
    exact .inr (.inl ⟨h0, hd0, h1, h2⟩)
   ·rw [if_neg (fun h => hd0 h.2)] at hsk
    obtain ⟨h1, h2⟩ := Prod.mk.inj hsk
    by_cases hnd : d < n
    ·exact .inr (.inr (.inl ⟨h0, hd0, hnd, by rw [h1]; exact Nat.min_eq_right (by omega), h2⟩))
    ·exact .inr (.inr (.inr ⟨h0, hd0, by omega, by rw [h1]; exact Nat.min_eq_left (by omega), h2⟩))
  ·rw [if_neg (fun h => h0 h.1)] at hsk
   obtain ⟨h1, h2⟩ := Prod.mk.inj hsk
   exact .inl ⟨by omega, by rw [h1]; exact (by rw [show n = 0 by omega]; exact Nat.zero_min _), h2⟩
 have HD := Lib.hid hd; have HX := Lib.hid h
 obtain ⟨pk, hpk⟩ : ∃ pk, pk = t.pos + k := ⟨_, rfl⟩
 have HPK := Lib.hid hpk
 have hpi : (t.pos : Int) + (k : Int) = (pk : Int) := by omega
 have hkd : k ≤ d := by rcases hways with h | h | h | h <;> omega
 have hpw : IntKind.u64.wrap (pk : Int) = (pk : Int) := by rw [wrap_u64]; omega
 clear hd hsk hK h hpk hkd
 rcases hways with ⟨rfl, rfl, rfl⟩ | ⟨h0, hd0, rfl, rfl⟩ | ⟨h0, hd0, hnd, hkd, rfl⟩ | ⟨h0, hd0, hnd, rfl, rfl⟩
 ·have d6 : decide ((d : Int) < 0) = false := by simp
  go_enter Tryz.func24, Tryz.ntmps24
  go_upto_region 2 with fail
  have hbg := HX.out.blk.set_ 6 (.bool true)
  have hbu0 : But [q] w (w.setCell ⟨q, 6, none⟩ (.bool true)) := (But.refl [q] w).setCell (p := ⟨q, 6, none⟩) (.inl (by simp)) _
  have HX2 := Lib.hid (HX.out.put true t.pos _ hbg hbu0)
  have HB2 := Lib.hid hbu0
  clear hbg hbu0 q6 f6 ql
  generalize w.setCell ⟨q, 6, none⟩ (.bool true) = u at *
  have hle : ∀ n, Calls Tryz.prog 10 #[.pointer (some ⟨q, 0, none⟩)] (u.drewN n) (fun r w' => r = .returned (.int .u64 (d : Nat)) ∧ ∃ k, w' = u.drewN k) := fun n => by
   have h1 := rxLeft_any H q m hm ⟨t.msg, true, t.pos⟩ Ak ck s tt Am nm cm (u.drewN n) (HX2.out.below (bdr (b0 u) n) HX2.out.hH) hp
   rw [show m.T - (XSt.mk t.msg true t.pos).pos = d from HD.out.symm] at h1
   exact h1.mono fun r w' ⟨e1, k, e2⟩ => ⟨e1, n + k, by rw [e2, World.drewN_drewN]⟩
  have HLE := Lib.hid hle
  clear hle
  have q7 : u.cell? ⟨q, 7, none⟩ = some (.int .u64 t.pos) := HX2.out.cell 7
  have f7 := HX2.out.blk.frozen 7
  have ql := HX2.out.blk.lt
  have hl0 := HLE.out 0
  rw [World.drewN_zero] at hl0
  have HL0 := Lib.hid hl0
  clear hl0
  go_wp2_with first | (go_at_call 10; refine HL0.out.mono ?_; rintro e1 w1 ⟨rfl, n1, rfl⟩) | (go_at_call 10; refine (HLE.out _).mono ?_; rintro e1 w1 ⟨rfl, n1, rfl⟩)
  have hbf := (HX2.out.blk.drewN n1).set_ 7 (.int .u64 (pk : Nat))
  have hbb : But [q] u ((u.drewN n1).setCell ⟨q, 7, none⟩ (.int .u64 (pk : Nat))) := ((But.refl [q] u).drewN n1).setCell (p := ⟨q, 7, none⟩) (.inl (by simp)) _
  have hrx := HX2.out.put true pk _ hbf hbb
  exact bodyPost_ret (results_tmp2 rfl _ _ _) rfl ⟨rfl, (by rw [Nat.add_zero]; rw [show pk = t.pos from HPK.out] at hrx; exact hrx), (by rw [show pk = t.pos from HPK.out] at hbb; exact HB2.out.trans hbb (fun k hk => .inl hk))⟩
 ·have d1 : decide ((n : Int) > 0) = true := by simp; omega
  have d2 : decide ((0 : Int) < (n : Int)) = true := d1
  have d3 : (0 < n) = True := eq_true h0
  have d4 : ((d : Int) == 0) = true := by simp; omega
  have d5 : (d = 0) = True := eq_true hd0
  clear h0 hd0
  go_enter Tryz.func24, Tryz.ntmps24
  go_upto_region 2 with fail
  have hbg := HX.out.blk.set_ 6 (.bool true)
  have hbu0 : But [q] w (w.setCell ⟨q, 6, none⟩ (.bool true)) := (But.refl [q] w).setCell (p := ⟨q, 6, none⟩) (.inl (by simp)) _
  have HX2 := Lib.hid (HX.out.put true t.pos _ hbg hbu0)
  have HB2 := Lib.hid hbu0
  clear hbg hbu0 q6 f6 ql
  generalize w.setCell ⟨q, 6, none⟩ (.bool true) = u at *
  have hle : ∀ n, Calls Tryz.prog 10 #[.pointer (some ⟨q, 0, none⟩)] (u.drewN n) (fun r w' => r = .returned (.int .u64 (d : Nat)) ∧ ∃ k, w' = u.drewN k) := fun n => by
   have h1 := rxLeft_any H q m hm ⟨t.msg, true, t.pos⟩ Ak ck s tt Am nm cm (u.drewN n) (HX2.out.below (bdr (b0 u) n) HX2.out.hH) hp
   rw [show m.T - (XSt.mk t.msg true t.pos).pos = d from HD.out.symm] at h1
   exact h1.mono fun r w' ⟨e1, k, e2⟩ => ⟨e1, n + k, by rw [e2, World.drewN_drewN]⟩
  have HLE := Lib.hid hle
  clear hle
  have q7 : u.cell? ⟨q, 7, none⟩ = some (.int .u64 t.pos) := HX2.out.cell 7
  have f7 := HX2.out.blk.frozen 7
  have ql := HX2.out.blk.lt
  have hl0 := HLE.out 0
  rw [World.drewN_zero] at hl0
  have HL0 := Lib.hid hl0
  clear hl0
  go_wp2_with first | (go_at_call 10; refine HL0.out.mono ?_; rintro e1 w1 ⟨rfl, n1, rfl⟩) | (go_at_call 10; refine (HLE.out _).mono ?_; rintro e1 w1 ⟨rfl, n1, rfl⟩)
  exact bodyPost_ret (results_tmp2 rfl _ _ _) rfl ⟨rfl, (by rw [Nat.add_zero]; exact HX2.out.below (bdr (b0 u) n1) HX2.out.hH), HB2.out.drewN n1⟩
 ·have d1 : decide ((n : Int) > 0) = true := by simp; omega
  have d2 : decide ((0 : Int) < (n : Int)) = true := d1
  have d3 : (0 < n) = True := eq_true h0
  have d4 : ((d : Int) == 0) = false := by simp; omega
  have d5 : (d = 0) = False := eq_false hd0
  have d6 : decide ((d : Int) < (n : Int)) = true := by simp; omega
  have d8 : (d < n) = True := eq_true hnd
  rw [hkd] at hpi HPK ⊢
  clear h0 hd0 hnd hkd
  go_enter Tryz.func24, Tryz.ntmps24
  go_upto_region 2 with fail
  have hbg := HX.out.blk.set_ 6 (.bool true)
  have hbu0 : But [q] w (w.setCell ⟨q, 6, none⟩ (.bool true)) := (But.refl [q] w).setCell (p := ⟨q, 6, none⟩) (.inl (by simp)) _
  have HX2 := Lib.hid (HX.out.put true t.pos _ hbg hbu0)
  have HB2 := Lib.hid hbu0
  clear hbg hbu0 q6 f6 ql
  generalize w.setCell ⟨q, 6, none⟩ (.bool true) = u at *
  have hle : ∀ n, Calls Tryz.prog 10 #[.pointer (some ⟨q, 0, none⟩)] (u.drewN n) (fun r w' => r = .returned (.int .u64 (d : Nat)) ∧ ∃ k, w' = u.drewN k) := fun n => by
   have h1 := rxLeft_any H q m hm ⟨t.msg, true, t.pos⟩ Ak ck s tt Am nm cm (u.drewN n) (HX2.out.below (bdr (b0 u) n) HX2.out.hH) hp
   rw [show m.T - (XSt.mk t.msg true t.pos).pos = d from HD.out.symm] at h1
   exact h1.mono fun r w' ⟨e1, k, e2⟩ => ⟨e1, n + k, by rw [e2, World.drewN_drewN]⟩
  have HLE := Lib.hid hle
  clear hle
  have q7 : u.cell? ⟨q, 7, none⟩ = some (.int .u64 t.pos) := HX2.out.cell 7
  have f7 := HX2.out.blk.frozen 7
  have ql := HX2.out.blk.lt
  have hl0 := HLE.out 0
  rw [World.drewN_zero] at hl0
  have HL0 := Lib.hid hl0
  clear hl0
  go_wp2_with first | (go_at_call 10; refine HL0.out.mono ?_; rintro e1 w1 ⟨rfl, n1, rfl⟩) | (go_at_call 10; refine (HLE.out _).mono ?_; rintro e1 w1 ⟨rfl, n1, rfl⟩)
  have hbf := (HX2.out.blk.drewN n1).set_ 7 (.int .u64 (pk : Nat))
  have hbb : But [q] u ((u.drewN n1).setCell ⟨q, 7, none⟩ (.int .u64 (pk : Nat))) := ((But.refl [q] u).drewN n1).setCell (p := ⟨q, 7, none⟩) (.inl (by simp)) _
  have hrx := HX2.out.put true pk _ hbf hbb
  exact bodyPost_ret (results_tmp2 rfl _ _ _) rfl ⟨rfl, (by rw [← HPK.out]; exact hrx), HB2.out.trans hbb (fun k hk => .inl hk)⟩
 ·have d1 : decide ((k : Int) > 0) = true := by simp; omega
  have d2 : decide ((0 : Int) < (k : Int)) = true := d1
  have d3 : (0 < k) = True := eq_true h0
  have d4 : ((d : Int) == 0) = false := by simp; omega
  have d5 : (d = 0) = False := eq_false hd0
  have d6 : decide ((d : Int) < (k : Int)) = false := by simp; omega
  have d8 : (d < k) = False := eq_false (by omega)
  clear h0 hd0 hnd
  go_enter Tryz.func24, Tryz.ntmps24
  go_upto_region 2 with fail
  have hbg := HX.out.blk.set_ 6 (.bool true)
  have hbu0 : But [q] w (w.setCell ⟨q, 6, none⟩ (.bool true)) := (But.refl [q] w).setCell (p := ⟨q, 6, none⟩) (.inl (by simp)) _
  have HX2 := Lib.hid (HX.out.put true t.pos _ hbg hbu0)
  have HB2 := Lib.hid hbu0
  clear hbg hbu0 q6 f6 ql
  generalize w.setCell ⟨q, 6, none⟩ (.bool true) = u at *
  have hle : ∀ n, Calls Tryz.prog 10 #[.pointer (some ⟨q, 0, none⟩)] (u.drewN n) (fun r w' => r = .returned (.int .u64 (d : Nat)) ∧ ∃ k, w' = u.drewN k) := fun n => by
   have h1 := rxLeft_any H q m hm ⟨t.msg, true, t.pos⟩ Ak ck s tt Am nm cm (u.drewN n) (HX2.out.below (bdr (b0 u) n) HX2.out.hH) hp
   rw [show m.T - (XSt.mk t.msg true t.pos).pos = d from HD.out.symm] at h1
   exact h1.mono fun r w' ⟨e1, k, e2⟩ => ⟨e1, n + k, by rw [e2, World.drewN_drewN]⟩
  have HLE := Lib.hid hle
  clear hle
  have q7 : u.cell? ⟨q, 7, none⟩ = some (.int .u64 t.pos) := HX2.out.cell 7
  have f7 := HX2.out.blk.frozen 7
  have ql := HX2.out.blk.lt
  have hl0 := HLE.out 0
  rw [World.drewN_zero] at hl0
  have HL0 := Lib.hid hl0
  clear hl0
  go_wp2_with first | (go_at_call 10; refine HL0.out.mono ?_; rintro e1 w1 ⟨rfl, n1, rfl⟩) | (go_at_call 10; refine (HLE.out _).mono ?_; rintro e1 w1 ⟨rfl, n1, rfl⟩)
  have hbf := (HX2.out.blk.drewN n1).set_ 7 (.int .u64 (pk : Nat))
  have hbb : But [q] u ((u.drewN n1).setCell ⟨q, 7, none⟩ (.int .u64 (pk : Nat))) := ((But.refl [q] u).drewN n1).setCell (p := ⟨q, 7, none⟩) (.inl (by simp)) _
  have hrx := HX2.out.put true pk _ hbf hbb
  exact bodyPost_ret (results_tmp2 rfl _ _ _) rfl ⟨rfl, (by rw [← HPK.out]; exact hrx), HB2.out.trans hbb (fun k hk => .inl hk)⟩
end Go.Proofs.YtmapfcdffklopaaGreat

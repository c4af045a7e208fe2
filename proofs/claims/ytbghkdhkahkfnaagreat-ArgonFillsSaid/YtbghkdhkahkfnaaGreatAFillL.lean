/-
  The law of ArgonFills: the whole memory, by the program and by the reference. Contracts alone; no statement is claimed here.
-/
import Derived.Test.YtbghkdhkahkfnaaGreatAFilM
import Derived.Test.YtbghkdhkahkfnaaGreatAFilK
import Derived.Test.YtbghkdhkahkfnaaGreatLw
namespace Go.Proofs.YtbghkdhkahkfnaaGreat
open Go.RowKit
attribute [local go_sem] pureUpon Ords.of

theorem RIn.outs {w : World} {H gm cap : Nat} {hs : List SV} {a : Ar} {F : AMem} (h : RIn w H gm cap hs a F (fun _ _ => True)) (hC : 0 < a.cl) : OutsA w H (rowM a F) (a.ln * a.cl) (some ⟨gm, 0, none⟩) cap hs := by
 refine ⟨h.row, h.len, fun i s hs' => ?_⟩
 have hi : i < a.ln * a.cl := by rw [← h.len]; exact (List.getElem?_eq_some_iff.1 hs').1
 have hl : i / a.cl < a.ln := (Nat.div_lt_iff_lt_mul hC).2 hi
 have hc : i % a.cl < a.cl := Nat.mod_lt _ hC
 obtain ⟨A, k, k', h1, h2, h3⟩ := h.ent _ _ hl hc trivial
 have e : i / a.cl * a.cl + i % a.cl = i := by rw [Nat.mul_comm]; exact Nat.div_add_mod i a.cl
 rw [e, hs'] at h1
 obtain rfl := Option.some.inj h1
 exact ⟨rfl, k', h2⟩
theorem OutsA.at_ {w : World} {H : Nat} {T : Nat → List UInt8} {m : Nat} {A : Option Addr} {c : Nat} {l : List SV} (h : OutsA w H T m A c l) {i : Nat} (hi : i < m) : ∃ g B k, A = some ⟨g, 0, none⟩ ∧ g < w.heap.size ∧ w.cell? ⟨g, i, none⟩ = some (.slice B (T i).length k) ∧ RS cB w w.heap.size B (T i) := by
 obtain ⟨g, s, rfl, -, h1, h2, h3, -⟩ := h.row.at_ (k := i) (by rw [h.len]; exact hi)
 obtain ⟨e, c', h4⟩ := h.own i s h2
 refine ⟨g, s.A, s.c, rfl, h1, ?_, ?_⟩
 ·rw [h3, ← e]; rfl
 ·rw [← e]; exact h4.reads
theorem fillPno_any (a : Ar) (h : ¬ a.ok) (As : Option Addr) (ns cs : Nat) (w : World) :
  Calls Tryz.prog 6 #[a.v, .slice As ns cs] w fun r w' => r = .returned (.tuple #[.slice none 0 0, .int .i64 200]) ∧ Below w.heap.size w w' := by
 have hma := fun W => may_any a W
 rw [decide_eq_false h] at hma
 have HMA := Lib.hid hma
 have hau := Lib.hid Tryz.underlying23
 have HBX := Lib.hid (Blk.new w 23 (argC a))
 have HBA := Lib.hid (bal (b0 w) (.cells (argC a) 23))
 clear hma h
 go_enter Tryz.func6, Tryz.ntmps6
 go_wp2_with first
  | (refine wpList_load_row rfl 23 _ rfl w.heap.size rfl 23 (argC a) (0, 0) _ HBX.out hau.out rfl (argC_size a) ?_)
  | (go_at_call 13; refine (HMA.out _).mono ?_; rintro e3 w3 ⟨rfl, hb3⟩; have HB3 := Lib.hid (bcall HBA.out hb3); clear hb3)
 exact bodyPost_ret (results_tmp2 rfl _ _ _) rfl ⟨rfl, HB3.out⟩
set_option maxRecDepth 20000 in
theorem fillPshort_any (a : Ar) (h : a.ok) (As : Option Addr) (ns cs : Nat) (hn : ns ≠ 64) (w : World) :
  Calls Tryz.prog 6 #[a.v, .slice As ns cs] w fun r w' => r = .returned (.tuple #[.slice none 0 0, .int .i64 1]) ∧ Below w.heap.size w w' := by
 have hma := fun W => may_any a W
 rw [decide_eq_true h] at hma
 have HMA := Lib.hid hma
 have t1 : ((ns : Int) == 64) = false := by simp; omega
 have hau := Lib.hid Tryz.underlying23
 have HBX := Lib.hid (Blk.new w 23 (argC a))
 have HBA := Lib.hid (bal (b0 w) (.cells (argC a) 23))
 clear hma h hn
 go_enter Tryz.func6, Tryz.ntmps6
 go_wp2_with first
  | (refine wpList_load_row rfl 23 _ rfl w.heap.size rfl 23 (argC a) (0, 0) _ HBX.out hau.out rfl (argC_size a) ?_)
  | (go_at_call 13; refine (HMA.out _).mono ?_; rintro e3 w3 ⟨rfl, hb3⟩; have HB3 := Lib.hid (bcall HBA.out hb3); clear hb3)
 exact bodyPost_ret (results_tmp2 rfl _ _ _) rfl ⟨rfl, HB3.out⟩
def fllN (a : Ar) (n : Nat) : Nat := if a.ok then (if n = 64 then a.ln * a.cl else 0) else 0
def fllE (a : Ar) (n : Nat) : Int := if a.ok then (if n = 64 then 0 else 1) else 200
theorem Ar.c0 {a : Ar} (h : a.ok) : 0 < a.cl := by have := (Ar.n h).s2; unfold Ar.cl; omega
theorem rowM_len (a : Ar) (st : List UInt8) (i : Nat) : (rowM a (fullM a st) i).length = 1024 := allM_len a _ (startM_len st) a.passes.toNat _ _
theorem fillPS_any (a : Ar) (As : Option Addr) (ns cs : Nat) (st : List UInt8) (w : World) (hs : st.length = ns) (hr : RS cB w w.heap.size As st) :
  Calls Tryz.prog 6 #[a.v, .slice As ns cs] w fun r w' => ∃ A cap l, r = .returned (.tuple #[.slice A (fllN a ns) cap, .int .i64 (fllE a ns)]) ∧ OutsA w' w.heap.size (rowM a (fullM a st)) (fllN a ns) A cap l ∧ Below w.heap.size w w' := by
 unfold fllN fllE
 by_cases h : a.ok
 ·by_cases hn : ns = 64
  ·subst hn
   rw [if_pos h, if_pos h, if_pos rfl, if_pos rfl]
   exact fillP_any a h As cs st w hs hr
  ·rw [if_pos h, if_pos h, if_neg hn, if_neg hn]
   exact (fillPshort_any a h As ns cs hn w).mono fun r w' ⟨h1, h2⟩ => ⟨none, 0, [], h1, OutsA.empty _ _ _, h2⟩
 ·rw [if_neg h, if_neg h]
  exact (fillPno_any a h As ns cs w).mono fun r w' ⟨h1, h2⟩ => ⟨none, 0, [], h1, OutsA.empty _ _ _, h2⟩
theorem fillRS_any (a : Ar) (As : Option Addr) (ns cs : Nat) (st : List UInt8) (w : World) (hs : st.length = ns) (hr : RS cB w w.heap.size As st) :
  Calls Tryz.prog 7 #[a.v, .slice As ns cs] w fun r w' => ∃ A cap l, r = .returned (.tuple #[.slice A (fllN a ns) cap, .int .i64 (fllE a ns)]) ∧ OutsA w' w.heap.size (rowM a (fullM a st)) (fllN a ns) A cap l ∧ Below w.heap.size w w' := by
 unfold fllN fllE
 by_cases h : a.ok
 ·by_cases hn : ns = 64
  ·subst hn
   rw [if_pos h, if_pos h, if_pos rfl, if_pos rfl]
   exact (fillA_any a h As cs st w hs hr).mono fun r w' ⟨gm, cap, hd, h1, h2, h3⟩ => ⟨_, cap, hd, h1, h2.outs (Ar.c0 h), h3⟩
  ·rw [if_pos h, if_pos h, if_neg hn, if_neg hn]
   exact (fillAshort_any a h As ns cs hn w).mono fun r w' ⟨h1, h2⟩ => ⟨none, 0, [], h1, OutsA.empty _ _ _, h2⟩
 ·rw [if_neg h, if_neg h]
  exact (fillAno_any a h As ns cs w).mono fun r w' ⟨h1, h2⟩ => ⟨none, 0, [], h1, OutsA.empty _ _ _, h2⟩
theorem fllN_le (a : Ar) (n : Nat) : fllN a n ≤ 4096 := by
 unfold fllN
 split
 ·split
  ·rename_i h _
   exact (Ar.n h).lc
  ·exact Nat.zero_le _
 ·exact Nat.zero_le _
set_option maxRecDepth 20000 in
set_option maxHeartbeats 8000000 in
theorem fills_law (a : Ar) (As : Option Addr) (ns cs : Nat) (st : List UInt8) (w : World) (hs : st.length = ns) (hns : ns ≤ 140737488355000) (hr : RS cB w w.heap.size As st) :
  Calls Tryz.prog 3 #[a.v, .slice As ns cs] w fun r w' => r = .returned (.bool true) ∧ Below w.heap.size w w' := by
 have hfp := fun A c W h => fillPS_any a A ns c st W hs h
 have hfr := fun A c W h => fillRS_any a A ns c st W hs h
 have hTL := rowM_len a st
 have hNL := fllN_le a ns
 generalize rowM a (fullM a st) = T at *
 generalize fllN a ns = N at *
 generalize fllE a ns = E at *
 have hwd := fun W h => wide20_any As cs ns st W hs hns h
 have t1 : (E != E) = false := by simp
 have t2 : ((N : Int) != (N : Int)) = false := by simp
 have t3 : (E == E) = true := by simp
 have t4 : ((N : Int) == (N : Int)) = true := by simp
 have HFP := Lib.hid hfp; have HFR := Lib.hid hfr; have HTL := Lib.hid hTL; have HWD := Lib.hid hwd; have HR := Lib.hid hr; have HS := Lib.hid hs
 clear hfp hfr hTL hwd hr hs
 have hau := Lib.hid Tryz.underlying23
 have HBX := Lib.hid (Blk.new w 23 (argC a))
 have HB := Lib.hid (bal (b0 w) (.cells (argC a) 23))
 go_enter Tryz.func3, Tryz.ntmps3
 unfold Ar.v
 go_upto_region 1 with fail
 rw [show #[Value.int .i64 a.kind, .int .i64 a.mem, .int .i64 a.passes, .int .i64 a.lanes, .int .i64 a.tag] = argC a from rfl]
 obtain ⟨ga, hga⟩ : ∃ g, g = w.heap.size := ⟨_, rfl⟩
 rw [← hga] at HBX ⊢
 clear hga
 generalize w.alloc (.cells (argC a) 23) = u at *
 go_upto_region 2 with (go_at_call 5; refine (HWD.out u ((HR.out.below HB.out).more HB.out.size)).mono ?_; rintro e1 w1 ⟨A1, c1, rfl, ho1, hb1⟩)
 have HO1 := Lib.hid (ho1.mono HB.out.size)
 replace HBX := Lib.hid (HBX.out.below hb1 HBX.out.lt)
 replace HB := Lib.hid (bcall HB.out hb1)
 clear ho1 hb1 HWD
 clear u
 have hl1 : ns + 70 ≤ c1 := by have h := HO1.out.len_le.1; rw [List.length_append, marks_len, HS.out] at h; exact h
 have l6 : (ns : Int) ≤ (c1 : Int) := by omega
 refine wp_region_ords (fun w' => Blk w' ga 23 (argC a)) (fun _ n h => h.drewN n) (Ords.of [(0, 0), (0, 1), (0, 2), (0, 3), (0, 4), (2, 5), (0, 6), (0, 7), (0, 8), (0, 9), (0, 10)] .fin) (by kernel_rfl) rfl (by kernel_rfl) (by kernel_rfl) (fun c a d v w h => by cases d <;> exact h) HBX.out ?_
 refine ords_held (v := Value.agg #[Value.int .i64 a.kind, .int .i64 a.mem, .int .i64 a.passes, .int .i64 a.lanes, .int .i64 a.tag]) rfl rfl (fun w9 hS => pure_load_mid 23 (.tmp 2) rfl ga 0 rfl _ _ (hS.range 0 5) hau.out rfl (argC_size a)) ?_; go_simp
 iterate 4 (refine ords_pure rfl (fun K hK => ?_); go_simp; refine hK _ ?_; clear hK K)
 refine ords_loud rfl (fun n1 => ?_)
 replace HB := Lib.hid (bdr HB.out n1)
 replace HBX := Lib.hid (HBX.out.drewN n1)
 replace HO1 := Lib.hid (HO1.out.drewN n1)
 generalize w1.drewN n1 = u at *
 have hop : RS cB u u.heap.size A1 st := by
  have h := HO1.out.reads.take st.length
  rw [List.take_left] at h
  exact h
 have HOP := Lib.hid hop
 clear hop
 go_wp2_with (go_at_call 6; refine (HFP.out A1 c1 u HOP.out).mono ?_; rintro e2 w2 ⟨A2, cp2, l2, rfl, ho2, hb2⟩)
 have HP := Lib.hid (ho2.mono HB.out.size)
 replace HBX := Lib.hid (HBX.out.below hb2 HBX.out.lt)
 replace HO1 := Lib.hid (HO1.out.below hb2 (Nat.le_refl _))
 replace HB := Lib.hid (bcall HB.out hb2)
 clear ho2 hb2 HOP HFP
 clear u
 refine ⟨HBX.out, ?_⟩
 go_simp
 iterate 5 (refine ords_pure rfl (fun K hK => ?_); go_simp; refine hK _ ?_; clear hK K)
 refine ords_end (fun n2 => ?_)
 replace HB := Lib.hid (bdr HB.out n2)
 replace HBX := Lib.hid (HBX.out.drewN n2)
 replace HO1 := Lib.hid (HO1.out.drewN n2)
 replace HP := Lib.hid (HP.out.below (bdr (b0 w2) n2))
 generalize w2.drewN n2 = u at *
 clear w1
 go_upto_region 4 with first
  | (refine wpList_load_row rfl 23 _ rfl ga rfl 23 (argC a) (0, 0) _ HBX.out hau.out rfl (argC_size a) ?_)
  | (go_at_call 7; refine (HFR.out As cs u ((HR.out.below HB.out).more HB.out.size)).mono ?_; rintro e3 w3 ⟨A3, cp3, l3, rfl, ho3, hb3⟩)
 have HQ := Lib.hid (ho3.mono HB.out.size)
 replace HO1 := Lib.hid (HO1.out.below hb3 (Nat.le_refl _))
 replace HP := Lib.hid (HP.out.below hb3)
 replace HB := Lib.hid (bcall HB.out hb3)
 clear ho3 hb3 HBX HFR
 clear u
 go_upto_region 7 with fail
 go_loopw [10] (fun ix wr => ∃ i k : Nat, i ≤ N ∧ ix = .int .i64 i ∧ wr = w3.drewN k) (fun ix _ => N - (intOf ix).toNat)
 case atStart => exact ⟨0, 0, Nat.zero_le _, rfl, rfl⟩
 case round =>
  obtain ⟨i, k, hi, rfl, rfl⟩ := hrel
  by_cases hlt : i < N
  ·have HLT := Lib.hid hlt
   have d1 : decide ((i : Int) < (N : Int)) = true := by simp; omega
   have hii : (i : Int) < (N : Int) := by omega
   obtain ⟨g1, B1, k1, rfl, lg1, z1, r1⟩ := HP.out.at_ hlt
   obtain ⟨g2, B2, k2, rfl, lg2, z2, r2⟩ := HQ.out.at_ hlt
   rw [HTL.out] at z1 z2
   have hsm : ∀ n, Calls Tryz.prog 8 #[.slice B1 1024 k1, .slice B2 1024 k2] (w3.drewN n) (fun e w' => e = .returned (.bool true) ∧ ∃ m, w' = w3.drewN m) := fun n =>
    (same20_any B1 B2 k1 k2 (T i) (T i) w3.heap.size w3.heap.size 1024 1024 (w3.drewN n) (HTL.out i) (HTL.out i) (by decide) (r1.drewN n) (r2.drewN n)).mono fun e w' ⟨h1, m, h2⟩ => ⟨by rw [h1, decide_eq_true rfl], n + m, by rw [h2, World.drewN_drewN]⟩
   have HSM := Lib.hid hsm
   clear hsm r1 r2 hi hlt
   go_upto_region 9 with fail
   refine wp_region_ords (fun w' => ∃ n, w' = w3.drewN n) (fun _ n ⟨m, e⟩ => ⟨m + n, by rw [e]; exact World.drewN_drewN _ _ _⟩) (Ords.of [(0, 0), (0, 1), (0, 2), (0, 3), (0, 4), (0, 5), (0, 6), (0, 7), (2, 8), (0, 9)] .fin) (by kernel_rfl) rfl (by kernel_rfl) (by kernel_rfl) (fun c a d v w h => by cases d <;> exact h) ⟨k, rfl⟩ ?_
   iterate 2 (refine ords_pure rfl (fun K hK => ?_); go_simp; refine hK _ ?_; clear hK K; refine ords_pure rfl (fun K hK => ?_); go_simp; refine hK _ ?_; clear hK K; refine ords_pure rfl (fun K hK => ?_); go_simp; refine hK _ ?_; clear hK K; refine ords_heldK rfl (fun K K2 hK hK2 => ?_); go_simp; refine ⟨hK2 _ (fun w9 hS => ?_), hK _ ?_⟩; (clear hK hK2 K K2; obtain ⟨n9, rfl⟩ := hS; go_simp); (clear hK hK2 K K2))
   refine ords_loud rfl (fun n1 => ?_)
   rw [World.drewN_drewN]
   go_wp2_with (go_at_call 8; refine (HSM.out (k + n1)).mono ?_; rintro e4 w4 ⟨rfl, m4, rfl⟩)
   refine ⟨⟨m4, rfl⟩, ?_⟩
   go_simp
   refine ords_pure rfl (fun K hK => ?_); go_simp; refine hK _ ?_; clear hK K
   refine ords_end (fun n2 => ?_)
   rw [World.drewN_drewN]
   go_wp2_with fail
   exact ⟨⟨i + 1, m4 + n2, HLT.out, numF i, rfl⟩, measF N i HLT.out⟩
  ·obtain rfl : i = N := by omega
   have d1 : decide ((i : Int) < (i : Int)) = false := by simp
   have HBK := Lib.hid (bdr HB.out k)
   have hkp := kept20_any A1 As c1 cs ns st w3.heap.size (w3.drewN k) HS.out hns (HO1.out.reads.drewN k) (((HR.out.below HBK.out).more HBK.out.size)) (Nat.le_refl _)
   have HKP := Lib.hid hkp
   clear hkp
   go_wp2_with (go_at_call 9; refine HKP.out.mono ?_; rintro e5 w5 ⟨rfl, hb5⟩)
   exact bodyPost_ret (results_tmp rfl _ _ _) rfl ⟨rfl, bcall HBK.out hb5⟩
end Go.Proofs.YtbghkdhkahkfnaaGreat

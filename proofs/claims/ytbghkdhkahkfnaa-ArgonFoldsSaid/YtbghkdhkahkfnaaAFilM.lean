/-
  Argon's whole memory told by the program: Fill. Contracts alone; no statement is claimed here.
-/
import Derived.Test.YtbghkdhkahkfnaaAFilG
import Derived.Test.YtbghkdhkahkfnaaTab
namespace Go.Proofs.Ytbghkdhkahkfnaa
open Go.RowKit
attribute [local go_sem] pureUpon Ords.of

structure OutsA (w : World) (H : Nat) (T : Nat → List UInt8) (m : Nat) (A : Option Addr) (c : Nat) (l : List SV) : Prop where
  row : OS cL w H A c l
  len : l.length = m
  own : ∀ (i : Nat) (s : SV), l[i]? = some s → s.l = T i ∧ ∃ c', OS cB w H s.A c' s.l
section
variable {w w' : World} {H : Nat} {T : Nat → List UInt8} {m : Nat} {A : Option Addr} {c : Nat} {l : List SV}
theorem OutsA.below (h : OutsA w H T m A c l) (hb : Below w.heap.size w w') : OutsA w' H T m A c l :=
 ⟨h.row.below hb (Nat.le_refl _), h.len, fun i s hs => by obtain ⟨h1, c', h4⟩ := h.own i s hs; exact ⟨h1, c', h4.below hb (Nat.le_refl _)⟩⟩
theorem OutsA.mono {H' : Nat} (h : OutsA w H T m A c l) (hH : H' ≤ H) : OutsA w H' T m A c l :=
 ⟨h.row.mono hH, h.len, fun i s hs => by obtain ⟨h1, c', h4⟩ := h.own i s hs; exact ⟨h1, c', h4.mono hH⟩⟩
theorem OutsA.empty (w : World) (H : Nat) (T : Nat → List UInt8) : OutsA w H T 0 none 0 [] := ⟨OS.nil w H 0 rfl, rfl, fun i s h => by simp at h⟩
theorem OutsA.snoc (h : OutsA w H T m A c l) {y : SV} (h1 : y.l = T m) {cy : Nat} (h4 : OS cB w H y.A cy y.l) {A' : Option Addr} {c' : Nat} (ho : OS cL w' H A' c' (l ++ [y])) (hg : w.grownBy w' (A.map (·.block))) : OutsA w' H T (m + 1) A' c' (l ++ [y]) := by
 have kp : ∀ (B : Option Addr) (x : Nat) (k : List UInt8), OS cB w H B x k → OS cB w' H B x k := fun B x k hB => hB.kept hg (fun a ha e => by
  rcases h.row.form with ⟨e0, -⟩ | ⟨g, e0, -⟩
  ·rw [e0] at e; cases e
  ·have hr := h.row
   rw [e0] at e hr
   exact os_blk_ne hB hr a ha (Option.some.inj e).symm)
 refine ⟨ho, by rw [List.length_append, h.len]; rfl, fun i s hs => ?_⟩
 by_cases hi : i < m
 ·rw [List.getElem?_append_left (by rw [h.len]; exact hi)] at hs
  obtain ⟨q1, x, q4⟩ := h.own i s hs
  exact ⟨q1, x, kp _ _ _ q4⟩
 ·have hlt := (List.getElem?_eq_some_iff.1 hs).1
  rw [List.length_append, h.len] at hlt
  have e : i = m := by simp at hlt; omega
  subst e
  rw [List.getElem?_append_right (by rw [h.len]; omega), h.len, Nat.sub_self] at hs
  obtain rfl : y = s := Option.some.inj hs
  exact ⟨h1, cy, kp _ _ _ h4⟩
end
def rowM (a : Ar) (F : AMem) (i : Nat) : List UInt8 := F (i / a.cl) (i % a.cl)
theorem rowM_at (a : Ar) (F : AMem) {l c : Nat} (hc : c < a.cl) : rowM a F (l * a.cl + c) = F l c := by
 unfold rowM
 have h1 : (l * a.cl + c) / a.cl = l := by rw [Nat.mul_comm, Nat.mul_add_div (by omega), Nat.div_eq_of_lt hc, Nat.add_zero]
 have h2 : (l * a.cl + c) % a.cl = c := by rw [Nat.mul_comm, Nat.mul_add_mod, Nat.mod_eq_of_lt hc]
 rw [h1, h2]
theorem at_ltA {L C l c : Nat} (hl : l < L) (hc : c < C) : l * C + c < L * C := by
 have h1 : (l + 1) * C ≤ L * C := Nat.mul_le_mul_right _ hl
 rw [Nat.succ_mul] at h1
 omega
set_option maxRecDepth 20000 in
set_option maxHeartbeats 8000000 in
theorem fillP_any (a : Ar) (h : a.ok) (As : Option Addr) (cs : Nat) (st : List UInt8) (w : World) (hs : st.length = 64) (hr : RS cB w w.heap.size As st) :
  Calls Try.prog 7 #[a.v, .slice As 64 cs] w fun r w' => ∃ A cap l, r = .returned (.tuple #[.slice A (a.ln * a.cl) cap, .int .i64 0]) ∧ OutsA w' w.heap.size (rowM a (fullM a st)) (a.ln * a.cl) A cap l ∧ Below w.heap.size w w' := by
 have hN := Ar.n h
 have hau := Lib.hid Try.underlying23
 have hma := fun W => may_any a W
 rw [decide_eq_true h] at hma
 have hC0 : 0 < a.cl := by have := hN.s2; unfold Ar.cl; omega
 have HBX := Lib.hid (Blk.new w 23 (argC a))
 have HBA := Lib.hid (bal (b0 w) (.cells (argC a) 23))
 have HR := Lib.hid hr; have HS := Lib.hid hs; have HMA := Lib.hid hma; have HC0 := Lib.hid hC0
 have HOK := Lib.hid h
 have h8 := hN.l8
 have hc4 : a.cl ≤ 4096 := by have := hN.s3; unfold Ar.cl; omega
 have HLC := Lib.hid hN.lc
 obtain ⟨FM, hFM⟩ : ∃ F, F = fullM a st := ⟨_, rfl⟩
 rw [← hFM]
 have HFE := Lib.hid hFM
 clear hma hr hs hC0 hFM
 go_enter Try.func7, Try.ntmps7
 unfold Ar.v
 go_upto_region 1 with fail
 rw [show #[Value.int .i64 a.kind, .int .i64 a.mem, .int .i64 a.passes, .int .i64 a.lanes, .int .i64 a.tag] = argC a from rfl]
 obtain ⟨ga, hga⟩ : ∃ g, g = w.heap.size := ⟨_, rfl⟩
 rw [← hga] at HBX ⊢
 clear hga
 generalize w.alloc (.cells (argC a) 23) = u at *
 go_upto_region 3 with first
  | (refine wpList_load_row rfl 23 _ rfl ga rfl 23 (argC a) (0, 0) _ HBX.out hau.out rfl (argC_size a) ?_)
  | (go_at_call 16; refine (HMA.out u).mono ?_; rintro e3 w3 ⟨rfl, hb3⟩)
 replace HBX := Lib.hid (HBX.out.below hb3 HBX.out.lt)
 replace HBA := Lib.hid (bcall HBA.out hb3)
 clear hb3 HMA
 clear u
 have hbe := abegin_any a HOK.out As 64 cs st w3 HS.out (by decide) ((HR.out.below HBA.out).more HBA.out.size)
 have HBE := Lib.hid hbe
 clear hbe
 go_upto_region 6 with first
  | (refine wpList_load_row rfl 23 _ rfl ga rfl 23 (argC a) (0, 0) _ HBX.out hau.out rfl (argC_size a) ?_)
  | (go_at_call 20; refine HBE.out.mono ?_; rintro e4 w4 ⟨gm, gl, cap, gs, rfl, hm4, hp4, hg1, hg2, hg3, hb4⟩)
 have hal := all_any a HOK.out _ gm gl cap gs (startM st) (startM_len st) w4 ⟨hm4, hp4, hg3⟩
 have HAL := Lib.hid hal; have HB4 := Lib.hid hb4; have HLW := Lib.hid hp4.low
 clear hal hm4 hp4 hg1 hg2 hg3 hb4
 go_upto_region 8 with (go_at_call 21; refine HAL.out.mono ?_; rintro e5 w5 ⟨rfl, hm5, hb5⟩)
 have HB5 := Lib.hid (HBA.out.trans ((HB4.out.trans (hb5.toBelow HB4.out.size HLW.out)).mono HBA.out.size))
 have HM := Lib.hid hm5
 have hFM : ∀ l c, (FM l c).length = 1024 := by rw [HFE.out]; exact allM_len a _ (startM_len st) a.passes.toNat
 change Hid (MIn w5 _ a gm gl cap gs (fullM a st)) at HM
 rw [← HFE.out] at HM
 have HFM := Lib.hid hFM
 clear hm5 hb5 HAL HB4 HLW HBE HBX HBA hFM
 generalize w3.heap.size = H3 at *
 clear w4 w3
 have z5 : w5.cell? ⟨gm, 5, none⟩ = some (.slice (some ⟨gl, 0, none⟩) a.ln cap) := HM.out.mem.cell 5
 have lm := HM.out.mem.lt
 go_upto_region 9 with fail
 clear z5 lm
 obtain ⟨H5, hH5⟩ : ∃ b, b = w5.heap.size := ⟨_, rfl⟩
 have HE := Lib.hid (OutsA.empty w5 H5 (rowM a FM))
 obtain ⟨wo, hwo⟩ : ∃ x, x = w5 := ⟨_, rfl⟩
 have HB0 : Hid (Below H5 wo w5) := Lib.hid (by rw [hH5, hwo]; exact b0 w5)
 have HH5 := Lib.hid hH5
 rw [← hwo] at HM HB5 HH5
 clear hwo hH5
 go_loopw [28, 7] (fun ix v7 wr => ∃ (L m : Nat) (A : Option Addr) (cp : Nat) (l : List SV), L ≤ a.ln ∧ ix = .int .i64 L ∧ v7 = .slice A m cp ∧ m = L * a.cl ∧ OutsA wr H5 (rowM a FM) m A cp l ∧ Below H5 wo wr) (fun ix _ _ => a.ln - (intOf ix).toNat)
 case atStart => exact ⟨0, 0, none, 0, [], Nat.zero_le _, rfl, rfl, by rw [Nat.zero_mul], HE.out, HB0.out⟩
 case round =>
  clear HE HB0
  clear w5
  obtain ⟨L, m, A, cp, l, hL, rfl, rfl, hm, ho, hb⟩ := hrel
  have HO := Lib.hid ho; have HB := Lib.hid hb; have HMM := Lib.hid hm
  clear ho hb hm
  by_cases hlt : L < a.ln
  ·have d1 : decide ((L : Int) < (a.ln : Int)) = true := by simp; omega
   have HLL := Lib.hid hlt
   obtain ⟨g, hg⟩ := HM.out.lane hlt
   have HG := Lib.hid hg
   have hmr := HM.out.below HC0.out (by rw [← HH5.out]; exact HB.out)
   have hLi : (L : Int) < (a.ln : Int) := by omega
   have zl : wr.cell? ⟨gl, L, none⟩ = some (.slice (some ⟨g, 0, none⟩) a.cl a.cl) := by
    obtain ⟨g', y, e, -, -, e2, h3, -⟩ := hmr.pl.row.at_ (List.getElem?_eq_some_iff.1 hg).1
    injection e with e; injection e with e
    subst e
    rw [hg] at e2
    rw [Option.some.inj e2]
    exact h3
   have ll := (hmr.pl.row.block_lt _ rfl).2
   clear hmr hg
   go_upto_region 12 with fail
   clear zl ll
   obtain ⟨wp, hwp⟩ : ∃ x, x = wr := ⟨_, rfl⟩
   rw [← hwp] at HO HB ⊢
   clear hwp
   clear wr
   go_loopw [34, 7] (fun ix v7 wr => ∃ (c m : Nat) (A : Option Addr) (cp : Nat) (l : List SV), c ≤ a.cl ∧ ix = .int .i64 c ∧ v7 = .slice A m cp ∧ m = L * a.cl + c ∧ OutsA wr H5 (rowM a FM) m A cp l ∧ Below H5 wo wr) (fun ix _ _ => a.cl - (intOf ix).toNat)
   case atStart => exact ⟨0, m, A, cp, l, Nat.zero_le _, rfl, rfl, by rw [HMM.out, Nat.add_zero], HO.out, HB.out⟩
   case round =>
    clear HO HB HMM
    clear wp
    obtain ⟨c, m, A, cp, l, hc, rfl, rfl, hm, ho, hb⟩ := hrel
    have HO := Lib.hid ho; have HB := Lib.hid hb; have HMM := Lib.hid hm
    clear ho hb hm
    by_cases hlt2 : c < a.cl
    ·have d2 : decide ((c : Int) < (a.cl : Int)) = true := by simp; omega
     have HCC := Lib.hid hlt2
     have hci : (c : Int) < (a.cl : Int) := by omega
     have hm4 : m ≤ 4096 := by
      rw [HMM.out]
      have h1 := at_ltA (C := a.cl) hlt hlt2
      have h2 := HLC.out
      omega
     have hbu := Lib.hid Try.underlying61
     have HMR := Lib.hid (HM.out.below HC0.out (by rw [← HH5.out]; exact HB.out))
     have HFL : Hid ((FM L c).length = 1024) := Lib.hid (HFM.out L c)
     have HRG := Lib.hid ((HMR.out.pl.lane L g HG.out).cells c hlt2)
     have hone := one_made wr
     have hbo := bal (b0 wr) (.cells (Array.replicate 1024 (.int .u8 0)) 61)
     rw [← zero51] at hone hbo
     have HONE := Lib.hid hone; have HBO := Lib.hid hbo
     have hth : (wr.alloc (.cells Try.zeroCells61 61)).there wr.heap.size 0 (bcs (FM L c)).toArray.size := by rw [show (bcs (FM L c)).toArray.size = 1024 by rw [List.size_toArray, bcs_len, HFL.out]]; exact hone.thereC (c := 0) Nat.one_pos
     have HTH := Lib.hid hth
     clear hone hbo hth
     go_upto_region 14 with first
      | (refine wpList_load_mid rfl 61 (.tmp 36) rfl g (c * 1024) rfl (bcs (FM L c)) _ HRG.out hbu.out rfl (bcs_size HFL.out) ?_)
      | (refine wpList_store_mid rfl 61 (.tmp 11) (.tmp 37) rfl wr.heap.size 0 (bcs (FM L c)).toArray rfl rfl HTH.out (bcs_sizeA HFL.out) (all_oneCell_toArray (bcs_ones (FM L c))) ?_)
     have hgr := grown_setCells (bcs (FM L c)) 0 (World.grownBy.refl (wr.alloc (.cells Try.zeroCells61 61)) (some wr.heap.size))
     have HLO := Lib.hid ((HONE.out.put (fun _ => zeroB_len) (c := 0) Nat.one_pos HFL.out).ext (f' := fun _ => FM L c) (fun k hk => by rw [if_pos (show k = 0 by omega)]))
     have HBU : Hid (Below wr.heap.size wr ((wr.alloc (.cells Try.zeroCells61 61)).setCells wr.heap.size 0 (bcs (FM L c)))) := Lib.hid (HBO.out.trans ⟨hgr.os, hgr.tape, hgr.output, by have h1 := hgr.size; have h2 := HBO.out.size; omega, fun q hq => heap_setCells_other wr.heap.size q (bcs (FM L c)) 0 _ (by omega)⟩)
     replace HO := Lib.hid (HO.out.below HBU.out)
     have HBB := Lib.hid (HB.out.trans (HBU.out.mono (by have := HB.out.size; rw [HH5.out]; exact this)))
     clear hgr HTH HONE HBO HRG HMR HB HBU
     generalize hgb : wr.heap.size = gb at *
     clear hgb
     generalize (wr.alloc (.cells Try.zeroCells61 61)).setCells gb 0 (bcs (FM L c)) = u at *
     have hsA := fun o b W => blk_sliceAll b o W
     have HRS := Lib.hid (show RS cB u u.heap.size (some ⟨gb, 0, none⟩) (FM L c) from HLO.out.reads Nat.one_pos (c := 0) Nat.one_pos)
     have HSU := Lib.hid (show H5 ≤ u.heap.size by rw [HH5.out]; exact HBB.out.size)
     go_wp2_with first
      | (at_builtin; refine wpList_appB _ rfl (.const (.slice none 0 0)) (.tmp 39) rfl (OS.nil u u.heap.size 0 rfl) rfl rfl HRS.out rfl HFL.out (by omega) (Nat.le_refl _) ?_; intro A1 c1 w1 ho1 hg1 hA1; rw [List.nil_append] at ho1; (have HB1 := Lib.hid ((b0 u).grown hg1 (Nat.le_refl _) (fun _ h => nomatch h))); (obtain ⟨y, hy⟩ : ∃ y : SV, y = ⟨A1, c1, FM L c⟩ := ⟨_, rfl⟩); (have hyv : cL.enc y = .slice A1 1024 c1 := by rw [hy]; show Value.slice A1 (FM L c).length c1 = _; rw [HFL.out]); have HY := Lib.hid hy; have HYV := Lib.hid hyv; have HO1 := Lib.hid (ho1.mono HSU.out); (replace HO := Lib.hid (HO.out.below HB1.out)); have HA8 := Lib.hid (bal (b0 w1) (.cells #[.slice A1 1024 c1] 24)); have HS1 := Lib.hid (Nat.le_trans HSU.out HB1.out.size); clear hy hyv ho1 hg1 hA1)
      | (refine wpList_appS _ cL_ok rfl (.tmp 38) (.tmp 41) rfl (HO.out.below HA8.out).row rfl HO.out.len (RS.one' (x := y) (by rw [HYV.out]; exact cnew _ _ _ rfl)) rfl rfl (by show (m + 1) * 24 ≤ _; omega) (by omega) (Nat.le_trans HS1.out HA8.out.size) ?_; intro A4 c4 u4 ho4 hg4 hA4)
     have HO2 := Lib.hid ((HO.out.below HA8.out).snoc (y := y) (by rw [HY.out, HMM.out, rowM_at a FM HCC.out]) (cy := c1) (by rw [HY.out]; exact HO1.out.below HA8.out (Nat.le_refl _)) ho4 hg4)
     have HBZ := Lib.hid (below_app (HBB.out.trans ((HB1.out.mono HSU.out).trans (HA8.out.mono HS1.out))) (HO.out.below HA8.out).row hg4 (Nat.le_refl _) (Nat.le_trans HS1.out HA8.out.size))
     exact ⟨⟨c + 1, m + 1, A4, c4, l ++ [y], HCC.out, numF c, rfl, by rw [HMM.out]; omega, HO2.out, HBZ.out⟩, measF a.cl c HCC.out⟩
    ·obtain rfl : c = a.cl := by omega
     have d2 : decide ((a.cl : Int) < (a.cl : Int)) = false := by simp
     go_wp2_with fail
     exact ⟨⟨L + 1, m, A, cp, l, HLL.out, numF L, rfl, by rw [HMM.out, Nat.succ_mul], HO.out, HB.out⟩, measF a.ln L HLL.out⟩
  ·obtain rfl : L = a.ln := by omega
   have d1 : decide ((a.ln : Int) < (a.ln : Int)) = false := by simp
   go_wp2_with fail
   exact bodyPost_ret (results_tmp2 rfl _ _ _) rfl ⟨A, cp, l, by rw [← HMM.out]; rfl, by rw [← HMM.out]; exact HO.out.mono (by rw [HH5.out]; exact HB5.out.size), HB5.out.trans (HB.out.mono (by rw [HH5.out]; exact HB5.out.size))⟩
end Go.Proofs.Ytbghkdhkahkfnaa

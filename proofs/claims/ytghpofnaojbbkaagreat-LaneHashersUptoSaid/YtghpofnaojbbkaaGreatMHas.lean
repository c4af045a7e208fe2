/-
  A hasher of lanes that may be forked: its blocks told apart (read, written); Reset, New, Fork, Taken. Contracts alone; no statement is claimed here.
-/
import Derived.Test.YtghpofnaojbbkaaGreatLWri
import Derived.Test.YtghpofnaojbbkaaGreatNCopy
namespace Go.Proofs.YtghpofnaojbbkaaGreat
open Go.RowKit
attribute [local go_sem] pureUpon Ords.of

theorem But.low {F : List Nat} {w w1 w2 : World} (h : But F w w1) (h2 : Below w.heap.size w1 w2) : But F w w2 :=
 ⟨h2.os.trans h.os, h2.tape.trans h.tape, h2.output.trans h.output, Nat.le_trans h.size h2.size, fun k hk hn => (h2.block k hk).trans (h.block k hk hn)⟩
set_option maxRecDepth 20000 in
set_option maxHeartbeats 4000000 in
theorem resetM_any (P : LP) (he : P.err = 0) (d : Nat) (hd : P.digest = d) (a b c : Sl) (h H : Nat) (A0 : Option Addr) (m0 c0 t0 : Nat) (w : World) (hb : Blk w h 55 (hasC P a b c A0 m0 c0 t0)) (hH : H ≤ h) (hs : SetLow w H P a b c) :
  Calls Tryz.prog 13 #[.pointer (some ⟨h, 0, none⟩)] w fun r w' => ∃ A cap ps F, r = .returned (.int .i64 0) ∧ Blk w' h 55 (hasC P a b c A (lnOf P.big) cap 0) ∧ Nds w' w.heap.size P d (lnOf P.big) A cap ps F P.eng0 ∧ (∀ i, i < lnOf P.big → h ∉ F i) ∧ (∀ x, A = some x → x.block ≠ h) ∧ But [h] w w' := by
 have hno := lnoneH_any P a b c A0 m0 c0 t0 h w hb
 have hha := fun (i : Nat) (hi : i ≤ lnOf P.big) W (h : SetIn W P a b c) => hasher_any P i hi he d hd a b c W h
 have h8 := lnOf_pos P.big
 obtain ⟨n, hn⟩ : ∃ n, n = lnOf P.big := ⟨_, rfl⟩
 have HN := Lib.hid hn
 have HNO := Lib.hid hno; have HHA := Lib.hid hha; have HS := Lib.hid hs; have HLO := Lib.hid hH; have H8 := Lib.hid h8
 have HBK := Lib.hid hb
 have hsu := Lib.hid Tryz.underlying50
 have l0 := hb.lt
 have HSZ := Lib.hid (Nat.le_trans hH (Nat.le_of_lt hb.lt))
 have z8 : w.cell? ⟨h, 8, none⟩ = some (.slice A0 m0 c0) := hb.cell 8
 have z9 : w.cell? ⟨h, 9, none⟩ = some (.int .u64 t0) := hb.cell 9
 have f8 := hb.frozen 8
 have f9 := hb.frozen 9
 rw [← hn]
 clear hno hha hs hH h8 hb hn he hd
 go_enter Tryz.func13, Tryz.ntmps13
 go_upto_region 4 with (go_at_call 20; refine HNO.out.mono ?_; rintro e1 w1 ⟨rfl, rfl⟩)
 have HB2 := Lib.hid ((HBK.out.set_ 9 (.int .u64 0)).set_ 8 (.slice none 0 0))
 have HW2 := Lib.hid (((But.refl [h] w).setCell (p := ⟨h, 9, none⟩) (.inl (by simp)) (.int .u64 0)).setCell (p := ⟨h, 8, none⟩) (.inl (by simp)) (.slice none 0 0))
 change Hid (Blk _ h 55 (hasC P a b c none 0 0 0)) at HB2
 clear z8 z9 f8 f9 l0 HBK
 generalize (w.setCell ⟨h, 9, none⟩ (.int .u64 0)).setCell ⟨h, 8, none⟩ (.slice none 0 0) = w2 at *
 have z0 : w2.cell? ⟨h, 0, none⟩ = some (.int .i64 n) := by rw [HN.out]; exact HB2.out.cell 0
 have l0 := HB2.out.lt
 go_wp2_with fail
 clear z0 l0
 go_loopw [3, 18] (fun i1 ix wr => ∃ (j : Nat) (A : Option Addr) (cap : Nat) (ps : List Nat) (F : Nat → List Nat), j ≤ n ∧ ix = .int .i64 j ∧ Blk wr h 55 (hasC P a b c A j cap 0) ∧ Nds wr w.heap.size P d j A cap ps F P.eng0 ∧ (∀ i, i < j → h ∉ F i) ∧ (∀ x, A = some x → x.block ≠ h) ∧ But [h] w wr) (fun _ ix _ => n - (intOf ix).toNat)
 case atStart => exact ⟨0, none, 0, [], fun _ => [], Nat.zero_le _, rfl, HB2.out, Nds.empty _ _ _ _ _, fun i hi => absurd hi (Nat.not_lt_zero i), fun _ h => (nomatch h), HW2.out⟩
 case round =>
  clear HB2 HW2
  obtain ⟨j, A, cap, ps, F, hj, rfl, hbk, hnd, hfh, hah, hbw⟩ := hrel
  have HBK := Lib.hid hbk; have HND := Lib.hid hnd; have HFH := Lib.hid hfh; have HAH := Lib.hid hah; have HBW := Lib.hid hbw
  clear hbk hnd hfh hah hbw
  by_cases hlt : j < n
  ·have HJ := Lib.hid hlt
   have d1 : decide ((j : Int) < (n : Int)) = true := by simp; omega
   have hj8 : j ≤ 8 := by have := H8.out; rw [← HN.out] at this; omega
   go_upto_region 7 with fail
   clear hj hlt
   have HHW := Lib.hid HBW.out.size
   obtain ⟨u, hu⟩ : ∃ u, u = wr := ⟨_, rfl⟩
   have HWU : Hid (Below wr.heap.size wr u) := by rw [hu]; exact b0 wr
   rw [← hu]
   rw [← hu] at HBK HND
   have hgl := HBK.out.lt
   have z8 : u.cell? ⟨h, 8, none⟩ = some (.slice A j cap) := HBK.out.cell 8
   clear hu
   have HSL := Lib.hid (fun (W : World) (hW : Below wr.heap.size wr W) => (HS.out.below ((HBW.out.toBelow (B := H) HSZ.out (fun k hk => by rw [List.mem_singleton] at hk; rw [hk]; exact HLO.out)).trans (hW.mono (Nat.le_trans HSZ.out HHW.out)))).in_ (Nat.le_trans HSZ.out (Nat.le_trans HHW.out hW.size)))
   refine wp_region_ords (fun w' => w'.rangeAt h 0 (setC (lnOf P.big) (blOf P.big) (bOf P.big) (kOf P.big) P.digest a b c).toList) (fun _ n h => h) (Ords.of [(0, 0), (0, 1), (0, 2), (0, 3), (0, 5), (0, 6), (0, 7), (0, 8), (0, 9)] (.two 4 10 (Ords.of [(2, 10), (2, 11), (2, 12), (0, 13), (0, 14), (2, 15)] .fin) (Ords.of [] (.two 4 11 (Ords.of [(2, 11), (2, 12), (0, 13), (0, 14), (2, 15)] .fin) (Ords.of [(2, 4), (2, 12), (0, 13), (0, 14), (2, 15)] .fin))))) (by kernel_rfl) rfl (by kernel_rfl) (by kernel_rfl) (fun c a d v w h => by cases d <;> exact h) (HBK.out.range 0 8) ?_
   iterate 7 (refine ords_pure rfl (fun K hK => ?_); go_simp; refine hK _ ?_; clear hK K)
   refine ords_held (v := Value.agg ((setC (lnOf P.big) (blOf P.big) (bOf P.big) (kOf P.big) P.digest a b c).toList).toArray) rfl rfl (fun w9 hS => pure_load_mid 50 (.tmp 28) rfl h 0 rfl _ _ (hS) hsu.out rfl (setC_size _ _ _ _ _ _ _ _)) ?_; go_simp
   refine ords_pure rfl (fun K hK => ?_); go_simp; refine hK _ ?_; clear hK K
   refine ords_two rfl rfl (fun n1 => ?_) (fun n1 => ?_)
   focus
    (try clear z8)
    replace HWU := Lib.hid (bdr HWU.out n1); replace HBK := Lib.hid (HBK.out.drewN n1); replace HND := Lib.hid (HND.out.drewN n1); (try replace HQ := Lib.hid (HQ.out.drewN n1)); (try replace HC1 := Lib.hid (show (u.drewN n1).cell? ⟨gb, 0, none⟩ = some (cP.enc q) from HC1.out)); generalize u.drewN n1 = u at *
    have z8 : u.cell? ⟨h, 8, none⟩ = some (.slice A j cap) := HBK.out.cell 8
    have l8 := HBK.out.lt
    go_wp2_with fail
    clear z8 l8
    refine ⟨HBK.out.range 0 8, ?_⟩
    go_simp
    refine ords_loud rfl (fun n2 => ?_)
    (try clear z8)
    replace HWU := Lib.hid (bdr HWU.out n2); replace HBK := Lib.hid (HBK.out.drewN n2); replace HND := Lib.hid (HND.out.drewN n2); (try replace HQ := Lib.hid (HQ.out.drewN n2)); (try replace HC1 := Lib.hid (show (u.drewN n2).cell? ⟨gb, 0, none⟩ = some (cP.enc q) from HC1.out)); generalize u.drewN n2 = u at *
    go_wp2_with (go_at_call 25; refine (HHA.out j (by rw [← HN.out]; exact Nat.le_of_lt HJ.out) u (HSL.out u HWU.out)).mono ?_; rintro e3 u3 ⟨q, G, rfl, hN, hG, hb3⟩)
    have HG := Lib.hid (fun k hk => Nat.le_trans HWU.out.size (hG k hk))
    have HGD := Lib.hid (fun (i : Nat) (hi : i < j) (k : Nat) (hk : k ∈ G) (hm : k ∈ F i) => by obtain ⟨p, r, -, h2⟩ := HND.out.node i hi; exact Nat.lt_irrefl _ (Nat.lt_of_lt_of_le (h2.lt k hm) (hG k hk)))
    have HGA := Lib.hid (fun (x : Addr) (hx : A = some x) (hm : x.block ∈ G) => Nat.lt_irrefl _ (Nat.lt_of_lt_of_le (HND.out.row.block_lt x hx).2 (hG _ hm)))
    have HGH := Lib.hid (fun hm : h ∈ G => Nat.lt_irrefl _ (Nat.lt_of_lt_of_le HBK.out.lt (hG h hm)))
    have HQ := Lib.hid hN
    replace HND := Lib.hid (HND.out.below hb3); replace HBK := Lib.hid (HBK.out.below hb3 HBK.out.lt); replace HWU := Lib.hid (bcall HWU.out hb3)
    clear hb3 hN hG
    obtain ⟨u, hu⟩ : ∃ u, u = u3 := ⟨_, rfl⟩
    subst hu
    refine ⟨HBK.out.range 0 8, ?_⟩
    go_simp
    refine ords_loud rfl (fun n3 => ?_)
    replace HWU := Lib.hid (bdr HWU.out n3); replace HBK := Lib.hid (HBK.out.drewN n3); replace HND := Lib.hid (HND.out.drewN n3); (try replace HQ := Lib.hid (HQ.out.drewN n3)); (try replace HC1 := Lib.hid (show (u.drewN n3).cell? ⟨gb, 0, none⟩ = some (cP.enc q) from HC1.out)); generalize u.drewN n3 = u at *
    go_wp2_with fail
    have hb4 := bal (b0 u) (.cells #[.pointer (some ⟨q, 0, none⟩)] 64)
    have HC1 : Hid ((u.alloc (.cells #[.pointer (some ⟨q, 0, none⟩)] 64)).cell? ⟨u.heap.size, 0, none⟩ = some (cP.enc q)) := cnew _ _ _ rfl
    replace HQ := Lib.hid (HQ.out.below hb4)
    replace HND := Lib.hid (HND.out.below hb4); replace HBK := Lib.hid (HBK.out.below hb4 HBK.out.lt); replace HWU := Lib.hid (bcall HWU.out hb4)
    clear hb4
    obtain ⟨gb, hgb⟩ : ∃ g, g = u.heap.size := ⟨_, rfl⟩
    rw [← hgb] at HC1 ⊢
    clear hgb
    generalize u.alloc (.cells #[.pointer (some ⟨q, 0, none⟩)] 64) = u at *
    refine ⟨HBK.out.range 0 8, ?_⟩
    go_simp
    refine ords_loud rfl (fun n4 => ?_)
    replace HWU := Lib.hid (bdr HWU.out n4); replace HBK := Lib.hid (HBK.out.drewN n4); replace HND := Lib.hid (HND.out.drewN n4); (try replace HQ := Lib.hid (HQ.out.drewN n4)); (try replace HC1 := Lib.hid (show (u.drewN n4).cell? ⟨gb, 0, none⟩ = some (cP.enc q) from HC1.out)); generalize u.drewN n4 = u at *
    have HUS := Lib.hid (Nat.le_trans HHW.out HWU.out.size)
    (refine wpList_appS _ cP_ok rfl (.tmp 25) (.tmp 32) rfl HND.out.row rfl HND.out.len (RS.one' HC1.out) rfl rfl (by show (j + 1) * 8 ≤ _; omega) (by omega) HUS.out ?_; intro A' cap' u4 ho hg hA)
    have HN2 := Lib.hid (HND.out.snoc HQ.out (fun k hk => Nat.le_trans HHW.out (HG.out k hk)) HGD.out HGA.out ho hg hA)
    have HB4 := Lib.hid (HBK.out.grown hg (fun e => by cases hh : A with | none => rw [hh] at e; cases e | some x => rw [hh] at e; have e2 : h = x.block := Option.some.inj e; exact HAH.out x hh e2.symm))
    have HA4 : Hid (∀ x : Addr, A' = some x → x.block ≠ h) := (fun x hx e2 => by
     rcases hA with e | e
     ·rw [hx] at e
      cases hh : A with
      | none => rw [hh] at e; cases e
      | some y => rw [hh] at e; have e3 : x.block = y.block := Option.some.inj e; exact HAH.out y hh (by rw [← e3]; exact e2)
     ·rw [hx] at e
      have e3 : x.block = u.heap.size := Option.some.inj e
      have e4 := HBK.out.lt
      omega)
    have HW4 := Lib.hid (HBW.out.low (below_app (HWU.out.mono HHW.out) HND.out.row hg (Nat.le_refl _) HUS.out))
    have HF4 := Lib.hid (fun (i : Nat) (hi : i < j + 1) => (show h ∉ (if i = j then G else F i) by
     by_cases e : i = j
     ·rw [if_pos e]; exact HGH.out
     ·rw [if_neg e]; exact HFH.out i (by omega)))
    clear HC1 HUS ho hg hA HND HBK HWU HQ HG HGD HGA HGH
    refine ⟨HB4.out.range 0 8, ?_⟩
    go_simp
    iterate 2 (refine ords_pure rfl (fun K hK => ?_); go_simp; refine hK _ ?_; clear hK K)
    refine ords_loud rfl (fun n5 => ?_)
    replace HN2 := Lib.hid (HN2.out.drewN n5); replace HB4 := Lib.hid (HB4.out.drewN n5); replace HW4 := Lib.hid (HW4.out.drewN n5); generalize u4.drewN n5 = u4 at *
    have z8 : u4.cell? ⟨h, 8, none⟩ = some (.slice A j cap) := HB4.out.cell 8
    have f8 := HB4.out.frozen 8
    have l8 := HB4.out.lt
    go_wp2_with fail
    clear z8 f8 l8
    replace HB4 := Lib.hid (HB4.out.set_ 8 (.slice A' (j + 1) cap'))
    replace HN2 := Lib.hid (HN2.out.setFar (p := ⟨h, 8, none⟩) HF4.out HA4.out (.slice A' (j + 1) cap'))
    replace HW4 := Lib.hid (HW4.out.setCell (p := ⟨h, 8, none⟩) (.inl (by simp)) (.slice A' (j + 1) cap'))
    generalize u4.setCell ⟨h, 8, none⟩ (.slice A' (j + 1) cap') = u4 at *
    change Hid (Blk u4 h 55 (hasC P a b c A' (j + 1) cap' 0)) at HB4
    refine ⟨HB4.out.range 0 8, ?_⟩
    go_simp
    refine ords_end (fun n6 => ?_)
    replace HN2 := Lib.hid (HN2.out.drewN n6); replace HB4 := Lib.hid (HB4.out.drewN n6); replace HW4 := Lib.hid (HW4.out.drewN n6); generalize u4.drewN n6 = u4 at *
   rotate_left 1
   focus
    (try clear z8)
    replace HWU := Lib.hid (bdr HWU.out n1); replace HBK := Lib.hid (HBK.out.drewN n1); replace HND := Lib.hid (HND.out.drewN n1); (try replace HQ := Lib.hid (HQ.out.drewN n1)); (try replace HC1 := Lib.hid (show (u.drewN n1).cell? ⟨gb, 0, none⟩ = some (cP.enc q) from HC1.out)); generalize u.drewN n1 = u at *
    go_wp2_with (go_at_call 25; refine (HHA.out j (by rw [← HN.out]; exact Nat.le_of_lt HJ.out) u (HSL.out u HWU.out)).mono ?_; rintro e3 u3 ⟨q, G, rfl, hN, hG, hb3⟩)
    have HG := Lib.hid (fun k hk => Nat.le_trans HWU.out.size (hG k hk))
    have HGD := Lib.hid (fun (i : Nat) (hi : i < j) (k : Nat) (hk : k ∈ G) (hm : k ∈ F i) => by obtain ⟨p, r, -, h2⟩ := HND.out.node i hi; exact Nat.lt_irrefl _ (Nat.lt_of_lt_of_le (h2.lt k hm) (hG k hk)))
    have HGA := Lib.hid (fun (x : Addr) (hx : A = some x) (hm : x.block ∈ G) => Nat.lt_irrefl _ (Nat.lt_of_lt_of_le (HND.out.row.block_lt x hx).2 (hG _ hm)))
    have HGH := Lib.hid (fun hm : h ∈ G => Nat.lt_irrefl _ (Nat.lt_of_lt_of_le HBK.out.lt (hG h hm)))
    have HQ := Lib.hid hN
    replace HND := Lib.hid (HND.out.below hb3); replace HBK := Lib.hid (HBK.out.below hb3 HBK.out.lt); replace HWU := Lib.hid (bcall HWU.out hb3)
    clear hb3 hN hG
    obtain ⟨u, hu⟩ : ∃ u, u = u3 := ⟨_, rfl⟩
    subst hu
    refine ⟨HBK.out.range 0 8, ?_⟩
    go_simp
    refine ords_two rfl rfl (fun n2 => ?_) (fun n2 => ?_)
    focus
     (try clear z8)
     replace HWU := Lib.hid (bdr HWU.out n2); replace HBK := Lib.hid (HBK.out.drewN n2); replace HND := Lib.hid (HND.out.drewN n2); (try replace HQ := Lib.hid (HQ.out.drewN n2)); (try replace HC1 := Lib.hid (show (u.drewN n2).cell? ⟨gb, 0, none⟩ = some (cP.enc q) from HC1.out)); generalize u.drewN n2 = u at *
     have z8 : u.cell? ⟨h, 8, none⟩ = some (.slice A j cap) := HBK.out.cell 8
     have l8 := HBK.out.lt
     go_wp2_with fail
     clear z8 l8
     refine ⟨HBK.out.range 0 8, ?_⟩
     go_simp
     refine ords_loud rfl (fun n3 => ?_)
     replace HWU := Lib.hid (bdr HWU.out n3); replace HBK := Lib.hid (HBK.out.drewN n3); replace HND := Lib.hid (HND.out.drewN n3); (try replace HQ := Lib.hid (HQ.out.drewN n3)); (try replace HC1 := Lib.hid (show (u.drewN n3).cell? ⟨gb, 0, none⟩ = some (cP.enc q) from HC1.out)); generalize u.drewN n3 = u at *
     go_wp2_with fail
     have hb4 := bal (b0 u) (.cells #[.pointer (some ⟨q, 0, none⟩)] 64)
     have HC1 : Hid ((u.alloc (.cells #[.pointer (some ⟨q, 0, none⟩)] 64)).cell? ⟨u.heap.size, 0, none⟩ = some (cP.enc q)) := cnew _ _ _ rfl
     replace HQ := Lib.hid (HQ.out.below hb4)
     replace HND := Lib.hid (HND.out.below hb4); replace HBK := Lib.hid (HBK.out.below hb4 HBK.out.lt); replace HWU := Lib.hid (bcall HWU.out hb4)
     clear hb4
     obtain ⟨gb, hgb⟩ : ∃ g, g = u.heap.size := ⟨_, rfl⟩
     rw [← hgb] at HC1 ⊢
     clear hgb
     generalize u.alloc (.cells #[.pointer (some ⟨q, 0, none⟩)] 64) = u at *
     refine ⟨HBK.out.range 0 8, ?_⟩
     go_simp
     refine ords_loud rfl (fun n4 => ?_)
     replace HWU := Lib.hid (bdr HWU.out n4); replace HBK := Lib.hid (HBK.out.drewN n4); replace HND := Lib.hid (HND.out.drewN n4); (try replace HQ := Lib.hid (HQ.out.drewN n4)); (try replace HC1 := Lib.hid (show (u.drewN n4).cell? ⟨gb, 0, none⟩ = some (cP.enc q) from HC1.out)); generalize u.drewN n4 = u at *
     have HUS := Lib.hid (Nat.le_trans HHW.out HWU.out.size)
     (refine wpList_appS _ cP_ok rfl (.tmp 25) (.tmp 32) rfl HND.out.row rfl HND.out.len (RS.one' HC1.out) rfl rfl (by show (j + 1) * 8 ≤ _; omega) (by omega) HUS.out ?_; intro A' cap' u4 ho hg hA)
     have HN2 := Lib.hid (HND.out.snoc HQ.out (fun k hk => Nat.le_trans HHW.out (HG.out k hk)) HGD.out HGA.out ho hg hA)
     have HB4 := Lib.hid (HBK.out.grown hg (fun e => by cases hh : A with | none => rw [hh] at e; cases e | some x => rw [hh] at e; have e2 : h = x.block := Option.some.inj e; exact HAH.out x hh e2.symm))
     have HA4 : Hid (∀ x : Addr, A' = some x → x.block ≠ h) := (fun x hx e2 => by
      rcases hA with e | e
      ·rw [hx] at e
       cases hh : A with
       | none => rw [hh] at e; cases e
       | some y => rw [hh] at e; have e3 : x.block = y.block := Option.some.inj e; exact HAH.out y hh (by rw [← e3]; exact e2)
      ·rw [hx] at e
       have e3 : x.block = u.heap.size := Option.some.inj e
       have e4 := HBK.out.lt
       omega)
     have HW4 := Lib.hid (HBW.out.low (below_app (HWU.out.mono HHW.out) HND.out.row hg (Nat.le_refl _) HUS.out))
     have HF4 := Lib.hid (fun (i : Nat) (hi : i < j + 1) => (show h ∉ (if i = j then G else F i) by
      by_cases e : i = j
      ·rw [if_pos e]; exact HGH.out
      ·rw [if_neg e]; exact HFH.out i (by omega)))
     clear HC1 HUS ho hg hA HND HBK HWU HQ HG HGD HGA HGH
     refine ⟨HB4.out.range 0 8, ?_⟩
     go_simp
     iterate 2 (refine ords_pure rfl (fun K hK => ?_); go_simp; refine hK _ ?_; clear hK K)
     refine ords_loud rfl (fun n5 => ?_)
     replace HN2 := Lib.hid (HN2.out.drewN n5); replace HB4 := Lib.hid (HB4.out.drewN n5); replace HW4 := Lib.hid (HW4.out.drewN n5); generalize u4.drewN n5 = u4 at *
     have z8 : u4.cell? ⟨h, 8, none⟩ = some (.slice A j cap) := HB4.out.cell 8
     have f8 := HB4.out.frozen 8
     have l8 := HB4.out.lt
     go_wp2_with fail
     clear z8 f8 l8
     replace HB4 := Lib.hid (HB4.out.set_ 8 (.slice A' (j + 1) cap'))
     replace HN2 := Lib.hid (HN2.out.setFar (p := ⟨h, 8, none⟩) HF4.out HA4.out (.slice A' (j + 1) cap'))
     replace HW4 := Lib.hid (HW4.out.setCell (p := ⟨h, 8, none⟩) (.inl (by simp)) (.slice A' (j + 1) cap'))
     generalize u4.setCell ⟨h, 8, none⟩ (.slice A' (j + 1) cap') = u4 at *
     change Hid (Blk u4 h 55 (hasC P a b c A' (j + 1) cap' 0)) at HB4
     refine ⟨HB4.out.range 0 8, ?_⟩
     go_simp
     refine ords_end (fun n6 => ?_)
     replace HN2 := Lib.hid (HN2.out.drewN n6); replace HB4 := Lib.hid (HB4.out.drewN n6); replace HW4 := Lib.hid (HW4.out.drewN n6); generalize u4.drewN n6 = u4 at *
    rotate_left 1
    focus
     replace HWU := Lib.hid (bdr HWU.out n2); replace HBK := Lib.hid (HBK.out.drewN n2); replace HND := Lib.hid (HND.out.drewN n2); (try replace HQ := Lib.hid (HQ.out.drewN n2)); (try replace HC1 := Lib.hid (show (u.drewN n2).cell? ⟨gb, 0, none⟩ = some (cP.enc q) from HC1.out)); generalize u.drewN n2 = u at *
     go_wp2_with fail
     have hb4 := bal (b0 u) (.cells #[.pointer (some ⟨q, 0, none⟩)] 64)
     have HC1 : Hid ((u.alloc (.cells #[.pointer (some ⟨q, 0, none⟩)] 64)).cell? ⟨u.heap.size, 0, none⟩ = some (cP.enc q)) := cnew _ _ _ rfl
     replace HQ := Lib.hid (HQ.out.below hb4)
     replace HND := Lib.hid (HND.out.below hb4); replace HBK := Lib.hid (HBK.out.below hb4 HBK.out.lt); replace HWU := Lib.hid (bcall HWU.out hb4)
     clear hb4
     obtain ⟨gb, hgb⟩ : ∃ g, g = u.heap.size := ⟨_, rfl⟩
     rw [← hgb] at HC1 ⊢
     clear hgb
     generalize u.alloc (.cells #[.pointer (some ⟨q, 0, none⟩)] 64) = u at *
     refine ⟨HBK.out.range 0 8, ?_⟩
     go_simp
     refine ords_loud rfl (fun n3 => ?_)
     (try clear z8)
     replace HWU := Lib.hid (bdr HWU.out n3); replace HBK := Lib.hid (HBK.out.drewN n3); replace HND := Lib.hid (HND.out.drewN n3); (try replace HQ := Lib.hid (HQ.out.drewN n3)); (try replace HC1 := Lib.hid (show (u.drewN n3).cell? ⟨gb, 0, none⟩ = some (cP.enc q) from HC1.out)); generalize u.drewN n3 = u at *
     have z8 : u.cell? ⟨h, 8, none⟩ = some (.slice A j cap) := HBK.out.cell 8
     have l8 := HBK.out.lt
     go_wp2_with fail
     clear z8 l8
     refine ⟨HBK.out.range 0 8, ?_⟩
     go_simp
     refine ords_loud rfl (fun n4 => ?_)
     replace HWU := Lib.hid (bdr HWU.out n4); replace HBK := Lib.hid (HBK.out.drewN n4); replace HND := Lib.hid (HND.out.drewN n4); (try replace HQ := Lib.hid (HQ.out.drewN n4)); (try replace HC1 := Lib.hid (show (u.drewN n4).cell? ⟨gb, 0, none⟩ = some (cP.enc q) from HC1.out)); generalize u.drewN n4 = u at *
     have HUS := Lib.hid (Nat.le_trans HHW.out HWU.out.size)
     (refine wpList_appS _ cP_ok rfl (.tmp 25) (.tmp 32) rfl HND.out.row rfl HND.out.len (RS.one' HC1.out) rfl rfl (by show (j + 1) * 8 ≤ _; omega) (by omega) HUS.out ?_; intro A' cap' u4 ho hg hA)
     have HN2 := Lib.hid (HND.out.snoc HQ.out (fun k hk => Nat.le_trans HHW.out (HG.out k hk)) HGD.out HGA.out ho hg hA)
     have HB4 := Lib.hid (HBK.out.grown hg (fun e => by cases hh : A with | none => rw [hh] at e; cases e | some x => rw [hh] at e; have e2 : h = x.block := Option.some.inj e; exact HAH.out x hh e2.symm))
     have HA4 : Hid (∀ x : Addr, A' = some x → x.block ≠ h) := (fun x hx e2 => by
      rcases hA with e | e
      ·rw [hx] at e
       cases hh : A with
       | none => rw [hh] at e; cases e
       | some y => rw [hh] at e; have e3 : x.block = y.block := Option.some.inj e; exact HAH.out y hh (by rw [← e3]; exact e2)
      ·rw [hx] at e
       have e3 : x.block = u.heap.size := Option.some.inj e
       have e4 := HBK.out.lt
       omega)
     have HW4 := Lib.hid (HBW.out.low (below_app (HWU.out.mono HHW.out) HND.out.row hg (Nat.le_refl _) HUS.out))
     have HF4 := Lib.hid (fun (i : Nat) (hi : i < j + 1) => (show h ∉ (if i = j then G else F i) by
      by_cases e : i = j
      ·rw [if_pos e]; exact HGH.out
      ·rw [if_neg e]; exact HFH.out i (by omega)))
     clear HC1 HUS ho hg hA HND HBK HWU HQ HG HGD HGA HGH
     refine ⟨HB4.out.range 0 8, ?_⟩
     go_simp
     iterate 2 (refine ords_pure rfl (fun K hK => ?_); go_simp; refine hK _ ?_; clear hK K)
     refine ords_loud rfl (fun n5 => ?_)
     replace HN2 := Lib.hid (HN2.out.drewN n5); replace HB4 := Lib.hid (HB4.out.drewN n5); replace HW4 := Lib.hid (HW4.out.drewN n5); generalize u4.drewN n5 = u4 at *
     have z8 : u4.cell? ⟨h, 8, none⟩ = some (.slice A j cap) := HB4.out.cell 8
     have f8 := HB4.out.frozen 8
     have l8 := HB4.out.lt
     go_wp2_with fail
     clear z8 f8 l8
     replace HB4 := Lib.hid (HB4.out.set_ 8 (.slice A' (j + 1) cap'))
     replace HN2 := Lib.hid (HN2.out.setFar (p := ⟨h, 8, none⟩) HF4.out HA4.out (.slice A' (j + 1) cap'))
     replace HW4 := Lib.hid (HW4.out.setCell (p := ⟨h, 8, none⟩) (.inl (by simp)) (.slice A' (j + 1) cap'))
     generalize u4.setCell ⟨h, 8, none⟩ (.slice A' (j + 1) cap') = u4 at *
     change Hid (Blk u4 h 55 (hasC P a b c A' (j + 1) cap' 0)) at HB4
     refine ⟨HB4.out.range 0 8, ?_⟩
     go_simp
     refine ords_end (fun n6 => ?_)
     replace HN2 := Lib.hid (HN2.out.drewN n6); replace HB4 := Lib.hid (HB4.out.drewN n6); replace HW4 := Lib.hid (HW4.out.drewN n6); generalize u4.drewN n6 = u4 at *
   all_goals
    go_wp2_with fail
    exact ⟨⟨j + 1, A', cap', ps ++ [q], fun i => if i = j then G else F i, HJ.out, num9 j, HB4.out, HN2.out, HF4.out, HA4.out, HW4.out⟩, measH n j HJ.out⟩
  ·obtain rfl : j = n := by omega
   have d1 : decide ((j : Int) < (j : Int)) = false := by simp
   go_wp2_with fail
   exact bodyPost_ret (results_tmp rfl _ _ _) rfl ⟨A, cap, ps, F, rfl, HBK.out, HND.out, HFH.out, HAH.out, HBW.out⟩
structure Nms (w : World) (H : Nat) (P : LP) (d m : Nat) (A : Option Addr) (cap : Nat) (ps : List Nat) (R F : Nat → List Nat) (e : Nat → Eng) : Prop where
  row : OS cP w H A cap ps
  len : ps.length = m
  node : ∀ i, i < m → ∃ p wr, ps[i]? = some p ∧ NdS w p P.big d (P.blk i) (P.nkey i) (P.nlast i) wr (e i) (R i) (F i)
  low : ∀ i, i < m → ∀ k, k ∈ F i ∨ k ∈ R i → H ≤ k
  far : ∀ i j, i < m → j < m → i ≠ j → ∀ k, k ∈ F i → k ∉ F j
  rf : ∀ i j, i < m → j < m → ∀ k, k ∈ R i → k ∉ F j
  rr : ∀ i j, i < m → j < m → i ≠ j → ∀ k, k ∈ R i → k ∉ R j
  fa : ∀ i, i < m → ∀ a, A = some a → a.block ∉ F i ∧ a.block ∉ R i
section
variable {w w' : World} {H : Nat} {P : LP} {d m : Nat} {A : Option Addr} {cap : Nat} {ps : List Nat} {R F : Nat → List Nat} {e : Nat → Eng}
theorem Nms.below (h : Nms w H P d m A cap ps R F e) (hb : Below w.heap.size w w') : Nms w' H P d m A cap ps R F e :=
 ⟨h.row.below hb (Nat.le_refl _), h.len, fun i hi => by obtain ⟨p, wr, h1, h2⟩ := h.node i hi; exact ⟨p, wr, h1, h2.below hb⟩, h.low, h.far, h.rf, h.rr, h.fa⟩
theorem Nms.drewN (h : Nms w H P d m A cap ps R F e) (k : Nat) : Nms (w.drewN k) H P d m A cap ps R F e := h.below (bdr (b0 w) k)
theorem Nms.but {G : List Nat} (h : Nms w H P d m A cap ps R F e) (hb : But G w w') (hg : ∀ i, i < m → ∀ k, k ∈ F i ∨ k ∈ R i → k ∉ G) (hA : ∀ a, A = some a → a.block ∉ G) : Nms w' H P d m A cap ps R F e :=
 ⟨h.row.but hb hA, h.len, fun i hi => by obtain ⟨p, wr, h1, h2⟩ := h.node i hi; exact ⟨p, wr, h1, h2.but hb (fun k hk => hg i hi k (.inr hk)) (fun k hk => hg i hi k (.inl hk))⟩, h.low, h.far, h.rf, h.rr, h.fa⟩
theorem Nms.mono (h : Nms w H P d m A cap ps R F e) {B : Nat} (hB : B ≤ H) : Nms w B P d m A cap ps R F e :=
 ⟨h.row.mono hB, h.len, h.node, fun i hi k hk => Nat.le_trans hB (h.low i hi k hk), h.far, h.rf, h.rr, h.fa⟩
theorem Nms.empty (w : World) (H : Nat) (P : LP) (d : Nat) (R : Nat → List Nat) (e : Nat → Eng) : Nms w H P d 0 none 0 [] R (fun _ => []) e :=
 ⟨OS.nil w H 0 rfl, rfl, fun i h => absurd h (Nat.not_lt_zero i), fun i h => absurd h (Nat.not_lt_zero i), fun i _ h => absurd h (Nat.not_lt_zero i), fun i _ h => absurd h (Nat.not_lt_zero i), fun i _ h => absurd h (Nat.not_lt_zero i), fun i h => absurd h (Nat.not_lt_zero i)⟩
theorem Nms.snoc (h : Nms w H P d m A cap ps R F e) {q : Nat} {G : List Nat} {wr : UInt64} (hN : NdS w q P.big d (P.blk m) (P.nkey m) (P.nlast m) wr (e m) (R m) G) (hG : ∀ k, k ∈ G ∨ k ∈ R m → H ≤ k) (hd : ∀ i, i < m → ∀ k, k ∈ G → k ∉ F i ∧ k ∉ R i) (hr : ∀ i, i < m → ∀ k, k ∈ R m → k ∉ F i ∧ k ∉ R i) (hA : ∀ a, A = some a → a.block ∉ G ∧ a.block ∉ R m)
  {A' : Option Addr} {cap' : Nat} (ho : OS cP w' H A' cap' (ps ++ [q])) (hg : w.grownBy w' (A.map (·.block))) (hA' : A'.map (·.block) = A.map (·.block) ∨ A'.map (·.block) = some w.heap.size) : Nms w' H P d (m + 1) A' cap' (ps ++ [q]) R (fun i => if i = m then G else F i) e := by
 have kp : ∀ (L : List Nat), (∀ a, A = some a → a.block ∉ L) → ∀ k, k ∈ L → k < w.heap.size → w'.heap[k]? = w.heap[k]? := fun L hL k hk hlt => hg.block k hlt (fun e => by
  cases hh : A with
  | none => rw [hh] at e; cases e
  | some a => rw [hh] at e; have e2 : a.block = k := Option.some.inj e.symm; exact hL a hh (by rw [e2]; exact hk))
 have fr : ∀ (L : List Nat), (∀ a, A = some a → a.block ∉ L) → (∀ k, k ∈ L → k < w.heap.size) → ∀ a, A' = some a → a.block ∉ L := fun L hL hl a ha hm => by
  rcases hA' with e | e
  ·rw [ha] at e
   cases hh : A with
   | none => rw [hh] at e; cases e
   | some b => rw [hh] at e; have e2 : a.block = b.block := Option.some.inj e; exact hL b hh (by rw [← e2]; exact hm)
  ·rw [ha] at e
   have e2 : a.block = w.heap.size := Option.some.inj e
   have := hl _ hm
   omega
 refine ⟨ho, by rw [List.length_append, h.len]; rfl, fun i hi => ?_, fun i hi k hk => ?_, fun i j hi hj hij k hk hk2 => ?_, fun i j hi hj k hk hk2 => ?_, fun i j hi hj hij k hk hk2 => ?_, fun i hi a ha => ?_⟩
 ·by_cases hm : i = m
  ·subst hm
   refine ⟨q, wr, by rw [List.getElem?_append_right (by rw [h.len]; exact Nat.le_refl _), h.len, Nat.sub_self]; rfl, ?_⟩
   show NdS _ _ _ _ _ _ _ _ _ _ (if i = i then G else F i)
   rw [if_pos rfl]
   exact hN.of_ (fun k hk => kp (R i) (fun a ha => (hA a ha).2) k hk (hN.ltR k hk)) (fun k hk => kp G (fun a ha => (hA a ha).1) k hk (hN.lt k hk))
  ·obtain ⟨p, wr, h1, h2⟩ := h.node i (by omega)
   refine ⟨p, wr, by rw [List.getElem?_append_left (by rw [h.len]; omega)]; exact h1, ?_⟩
   show NdS _ _ _ _ _ _ _ _ _ _ (if i = m then G else F i)
   rw [if_neg hm]
   exact h2.of_ (fun k hk => kp (R i) (fun a ha => (h.fa i (by omega) a ha).2) k hk (h2.ltR k hk)) (fun k hk => kp (F i) (fun a ha => (h.fa i (by omega) a ha).1) k hk (h2.lt k hk))
 ·change k ∈ (if i = m then G else F i) ∨ _ at hk
  by_cases hm : i = m
  ·rw [if_pos hm] at hk; rw [hm] at hk; exact hG k hk
  ·rw [if_neg hm] at hk; exact h.low i (by omega) k hk
 ·change k ∈ (if i = m then G else F i) at hk
  change k ∈ (if j = m then G else F j) at hk2
  by_cases hm : i = m
  ·rw [if_pos hm] at hk
   rw [if_neg (by omega)] at hk2
   exact (hd j (by omega) k hk).1 hk2
  ·rw [if_neg hm] at hk
   by_cases hm2 : j = m
   ·rw [if_pos hm2] at hk2
    exact (hd i (by omega) k hk2).1 hk
   ·rw [if_neg hm2] at hk2
    exact h.far i j (by omega) (by omega) hij k hk hk2
 ·change k ∈ (if j = m then G else F j) at hk2
  by_cases hm2 : j = m
  ·rw [if_pos hm2] at hk2
   by_cases hm : i = m
   ·rw [hm] at hk; exact hN.apart k hk hk2
   ·exact (hd i (by omega) k hk2).2 hk
  ·rw [if_neg hm2] at hk2
   by_cases hm : i = m
   ·rw [hm] at hk; exact (hr j (by omega) k hk).1 hk2
   ·exact h.rf i j (by omega) (by omega) k hk hk2
 ·by_cases hm : i = m
  ·rw [hm] at hk; exact (hr j (by omega) k hk).2 hk2
  ·by_cases hm2 : j = m
   ·rw [hm2] at hk2; exact (hr i (by omega) k hk2).2 hk
   ·exact h.rr i j (by omega) (by omega) hij k hk hk2
 ·show a.block ∉ (if i = m then G else F i) ∧ _
  by_cases hm : i = m
  ·rw [if_pos hm, hm]; exact ⟨fr G (fun a ha => (hA a ha).1) (fun k hk => hN.lt k hk) a ha, fr (R m) (fun a ha => (hA a ha).2) (fun k hk => hN.ltR k hk) a ha⟩
  ·rw [if_neg hm]
   obtain ⟨p, wr, h1, h2⟩ := h.node i (by omega)
   exact ⟨fr (F i) (fun a ha => (h.fa i (by omega) a ha).1) (fun k hk => h2.lt k hk) a ha, fr (R i) (fun a ha => (h.fa i (by omega) a ha).2) (fun k hk => h2.ltR k hk) a ha⟩
end
theorem Nds.split {w : World} {H : Nat} {P : LP} {d m : Nat} {A : Option Addr} {cap : Nat} {ps : List Nat} {F : Nat → List Nat} {e : Nat → Eng} (h : Nds w H P d m A cap ps F e) :
  ∃ R F' : Nat → List Nat, Nms w H P d m A cap ps R F' e ∧ ∀ i, i < m → ∀ k, k ∈ F i ↔ k ∈ F' i ∨ k ∈ R i := by
 have hx : ∀ i, ∃ RF : List Nat × List Nat, i < m → (∃ p wr, ps[i]? = some p ∧ NdS w p P.big d (P.blk i) (P.nkey i) (P.nlast i) wr (e i) RF.1 RF.2) ∧ ∀ k, k ∈ F i ↔ k ∈ RF.2 ∨ k ∈ RF.1 := fun i => by
  by_cases hi : i < m
  ·obtain ⟨p, wr, h1, h2⟩ := h.node i hi
   obtain ⟨R, F', h3, h4⟩ := h2.s
   exact ⟨(R, F'), fun _ => ⟨⟨p, wr, h1, h3⟩, h4⟩⟩
  ·exact ⟨([], []), fun h => absurd h hi⟩
 have hf := fun i => Classical.choose_spec (hx i)
 refine ⟨fun i => (Classical.choose (hx i)).1, fun i => (Classical.choose (hx i)).2, ?_, fun i hi => (hf i hi).2⟩
 have iff := fun i hi => (hf i hi).2
 refine ⟨h.row, h.len, fun i hi => (hf i hi).1, fun i hi k hk => h.low i hi k ((iff i hi k).2 hk), fun i j hi hj hij k h1 h2 => ?_, fun i j hi hj k h1 h2 => ?_, fun i j hi hj hij k h1 h2 => ?_, fun i hi a ha => ⟨fun h1 => h.fa i hi a ha ((iff i hi _).2 (.inl h1)), fun h1 => h.fa i hi a ha ((iff i hi _).2 (.inr h1))⟩⟩
 ·exact h.far i j hi hj hij k ((iff i hi k).2 (.inl h1)) ((iff j hj k).2 (.inl h2))
 ·by_cases hij : i = j
  ·subst hij
   obtain ⟨p, wr, -, h4⟩ := (hf i hi).1
   exact h4.apart k h1 h2
  ·exact h.far i j hi hj hij k ((iff i hi k).2 (.inr h1)) ((iff j hj k).2 (.inl h2))
 ·exact h.far i j hi hj hij k ((iff i hi k).2 (.inr h1)) ((iff j hj k).2 (.inr h2))
theorem Nms.join {w : World} {H : Nat} {P : LP} {d m : Nat} {A : Option Addr} {cap : Nat} {ps : List Nat} {R F : Nat → List Nat} {e : Nat → Eng} (h : Nms w H P d m A cap ps R F e) :
  ∃ F' : Nat → List Nat, Nds w H P d m A cap ps F' e ∧ ∀ i, i < m → ∀ k, k ∈ F' i ↔ k ∈ F i ∨ k ∈ R i := by
 have hx : ∀ i, ∃ G : List Nat, i < m → (∃ p wr, ps[i]? = some p ∧ Nd w p P.big d (P.blk i) (P.nkey i) (P.nlast i) wr (e i) G) ∧ ∀ k, k ∈ G ↔ k ∈ F i ∨ k ∈ R i := fun i => by
  by_cases hi : i < m
  ·obtain ⟨p, wr, h1, h2⟩ := h.node i hi
   obtain ⟨G, h3, h4⟩ := h2.nd
   exact ⟨G, fun _ => ⟨⟨p, wr, h1, h3⟩, h4⟩⟩
  ·exact ⟨[], fun h => absurd h hi⟩
 have hf := fun i => Classical.choose_spec (hx i)
 refine ⟨fun i => Classical.choose (hx i), ?_, fun i hi => (hf i hi).2⟩
 have iff := fun i hi => (hf i hi).2
 refine ⟨h.row, h.len, fun i hi => (hf i hi).1, fun i hi k hk => h.low i hi k ((iff i hi k).1 hk), fun i j hi hj hij k h1 h2 => ?_, fun i hi a ha h1 => ?_⟩
 ·rcases (iff i hi k).1 h1 with h1 | h1 <;> rcases (iff j hj k).1 h2 with h2 | h2
  ·exact h.far i j hi hj hij k h1 h2
  ·exact h.rf j i hj hi k h2 h1
  ·exact h.rf i j hi hj k h1 h2
  ·exact h.rr i j hi hj hij k h1 h2
 ·rcases (iff i hi _).1 h1 with h1 | h1
  ·exact (h.fa i hi a ha).1 h1
  ·exact (h.fa i hi a ha).2 h1
structure Hm (w : World) (H h : Nat) (P : LP) (d : Nat) (a b c : Sl) (A : Option Addr) (cap t : Nat) (ps : List Nat) (R F : Nat → List Nat) (e : Nat → Eng) : Prop where
  blk : Blk w h 55 (hasC P a b c A (lnOf P.big) cap t)
  nds : Nms w H P d (lnOf P.big) A cap ps R F e
  fh : ∀ i, i < lnOf P.big → h ∉ F i ∧ h ∉ R i
  ah : ∀ x, A = some x → x.block ≠ h
  low : H ≤ h
  set_ : SetLow w H P a b c
section
variable {w w' : World} {H h : Nat} {P : LP} {d : Nat} {a b c : Sl} {A : Option Addr} {cap t : Nat} {ps : List Nat} {R F : Nat → List Nat} {e : Nat → Eng}
theorem Hm.below (hh : Hm w H h P d a b c A cap t ps R F e) (hb : Below w.heap.size w w') (hH : H ≤ w.heap.size) : Hm w' H h P d a b c A cap t ps R F e :=
 ⟨hh.blk.below hb hh.blk.lt, hh.nds.below hb, hh.fh, hh.ah, hh.low, hh.set_.below (hb.mono hH)⟩
theorem Hm.hs (hh : Hm w H h P d a b c A cap t ps R F e) : ∃ F', Hs w H h P d a b c A cap t ps F' e := by
 obtain ⟨F', h1, h2⟩ := hh.nds.join
 exact ⟨F', hh.blk, h1, fun i hi hm => by rcases (h2 i hi h).1 hm with h3 | h3; exact (hh.fh i hi).1 h3; exact (hh.fh i hi).2 h3, hh.ah, hh.low, hh.set_⟩
theorem Hs.hm {F0 : Nat → List Nat} (hh : Hs w H h P d a b c A cap t ps F0 e) : ∃ R F, Hm w H h P d a b c A cap t ps R F e ∧ ∀ i, i < lnOf P.big → ∀ k, k ∈ F0 i ↔ k ∈ F i ∨ k ∈ R i := by
 obtain ⟨R, F, h1, h2⟩ := hh.nds.split
 exact ⟨R, F, ⟨hh.blk, h1, fun i hi => ⟨fun hm => hh.fh i hi ((h2 i hi h).2 (.inl hm)), fun hm => hh.fh i hi ((h2 i hi h).2 (.inr hm))⟩, hh.ah, hh.low, hh.set_⟩, h2⟩
end
end Go.Proofs.YtghpofnaojbbkaaGreat

/-
  A hasher of lanes: Fork, Taken. Contracts alone; no statement is claimed here.
-/
import Derived.Test.YtghpofnaojbbkaaGreatMWri
namespace Go.Proofs.YtghpofnaojbbkaaGreat
open Go.RowKit
attribute [local go_sem] pureUpon Ords.of

set_option maxRecDepth 20000 in
set_option maxHeartbeats 4000000 in
theorem fork_any (P : LP) (d : Nat) (a b c : Sl) (H h : Nat) (A : Option Addr) (cap t : Nat) (ps : List Nat) (R F : Nat → List Nat) (e : Nat → Eng) (w : World) (hh : Hm w H h P d a b c A cap t ps R F e) :
  Calls Tryz.prog 16 #[.pointer (some ⟨h, 0, none⟩)] w fun r w' => ∃ q A' cap' qs F', r = .returned (.pointer (some ⟨q, 0, none⟩)) ∧ Hm w' H q P d a b c A' cap' t qs R F' e ∧ w.heap.size ≤ q ∧ (∀ i, i < lnOf P.big → ∀ k, k ∈ F' i → w.heap.size ≤ k) ∧ (∀ x, A' = some x → w.heap.size ≤ x.block) ∧ Below w.heap.size w w' := by
 have hno := lnoneH_any P a b c A (lnOf P.big) cap t h w hh.blk
 have h8 := lnOf_pos P.big
 have hwH : H ≤ w.heap.size := Nat.le_trans hh.low (Nat.le_of_lt hh.blk.lt)
 obtain ⟨p0, -, hA0, -⟩ := hh.nds.row.at_ (k := 0) (by rw [hh.nds.len]; have := h8.1; omega)
 subst hA0
 have hcp := fun (i : Nat) (p : Nat) (wr : UInt64) (W : World) h1 => copyS_any p d P.big (P.nlast i) (P.blk i) (P.nkey i) wr (e i) (R i) (F i) W h1
 have l0 := hh.blk.lt
 have HNO := Lib.hid hno; have HCP := Lib.hid hcp; have HH := Lib.hid hh; have H8 := Lib.hid h8; have HWH := Lib.hid hwH
 have hsu := Lib.hid Tryz.underlying50
 clear hno hcp hh h8 hwH
 go_enter Tryz.func16, Tryz.ntmps16
 go_upto_region 3 with (go_at_call 20; refine HNO.out.mono ?_; rintro e1 w1 ⟨rfl, rfl⟩)
 have q9 : w.cell? ⟨h, 9, none⟩ = some (.int .u64 t) := HH.out.blk.cell 9
 have HRL := Lib.hid (fun i (hi : i < lnOf P.big) k (hk : k ∈ R i) => (show k < w.heap.size by obtain ⟨p, r, -, h⟩ := HH.out.nds.node i hi; exact h.ltR k hk))
 refine wp_region_ords (fun w' => w'.rangeAt h 0 [Value.int .i64 (lnOf P.big : Nat), .int .i64 (blOf P.big : Nat), .int .i64 (bOf P.big : Nat), .int .i64 (kOf P.big), .int .i64 P.digest, .slice a.A a.n a.c, .slice b.A b.n b.c, .slice c.A c.n c.c] ∧ w'.cell? ⟨h, 9, none⟩ = some (.int .u64 t)) (fun _ n h => h) (Ords.of [(0, 0), (0, 1), (0, 2), (0, 3), (0, 4), (0, 5), (0, 6), (0, 7), (0, 8), (2, 9), (0, 10)] .fin) (by kernel_rfl) rfl (by kernel_rfl) (by kernel_rfl) (fun c a d v w h => by cases d <;> exact h) ⟨HH.out.blk.range 0 8, HH.out.blk.cell 9⟩ ?_
 iterate 3 (refine ords_pure rfl (fun K hK => ?_); go_simp; refine hK _ ?_; clear hK K)
 refine ords_held (v := Value.agg #[Value.int .i64 (lnOf P.big : Nat), .int .i64 (blOf P.big : Nat), .int .i64 (bOf P.big : Nat), .int .i64 (kOf P.big), .int .i64 P.digest, .slice a.A a.n a.c, .slice b.A b.n b.c, .slice c.A c.n c.c]) rfl rfl (fun w9 hS => pure_load_mid 50 (.tmp 10) rfl h 0 rfl _ _ hS.1 hsu.out rfl (setC_size (lnOf P.big) (blOf P.big) (bOf P.big) (kOf P.big) P.digest a b c)) ?_; go_simp
 iterate 3 (refine ords_pure rfl (fun K hK => ?_); go_simp; refine hK _ ?_; clear hK K)
 refine ords_heldK rfl (fun K K2 hK hK2 => ?_); go_simp; refine ⟨hK2 _ (fun w9 hS => ?_), hK _ ?_⟩; (clear hK hK2 K K2; have q9 : w9.cell? ⟨h, 9, none⟩ = some (.int .u64 t) := hS.2; clear hS; go_simp); (clear hK hK2 K K2)
 refine ords_pure rfl (fun K hK => ?_); go_simp; refine hK _ ?_; clear hK K
 refine ords_loud rfl (fun n1 => ?_)
 go_wp2_with fail
 rw [show #[Value.int .i64 (lnOf P.big : Nat), .int .i64 (blOf P.big : Nat), .int .i64 (bOf P.big : Nat), .int .i64 (kOf P.big), .int .i64 P.digest, .slice a.A a.n a.c, .slice b.A b.n b.c, .slice c.A c.n c.c, .slice none 0 0, .int .u64 (t : Nat)] = hasC P a b c none 0 0 t from rfl]
 have HBK : Hid (Blk ((w.drewN n1).alloc (.cells (hasC P a b c none 0 0 t) 55)) w.heap.size 55 (hasC P a b c none 0 0 t)) := Lib.hid (Blk.new (w.drewN n1) _ _)
 have HB := Lib.hid (bal (bdr (b0 w) n1) (.cells (hasC P a b c none 0 0 t) 55))
 obtain ⟨gf, hgf⟩ : ∃ g, g = w.heap.size := ⟨_, rfl⟩
 have HGF := Lib.hid (Nat.le_of_eq hgf.symm)
 rw [← hgf] at HBK ⊢
 clear hgf q9 l0
 generalize (w.drewN n1).alloc (.cells (hasC P a b c none 0 0 t) 55) = u at *
 refine ⟨⟨(HH.out.below HB.out HWH.out).blk.range 0 8, (HH.out.below HB.out HWH.out).blk.cell 9⟩, ?_⟩
 go_simp
 refine ords_pure rfl (fun K hK => ?_); go_simp; refine hK _ ?_; clear hK K
 refine ords_end (fun n2 => ?_)
 replace HB := Lib.hid (bdr HB.out n2); replace HBK := Lib.hid (HBK.out.drewN n2); generalize u.drewN n2 = u at *
 obtain ⟨n, hn⟩ : ∃ n, n = lnOf P.big := ⟨_, rfl⟩
 have HN := Lib.hid hn
 have z8 : u.cell? ⟨h, 8, none⟩ = some (.slice (some ⟨p0, 0, none⟩) n cap) := by rw [hn]; exact (HH.out.below HB.out HWH.out).blk.cell 8
 have l8 := (HH.out.below HB.out HWH.out).blk.lt
 clear hn
 go_wp2_with fail
 clear z8 l8
 go_loopw [5, 23] (fun l1 ix wr => ∃ (j : Nat) (Aj : Option Addr) (cj : Nat) (qs : List Nat) (Fj : Nat → List Nat), j ≤ n ∧ ix = .int .i64 j ∧ Blk wr gf 55 (hasC P a b c Aj j cj t) ∧ Nms wr H P d j Aj cj qs R Fj e ∧ (∀ i, i < j → gf ∉ Fj i ∧ ∀ k, k ∈ Fj i → w.heap.size ≤ k) ∧ (∀ x, Aj = some x → w.heap.size ≤ x.block ∧ x.block ≠ gf) ∧ Below w.heap.size w wr) (fun _ ix _ => n - (intOf ix).toNat)
 case atStart => exact ⟨0, none, 0, [], fun _ => [], Nat.zero_le _, rfl, HBK.out, Nms.empty _ _ _ _ _ _, fun i hi => absurd hi (Nat.not_lt_zero i), fun _ h => (nomatch h), HB.out⟩
 case round =>
  clear HBK HB
  clear u
  obtain ⟨j, Aj, cj, qs, Fj, hj, rfl, hbk, hnd, hfj, haj, hbw⟩ := hrel
  have HBK := Lib.hid hbk; have HND := Lib.hid hnd; have HFJ := Lib.hid hfj; have HAJ := Lib.hid haj; have HBW := Lib.hid hbw
  clear hbk hnd hfj haj hbw
  by_cases hlt : j < n
  ·have HJ := Lib.hid hlt
   have d1 : decide ((j : Int) < (n : Int)) = true := by simp; omega
   have hj8 : j ≤ 8 := by have := H8.out; rw [← HN.out] at this; omega
   have HHW := Lib.hid (HH.out.below HBW.out HWH.out)
   obtain ⟨p, wrt, hp1, hp2⟩ := HHW.out.nds.node j (by rw [← HN.out]; exact hlt)
   have hc2 : wr.cell? ⟨p0, j, none⟩ = some (.pointer (some ⟨p, 0, none⟩)) := HHW.out.nds.row.ptr hp1
   have hpl : p0 < wr.heap.size := (HHW.out.nds.row.block_lt _ rfl).2
   have HNP := Lib.hid (fun (W : World) (hW : Below wr.heap.size wr W) => hp2.below hW)
   clear hj hlt hp1 hp2 HHW
   go_upto_region 7 with fail
   clear hc2 hpl
   obtain ⟨u, hu⟩ : ∃ u, u = wr := ⟨_, rfl⟩
   have HWU : Hid (Below wr.heap.size wr u) := by rw [hu]; exact Lib.hid (b0 wr)
   rw [← hu]
   rw [← hu] at HBK HND
   have hgl := HBK.out.lt
   have z8 : u.cell? ⟨gf, 8, none⟩ = some (.slice Aj j cj) := HBK.out.cell 8
   clear hu
   refine wp_region_ords (fun _ => True) (fun _ _ h => h) (Ords.of [(0, 0), (0, 1), (0, 2), (0, 3), (0, 5)] (.two 4 6 (Ords.of [(2, 6), (2, 7), (2, 8), (0, 9), (0, 10), (2, 11)] .fin) (Ords.of [] (.two 4 7 (Ords.of [(2, 7), (2, 8), (0, 9), (0, 10), (2, 11)] .fin) (Ords.of [(2, 4), (2, 8), (0, 9), (0, 10), (2, 11)] .fin))))) (by kernel_rfl) rfl (by kernel_rfl) (by kernel_rfl) (fun c a d v w h => by cases d <;> exact h) trivial ?_
   iterate 5 (refine ords_pure rfl (fun K hK => ?_); go_simp; refine hK _ ?_; clear hK K)
   refine ords_two rfl rfl (fun n1 => ?_) (fun n1 => ?_)
   focus
    (try clear z8)
    replace HWU := Lib.hid (bdr HWU.out n1); replace HBK := Lib.hid (HBK.out.drewN n1); replace HND := Lib.hid (HND.out.drewN n1); (try replace HQ := Lib.hid (HQ.out.drewN n1)); (try replace HC1 := Lib.hid (show (u.drewN n1).cell? ⟨gb, 0, none⟩ = some (cP.enc q) from HC1.out)); generalize u.drewN n1 = u at *
    have z8 : u.cell? ⟨gf, 8, none⟩ = some (.slice Aj j cj) := HBK.out.cell 8
    have l8 := HBK.out.lt
    go_wp2_with fail
    clear z8 l8
    refine ⟨trivial, ?_⟩
    go_simp
    refine ords_loud rfl (fun n2 => ?_)
    (try clear z8)
    replace HWU := Lib.hid (bdr HWU.out n2); replace HBK := Lib.hid (HBK.out.drewN n2); replace HND := Lib.hid (HND.out.drewN n2); (try replace HQ := Lib.hid (HQ.out.drewN n2)); (try replace HC1 := Lib.hid (show (u.drewN n2).cell? ⟨gb, 0, none⟩ = some (cP.enc q) from HC1.out)); generalize u.drewN n2 = u at *
    go_wp2_with (go_at_call 28; refine (HCP.out j p wrt u (HNP.out u HWU.out)).mono ?_; rintro e3 u3 ⟨q, G, rfl, hN, hG, hb3⟩)
    have HG := Lib.hid (fun k (hk : k ∈ G) => Nat.le_trans (Nat.le_trans HBW.out.size HWU.out.size) (hG k hk))
    have HGD := Lib.hid (fun (i : Nat) (hi : i < j) (k : Nat) (hk : k ∈ G) => (show k ∉ Fj i ∧ k ∉ R i by
     obtain ⟨p5, r5, -, h5⟩ := HND.out.node i hi
     exact ⟨fun hm => Nat.lt_irrefl _ (Nat.lt_of_lt_of_le (h5.lt k hm) (hG k hk)), fun hm => Nat.lt_irrefl _ (Nat.lt_of_lt_of_le (h5.ltR k hm) (hG k hk))⟩))
    have HGA := Lib.hid (fun (x : Addr) (hx : Aj = some x) (hm : x.block ∈ G) => Nat.lt_irrefl _ (Nat.lt_of_lt_of_le (HND.out.row.block_lt x hx).2 (hG _ hm)))
    have HGH := Lib.hid (fun hm : gf ∈ G => Nat.lt_irrefl _ (Nat.lt_of_lt_of_le HBK.out.lt (hG gf hm)))
    have HQ := Lib.hid hN
    replace HND := Lib.hid (HND.out.below hb3); replace HBK := Lib.hid (HBK.out.below hb3 HBK.out.lt); replace HWU := Lib.hid (bcall HWU.out hb3)
    clear hb3 hN hG
    obtain ⟨u, hu⟩ : ∃ u, u = u3 := ⟨_, rfl⟩
    subst hu
    refine ⟨trivial, ?_⟩
    go_simp
    refine ords_loud rfl (fun n3 => ?_)
    replace HWU := Lib.hid (bdr HWU.out n3); replace HBK := Lib.hid (HBK.out.drewN n3); replace HND := Lib.hid (HND.out.drewN n3); (try replace HQ := Lib.hid (HQ.out.drewN n3)); (try replace HC1 := Lib.hid (show (u.drewN n3).cell? ⟨gb, 0, none⟩ = some (cP.enc q) from HC1.out)); generalize u.drewN n3 = u at *
    go_wp2_with fail
    have hb4 := bal (b0 u) (.cells #[.pointer (some ⟨q, 0, none⟩)] 64)
    have HC1 : Hid ((u.alloc (.cells #[.pointer (some ⟨q, 0, none⟩)] 64)).cell? ⟨u.heap.size, 0, none⟩ = some (cP.enc q)) := Lib.hid (cnew _ _ _ rfl)
    replace HQ := Lib.hid (HQ.out.below hb4)
    replace HND := Lib.hid (HND.out.below hb4); replace HBK := Lib.hid (HBK.out.below hb4 HBK.out.lt); replace HWU := Lib.hid (bcall HWU.out hb4)
    clear hb4
    obtain ⟨gb, hgb⟩ : ∃ g, g = u.heap.size := ⟨_, rfl⟩
    rw [← hgb] at HC1 ⊢
    clear hgb
    generalize u.alloc (.cells #[.pointer (some ⟨q, 0, none⟩)] 64) = u at *
    refine ⟨trivial, ?_⟩
    go_simp
    refine ords_loud rfl (fun n4 => ?_)
    replace HWU := Lib.hid (bdr HWU.out n4); replace HBK := Lib.hid (HBK.out.drewN n4); replace HND := Lib.hid (HND.out.drewN n4); (try replace HQ := Lib.hid (HQ.out.drewN n4)); (try replace HC1 := Lib.hid (show (u.drewN n4).cell? ⟨gb, 0, none⟩ = some (cP.enc q) from HC1.out)); generalize u.drewN n4 = u at *
    have HUS := Lib.hid (Nat.le_trans HWH.out (Nat.le_trans HBW.out.size HWU.out.size))
    (refine wpList_appS _ cP_ok rfl (.tmp 31) (.tmp 34) rfl HND.out.row rfl HND.out.len (RS.one' HC1.out) rfl rfl (by show (j + 1) * 8 ≤ _; omega) (by omega) HUS.out ?_; intro A' cap' u4 ho hg hA)
    have HN2 := Lib.hid (HND.out.snoc HQ.out (fun k hk => by
     rcases hk with hk | hk
     ·exact Nat.le_trans HWH.out (HG.out k hk)
     ·exact HH.out.nds.low j (by rw [← HN.out]; exact HJ.out) k (.inr hk)) HGD.out (fun i hi k hk => ⟨fun hm => Nat.lt_irrefl _ (Nat.lt_of_lt_of_le (HRL.out j (by rw [← HN.out]; exact HJ.out) k hk) ((HFJ.out i hi).2 k hm)), HH.out.nds.rr j i (by rw [← HN.out]; exact HJ.out) (by rw [← HN.out]; exact Nat.lt_trans hi HJ.out) (Ne.symm (Nat.ne_of_lt hi)) k hk⟩) (fun x hx => ⟨HGA.out x hx, fun hm => Nat.lt_irrefl _ (Nat.lt_of_lt_of_le (HRL.out j (by rw [← HN.out]; exact HJ.out) _ hm) (HAJ.out x hx).1)⟩) ho hg hA)
    have HB4 := Lib.hid (HBK.out.grown hg (fun e => by cases hh : Aj with | none => rw [hh] at e; cases e | some x => rw [hh] at e; have e2 : gf = x.block := Option.some.inj e; exact (HAJ.out x hh).2 e2.symm))
    have HA4 : Hid (∀ x : Addr, A' = some x → w.heap.size ≤ x.block ∧ x.block ≠ gf) := Lib.hid (fun x hx => by
     rcases hA with e | e
     ·rw [hx] at e
      cases hh : Aj with
      | none => rw [hh] at e; cases e
      | some y => rw [hh] at e; have e3 : x.block = y.block := Option.some.inj e; rw [e3]; exact HAJ.out y hh
     ·rw [hx] at e
      have e3 : x.block = u.heap.size := Option.some.inj e
      rw [e3]
      exact ⟨Nat.le_trans HBW.out.size HWU.out.size, Ne.symm (Nat.ne_of_lt HBK.out.lt)⟩)
    have HW4 := Lib.hid ((HBW.out.trans (HWU.out.mono HBW.out.size)).grown hg (Nat.le_trans HBW.out.size HWU.out.size) (fun k hk => by
     cases hh : Aj with
     | none => rw [hh] at hk; cases hk
     | some x => rw [hh] at hk; have e2 : x.block = k := Option.some.inj hk; rw [← e2]; exact (HAJ.out x hh).1))
    have HF4 := Lib.hid (fun (i : Nat) (hi : i < j + 1) => (show gf ∉ (if i = j then G else Fj i) ∧ ∀ k, k ∈ (if i = j then G else Fj i) → w.heap.size ≤ k by
     by_cases e : i = j
     ·rw [if_pos e]; exact ⟨HGH.out, HG.out⟩
     ·rw [if_neg e]; exact HFJ.out i (by omega)))
    clear HC1 HUS ho hg hA HND HBK HWU HQ HG HGD HGA HGH
    refine ⟨trivial, ?_⟩
    go_simp
    iterate 2 (refine ords_pure rfl (fun K hK => ?_); go_simp; refine hK _ ?_; clear hK K)
    refine ords_loud rfl (fun n5 => ?_)
    replace HN2 := Lib.hid (HN2.out.drewN n5); replace HB4 := Lib.hid (HB4.out.drewN n5); replace HW4 := Lib.hid (below_drewN HW4.out n5); generalize u4.drewN n5 = u4 at *
    have z8 : u4.cell? ⟨gf, 8, none⟩ = some (.slice Aj j cj) := HB4.out.cell 8
    have f8 := HB4.out.frozen 8
    have l8 := HB4.out.lt
    go_wp2_with fail
    clear z8 f8 l8
    replace HB4 := Lib.hid (HB4.out.set_ 8 (.slice A' (j + 1) cap'))
    replace HN2 := Lib.hid (HN2.out.but ((But.refl [gf] u4).setCell (p := ⟨gf, 8, none⟩) (.inl (by simp)) (.slice A' (j + 1) cap')) (fun i hi k hk hm => by
     rw [List.mem_singleton] at hm
     subst hm
     rcases hk with hk | hk
     ·exact (HF4.out i hi).1 hk
     ·exact Nat.lt_irrefl _ (Nat.lt_of_lt_of_le (HRL.out i (by rw [← HN.out]; have := HJ.out; omega) _ hk) HGF.out)) (fun x hx hm => (HA4.out x hx).2 (by rw [List.mem_singleton] at hm; exact hm)))
    replace HW4 := Lib.hid (HW4.out.setCell (p := ⟨gf, 8, none⟩) HGF.out (.slice A' (j + 1) cap'))
    generalize u4.setCell ⟨gf, 8, none⟩ (.slice A' (j + 1) cap') = u4 at *
    change Hid (Blk u4 gf 55 (hasC P a b c A' (j + 1) cap' t)) at HB4
    refine ⟨trivial, ?_⟩
    go_simp
    refine ords_end (fun n6 => ?_)
    replace HN2 := Lib.hid (HN2.out.drewN n6); replace HB4 := Lib.hid (HB4.out.drewN n6); replace HW4 := Lib.hid (below_drewN HW4.out n6); generalize u4.drewN n6 = u4 at *
   rotate_left 1
   focus
    (try clear z8)
    replace HWU := Lib.hid (bdr HWU.out n1); replace HBK := Lib.hid (HBK.out.drewN n1); replace HND := Lib.hid (HND.out.drewN n1); (try replace HQ := Lib.hid (HQ.out.drewN n1)); (try replace HC1 := Lib.hid (show (u.drewN n1).cell? ⟨gb, 0, none⟩ = some (cP.enc q) from HC1.out)); generalize u.drewN n1 = u at *
    go_wp2_with (go_at_call 28; refine (HCP.out j p wrt u (HNP.out u HWU.out)).mono ?_; rintro e3 u3 ⟨q, G, rfl, hN, hG, hb3⟩)
    have HG := Lib.hid (fun k (hk : k ∈ G) => Nat.le_trans (Nat.le_trans HBW.out.size HWU.out.size) (hG k hk))
    have HGD := Lib.hid (fun (i : Nat) (hi : i < j) (k : Nat) (hk : k ∈ G) => (show k ∉ Fj i ∧ k ∉ R i by
     obtain ⟨p5, r5, -, h5⟩ := HND.out.node i hi
     exact ⟨fun hm => Nat.lt_irrefl _ (Nat.lt_of_lt_of_le (h5.lt k hm) (hG k hk)), fun hm => Nat.lt_irrefl _ (Nat.lt_of_lt_of_le (h5.ltR k hm) (hG k hk))⟩))
    have HGA := Lib.hid (fun (x : Addr) (hx : Aj = some x) (hm : x.block ∈ G) => Nat.lt_irrefl _ (Nat.lt_of_lt_of_le (HND.out.row.block_lt x hx).2 (hG _ hm)))
    have HGH := Lib.hid (fun hm : gf ∈ G => Nat.lt_irrefl _ (Nat.lt_of_lt_of_le HBK.out.lt (hG gf hm)))
    have HQ := Lib.hid hN
    replace HND := Lib.hid (HND.out.below hb3); replace HBK := Lib.hid (HBK.out.below hb3 HBK.out.lt); replace HWU := Lib.hid (bcall HWU.out hb3)
    clear hb3 hN hG
    obtain ⟨u, hu⟩ : ∃ u, u = u3 := ⟨_, rfl⟩
    subst hu
    refine ⟨trivial, ?_⟩
    go_simp
    refine ords_two rfl rfl (fun n2 => ?_) (fun n2 => ?_)
    focus
     (try clear z8)
     replace HWU := Lib.hid (bdr HWU.out n2); replace HBK := Lib.hid (HBK.out.drewN n2); replace HND := Lib.hid (HND.out.drewN n2); (try replace HQ := Lib.hid (HQ.out.drewN n2)); (try replace HC1 := Lib.hid (show (u.drewN n2).cell? ⟨gb, 0, none⟩ = some (cP.enc q) from HC1.out)); generalize u.drewN n2 = u at *
     have z8 : u.cell? ⟨gf, 8, none⟩ = some (.slice Aj j cj) := HBK.out.cell 8
     have l8 := HBK.out.lt
     go_wp2_with fail
     clear z8 l8
     refine ⟨trivial, ?_⟩
     go_simp
     refine ords_loud rfl (fun n3 => ?_)
     replace HWU := Lib.hid (bdr HWU.out n3); replace HBK := Lib.hid (HBK.out.drewN n3); replace HND := Lib.hid (HND.out.drewN n3); (try replace HQ := Lib.hid (HQ.out.drewN n3)); (try replace HC1 := Lib.hid (show (u.drewN n3).cell? ⟨gb, 0, none⟩ = some (cP.enc q) from HC1.out)); generalize u.drewN n3 = u at *
     go_wp2_with fail
     have hb4 := bal (b0 u) (.cells #[.pointer (some ⟨q, 0, none⟩)] 64)
     have HC1 : Hid ((u.alloc (.cells #[.pointer (some ⟨q, 0, none⟩)] 64)).cell? ⟨u.heap.size, 0, none⟩ = some (cP.enc q)) := Lib.hid (cnew _ _ _ rfl)
     replace HQ := Lib.hid (HQ.out.below hb4)
     replace HND := Lib.hid (HND.out.below hb4); replace HBK := Lib.hid (HBK.out.below hb4 HBK.out.lt); replace HWU := Lib.hid (bcall HWU.out hb4)
     clear hb4
     obtain ⟨gb, hgb⟩ : ∃ g, g = u.heap.size := ⟨_, rfl⟩
     rw [← hgb] at HC1 ⊢
     clear hgb
     generalize u.alloc (.cells #[.pointer (some ⟨q, 0, none⟩)] 64) = u at *
     refine ⟨trivial, ?_⟩
     go_simp
     refine ords_loud rfl (fun n4 => ?_)
     replace HWU := Lib.hid (bdr HWU.out n4); replace HBK := Lib.hid (HBK.out.drewN n4); replace HND := Lib.hid (HND.out.drewN n4); (try replace HQ := Lib.hid (HQ.out.drewN n4)); (try replace HC1 := Lib.hid (show (u.drewN n4).cell? ⟨gb, 0, none⟩ = some (cP.enc q) from HC1.out)); generalize u.drewN n4 = u at *
     have HUS := Lib.hid (Nat.le_trans HWH.out (Nat.le_trans HBW.out.size HWU.out.size))
     (refine wpList_appS _ cP_ok rfl (.tmp 31) (.tmp 34) rfl HND.out.row rfl HND.out.len (RS.one' HC1.out) rfl rfl (by show (j + 1) * 8 ≤ _; omega) (by omega) HUS.out ?_; intro A' cap' u4 ho hg hA)
     have HN2 := Lib.hid (HND.out.snoc HQ.out (fun k hk => by
      rcases hk with hk | hk
      ·exact Nat.le_trans HWH.out (HG.out k hk)
      ·exact HH.out.nds.low j (by rw [← HN.out]; exact HJ.out) k (.inr hk)) HGD.out (fun i hi k hk => ⟨fun hm => Nat.lt_irrefl _ (Nat.lt_of_lt_of_le (HRL.out j (by rw [← HN.out]; exact HJ.out) k hk) ((HFJ.out i hi).2 k hm)), HH.out.nds.rr j i (by rw [← HN.out]; exact HJ.out) (by rw [← HN.out]; exact Nat.lt_trans hi HJ.out) (Ne.symm (Nat.ne_of_lt hi)) k hk⟩) (fun x hx => ⟨HGA.out x hx, fun hm => Nat.lt_irrefl _ (Nat.lt_of_lt_of_le (HRL.out j (by rw [← HN.out]; exact HJ.out) _ hm) (HAJ.out x hx).1)⟩) ho hg hA)
     have HB4 := Lib.hid (HBK.out.grown hg (fun e => by cases hh : Aj with | none => rw [hh] at e; cases e | some x => rw [hh] at e; have e2 : gf = x.block := Option.some.inj e; exact (HAJ.out x hh).2 e2.symm))
     have HA4 : Hid (∀ x : Addr, A' = some x → w.heap.size ≤ x.block ∧ x.block ≠ gf) := Lib.hid (fun x hx => by
      rcases hA with e | e
      ·rw [hx] at e
       cases hh : Aj with
       | none => rw [hh] at e; cases e
       | some y => rw [hh] at e; have e3 : x.block = y.block := Option.some.inj e; rw [e3]; exact HAJ.out y hh
      ·rw [hx] at e
       have e3 : x.block = u.heap.size := Option.some.inj e
       rw [e3]
       exact ⟨Nat.le_trans HBW.out.size HWU.out.size, Ne.symm (Nat.ne_of_lt HBK.out.lt)⟩)
     have HW4 := Lib.hid ((HBW.out.trans (HWU.out.mono HBW.out.size)).grown hg (Nat.le_trans HBW.out.size HWU.out.size) (fun k hk => by
      cases hh : Aj with
      | none => rw [hh] at hk; cases hk
      | some x => rw [hh] at hk; have e2 : x.block = k := Option.some.inj hk; rw [← e2]; exact (HAJ.out x hh).1))
     have HF4 := Lib.hid (fun (i : Nat) (hi : i < j + 1) => (show gf ∉ (if i = j then G else Fj i) ∧ ∀ k, k ∈ (if i = j then G else Fj i) → w.heap.size ≤ k by
      by_cases e : i = j
      ·rw [if_pos e]; exact ⟨HGH.out, HG.out⟩
      ·rw [if_neg e]; exact HFJ.out i (by omega)))
     clear HC1 HUS ho hg hA HND HBK HWU HQ HG HGD HGA HGH
     refine ⟨trivial, ?_⟩
     go_simp
     iterate 2 (refine ords_pure rfl (fun K hK => ?_); go_simp; refine hK _ ?_; clear hK K)
     refine ords_loud rfl (fun n5 => ?_)
     replace HN2 := Lib.hid (HN2.out.drewN n5); replace HB4 := Lib.hid (HB4.out.drewN n5); replace HW4 := Lib.hid (below_drewN HW4.out n5); generalize u4.drewN n5 = u4 at *
     have z8 : u4.cell? ⟨gf, 8, none⟩ = some (.slice Aj j cj) := HB4.out.cell 8
     have f8 := HB4.out.frozen 8
     have l8 := HB4.out.lt
     go_wp2_with fail
     clear z8 f8 l8
     replace HB4 := Lib.hid (HB4.out.set_ 8 (.slice A' (j + 1) cap'))
     replace HN2 := Lib.hid (HN2.out.but ((But.refl [gf] u4).setCell (p := ⟨gf, 8, none⟩) (.inl (by simp)) (.slice A' (j + 1) cap')) (fun i hi k hk hm => by
      rw [List.mem_singleton] at hm
      subst hm
      rcases hk with hk | hk
      ·exact (HF4.out i hi).1 hk
      ·exact Nat.lt_irrefl _ (Nat.lt_of_lt_of_le (HRL.out i (by rw [← HN.out]; have := HJ.out; omega) _ hk) HGF.out)) (fun x hx hm => (HA4.out x hx).2 (by rw [List.mem_singleton] at hm; exact hm)))
     replace HW4 := Lib.hid (HW4.out.setCell (p := ⟨gf, 8, none⟩) HGF.out (.slice A' (j + 1) cap'))
     generalize u4.setCell ⟨gf, 8, none⟩ (.slice A' (j + 1) cap') = u4 at *
     change Hid (Blk u4 gf 55 (hasC P a b c A' (j + 1) cap' t)) at HB4
     refine ⟨trivial, ?_⟩
     go_simp
     refine ords_end (fun n6 => ?_)
     replace HN2 := Lib.hid (HN2.out.drewN n6); replace HB4 := Lib.hid (HB4.out.drewN n6); replace HW4 := Lib.hid (below_drewN HW4.out n6); generalize u4.drewN n6 = u4 at *
    rotate_left 1
    focus
     replace HWU := Lib.hid (bdr HWU.out n2); replace HBK := Lib.hid (HBK.out.drewN n2); replace HND := Lib.hid (HND.out.drewN n2); (try replace HQ := Lib.hid (HQ.out.drewN n2)); (try replace HC1 := Lib.hid (show (u.drewN n2).cell? ⟨gb, 0, none⟩ = some (cP.enc q) from HC1.out)); generalize u.drewN n2 = u at *
     go_wp2_with fail
     have hb4 := bal (b0 u) (.cells #[.pointer (some ⟨q, 0, none⟩)] 64)
     have HC1 : Hid ((u.alloc (.cells #[.pointer (some ⟨q, 0, none⟩)] 64)).cell? ⟨u.heap.size, 0, none⟩ = some (cP.enc q)) := Lib.hid (cnew _ _ _ rfl)
     replace HQ := Lib.hid (HQ.out.below hb4)
     replace HND := Lib.hid (HND.out.below hb4); replace HBK := Lib.hid (HBK.out.below hb4 HBK.out.lt); replace HWU := Lib.hid (bcall HWU.out hb4)
     clear hb4
     obtain ⟨gb, hgb⟩ : ∃ g, g = u.heap.size := ⟨_, rfl⟩
     rw [← hgb] at HC1 ⊢
     clear hgb
     generalize u.alloc (.cells #[.pointer (some ⟨q, 0, none⟩)] 64) = u at *
     refine ⟨trivial, ?_⟩
     go_simp
     refine ords_loud rfl (fun n3 => ?_)
     (try clear z8)
     replace HWU := Lib.hid (bdr HWU.out n3); replace HBK := Lib.hid (HBK.out.drewN n3); replace HND := Lib.hid (HND.out.drewN n3); (try replace HQ := Lib.hid (HQ.out.drewN n3)); (try replace HC1 := Lib.hid (show (u.drewN n3).cell? ⟨gb, 0, none⟩ = some (cP.enc q) from HC1.out)); generalize u.drewN n3 = u at *
     have z8 : u.cell? ⟨gf, 8, none⟩ = some (.slice Aj j cj) := HBK.out.cell 8
     have l8 := HBK.out.lt
     go_wp2_with fail
     clear z8 l8
     refine ⟨trivial, ?_⟩
     go_simp
     refine ords_loud rfl (fun n4 => ?_)
     replace HWU := Lib.hid (bdr HWU.out n4); replace HBK := Lib.hid (HBK.out.drewN n4); replace HND := Lib.hid (HND.out.drewN n4); (try replace HQ := Lib.hid (HQ.out.drewN n4)); (try replace HC1 := Lib.hid (show (u.drewN n4).cell? ⟨gb, 0, none⟩ = some (cP.enc q) from HC1.out)); generalize u.drewN n4 = u at *
     have HUS := Lib.hid (Nat.le_trans HWH.out (Nat.le_trans HBW.out.size HWU.out.size))
     (refine wpList_appS _ cP_ok rfl (.tmp 31) (.tmp 34) rfl HND.out.row rfl HND.out.len (RS.one' HC1.out) rfl rfl (by show (j + 1) * 8 ≤ _; omega) (by omega) HUS.out ?_; intro A' cap' u4 ho hg hA)
     have HN2 := Lib.hid (HND.out.snoc HQ.out (fun k hk => by
      rcases hk with hk | hk
      ·exact Nat.le_trans HWH.out (HG.out k hk)
      ·exact HH.out.nds.low j (by rw [← HN.out]; exact HJ.out) k (.inr hk)) HGD.out (fun i hi k hk => ⟨fun hm => Nat.lt_irrefl _ (Nat.lt_of_lt_of_le (HRL.out j (by rw [← HN.out]; exact HJ.out) k hk) ((HFJ.out i hi).2 k hm)), HH.out.nds.rr j i (by rw [← HN.out]; exact HJ.out) (by rw [← HN.out]; exact Nat.lt_trans hi HJ.out) (Ne.symm (Nat.ne_of_lt hi)) k hk⟩) (fun x hx => ⟨HGA.out x hx, fun hm => Nat.lt_irrefl _ (Nat.lt_of_lt_of_le (HRL.out j (by rw [← HN.out]; exact HJ.out) _ hm) (HAJ.out x hx).1)⟩) ho hg hA)
     have HB4 := Lib.hid (HBK.out.grown hg (fun e => by cases hh : Aj with | none => rw [hh] at e; cases e | some x => rw [hh] at e; have e2 : gf = x.block := Option.some.inj e; exact (HAJ.out x hh).2 e2.symm))
     have HA4 : Hid (∀ x : Addr, A' = some x → w.heap.size ≤ x.block ∧ x.block ≠ gf) := Lib.hid (fun x hx => by
      rcases hA with e | e
      ·rw [hx] at e
       cases hh : Aj with
       | none => rw [hh] at e; cases e
       | some y => rw [hh] at e; have e3 : x.block = y.block := Option.some.inj e; rw [e3]; exact HAJ.out y hh
      ·rw [hx] at e
       have e3 : x.block = u.heap.size := Option.some.inj e
       rw [e3]
       exact ⟨Nat.le_trans HBW.out.size HWU.out.size, Ne.symm (Nat.ne_of_lt HBK.out.lt)⟩)
     have HW4 := Lib.hid ((HBW.out.trans (HWU.out.mono HBW.out.size)).grown hg (Nat.le_trans HBW.out.size HWU.out.size) (fun k hk => by
      cases hh : Aj with
      | none => rw [hh] at hk; cases hk
      | some x => rw [hh] at hk; have e2 : x.block = k := Option.some.inj hk; rw [← e2]; exact (HAJ.out x hh).1))
     have HF4 := Lib.hid (fun (i : Nat) (hi : i < j + 1) => (show gf ∉ (if i = j then G else Fj i) ∧ ∀ k, k ∈ (if i = j then G else Fj i) → w.heap.size ≤ k by
      by_cases e : i = j
      ·rw [if_pos e]; exact ⟨HGH.out, HG.out⟩
      ·rw [if_neg e]; exact HFJ.out i (by omega)))
     clear HC1 HUS ho hg hA HND HBK HWU HQ HG HGD HGA HGH
     refine ⟨trivial, ?_⟩
     go_simp
     iterate 2 (refine ords_pure rfl (fun K hK => ?_); go_simp; refine hK _ ?_; clear hK K)
     refine ords_loud rfl (fun n5 => ?_)
     replace HN2 := Lib.hid (HN2.out.drewN n5); replace HB4 := Lib.hid (HB4.out.drewN n5); replace HW4 := Lib.hid (below_drewN HW4.out n5); generalize u4.drewN n5 = u4 at *
     have z8 : u4.cell? ⟨gf, 8, none⟩ = some (.slice Aj j cj) := HB4.out.cell 8
     have f8 := HB4.out.frozen 8
     have l8 := HB4.out.lt
     go_wp2_with fail
     clear z8 f8 l8
     replace HB4 := Lib.hid (HB4.out.set_ 8 (.slice A' (j + 1) cap'))
     replace HN2 := Lib.hid (HN2.out.but ((But.refl [gf] u4).setCell (p := ⟨gf, 8, none⟩) (.inl (by simp)) (.slice A' (j + 1) cap')) (fun i hi k hk hm => by
      rw [List.mem_singleton] at hm
      subst hm
      rcases hk with hk | hk
      ·exact (HF4.out i hi).1 hk
      ·exact Nat.lt_irrefl _ (Nat.lt_of_lt_of_le (HRL.out i (by rw [← HN.out]; have := HJ.out; omega) _ hk) HGF.out)) (fun x hx hm => (HA4.out x hx).2 (by rw [List.mem_singleton] at hm; exact hm)))
     replace HW4 := Lib.hid (HW4.out.setCell (p := ⟨gf, 8, none⟩) HGF.out (.slice A' (j + 1) cap'))
     generalize u4.setCell ⟨gf, 8, none⟩ (.slice A' (j + 1) cap') = u4 at *
     change Hid (Blk u4 gf 55 (hasC P a b c A' (j + 1) cap' t)) at HB4
     refine ⟨trivial, ?_⟩
     go_simp
     refine ords_end (fun n6 => ?_)
     replace HN2 := Lib.hid (HN2.out.drewN n6); replace HB4 := Lib.hid (HB4.out.drewN n6); replace HW4 := Lib.hid (below_drewN HW4.out n6); generalize u4.drewN n6 = u4 at *
   all_goals
    go_wp2_with fail
    exact ⟨⟨j + 1, A', cap', qs ++ [q], fun i => if i = j then G else Fj i, HJ.out, num9 j, HB4.out, HN2.out, HF4.out, HA4.out, HW4.out⟩, measH n j HJ.out⟩
  ·obtain rfl : j = n := by omega
   have d1 : decide ((j : Int) < (j : Int)) = false := by simp
   go_wp2_with fail
   refine bodyPost_ret (results_tmp rfl _ _ _) rfl ⟨gf, Aj, cj, qs, Fj, rfl, ?_, HGF.out, fun i hi => (HFJ.out i (by rw [HN.out]; exact hi)).2, fun x hx => (HAJ.out x hx).1, HBW.out⟩
   have hbk := HBK.out
   have hnd := HND.out
   have hfj := HFJ.out
   rw [HN.out] at hbk hnd hfj
   exact ⟨hbk, hnd, fun i hi => ⟨(hfj i hi).1, fun hm => Nat.lt_irrefl _ (Nat.lt_of_lt_of_le (HRL.out i hi _ hm) HGF.out)⟩, fun x hx => (HAJ.out x hx).2, Nat.le_trans HWH.out HGF.out, HH.out.set_.below (HBW.out.mono HWH.out)⟩
theorem tnums (big : Bool) (t : Nat) (ht : t < 18446744073709551616) : ∃ q i : Nat, (((t : Nat) : Int) % 512 = (q : Int) ∧ ((t : Nat) : Int).tmod 512 = (q : Int)) ∧ ((q : Int) / ((blOf big : Nat) : Int) = i ∧ (q : Int).tdiv ((blOf big : Nat) : Int) = i) ∧ i = t / blOf big % lnOf big ∧ i < 8 ∧ q < 512 ∧ ¬ blOf big = 0 := by
 obtain ⟨f1, f2, f3, f4⟩ := taken_facts big t
 rw [Nat.mod_eq_of_lt ht] at f1
 have hl := lnOf_pos big
 have hi := Nat.mod_lt (t / blOf big) (show lnOf big > 0 by omega)
 refine ⟨t % 512, t / blOf big % lnOf big, ⟨rfl, rfl⟩, ⟨by rw [← f1]; rfl, by rw [← f1]; rfl⟩, rfl, by omega, Nat.mod_lt _ (by decide), by omega⟩
set_option maxRecDepth 20000 in
set_option maxHeartbeats 4000000 in
theorem taken_any (P : LP) (a b c : Sl) (A : Option Addr) (cap t : Nat) (ht : t < 18446744073709551616) (h : Nat) (w : World) (hb : Blk w h 55 (hasC P a b c A (lnOf P.big) cap t)) :
  Calls Tryz.prog 14 #[.pointer (some ⟨h, 0, none⟩)] w fun r w' => r = .returned (.tuple #[.int .u64 t, .int .i64 (t / blOf P.big % lnOf P.big : Nat)]) ∧ Below w.heap.size w w' := by
 have hno := lnoneH_any P a b c A (lnOf P.big) cap t h w hb
 have hall := fun W => all8_any P.big (bOf P.big) W
 obtain ⟨q, i, ⟨n1, n2⟩, ⟨n3, n4⟩, n5, n6, n7, n8⟩ := tnums P.big t ht
 have HNO := Lib.hid hno; have HALL := Lib.hid hall; have HB := Lib.hid hb; have HN5 := Lib.hid n5
 have hsu := Lib.hid Tryz.underlying48
 rw [← n5]
 clear hno hall n5
 have l0 := hb.lt
 have q9 : w.cell? ⟨h, 9, none⟩ = some (.int .u64 t) := hb.cell 9
 have q1 : w.cell? ⟨h, 1, none⟩ = some (.int .i64 (blOf P.big : Nat)) := hb.cell 1
 clear hb
 have u512 : IntKind.u64.wrap 512 = 512 := rfl
 have hwi : IntKind.i64.wrap (i : Int) = i := by clear n1 n2 n3 n4 n7 n8; simp [IntKind.wrap, IntKind.bits, IntKind.signed]; omega
 have hwj : IntKind.u64.wrap (i : Int) = i := by clear n1 n2 n3 n4 n7 n8; rw [wrap_u64]; omega
 have hwb : IntKind.u64.wrap ((blOf P.big : Nat) : Int) = (blOf P.big : Nat) := by cases P.big <;> rfl
 have hbz : ¬ ((blOf P.big : Nat) : Int) = 0 := by omega
 go_enter Tryz.func14, Tryz.ntmps14
 go_upto_region 3 with (go_at_call 20; refine HNO.out.mono ?_; rintro e1 w1 ⟨rfl, rfl⟩)
 refine wp_region_ords (fun w' => (w'.rangeAt h 0 [Value.int .i64 (lnOf P.big : Nat), .int .i64 (blOf P.big : Nat), .int .i64 (bOf P.big : Nat)] ∧ w'.cell? ⟨h, 9, none⟩ = some (.int .u64 t) ∧ w'.cell? ⟨h, 1, none⟩ = some (.int .i64 (blOf P.big : Nat)))) (fun _ n h => h) (Ords.of [(0, 0), (0, 1), (0, 2), (0, 3), (0, 4), (0, 5), (0, 6), (0, 7), (0, 8), (0, 9), (0, 10), (0, 11), (0, 12), (0, 16), (0, 17), (0, 18), (0, 19), (0, 20), (0, 21), (0, 22), (2, 13), (0, 14), (0, 15), (0, 23), (0, 24), (0, 25), (0, 26)] .fin) (by kernel_rfl) rfl (by kernel_rfl) (by kernel_rfl) (fun c a d v w h => by cases d <;> exact h) ⟨HB.out.range 0 3, HB.out.cell 9, HB.out.cell 1⟩ ?_
 iterate 2 (refine ords_pure rfl (fun K hK => ?_); go_simp; refine hK _ ?_; clear hK K; refine ords_pure rfl (fun K hK => ?_); go_simp; refine hK _ ?_; clear hK K; refine ords_pure rfl (fun K hK => ?_); go_simp; refine hK _ ?_; clear hK K; refine ords_heldK rfl (fun K K2 hK hK2 => ?_); go_simp; refine ⟨hK2 _ (fun w9 hS => ?_), hK _ ?_⟩; (clear hK hK2 K K2; have q9 : w9.cell? ⟨h, 9, none⟩ = some (.int .u64 t) := hS.2.1; have q1 : w9.cell? ⟨h, 1, none⟩ = some (.int .i64 (blOf P.big : Nat)) := hS.2.2; clear hS; go_simp); (clear hK hK2 K K2))
 iterate 4 (refine ords_pure rfl (fun K hK => ?_); go_simp; refine hK _ ?_; clear hK K)
 refine ords_held (v := Value.agg #[Value.int .i64 (lnOf P.big : Nat), .int .i64 (blOf P.big : Nat), .int .i64 (bOf P.big : Nat)]) rfl rfl (fun w9 hS => pure_load_mid 48 (.tmp 17) rfl h 0 rfl _ _ hS.1 hsu.out rfl rfl) ?_; go_simp
 iterate 5 (refine ords_pure rfl (fun K hK => ?_); go_simp; refine hK _ ?_; clear hK K)
 refine ords_heldK rfl (fun K K2 hK hK2 => ?_); go_simp; refine ⟨hK2 _ (fun w9 hS => ?_), hK _ ?_⟩; (clear hK hK2 K K2; have q9 : w9.cell? ⟨h, 9, none⟩ = some (.int .u64 t) := hS.2.1; have q1 : w9.cell? ⟨h, 1, none⟩ = some (.int .i64 (blOf P.big : Nat)) := hS.2.2; clear hS; go_simp); (clear hK hK2 K K2)
 refine ords_pure rfl (fun K hK => ?_); go_simp; refine hK _ ?_; clear hK K
 refine ords_loud rfl (fun n1 => ?_)
 go_wp2_with (go_at_call 21; refine (HALL.out _).mono ?_; rintro e3 u ⟨rfl, hb3⟩)
 have HW := Lib.hid (show Below w.heap.size w u from bcall (bdr (b0 w) n1) hb3)
 clear hb3
 refine ⟨⟨(HB.out.below HW.out HB.out.lt).range 0 3, (HB.out.below HW.out HB.out.lt).cell 9, (HB.out.below HW.out HB.out.lt).cell 1⟩, ?_⟩
 go_simp
 iterate 6 (refine ords_pure rfl (fun K hK => ?_); go_simp; refine hK _ ?_; clear hK K)
 refine ords_end (fun n2 => ?_)
 replace HW := Lib.hid (bdr HW.out n2); generalize u.drewN n2 = u at *
 go_wp2_with fail
 exact bodyPost_ret (results_tmp2 rfl _ _ _) rfl ⟨rfl, HW.out⟩
end Go.Proofs.YtghpofnaojbbkaaGreat

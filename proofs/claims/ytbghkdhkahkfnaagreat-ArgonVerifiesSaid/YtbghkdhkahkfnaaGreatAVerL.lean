/-
  The law of ArgonVerifies: the program's Verify and the reference's answer alike. Contracts alone; no statement is claimed here.
-/
import Derived.Test.YtbghkdhkahkfnaaGreatAFilL
import Derived.Test.YtbghkdhkahkfnaaGreatOp
namespace Go.Proofs.YtbghkdhkahkfnaaGreat
open Go.RowKit
attribute [local go_sem] pureUpon Ords.of

set_option maxRecDepth 20000 in
set_option maxHeartbeats 8000000 in
theorem verifies_law (a : Ar) (p s x e tg : Sl) (lp ls lx le_ lt_ : List UInt8) (w : World) (hp : SlIn w p lp) (hs : SlIn w s ls) (hx : SlIn w x lx) (he : SlIn w e le_) (ht : SlIn w tg lt_) :
  Calls Tryz.prog 4 #[.agg (askC a p s x e tg)] w fun r w' => r = .returned (.bool true) ∧ Below w.heap.size w w' := by
 have hvp := fun At Ap As Ax Ae ct cp cs cx ce W h0 h1 h2 h3 h4 => verifyP_any a At Ap As Ax Ae tg.n ct p.n cp s.n cs x.n cx e.n ce lt_ lp ls lx le_ W ht.len hp.len hs.len hx.len he.len h0 h1 h2 h3 h4
 have hvr := fun W h0 h1 h2 h3 h4 => verifyR_any a tg.A p.A s.A x.A e.A tg.n tg.c p.n p.c s.n s.c x.n x.c e.n e.c lt_ lp ls lx le_ W ht.len hp.len hs.len hx.len he.len h0 h1 h2 h3 h4
 generalize verO a lt_ lp ls lx le_ = V at *
 obtain ⟨v1, v2⟩ := V
 dsimp only at hvp hvr
 have hcp := fun (y : Sl) (l : List UInt8) W (h : SlIn W y l) => copied20_any y.A y.c y.n l W h.len (by have := h.cap; omega) h.reads
 have t1 : (v2 == v2) = true := by simp
 have t2 : (v1 == v1) = true := by simp
 obtain ⟨kk, m, pp, ll, t⟩ := a
 unfold Ar.v at *
 dsimp only at *
 have HVP := Lib.hid hvp; have HVR := Lib.hid hvr; have HCP := Lib.hid hcp
 have HP := Lib.hid hp; have HS := Lib.hid hs; have HX := Lib.hid hx; have HE := Lib.hid he; have HT := Lib.hid ht
 clear hvp hvr hcp hp hs hx he ht
 have hua := Lib.hid Tryz.underlying23
 go_enter Tryz.func4, Tryz.ntmps4
 go_upto_region 1 with fail
 have HBK := Lib.hid (Blk.new w 35 (askC ⟨kk, m, pp, ll, t⟩ p s x e tg))
 have HB := Lib.hid (bal (b0 w) (.cells (askC ⟨kk, m, pp, ll, t⟩ p s x e tg) 35))
 obtain ⟨g, hg⟩ : ∃ g, g = w.heap.size := ⟨_, rfl⟩
 rw [← hg] at HBK ⊢
 have HG := Lib.hid hg
 clear hg
 generalize w.alloc (.cells (askC ⟨kk, m, pp, ll, t⟩ p s x e tg) 35) = u at *
 have q5 : u.cell? ⟨g, 5, none⟩ = some (.slice p.A p.n p.c) := HBK.out.cell 5; have q6 : u.cell? ⟨g, 6, none⟩ = some (.slice s.A s.n s.c) := HBK.out.cell 6; have q7 : u.cell? ⟨g, 7, none⟩ = some (.slice x.A x.n x.c) := HBK.out.cell 7; have q8 : u.cell? ⟨g, 8, none⟩ = some (.slice e.A e.n e.c) := HBK.out.cell 8; have q9 : u.cell? ⟨g, 9, none⟩ = some (.slice tg.A tg.n tg.c) := HBK.out.cell 9
 refine wp_region_ords (fun w' => Blk w' g 35 (askC ⟨kk, m, pp, ll, t⟩ p s x e tg)) (fun _ n h => h.drewN n) (Ords.of [(0, 0), (0, 1), (0, 2), (0, 3), (0, 5), (0, 6), (0, 8), (0, 9), (0, 11), (0, 12), (0, 14), (0, 15), (2, 4), (2, 7), (2, 10), (2, 13), (2, 16), (2, 17), (0, 18), (0, 19), (0, 20), (0, 21), (0, 22)] .fin) (by kernel_rfl) rfl (by kernel_rfl) (by kernel_rfl) (fun c a d v w h => by cases d <;> exact h) HBK.out ?_
 refine ords_pure rfl (fun K hK => ?_); go_simp; refine hK _ ?_; clear hK K
 refine ords_held (v := Value.agg ([Value.int .i64 kk, .int .i64 m, .int .i64 pp, .int .i64 ll, .int .i64 t]).toArray) rfl rfl (fun w9 hS => pure_load_mid 23 (.tmp 8) rfl g 0 rfl ([Value.int .i64 kk, .int .i64 m, .int .i64 pp, .int .i64 ll, .int .i64 t]) _ (hS.range 0 5) hua.out rfl (by kernel_rfl)) ?_; go_simp
 iterate 5 (refine ords_pure rfl (fun K hK => ?_); go_simp; refine hK _ ?_; clear hK K; refine ords_heldK rfl (fun K K2 hK hK2 => ?_); go_simp; refine ⟨hK2 _ (fun w9 hS => ?_), hK _ ?_⟩; (clear hK hK2 K K2; have q5 : w9.cell? ⟨g, 5, none⟩ = some (.slice p.A p.n p.c) := hS.cell 5; have q6 : w9.cell? ⟨g, 6, none⟩ = some (.slice s.A s.n s.c) := hS.cell 6; have q7 : w9.cell? ⟨g, 7, none⟩ = some (.slice x.A x.n x.c) := hS.cell 7; have q8 : w9.cell? ⟨g, 8, none⟩ = some (.slice e.A e.n e.c) := hS.cell 8; have q9 : w9.cell? ⟨g, 9, none⟩ = some (.slice tg.A tg.n tg.c) := hS.cell 9; clear hS; go_simp); (clear hK hK2 K K2))
 refine ords_loud rfl (fun n1 => ?_)
 clear q5 q6 q7 q8 q9
 replace HB := Lib.hid (bdr HB.out n1); replace HBK := Lib.hid (HBK.out.drewN n1); (try replace O1 := Lib.hid (O1.out.drewN n1)); (try replace O2 := Lib.hid (O2.out.drewN n1)); (try replace O3 := Lib.hid (O3.out.drewN n1)); (try replace O4 := Lib.hid (O4.out.drewN n1)); (try replace O5 := Lib.hid (O5.out.drewN n1)); generalize u.drewN n1 = u at *
 (go_wp2_with (go_at_call 11; refine (HCP.out tg lt_ _ (HT.out.below HB.out)).mono ?_; rintro e1 u ⟨A1, c1, rfl, ho1, hb1⟩))
 replace HB := Lib.hid (bcall HB.out hb1); replace HBK := Lib.hid (HBK.out.below hb1 HBK.out.lt); (try replace O1 := Lib.hid (O1.out.below hb1 (Nat.le_refl _))); (try replace O2 := Lib.hid (O2.out.below hb1 (Nat.le_refl _))); (try replace O3 := Lib.hid (O3.out.below hb1 (Nat.le_refl _))); (try replace O4 := Lib.hid (O4.out.below hb1 (Nat.le_refl _))); (try replace O5 := Lib.hid (O5.out.below hb1 (Nat.le_refl _)))
 have O1 := Lib.hid ho1
 clear ho1 hb1
 refine ⟨HBK.out, ?_⟩
 go_simp
 refine ords_loud rfl (fun n2 => ?_)
 replace HB := Lib.hid (bdr HB.out n2); replace HBK := Lib.hid (HBK.out.drewN n2); (try replace O1 := Lib.hid (O1.out.drewN n2)); (try replace O2 := Lib.hid (O2.out.drewN n2)); (try replace O3 := Lib.hid (O3.out.drewN n2)); (try replace O4 := Lib.hid (O4.out.drewN n2)); (try replace O5 := Lib.hid (O5.out.drewN n2)); generalize u.drewN n2 = u at *
 (go_wp2_with (go_at_call 11; refine (HCP.out p lp _ (HP.out.below HB.out)).mono ?_; rintro e1 u ⟨A2, c2, rfl, ho1, hb1⟩))
 replace HB := Lib.hid (bcall HB.out hb1); replace HBK := Lib.hid (HBK.out.below hb1 HBK.out.lt); (try replace O1 := Lib.hid (O1.out.below hb1 (Nat.le_refl _))); (try replace O2 := Lib.hid (O2.out.below hb1 (Nat.le_refl _))); (try replace O3 := Lib.hid (O3.out.below hb1 (Nat.le_refl _))); (try replace O4 := Lib.hid (O4.out.below hb1 (Nat.le_refl _))); (try replace O5 := Lib.hid (O5.out.below hb1 (Nat.le_refl _)))
 have O2 := Lib.hid ho1
 clear ho1 hb1
 refine ⟨HBK.out, ?_⟩
 go_simp
 refine ords_loud rfl (fun n3 => ?_)
 replace HB := Lib.hid (bdr HB.out n3); replace HBK := Lib.hid (HBK.out.drewN n3); (try replace O1 := Lib.hid (O1.out.drewN n3)); (try replace O2 := Lib.hid (O2.out.drewN n3)); (try replace O3 := Lib.hid (O3.out.drewN n3)); (try replace O4 := Lib.hid (O4.out.drewN n3)); (try replace O5 := Lib.hid (O5.out.drewN n3)); generalize u.drewN n3 = u at *
 (go_wp2_with (go_at_call 11; refine (HCP.out s ls _ (HS.out.below HB.out)).mono ?_; rintro e1 u ⟨A3, c3, rfl, ho1, hb1⟩))
 replace HB := Lib.hid (bcall HB.out hb1); replace HBK := Lib.hid (HBK.out.below hb1 HBK.out.lt); (try replace O1 := Lib.hid (O1.out.below hb1 (Nat.le_refl _))); (try replace O2 := Lib.hid (O2.out.below hb1 (Nat.le_refl _))); (try replace O3 := Lib.hid (O3.out.below hb1 (Nat.le_refl _))); (try replace O4 := Lib.hid (O4.out.below hb1 (Nat.le_refl _))); (try replace O5 := Lib.hid (O5.out.below hb1 (Nat.le_refl _)))
 have O3 := Lib.hid ho1
 clear ho1 hb1
 refine ⟨HBK.out, ?_⟩
 go_simp
 refine ords_loud rfl (fun n4 => ?_)
 replace HB := Lib.hid (bdr HB.out n4); replace HBK := Lib.hid (HBK.out.drewN n4); (try replace O1 := Lib.hid (O1.out.drewN n4)); (try replace O2 := Lib.hid (O2.out.drewN n4)); (try replace O3 := Lib.hid (O3.out.drewN n4)); (try replace O4 := Lib.hid (O4.out.drewN n4)); (try replace O5 := Lib.hid (O5.out.drewN n4)); generalize u.drewN n4 = u at *
 (go_wp2_with (go_at_call 11; refine (HCP.out x lx _ (HX.out.below HB.out)).mono ?_; rintro e1 u ⟨A4, c4, rfl, ho1, hb1⟩))
 replace HB := Lib.hid (bcall HB.out hb1); replace HBK := Lib.hid (HBK.out.below hb1 HBK.out.lt); (try replace O1 := Lib.hid (O1.out.below hb1 (Nat.le_refl _))); (try replace O2 := Lib.hid (O2.out.below hb1 (Nat.le_refl _))); (try replace O3 := Lib.hid (O3.out.below hb1 (Nat.le_refl _))); (try replace O4 := Lib.hid (O4.out.below hb1 (Nat.le_refl _))); (try replace O5 := Lib.hid (O5.out.below hb1 (Nat.le_refl _)))
 have O4 := Lib.hid ho1
 clear ho1 hb1
 refine ⟨HBK.out, ?_⟩
 go_simp
 refine ords_loud rfl (fun n5 => ?_)
 replace HB := Lib.hid (bdr HB.out n5); replace HBK := Lib.hid (HBK.out.drewN n5); (try replace O1 := Lib.hid (O1.out.drewN n5)); (try replace O2 := Lib.hid (O2.out.drewN n5)); (try replace O3 := Lib.hid (O3.out.drewN n5)); (try replace O4 := Lib.hid (O4.out.drewN n5)); (try replace O5 := Lib.hid (O5.out.drewN n5)); generalize u.drewN n5 = u at *
 (go_wp2_with (go_at_call 11; refine (HCP.out e le_ _ (HE.out.below HB.out)).mono ?_; rintro e1 u ⟨A5, c5, rfl, ho1, hb1⟩))
 replace HB := Lib.hid (bcall HB.out hb1); replace HBK := Lib.hid (HBK.out.below hb1 HBK.out.lt); (try replace O1 := Lib.hid (O1.out.below hb1 (Nat.le_refl _))); (try replace O2 := Lib.hid (O2.out.below hb1 (Nat.le_refl _))); (try replace O3 := Lib.hid (O3.out.below hb1 (Nat.le_refl _))); (try replace O4 := Lib.hid (O4.out.below hb1 (Nat.le_refl _))); (try replace O5 := Lib.hid (O5.out.below hb1 (Nat.le_refl _)))
 have O5 := Lib.hid ho1
 clear ho1 hb1
 refine ⟨HBK.out, ?_⟩
 go_simp
 refine ords_loud rfl (fun n6 => ?_)
 replace HB := Lib.hid (bdr HB.out n6); replace HBK := Lib.hid (HBK.out.drewN n6); (try replace O1 := Lib.hid (O1.out.drewN n6)); (try replace O2 := Lib.hid (O2.out.drewN n6)); (try replace O3 := Lib.hid (O3.out.drewN n6)); (try replace O4 := Lib.hid (O4.out.drewN n6)); (try replace O5 := Lib.hid (O5.out.drewN n6)); generalize u.drewN n6 = u at *
 go_wp2_with (go_at_call 10; refine (HVP.out A1 A2 A3 A4 A5 c1 c2 c3 c4 c5 _ O1.out.reads O2.out.reads O3.out.reads O4.out.reads O5.out.reads).mono ?_; rintro e6 u ⟨rfl, hb6⟩)
 replace HB := Lib.hid (bcall HB.out hb6); replace HBK := Lib.hid (HBK.out.below hb6 HBK.out.lt); (try replace O1 := Lib.hid (O1.out.below hb6 (Nat.le_refl _))); (try replace O2 := Lib.hid (O2.out.below hb6 (Nat.le_refl _))); (try replace O3 := Lib.hid (O3.out.below hb6 (Nat.le_refl _))); (try replace O4 := Lib.hid (O4.out.below hb6 (Nat.le_refl _))); (try replace O5 := Lib.hid (O5.out.below hb6 (Nat.le_refl _)))
 clear hb6
 refine ⟨HBK.out, ?_⟩
 go_simp
 iterate 5 (refine ords_pure rfl (fun K hK => ?_); go_simp; refine hK _ ?_; clear hK K)
 refine ords_end (fun n7 => ?_)
 replace HB := Lib.hid (bdr HB.out n7); replace HBK := Lib.hid (HBK.out.drewN n7); (try replace O1 := Lib.hid (O1.out.drewN n7)); (try replace O2 := Lib.hid (O2.out.drewN n7)); (try replace O3 := Lib.hid (O3.out.drewN n7)); (try replace O4 := Lib.hid (O4.out.drewN n7)); (try replace O5 := Lib.hid (O5.out.drewN n7)); generalize u.drewN n7 = u at *
 have ZR := Lib.hid (show u.rangeAt g 0 [Value.int .i64 kk, .int .i64 m, .int .i64 pp, .int .i64 ll, .int .i64 t] from HBK.out.range 0 5)
 have q5 : u.cell? ⟨g, 5, none⟩ = some (.slice p.A p.n p.c) := HBK.out.cell 5; have q6 : u.cell? ⟨g, 6, none⟩ = some (.slice s.A s.n s.c) := HBK.out.cell 6; have q7 : u.cell? ⟨g, 7, none⟩ = some (.slice x.A x.n x.c) := HBK.out.cell 7; have q8 : u.cell? ⟨g, 8, none⟩ = some (.slice e.A e.n e.c) := HBK.out.cell 8; have q9 : u.cell? ⟨g, 9, none⟩ = some (.slice tg.A tg.n tg.c) := HBK.out.cell 9
 have lb := HBK.out.lt
 go_wp2_with first
  | (refine wpList_load_mid rfl 23 (.tmp 29) rfl g 0 rfl _ _ ZR.out hua.out rfl (by kernel_rfl) ?_)
  | (go_at_call 12; refine (HVR.out u ((HT.out.below HB.out).reads) ((HP.out.below HB.out).reads) ((HS.out.below HB.out).reads) ((HX.out.below HB.out).reads) ((HE.out.below HB.out).reads)).mono ?_; rintro e7 u7 ⟨rfl, hb7⟩)
 exact bodyPost_ret (results_tmp rfl _ _ _) rfl ⟨rfl, bcall HB.out hb7⟩
end Go.Proofs.YtbghkdhkahkfnaaGreat

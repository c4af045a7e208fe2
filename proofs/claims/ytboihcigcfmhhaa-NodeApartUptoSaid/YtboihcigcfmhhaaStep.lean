/-
  G, of mixb: four words of a state. Contracts alone; no statement is claimed here.
-/
import Derived.Test.YtboihcigcfmhhaaCoreA
import Derived.Outline
namespace Go.Proofs.Ytboihcigcfmhhaa
open Go.RowKit
attribute [local go_sem] pureUpon Ords.of

def gm64 (q : Qd UInt64) (x y : UInt64) : Qd UInt64 :=
  let a := q.a + (q.b + x)
  let d := rotr (q.d ^^^ a) 32
  let c := q.c + d
  let b := rotr (q.b ^^^ c) 24
  let a := a + (b + y)
  let d := rotr (d ^^^ a) 16
  let c := c + d
  let b := rotr (b ^^^ c) 63
  ⟨a, b, c, d⟩
theorem wcs_at' (l : List UInt64) (k : Nat) (v : UInt64) (h : l[k]? = some v) : (wcs l)[k]? = some (.int .u64 (wrd v)) := by unfold wcs; simp [h, wv]

set_option maxRecDepth 20000 in
set_option maxHeartbeats 4000000 in
theorem step_any (g : Nat) (p : Pl) (V : List UInt64) (x y : UInt64) (w : World) (hp : p.Ok) (hV : V.length = 16) (hg : Blk w g 116 (wcs V)) :
    Calls Try.prog 76 #[.pointer (some ⟨g, 0, none⟩), plv p, .int .u64 (wrd x), .int .u64 (wrd y)] w fun e w' => e = .returned (.tuple #[]) ∧ Blk w' g 116 (wcs (p.lay V (gm64 (p.get 0 V) x y))) ∧ w.grownBy w' (some g) := by
  have hl := lay_get hp 0 V hV
  have HP := Lib.hid hp
  obtain ⟨q, hq⟩ : ∃ q, q = p.get 0 V := ⟨_, rfl⟩
  rw [← hq] at hl ⊢
  rw [← hl] at hg
  have HAa := Lib.hid fun q => at_a hp V q hV
  have HAb := Lib.hid fun q => at_b hp V q hV
  have HAc := Lib.hid fun q => at_c hp V q hV
  have HAd := Lib.hid fun q => at_d hp V q hV
  have HLa := Lib.hid (lay_a hp V); have HLb := Lib.hid (lay_b hp V); have HLc := Lib.hid (lay_c hp V); have HLd := Lib.hid (lay_d (p := p) V)
  have la := hp.a; have lb := hp.b; have lc := hp.c; have ld := hp.d
  generalize hlay : p.lay V = lay at *
  clear hlay hl hp HP hV hq
  obtain ⟨pa, pb, pc, pd⟩ := p
  unfold plv
  dsimp only at *
  obtain ⟨ka, kb, kc, kd⟩ := q
  have i1 : (pa : Int) < 16 := by omega
  have i2 : (pb : Int) < 16 := by omega
  have i3 : (pc : Int) < 16 := by omega
  have i4 : (pd : Int) < 16 := by omega
  have h1 := wrd_add; have h2 := wrd_xor
  have HB := Lib.hid hg; clear hg
  go_enter Try.func76, Try.ntmps76
  go_wp2
  go_quiet (fail)
  have hb := ((HB.out.alloc (.cells #[.int .i64 pa, .int .i64 pb, .int .i64 pc, .int .i64 pd] 139))).drewN nq
  have hgr := only_of_below (bdr (bal (b0 w) (.cells #[.int .i64 pa, .int .i64 pb, .int .i64 pc, .int .i64 pd] 139)) nq) (some g)
  generalize (w.alloc (.cells #[.int .i64 pa, .int .i64 pb, .int .i64 pc, .int .i64 pd] 139)).drewN nq = wc at *
  clear HB
  have HB := Lib.hid hb; have HG := Lib.hid hgr; clear hb hgr
  go_wp2_with fail
  have ga : wc.cell? ⟨g, pa, none⟩ = some (.int .u64 (wrd ka)) := (HB.out.cell _).trans (wcs_at' _ _ _ (HAa.out _))
  have gb : wc.cell? ⟨g, pb, none⟩ = some (.int .u64 (wrd kb)) := (HB.out.cell _).trans (wcs_at' _ _ _ (HAb.out _))
  have gc : wc.cell? ⟨g, pc, none⟩ = some (.int .u64 (wrd kc)) := (HB.out.cell _).trans (wcs_at' _ _ _ (HAc.out _))
  have gd : wc.cell? ⟨g, pd, none⟩ = some (.int .u64 (wrd kd)) := (HB.out.cell _).trans (wcs_at' _ _ _ (HAd.out _))
  have fa : ∀ i, wc.frozen? ⟨g, i, none⟩ = false := HB.out.frozen
  refine wp_region_ords (fun _ => True) (fun _ _ h => h) (Ords.of [(0, 0), (0, 1), (0, 2), (0, 3), (1, 4), (0, 5), (0, 6), (0, 7), (0, 8), (1, 9), (0, 10), (0, 11), (0, 12), (0, 13), (0, 14), (2, 15)] .fin) (by kernel_rfl) rfl (by kernel_rfl) (by kernel_rfl) (fun c a d v w h => by cases d <;> exact h) trivial ?_
  iterate 2 (refine ords_pure rfl (fun K hK => ?_); go_simp; refine hK _ ?_; clear hK K; refine ords_pure rfl (fun K hK => ?_); go_simp; refine hK _ ?_; clear hK K; refine ords_pure rfl (fun K hK => ?_); go_simp; refine hK _ ?_; clear hK K; refine ords_pure rfl (fun K hK => ?_); go_simp; refine hK _ ?_; clear hK K; refine ords_read rfl (fun K hK => ?_); go_simp; refine hK _ ?_; clear hK K)
  iterate 5 (refine ords_pure rfl (fun K hK => ?_); go_simp; refine hK _ ?_; clear hK K)
  refine ords_loud rfl (fun n1 => ?_)
  go_wp2
  first | (refine ⟨trivial, ?_⟩; refine ords_end (fun n2 => ?_)) | (rintro _ ⟨n2, rfl⟩)
  have hb := ((HB.out.drewN n1).set_ pa (wv (ka + (kb + x)))).drewN n2
  rw [wcs_set, HLa.out] at hb
  dsimp only at hb
  have hgr := gdr (grown_set (gdr HG.out (n1)) (p := ⟨g, pa, none⟩) (.inl rfl) (wv (ka + (kb + x)))) n2
  go_wp2_with fail
  change Blk (World.drewN (World.setCell (World.drewN wc (n1)) ⟨g, pa, none⟩ (.int .u64 (wrd ((ka + (kb + x)))))) n2) _ _ _ at hb
  change w.grownBy (World.drewN (World.setCell (World.drewN wc (n1)) ⟨g, pa, none⟩ (.int .u64 (wrd ((ka + (kb + x)))))) n2) _ at hgr
  clear ga gb gc gd fa HB HG
  generalize World.drewN (World.setCell (World.drewN wc (n1)) ⟨g, pa, none⟩ (.int .u64 (wrd ((ka + (kb + x)))))) n2 = wn at *
  obtain ⟨a1, ha1⟩ : ∃ a1, a1 = (ka + (kb + x)) := ⟨_, rfl⟩
  rw [← ha1] at hb ⊢
  clear wc
  obtain ⟨wc, hwc⟩ : ∃ wc, wc = wn := ⟨_, rfl⟩
  rw [← hwc] at hb hgr ⊢
  clear hwc
  have Ea1 := Lib.hid ha1; have HB := Lib.hid hb; have HG := Lib.hid hgr; clear hb hgr ha1
  have ga : wc.cell? ⟨g, pa, none⟩ = some (.int .u64 (wrd a1)) := (HB.out.cell _).trans (wcs_at' _ _ _ (HAa.out _))
  have gb : wc.cell? ⟨g, pb, none⟩ = some (.int .u64 (wrd kb)) := (HB.out.cell _).trans (wcs_at' _ _ _ (HAb.out _))
  have gc : wc.cell? ⟨g, pc, none⟩ = some (.int .u64 (wrd kc)) := (HB.out.cell _).trans (wcs_at' _ _ _ (HAc.out _))
  have gd : wc.cell? ⟨g, pd, none⟩ = some (.int .u64 (wrd kd)) := (HB.out.cell _).trans (wcs_at' _ _ _ (HAd.out _))
  have fa : ∀ i, wc.frozen? ⟨g, i, none⟩ = false := HB.out.frozen
  refine wp_region_ords (fun _ => True) (fun _ _ h => h) (Ords.of [(0, 0), (0, 1), (0, 2), (0, 3), (0, 4), (0, 5), (1, 6), (0, 7), (0, 8), (0, 9), (0, 10), (1, 11), (0, 12), (0, 14), (2, 13), (0, 15), (2, 16)] .fin) (by kernel_rfl) rfl (by kernel_rfl) (by kernel_rfl) (fun c a d v w h => by cases d <;> exact h) trivial ?_
  iterate 6 (refine ords_pure rfl (fun K hK => ?_); go_simp; refine hK _ ?_; clear hK K)
  refine ords_read rfl (fun K hK => ?_); go_simp; refine hK _ ?_; clear hK K
  iterate 4 (refine ords_pure rfl (fun K hK => ?_); go_simp; refine hK _ ?_; clear hK K)
  refine ords_read rfl (fun K hK => ?_); go_simp; refine hK _ ?_; clear hK K
  iterate 2 (refine ords_pure rfl (fun K hK => ?_); go_simp; refine hK _ ?_; clear hK K)
  refine ords_loud rfl (fun n1 => ?_)
  go_wp2_with (go_at_call 79; refine (rotl_32 _ _).mono ?_; rintro e w9 ⟨rfl, rfl⟩)
  refine ⟨trivial, ?_⟩
  refine ords_pure rfl (fun K hK => ?_); go_simp; refine hK _ ?_; clear hK K
  refine ords_loud rfl (fun n2 => ?_)
  go_wp2
  first | (refine ⟨trivial, ?_⟩; refine ords_end (fun n3 => ?_)) | (rintro _ ⟨n3, rfl⟩)
  have hb := ((HB.out.drewN (n1 + n2)).set_ pd (wv (rotr (kd ^^^ a1) 32))).drewN n3
  rw [wcs_set, HLd.out] at hb
  dsimp only at hb
  have hgr := gdr (grown_set (gdr HG.out ((n1 + n2))) (p := ⟨g, pd, none⟩) (.inl rfl) (wv (rotr (kd ^^^ a1) 32))) n3
  go_wp2_with fail
  change Blk (World.drewN (World.setCell (World.drewN wc ((n1 + n2))) ⟨g, pd, none⟩ (.int .u64 (wrd ((rotr (kd ^^^ a1) 32))))) n3) _ _ _ at hb
  change w.grownBy (World.drewN (World.setCell (World.drewN wc ((n1 + n2))) ⟨g, pd, none⟩ (.int .u64 (wrd ((rotr (kd ^^^ a1) 32))))) n3) _ at hgr
  clear ga gb gc gd fa HB HG
  generalize World.drewN (World.setCell (World.drewN wc ((n1 + n2))) ⟨g, pd, none⟩ (.int .u64 (wrd ((rotr (kd ^^^ a1) 32))))) n3 = wn at *
  obtain ⟨d1, hd1⟩ : ∃ d1, d1 = (rotr (kd ^^^ a1) 32) := ⟨_, rfl⟩
  rw [← hd1] at hb ⊢
  clear wc
  obtain ⟨wc, hwc⟩ : ∃ wc, wc = wn := ⟨_, rfl⟩
  rw [← hwc] at hb hgr ⊢
  clear hwc
  have Ed1 := Lib.hid hd1; have HB := Lib.hid hb; have HG := Lib.hid hgr; clear hb hgr hd1
  have ga : wc.cell? ⟨g, pa, none⟩ = some (.int .u64 (wrd a1)) := (HB.out.cell _).trans (wcs_at' _ _ _ (HAa.out _))
  have gb : wc.cell? ⟨g, pb, none⟩ = some (.int .u64 (wrd kb)) := (HB.out.cell _).trans (wcs_at' _ _ _ (HAb.out _))
  have gc : wc.cell? ⟨g, pc, none⟩ = some (.int .u64 (wrd kc)) := (HB.out.cell _).trans (wcs_at' _ _ _ (HAc.out _))
  have gd : wc.cell? ⟨g, pd, none⟩ = some (.int .u64 (wrd d1)) := (HB.out.cell _).trans (wcs_at' _ _ _ (HAd.out _))
  have fa : ∀ i, wc.frozen? ⟨g, i, none⟩ = false := HB.out.frozen
  refine wp_region_ords (fun _ => True) (fun _ _ h => h) (Ords.of [(0, 0), (0, 1), (0, 2), (0, 3), (1, 4), (0, 5), (0, 6), (0, 7), (0, 8), (1, 9), (0, 10), (0, 11), (0, 12), (2, 13)] .fin) (by kernel_rfl) rfl (by kernel_rfl) (by kernel_rfl) (fun c a d v w h => by cases d <;> exact h) trivial ?_
  iterate 2 (refine ords_pure rfl (fun K hK => ?_); go_simp; refine hK _ ?_; clear hK K; refine ords_pure rfl (fun K hK => ?_); go_simp; refine hK _ ?_; clear hK K; refine ords_pure rfl (fun K hK => ?_); go_simp; refine hK _ ?_; clear hK K; refine ords_pure rfl (fun K hK => ?_); go_simp; refine hK _ ?_; clear hK K; refine ords_read rfl (fun K hK => ?_); go_simp; refine hK _ ?_; clear hK K)
  iterate 3 (refine ords_pure rfl (fun K hK => ?_); go_simp; refine hK _ ?_; clear hK K)
  refine ords_loud rfl (fun n1 => ?_)
  go_wp2
  first | (refine ⟨trivial, ?_⟩; refine ords_end (fun n2 => ?_)) | (rintro _ ⟨n2, rfl⟩)
  have hb := ((HB.out.drewN n1).set_ pc (wv (kc + d1))).drewN n2
  rw [wcs_set, HLc.out] at hb
  dsimp only at hb
  have hgr := gdr (grown_set (gdr HG.out (n1)) (p := ⟨g, pc, none⟩) (.inl rfl) (wv (kc + d1))) n2
  go_wp2_with fail
  change Blk (World.drewN (World.setCell (World.drewN wc (n1)) ⟨g, pc, none⟩ (.int .u64 (wrd ((kc + d1))))) n2) _ _ _ at hb
  change w.grownBy (World.drewN (World.setCell (World.drewN wc (n1)) ⟨g, pc, none⟩ (.int .u64 (wrd ((kc + d1))))) n2) _ at hgr
  clear ga gb gc gd fa HB HG
  generalize World.drewN (World.setCell (World.drewN wc (n1)) ⟨g, pc, none⟩ (.int .u64 (wrd ((kc + d1))))) n2 = wn at *
  obtain ⟨c1, hc1⟩ : ∃ c1, c1 = (kc + d1) := ⟨_, rfl⟩
  rw [← hc1] at hb ⊢
  clear wc
  obtain ⟨wc, hwc⟩ : ∃ wc, wc = wn := ⟨_, rfl⟩
  rw [← hwc] at hb hgr ⊢
  clear hwc
  have Ec1 := Lib.hid hc1; have HB := Lib.hid hb; have HG := Lib.hid hgr; clear hb hgr hc1
  have ga : wc.cell? ⟨g, pa, none⟩ = some (.int .u64 (wrd a1)) := (HB.out.cell _).trans (wcs_at' _ _ _ (HAa.out _))
  have gb : wc.cell? ⟨g, pb, none⟩ = some (.int .u64 (wrd kb)) := (HB.out.cell _).trans (wcs_at' _ _ _ (HAb.out _))
  have gc : wc.cell? ⟨g, pc, none⟩ = some (.int .u64 (wrd c1)) := (HB.out.cell _).trans (wcs_at' _ _ _ (HAc.out _))
  have gd : wc.cell? ⟨g, pd, none⟩ = some (.int .u64 (wrd d1)) := (HB.out.cell _).trans (wcs_at' _ _ _ (HAd.out _))
  have fa : ∀ i, wc.frozen? ⟨g, i, none⟩ = false := HB.out.frozen
  refine wp_region_ords (fun _ => True) (fun _ _ h => h) (Ords.of [(0, 0), (0, 1), (0, 2), (0, 3), (0, 4), (0, 5), (1, 6), (0, 7), (0, 8), (0, 9), (0, 10), (1, 11), (0, 12), (0, 14), (2, 13), (0, 15), (2, 16)] .fin) (by kernel_rfl) rfl (by kernel_rfl) (by kernel_rfl) (fun c a d v w h => by cases d <;> exact h) trivial ?_
  iterate 6 (refine ords_pure rfl (fun K hK => ?_); go_simp; refine hK _ ?_; clear hK K)
  refine ords_read rfl (fun K hK => ?_); go_simp; refine hK _ ?_; clear hK K
  iterate 4 (refine ords_pure rfl (fun K hK => ?_); go_simp; refine hK _ ?_; clear hK K)
  refine ords_read rfl (fun K hK => ?_); go_simp; refine hK _ ?_; clear hK K
  iterate 2 (refine ords_pure rfl (fun K hK => ?_); go_simp; refine hK _ ?_; clear hK K)
  refine ords_loud rfl (fun n1 => ?_)
  go_wp2_with (go_at_call 79; refine (rotl_24 _ _).mono ?_; rintro e w9 ⟨rfl, rfl⟩)
  refine ⟨trivial, ?_⟩
  refine ords_pure rfl (fun K hK => ?_); go_simp; refine hK _ ?_; clear hK K
  refine ords_loud rfl (fun n2 => ?_)
  go_wp2
  first | (refine ⟨trivial, ?_⟩; refine ords_end (fun n3 => ?_)) | (rintro _ ⟨n3, rfl⟩)
  have hb := ((HB.out.drewN (n1 + n2)).set_ pb (wv (rotr (kb ^^^ c1) 24))).drewN n3
  rw [wcs_set, HLb.out] at hb
  dsimp only at hb
  have hgr := gdr (grown_set (gdr HG.out ((n1 + n2))) (p := ⟨g, pb, none⟩) (.inl rfl) (wv (rotr (kb ^^^ c1) 24))) n3
  go_wp2_with fail
  change Blk (World.drewN (World.setCell (World.drewN wc ((n1 + n2))) ⟨g, pb, none⟩ (.int .u64 (wrd ((rotr (kb ^^^ c1) 24))))) n3) _ _ _ at hb
  change w.grownBy (World.drewN (World.setCell (World.drewN wc ((n1 + n2))) ⟨g, pb, none⟩ (.int .u64 (wrd ((rotr (kb ^^^ c1) 24))))) n3) _ at hgr
  clear ga gb gc gd fa HB HG
  generalize World.drewN (World.setCell (World.drewN wc ((n1 + n2))) ⟨g, pb, none⟩ (.int .u64 (wrd ((rotr (kb ^^^ c1) 24))))) n3 = wn at *
  obtain ⟨b1, hb1⟩ : ∃ b1, b1 = (rotr (kb ^^^ c1) 24) := ⟨_, rfl⟩
  rw [← hb1] at hb ⊢
  clear wc
  obtain ⟨wc, hwc⟩ : ∃ wc, wc = wn := ⟨_, rfl⟩
  rw [← hwc] at hb hgr ⊢
  clear hwc
  have Eb1 := Lib.hid hb1; have HB := Lib.hid hb; have HG := Lib.hid hgr; clear hb hgr hb1
  have ga : wc.cell? ⟨g, pa, none⟩ = some (.int .u64 (wrd a1)) := (HB.out.cell _).trans (wcs_at' _ _ _ (HAa.out _))
  have gb : wc.cell? ⟨g, pb, none⟩ = some (.int .u64 (wrd b1)) := (HB.out.cell _).trans (wcs_at' _ _ _ (HAb.out _))
  have gc : wc.cell? ⟨g, pc, none⟩ = some (.int .u64 (wrd c1)) := (HB.out.cell _).trans (wcs_at' _ _ _ (HAc.out _))
  have gd : wc.cell? ⟨g, pd, none⟩ = some (.int .u64 (wrd d1)) := (HB.out.cell _).trans (wcs_at' _ _ _ (HAd.out _))
  have fa : ∀ i, wc.frozen? ⟨g, i, none⟩ = false := HB.out.frozen
  refine wp_region_ords (fun _ => True) (fun _ _ h => h) (Ords.of [(0, 0), (0, 1), (0, 2), (0, 3), (1, 4), (0, 5), (0, 6), (0, 7), (0, 8), (1, 9), (0, 10), (0, 11), (0, 12), (0, 13), (0, 14), (2, 15)] .fin) (by kernel_rfl) rfl (by kernel_rfl) (by kernel_rfl) (fun c a d v w h => by cases d <;> exact h) trivial ?_
  iterate 2 (refine ords_pure rfl (fun K hK => ?_); go_simp; refine hK _ ?_; clear hK K; refine ords_pure rfl (fun K hK => ?_); go_simp; refine hK _ ?_; clear hK K; refine ords_pure rfl (fun K hK => ?_); go_simp; refine hK _ ?_; clear hK K; refine ords_pure rfl (fun K hK => ?_); go_simp; refine hK _ ?_; clear hK K; refine ords_read rfl (fun K hK => ?_); go_simp; refine hK _ ?_; clear hK K)
  iterate 5 (refine ords_pure rfl (fun K hK => ?_); go_simp; refine hK _ ?_; clear hK K)
  refine ords_loud rfl (fun n1 => ?_)
  go_wp2
  first | (refine ⟨trivial, ?_⟩; refine ords_end (fun n2 => ?_)) | (rintro _ ⟨n2, rfl⟩)
  have hb := ((HB.out.drewN n1).set_ pa (wv (a1 + (b1 + y)))).drewN n2
  rw [wcs_set, HLa.out] at hb
  dsimp only at hb
  have hgr := gdr (grown_set (gdr HG.out (n1)) (p := ⟨g, pa, none⟩) (.inl rfl) (wv (a1 + (b1 + y)))) n2
  go_wp2_with fail
  change Blk (World.drewN (World.setCell (World.drewN wc (n1)) ⟨g, pa, none⟩ (.int .u64 (wrd ((a1 + (b1 + y)))))) n2) _ _ _ at hb
  change w.grownBy (World.drewN (World.setCell (World.drewN wc (n1)) ⟨g, pa, none⟩ (.int .u64 (wrd ((a1 + (b1 + y)))))) n2) _ at hgr
  clear ga gb gc gd fa HB HG
  generalize World.drewN (World.setCell (World.drewN wc (n1)) ⟨g, pa, none⟩ (.int .u64 (wrd ((a1 + (b1 + y)))))) n2 = wn at *
  obtain ⟨a2, ha2⟩ : ∃ a2, a2 = (a1 + (b1 + y)) := ⟨_, rfl⟩
  rw [← ha2] at hb ⊢
  clear wc
  obtain ⟨wc, hwc⟩ : ∃ wc, wc = wn := ⟨_, rfl⟩
  rw [← hwc] at hb hgr ⊢
  clear hwc
  have Ea2 := Lib.hid ha2; have HB := Lib.hid hb; have HG := Lib.hid hgr; clear hb hgr ha2
  have ga : wc.cell? ⟨g, pa, none⟩ = some (.int .u64 (wrd a2)) := (HB.out.cell _).trans (wcs_at' _ _ _ (HAa.out _))
  have gb : wc.cell? ⟨g, pb, none⟩ = some (.int .u64 (wrd b1)) := (HB.out.cell _).trans (wcs_at' _ _ _ (HAb.out _))
  have gc : wc.cell? ⟨g, pc, none⟩ = some (.int .u64 (wrd c1)) := (HB.out.cell _).trans (wcs_at' _ _ _ (HAc.out _))
  have gd : wc.cell? ⟨g, pd, none⟩ = some (.int .u64 (wrd d1)) := (HB.out.cell _).trans (wcs_at' _ _ _ (HAd.out _))
  have fa : ∀ i, wc.frozen? ⟨g, i, none⟩ = false := HB.out.frozen
  refine wp_region_ords (fun _ => True) (fun _ _ h => h) (Ords.of [(0, 0), (0, 1), (0, 2), (0, 3), (0, 4), (0, 5), (1, 6), (0, 7), (0, 8), (0, 9), (0, 10), (1, 11), (0, 12), (0, 14), (2, 13), (0, 15), (2, 16)] .fin) (by kernel_rfl) rfl (by kernel_rfl) (by kernel_rfl) (fun c a d v w h => by cases d <;> exact h) trivial ?_
  iterate 6 (refine ords_pure rfl (fun K hK => ?_); go_simp; refine hK _ ?_; clear hK K)
  refine ords_read rfl (fun K hK => ?_); go_simp; refine hK _ ?_; clear hK K
  iterate 4 (refine ords_pure rfl (fun K hK => ?_); go_simp; refine hK _ ?_; clear hK K)
  refine ords_read rfl (fun K hK => ?_); go_simp; refine hK _ ?_; clear hK K
  iterate 2 (refine ords_pure rfl (fun K hK => ?_); go_simp; refine hK _ ?_; clear hK K)
  refine ords_loud rfl (fun n1 => ?_)
  go_wp2_with (go_at_call 79; refine (rotl_16 _ _).mono ?_; rintro e w9 ⟨rfl, rfl⟩)
  refine ⟨trivial, ?_⟩
  refine ords_pure rfl (fun K hK => ?_); go_simp; refine hK _ ?_; clear hK K
  refine ords_loud rfl (fun n2 => ?_)
  go_wp2
  first | (refine ⟨trivial, ?_⟩; refine ords_end (fun n3 => ?_)) | (rintro _ ⟨n3, rfl⟩)
  have hb := ((HB.out.drewN (n1 + n2)).set_ pd (wv (rotr (d1 ^^^ a2) 16))).drewN n3
  rw [wcs_set, HLd.out] at hb
  dsimp only at hb
  have hgr := gdr (grown_set (gdr HG.out ((n1 + n2))) (p := ⟨g, pd, none⟩) (.inl rfl) (wv (rotr (d1 ^^^ a2) 16))) n3
  go_wp2_with fail
  change Blk (World.drewN (World.setCell (World.drewN wc ((n1 + n2))) ⟨g, pd, none⟩ (.int .u64 (wrd ((rotr (d1 ^^^ a2) 16))))) n3) _ _ _ at hb
  change w.grownBy (World.drewN (World.setCell (World.drewN wc ((n1 + n2))) ⟨g, pd, none⟩ (.int .u64 (wrd ((rotr (d1 ^^^ a2) 16))))) n3) _ at hgr
  clear ga gb gc gd fa HB HG
  generalize World.drewN (World.setCell (World.drewN wc ((n1 + n2))) ⟨g, pd, none⟩ (.int .u64 (wrd ((rotr (d1 ^^^ a2) 16))))) n3 = wn at *
  obtain ⟨d2, hd2⟩ : ∃ d2, d2 = (rotr (d1 ^^^ a2) 16) := ⟨_, rfl⟩
  rw [← hd2] at hb ⊢
  clear wc
  obtain ⟨wc, hwc⟩ : ∃ wc, wc = wn := ⟨_, rfl⟩
  rw [← hwc] at hb hgr ⊢
  clear hwc
  have Ed2 := Lib.hid hd2; have HB := Lib.hid hb; have HG := Lib.hid hgr; clear hb hgr hd2
  have ga : wc.cell? ⟨g, pa, none⟩ = some (.int .u64 (wrd a2)) := (HB.out.cell _).trans (wcs_at' _ _ _ (HAa.out _))
  have gb : wc.cell? ⟨g, pb, none⟩ = some (.int .u64 (wrd b1)) := (HB.out.cell _).trans (wcs_at' _ _ _ (HAb.out _))
  have gc : wc.cell? ⟨g, pc, none⟩ = some (.int .u64 (wrd c1)) := (HB.out.cell _).trans (wcs_at' _ _ _ (HAc.out _))
  have gd : wc.cell? ⟨g, pd, none⟩ = some (.int .u64 (wrd d2)) := (HB.out.cell _).trans (wcs_at' _ _ _ (HAd.out _))
  have fa : ∀ i, wc.frozen? ⟨g, i, none⟩ = false := HB.out.frozen
  refine wp_region_ords (fun _ => True) (fun _ _ h => h) (Ords.of [(0, 0), (0, 1), (0, 2), (0, 3), (1, 4), (0, 5), (0, 6), (0, 7), (0, 8), (1, 9), (0, 10), (0, 11), (0, 12), (2, 13)] .fin) (by kernel_rfl) rfl (by kernel_rfl) (by kernel_rfl) (fun c a d v w h => by cases d <;> exact h) trivial ?_
  iterate 2 (refine ords_pure rfl (fun K hK => ?_); go_simp; refine hK _ ?_; clear hK K; refine ords_pure rfl (fun K hK => ?_); go_simp; refine hK _ ?_; clear hK K; refine ords_pure rfl (fun K hK => ?_); go_simp; refine hK _ ?_; clear hK K; refine ords_pure rfl (fun K hK => ?_); go_simp; refine hK _ ?_; clear hK K; refine ords_read rfl (fun K hK => ?_); go_simp; refine hK _ ?_; clear hK K)
  iterate 3 (refine ords_pure rfl (fun K hK => ?_); go_simp; refine hK _ ?_; clear hK K)
  refine ords_loud rfl (fun n1 => ?_)
  go_wp2
  first | (refine ⟨trivial, ?_⟩; refine ords_end (fun n2 => ?_)) | (rintro _ ⟨n2, rfl⟩)
  have hb := ((HB.out.drewN n1).set_ pc (wv (c1 + d2))).drewN n2
  rw [wcs_set, HLc.out] at hb
  dsimp only at hb
  have hgr := gdr (grown_set (gdr HG.out (n1)) (p := ⟨g, pc, none⟩) (.inl rfl) (wv (c1 + d2))) n2
  go_wp2_with fail
  change Blk (World.drewN (World.setCell (World.drewN wc (n1)) ⟨g, pc, none⟩ (.int .u64 (wrd ((c1 + d2))))) n2) _ _ _ at hb
  change w.grownBy (World.drewN (World.setCell (World.drewN wc (n1)) ⟨g, pc, none⟩ (.int .u64 (wrd ((c1 + d2))))) n2) _ at hgr
  clear ga gb gc gd fa HB HG
  generalize World.drewN (World.setCell (World.drewN wc (n1)) ⟨g, pc, none⟩ (.int .u64 (wrd ((c1 + d2))))) n2 = wn at *
  obtain ⟨c2, hc2⟩ : ∃ c2, c2 = (c1 + d2) := ⟨_, rfl⟩
  rw [← hc2] at hb ⊢
  clear wc
  obtain ⟨wc, hwc⟩ : ∃ wc, wc = wn := ⟨_, rfl⟩
  rw [← hwc] at hb hgr ⊢
  clear hwc
  have Ec2 := Lib.hid hc2; have HB := Lib.hid hb; have HG := Lib.hid hgr; clear hb hgr hc2
  have ga : wc.cell? ⟨g, pa, none⟩ = some (.int .u64 (wrd a2)) := (HB.out.cell _).trans (wcs_at' _ _ _ (HAa.out _))
  have gb : wc.cell? ⟨g, pb, none⟩ = some (.int .u64 (wrd b1)) := (HB.out.cell _).trans (wcs_at' _ _ _ (HAb.out _))
  have gc : wc.cell? ⟨g, pc, none⟩ = some (.int .u64 (wrd c2)) := (HB.out.cell _).trans (wcs_at' _ _ _ (HAc.out _))
  have gd : wc.cell? ⟨g, pd, none⟩ = some (.int .u64 (wrd d2)) := (HB.out.cell _).trans (wcs_at' _ _ _ (HAd.out _))
  have fa : ∀ i, wc.frozen? ⟨g, i, none⟩ = false := HB.out.frozen
  refine wp_region_ords (fun _ => True) (fun _ _ h => h) (Ords.of [(0, 0), (0, 1), (0, 2), (0, 3), (0, 4), (0, 5), (1, 6), (0, 7), (0, 8), (0, 9), (0, 10), (1, 11), (0, 12), (0, 14), (2, 13), (0, 15), (2, 16)] .fin) (by kernel_rfl) rfl (by kernel_rfl) (by kernel_rfl) (fun c a d v w h => by cases d <;> exact h) trivial ?_
  iterate 6 (refine ords_pure rfl (fun K hK => ?_); go_simp; refine hK _ ?_; clear hK K)
  refine ords_read rfl (fun K hK => ?_); go_simp; refine hK _ ?_; clear hK K
  iterate 4 (refine ords_pure rfl (fun K hK => ?_); go_simp; refine hK _ ?_; clear hK K)
  refine ords_read rfl (fun K hK => ?_); go_simp; refine hK _ ?_; clear hK K
  iterate 2 (refine ords_pure rfl (fun K hK => ?_); go_simp; refine hK _ ?_; clear hK K)
  refine ords_loud rfl (fun n1 => ?_)
  go_wp2_with (go_at_call 79; refine (rotl_63 _ _).mono ?_; rintro e w9 ⟨rfl, rfl⟩)
  refine ⟨trivial, ?_⟩
  refine ords_pure rfl (fun K hK => ?_); go_simp; refine hK _ ?_; clear hK K
  refine ords_loud rfl (fun n2 => ?_)
  go_wp2
  first | (refine ⟨trivial, ?_⟩; refine ords_end (fun n3 => ?_)) | (rintro _ ⟨n3, rfl⟩)
  have hb := ((HB.out.drewN (n1 + n2)).set_ pb (wv (rotr (b1 ^^^ c2) 63))).drewN n3
  rw [wcs_set, HLb.out] at hb
  dsimp only at hb
  have hgr := gdr (grown_set (gdr HG.out ((n1 + n2))) (p := ⟨g, pb, none⟩) (.inl rfl) (wv (rotr (b1 ^^^ c2) 63))) n3
  go_wp2_with fail
  change Blk (World.drewN (World.setCell (World.drewN wc ((n1 + n2))) ⟨g, pb, none⟩ (.int .u64 (wrd ((rotr (b1 ^^^ c2) 63))))) n3) _ _ _ at hb
  change w.grownBy (World.drewN (World.setCell (World.drewN wc ((n1 + n2))) ⟨g, pb, none⟩ (.int .u64 (wrd ((rotr (b1 ^^^ c2) 63))))) n3) _ at hgr
  clear ga gb gc gd fa HB HG
  generalize World.drewN (World.setCell (World.drewN wc ((n1 + n2))) ⟨g, pb, none⟩ (.int .u64 (wrd ((rotr (b1 ^^^ c2) 63))))) n3 = wn at *
  obtain ⟨b2, hb2⟩ : ∃ b2, b2 = (rotr (b1 ^^^ c2) 63) := ⟨_, rfl⟩
  rw [← hb2] at hb ⊢
  clear wc
  obtain ⟨wc, hwc⟩ : ∃ wc, wc = wn := ⟨_, rfl⟩
  rw [← hwc] at hb hgr ⊢
  clear hwc
  have Eb2 := Lib.hid hb2; have HB := Lib.hid hb; have HG := Lib.hid hgr; clear hb hgr hb2
  go_end0
  refine ⟨rfl, ?_, HG.out⟩
  have h := HB.out
  rw [Eb2.out, Ec2.out, Ed2.out, Ea2.out, Eb1.out, Ec1.out, Ed1.out, Ea1.out] at h
  exact h
end Go.Proofs.Ytboihcigcfmhhaa

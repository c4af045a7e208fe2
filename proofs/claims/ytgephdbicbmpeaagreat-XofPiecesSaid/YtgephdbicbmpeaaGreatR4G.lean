/-
  G, of the reference: four words of a state. Contracts alone; no statement is claimed here.
-/
import Derived.Test.YtgephdbicbmpeaaGreatR4A
namespace Go.Proofs.YtgephdbicbmpeaaGreat
open Go.RowKit
attribute [local go_sem] pureUpon Ords.of

set_option maxRecDepth 20000 in
set_option maxHeartbeats 4000000 in
theorem r4G_any (p : Pl) (V : List UInt32) (x y : UInt32) (w : World) (hp : p.Ok) (hV : V.length = 16) :
    Calls Tryz.prog 236 #[.agg (wc3 V), .int .i64 p.a, .int .i64 p.b, .int .i64 p.c, .int .i64 p.d, .int .u32 (wr3 x), .int .u32 (wr3 y)] w fun e w' => e = .returned (.tuple #[.agg (wc3 (p.lay V (gm32 (p.get 0 V) x y))), .int .i64 0]) ∧ Below w.heap.size w w' := by
  have hl := lay_get hp 0 V hV
  have HP := Lib.hid hp
  have rp := fun W => r4places_any p W hp
  obtain ⟨q, hq⟩ : ∃ q, q = p.get 0 V := ⟨_, rfl⟩
  have hsz : Hid ((Tryz.prog.info? 257).map (·.size) = some (wc3 (p.lay V (gm32 q x y))).size) := sz16s _ (by rw [lay_len, hV])
  have hVs : Hid (16 = (wc3 (p.lay V (gm32 q x y))).size) := by show _ = _; rw [wc3_size, lay_len, hV]
  have hu := Lib.hid Tryz.underlying257
  have hall := Lib.hid (wc3_all (p.lay V (gm32 q x y)))
  rw [← hq] at hl ⊢
  rw [← hl]
  rw [← hl] at hsz hVs hall
  have elay : ∀ r, p.lay (p.lay V q) r = p.lay V r := fun r => by
    obtain ⟨ra, rb, rc, rd⟩ := r
    have h1 := lay_a hp V q ra; have h2 := lay_b hp V { q with a := ra } rb; have h3 := lay_c hp V { q with a := ra, b := rb } rc; have h4 := lay_d (p := p) V { q with a := ra, b := rb, c := rc } rd
    show (((((p.lay V q).set p.a ra).set p.b rb).set p.c rc).set p.d rd) = _
    rw [h1, h2, h3, h4]
  rw [elay] at hsz hVs hall ⊢
  have HAa := Lib.hid fun q => at_a hp V q hV
  have HAb := Lib.hid fun q => at_b hp V q hV
  have HAc := Lib.hid fun q => at_c hp V q hV
  have HAd := Lib.hid fun q => at_d hp V q hV
  have HLa := Lib.hid (lay_a hp V); have HLb := Lib.hid (lay_b hp V); have HLc := Lib.hid (lay_c hp V); have HLd := Lib.hid (lay_d (p := p) V)
  have la := hp.a; have lb := hp.b; have lc := hp.c; have ld := hp.d
  generalize hlay : p.lay V = lay at *
  clear hlay hl hp HP hV hq elay
  obtain ⟨pa, pb, pc, pd⟩ := p
  dsimp only at *
  obtain ⟨ka, kb, kc, kd⟩ := q
  have i1 : (pa : Int) < 16 := by omega
  have i2 : (pb : Int) < 16 := by omega
  have i3 : (pc : Int) < 16 := by omega
  have i4 : (pd : Int) < 16 := by omega
  have h1 := wr3_add; have h2 := wr3_xor
  obtain ⟨g, hg⟩ : ∃ g, g = w.heap.size := ⟨_, rfl⟩
  have HGE := Lib.hid hg
  have hb : Blk ((w.alloc (.cells (wc3 (lay ⟨ka, kb, kc, kd⟩)) 257)).alloc (.cells z16s 257)) g 257 (wc3 (lay ⟨ka, kb, kc, kd⟩)) := by rw [hg]; exact (Blk.new _ _ _).alloc _
  have hr : Blk ((w.alloc (.cells (wc3 (lay ⟨ka, kb, kc, kd⟩)) 257)).alloc (.cells z16s 257)) (g + 1) 257 z16s := by rw [hg]; simpa using Blk.new (w.alloc (.cells (wc3 (lay ⟨ka, kb, kc, kd⟩)) 257)) 257 z16s
  have hgr : Below w.heap.size w ((w.alloc (.cells (wc3 (lay ⟨ka, kb, kc, kd⟩)) 257)).alloc (.cells z16s 257)) := bal (bal (b0 w) _) _
  unfold z16s at hb hr hgr
  go_enter Tryz.func236, Tryz.ntmps236
  go_upto_region 1 with fail
  rw [← hg]
  generalize (w.alloc (.cells (wc3 (lay ⟨ka, kb, kc, kd⟩)) 257)).alloc (.cells #[.int .u32 0, .int .u32 0, .int .u32 0, .int .u32 0, .int .u32 0, .int .u32 0, .int .u32 0, .int .u32 0, .int .u32 0, .int .u32 0, .int .u32 0, .int .u32 0, .int .u32 0, .int .u32 0, .int .u32 0, .int .u32 0] 257) = wa at *
  clear hg
  have HB := Lib.hid hb; have HR := Lib.hid hr; have HG := Lib.hid hgr; clear hb hr hgr
  have RP := Lib.hid rp; clear rp
  go_wp2_with (go_at_call 247; refine (RP.out _).mono ?_; rintro e wc ⟨rfl, hb9⟩; have HB2 := Lib.hid (HB.out.below hb9 HB.out.lt); have HR2 := Lib.hid (HR.out.below hb9 HR.out.lt); have HG2 := Lib.hid (bcall HG.out hb9); clear hb9)
  clear RP HB HR HG wa
  have HB := Lib.hid HB2.out; have HR := Lib.hid HR2.out; have HG := Lib.hid HG2.out; clear HB2 HR2 HG2
  have ga : wc.cell? ⟨g, pa, none⟩ = some (.int .u32 (wr3 ka)) := (HB.out.cell _).trans (wc3_at' _ _ _ (HAa.out _))
  have gb : wc.cell? ⟨g, pb, none⟩ = some (.int .u32 (wr3 kb)) := (HB.out.cell _).trans (wc3_at' _ _ _ (HAb.out _))
  have gc : wc.cell? ⟨g, pc, none⟩ = some (.int .u32 (wr3 kc)) := (HB.out.cell _).trans (wc3_at' _ _ _ (HAc.out _))
  have gd : wc.cell? ⟨g, pd, none⟩ = some (.int .u32 (wr3 kd)) := (HB.out.cell _).trans (wc3_at' _ _ _ (HAd.out _))
  have fa : ∀ i, wc.frozen? ⟨g, i, none⟩ = false := HB.out.frozen
  refine wp_region_ords (fun _ => True) (fun _ _ h => h) (Ords.of [(0, 0), (0, 1), (0, 2), (1, 3), (0, 4), (0, 5), (1, 6), (0, 7), (0, 8), (0, 9), (0, 10), (2, 11)] .fin) (by kernel_rfl) rfl (by kernel_rfl) (by kernel_rfl) (fun c a d v w h => by cases d <;> exact h) trivial ?_
  refine ords_pure rfl (fun K hK => ?_); go_simp; refine hK _ ?_; clear hK K
  refine ords_pure rfl (fun K hK => ?_); go_simp; refine hK _ ?_; clear hK K
  refine ords_pure rfl (fun K hK => ?_); go_simp; refine hK _ ?_; clear hK K
  refine ords_read rfl (fun K hK => ?_); go_simp; refine hK _ ?_; clear hK K
  refine ords_pure rfl (fun K hK => ?_); go_simp; refine hK _ ?_; clear hK K
  refine ords_pure rfl (fun K hK => ?_); go_simp; refine hK _ ?_; clear hK K
  refine ords_read rfl (fun K hK => ?_); go_simp; refine hK _ ?_; clear hK K
  refine ords_pure rfl (fun K hK => ?_); go_simp; refine hK _ ?_; clear hK K
  refine ords_pure rfl (fun K hK => ?_); go_simp; refine hK _ ?_; clear hK K
  refine ords_pure rfl (fun K hK => ?_); go_simp; refine hK _ ?_; clear hK K
  refine ords_pure rfl (fun K hK => ?_); go_simp; refine hK _ ?_; clear hK K
  refine ords_loud rfl (fun n1 => ?_)
  go_wp2
  first | (refine ⟨trivial, ?_⟩; refine ords_end (fun n2 => ?_)) | (rintro _ ⟨n2, rfl⟩)
  have hb := ((HB.out.drewN n1).set_ pa (wv3 (ka + kb + x))).drewN n2
  rw [wc3_set, HLa.out] at hb
  dsimp only at hb
  have hr := ((HR.out.drewN n1).far (p := ⟨g, pa, none⟩) (show g + 1 ≠ g by omega) (wv3 (ka + kb + x))).drewN n2
  have hgr := bdr (bput (bdr HG.out (n1)) (p := ⟨g, pa, none⟩) (show w.heap.size ≤ g from Nat.le_of_eq HGE.out.symm) (wv3 (ka + kb + x))) n2
  go_wp2_with fail
  change Blk (World.drewN (World.setCell (World.drewN wc (n1)) ⟨g, pa, none⟩ (.int .u32 (wr3 ((ka + kb + x))))) n2) _ _ _ at hb
  change Blk (World.drewN (World.setCell (World.drewN wc (n1)) ⟨g, pa, none⟩ (.int .u32 (wr3 ((ka + kb + x))))) n2) _ _ _ at hr
  change Below _ w (World.drewN (World.setCell (World.drewN wc (n1)) ⟨g, pa, none⟩ (.int .u32 (wr3 ((ka + kb + x))))) n2) at hgr
  clear ga gb gc gd fa HB HG HR
  generalize World.drewN (World.setCell (World.drewN wc (n1)) ⟨g, pa, none⟩ (.int .u32 (wr3 ((ka + kb + x))))) n2 = wn at *
  obtain ⟨a1, ha1⟩ : ∃ a1, a1 = (ka + kb + x) := ⟨_, rfl⟩
  rw [← ha1] at hb ⊢
  clear wc
  obtain ⟨wc, hwc⟩ : ∃ wc, wc = wn := ⟨_, rfl⟩
  rw [← hwc] at hb hr hgr ⊢
  clear hwc
  have Ea1 := Lib.hid ha1; have HB := Lib.hid hb; have HR := Lib.hid hr; have HG := Lib.hid hgr; clear hb hr hgr ha1
  have ga : wc.cell? ⟨g, pa, none⟩ = some (.int .u32 (wr3 a1)) := (HB.out.cell _).trans (wc3_at' _ _ _ (HAa.out _))
  have gb : wc.cell? ⟨g, pb, none⟩ = some (.int .u32 (wr3 kb)) := (HB.out.cell _).trans (wc3_at' _ _ _ (HAb.out _))
  have gc : wc.cell? ⟨g, pc, none⟩ = some (.int .u32 (wr3 kc)) := (HB.out.cell _).trans (wc3_at' _ _ _ (HAc.out _))
  have gd : wc.cell? ⟨g, pd, none⟩ = some (.int .u32 (wr3 kd)) := (HB.out.cell _).trans (wc3_at' _ _ _ (HAd.out _))
  have fa : ∀ i, wc.frozen? ⟨g, i, none⟩ = false := HB.out.frozen
  refine wp_region_ords (fun _ => True) (fun _ _ h => h) (Ords.of [(0, 0), (0, 1), (0, 2), (1, 3), (0, 4), (0, 5), (1, 6), (0, 7), (2, 8), (0, 9), (2, 10)] .fin) (by kernel_rfl) rfl (by kernel_rfl) (by kernel_rfl) (fun c a d v w h => by cases d <;> exact h) trivial ?_
  refine ords_pure rfl (fun K hK => ?_); go_simp; refine hK _ ?_; clear hK K
  refine ords_pure rfl (fun K hK => ?_); go_simp; refine hK _ ?_; clear hK K
  refine ords_pure rfl (fun K hK => ?_); go_simp; refine hK _ ?_; clear hK K
  refine ords_read rfl (fun K hK => ?_); go_simp; refine hK _ ?_; clear hK K
  refine ords_pure rfl (fun K hK => ?_); go_simp; refine hK _ ?_; clear hK K
  refine ords_pure rfl (fun K hK => ?_); go_simp; refine hK _ ?_; clear hK K
  refine ords_read rfl (fun K hK => ?_); go_simp; refine hK _ ?_; clear hK K
  refine ords_pure rfl (fun K hK => ?_); go_simp; refine hK _ ?_; clear hK K
  refine ords_loud rfl (fun n1 => ?_)
  go_wp2_with (go_at_call 248; refine (r4turn_16 _ _).mono ?_; rintro e w9 ⟨rfl, rfl⟩)
  refine ⟨trivial, ?_⟩
  refine ords_pure rfl (fun K hK => ?_); go_simp; refine hK _ ?_; clear hK K
  refine ords_loud rfl (fun n2 => ?_)
  go_wp2
  first | (refine ⟨trivial, ?_⟩; refine ords_end (fun n3 => ?_)) | (rintro _ ⟨n3, rfl⟩)
  have hb := ((HB.out.drewN (n1 + n2)).set_ pd (wv3 (rot3 (kd ^^^ a1) 16))).drewN n3
  rw [wc3_set, HLd.out] at hb
  dsimp only at hb
  have hr := ((HR.out.drewN (n1 + n2)).far (p := ⟨g, pd, none⟩) (show g + 1 ≠ g by omega) (wv3 (rot3 (kd ^^^ a1) 16))).drewN n3
  have hgr := bdr (bput (bdr HG.out ((n1 + n2))) (p := ⟨g, pd, none⟩) (show w.heap.size ≤ g from Nat.le_of_eq HGE.out.symm) (wv3 (rot3 (kd ^^^ a1) 16))) n3
  go_wp2_with fail
  change Blk (World.drewN (World.setCell (World.drewN wc ((n1 + n2))) ⟨g, pd, none⟩ (.int .u32 (wr3 ((rot3 (kd ^^^ a1) 16))))) n3) _ _ _ at hb
  change Blk (World.drewN (World.setCell (World.drewN wc ((n1 + n2))) ⟨g, pd, none⟩ (.int .u32 (wr3 ((rot3 (kd ^^^ a1) 16))))) n3) _ _ _ at hr
  change Below _ w (World.drewN (World.setCell (World.drewN wc ((n1 + n2))) ⟨g, pd, none⟩ (.int .u32 (wr3 ((rot3 (kd ^^^ a1) 16))))) n3) at hgr
  clear ga gb gc gd fa HB HG HR
  generalize World.drewN (World.setCell (World.drewN wc ((n1 + n2))) ⟨g, pd, none⟩ (.int .u32 (wr3 ((rot3 (kd ^^^ a1) 16))))) n3 = wn at *
  obtain ⟨d1, hd1⟩ : ∃ d1, d1 = (rot3 (kd ^^^ a1) 16) := ⟨_, rfl⟩
  rw [← hd1] at hb ⊢
  clear wc
  obtain ⟨wc, hwc⟩ : ∃ wc, wc = wn := ⟨_, rfl⟩
  rw [← hwc] at hb hr hgr ⊢
  clear hwc
  have Ed1 := Lib.hid hd1; have HB := Lib.hid hb; have HR := Lib.hid hr; have HG := Lib.hid hgr; clear hb hr hgr hd1
  have ga : wc.cell? ⟨g, pa, none⟩ = some (.int .u32 (wr3 a1)) := (HB.out.cell _).trans (wc3_at' _ _ _ (HAa.out _))
  have gb : wc.cell? ⟨g, pb, none⟩ = some (.int .u32 (wr3 kb)) := (HB.out.cell _).trans (wc3_at' _ _ _ (HAb.out _))
  have gc : wc.cell? ⟨g, pc, none⟩ = some (.int .u32 (wr3 kc)) := (HB.out.cell _).trans (wc3_at' _ _ _ (HAc.out _))
  have gd : wc.cell? ⟨g, pd, none⟩ = some (.int .u32 (wr3 d1)) := (HB.out.cell _).trans (wc3_at' _ _ _ (HAd.out _))
  have fa : ∀ i, wc.frozen? ⟨g, i, none⟩ = false := HB.out.frozen
  refine wp_region_ords (fun _ => True) (fun _ _ h => h) (Ords.of [(0, 0), (0, 1), (0, 2), (1, 3), (0, 4), (0, 5), (1, 6), (0, 7), (0, 8), (2, 9)] .fin) (by kernel_rfl) rfl (by kernel_rfl) (by kernel_rfl) (fun c a d v w h => by cases d <;> exact h) trivial ?_
  refine ords_pure rfl (fun K hK => ?_); go_simp; refine hK _ ?_; clear hK K
  refine ords_pure rfl (fun K hK => ?_); go_simp; refine hK _ ?_; clear hK K
  refine ords_pure rfl (fun K hK => ?_); go_simp; refine hK _ ?_; clear hK K
  refine ords_read rfl (fun K hK => ?_); go_simp; refine hK _ ?_; clear hK K
  refine ords_pure rfl (fun K hK => ?_); go_simp; refine hK _ ?_; clear hK K
  refine ords_pure rfl (fun K hK => ?_); go_simp; refine hK _ ?_; clear hK K
  refine ords_read rfl (fun K hK => ?_); go_simp; refine hK _ ?_; clear hK K
  refine ords_pure rfl (fun K hK => ?_); go_simp; refine hK _ ?_; clear hK K
  refine ords_pure rfl (fun K hK => ?_); go_simp; refine hK _ ?_; clear hK K
  refine ords_loud rfl (fun n1 => ?_)
  go_wp2
  first | (refine ⟨trivial, ?_⟩; refine ords_end (fun n2 => ?_)) | (rintro _ ⟨n2, rfl⟩)
  have hb := ((HB.out.drewN n1).set_ pc (wv3 (kc + d1))).drewN n2
  rw [wc3_set, HLc.out] at hb
  dsimp only at hb
  have hr := ((HR.out.drewN n1).far (p := ⟨g, pc, none⟩) (show g + 1 ≠ g by omega) (wv3 (kc + d1))).drewN n2
  have hgr := bdr (bput (bdr HG.out (n1)) (p := ⟨g, pc, none⟩) (show w.heap.size ≤ g from Nat.le_of_eq HGE.out.symm) (wv3 (kc + d1))) n2
  go_wp2_with fail
  change Blk (World.drewN (World.setCell (World.drewN wc (n1)) ⟨g, pc, none⟩ (.int .u32 (wr3 ((kc + d1))))) n2) _ _ _ at hb
  change Blk (World.drewN (World.setCell (World.drewN wc (n1)) ⟨g, pc, none⟩ (.int .u32 (wr3 ((kc + d1))))) n2) _ _ _ at hr
  change Below _ w (World.drewN (World.setCell (World.drewN wc (n1)) ⟨g, pc, none⟩ (.int .u32 (wr3 ((kc + d1))))) n2) at hgr
  clear ga gb gc gd fa HB HG HR
  generalize World.drewN (World.setCell (World.drewN wc (n1)) ⟨g, pc, none⟩ (.int .u32 (wr3 ((kc + d1))))) n2 = wn at *
  obtain ⟨c1, hc1⟩ : ∃ c1, c1 = (kc + d1) := ⟨_, rfl⟩
  rw [← hc1] at hb ⊢
  clear wc
  obtain ⟨wc, hwc⟩ : ∃ wc, wc = wn := ⟨_, rfl⟩
  rw [← hwc] at hb hr hgr ⊢
  clear hwc
  have Ec1 := Lib.hid hc1; have HB := Lib.hid hb; have HR := Lib.hid hr; have HG := Lib.hid hgr; clear hb hr hgr hc1
  have ga : wc.cell? ⟨g, pa, none⟩ = some (.int .u32 (wr3 a1)) := (HB.out.cell _).trans (wc3_at' _ _ _ (HAa.out _))
  have gb : wc.cell? ⟨g, pb, none⟩ = some (.int .u32 (wr3 kb)) := (HB.out.cell _).trans (wc3_at' _ _ _ (HAb.out _))
  have gc : wc.cell? ⟨g, pc, none⟩ = some (.int .u32 (wr3 c1)) := (HB.out.cell _).trans (wc3_at' _ _ _ (HAc.out _))
  have gd : wc.cell? ⟨g, pd, none⟩ = some (.int .u32 (wr3 d1)) := (HB.out.cell _).trans (wc3_at' _ _ _ (HAd.out _))
  have fa : ∀ i, wc.frozen? ⟨g, i, none⟩ = false := HB.out.frozen
  refine wp_region_ords (fun _ => True) (fun _ _ h => h) (Ords.of [(0, 0), (0, 1), (0, 2), (1, 3), (0, 4), (0, 5), (1, 6), (0, 7), (2, 8), (0, 9), (2, 10)] .fin) (by kernel_rfl) rfl (by kernel_rfl) (by kernel_rfl) (fun c a d v w h => by cases d <;> exact h) trivial ?_
  refine ords_pure rfl (fun K hK => ?_); go_simp; refine hK _ ?_; clear hK K
  refine ords_pure rfl (fun K hK => ?_); go_simp; refine hK _ ?_; clear hK K
  refine ords_pure rfl (fun K hK => ?_); go_simp; refine hK _ ?_; clear hK K
  refine ords_read rfl (fun K hK => ?_); go_simp; refine hK _ ?_; clear hK K
  refine ords_pure rfl (fun K hK => ?_); go_simp; refine hK _ ?_; clear hK K
  refine ords_pure rfl (fun K hK => ?_); go_simp; refine hK _ ?_; clear hK K
  refine ords_read rfl (fun K hK => ?_); go_simp; refine hK _ ?_; clear hK K
  refine ords_pure rfl (fun K hK => ?_); go_simp; refine hK _ ?_; clear hK K
  refine ords_loud rfl (fun n1 => ?_)
  go_wp2_with (go_at_call 248; refine (r4turn_12 _ _).mono ?_; rintro e w9 ⟨rfl, rfl⟩)
  refine ⟨trivial, ?_⟩
  refine ords_pure rfl (fun K hK => ?_); go_simp; refine hK _ ?_; clear hK K
  refine ords_loud rfl (fun n2 => ?_)
  go_wp2
  first | (refine ⟨trivial, ?_⟩; refine ords_end (fun n3 => ?_)) | (rintro _ ⟨n3, rfl⟩)
  have hb := ((HB.out.drewN (n1 + n2)).set_ pb (wv3 (rot3 (kb ^^^ c1) 12))).drewN n3
  rw [wc3_set, HLb.out] at hb
  dsimp only at hb
  have hr := ((HR.out.drewN (n1 + n2)).far (p := ⟨g, pb, none⟩) (show g + 1 ≠ g by omega) (wv3 (rot3 (kb ^^^ c1) 12))).drewN n3
  have hgr := bdr (bput (bdr HG.out ((n1 + n2))) (p := ⟨g, pb, none⟩) (show w.heap.size ≤ g from Nat.le_of_eq HGE.out.symm) (wv3 (rot3 (kb ^^^ c1) 12))) n3
  go_wp2_with fail
  change Blk (World.drewN (World.setCell (World.drewN wc ((n1 + n2))) ⟨g, pb, none⟩ (.int .u32 (wr3 ((rot3 (kb ^^^ c1) 12))))) n3) _ _ _ at hb
  change Blk (World.drewN (World.setCell (World.drewN wc ((n1 + n2))) ⟨g, pb, none⟩ (.int .u32 (wr3 ((rot3 (kb ^^^ c1) 12))))) n3) _ _ _ at hr
  change Below _ w (World.drewN (World.setCell (World.drewN wc ((n1 + n2))) ⟨g, pb, none⟩ (.int .u32 (wr3 ((rot3 (kb ^^^ c1) 12))))) n3) at hgr
  clear ga gb gc gd fa HB HG HR
  generalize World.drewN (World.setCell (World.drewN wc ((n1 + n2))) ⟨g, pb, none⟩ (.int .u32 (wr3 ((rot3 (kb ^^^ c1) 12))))) n3 = wn at *
  obtain ⟨b1, hb1⟩ : ∃ b1, b1 = (rot3 (kb ^^^ c1) 12) := ⟨_, rfl⟩
  rw [← hb1] at hb ⊢
  clear wc
  obtain ⟨wc, hwc⟩ : ∃ wc, wc = wn := ⟨_, rfl⟩
  rw [← hwc] at hb hr hgr ⊢
  clear hwc
  have Eb1 := Lib.hid hb1; have HB := Lib.hid hb; have HR := Lib.hid hr; have HG := Lib.hid hgr; clear hb hr hgr hb1
  have ga : wc.cell? ⟨g, pa, none⟩ = some (.int .u32 (wr3 a1)) := (HB.out.cell _).trans (wc3_at' _ _ _ (HAa.out _))
  have gb : wc.cell? ⟨g, pb, none⟩ = some (.int .u32 (wr3 b1)) := (HB.out.cell _).trans (wc3_at' _ _ _ (HAb.out _))
  have gc : wc.cell? ⟨g, pc, none⟩ = some (.int .u32 (wr3 c1)) := (HB.out.cell _).trans (wc3_at' _ _ _ (HAc.out _))
  have gd : wc.cell? ⟨g, pd, none⟩ = some (.int .u32 (wr3 d1)) := (HB.out.cell _).trans (wc3_at' _ _ _ (HAd.out _))
  have fa : ∀ i, wc.frozen? ⟨g, i, none⟩ = false := HB.out.frozen
  refine wp_region_ords (fun _ => True) (fun _ _ h => h) (Ords.of [(0, 0), (0, 1), (0, 2), (1, 3), (0, 4), (0, 5), (1, 6), (0, 7), (0, 8), (0, 9), (0, 10), (2, 11)] .fin) (by kernel_rfl) rfl (by kernel_rfl) (by kernel_rfl) (fun c a d v w h => by cases d <;> exact h) trivial ?_
  refine ords_pure rfl (fun K hK => ?_); go_simp; refine hK _ ?_; clear hK K
  refine ords_pure rfl (fun K hK => ?_); go_simp; refine hK _ ?_; clear hK K
  refine ords_pure rfl (fun K hK => ?_); go_simp; refine hK _ ?_; clear hK K
  refine ords_read rfl (fun K hK => ?_); go_simp; refine hK _ ?_; clear hK K
  refine ords_pure rfl (fun K hK => ?_); go_simp; refine hK _ ?_; clear hK K
  refine ords_pure rfl (fun K hK => ?_); go_simp; refine hK _ ?_; clear hK K
  refine ords_read rfl (fun K hK => ?_); go_simp; refine hK _ ?_; clear hK K
  refine ords_pure rfl (fun K hK => ?_); go_simp; refine hK _ ?_; clear hK K
  refine ords_pure rfl (fun K hK => ?_); go_simp; refine hK _ ?_; clear hK K
  refine ords_pure rfl (fun K hK => ?_); go_simp; refine hK _ ?_; clear hK K
  refine ords_pure rfl (fun K hK => ?_); go_simp; refine hK _ ?_; clear hK K
  refine ords_loud rfl (fun n1 => ?_)
  go_wp2
  first | (refine ⟨trivial, ?_⟩; refine ords_end (fun n2 => ?_)) | (rintro _ ⟨n2, rfl⟩)
  have hb := ((HB.out.drewN n1).set_ pa (wv3 (a1 + b1 + y))).drewN n2
  rw [wc3_set, HLa.out] at hb
  dsimp only at hb
  have hr := ((HR.out.drewN n1).far (p := ⟨g, pa, none⟩) (show g + 1 ≠ g by omega) (wv3 (a1 + b1 + y))).drewN n2
  have hgr := bdr (bput (bdr HG.out (n1)) (p := ⟨g, pa, none⟩) (show w.heap.size ≤ g from Nat.le_of_eq HGE.out.symm) (wv3 (a1 + b1 + y))) n2
  go_wp2_with fail
  change Blk (World.drewN (World.setCell (World.drewN wc (n1)) ⟨g, pa, none⟩ (.int .u32 (wr3 ((a1 + b1 + y))))) n2) _ _ _ at hb
  change Blk (World.drewN (World.setCell (World.drewN wc (n1)) ⟨g, pa, none⟩ (.int .u32 (wr3 ((a1 + b1 + y))))) n2) _ _ _ at hr
  change Below _ w (World.drewN (World.setCell (World.drewN wc (n1)) ⟨g, pa, none⟩ (.int .u32 (wr3 ((a1 + b1 + y))))) n2) at hgr
  clear ga gb gc gd fa HB HG HR
  generalize World.drewN (World.setCell (World.drewN wc (n1)) ⟨g, pa, none⟩ (.int .u32 (wr3 ((a1 + b1 + y))))) n2 = wn at *
  obtain ⟨a2, ha2⟩ : ∃ a2, a2 = (a1 + b1 + y) := ⟨_, rfl⟩
  rw [← ha2] at hb ⊢
  clear wc
  obtain ⟨wc, hwc⟩ : ∃ wc, wc = wn := ⟨_, rfl⟩
  rw [← hwc] at hb hr hgr ⊢
  clear hwc
  have Ea2 := Lib.hid ha2; have HB := Lib.hid hb; have HR := Lib.hid hr; have HG := Lib.hid hgr; clear hb hr hgr ha2
  have ga : wc.cell? ⟨g, pa, none⟩ = some (.int .u32 (wr3 a2)) := (HB.out.cell _).trans (wc3_at' _ _ _ (HAa.out _))
  have gb : wc.cell? ⟨g, pb, none⟩ = some (.int .u32 (wr3 b1)) := (HB.out.cell _).trans (wc3_at' _ _ _ (HAb.out _))
  have gc : wc.cell? ⟨g, pc, none⟩ = some (.int .u32 (wr3 c1)) := (HB.out.cell _).trans (wc3_at' _ _ _ (HAc.out _))
  have gd : wc.cell? ⟨g, pd, none⟩ = some (.int .u32 (wr3 d1)) := (HB.out.cell _).trans (wc3_at' _ _ _ (HAd.out _))
  have fa : ∀ i, wc.frozen? ⟨g, i, none⟩ = false := HB.out.frozen
  refine wp_region_ords (fun _ => True) (fun _ _ h => h) (Ords.of [(0, 0), (0, 1), (0, 2), (1, 3), (0, 4), (0, 5), (1, 6), (0, 7), (2, 8), (0, 9), (2, 10)] .fin) (by kernel_rfl) rfl (by kernel_rfl) (by kernel_rfl) (fun c a d v w h => by cases d <;> exact h) trivial ?_
  refine ords_pure rfl (fun K hK => ?_); go_simp; refine hK _ ?_; clear hK K
  refine ords_pure rfl (fun K hK => ?_); go_simp; refine hK _ ?_; clear hK K
  refine ords_pure rfl (fun K hK => ?_); go_simp; refine hK _ ?_; clear hK K
  refine ords_read rfl (fun K hK => ?_); go_simp; refine hK _ ?_; clear hK K
  refine ords_pure rfl (fun K hK => ?_); go_simp; refine hK _ ?_; clear hK K
  refine ords_pure rfl (fun K hK => ?_); go_simp; refine hK _ ?_; clear hK K
  refine ords_read rfl (fun K hK => ?_); go_simp; refine hK _ ?_; clear hK K
  refine ords_pure rfl (fun K hK => ?_); go_simp; refine hK _ ?_; clear hK K
  refine ords_loud rfl (fun n1 => ?_)
  go_wp2_with (go_at_call 248; refine (r4turn_8 _ _).mono ?_; rintro e w9 ⟨rfl, rfl⟩)
  refine ⟨trivial, ?_⟩
  refine ords_pure rfl (fun K hK => ?_); go_simp; refine hK _ ?_; clear hK K
  refine ords_loud rfl (fun n2 => ?_)
  go_wp2
  first | (refine ⟨trivial, ?_⟩; refine ords_end (fun n3 => ?_)) | (rintro _ ⟨n3, rfl⟩)
  have hb := ((HB.out.drewN (n1 + n2)).set_ pd (wv3 (rot3 (d1 ^^^ a2) 8))).drewN n3
  rw [wc3_set, HLd.out] at hb
  dsimp only at hb
  have hr := ((HR.out.drewN (n1 + n2)).far (p := ⟨g, pd, none⟩) (show g + 1 ≠ g by omega) (wv3 (rot3 (d1 ^^^ a2) 8))).drewN n3
  have hgr := bdr (bput (bdr HG.out ((n1 + n2))) (p := ⟨g, pd, none⟩) (show w.heap.size ≤ g from Nat.le_of_eq HGE.out.symm) (wv3 (rot3 (d1 ^^^ a2) 8))) n3
  go_wp2_with fail
  change Blk (World.drewN (World.setCell (World.drewN wc ((n1 + n2))) ⟨g, pd, none⟩ (.int .u32 (wr3 ((rot3 (d1 ^^^ a2) 8))))) n3) _ _ _ at hb
  change Blk (World.drewN (World.setCell (World.drewN wc ((n1 + n2))) ⟨g, pd, none⟩ (.int .u32 (wr3 ((rot3 (d1 ^^^ a2) 8))))) n3) _ _ _ at hr
  change Below _ w (World.drewN (World.setCell (World.drewN wc ((n1 + n2))) ⟨g, pd, none⟩ (.int .u32 (wr3 ((rot3 (d1 ^^^ a2) 8))))) n3) at hgr
  clear ga gb gc gd fa HB HG HR
  generalize World.drewN (World.setCell (World.drewN wc ((n1 + n2))) ⟨g, pd, none⟩ (.int .u32 (wr3 ((rot3 (d1 ^^^ a2) 8))))) n3 = wn at *
  obtain ⟨d2, hd2⟩ : ∃ d2, d2 = (rot3 (d1 ^^^ a2) 8) := ⟨_, rfl⟩
  rw [← hd2] at hb ⊢
  clear wc
  obtain ⟨wc, hwc⟩ : ∃ wc, wc = wn := ⟨_, rfl⟩
  rw [← hwc] at hb hr hgr ⊢
  clear hwc
  have Ed2 := Lib.hid hd2; have HB := Lib.hid hb; have HR := Lib.hid hr; have HG := Lib.hid hgr; clear hb hr hgr hd2
  have ga : wc.cell? ⟨g, pa, none⟩ = some (.int .u32 (wr3 a2)) := (HB.out.cell _).trans (wc3_at' _ _ _ (HAa.out _))
  have gb : wc.cell? ⟨g, pb, none⟩ = some (.int .u32 (wr3 b1)) := (HB.out.cell _).trans (wc3_at' _ _ _ (HAb.out _))
  have gc : wc.cell? ⟨g, pc, none⟩ = some (.int .u32 (wr3 c1)) := (HB.out.cell _).trans (wc3_at' _ _ _ (HAc.out _))
  have gd : wc.cell? ⟨g, pd, none⟩ = some (.int .u32 (wr3 d2)) := (HB.out.cell _).trans (wc3_at' _ _ _ (HAd.out _))
  have fa : ∀ i, wc.frozen? ⟨g, i, none⟩ = false := HB.out.frozen
  refine wp_region_ords (fun _ => True) (fun _ _ h => h) (Ords.of [(0, 0), (0, 1), (0, 2), (1, 3), (0, 4), (0, 5), (1, 6), (0, 7), (0, 8), (2, 9)] .fin) (by kernel_rfl) rfl (by kernel_rfl) (by kernel_rfl) (fun c a d v w h => by cases d <;> exact h) trivial ?_
  refine ords_pure rfl (fun K hK => ?_); go_simp; refine hK _ ?_; clear hK K
  refine ords_pure rfl (fun K hK => ?_); go_simp; refine hK _ ?_; clear hK K
  refine ords_pure rfl (fun K hK => ?_); go_simp; refine hK _ ?_; clear hK K
  refine ords_read rfl (fun K hK => ?_); go_simp; refine hK _ ?_; clear hK K
  refine ords_pure rfl (fun K hK => ?_); go_simp; refine hK _ ?_; clear hK K
  refine ords_pure rfl (fun K hK => ?_); go_simp; refine hK _ ?_; clear hK K
  refine ords_read rfl (fun K hK => ?_); go_simp; refine hK _ ?_; clear hK K
  refine ords_pure rfl (fun K hK => ?_); go_simp; refine hK _ ?_; clear hK K
  refine ords_pure rfl (fun K hK => ?_); go_simp; refine hK _ ?_; clear hK K
  refine ords_loud rfl (fun n1 => ?_)
  go_wp2
  first | (refine ⟨trivial, ?_⟩; refine ords_end (fun n2 => ?_)) | (rintro _ ⟨n2, rfl⟩)
  have hb := ((HB.out.drewN n1).set_ pc (wv3 (c1 + d2))).drewN n2
  rw [wc3_set, HLc.out] at hb
  dsimp only at hb
  have hr := ((HR.out.drewN n1).far (p := ⟨g, pc, none⟩) (show g + 1 ≠ g by omega) (wv3 (c1 + d2))).drewN n2
  have hgr := bdr (bput (bdr HG.out (n1)) (p := ⟨g, pc, none⟩) (show w.heap.size ≤ g from Nat.le_of_eq HGE.out.symm) (wv3 (c1 + d2))) n2
  go_wp2_with fail
  change Blk (World.drewN (World.setCell (World.drewN wc (n1)) ⟨g, pc, none⟩ (.int .u32 (wr3 ((c1 + d2))))) n2) _ _ _ at hb
  change Blk (World.drewN (World.setCell (World.drewN wc (n1)) ⟨g, pc, none⟩ (.int .u32 (wr3 ((c1 + d2))))) n2) _ _ _ at hr
  change Below _ w (World.drewN (World.setCell (World.drewN wc (n1)) ⟨g, pc, none⟩ (.int .u32 (wr3 ((c1 + d2))))) n2) at hgr
  clear ga gb gc gd fa HB HG HR
  generalize World.drewN (World.setCell (World.drewN wc (n1)) ⟨g, pc, none⟩ (.int .u32 (wr3 ((c1 + d2))))) n2 = wn at *
  obtain ⟨c2, hc2⟩ : ∃ c2, c2 = (c1 + d2) := ⟨_, rfl⟩
  rw [← hc2] at hb ⊢
  clear wc
  obtain ⟨wc, hwc⟩ : ∃ wc, wc = wn := ⟨_, rfl⟩
  rw [← hwc] at hb hr hgr ⊢
  clear hwc
  have Ec2 := Lib.hid hc2; have HB := Lib.hid hb; have HR := Lib.hid hr; have HG := Lib.hid hgr; clear hb hr hgr hc2
  have ga : wc.cell? ⟨g, pa, none⟩ = some (.int .u32 (wr3 a2)) := (HB.out.cell _).trans (wc3_at' _ _ _ (HAa.out _))
  have gb : wc.cell? ⟨g, pb, none⟩ = some (.int .u32 (wr3 b1)) := (HB.out.cell _).trans (wc3_at' _ _ _ (HAb.out _))
  have gc : wc.cell? ⟨g, pc, none⟩ = some (.int .u32 (wr3 c2)) := (HB.out.cell _).trans (wc3_at' _ _ _ (HAc.out _))
  have gd : wc.cell? ⟨g, pd, none⟩ = some (.int .u32 (wr3 d2)) := (HB.out.cell _).trans (wc3_at' _ _ _ (HAd.out _))
  have fa : ∀ i, wc.frozen? ⟨g, i, none⟩ = false := HB.out.frozen
  refine wp_region_ords (fun _ => True) (fun _ _ h => h) (Ords.of [(0, 0), (0, 1), (0, 2), (1, 3), (0, 4), (0, 5), (1, 6), (0, 7), (2, 8), (0, 9), (2, 10)] .fin) (by kernel_rfl) rfl (by kernel_rfl) (by kernel_rfl) (fun c a d v w h => by cases d <;> exact h) trivial ?_
  refine ords_pure rfl (fun K hK => ?_); go_simp; refine hK _ ?_; clear hK K
  refine ords_pure rfl (fun K hK => ?_); go_simp; refine hK _ ?_; clear hK K
  refine ords_pure rfl (fun K hK => ?_); go_simp; refine hK _ ?_; clear hK K
  refine ords_read rfl (fun K hK => ?_); go_simp; refine hK _ ?_; clear hK K
  refine ords_pure rfl (fun K hK => ?_); go_simp; refine hK _ ?_; clear hK K
  refine ords_pure rfl (fun K hK => ?_); go_simp; refine hK _ ?_; clear hK K
  refine ords_read rfl (fun K hK => ?_); go_simp; refine hK _ ?_; clear hK K
  refine ords_pure rfl (fun K hK => ?_); go_simp; refine hK _ ?_; clear hK K
  refine ords_loud rfl (fun n1 => ?_)
  go_wp2_with (go_at_call 248; refine (r4turn_7 _ _).mono ?_; rintro e w9 ⟨rfl, rfl⟩)
  refine ⟨trivial, ?_⟩
  refine ords_pure rfl (fun K hK => ?_); go_simp; refine hK _ ?_; clear hK K
  refine ords_loud rfl (fun n2 => ?_)
  go_wp2
  first | (refine ⟨trivial, ?_⟩; refine ords_end (fun n3 => ?_)) | (rintro _ ⟨n3, rfl⟩)
  have hb := ((HB.out.drewN (n1 + n2)).set_ pb (wv3 (rot3 (b1 ^^^ c2) 7))).drewN n3
  rw [wc3_set, HLb.out] at hb
  dsimp only at hb
  have hr := ((HR.out.drewN (n1 + n2)).far (p := ⟨g, pb, none⟩) (show g + 1 ≠ g by omega) (wv3 (rot3 (b1 ^^^ c2) 7))).drewN n3
  have hgr := bdr (bput (bdr HG.out ((n1 + n2))) (p := ⟨g, pb, none⟩) (show w.heap.size ≤ g from Nat.le_of_eq HGE.out.symm) (wv3 (rot3 (b1 ^^^ c2) 7))) n3
  go_upto_region 11 with fail
  change Blk (World.drewN (World.setCell (World.drewN wc ((n1 + n2))) ⟨g, pb, none⟩ (.int .u32 (wr3 ((rot3 (b1 ^^^ c2) 7))))) n3) _ _ _ at hb
  change Blk (World.drewN (World.setCell (World.drewN wc ((n1 + n2))) ⟨g, pb, none⟩ (.int .u32 (wr3 ((rot3 (b1 ^^^ c2) 7))))) n3) _ _ _ at hr
  change Below _ w (World.drewN (World.setCell (World.drewN wc ((n1 + n2))) ⟨g, pb, none⟩ (.int .u32 (wr3 ((rot3 (b1 ^^^ c2) 7))))) n3) at hgr
  clear ga gb gc gd fa HB HG HR
  generalize World.drewN (World.setCell (World.drewN wc ((n1 + n2))) ⟨g, pb, none⟩ (.int .u32 (wr3 ((rot3 (b1 ^^^ c2) 7))))) n3 = wn at *
  obtain ⟨b2, hb2⟩ : ∃ b2, b2 = (rot3 (b1 ^^^ c2) 7) := ⟨_, rfl⟩
  rw [← hb2] at hb ⊢
  clear wc
  obtain ⟨wc, hwc⟩ : ∃ wc, wc = wn := ⟨_, rfl⟩
  rw [← hwc] at hb hr hgr ⊢
  clear hwc
  have Eb2 := Lib.hid hb2; have HB := Lib.hid hb; have HR := Lib.hid hr; have HG := Lib.hid hgr; clear hb hr hgr hb2
  have e : (⟨a2, b2, c2, d2⟩ : Qd UInt32) = gm32 ⟨ka, kb, kc, kd⟩ x y := by
    unfold gm32
    dsimp only
    rw [Eb2.out, Ec2.out, Ed2.out, Ea2.out, Eb1.out, Ec1.out, Ed1.out, Ea1.out]
    simp only [UInt32.add_assoc]
  clear Eb2 Ec2 Ed2 Ea2 Eb1 Ec1 Ed1 Ea1 HLa HLb HLc HLd HAa HAb HAc HAd
  have h := HB.out
  rw [e] at h
  have H := Lib.hid h; clear h HB
  go_wp2_with (first
    | (refine wpList_load_row rfl 257 _ rfl g rfl 257 (wc3 (lay (gm32 ⟨ka, kb, kc, kd⟩ x y))) (0, 0) _ H.out hu.out rfl hsz.out ?_)
    | (refine wpList_store_row rfl 257 _ _ rfl (g + 1) (wc3 (lay (gm32 ⟨ka, kb, kc, kd⟩ x y))) rfl rfl 257 _ HR.out hsz.out hVs.out hall.out ?_))
  exact bodyPost_ret (results_cell_tmp rfl _ _ (g + 1) _ _ _ rfl (HR.out.row _) hu.out rfl hsz.out) rfl ⟨rfl, brow HG.out (by have := HGE.out; omega) _⟩
end Go.Proofs.YtgephdbicbmpeaaGreat

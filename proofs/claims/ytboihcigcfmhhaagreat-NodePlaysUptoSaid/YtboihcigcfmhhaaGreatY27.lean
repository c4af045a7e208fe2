/-
  Y27: contracts and lemmas alone; no statement is claimed here.
-/
import Derived.Test.YtboihcigcfmhhaaGreatY18
import Derived.Test.YtboihcigcfmhhaaGreatY7
import Derived.Test.YtboihcigcfmhhaaGreatY22
import Derived.Deep.CutRange
/- G, of the reference: four words of a state. -/
set_option maxHeartbeats 8000000
set_option maxRecDepth 20000
namespace Go.Proofs.YtboihcigcfmhhaaGreat
open _root_.List renaming set_append → cZG
open _root_.Bool renaming false_eq_true → bZQ
open _root_.Nat renaming le_of_eq → bZF
open Go renaming results_cell_row → aZZ
open _root_.List renaming getElem?_append_right → aZV
open Go.IntKind renaming wrap → aZU
open Go.IntKind renaming bits → aZR
open Go.IntKind renaming signed → aZM
open Go.World renaming setCell → aZI
open Go renaming wpList_load_row → aZH
open Go renaming wpList_store_row → aZE
open Go.World renaming drewN → aZD
open Go renaming bodyPost_ret → aZB
open Lib renaming hid -> zH
open Go.RowKit
attribute [local go_sem] pureUpon Ords.of
theorem refPlace_any (a : Nat) (h : a < 16) (w : World) : Calls Tryz.prog 121 #[.int .i64 a] w fun e w' => e = .returned (.bool true) /\ w = w' := by
 have h1 : (0 : Int) <= a /\ (a : Int) <= 15 := by omega
 obtain ⟨h1, h2⟩ := h1;go_enter Tryz.func121, Tryz.ntmps121;go_wp2;go_ret;exact ⟨rfl, rfl⟩
theorem refG_any (p : Pl) (V : List UInt64) (x y : UInt64) (w : World) (hp : p.Ok) (hV : V.length = 16) :
  Calls Tryz.prog 112 #[.agg (wcs V), .int .i64 p.a, .int .i64 p.b, .int .i64 p.c, .int .i64 p.d, .int .u64 (wrd x), .int .u64 (wrd y)] w fun e w' => e = .returned (.tuple #[.agg (wcs (p.lay V (gm64 (p.get 0 V) x y))), .int .i64 0]) /\ Below w.heap.size w w' := by
 have hl := lay_get hp 0 V hV;have HP := zH hp;have ra := fun W => refPlace_any p.a hp.a W; have rb := fun W => refPlace_any p.b hp.b W; have rc := fun W => refPlace_any p.c hp.c W; have rd := fun W => refPlace_any p.d hp.d W
 have u1 : ((p.a : Int) == p.b) = false := by have := hp.ab; simp; omega
 have u2 : ((p.a : Int) == p.c) = false := by have := hp.ac; simp; omega
 have u3 : ((p.a : Int) == p.d) = false := by have := hp.ad; simp; omega
 have u4 : ((p.b : Int) == p.c) = false := by have := hp.bc; simp; omega
 have u5 : ((p.b : Int) == p.d) = false := by have := hp.bd; simp; omega
 have u6 : ((p.c : Int) == p.d) = false := by have := hp.cd; simp; omega
 obtain ⟨q, hq⟩ : ∃ q, q = p.get 0 V := ⟨_, rfl⟩;have hsz : Hid ((Tryz.prog.info? 41).map (·.size) = some (wcs (p.lay V (gm64 q x y))).size) := sz16w _ (by rw [lay_len, hV]);have hVs : Hid (16 = (wcs (p.lay V (gm64 q x y))).size) := by show _ = _; rw [wcs_size, lay_len, hV]
 have hu := zH Tryz.underlying41;have hall := zH (wcs_all (p.lay V (gm64 q x y)));rw [<- hq] at hl ⊢;rw [<- hl];rw [<- hl] at hsz hVs hall;have elay : ∀ r, p.lay (p.lay V q) r = p.lay V r := fun r => by
  obtain ⟨ra, rb, rc, rd⟩ := r;have h1 := lay_a hp V q ra; have h2 := lay_b hp V { q with a := ra } rb; have h3 := lay_c hp V { q with a := ra, b := rb } rc; have h4 := lay_d (p := p) V { q with a := ra, b := rb, c := rc } rd
  show (((((p.lay V q).set p.a ra).set p.b rb).set p.c rc).set p.d rd) = _
  rw [h1, h2, h3, h4]
 rw [elay] at hsz hVs hall ⊢;have HAa := zH fun q => at_a hp V q hV
 have HAb := zH fun q => at_b hp V q hV
 have HAc := zH fun q => at_c hp V q hV
 have HAd := zH fun q => at_d hp V q hV
 have HLa := zH (lay_a hp V); have HLb := zH (lay_b hp V); have HLc := zH (lay_c hp V); have HLd := zH (lay_d (p := p) V);have la := hp.a; have lb := hp.b; have lc := hp.c; have ld := hp.d;generalize hlay : p.lay V = lay at *;clear hlay hl hp HP hV hq elay;obtain ⟨pa, pb, pc, pd⟩ := p;dsimp only at *;obtain ⟨ka, kb, kc, kd⟩ := q;have i1 : (pa : Int) < 16 := by omega
 have i2 : (pb : Int) < 16 := by omega
 have i3 : (pc : Int) < 16 := by omega
 have i4 : (pd : Int) < 16 := by omega
 have h1 := wrd_add; have h2 := wrd_xor;obtain ⟨g, hg⟩ : ∃ g, g = w.heap.size := ⟨_, rfl⟩;have HGE := zH hg;have hb : Blk ((w.alloc (.cells (wcs (lay ⟨ka, kb, kc, kd⟩)) 41)).alloc (.cells z16 41)) g 41 (wcs (lay ⟨ka, kb, kc, kd⟩)) := by rw [hg]; exact (Blk.new _ _ _).alloc _
 have hr : Blk ((w.alloc (.cells (wcs (lay ⟨ka, kb, kc, kd⟩)) 41)).alloc (.cells z16 41)) (g + 1) 41 z16 := by rw [hg]; simpa using Blk.new (w.alloc (.cells (wcs (lay ⟨ka, kb, kc, kd⟩)) 41)) 41 z16
 have hgr : Below w.heap.size w ((w.alloc (.cells (wcs (lay ⟨ka, kb, kc, kd⟩)) 41)).alloc (.cells z16 41)) := bal (bal (b0 w) _) _;unfold z16 at hb hr hgr;go_enter Tryz.func112, Tryz.ntmps112;go_upto_region 1 with fail
 rw [<- hg];generalize (w.alloc (.cells (wcs (lay ⟨ka, kb, kc, kd⟩)) 41)).alloc (.cells #[.int .u64 0, .int .u64 0, .int .u64 0, .int .u64 0, .int .u64 0, .int .u64 0, .int .u64 0, .int .u64 0, .int .u64 0, .int .u64 0, .int .u64 0, .int .u64 0, .int .u64 0, .int .u64 0, .int .u64 0, .int .u64 0] 41) = wc at *;clear hg;have HB := zH hb; have HR := zH hr; have HG := zH hgr; clear hb hr hgr;have RA := zH ra; have RB := zH rb; have RC := zH rc; have RD := zH rd; clear ra rb rc rd;go_wp2_with (first
  | (go_at_call 121; refine (RA _).mono ?_; rintro e w9 ⟨rfl, rfl⟩)
  | (go_at_call 121; refine (RB _).mono ?_; rintro e w9 ⟨rfl, rfl⟩)
  | (go_at_call 121; refine (RC _).mono ?_; rintro e w9 ⟨rfl, rfl⟩)
  | (go_at_call 121; refine (RD _).mono ?_; rintro e w9 ⟨rfl, rfl⟩))
 clear u1 u2 u3 u4 u5 u6 RA RB RC RD;have ga : wc.cell? ⟨g, pa, none⟩ = some (.int .u64 (wrd ka)) := (HB.cell _).trans (wcs_at' _ _ _ (HAa _));have gb : wc.cell? ⟨g, pb, none⟩ = some (.int .u64 (wrd kb)) := (HB.cell _).trans (wcs_at' _ _ _ (HAb _));have gc : wc.cell? ⟨g, pc, none⟩ = some (.int .u64 (wrd kc)) := (HB.cell _).trans (wcs_at' _ _ _ (HAc _));have gd : wc.cell? ⟨g, pd, none⟩ = some (.int .u64 (wrd kd)) := (HB.cell _).trans (wcs_at' _ _ _ (HAd _));have fa : ∀ i, wc.frozen? ⟨g, i, none⟩ = false := HB.frozen;refine wrZ (fun _ => True) (fun _ _ h => h) (Ords.of [(0, 0), (0, 1), (0, 2), (1, 3), (0, 4), (0, 5), (1, 6), (0, 7), (0, 8), (0, 9), (0, 10), (2, 11)] .fin) trivial ?_
 iterate 11 ((first | refine ords_pure rfl (fun K hK => ?_) | refine ords_read rfl (fun K hK => ?_)); go_simp; refine hK _ ?_; clear hK K)
 refine ords_loud rfl (fun n1 => ?_);go_wp2
 first | (refine ⟨trivial, ?_⟩; refine ords_end (fun n2 => ?_)) | (rintro _ ⟨n2, rfl⟩)
 have hb := ((HB.drewN n1).set_ pa (wv (ka + kb + x))).drewN n2;rw [wcs_set, HLa.out] at hb;dsimp only at hb;have hr := ((HR.drewN n1).far (p := ⟨g, pa, none⟩) (show g + 1 ≠ g by omega) (wv (ka + kb + x))).drewN n2;have hgr := bdr (bput (bdr HG (n1)) (p := ⟨g, pa, none⟩) (show w.heap.size <= g from bZF HGE.symm) (wv (ka + kb + x))) n2;go_wp2_with fail;change Blk (aZD (aZI (aZD wc (n1)) ⟨g, pa, none⟩ (.int .u64 (wrd ((ka + kb + x))))) n2) _ _ _ at hb;change Blk (aZD (aZI (aZD wc (n1)) ⟨g, pa, none⟩ (.int .u64 (wrd ((ka + kb + x))))) n2) _ _ _ at hr;change Below _ w (aZD (aZI (aZD wc (n1)) ⟨g, pa, none⟩ (.int .u64 (wrd ((ka + kb + x))))) n2) at hgr;clear ga gb gc gd fa HB HG HR;generalize aZD (aZI (aZD wc (n1)) ⟨g, pa, none⟩ (.int .u64 (wrd ((ka + kb + x))))) n2 = wn at *;obtain ⟨a1, ha1⟩ : ∃ a1, a1 = (ka + kb + x) := ⟨_, rfl⟩;rw [<- ha1] at hb ⊢;clear wc;obtain ⟨wc, hwc⟩ : ∃ wc, wc = wn := ⟨_, rfl⟩;rw [<- hwc] at hb hr hgr ⊢;clear hwc;have Ea1 := zH ha1; have HB := zH hb; have HR := zH hr; have HG := zH hgr; clear hb hr hgr ha1;have ga : wc.cell? ⟨g, pa, none⟩ = some (.int .u64 (wrd a1)) := (HB.cell _).trans (wcs_at' _ _ _ (HAa _));have gb : wc.cell? ⟨g, pb, none⟩ = some (.int .u64 (wrd kb)) := (HB.cell _).trans (wcs_at' _ _ _ (HAb _));have gc : wc.cell? ⟨g, pc, none⟩ = some (.int .u64 (wrd kc)) := (HB.cell _).trans (wcs_at' _ _ _ (HAc _));have gd : wc.cell? ⟨g, pd, none⟩ = some (.int .u64 (wrd kd)) := (HB.cell _).trans (wcs_at' _ _ _ (HAd _));have fa : ∀ i, wc.frozen? ⟨g, i, none⟩ = false := HB.frozen;refine wrZ (fun _ => True) (fun _ _ h => h) (Ords.of [(0, 0), (0, 1), (0, 2), (1, 3), (0, 4), (0, 5), (1, 6), (0, 7), (2, 8), (0, 9), (2, 10)] .fin) trivial ?_
 iterate 8 ((first | refine ords_pure rfl (fun K hK => ?_) | refine ords_read rfl (fun K hK => ?_)); go_simp; refine hK _ ?_; clear hK K)
 refine ords_loud rfl (fun n1 => ?_);go_wp2_with (go_at_call 122; refine (turn_32 _ _).mono ?_; rintro e w9 ⟨rfl, m9, rfl⟩);refine ⟨trivial, ?_⟩;refine ords_pure rfl (fun K hK => ?_); go_simp; refine hK _ ?_; clear hK K;refine ords_loud rfl (fun n2 => ?_);go_wp2
 first | (refine ⟨trivial, ?_⟩; refine ords_end (fun n3 => ?_)) | (rintro _ ⟨n3, rfl⟩)
 have hb := ((HB.drewN (n1 + m9 + n2)).set_ pd (wv (rotr (kd ^^^ a1) 32))).drewN n3;rw [wcs_set, HLd.out] at hb;dsimp only at hb;have hr := ((HR.drewN (n1 + m9 + n2)).far (p := ⟨g, pd, none⟩) (show g + 1 ≠ g by omega) (wv (rotr (kd ^^^ a1) 32))).drewN n3;have hgr := bdr (bput (bdr HG ((n1 + m9 + n2))) (p := ⟨g, pd, none⟩) (show w.heap.size <= g from bZF HGE.symm) (wv (rotr (kd ^^^ a1) 32))) n3;go_wp2_with fail;change Blk (aZD (aZI (aZD wc ((n1 + m9 + n2))) ⟨g, pd, none⟩ (.int .u64 (wrd ((rotr (kd ^^^ a1) 32))))) n3) _ _ _ at hb;change Blk (aZD (aZI (aZD wc ((n1 + m9 + n2))) ⟨g, pd, none⟩ (.int .u64 (wrd ((rotr (kd ^^^ a1) 32))))) n3) _ _ _ at hr;change Below _ w (aZD (aZI (aZD wc ((n1 + m9 + n2))) ⟨g, pd, none⟩ (.int .u64 (wrd ((rotr (kd ^^^ a1) 32))))) n3) at hgr;clear ga gb gc gd fa HB HG HR;generalize aZD (aZI (aZD wc ((n1 + m9 + n2))) ⟨g, pd, none⟩ (.int .u64 (wrd ((rotr (kd ^^^ a1) 32))))) n3 = wn at *;obtain ⟨d1, hd1⟩ : ∃ d1, d1 = (rotr (kd ^^^ a1) 32) := ⟨_, rfl⟩;rw [<- hd1] at hb ⊢;clear wc;obtain ⟨wc, hwc⟩ : ∃ wc, wc = wn := ⟨_, rfl⟩;rw [<- hwc] at hb hr hgr ⊢;clear hwc;have Ed1 := zH hd1; have HB := zH hb; have HR := zH hr; have HG := zH hgr; clear hb hr hgr hd1;have ga : wc.cell? ⟨g, pa, none⟩ = some (.int .u64 (wrd a1)) := (HB.cell _).trans (wcs_at' _ _ _ (HAa _));have gb : wc.cell? ⟨g, pb, none⟩ = some (.int .u64 (wrd kb)) := (HB.cell _).trans (wcs_at' _ _ _ (HAb _));have gc : wc.cell? ⟨g, pc, none⟩ = some (.int .u64 (wrd kc)) := (HB.cell _).trans (wcs_at' _ _ _ (HAc _));have gd : wc.cell? ⟨g, pd, none⟩ = some (.int .u64 (wrd d1)) := (HB.cell _).trans (wcs_at' _ _ _ (HAd _));have fa : ∀ i, wc.frozen? ⟨g, i, none⟩ = false := HB.frozen;refine wrZ (fun _ => True) (fun _ _ h => h) (Ords.of [(0, 0), (0, 1), (0, 2), (1, 3), (0, 4), (0, 5), (1, 6), (0, 7), (0, 8), (2, 9)] .fin) trivial ?_
 iterate 9 ((first | refine ords_pure rfl (fun K hK => ?_) | refine ords_read rfl (fun K hK => ?_)); go_simp; refine hK _ ?_; clear hK K)
 refine ords_loud rfl (fun n1 => ?_);go_wp2
 first | (refine ⟨trivial, ?_⟩; refine ords_end (fun n2 => ?_)) | (rintro _ ⟨n2, rfl⟩)
 have hb := ((HB.drewN n1).set_ pc (wv (kc + d1))).drewN n2;rw [wcs_set, HLc.out] at hb;dsimp only at hb;have hr := ((HR.drewN n1).far (p := ⟨g, pc, none⟩) (show g + 1 ≠ g by omega) (wv (kc + d1))).drewN n2;have hgr := bdr (bput (bdr HG (n1)) (p := ⟨g, pc, none⟩) (show w.heap.size <= g from bZF HGE.symm) (wv (kc + d1))) n2;go_wp2_with fail;change Blk (aZD (aZI (aZD wc (n1)) ⟨g, pc, none⟩ (.int .u64 (wrd ((kc + d1))))) n2) _ _ _ at hb;change Blk (aZD (aZI (aZD wc (n1)) ⟨g, pc, none⟩ (.int .u64 (wrd ((kc + d1))))) n2) _ _ _ at hr;change Below _ w (aZD (aZI (aZD wc (n1)) ⟨g, pc, none⟩ (.int .u64 (wrd ((kc + d1))))) n2) at hgr;clear ga gb gc gd fa HB HG HR;generalize aZD (aZI (aZD wc (n1)) ⟨g, pc, none⟩ (.int .u64 (wrd ((kc + d1))))) n2 = wn at *;obtain ⟨c1, hc1⟩ : ∃ c1, c1 = (kc + d1) := ⟨_, rfl⟩;rw [<- hc1] at hb ⊢;clear wc;obtain ⟨wc, hwc⟩ : ∃ wc, wc = wn := ⟨_, rfl⟩;rw [<- hwc] at hb hr hgr ⊢;clear hwc;have Ec1 := zH hc1; have HB := zH hb; have HR := zH hr; have HG := zH hgr; clear hb hr hgr hc1;have ga : wc.cell? ⟨g, pa, none⟩ = some (.int .u64 (wrd a1)) := (HB.cell _).trans (wcs_at' _ _ _ (HAa _));have gb : wc.cell? ⟨g, pb, none⟩ = some (.int .u64 (wrd kb)) := (HB.cell _).trans (wcs_at' _ _ _ (HAb _));have gc : wc.cell? ⟨g, pc, none⟩ = some (.int .u64 (wrd c1)) := (HB.cell _).trans (wcs_at' _ _ _ (HAc _));have gd : wc.cell? ⟨g, pd, none⟩ = some (.int .u64 (wrd d1)) := (HB.cell _).trans (wcs_at' _ _ _ (HAd _));have fa : ∀ i, wc.frozen? ⟨g, i, none⟩ = false := HB.frozen;refine wrZ (fun _ => True) (fun _ _ h => h) (Ords.of [(0, 0), (0, 1), (0, 2), (1, 3), (0, 4), (0, 5), (1, 6), (0, 7), (2, 8), (0, 9), (2, 10)] .fin) trivial ?_
 iterate 8 ((first | refine ords_pure rfl (fun K hK => ?_) | refine ords_read rfl (fun K hK => ?_)); go_simp; refine hK _ ?_; clear hK K)
 refine ords_loud rfl (fun n1 => ?_);go_wp2_with (go_at_call 122; refine (turn_24 _ _).mono ?_; rintro e w9 ⟨rfl, m9, rfl⟩);refine ⟨trivial, ?_⟩;refine ords_pure rfl (fun K hK => ?_); go_simp; refine hK _ ?_; clear hK K;refine ords_loud rfl (fun n2 => ?_);go_wp2
 first | (refine ⟨trivial, ?_⟩; refine ords_end (fun n3 => ?_)) | (rintro _ ⟨n3, rfl⟩)
 have hb := ((HB.drewN (n1 + m9 + n2)).set_ pb (wv (rotr (kb ^^^ c1) 24))).drewN n3;rw [wcs_set, HLb.out] at hb;dsimp only at hb;have hr := ((HR.drewN (n1 + m9 + n2)).far (p := ⟨g, pb, none⟩) (show g + 1 ≠ g by omega) (wv (rotr (kb ^^^ c1) 24))).drewN n3;have hgr := bdr (bput (bdr HG ((n1 + m9 + n2))) (p := ⟨g, pb, none⟩) (show w.heap.size <= g from bZF HGE.symm) (wv (rotr (kb ^^^ c1) 24))) n3;go_wp2_with fail;change Blk (aZD (aZI (aZD wc ((n1 + m9 + n2))) ⟨g, pb, none⟩ (.int .u64 (wrd ((rotr (kb ^^^ c1) 24))))) n3) _ _ _ at hb;change Blk (aZD (aZI (aZD wc ((n1 + m9 + n2))) ⟨g, pb, none⟩ (.int .u64 (wrd ((rotr (kb ^^^ c1) 24))))) n3) _ _ _ at hr;change Below _ w (aZD (aZI (aZD wc ((n1 + m9 + n2))) ⟨g, pb, none⟩ (.int .u64 (wrd ((rotr (kb ^^^ c1) 24))))) n3) at hgr;clear ga gb gc gd fa HB HG HR;generalize aZD (aZI (aZD wc ((n1 + m9 + n2))) ⟨g, pb, none⟩ (.int .u64 (wrd ((rotr (kb ^^^ c1) 24))))) n3 = wn at *;obtain ⟨b1, hb1⟩ : ∃ b1, b1 = (rotr (kb ^^^ c1) 24) := ⟨_, rfl⟩;rw [<- hb1] at hb ⊢;clear wc;obtain ⟨wc, hwc⟩ : ∃ wc, wc = wn := ⟨_, rfl⟩;rw [<- hwc] at hb hr hgr ⊢;clear hwc;have Eb1 := zH hb1; have HB := zH hb; have HR := zH hr; have HG := zH hgr; clear hb hr hgr hb1;have ga : wc.cell? ⟨g, pa, none⟩ = some (.int .u64 (wrd a1)) := (HB.cell _).trans (wcs_at' _ _ _ (HAa _));have gb : wc.cell? ⟨g, pb, none⟩ = some (.int .u64 (wrd b1)) := (HB.cell _).trans (wcs_at' _ _ _ (HAb _));have gc : wc.cell? ⟨g, pc, none⟩ = some (.int .u64 (wrd c1)) := (HB.cell _).trans (wcs_at' _ _ _ (HAc _));have gd : wc.cell? ⟨g, pd, none⟩ = some (.int .u64 (wrd d1)) := (HB.cell _).trans (wcs_at' _ _ _ (HAd _));have fa : ∀ i, wc.frozen? ⟨g, i, none⟩ = false := HB.frozen;refine wrZ (fun _ => True) (fun _ _ h => h) (Ords.of [(0, 0), (0, 1), (0, 2), (1, 3), (0, 4), (0, 5), (1, 6), (0, 7), (0, 8), (0, 9), (0, 10), (2, 11)] .fin) trivial ?_
 iterate 11 ((first | refine ords_pure rfl (fun K hK => ?_) | refine ords_read rfl (fun K hK => ?_)); go_simp; refine hK _ ?_; clear hK K)
 refine ords_loud rfl (fun n1 => ?_);go_wp2
 first | (refine ⟨trivial, ?_⟩; refine ords_end (fun n2 => ?_)) | (rintro _ ⟨n2, rfl⟩)
 have hb := ((HB.drewN n1).set_ pa (wv (a1 + b1 + y))).drewN n2;rw [wcs_set, HLa.out] at hb;dsimp only at hb;have hr := ((HR.drewN n1).far (p := ⟨g, pa, none⟩) (show g + 1 ≠ g by omega) (wv (a1 + b1 + y))).drewN n2;have hgr := bdr (bput (bdr HG (n1)) (p := ⟨g, pa, none⟩) (show w.heap.size <= g from bZF HGE.symm) (wv (a1 + b1 + y))) n2;go_wp2_with fail;change Blk (aZD (aZI (aZD wc (n1)) ⟨g, pa, none⟩ (.int .u64 (wrd ((a1 + b1 + y))))) n2) _ _ _ at hb;change Blk (aZD (aZI (aZD wc (n1)) ⟨g, pa, none⟩ (.int .u64 (wrd ((a1 + b1 + y))))) n2) _ _ _ at hr;change Below _ w (aZD (aZI (aZD wc (n1)) ⟨g, pa, none⟩ (.int .u64 (wrd ((a1 + b1 + y))))) n2) at hgr;clear ga gb gc gd fa HB HG HR;generalize aZD (aZI (aZD wc (n1)) ⟨g, pa, none⟩ (.int .u64 (wrd ((a1 + b1 + y))))) n2 = wn at *;obtain ⟨a2, ha2⟩ : ∃ a2, a2 = (a1 + b1 + y) := ⟨_, rfl⟩;rw [<- ha2] at hb ⊢;clear wc;obtain ⟨wc, hwc⟩ : ∃ wc, wc = wn := ⟨_, rfl⟩;rw [<- hwc] at hb hr hgr ⊢;clear hwc;have Ea2 := zH ha2; have HB := zH hb; have HR := zH hr; have HG := zH hgr; clear hb hr hgr ha2;have ga : wc.cell? ⟨g, pa, none⟩ = some (.int .u64 (wrd a2)) := (HB.cell _).trans (wcs_at' _ _ _ (HAa _));have gb : wc.cell? ⟨g, pb, none⟩ = some (.int .u64 (wrd b1)) := (HB.cell _).trans (wcs_at' _ _ _ (HAb _));have gc : wc.cell? ⟨g, pc, none⟩ = some (.int .u64 (wrd c1)) := (HB.cell _).trans (wcs_at' _ _ _ (HAc _));have gd : wc.cell? ⟨g, pd, none⟩ = some (.int .u64 (wrd d1)) := (HB.cell _).trans (wcs_at' _ _ _ (HAd _));have fa : ∀ i, wc.frozen? ⟨g, i, none⟩ = false := HB.frozen;refine wrZ (fun _ => True) (fun _ _ h => h) (Ords.of [(0, 0), (0, 1), (0, 2), (1, 3), (0, 4), (0, 5), (1, 6), (0, 7), (2, 8), (0, 9), (2, 10)] .fin) trivial ?_
 iterate 8 ((first | refine ords_pure rfl (fun K hK => ?_) | refine ords_read rfl (fun K hK => ?_)); go_simp; refine hK _ ?_; clear hK K)
 refine ords_loud rfl (fun n1 => ?_);go_wp2_with (go_at_call 122; refine (turn_16 _ _).mono ?_; rintro e w9 ⟨rfl, m9, rfl⟩);refine ⟨trivial, ?_⟩;refine ords_pure rfl (fun K hK => ?_); go_simp; refine hK _ ?_; clear hK K;refine ords_loud rfl (fun n2 => ?_);go_wp2
 first | (refine ⟨trivial, ?_⟩; refine ords_end (fun n3 => ?_)) | (rintro _ ⟨n3, rfl⟩)
 have hb := ((HB.drewN (n1 + m9 + n2)).set_ pd (wv (rotr (d1 ^^^ a2) 16))).drewN n3;rw [wcs_set, HLd.out] at hb;dsimp only at hb;have hr := ((HR.drewN (n1 + m9 + n2)).far (p := ⟨g, pd, none⟩) (show g + 1 ≠ g by omega) (wv (rotr (d1 ^^^ a2) 16))).drewN n3;have hgr := bdr (bput (bdr HG ((n1 + m9 + n2))) (p := ⟨g, pd, none⟩) (show w.heap.size <= g from bZF HGE.symm) (wv (rotr (d1 ^^^ a2) 16))) n3;go_wp2_with fail;change Blk (aZD (aZI (aZD wc ((n1 + m9 + n2))) ⟨g, pd, none⟩ (.int .u64 (wrd ((rotr (d1 ^^^ a2) 16))))) n3) _ _ _ at hb;change Blk (aZD (aZI (aZD wc ((n1 + m9 + n2))) ⟨g, pd, none⟩ (.int .u64 (wrd ((rotr (d1 ^^^ a2) 16))))) n3) _ _ _ at hr;change Below _ w (aZD (aZI (aZD wc ((n1 + m9 + n2))) ⟨g, pd, none⟩ (.int .u64 (wrd ((rotr (d1 ^^^ a2) 16))))) n3) at hgr;clear ga gb gc gd fa HB HG HR;generalize aZD (aZI (aZD wc ((n1 + m9 + n2))) ⟨g, pd, none⟩ (.int .u64 (wrd ((rotr (d1 ^^^ a2) 16))))) n3 = wn at *;obtain ⟨d2, hd2⟩ : ∃ d2, d2 = (rotr (d1 ^^^ a2) 16) := ⟨_, rfl⟩;rw [<- hd2] at hb ⊢;clear wc;obtain ⟨wc, hwc⟩ : ∃ wc, wc = wn := ⟨_, rfl⟩;rw [<- hwc] at hb hr hgr ⊢;clear hwc;have Ed2 := zH hd2; have HB := zH hb; have HR := zH hr; have HG := zH hgr; clear hb hr hgr hd2;have ga : wc.cell? ⟨g, pa, none⟩ = some (.int .u64 (wrd a2)) := (HB.cell _).trans (wcs_at' _ _ _ (HAa _));have gb : wc.cell? ⟨g, pb, none⟩ = some (.int .u64 (wrd b1)) := (HB.cell _).trans (wcs_at' _ _ _ (HAb _));have gc : wc.cell? ⟨g, pc, none⟩ = some (.int .u64 (wrd c1)) := (HB.cell _).trans (wcs_at' _ _ _ (HAc _));have gd : wc.cell? ⟨g, pd, none⟩ = some (.int .u64 (wrd d2)) := (HB.cell _).trans (wcs_at' _ _ _ (HAd _));have fa : ∀ i, wc.frozen? ⟨g, i, none⟩ = false := HB.frozen;refine wrZ (fun _ => True) (fun _ _ h => h) (Ords.of [(0, 0), (0, 1), (0, 2), (1, 3), (0, 4), (0, 5), (1, 6), (0, 7), (0, 8), (2, 9)] .fin) trivial ?_
 iterate 9 ((first | refine ords_pure rfl (fun K hK => ?_) | refine ords_read rfl (fun K hK => ?_)); go_simp; refine hK _ ?_; clear hK K)
 refine ords_loud rfl (fun n1 => ?_);go_wp2
 first | (refine ⟨trivial, ?_⟩; refine ords_end (fun n2 => ?_)) | (rintro _ ⟨n2, rfl⟩)
 have hb := ((HB.drewN n1).set_ pc (wv (c1 + d2))).drewN n2;rw [wcs_set, HLc.out] at hb;dsimp only at hb;have hr := ((HR.drewN n1).far (p := ⟨g, pc, none⟩) (show g + 1 ≠ g by omega) (wv (c1 + d2))).drewN n2;have hgr := bdr (bput (bdr HG (n1)) (p := ⟨g, pc, none⟩) (show w.heap.size <= g from bZF HGE.symm) (wv (c1 + d2))) n2;go_wp2_with fail;change Blk (aZD (aZI (aZD wc (n1)) ⟨g, pc, none⟩ (.int .u64 (wrd ((c1 + d2))))) n2) _ _ _ at hb;change Blk (aZD (aZI (aZD wc (n1)) ⟨g, pc, none⟩ (.int .u64 (wrd ((c1 + d2))))) n2) _ _ _ at hr;change Below _ w (aZD (aZI (aZD wc (n1)) ⟨g, pc, none⟩ (.int .u64 (wrd ((c1 + d2))))) n2) at hgr;clear ga gb gc gd fa HB HG HR;generalize aZD (aZI (aZD wc (n1)) ⟨g, pc, none⟩ (.int .u64 (wrd ((c1 + d2))))) n2 = wn at *;obtain ⟨c2, hc2⟩ : ∃ c2, c2 = (c1 + d2) := ⟨_, rfl⟩;rw [<- hc2] at hb ⊢;clear wc;obtain ⟨wc, hwc⟩ : ∃ wc, wc = wn := ⟨_, rfl⟩;rw [<- hwc] at hb hr hgr ⊢;clear hwc;have Ec2 := zH hc2; have HB := zH hb; have HR := zH hr; have HG := zH hgr; clear hb hr hgr hc2;have ga : wc.cell? ⟨g, pa, none⟩ = some (.int .u64 (wrd a2)) := (HB.cell _).trans (wcs_at' _ _ _ (HAa _));have gb : wc.cell? ⟨g, pb, none⟩ = some (.int .u64 (wrd b1)) := (HB.cell _).trans (wcs_at' _ _ _ (HAb _));have gc : wc.cell? ⟨g, pc, none⟩ = some (.int .u64 (wrd c2)) := (HB.cell _).trans (wcs_at' _ _ _ (HAc _));have gd : wc.cell? ⟨g, pd, none⟩ = some (.int .u64 (wrd d2)) := (HB.cell _).trans (wcs_at' _ _ _ (HAd _));have fa : ∀ i, wc.frozen? ⟨g, i, none⟩ = false := HB.frozen;refine wrZ (fun _ => True) (fun _ _ h => h) (Ords.of [(0, 0), (0, 1), (0, 2), (1, 3), (0, 4), (0, 5), (1, 6), (0, 7), (2, 8), (0, 9), (2, 10)] .fin) trivial ?_
 iterate 8 ((first | refine ords_pure rfl (fun K hK => ?_) | refine ords_read rfl (fun K hK => ?_)); go_simp; refine hK _ ?_; clear hK K)
 refine ords_loud rfl (fun n1 => ?_);go_wp2_with (go_at_call 122; refine (turn_63 _ _).mono ?_; rintro e w9 ⟨rfl, m9, rfl⟩);refine ⟨trivial, ?_⟩;refine ords_pure rfl (fun K hK => ?_); go_simp; refine hK _ ?_; clear hK K;refine ords_loud rfl (fun n2 => ?_);go_wp2
 first | (refine ⟨trivial, ?_⟩; refine ords_end (fun n3 => ?_)) | (rintro _ ⟨n3, rfl⟩)
 have hb := ((HB.drewN (n1 + m9 + n2)).set_ pb (wv (rotr (b1 ^^^ c2) 63))).drewN n3;rw [wcs_set, HLb.out] at hb;dsimp only at hb;have hr := ((HR.drewN (n1 + m9 + n2)).far (p := ⟨g, pb, none⟩) (show g + 1 ≠ g by omega) (wv (rotr (b1 ^^^ c2) 63))).drewN n3;have hgr := bdr (bput (bdr HG ((n1 + m9 + n2))) (p := ⟨g, pb, none⟩) (show w.heap.size <= g from bZF HGE.symm) (wv (rotr (b1 ^^^ c2) 63))) n3;go_upto_region 11 with fail
 change Blk (aZD (aZI (aZD wc ((n1 + m9 + n2))) ⟨g, pb, none⟩ (.int .u64 (wrd ((rotr (b1 ^^^ c2) 63))))) n3) _ _ _ at hb;change Blk (aZD (aZI (aZD wc ((n1 + m9 + n2))) ⟨g, pb, none⟩ (.int .u64 (wrd ((rotr (b1 ^^^ c2) 63))))) n3) _ _ _ at hr;change Below _ w (aZD (aZI (aZD wc ((n1 + m9 + n2))) ⟨g, pb, none⟩ (.int .u64 (wrd ((rotr (b1 ^^^ c2) 63))))) n3) at hgr;clear ga gb gc gd fa HB HG HR;generalize aZD (aZI (aZD wc ((n1 + m9 + n2))) ⟨g, pb, none⟩ (.int .u64 (wrd ((rotr (b1 ^^^ c2) 63))))) n3 = wn at *;obtain ⟨b2, hb2⟩ : ∃ b2, b2 = (rotr (b1 ^^^ c2) 63) := ⟨_, rfl⟩;rw [<- hb2] at hb ⊢;clear wc;obtain ⟨wc, hwc⟩ : ∃ wc, wc = wn := ⟨_, rfl⟩;rw [<- hwc] at hb hr hgr ⊢;clear hwc;have Eb2 := zH hb2; have HB := zH hb; have HR := zH hr; have HG := zH hgr; clear hb hr hgr hb2;have e : (⟨a2, b2, c2, d2⟩ : Qd UInt64) = gm64 ⟨ka, kb, kc, kd⟩ x y := by
  unfold gm64
  dsimp only
  rw [Eb2.out, Ec2.out, Ed2.out, Ea2.out, Eb1.out, Ec1.out, Ed1.out, Ea1.out];simp only [UInt64.add_assoc]
 clear Eb2 Ec2 Ed2 Ea2 Eb1 Ec1 Ed1 Ea1 HLa HLb HLc HLd HAa HAb HAc HAd;have h := HB.out;rw [e] at h;have H := zH h; clear h HB;go_wp2_with (first
  | (refine aZH rfl 41 _ rfl g rfl 41 (wcs (lay (gm64 ⟨ka, kb, kc, kd⟩ x y))) (0, 0) _ H.out hu.out rfl hsz.out ?_)
  | (refine aZE rfl 41 _ _ rfl (g + 1) (wcs (lay (gm64 ⟨ka, kb, kc, kd⟩ x y))) rfl rfl 41 _ HR hsz.out hVs.out hall.out ?_))
 exact aZB (results_cell_tmp rfl _ _ (g + 1) _ _ _ rfl (HR.row _) hu.out rfl hsz.out) rfl ⟨rfl, brow HG.out (by have := HGE.out; omega) _⟩
theorem refRound_any (r : Nat) (V M : List UInt64) (w : World) (hr : r < 12) (hV : V.length = 16) (hM : M.length = 16) :
  Calls Tryz.prog 95 #[.agg (wcs V), .agg (wcs M), .int .i64 r] w fun e w' => e = .returned (.tuple #[.agg (wcs (turn64 M r V)), .int .i64 0]) /\ Below w.heap.size w w' := by
 have HV := zH hV; have HM := zH hM; clear hV hM;have hsl := sigma_len r;have hslt := sigma_lt r;have hsg := fun i hi W => refSigma_any r i hi W
 unfold turn64;generalize sigma r = S at *;have HST := zH hslt; have HSG := zH hsg; clear hsl hslt hsg;have hpl := zH refPlaces_any;have hu := zH Tryz.underlying41;have hr0 : decide ((r : Int) < 0) = false := by simp
 have hr1 : decide ((11 : Int) < (r : Int)) = false := by simp; omega
 have n0 : Blk (((w.alloc (.cells (wcs V) 41)).alloc (.cells (wcs M) 41)).alloc (.cells z16 41)) w.heap.size 41 (wcs V) := ((Blk.new _ _ _).alloc _).alloc _;have n1 : Blk (((w.alloc (.cells (wcs V) 41)).alloc (.cells (wcs M) 41)).alloc (.cells z16 41)) (w.heap.size + 1) 41 (wcs M) := by
  have := (Blk.new (w.alloc (.cells (wcs V) 41)) 41 (wcs M)).alloc (.cells z16 41); simpa using this
 have n2 : Blk (((w.alloc (.cells (wcs V) 41)).alloc (.cells (wcs M) 41)).alloc (.cells z16 41)) (w.heap.size + 1 + 1) 41 z16 := by
  have := Blk.new ((w.alloc (.cells (wcs V) 41)).alloc (.cells (wcs M) 41)) 41 z16; simpa using this
 have n4 := bal (bal (bal (b0 w) (.cells (wcs V) 41)) (.cells (wcs M) 41)) (.cells z16 41);obtain ⟨g, hg⟩ : ∃ g, g = w.heap.size := ⟨_, rfl⟩;unfold z16 at n0 n1 n2 n4;rw [<- hg] at n0 n1 n2;go_enter Tryz.func95, Tryz.ntmps95;go_upto_region 3 with fail
 rw [<- hg];generalize ((w.alloc (.cells (wcs V) 41)).alloc (.cells (wcs M) 41)).alloc (.cells #[.int .u64 0, .int .u64 0, .int .u64 0, .int .u64 0, .int .u64 0, .int .u64 0, .int .u64 0, .int .u64 0, .int .u64 0, .int .u64 0, .int .u64 0, .int .u64 0, .int .u64 0, .int .u64 0, .int .u64 0, .int .u64 0] 41) = w0 at *;have N0 := zH n0; have N1 := zH n1; have N2 := zH n2; have N4 := zH n4; have hwg : Hid (w.heap.size <= g) := by (show _ <= _; omega)
 clear n0 n1 n2 n4 hg hr0 hr1;go_wp2_with fail;go_loopw [8] (fun i wr => ∃ k : Nat, k <= 8 /\ i = .int .i64 k /\ Blk wr g 41 (wcs (turnTo64 M S k V)) /\ Blk wr (g + 1) 41 (wcs M) /\ Blk wr (g + 1 + 1) 41 z16 /\ Below w.heap.size w wr) (fun i _ => 8 - (intOf i).toNat)
 case atStart => exact ⟨0, by omega, rfl, N0.out, N1.out, N2.out, N4.out⟩
 case round =>
  clear N0 N1 N2 N4;obtain ⟨k, hk, rfl, x0, x1, x2, x4⟩ := hrel;have N0 := zH x0; have N1 := zH x1; have N2 := zH x2; have N4 := zH x4; clear x0 x1 x2 x4
  by_cases hlt : k < 8
  ·have hP := fun W => hpl.out k hlt W
   have hok := pls_ok k hlt;have hturn : turnTo64 M S (k + 1) V = (pls k).lay (turnTo64 M S k V) (gm64 ((pls k).get 0 (turnTo64 M S k V)) (M.getD (S.getD (2 * k) 0) 0) (M.getD (S.getD (2 * k + 1) 0) 0)) := rfl;have hTl : (turnTo64 M S k V).length = 16 := by rw [turnTo64_len, HV.out]
   have hTl1 : (turnTo64 M S (k + 1) V).length = 16 := by rw [turnTo64_len, HV.out]
   obtain ⟨i2, hi2⟩ : ∃ i2, i2 = 2 * k := ⟨_, rfl⟩;obtain ⟨i3, hi3⟩ : ∃ i3, i3 = 2 * k + 1 := ⟨_, rfl⟩;rw [<- hi3, <- hi2] at hturn;have e2 : 2 * (k : Int) = (i2 : Int) := by omega
   have e3 : (i2 : Int) + 1 = (i3 : Int) := by omega
   have l2 : i2 < 16 := by omega
   have l3 : i3 < 16 := by omega
   have hs2c := fun W => HSG i2 l2 W
   have hs3c := fun W => HSG i3 l3 W
   obtain ⟨s2, hs2⟩ : ∃ s, s = S.getD i2 0 := ⟨_, rfl⟩;obtain ⟨s3, hs3⟩ : ∃ s, s = S.getD i3 0 := ⟨_, rfl⟩;have ls2 : s2 < 16 := by rw [hs2]; exact HST.out i2 l2
   have ls3 : s3 < 16 := by rw [hs3]; exact HST.out i3 l3
   rw [<- hs2] at hturn hs2c;rw [<- hs3] at hturn hs3c;obtain ⟨x, hx⟩ : ∃ x, x = M.getD s2 0 := ⟨_, rfl⟩;obtain ⟨y, hy⟩ : ∃ y, y = M.getD s3 0 := ⟨_, rfl⟩;have m2 : (wcs M)[s2]? = some (.int .u64 (wrd x)) := by rw [wcs_get M s2 (by rw [HM.out]; exact ls2), hx]; rfl
   have m3 : (wcs M)[s3]? = some (.int .u64 (wrd y)) := by rw [wcs_get M s3 (by rw [HM.out]; exact ls3), hy]; rfl
   rw [<- hx, <- hy] at hturn;obtain ⟨p, hp⟩ : ∃ p, p = pls k := ⟨_, rfl⟩;rw [<- hp] at hP hok hturn;have hG := fun W => refG_any p (turnTo64 M S k V) x y W hok hTl
   rw [<- hturn] at hG;obtain ⟨pa, pb, pc, pd⟩ := p;unfold plv at hP;dsimp only at hP hG;have HP := zH hP; have HG := zH hG; have HS2 := zH hs2c; have HS3 := zH hs3c; have HM2 := zH m2; have HM3 := zH m3;have hsV := zH (sz16w _ hTl);have hsW := zH (sz16w _ hTl1);have hold : Hid ((wcs (turnTo64 M S k V)).size = (wcs (turnTo64 M S (k + 1) V)).size) := by show _ = _; rw [wcs_size, wcs_size, hTl, hTl1]
   have hall := zH (wcs_all (turnTo64 M S (k + 1) V));clear hP hG hs2c hs3c m2 m3 hturn hok hTl hTl1 hi2 hi3 hs2 hs3 hx hy hp;have j2 : (i2 : Int) < 16 := by omega
   have j3 : (i3 : Int) < 16 := by omega
   have j4 : (s2 : Int) < 16 := by omega
   have j5 : (s3 : Int) < 16 := by omega
   have hkd : decide ((k : Int) < 8) = true := by simp; omega
   have w2' : IntKind.i64.wrap (i2 : Int) = i2 := by simp [aZU, aZR, aZM]; omega
   have w3' : IntKind.i64.wrap (i3 : Int) = i3 := by simp [aZU, aZR, aZM]; omega
   go_upto_region 7 with (go_at_call 111; refine (HP _).mono ?_; rintro e w1 ⟨rfl, hb1⟩)
   obtain ⟨P1, hP1⟩ : ∃ P1, P1 = w1.heap.size := ⟨_, rfl⟩;have T0 : Blk (w1.alloc (.cells #[.int .i64 pa, .int .i64 pb, .int .i64 pc, .int .i64 pd] 176)) P1 176 #[.int .i64 pa, .int .i64 pb, .int .i64 pc, .int .i64 pd] := by rw [hP1]; exact Blk.new _ _ _
   have X0 := (N0.below hb1 N0.lt).alloc (.cells #[.int .i64 pa, .int .i64 pb, .int .i64 pc, .int .i64 pd] 176);have X1 := (N1.below hb1 N1.lt).alloc (.cells #[.int .i64 pa, .int .i64 pb, .int .i64 pc, .int .i64 pd] 176);have X2 := (N2.below hb1 N2.lt).alloc (.cells #[.int .i64 pa, .int .i64 pb, .int .i64 pc, .int .i64 pd] 176);have X4 := bal (bcall N4 hb1) (.cells #[.int .i64 pa, .int .i64 pb, .int .i64 pc, .int .i64 pd] 176);have hgP : g + 1 + 1 < P1 := by have := N2.lt; have := hb1.size; omega
   rw [<- hP1];clear hP1 hb1 N0 N1 N2 N4;generalize w1.alloc (.cells #[.int .i64 pa, .int .i64 pb, .int .i64 pc, .int .i64 pd] 176) = w2 at *;have HT := zH T0; have N0 := zH X0; have N1 := zH X1; have N2 := zH X2; have N4 := zH X4; clear T0 X0 X1 X2 X4;have c0 : w2.cell? ⟨P1, 0, none⟩ = some (.int .i64 pa) := HT.cell 0;have c1 : w2.cell? ⟨P1, 1, none⟩ = some (.int .i64 pb) := HT.cell 1;have c2 : w2.cell? ⟨P1, 2, none⟩ = some (.int .i64 pc) := HT.cell 2;have c3 : w2.cell? ⟨P1, 3, none⟩ = some (.int .i64 pd) := HT.cell 3;have c4 : w2.cell? ⟨g + 1, s2, none⟩ = some (.int .u64 (wrd x)) := (N1.cell _).trans HM2.out;have c5 : w2.cell? ⟨g + 1, s3, none⟩ = some (.int .u64 (wrd y)) := (N1.cell _).trans HM3.out;refine wrZ (fun w' => Blk w' P1 176 #[.int .i64 pa, .int .i64 pb, .int .i64 pc, .int .i64 pd] /\ Blk w' (g + 1) 41 (wcs M)) (fun _ n h => ⟨h.1.drewN n, h.2.drewN n⟩) (Ords.of [(0, 1), (0, 2), (0, 3), (0, 4), (0, 5), (0, 6), (0, 7), (0, 8), (0, 9), (0, 10), (0, 11), (0, 15), (0, 16), (0, 17), (0, 18)] (.two 0 12 (Ords.of [(2, 12), (0, 13), (0, 14), (2, 19), (0, 20), (0, 21), (2, 22), (0, 23), (0, 24), (0, 25), (2, 26)] .fin) (Ords.of [(0, 13), (0, 14)] (.two 0 19 (Ords.of [(2, 19), (0, 20), (0, 21), (2, 22), (0, 23), (0, 24), (0, 25), (2, 26)] .fin) (Ords.of [(0, 20), (0, 21), (2, 0), (2, 22), (0, 23), (0, 24), (0, 25), (2, 26)] .fin))))) ⟨HT.out, N1.out⟩ ?_
   iterate 4 (refine ords_pure rfl (fun K hK => ?_); go_simp; refine hK _ ?_; clear hK K; refine ords_heldK rfl (fun K K2 hK hK2 => ?_); go_simp; refine ⟨hK2 _ (fun w9 hS => ?_), hK _ ?_⟩; (clear hK hK2 K K2; have q0 : w9.cell? ⟨P1, 0, none⟩ = some (.int .i64 pa) := hS.1.cell 0; have q1 : w9.cell? ⟨P1, 1, none⟩ = some (.int .i64 pb) := hS.1.cell 1; have q2 : w9.cell? ⟨P1, 2, none⟩ = some (.int .i64 pc) := hS.1.cell 2; have q3 : w9.cell? ⟨P1, 3, none⟩ = some (.int .i64 pd) := hS.1.cell 3; have q4 : w9.cell? ⟨g + 1, s2, none⟩ = some (.int .u64 (wrd x)) := (hS.2.cell _).trans HM2.out; have q5 : w9.cell? ⟨g + 1, s3, none⟩ = some (.int .u64 (wrd y)) := (hS.2.cell _).trans HM3.out; go_simp); (clear hK hK2 K K2))
   iterate 7 (refine ords_pure rfl (fun K hK => ?_); go_simp; refine hK _ ?_; clear hK K)
   refine ords_two rfl rfl (fun n1 => ?_) (fun n1 => ?_)
   ·go_wp2_with (first | (refine aZH rfl 41 _ rfl g rfl 41 (wcs (turnTo64 M S k V)) (0, 0) _ (N0.drewN _) hu.out rfl hsV.out ?_) | (refine aZH rfl 41 _ rfl g rfl 41 (wcs (turnTo64 M S k V)) (0, 0) _ ((N0.drewN _).drewN _) hu.out rfl hsV.out ?_) | (refine aZH rfl 41 _ rfl g rfl 41 (wcs (turnTo64 M S k V)) (0, 0) _ (((N0.drewN _).drewN _).drewN _) hu.out rfl hsV.out ?_))
    refine ⟨⟨by first | exact HT.drewN _ | exact (HT.drewN _).drewN _ | exact ((HT.drewN _).drewN _).drewN _, by first | exact N1.drewN _ | exact (N1.drewN _).drewN _ | exact ((N1.drewN _).drewN _).drewN _⟩, ?_⟩;refine ords_loud rfl (fun n2 => ?_);go_wp2_with (go_at_call 113; refine (HS2 _).mono ?_; rintro e w9 ⟨rfl, rfl⟩);refine ⟨⟨HT.drewN _, N1.drewN _⟩, ?_⟩;refine ords_pure rfl (fun K hK => ?_); go_simp; refine hK _ ?_; clear hK K;refine ords_heldK rfl (fun K K2 hK hK2 => ?_); go_simp; refine ⟨hK2 _ (fun w9 hS => ?_), hK _ ?_⟩; (clear hK hK2 K K2; have q0 : w9.cell? ⟨P1, 0, none⟩ = some (.int .i64 pa) := hS.1.cell 0; have q1 : w9.cell? ⟨P1, 1, none⟩ = some (.int .i64 pb) := hS.1.cell 1; have q2 : w9.cell? ⟨P1, 2, none⟩ = some (.int .i64 pc) := hS.1.cell 2; have q3 : w9.cell? ⟨P1, 3, none⟩ = some (.int .i64 pd) := hS.1.cell 3; have q4 : w9.cell? ⟨g + 1, s2, none⟩ = some (.int .u64 (wrd x)) := (hS.2.cell _).trans HM2.out; have q5 : w9.cell? ⟨g + 1, s3, none⟩ = some (.int .u64 (wrd y)) := (hS.2.cell _).trans HM3.out; go_simp); (clear hK hK2 K K2);refine ords_loud rfl (fun n3 => ?_);go_wp2_with (go_at_call 113; refine (HS3 _).mono ?_; rintro e w9 ⟨rfl, rfl⟩);refine ⟨⟨HT.drewN _, N1.drewN _⟩, ?_⟩;refine ords_pure rfl (fun K hK => ?_); go_simp; refine hK _ ?_; clear hK K;refine ords_heldK rfl (fun K K2 hK hK2 => ?_); go_simp; refine ⟨hK2 _ (fun w9 hS => ?_), hK _ ?_⟩; (clear hK hK2 K K2; have q0 : w9.cell? ⟨P1, 0, none⟩ = some (.int .i64 pa) := hS.1.cell 0; have q1 : w9.cell? ⟨P1, 1, none⟩ = some (.int .i64 pb) := hS.1.cell 1; have q2 : w9.cell? ⟨P1, 2, none⟩ = some (.int .i64 pc) := hS.1.cell 2; have q3 : w9.cell? ⟨P1, 3, none⟩ = some (.int .i64 pd) := hS.1.cell 3; have q4 : w9.cell? ⟨g + 1, s2, none⟩ = some (.int .u64 (wrd x)) := (hS.2.cell _).trans HM2.out; have q5 : w9.cell? ⟨g + 1, s3, none⟩ = some (.int .u64 (wrd y)) := (hS.2.cell _).trans HM3.out; go_simp); (clear hK hK2 K K2);refine ords_loud rfl (fun n4 => ?_);go_wp2_with (go_at_call 112; refine (HG _).mono ?_; rintro e w8 ⟨rfl, hb8⟩);have y0 := (N0.drewN _).below hb8 (N0.drewN _).lt; have y1 := (N1.drewN _).below hb8 (N1.drewN _).lt; have y2 := (N2.drewN _).below hb8 (N2.drewN _).lt; have yt := (HT.drewN _).below hb8 (HT.drewN _).lt; have y4 := bcall (bdr N4 _) hb8;refine ⟨⟨yt, y1⟩, ?_⟩
    iterate 3 (refine ords_pure rfl (fun K hK => ?_); go_simp; refine hK _ ?_; clear hK K)
    refine ords_loud rfl (fun n5 => ?_);go_wp2_with (refine aZE rfl 41 _ _ rfl g (wcs (turnTo64 M S (k + 1) V)) rfl rfl 41 _ (y0.drewN _) hsW.out hold.out hall.out ?_);refine ⟨⟨(yt.drewN _).rowFar (by omega) _, (y1.drewN _).rowFar (by omega) _⟩, ?_⟩;refine ords_end (fun n6 => ?_);go_wp2_with fail;go_roundw
    case rel => exact ⟨k + 1, by omega, by go_num, ((y0.drewN _).row _).drewN _, ((y1.drewN _).rowFar (by omega) _).drewN _, ((y2.drewN _).rowFar (by omega) _).drewN _, bdr (brow (bdr y4 _) hwg.out _) _⟩
    case measure => simp [intOf]; omega
   ·go_wp2_with (go_at_call 113; refine (HS2 _).mono ?_; rintro e w9 ⟨rfl, rfl⟩)
    refine ⟨⟨HT.drewN _, N1.drewN _⟩, ?_⟩;refine ords_pure rfl (fun K hK => ?_); go_simp; refine hK _ ?_; clear hK K;refine ords_heldK rfl (fun K K2 hK hK2 => ?_); go_simp; refine ⟨hK2 _ (fun w9 hS => ?_), hK _ ?_⟩; (clear hK hK2 K K2; have q0 : w9.cell? ⟨P1, 0, none⟩ = some (.int .i64 pa) := hS.1.cell 0; have q1 : w9.cell? ⟨P1, 1, none⟩ = some (.int .i64 pb) := hS.1.cell 1; have q2 : w9.cell? ⟨P1, 2, none⟩ = some (.int .i64 pc) := hS.1.cell 2; have q3 : w9.cell? ⟨P1, 3, none⟩ = some (.int .i64 pd) := hS.1.cell 3; have q4 : w9.cell? ⟨g + 1, s2, none⟩ = some (.int .u64 (wrd x)) := (hS.2.cell _).trans HM2.out; have q5 : w9.cell? ⟨g + 1, s3, none⟩ = some (.int .u64 (wrd y)) := (hS.2.cell _).trans HM3.out; go_simp); (clear hK hK2 K K2);refine ords_two rfl rfl (fun n2 => ?_) (fun n2 => ?_)
    ·go_wp2_with (first | (refine aZH rfl 41 _ rfl g rfl 41 (wcs (turnTo64 M S k V)) (0, 0) _ (N0.drewN _) hu.out rfl hsV.out ?_) | (refine aZH rfl 41 _ rfl g rfl 41 (wcs (turnTo64 M S k V)) (0, 0) _ ((N0.drewN _).drewN _) hu.out rfl hsV.out ?_) | (refine aZH rfl 41 _ rfl g rfl 41 (wcs (turnTo64 M S k V)) (0, 0) _ (((N0.drewN _).drewN _).drewN _) hu.out rfl hsV.out ?_))
     refine ⟨⟨by first | exact HT.drewN _ | exact (HT.drewN _).drewN _ | exact ((HT.drewN _).drewN _).drewN _, by first | exact N1.drewN _ | exact (N1.drewN _).drewN _ | exact ((N1.drewN _).drewN _).drewN _⟩, ?_⟩;refine ords_loud rfl (fun n3 => ?_);go_wp2_with (go_at_call 113; refine (HS3 _).mono ?_; rintro e w9 ⟨rfl, rfl⟩);refine ⟨⟨HT.drewN _, N1.drewN _⟩, ?_⟩;refine ords_pure rfl (fun K hK => ?_); go_simp; refine hK _ ?_; clear hK K;refine ords_heldK rfl (fun K K2 hK hK2 => ?_); go_simp; refine ⟨hK2 _ (fun w9 hS => ?_), hK _ ?_⟩; (clear hK hK2 K K2; have q0 : w9.cell? ⟨P1, 0, none⟩ = some (.int .i64 pa) := hS.1.cell 0; have q1 : w9.cell? ⟨P1, 1, none⟩ = some (.int .i64 pb) := hS.1.cell 1; have q2 : w9.cell? ⟨P1, 2, none⟩ = some (.int .i64 pc) := hS.1.cell 2; have q3 : w9.cell? ⟨P1, 3, none⟩ = some (.int .i64 pd) := hS.1.cell 3; have q4 : w9.cell? ⟨g + 1, s2, none⟩ = some (.int .u64 (wrd x)) := (hS.2.cell _).trans HM2.out; have q5 : w9.cell? ⟨g + 1, s3, none⟩ = some (.int .u64 (wrd y)) := (hS.2.cell _).trans HM3.out; go_simp); (clear hK hK2 K K2);refine ords_loud rfl (fun n4 => ?_);go_wp2_with (go_at_call 112; refine (HG _).mono ?_; rintro e w8 ⟨rfl, hb8⟩);have y0 := (N0.drewN _).below hb8 (N0.drewN _).lt; have y1 := (N1.drewN _).below hb8 (N1.drewN _).lt; have y2 := (N2.drewN _).below hb8 (N2.drewN _).lt; have yt := (HT.drewN _).below hb8 (HT.drewN _).lt; have y4 := bcall (bdr N4 _) hb8;refine ⟨⟨yt, y1⟩, ?_⟩
     iterate 3 (refine ords_pure rfl (fun K hK => ?_); go_simp; refine hK _ ?_; clear hK K)
     refine ords_loud rfl (fun n5 => ?_);go_wp2_with (refine aZE rfl 41 _ _ rfl g (wcs (turnTo64 M S (k + 1) V)) rfl rfl 41 _ (y0.drewN _) hsW.out hold.out hall.out ?_);refine ⟨⟨(yt.drewN _).rowFar (by omega) _, (y1.drewN _).rowFar (by omega) _⟩, ?_⟩;refine ords_end (fun n6 => ?_);go_wp2_with fail;go_roundw
     case rel => exact ⟨k + 1, by omega, by go_num, ((y0.drewN _).row _).drewN _, ((y1.drewN _).rowFar (by omega) _).drewN _, ((y2.drewN _).rowFar (by omega) _).drewN _, bdr (brow (bdr y4 _) hwg.out _) _⟩
     case measure => simp [intOf]; omega
    ·go_wp2_with (go_at_call 113; refine (HS3 _).mono ?_; rintro e w9 ⟨rfl, rfl⟩)
     refine ⟨⟨HT.drewN _, N1.drewN _⟩, ?_⟩;refine ords_pure rfl (fun K hK => ?_); go_simp; refine hK _ ?_; clear hK K;refine ords_heldK rfl (fun K K2 hK hK2 => ?_); go_simp; refine ⟨hK2 _ (fun w9 hS => ?_), hK _ ?_⟩; (clear hK hK2 K K2; have q0 : w9.cell? ⟨P1, 0, none⟩ = some (.int .i64 pa) := hS.1.cell 0; have q1 : w9.cell? ⟨P1, 1, none⟩ = some (.int .i64 pb) := hS.1.cell 1; have q2 : w9.cell? ⟨P1, 2, none⟩ = some (.int .i64 pc) := hS.1.cell 2; have q3 : w9.cell? ⟨P1, 3, none⟩ = some (.int .i64 pd) := hS.1.cell 3; have q4 : w9.cell? ⟨g + 1, s2, none⟩ = some (.int .u64 (wrd x)) := (hS.2.cell _).trans HM2.out; have q5 : w9.cell? ⟨g + 1, s3, none⟩ = some (.int .u64 (wrd y)) := (hS.2.cell _).trans HM3.out; go_simp); (clear hK hK2 K K2);refine ords_loud rfl (fun n3 => ?_);go_wp2_with (first | (refine aZH rfl 41 _ rfl g rfl 41 (wcs (turnTo64 M S k V)) (0, 0) _ (N0.drewN _) hu.out rfl hsV.out ?_) | (refine aZH rfl 41 _ rfl g rfl 41 (wcs (turnTo64 M S k V)) (0, 0) _ ((N0.drewN _).drewN _) hu.out rfl hsV.out ?_) | (refine aZH rfl 41 _ rfl g rfl 41 (wcs (turnTo64 M S k V)) (0, 0) _ (((N0.drewN _).drewN _).drewN _) hu.out rfl hsV.out ?_));refine ⟨⟨by first | exact HT.drewN _ | exact (HT.drewN _).drewN _ | exact ((HT.drewN _).drewN _).drewN _, by first | exact N1.drewN _ | exact (N1.drewN _).drewN _ | exact ((N1.drewN _).drewN _).drewN _⟩, ?_⟩;refine ords_loud rfl (fun n4 => ?_);go_wp2_with (go_at_call 112; refine (HG _).mono ?_; rintro e w8 ⟨rfl, hb8⟩);have y0 := (N0.drewN _).below hb8 (N0.drewN _).lt; have y1 := (N1.drewN _).below hb8 (N1.drewN _).lt; have y2 := (N2.drewN _).below hb8 (N2.drewN _).lt; have yt := (HT.drewN _).below hb8 (HT.drewN _).lt; have y4 := bcall (bdr N4 _) hb8;refine ⟨⟨yt, y1⟩, ?_⟩
     iterate 3 (refine ords_pure rfl (fun K hK => ?_); go_simp; refine hK _ ?_; clear hK K)
     refine ords_loud rfl (fun n5 => ?_);go_wp2_with (refine aZE rfl 41 _ _ rfl g (wcs (turnTo64 M S (k + 1) V)) rfl rfl 41 _ (y0.drewN _) hsW.out hold.out hall.out ?_);refine ⟨⟨(yt.drewN _).rowFar (by omega) _, (y1.drewN _).rowFar (by omega) _⟩, ?_⟩;refine ords_end (fun n6 => ?_);go_wp2_with fail;go_roundw
     case rel => exact ⟨k + 1, by omega, by go_num, ((y0.drewN _).row _).drewN _, ((y1.drewN _).rowFar (by omega) _).drewN _, ((y2.drewN _).rowFar (by omega) _).drewN _, bdr (brow (bdr y4 _) hwg.out _) _⟩
     case measure => simp [intOf]; omega
  ·obtain rfl : k = 8 := by omega
   clear hlt hk;have hTl : (turnTo64 M S 8 V).length = 16 := by rw [turnTo64_len, HV.out]
   have hsV := zH (sz16w _ hTl);have hold : Hid (z16.size = (wcs (turnTo64 M S 8 V)).size) := by show _ = _; rw [wcs_size, hTl]; rfl
   have hall := zH (wcs_all (turnTo64 M S 8 V));clear hTl;go_upto_region 8 with fail
   go_wp2_with (first
    | (refine aZH rfl 41 _ rfl g rfl 41 (wcs (turnTo64 M S 8 V)) (0, 0) _ N0 hu.out rfl hsV.out ?_)
    | (refine aZE rfl 41 _ _ rfl (g + 1 + 1) (wcs (turnTo64 M S 8 V)) rfl rfl 41 _ N2 hsV.out hold.out hall.out ?_))
   exact aZB (results_cell_tmp rfl _ _ (g + 1 + 1) _ _ _ rfl (N2.row _) hu.out rfl hsV.out) rfl ⟨rfl, brow N4.out (by have := hwg.out; omega) _⟩
def halves (H I : List UInt64) (k : Nat) : List UInt64 := fillU H k 8 ++ fillU I k 8
theorem halves_len (H I : List UInt64) (k : Nat) (hk : k <= 8) (hH : H.length = 8) (hI : I.length = 8) : (halves H I k).length = 16 := by
 unfold halves; rw [List.length_append, fillU_len H k 8 hk hH, fillU_len I k 8 hk hI]
theorem halves_all (H I : List UInt64) (hH : H.length = 8) (hI : I.length = 8) : halves H I 8 = H ++ I := by unfold halves; rw [fillU_all H 8 hH, fillU_all I 8 hI]
theorem fillU_set (z : List UInt64) (k n : Nat) (v : UInt64) (hk : k < n) (hn : z.length = n) (hz : z[k]? = some v) : (fillU z k n).set k v = fillU z (k + 1) n := by
 have h1 : (z.take k).length = k := by simp; omega
 unfold fillU;rw [List.take_add_one, hz, cZG, if_neg (by rw [h1]; omega), h1, Nat.sub_self, show n - k = (n - (k + 1)) + 1 by omega, List.replicate_succ, List.set_cons_zero, List.append_assoc]
 rfl
theorem halves_put (H I : List UInt64) (k : Nat) (u v : UInt64) (hk : k < 8) (hH : H.length = 8) (hI : I.length = 8) (hu : H[k]? = some u) (hv : I[k]? = some v) : ((halves H I k).set k u).set (k + 8) v = halves H I (k + 1) := by
 have l1 := fillU_len H k 8 (by omega) hH;have l2 := fillU_len H (k + 1) 8 (by omega) hH;unfold halves;rw [cZG, if_pos (by omega), fillU_set H k 8 u hk hH hu, cZG, if_neg (by omega), l2, show k + 8 - 8 = k by omega, fillU_set I k 8 v hk hI hv]
theorem refInit_any (H : List UInt64) (lo hi : UInt64) (last node : Bool) (w : World) (hH : H.length = 8) :
  Calls Tryz.prog 94 #[.agg (wcs H), .int .u64 (wrd lo), .int .u64 (wrd hi), .bool last, .bool node] w fun e w' => e = .returned (.agg (wcs (initOf H lo hi last node))) /\ Below w.heap.size w w' := by
 have HH := zH hH; clear hH;have hG : Hid (initOf H lo hi last node = (let v := ((H ++ iv64).set 12 (0x510e527fade682d1 ^^^ lo)).set 13 (0x9b05688c2b3e6c1f ^^^ hi); let v := if last then v.set 14 (~~~ 0x1f83d9abfb41bd6b) else v; if node then v.set 15 (~~~ 0x5be0cd19137e2179) else v)) := rfl;generalize initOf H lo hi last node = G at *;have IVl : Hid (iv64.length = 8) := rfl;have hIV : Hid (iv64 = [0x6a09e667f3bcc908, 0xbb67ae8584caa73b, 0x3c6ef372fe94f82b, 0xa54ff53a5f1d36f1, 0x510e527fade682d1, 0x9b05688c2b3e6c1f, 0x1f83d9abfb41bd6b, 0x5be0cd19137e2179]) := rfl;have hiv := zH refIV_any;generalize iv64 = I at *;go_enter Tryz.func94, Tryz.ntmps94;go_upto_region 2 with fail
 have n1 : Blk (((w.alloc (.cells (wcs H) 124)).alloc (.cells z16 41)).alloc (.cells z16 41)) w.heap.size 124 (wcs H) := ((Blk.new _ _ _).alloc _).alloc _;have n2 : Blk (((w.alloc (.cells (wcs H) 124)).alloc (.cells z16 41)).alloc (.cells z16 41)) (w.heap.size + 1) 41 (wcs (zw 16)) := by
  have := (Blk.new (w.alloc (.cells (wcs H) 124)) 41 z16).alloc (.cells z16 41); show Blk _ _ _ z16; simpa using this
 have n3 : Blk (((w.alloc (.cells (wcs H) 124)).alloc (.cells z16 41)).alloc (.cells z16 41)) (w.heap.size + 1 + 1) 41 (wcs (halves H I 0)) := by
  have := Blk.new ((w.alloc (.cells (wcs H) 124)).alloc (.cells z16 41)) 41 z16; show Blk _ _ _ z16; simpa using this
 have n4 := bal (bal (bal (b0 w) (.cells (wcs H) 124)) (.cells z16 41)) (.cells z16 41);obtain ⟨g, hg⟩ : ∃ g, g = w.heap.size := ⟨_, rfl⟩;unfold z16 at n1 n2 n3 n4;rw [<- hg] at n1 n2 n3 ⊢;generalize ((w.alloc (.cells (wcs H) 124)).alloc (.cells #[.int .u64 0, .int .u64 0, .int .u64 0, .int .u64 0, .int .u64 0, .int .u64 0, .int .u64 0, .int .u64 0, .int .u64 0, .int .u64 0, .int .u64 0, .int .u64 0, .int .u64 0, .int .u64 0, .int .u64 0, .int .u64 0] 41)).alloc (.cells #[.int .u64 0, .int .u64 0, .int .u64 0, .int .u64 0, .int .u64 0, .int .u64 0, .int .u64 0, .int .u64 0, .int .u64 0, .int .u64 0, .int .u64 0, .int .u64 0, .int .u64 0, .int .u64 0, .int .u64 0, .int .u64 0] 41) = w0 at *;have l0 : Hid (w.heap.size <= g) := by (show _ <= _; omega)
 obtain ⟨g2, hg2⟩ : ∃ g2, g2 = g + 1 := ⟨_, rfl⟩;obtain ⟨g3, hg3⟩ : ∃ g3, g3 = g + 1 + 1 := ⟨_, rfl⟩;rw [<- hg3, <- hg2];rw [<- hg2] at n2;rw [<- hg3] at n3;have l12 : g < g2 := by omega
 have l23 : g2 < g3 := by omega
 have N1 := zH n1; have N2 := zH n2; have N3 := zH n3; have N4 := zH n4;clear n1 n2 n3 n4 hg hg2 hg3;go_wp2_with fail;go_loopw [12] (fun i wr => ∃ k : Nat, k <= 8 /\ i = .int .i64 k /\ Blk wr g 124 (wcs H) /\ Blk wr g2 41 (wcs (zw 16)) /\ Blk wr g3 41 (wcs (halves H I k)) /\ Below w.heap.size w wr) (fun i _ => 8 - (intOf i).toNat)
 case atStart => exact ⟨0, by omega, rfl, N1.out, N2.out, N3.out, N4.out⟩
 case round =>
  clear N1 N2 N3 N4;obtain ⟨k, hk, rfl, x1, x2, x3, x4⟩ := hrel;have N1 := zH x1; have N2 := zH x2; have N3 := zH x3; have N4 := zH x4; clear x1 x2 x3 x4
  by_cases hlt : k < 8
  ·obtain ⟨u, hu⟩ : ∃ u, u = H.getD k 0 := ⟨_, rfl⟩
   obtain ⟨v, hv⟩ : ∃ v, v = I.getD k 0 := ⟨_, rfl⟩;have hHk : H[k]? = some u := by rw [hu]; exact getDW H k (by rw [HH.out]; exact hlt)
   have hIk : I[k]? = some v := by rw [hv]; exact getDW I k (by rw [IVl.out]; exact hlt)
   have hI := fun W => hiv.out k hlt W
   rw [<- hv] at hI;have hput := halves_put H I k u v hlt HH IVl hHk hIk;obtain ⟨k8, hk8⟩ : ∃ k8, k8 = k + 8 := ⟨_, rfl⟩;rw [<- hk8] at hput;have e8 : (k : Int) + 8 = (k8 : Int) := by omega
   have w8' : IntKind.i64.wrap (k8 : Int) = k8 := by simp [aZU, aZR, aZM]; omega
   have hk8i : (k8 : Int) < 16 := by omega
   have hk16 : (k : Int) < 16 := by omega
   have hki : (k : Int) < 8 := by omega
   have hkd : decide ((k : Int) < 8) = true := by simp; omega
   have hl16 := halves_len H I k (by omega) HH.out IVl.out;have c0 : wr.cell? ⟨g, k, none⟩ = some (.int .u64 (wrd u)) := by rw [N1.cell, wcs_at' _ k u hHk]
   have c1 : wr.cell? ⟨g3, k, none⟩ = some (wv ((halves H I k).getD k 0)) := (N3.cell k).trans (wcs_get _ _ (by rw [hl16]; omega));generalize wv ((halves H I k).getD k 0) = old at c1;have f1 : wr.frozen? ⟨g3, k, none⟩ = false := N3.frozen k;have hs3 := N3.set_ k (wv u);rw [wcs_set] at hs3;have hs1 := N1.far (p := ⟨g3, k, none⟩) (by show g ≠ g3; omega) (wv u);have hs2 := N2.far (p := ⟨g3, k, none⟩) (by show g2 ≠ g3; omega) (wv u);have hs4 := bput N4.out (p := ⟨g3, k, none⟩) (by have := l0.out; simp; omega) (wv u);have HI := zH hI; have HPUT := zH hput; have HS1 := zH hs1; have HS2 := zH hs2; have HS3 := zH hs3; have HS4 := zH hs4; have HL16 := zH hl16;clear hI hput hs1 hs2 hs3 hs4 hl16 hHk hIk hu hv hk8 N1 N2 N3 N4;go_wp2_with (go_at_call 108; refine (HI.out _).mono ?_; rintro e w4 ⟨rfl, hb4⟩; have n3 := HS3.below hb4 HS3.lt; have gc : w4.cell? ⟨g3, k8, none⟩ = some (wv (((halves H I k).set k u).getD k8 0)) := (n3.cell k8).trans (wcs_get _ _ (by rw [List.length_set, HL16.out]; omega)); have gf : w4.frozen? ⟨g3, k8, none⟩ = false := n3.frozen k8; generalize wv (((halves H I k).set k u).getD k8 0) = old2 at gc; have N3' := zH n3; have HB4 := zH hb4; clear n3 hb4)
   case roundEnd =>
    have h1 := N3'.set_ k8 (wv v);rw [wcs_set, HPUT.out] at h1;exact ⟨⟨k + 1, by omega, by go_num, (HS1.below HB4.out HS1.lt).far (p := ⟨g3, k8, none⟩) (by show g ≠ g3; omega) _, (HS2.below HB4.out HS2.lt).far (p := ⟨g3, k8, none⟩) (by show g2 ≠ g3; omega) _, h1, bput (bcall HS4.out HB4.out) (p := ⟨g3, k8, none⟩) (by have := l0.out; simp; omega) _⟩, by simp [intOf]; omega⟩
  ·obtain rfl : k = 8 := by omega
   clear hlt hk;have hN3 := N3.out;rw [halves_all H I HH.out IVl.out] at hN3;obtain ⟨i4, hi4⟩ : ∃ i, i = (0x510e527fade682d1 : UInt64) := ⟨_, rfl⟩;obtain ⟨i5, hi5⟩ : ∃ i, i = (0x9b05688c2b3e6c1f : UInt64) := ⟨_, rfl⟩;obtain ⟨i6, hi6⟩ : ∃ i, i = (0x1f83d9abfb41bd6b : UInt64) := ⟨_, rfl⟩;obtain ⟨i7, hi7⟩ : ∃ i, i = (0x5be0cd19137e2179 : UInt64) := ⟨_, rfl⟩;have hI := hIV.out;have hGG := hG.out;rw [<- hi4, <- hi5, <- hi6, <- hi7] at hI;rw [<- hi4, <- hi5, <- hi6, <- hi7] at hGG;clear hIV hG hi4 hi5 hi6 hi7 hiv;obtain ⟨V, hV⟩ : ∃ V, V = H ++ I := ⟨_, rfl⟩;rw [<- hV] at hN3 hGG;have hVl : V.length = 16 := by rw [hV, List.length_append, HH.out, IVl.out]
   have c12 : wr.cell? ⟨g3, 12, none⟩ = some (.int .u64 (wrd i4)) := by rw [hN3.cell, wcs_at' V 12 i4 (by rw [hV, aZV (by rw [HH.out]; omega), HH.out, hI]; rfl)]
   have c13 : wr.cell? ⟨g3, 13, none⟩ = some (.int .u64 (wrd i5)) := by rw [hN3.cell, wcs_at' V 13 i5 (by rw [hV, aZV (by rw [HH.out]; omega), HH.out, hI]; rfl)]
   have c14 : wr.cell? ⟨g3, 14, none⟩ = some (.int .u64 (wrd i6)) := by rw [hN3.cell, wcs_at' V 14 i6 (by rw [hV, aZV (by rw [HH.out]; omega), HH.out, hI]; rfl)]
   have c15 : wr.cell? ⟨g3, 15, none⟩ = some (.int .u64 (wrd i7)) := by rw [hN3.cell, wcs_at' V 15 i7 (by rw [hV, aZV (by rw [HH.out]; omega), HH.out, hI]; rfl)]
   have ff : ∀ i, wr.frozen? ⟨g3, i, none⟩ = false := hN3.frozen;have h2 := wrd_xor;have HV := zH hVl; have HGG := zH hGG; clear hV hVl hI hGG IVl;have h3 := wrd_not;have h3' : ∀ x : UInt64, bits .xor .u64 (if IntKind.u64.signed = true then -1 else IntKind.u64.max) (wrd x) = wrd (~~~ x) := wrd_not;have z12 := hN3.set_ 12 (wv (i4 ^^^ lo));rw [wcs_set] at z12;have z13 := z12.set_ 13 (wv (i5 ^^^ hi));rw [wcs_set] at z13;have z14 := z13.set_ 14 (wv (~~~ i6));rw [wcs_set] at z14;have z15 := z13.set_ 15 (wv (~~~ i7));rw [wcs_set] at z15;have z16 := z14.set_ 15 (wv (~~~ i7));rw [wcs_set] at z16;have Z13 := zH z13; have Z14 := zH z14; have Z15 := zH z15; have Z16 := zH z16; clear z12 z13 z14 z15 z16;have hlr : Hid (w.heap.size <= g3) := by show _ <= _; have := l0.out; omega
   have hw13 := bput (bput N4 (p := ⟨g3, 12, none⟩) hlr.out (wv (i4 ^^^ lo))) (p := ⟨g3, 13, none⟩) hlr.out (wv (i5 ^^^ hi));have hl2 : Hid (w.heap.size <= g2) := by show _ <= _; have := l0.out; omega
   have y2 := (N2.far (p := ⟨g3, 12, none⟩) (by simp; omega) (wv (i4 ^^^ lo))).far (p := ⟨g3, 13, none⟩) (by simp; omega) (wv (i5 ^^^ hi));have Y2 := zH y2; have HW := zH hw13; have hg23 : g2 ≠ g3 := by omega
   clear y2 hw13 N1 N2 N3 N4 hN3;have hu := zH Tryz.underlying41;have hsz : Hid (∀ L : List UInt64, L.length = 16 -> (Tryz.prog.info? 41).map (·.size) = some (wcs L).size) := sz16w;have hall := zH wcs_all;have hold : Hid (∀ L : List UInt64, L.length = 16 -> (wcs (zw 16)).size = (wcs L).size) := fun L h => by rw [wcs_size, wcs_size, h]; rfl
   cases last <;> cases node
   ·have hg := HGG.out
    simp only [bZQ, if_false] at hg;have HG2 := zH hg; clear hg;have hl : Hid (G.length = 16) := by show _ = _; rw [HG2.out]; simp [HV.out]
    have hz : Hid (Blk ((wr.setCell ⟨g3, 12, none⟩ (.int .u64 (wrd (i4 ^^^ lo)))).setCell ⟨g3, 13, none⟩ (.int .u64 (wrd (i5 ^^^ hi)))) g3 41 (wcs G)) := by show Blk _ _ _ _; rw [HG2.out]; exact Z13.out
    have hy : Hid (Blk ((wr.setCell ⟨g3, 12, none⟩ (.int .u64 (wrd (i4 ^^^ lo)))).setCell ⟨g3, 13, none⟩ (.int .u64 (wrd (i5 ^^^ hi)))) g2 41 (wcs (zw 16))) := Y2.out;have hx : Hid (Below w.heap.size w ((wr.setCell ⟨g3, 12, none⟩ (.int .u64 (wrd (i4 ^^^ lo)))).setCell ⟨g3, 13, none⟩ (.int .u64 (wrd (i5 ^^^ hi))))) := HW.out;go_upto_region 13 with fail
    go_wp2_with (first
     | (refine aZH rfl 41 _ rfl g3 rfl 41 (wcs G) (0, 0) _ hz.out hu.out rfl (hsz.out G hl.out) ?_)
     | (refine aZE rfl 41 _ _ rfl g2 (wcs G) rfl rfl 41 _ hy.out (hsz.out G hl.out) (hold.out G hl.out) (hall.out G) ?_))
    exact aZB (aZZ rfl _ _ g2 _ _ (0, 0) _ rfl (hy.row _) hu.out rfl (hsz.out G hl.out)) rfl ⟨rfl, brow hx.out hl2.out _⟩
   ·have hg := HGG.out
    simp only [bZQ, if_false, if_true] at hg;have HG2 := zH hg; clear hg;have hl : Hid (G.length = 16) := by show _ = _; rw [HG2.out]; simp [HV.out]
    have hz : Hid (Blk (((wr.setCell ⟨g3, 12, none⟩ (.int .u64 (wrd (i4 ^^^ lo)))).setCell ⟨g3, 13, none⟩ (.int .u64 (wrd (i5 ^^^ hi)))).setCell ⟨g3, 15, none⟩ (.int .u64 (wrd (~~~ i7)))) g3 41 (wcs G)) := by show Blk _ _ _ _; rw [HG2.out]; exact Z15.out
    have hy : Hid (Blk (((wr.setCell ⟨g3, 12, none⟩ (.int .u64 (wrd (i4 ^^^ lo)))).setCell ⟨g3, 13, none⟩ (.int .u64 (wrd (i5 ^^^ hi)))).setCell ⟨g3, 15, none⟩ (.int .u64 (wrd (~~~ i7)))) g2 41 (wcs (zw 16))) := (Y2.out).far (p := ⟨g3, 15, none⟩) (by simp; omega) _;have hx : Hid (Below w.heap.size w (((wr.setCell ⟨g3, 12, none⟩ (.int .u64 (wrd (i4 ^^^ lo)))).setCell ⟨g3, 13, none⟩ (.int .u64 (wrd (i5 ^^^ hi)))).setCell ⟨g3, 15, none⟩ (.int .u64 (wrd (~~~ i7))))) := bput (HW) (p := ⟨g3, 15, none⟩) hlr.out _;go_upto_region 13 with fail
    go_wp2_with (first
     | (refine aZH rfl 41 _ rfl g3 rfl 41 (wcs G) (0, 0) _ hz.out hu.out rfl (hsz.out G hl.out) ?_)
     | (refine aZE rfl 41 _ _ rfl g2 (wcs G) rfl rfl 41 _ hy.out (hsz.out G hl.out) (hold.out G hl.out) (hall.out G) ?_))
    exact aZB (aZZ rfl _ _ g2 _ _ (0, 0) _ rfl (hy.row _) hu.out rfl (hsz.out G hl.out)) rfl ⟨rfl, brow hx.out hl2.out _⟩
   ·have hg := HGG.out
    simp only [bZQ, if_false, if_true] at hg;have HG2 := zH hg; clear hg;have hl : Hid (G.length = 16) := by show _ = _; rw [HG2.out]; simp [HV.out]
    have hz : Hid (Blk (((wr.setCell ⟨g3, 12, none⟩ (.int .u64 (wrd (i4 ^^^ lo)))).setCell ⟨g3, 13, none⟩ (.int .u64 (wrd (i5 ^^^ hi)))).setCell ⟨g3, 14, none⟩ (.int .u64 (wrd (~~~ i6)))) g3 41 (wcs G)) := by show Blk _ _ _ _; rw [HG2.out]; exact Z14.out
    have hy : Hid (Blk (((wr.setCell ⟨g3, 12, none⟩ (.int .u64 (wrd (i4 ^^^ lo)))).setCell ⟨g3, 13, none⟩ (.int .u64 (wrd (i5 ^^^ hi)))).setCell ⟨g3, 14, none⟩ (.int .u64 (wrd (~~~ i6)))) g2 41 (wcs (zw 16))) := (Y2.out).far (p := ⟨g3, 14, none⟩) (by simp; omega) _;have hx : Hid (Below w.heap.size w (((wr.setCell ⟨g3, 12, none⟩ (.int .u64 (wrd (i4 ^^^ lo)))).setCell ⟨g3, 13, none⟩ (.int .u64 (wrd (i5 ^^^ hi)))).setCell ⟨g3, 14, none⟩ (.int .u64 (wrd (~~~ i6))))) := bput (HW) (p := ⟨g3, 14, none⟩) hlr.out _;go_upto_region 13 with fail
    go_wp2_with (first
     | (refine aZH rfl 41 _ rfl g3 rfl 41 (wcs G) (0, 0) _ hz.out hu.out rfl (hsz.out G hl.out) ?_)
     | (refine aZE rfl 41 _ _ rfl g2 (wcs G) rfl rfl 41 _ hy.out (hsz.out G hl.out) (hold.out G hl.out) (hall.out G) ?_))
    exact aZB (aZZ rfl _ _ g2 _ _ (0, 0) _ rfl (hy.row _) hu.out rfl (hsz.out G hl.out)) rfl ⟨rfl, brow hx.out hl2.out _⟩
   ·have hg := HGG.out
    simp only [if_true] at hg;have HG2 := zH hg; clear hg;have hl : Hid (G.length = 16) := by show _ = _; rw [HG2.out]; simp [HV.out]
    have hz : Hid (Blk ((((wr.setCell ⟨g3, 12, none⟩ (.int .u64 (wrd (i4 ^^^ lo)))).setCell ⟨g3, 13, none⟩ (.int .u64 (wrd (i5 ^^^ hi)))).setCell ⟨g3, 14, none⟩ (.int .u64 (wrd (~~~ i6)))).setCell ⟨g3, 15, none⟩ (.int .u64 (wrd (~~~ i7)))) g3 41 (wcs G)) := by show Blk _ _ _ _; rw [HG2.out]; exact Z16.out
    have hy : Hid (Blk ((((wr.setCell ⟨g3, 12, none⟩ (.int .u64 (wrd (i4 ^^^ lo)))).setCell ⟨g3, 13, none⟩ (.int .u64 (wrd (i5 ^^^ hi)))).setCell ⟨g3, 14, none⟩ (.int .u64 (wrd (~~~ i6)))).setCell ⟨g3, 15, none⟩ (.int .u64 (wrd (~~~ i7)))) g2 41 (wcs (zw 16))) := ((Y2.out).far (p := ⟨g3, 14, none⟩) (by simp; omega) _).far (p := ⟨g3, 15, none⟩) (by simp; omega) _;have hx : Hid (Below w.heap.size w ((((wr.setCell ⟨g3, 12, none⟩ (.int .u64 (wrd (i4 ^^^ lo)))).setCell ⟨g3, 13, none⟩ (.int .u64 (wrd (i5 ^^^ hi)))).setCell ⟨g3, 14, none⟩ (.int .u64 (wrd (~~~ i6)))).setCell ⟨g3, 15, none⟩ (.int .u64 (wrd (~~~ i7))))) := bput (bput (HW) (p := ⟨g3, 14, none⟩) hlr.out _) (p := ⟨g3, 15, none⟩) hlr.out _;go_upto_region 13 with fail
    go_wp2_with (first
     | (refine aZH rfl 41 _ rfl g3 rfl 41 (wcs G) (0, 0) _ hz.out hu.out rfl (hsz.out G hl.out) ?_)
     | (refine aZE rfl 41 _ _ rfl g2 (wcs G) rfl rfl 41 _ hy.out (hsz.out G hl.out) (hold.out G hl.out) (hall.out G) ?_))
    exact aZB (aZZ rfl _ _ g2 _ _ (0, 0) _ rfl (hy.row _) hu.out rfl (hsz.out G hl.out)) rfl ⟨rfl, brow hx.out hl2.out _⟩
theorem refF_any (H M : List UInt64) (lo hi : UInt64) (last node : Bool) (w : World) (hH : H.length = 8) (hM : M.length = 16) :
  Calls Tryz.prog 77 #[.agg (wcs H), .agg (wcs M), .int .u64 (wrd lo), .int .u64 (wrd hi), .bool last, .bool node] w fun e w' => e = .returned (.agg (wcs (comp64 H M lo hi last node))) /\ Below w.heap.size w w' := by
 have HH := zH hH; have HM := zH hM;have hIl := initOf_len H lo hi last node hH;have hI := fun w => refInit_any H lo hi last node w hH
 unfold comp64;generalize initOf H lo hi last node = V at *;have HI := zH hI; have HVl := zH hIl; clear hI hIl hH hM;have hu8 := zH Tryz.underlying124;have hu16 := zH Tryz.underlying41;have s8 := zH (sz8w H HH);have sM := zH (sz16w M HM);have sV := zH (sz16w V HVl);have aV := zH (wcs_all V);have holdV : Hid ((wcs (zw 16)).size = (wcs V).size) := by show _ = _; rw [wcs_size, wcs_size, HVl.out]; rfl
 go_enter Tryz.func77, Tryz.ntmps77;go_upto_region 1 with fail
 have n0 : Blk (((w.alloc (.cells (wcs H) 124)).alloc (.cells (wcs M) 41)).alloc (.cells z8 124)) w.heap.size 124 (wcs H) := ((Blk.new _ _ _).alloc _).alloc _;have n1 : Blk (((w.alloc (.cells (wcs H) 124)).alloc (.cells (wcs M) 41)).alloc (.cells z8 124)) (w.heap.size + 1) 41 (wcs M) := by
  have := (Blk.new (w.alloc (.cells (wcs H) 124)) 41 (wcs M)).alloc (.cells z8 124); simpa using this
 have n3 : Blk (((w.alloc (.cells (wcs H) 124)).alloc (.cells (wcs M) 41)).alloc (.cells z8 124)) (w.heap.size + 1 + 1) 124 (wcs (zw 8)) := by
  have := Blk.new ((w.alloc (.cells (wcs H) 124)).alloc (.cells (wcs M) 41)) 124 z8; show Blk _ _ _ z8; simpa using this
 have n4 := bal (bal (bal (b0 w) (.cells (wcs H) 124)) (.cells (wcs M) 41)) (.cells z8 124);obtain ⟨g0, hg0⟩ : ∃ g, g = w.heap.size := ⟨_, rfl⟩;obtain ⟨g1, hg1⟩ : ∃ g, g = w.heap.size + 1 := ⟨_, rfl⟩;obtain ⟨g3, hg3⟩ : ∃ g, g = w.heap.size + 1 + 1 := ⟨_, rfl⟩;unfold z8 at n0 n1 n3 n4;rw [<- hg0] at n0; rw [<- hg1] at n1; rw [<- hg3] at n3;rw [<- hg3, <- hg1, <- hg0];generalize ((w.alloc (.cells (wcs H) 124)).alloc (.cells (wcs M) 41)).alloc (.cells #[.int .u64 0, .int .u64 0, .int .u64 0, .int .u64 0, .int .u64 0, .int .u64 0, .int .u64 0, .int .u64 0] 124) = w4 at *;have l01 : g0 < g1 := by omega
 have l13 : g1 < g3 := by omega
 have l0 : Hid (w.heap.size <= g0) := by show _ <= _; omega
 have N0 := zH n0; have N1 := zH n1; have N3 := zH n3; have N4 := zH n4;clear n0 n1 n3 n4 hg0 hg1 hg3;go_wp2_with (refine aZH rfl 124 _ rfl g0 rfl 124 (wcs H) (0, 0) _ N0 hu8.out rfl s8.out ?_);refine (HI _).mono ?_;rintro e w6 ⟨rfl, hb6⟩;replace N0 := zH (N0.below hb6 N0.lt); replace N1 := zH (N1.below hb6 N1.lt); replace N3 := zH (N3.below hb6 N3.lt); replace N4 := zH (bcall N4 hb6);have l36 : g3 < w6.heap.size := N3.lt;clear hb6;have n6 : Blk (w6.alloc (.cells z16 41)) w6.heap.size 41 (wcs (zw 16)) := Blk.new _ _ _;have v0 := N0.alloc (.cells z16 41); have v1 := N1.alloc (.cells z16 41); have v3 := N3.alloc (.cells z16 41); have v4 := bal N4 (.cells z16 41);have l6 := N4.size;obtain ⟨g6, hg6⟩ : ∃ g6, g6 = w6.heap.size := ⟨_, rfl⟩;unfold z16 at n6 v0 v1 v3 v4;have N6 := zH n6; have hw6 : Hid (w.heap.size <= w6.heap.size) := l6; clear n6 l6;go_upto_region 2 with (refine aZE rfl 41 _ _ rfl w6.heap.size (wcs V) rfl rfl 41 _ N6 sV.out holdV.out aV.out ?_)
 have n6 := N6.row (wcs V);replace v0 := v0.rowFar (k := w6.heap.size) (by omega) (wcs V); replace v1 := v1.rowFar (k := w6.heap.size) (by omega) (wcs V); replace v3 := v3.rowFar (k := w6.heap.size) (by omega) (wcs V); replace v4 := brow v4 hw6.out (wcs V);rw [<- hg6] at n6 v0 v1 v3 v4 l36 ⊢;clear N0 N1 N3 N4 N6 sV holdV aV;generalize (w6.alloc (.cells #[.int .u64 0, .int .u64 0, .int .u64 0, .int .u64 0, .int .u64 0, .int .u64 0, .int .u64 0, .int .u64 0, .int .u64 0, .int .u64 0, .int .u64 0, .int .u64 0, .int .u64 0, .int .u64 0, .int .u64 0, .int .u64 0] 41)).setRow g6 (wcs V) = w7 at *;have hl6 : Hid (w.heap.size <= g6) := by show _ <= _; rw [hg6]; exact hw6.out
 clear hg6 hw6;have N0 := zH v0; have N1 := zH v1; have N3 := zH v3; have N4 := zH v4; have N6 := zH n6; clear v0 v1 v3 v4 n6;go_wp2_with fail;go_loopw [14] (fun i wr => ∃ k : Nat, k <= 12 /\ i = .int .i64 k /\ Blk wr g6 41 (wcs (roundsTo M k V)) /\ Blk wr g0 124 (wcs H) /\ Blk wr g1 41 (wcs M) /\ Blk wr g3 124 (wcs (zw 8)) /\ Below w.heap.size w wr) (fun i _ => 12 - (intOf i).toNat)
 case atStart => exact ⟨0, by omega, rfl, N6.out, N0.out, N1.out, N3.out, N4.out⟩
 case round =>
  clear N0 N1 N3 N4 N6;obtain ⟨k, hk, rfl, x6, x0, x1, x3, x4⟩ := hrel;have N0 := zH x0; have N1 := zH x1; have N3 := zH x3; have N4 := zH x4; have N6 := zH x6; clear x0 x1 x3 x4 x6
  by_cases hlt : k < 12
  ·have hRl : (roundsTo M k V).length = 16 := by rw [roundsTo_len, HVl.out]
   have hRl1 : (roundsTo M (k + 1) V).length = 16 := by rw [roundsTo_len, HVl.out]
   have hR := fun W => refRound_any k (roundsTo M k V) M W hlt hRl HM.out
   have e : turn64 M k (roundsTo M k V) = roundsTo M (k + 1) V := rfl;rw [e] at hR;have HR := zH hR;have sR := zH (sz16w _ hRl);have sS := zH (sz16w _ hRl1);have aS := zH (wcs_all (roundsTo M (k + 1) V));have hoS : Hid ((wcs (roundsTo M k V)).size = (wcs (roundsTo M (k + 1) V)).size) := by show _ = _; rw [wcs_size, wcs_size, hRl, hRl1]
   clear hR hRl hRl1 e;have hkd : decide ((k : Int) < 12) = true := by simp; omega
   go_wp2_with (first
    | (refine aZH rfl 41 (.tmp 13) rfl g6 rfl 41 (wcs (roundsTo M k V)) (0, 0) _ N6 hu16.out rfl sR.out ?_)
    | (refine aZH rfl 41 (.tmp 7) rfl g1 rfl 41 (wcs M) (0, 0) _ N1 hu16.out rfl sM.out ?_)
    | (go_at_call 95; refine (HR _).mono ?_; rintro e w8 ⟨rfl, hb8⟩; have M6 := zH (N6.below hb8 N6.lt); have HB8 := zH hb8; clear hb8)
    | (refine aZE rfl 41 _ _ rfl g6 (wcs (roundsTo M (k + 1) V)) rfl rfl 41 _ M6 sS.out hoS.out aS.out ?_))
   go_roundw
   case rel => exact ⟨k + 1, by omega, by go_num, M6.row _, (N0.below HB8.out N0.lt).rowFar (by omega) _, (N1.below HB8.out N1.lt).rowFar (by omega) _, (N3.below HB8.out N3.lt).rowFar (by omega) _, brow (bcall N4.out HB8.out) hl6.out _⟩
   case measure => simp [intOf]; omega
  ·obtain rfl : k = 12 := by omega
   rw [show ((12 : Nat) : Int) = 12 from rfl];clear hlt hk;obtain ⟨R, hR⟩ : ∃ R, R = roundsTo M 12 V := ⟨_, rfl⟩;have hRl : R.length = 16 := by rw [hR, roundsTo_len, HVl.out]
   have x6 := N6.out;rw [<- hR] at x6;obtain ⟨F, hF⟩ : ∃ F, F = outOf H R := ⟨_, rfl⟩;have hFl : F.length = 8 := by rw [hF, outOf_len]
   have HRl := zH hRl; have HFl := zH hFl; have HF := zH hF; have HR := zH hR; have X6 := zH x6; clear hRl hFl hF hR x6 N6;go_wp2_with fail;go_loopw [15] (fun i wr => ∃ k : Nat, k <= 8 /\ i = .int .i64 k /\ Blk wr g0 124 (wcs (halfW F H k)) /\ Blk wr g6 41 (wcs R) /\ Blk wr g3 124 (wcs (zw 8)) /\ Below w.heap.size w wr) (fun i _ => 8 - (intOf i).toNat)
   case atStart => exact ⟨0, by omega, rfl, by simpa [halfW] using N0.out, X6.out, N3.out, N4.out⟩
   case round =>
    clear N0 N1 N3 N4 X6;obtain ⟨k, hk, rfl, x0, x6, x3, x4⟩ := hrel;have N0 := zH x0; have N3 := zH x3; have N4 := zH x4; have N6 := zH x6; clear x0 x3 x4 x6
    by_cases hlt : k < 8
    ·have eF := outOf_at H R k hlt
     rw [<- HF.out, <- UInt64.xor_assoc] at eF;obtain ⟨k8, hk8⟩ : ∃ k8, k8 = k + 8 := ⟨_, rfl⟩;rw [<- hk8] at eF;have e8 : (k : Int) + 8 = (k8 : Int) := by omega
     have w8' : IntKind.i64.wrap (k8 : Int) = k8 := by simp [aZU, aZR, aZM]; omega
     obtain ⟨p, hp⟩ : ∃ p, p = H.getD k 0 := ⟨_, rfl⟩;obtain ⟨q, hq⟩ : ∃ q, q = R.getD k 0 := ⟨_, rfl⟩;obtain ⟨r, hr⟩ : ∃ r, r = R.getD k8 0 := ⟨_, rfl⟩;have c0 : wr.cell? ⟨g0, k, none⟩ = some (.int .u64 (wrd p)) := by rw [N0.cell, wcs_at' _ k p (by rw [hp]; exact halfW_at F H k (by rw [HH.out]; exact hlt) (by rw [HH.out, HFl.out]))]
     have c1 : wr.cell? ⟨g6, k, none⟩ = some (.int .u64 (wrd q)) := by rw [N6.cell, wcs_at' _ k q (by rw [hq]; exact getDW R k (by rw [HRl.out]; omega))]
     have c2 : wr.cell? ⟨g6, k8, none⟩ = some (.int .u64 (wrd r)) := by rw [N6.cell, wcs_at' _ k8 r (by rw [hr]; exact getDW R k8 (by rw [HRl.out]; omega))]
     have cf : wr.frozen? ⟨g0, k, none⟩ = false := N0.frozen k;rw [<- hp, <- hq, <- hr] at eF;have EF := zH eF; clear eF hp hq hr;have h2 := wrd_xor;have hki : (k : Int) < 8 := by omega
     have hk8i : (k8 : Int) < 16 := by omega
     have hk16 : (k : Int) < 16 := by omega
     have hkd : decide ((k : Int) < 8) = true := by simp; omega
     clear hk8;go_wp2;refine wrZ (fun _ => True) (fun _ _ h => h) (Ords.of [(0, 0), (0, 1), (0, 2), (1, 3), (0, 4), (0, 5), (1, 6), (0, 7), (0, 8), (0, 9), (0, 10), (1, 11), (0, 12), (0, 13), (2, 14)] .fin) trivial ?_
     iterate 14 ((first | refine ords_pure rfl (fun K hK => ?_) | refine ords_read rfl (fun K hK => ?_)); go_simp; refine hK _ ?_; clear hK K)
     refine ords_loud rfl (fun n1 => ?_);go_wp2
     first | (refine ⟨trivial, ?_⟩; refine ords_end (fun n2 => ?_)) | (rintro _ ⟨n2, rfl⟩)
     go_wp2_with fail;go_roundw
     case rel =>
      have h0 := ((N0.drewN n1).set_ k (wv (p ^^^ q ^^^ r))).drewN n2;rw [wcs_set, halfW_put F H k _ EF.out (by rw [HH.out, HFl.out])] at h0;exact ⟨k + 1, by omega, by go_num, h0, ((N6.drewN n1).far (p := ⟨g0, k, none⟩) (by simp; omega) _).drewN n2, ((N3.drewN n1).far (p := ⟨g0, k, none⟩) (by simp; omega) _).drewN n2, bdr (bput (bdr N4.out n1) (p := ⟨g0, k, none⟩) l0.out _) n2⟩
     case measure => simp [intOf]; omega
    ·obtain rfl : k = 8 := by omega
     clear hlt hk;have x0 := N0.out;rw [halfW_all F H 8 HFl.out HH.out] at x0;have X0 := zH x0; clear x0 N0;have sF := zH (sz8w F HFl);have aF := zH (wcs_all F);have hoF : Hid ((wcs (zw 8)).size = (wcs F).size) := by show _ = _; rw [wcs_size, wcs_size, HFl.out]; rfl
     have hl3 : Hid (w.heap.size <= g3) := by show _ <= _; have := l0.out; omega
     go_upto_region 10 with fail
     go_wp2_with (first
      | (refine aZH rfl 124 _ rfl g0 rfl 124 (wcs F) (0, 0) _ X0 hu8.out rfl sF.out ?_)
      | (refine aZE rfl 124 _ _ rfl g3 (wcs F) rfl rfl 124 _ N3 sF.out hoF.out aF.out ?_))
     have h9 := HF.out;rw [HR.out] at h9;rw [<- h9];exact aZB (aZZ rfl _ _ g3 _ _ (0, 0) _ rfl (N3.row _) hu8.out rfl sF.out) rfl ⟨rfl, brow N4 hl3.out _⟩
theorem refWords_any (A : Option Addr) (c : Nat) (x : List UInt8) (w : World) (hx : x.length = 128) (hr : RS cB w w.heap.size A x) :
  Calls Tryz.prog 76 #[.slice A 128 c] w fun e w' => e = .returned (.tuple #[.agg (wcs (wordsOf x 16)), .int .i64 0]) /\ Below w.heap.size w w' := by
 have HX := zH hx; have HR := zH hr; clear hx hr;obtain ⟨M, hM⟩ : ∃ M, M = wordsOf x 16 := ⟨_, rfl⟩;have hMl : M.length = 16 := by rw [hM, wordsOf_len]
 rw [<- hM];have HM := zH hM; have HML := zH hMl; clear hM hMl;have hu := zH Tryz.underlying41;have sM := zH (sz16w M HML);have aM := zH (wcs_all M);have hoM : Hid ((wcs (fillU M 0 16)).size = (wcs M).size) := by show _ = _; rw [wcs_size, wcs_size, fillU_len _ _ _ (by omega) HML.out, HML.out]
 go_enter Tryz.func76, Tryz.ntmps76;go_upto_region 4 with fail
 have n0 : Blk ((w.alloc (.cells z16 41)).alloc (.cells z16 41)) w.heap.size 41 (wcs (fillU M 0 16)) := by rw [fillU_none]; exact (Blk.new _ _ _).alloc _
 have n1 : Blk ((w.alloc (.cells z16 41)).alloc (.cells z16 41)) (w.heap.size + 1) 41 (wcs (fillU M 0 16)) := by
  rw [fillU_none]; simpa using Blk.new (w.alloc (.cells z16 41)) 41 z16
 have n4 := bal (bal (b0 w) (.cells z16 41)) (.cells z16 41);unfold z16 at n0 n1 n4;obtain ⟨b, hb⟩ : ∃ b, b = w.heap.size := ⟨_, rfl⟩;rw [<- hb] at n0 n1 ⊢;generalize (w.alloc (.cells #[.int .u64 0, .int .u64 0, .int .u64 0, .int .u64 0, .int .u64 0, .int .u64 0, .int .u64 0, .int .u64 0, .int .u64 0, .int .u64 0, .int .u64 0, .int .u64 0, .int .u64 0, .int .u64 0, .int .u64 0, .int .u64 0] 41)).alloc (.cells #[.int .u64 0, .int .u64 0, .int .u64 0, .int .u64 0, .int .u64 0, .int .u64 0, .int .u64 0, .int .u64 0, .int .u64 0, .int .u64 0, .int .u64 0, .int .u64 0, .int .u64 0, .int .u64 0, .int .u64 0, .int .u64 0] 41) = w0 at *;have N0 := zH n0; have N1 := zH n1; have N4 := zH n4; have hwb : Hid (w.heap.size <= b) := by (show _ <= _; omega)
 clear n0 n1 n4 hb;go_wp2_with fail;go_loopw [5] (fun i wr => ∃ k : Nat, k <= 16 /\ i = .int .i64 k /\ Blk wr b 41 (wcs (fillU M 0 16)) /\ Blk wr (b + 1) 41 (wcs (fillU M k 16)) /\ Below w.heap.size w wr) (fun i _ => 16 - (intOf i).toNat)
 case atStart => exact ⟨0, by omega, rfl, N0.out, N1.out, N4.out⟩
 case round =>
  clear N0 N1 N4;obtain ⟨k, hk, rfl, x0, x1, x4⟩ := hrel;have N0 := zH x0; have N1 := zH x1; have N4 := zH x4; clear x0 x1 x4
  by_cases hlt : k < 16
  ·have hl := refLoad_any A c 128 (8 * k) 8 w.heap.size x wr HX.out (by omega) (HR.below N4.out) (by omega) (by omega)
   have e8 : ((8 * k : Nat) : Int) = 8 * (k : Int) := by omega
   rw [e8] at hl;obtain ⟨v, hv⟩ : ∃ v, v = word ((x.drop (8 * k)).take 8) := ⟨_, rfl⟩;have hmk : M[k]? = some v := by rw [HM.out, wordsOf_at x 16 k hlt, hv]
   rw [<- hv] at hl;have gc : wr.cell? ⟨b + 1, k, none⟩ = some (wv ((fillU M k 16).getD k 0)) := (N1.cell k).trans (wcs_get _ _ (by rw [fillU_len _ _ _ hk HML.out]; exact hlt));have gf : wr.frozen? ⟨b + 1, k, none⟩ = false := N1.frozen k;generalize wv ((fillU M k 16).getD k 0) = old at gc;have HL := zH hl; have HMK := zH hmk; clear hl hv e8 hmk;have hki : (k : Int) < 16 := by omega
   go_wp2_with (go_at_call 93; refine HL.mono ?_; rintro e w1 ⟨rfl, rfl⟩)
   case roundEnd =>
    have h1 := N1.set_ k (wv v);rw [fillU_put _ k 16 v hlt HMK.out] at h1;exact ⟨⟨k + 1, by omega, by go_num, N0.far (p := ⟨b + 1, k, none⟩) (by simp) _, h1, bput N4.out (p := ⟨b + 1, k, none⟩) (by have := hwb.out; simp; omega) _⟩, by simp [intOf]; omega⟩
  ·obtain rfl : k = 16 := by omega
   clear hlt hk;have x1 := N1.out;rw [fillU_all _ 16 HML.out] at x1;have X1 := zH x1; clear x1 N1;go_upto_region 8 with fail
   go_wp2_with (first
    | (refine aZH rfl 41 _ rfl (b + 1) rfl 41 (wcs M) (0, 0) _ X1 hu.out rfl sM.out ?_)
    | (refine aZE rfl 41 _ _ rfl b (wcs M) rfl rfl 41 _ N0 sM.out hoM.out aM.out ?_))
   exact aZB (results_cell_tmp rfl _ _ b _ _ _ rfl (N0.row _) hu.out rfl sM.out) rfl ⟨rfl, brow N4 hwb.out _⟩
theorem refStart_any (A : Option Addr) (c : Nat) (x : List UInt8) (w : World) (hx : x.length = 64) (hr : RS cB w w.heap.size A x) :
  Calls Tryz.prog 87 #[.slice A 64 c] w fun e w' => e = .returned (.tuple #[.agg (wcs (start64 x)), .int .i64 0]) /\ Below w.heap.size w w' := by
 have HX := zH hx; have HR := zH hr; clear hx hr;obtain ⟨S, hS⟩ : ∃ S, S = start64 x := ⟨_, rfl⟩;have hSl : S.length = 8 := by rw [hS, start64_len]
 have hSk : ∀ k, k < 8 -> S[k]? = some (iv64.getD k 0 ^^^ word ((x.drop (8 * k)).take 8)) := by
  intro k hk;rw [hS];exact xorW_at iv64 (wordsOf x 8) k _ _ (getDW iv64 k hk) (wordsOf_at x 8 k hk)
 rw [<- hS];have hiv := refIV_any;generalize iv64 = I at *;have HSK := zH hSk; have HSL := zH hSl; have HIV := zH hiv; clear hS hSl hSk hiv;have hu := zH Tryz.underlying124;have sS := zH (sz8w S HSL);have aS := zH (wcs_all S);have e0 : wcs (fillU S 0 8) = z8 := rfl;have hoS : Hid ((wcs (fillU S 0 8)).size = (wcs S).size) := by show _ = _; rw [wcs_size, wcs_size, fillU_len _ _ _ (by omega) HSL.out, HSL.out]
 go_enter Tryz.func87, Tryz.ntmps87;go_upto_region 4 with fail
 have n0 : Blk ((w.alloc (.cells z8 124)).alloc (.cells z8 124)) w.heap.size 124 (wcs (fillU S 0 8)) := by rw [e0]; exact (Blk.new _ _ _).alloc _
 have n1 : Blk ((w.alloc (.cells z8 124)).alloc (.cells z8 124)) (w.heap.size + 1) 124 (wcs (fillU S 0 8)) := by
  rw [e0]; simpa using Blk.new (w.alloc (.cells z8 124)) 124 z8
 have n4 := bal (bal (b0 w) (.cells z8 124)) (.cells z8 124);clear e0;unfold z8 at n0 n1 n4;obtain ⟨b, hb⟩ : ∃ b, b = w.heap.size := ⟨_, rfl⟩;rw [<- hb] at n0 n1 ⊢;generalize (w.alloc (.cells #[.int .u64 0, .int .u64 0, .int .u64 0, .int .u64 0, .int .u64 0, .int .u64 0, .int .u64 0, .int .u64 0] 124)).alloc (.cells #[.int .u64 0, .int .u64 0, .int .u64 0, .int .u64 0, .int .u64 0, .int .u64 0, .int .u64 0, .int .u64 0] 124) = w0 at *;have N0 := zH n0; have N1 := zH n1; have N4 := zH n4; have hwb : Hid (w.heap.size <= b) := by (show _ <= _; omega)
 clear n0 n1 n4 hb;go_wp2_with fail;go_loopw [5] (fun i wr => ∃ k : Nat, k <= 8 /\ i = .int .i64 k /\ Blk wr b 124 (wcs (fillU S 0 8)) /\ Blk wr (b + 1) 124 (wcs (fillU S k 8)) /\ Below w.heap.size w wr) (fun i _ => 8 - (intOf i).toNat)
 case atStart => exact ⟨0, by omega, rfl, N0.out, N1.out, N4.out⟩
 case round =>
  clear N0 N1 N4;obtain ⟨k, hk, rfl, x0, x1, x4⟩ := hrel;have N0 := zH x0; have N1 := zH x1; have N4 := zH x4; clear x0 x1 x4
  by_cases hlt : k < 8
  ·have hl := refLoad_any A c 64 (8 * k) 8 w.heap.size x wr HX.out (by omega) (HR.below N4.out) (by omega) (by omega)
   have e8 : ((8 * k : Nat) : Int) = 8 * (k : Int) := by omega
   rw [e8] at hl;have hsk := HSK k hlt;obtain ⟨v, hv⟩ : ∃ v, v = word ((x.drop (8 * k)).take 8) := ⟨_, rfl⟩;have hI := fun W => HIV k hlt W
   obtain ⟨q, hq⟩ : ∃ q, q = I.getD k 0 := ⟨_, rfl⟩;rw [<- hv] at hl hsk;rw [<- hq] at hsk hI;have HL := zH hl; have HSV := zH hsk; have HI := zH hI; clear hl hv e8 hsk hq hI;have h2 := wrd_xor;have hki : (k : Int) < 8 := by omega
   go_wp2_with (first
    | (go_at_call 93; refine HL.mono ?_; rintro e w3 ⟨rfl, rfl⟩)
    | (go_at_call 108; refine (HI.out _).mono ?_; rintro e w4 ⟨rfl, hb4⟩; have n1 := N1.below hb4 N1.lt; have gc : w4.cell? ⟨b + 1, k, none⟩ = some (wv ((fillU S k 8).getD k 0)) := (n1.cell k).trans (wcs_get _ _ (by rw [fillU_len _ _ _ hk HSL.out]; exact hlt)); have gf : w4.frozen? ⟨b + 1, k, none⟩ = false := n1.frozen k; generalize wv ((fillU S k 8).getD k 0) = old at gc; have N1' := zH n1; have HB4 := zH hb4; clear n1 hb4))
   case roundEnd =>
    have h1 := N1'.set_ k (wv (q ^^^ v));rw [fillU_put _ k 8 _ hlt HSV.out] at h1;exact ⟨⟨k + 1, by omega, by go_num, (N0.below HB4.out N0.lt).far (p := ⟨b + 1, k, none⟩) (by simp) _, h1, bput (bcall N4.out HB4.out) (p := ⟨b + 1, k, none⟩) (by have := hwb.out; simp; omega) _⟩, by simp [intOf]; omega⟩
  ·obtain rfl : k = 8 := by omega
   clear hlt hk;have x1 := N1.out;rw [fillU_all _ 8 HSL.out] at x1;have X1 := zH x1; clear x1 N1;go_upto_region 9 with fail
   go_wp2_with (first
    | (refine aZH rfl 124 _ rfl (b + 1) rfl 124 (wcs S) (0, 0) _ X1 hu.out rfl sS.out ?_)
    | (refine aZE rfl 124 _ _ rfl b (wcs S) rfl rfl 124 _ N0 sS.out hoS.out aS.out ?_))
   exact aZB (results_cell_tmp rfl _ _ b _ _ _ rfl (N0.row _) hu.out rfl sS.out) rfl ⟨rfl, brow N4 hwb.out _⟩
end Go.Proofs.YtboihcigcfmhhaaGreat

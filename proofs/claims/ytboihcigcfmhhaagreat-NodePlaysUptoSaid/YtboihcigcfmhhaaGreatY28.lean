/-
  Y28: contracts and lemmas alone; no statement is claimed here.
-/
import Derived.Test.YtboihcigcfmhhaaGreatY8
import Derived.Test.YtboihcigcfmhhaaGreatY22
import Derived.Deep.CutRange
/- The reference's smaller half: words, turning, places. -/
set_option maxHeartbeats 8000000
set_option maxRecDepth 20000
namespace Go.Proofs.YtboihcigcfmhhaaGreat
open _root_.List renaming set_append → cZG
open Go.Ending renaming returned → bZR
open _root_.Bool renaming false_eq_true → bZQ
open _root_.Nat renaming le_of_eq → bZF
open Go renaming results_cell_row → aZZ
open _root_.List renaming getElem?_append_right → aZV
open Go.IntKind renaming wrap → aZU
open Go.IntKind renaming bits → aZR
open _root_.List renaming getElem?_eq_getElem → aZP
open Go.IntKind renaming signed → aZM
open Go.World renaming setCell → aZI
open Go renaming wpList_load_row → aZH
open _root_.Option.some renaming inj → aZF
open Go renaming wpList_store_row → aZE
open Go.World renaming drewN → aZD
open Go renaming bodyPost_ret → aZB
open Lib renaming hid -> zH
open Go.RowKit
attribute [local go_sem] pureUpon Ords.of
theorem r4IV_any (w : World) : Calls Tryz.prog 109 #[] w fun e w' => e = .returned (.agg (wc3 iv32)) /\ Below w.heap.size w w' := by
 have hu := zH Tryz.underlying130;have hsz : Hid ((Tryz.prog.info? 130).map (·.size) = some (wc3 iv32).size) := by show _ = _; kernel_rfl
 have hn := zH (Blk.new w 130 #[.int .u32 0, .int .u32 0, .int .u32 0, .int .u32 0, .int .u32 0, .int .u32 0, .int .u32 0, .int .u32 0]);have hall := zH (wc3_all iv32);go_enter Tryz.func109, Tryz.ntmps109;go_wp2_with (refine aZE rfl 130 _ _ rfl w.heap.size (wc3 iv32) rfl (by kernel_rfl) 130 _ hn.out hsz.out (by kernel_rfl) hall.out ?_);exact aZB (aZZ rfl _ _ w.heap.size _ _ (0, 0) _ rfl (hn.row _) hu.out rfl hsz.out) rfl ⟨rfl, brow (bal (b0 w) _) (Nat.le_refl _) _⟩
theorem word3_four (a b c d : UInt8) : IntKind.u32.wrap (IntKind.u32.wrap (IntKind.u32.wrap (byt a + byt b * 256) + byt c * 65536) + byt d * 16777216) = wr3 (word3 [a, b, c, d]) := by
 have ha := a.toNat_lt; have hb := b.toNat_lt; have hc := c.toNat_lt; have hd := d.toNat_lt;have e : le [a, b, c, d] = a.toNat + 256 * (b.toNat + 256 * (c.toNat + 256 * (d.toNat + 256 * 0))) := rfl;unfold word3;rw [wr3_ofNat, e];unfold byt;simp only [wrap_u32w];omega
theorem r4load_any (A : Option Addr) (c N at_ B : Nat) (l : List UInt8) (w : World) (hN : l.length = N) (hm : N <= 1000000) (hr : RS cB w B A l) (hat : at_ + 4 <= N) :
  Calls Tryz.prog 96 #[.slice A N c, .int .i64 at_] w fun e w' => e = .returned (.int .u32 (wr3 (word3 ((l.drop at_).take 4)))) /\ Below w.heap.size w w' := by
 obtain ⟨i1, hi1⟩ : ∃ i, i = at_ + 1 := ⟨_, rfl⟩;obtain ⟨i2, hi2⟩ : ∃ i, i = at_ + 2 := ⟨_, rfl⟩;obtain ⟨i3, hi3⟩ : ∃ i, i = at_ + 3 := ⟨_, rfl⟩;obtain ⟨ad, x0, hA, _, e0, c0⟩ := hr.at_ (k := at_) (by omega);obtain ⟨ad1, x1, hA1, _, e1, c1⟩ := hr.at_ (k := i1) (by omega);obtain ⟨ad2, x2, hA2, _, e2, c2⟩ := hr.at_ (k := i2) (by omega);obtain ⟨ad3, x3, hA3, _, e3, c3⟩ := hr.at_ (k := i3) (by omega);subst hA
 cases hA1; cases hA2; cases hA3
 have hl : (l.drop at_).take 4 = [x0, x1, x2, x3] := by
  have h0 : at_ < l.length := by omega
  have h1 : at_ + 1 < l.length := by omega
  have h2 : at_ + 1 + 1 < l.length := by omega
  have h3 : at_ + 1 + 1 + 1 < l.length := by omega
  rw [hi1, aZP h1] at e1;rw [hi2, aZP h2] at e2;rw [hi3, aZP h3] at e3;rw [aZP h0] at e0;rw [List.drop_eq_getElem_cons h0, List.take_succ_cons, List.drop_eq_getElem_cons h1, List.take_succ_cons, List.drop_eq_getElem_cons h2, List.take_succ_cons, List.drop_eq_getElem_cons h3, List.take_succ_cons, List.take_zero, aZF e0, aZF e1, aZF e2, aZF e3]
 rw [hl, <- word3_four];change w.cell? (ad.add at_) = some (.int .u8 (byt x0)) at c0;change w.cell? (ad.add i1) = some (.int .u8 (byt x1)) at c1;change w.cell? (ad.add i2) = some (.int .u8 (byt x2)) at c2;change w.cell? (ad.add i3) = some (.int .u8 (byt x3)) at c3;have k0 : (at_ : Int) < N := by omega
 have k1 : (i1 : Int) < N := by omega
 have k2 : (i2 : Int) < N := by omega
 have k3 : (i3 : Int) < N := by omega
 have m1 : (at_ : Int) + 1 = i1 := by omega
 have m2 : (at_ : Int) + 2 = i2 := by omega
 have m3 : (at_ : Int) + 3 = i3 := by omega
 have w1 : IntKind.i64.wrap (i1 : Int) = i1 := by simp [aZU, aZR, aZM]; omega
 have w2 : IntKind.i64.wrap (i2 : Int) = i2 := by simp [aZU, aZR, aZM]; omega
 have w3 : IntKind.i64.wrap (i3 : Int) = i3 := by simp [aZU, aZR, aZM]; omega
 have r0 := byt_range x0; have r1 := byt_range x1; have r2 := byt_range x2; have r3 := byt_range x3;have s0 : IntKind.u32.wrap (byt x0) = byt x0 := by rw [wrap_u32w]; omega
 have s1 : IntKind.u32.wrap (byt x1) = byt x1 := by rw [wrap_u32w]; omega
 have s2 : IntKind.u32.wrap (byt x2) = byt x2 := by rw [wrap_u32w]; omega
 have s3 : IntKind.u32.wrap (byt x3) = byt x3 := by rw [wrap_u32w]; omega
 have s4 : IntKind.u32.wrap (byt x1 * 256) = byt x1 * 256 := by rw [wrap_u32w]; omega
 have s5 : IntKind.u32.wrap (byt x2 * 65536) = byt x2 * 65536 := by rw [wrap_u32w]; omega
 have s6 : IntKind.u32.wrap (byt x3 * 16777216) = byt x3 * 16777216 := by rw [wrap_u32w]; omega
 clear hl e0 e1 e2 e3 hi1 hi2 hi3 hr hN hat r0 r1 r2 r3;go_enter Tryz.func96, Tryz.ntmps96;go_wp2_with fail;refine wrZ (fun _ => True) (fun _ _ h => h) (Ords.of [(0, 0), (0, 1), (0, 2), (1, 3), (0, 4), (0, 5), (0, 6), (0, 7), (0, 8), (1, 9), (0, 10), (0, 11), (0, 12), (0, 13), (0, 14), (0, 15), (0, 16), (1, 17), (0, 18), (0, 19), (0, 20), (0, 21), (0, 22), (0, 23), (0, 24), (1, 25), (0, 26), (0, 27), (0, 28), (0, 29)] .fin) trivial ?_
 iterate 30 ((first | refine ords_pure rfl (fun K hK => ?_) | refine ords_read rfl (fun K hK => ?_)); go_simp; refine hK _ ?_; clear hK K)
 refine ords_end (fun n1 => ?_);go_wp2;exact aZB (results_tmp rfl _ _ _) rfl ⟨rfl, bdr (b0 w) _⟩
theorem r4turn_16 (x : UInt32) (w : World) :
      Calls Tryz.prog 126 #[.int .u32 (wr3 x), .int .i64 16] w fun e w' => e = .returned (.int .u32 (wr3 (rot3 x 16))) /\ w = w' := by
    have h2 := rot3_form' x 16 (by omega);go_enter Tryz.func126, Tryz.ntmps126;go_wp2;go_ret;exact ⟨congrArg (fun n => bZR (Value.int .u32 n)) h2, rfl⟩
theorem r4turn_12 (x : UInt32) (w : World) :
        Calls Tryz.prog 126 #[.int .u32 (wr3 x), .int .i64 12] w fun e w' => e = .returned (.int .u32 (wr3 (rot3 x 12))) /\ w = w' := by
      have h2 := rot3_form' x 12 (by omega);go_enter Tryz.func126, Tryz.ntmps126;go_wp2;go_ret;exact ⟨congrArg (fun n => bZR (Value.int .u32 n)) h2, rfl⟩
theorem r4turn_8 (x : UInt32) (w : World) :
          Calls Tryz.prog 126 #[.int .u32 (wr3 x), .int .i64 8] w fun e w' => e = .returned (.int .u32 (wr3 (rot3 x 8))) /\ w = w' := by
        have h2 := rot3_form' x 8 (by omega);go_enter Tryz.func126, Tryz.ntmps126;go_wp2;go_ret;exact ⟨congrArg (fun n => bZR (Value.int .u32 n)) h2, rfl⟩
theorem r4turn_7 (x : UInt32) (w : World) :
            Calls Tryz.prog 126 #[.int .u32 (wr3 x), .int .i64 7] w fun e w' => e = .returned (.int .u32 (wr3 (rot3 x 7))) /\ w = w' := by
          have h2 := rot3_form' x 7 (by omega);go_enter Tryz.func126, Tryz.ntmps126;go_wp2;go_ret;exact ⟨congrArg (fun n => bZR (Value.int .u32 n)) h2, rfl⟩
theorem r4four_any (k : Nat) (hk : k < 8) (w : World) :
  Calls Tryz.prog 114 #[.int .i64 k] w fun e w' => e = .returned (.tuple #[.int .i64 (pls k).a, .int .i64 (pls k).b, .int .i64 (pls k).c, .int .i64 (pls k).d]) /\ w = w' := by
 have h : k = 0 \/ k = 1 \/ k = 2 \/ k = 3 \/ k = 4 \/ k = 5 \/ k = 6 \/ k = 7 := by omega
 clear hk;rcases h with rfl | rfl | rfl | rfl | rfl | rfl | rfl | rfl <;> (go_enter Tryz.func114, Tryz.ntmps114) <;> go_wp2 <;> exact aZB (results_tmp4 rfl _ _ _) rfl ⟨rfl, rfl⟩
theorem r4places_any (p : Pl) (w : World) (hp : p.Ok) :
  Calls Tryz.prog 125 #[.int .i64 p.a, .int .i64 p.b, .int .i64 p.c, .int .i64 p.d] w fun e w' => e = .returned (.bool true) /\ Below w.heap.size w w' := by
 obtain ⟨L, hL⟩ : ∃ L, L = [p.a, p.b, p.c, p.d] := ⟨_, rfl⟩;have hl : L.length = 4 := by rw [hL]; rfl
 have hlt16 : ∀ k, k < 4 -> L.getD k 0 < 16 := by
  intro k hk;have h : k = 0 \/ k = 1 \/ k = 2 \/ k = 3 := by omega
  rw [hL];rcases h with rfl | rfl | rfl | rfl
  ·exact hp.a
  ·exact hp.b
  ·exact hp.c
  ·exact hp.d
 have hne : ∀ j k, j < k -> k < 4 -> L.getD k 0 ≠ L.getD j 0 := by
  intro j k hj hk;have h : k = 1 /\ j = 0 \/ k = 2 /\ j = 0 \/ k = 2 /\ j = 1 \/ k = 3 /\ j = 0 \/ k = 3 /\ j = 1 \/ k = 3 /\ j = 2 := by omega
  rw [hL];rcases h with ⟨rfl, rfl⟩ | ⟨rfl, rfl⟩ | ⟨rfl, rfl⟩ | ⟨rfl, rfl⟩ | ⟨rfl, rfl⟩ | ⟨rfl, rfl⟩
  ·exact Ne.symm hp.ab
  ·exact Ne.symm hp.ac
  ·exact Ne.symm hp.bc
  ·exact Ne.symm hp.ad
  ·exact Ne.symm hp.bd
  ·exact Ne.symm hp.cd
 have n0 : Blk (w.alloc (.cells #[.int .i64 p.a, .int .i64 p.b, .int .i64 p.c, .int .i64 p.d] 3)) w.heap.size 3 (ics L) := by rw [hL]; exact Blk.new _ _ _
 have n4 := bal (b0 w) (.cells #[.int .i64 p.a, .int .i64 p.b, .int .i64 p.c, .int .i64 p.d] 3);obtain ⟨g, hg⟩ : ∃ g, g = w.heap.size := ⟨_, rfl⟩;obtain ⟨pa, pb, pc, pd⟩ := p;dsimp only at *;have HL := zH hl; have HLT := zH hlt16; have HNE := zH hne;clear hl hlt16 hne hL hp;go_enter Tryz.func125, Tryz.ntmps125;go_wp2_with fail;rw [<- hg] at n0 ⊢;generalize w.alloc (.cells #[.int .i64 pa, .int .i64 pb, .int .i64 pc, .int .i64 pd] 3) = w0 at *;have N0 := zH n0; have N4 := zH n4; have HG : Hid (w.heap.size <= g) := (by show _ <= _; omega);clear n0 n4 hg;go_loopw [10] (fun i wr => ∃ k : Nat, k <= 4 /\ i = .int .i64 k /\ Blk wr g 3 (ics L) /\ Below w.heap.size w wr) (fun i _ => 4 - (intOf i).toNat)
 case atStart => exact ⟨0, by omega, rfl, N0.out, N4.out⟩
 case round =>
  clear N0 N4;obtain ⟨k, hk, rfl, x0, x4⟩ := hrel;have N0 := zH x0; have N4 := zH x4; clear x0 x4;obtain ⟨wo, rfl⟩ : ∃ wo : World, wo = wr := ⟨_, rfl⟩
  by_cases hlt : k < 4
  ·obtain ⟨x, hx⟩ : ∃ x, x = L.getD k 0 := ⟨_, rfl⟩
   have hx16 : x < 16 := by rw [hx]; exact HLT.out k hlt
   have c0 : wo.cell? ⟨g, k, none⟩ = some (.int .i64 x) := by rw [N0.cell, ics_get L k (by rw [HL.out]; exact hlt), hx]; rfl
   have t0 : decide ((x : Int) < 0) = false := by simp
   have t1 : decide (15 < (x : Int)) = false := by simp; omega
   have hk4 : (k : Int) < 4 := by omega
   have hkd : decide ((k : Int) < 4) = true := by simp; omega
   have HX := zH hx; clear hx;go_wp2_with fail;clear c0;go_loopw [11] (fun i wr => ∃ j : Nat, j <= k /\ i = .int .i64 j /\ Blk wr g 3 (ics L) /\ Below w.heap.size w wr) (fun i _ => k - (intOf i).toNat)
   case atStart => exact ⟨0, by omega, rfl, N0.out, N4.out⟩
   case round =>
    clear N0 N4;obtain ⟨j, hj, rfl, x0, x4⟩ := hrel;have N0 := zH x0; have N4 := zH x4; clear x0 x4
    by_cases hjt : j < k
    ·obtain ⟨y, hy⟩ : ∃ y, y = L.getD j 0 := ⟨_, rfl⟩
     have c0 : wr.cell? ⟨g, k, none⟩ = some (.int .i64 x) := by rw [N0.cell, ics_get L k (by rw [HL.out]; exact hlt), HX.out]; rfl
     have c1 : wr.cell? ⟨g, j, none⟩ = some (.int .i64 y) := by rw [N0.cell, ics_get L j (by rw [HL.out]; omega), hy]; rfl
     have hxy : ((x : Int) == (y : Int)) = false := by have := HNE.out j k hjt hlt; rw [<- HX.out, <- hy] at this; simp; omega
     have hj4 : (j : Int) < 4 := by omega
     have hjd : decide ((j : Int) < k) = true := by simp; omega
     have HY := zH hy; clear hy;go_wp2_with fail;refine wrZ (fun _ => True) (fun _ _ h => h) (Ords.of [(0, 0), (0, 1), (0, 2), (1, 3), (0, 4), (0, 5), (0, 6), (1, 7), (0, 8)] .fin) trivial ?_
     iterate 9 ((first | refine ords_pure rfl (fun K hK => ?_) | refine ords_read rfl (fun K hK => ?_)); go_simp; refine hK _ ?_; clear hK K)
     refine ords_end (fun n1 => ?_);go_wp2_with fail;go_roundw
     case rel => exact ⟨j + 1, by omega, by go_num, N0.drewN _, bdr N4.out _⟩
     case measure => simp [intOf]; omega
    ·obtain rfl : j = k := by omega
     go_wp2_with fail;go_roundw
     case rel => exact ⟨j + 1, by omega, by go_num, N0.out, N4.out⟩
     case measure => simp [intOf]; omega
  ·obtain rfl : k = 4 := by omega
   go_wp2_with fail;exact aZB (results_tmp rfl _ _ _) rfl ⟨rfl, N4.out⟩
theorem r4G_any (p : Pl) (V : List UInt32) (x y : UInt32) (w : World) (hp : p.Ok) (hV : V.length = 16) :
  Calls Tryz.prog 115 #[.agg (wc3 V), .int .i64 p.a, .int .i64 p.b, .int .i64 p.c, .int .i64 p.d, .int .u32 (wr3 x), .int .u32 (wr3 y)] w fun e w' => e = .returned (.tuple #[.agg (wc3 (p.lay V (gm32 (p.get 0 V) x y))), .int .i64 0]) /\ Below w.heap.size w w' := by
 have hl := lay_get hp 0 V hV;have HP := zH hp;have rp := fun W => r4places_any p W hp
 obtain ⟨q, hq⟩ : ∃ q, q = p.get 0 V := ⟨_, rfl⟩;have hsz : Hid ((Tryz.prog.info? 140).map (·.size) = some (wc3 (p.lay V (gm32 q x y))).size) := sz16s _ (by rw [lay_len, hV]);have hVs : Hid (16 = (wc3 (p.lay V (gm32 q x y))).size) := by show _ = _; rw [wc3_size, lay_len, hV]
 have hu := zH Tryz.underlying140;have hall := zH (wc3_all (p.lay V (gm32 q x y)));rw [<- hq] at hl ⊢;rw [<- hl];rw [<- hl] at hsz hVs hall;have elay : ∀ r, p.lay (p.lay V q) r = p.lay V r := fun r => by
  obtain ⟨ra, rb, rc, rd⟩ := r;have h1 := lay_a hp V q ra; have h2 := lay_b hp V { q with a := ra } rb; have h3 := lay_c hp V { q with a := ra, b := rb } rc; have h4 := lay_d (p := p) V { q with a := ra, b := rb, c := rc } rd
  show (((((p.lay V q).set p.a ra).set p.b rb).set p.c rc).set p.d rd) = _
  rw [h1, h2, h3, h4]
 rw [elay] at hsz hVs hall ⊢;have HAa := zH fun q => at_a hp V q hV
 have HAb := zH fun q => at_b hp V q hV
 have HAc := zH fun q => at_c hp V q hV
 have HAd := zH fun q => at_d hp V q hV
 have HLa := zH (lay_a hp V); have HLb := zH (lay_b hp V); have HLc := zH (lay_c hp V); have HLd := zH (lay_d (p := p) V);have la := hp.a; have lb := hp.b; have lc := hp.c; have ld := hp.d;generalize hlay : p.lay V = lay at *;clear hlay hl hp HP hV hq elay;obtain ⟨pa, pb, pc, pd⟩ := p;dsimp only at *;obtain ⟨ka, kb, kc, kd⟩ := q;have i1 : (pa : Int) < 16 := by omega
 have i2 : (pb : Int) < 16 := by omega
 have i3 : (pc : Int) < 16 := by omega
 have i4 : (pd : Int) < 16 := by omega
 have h1 := wr3_add; have h2 := wr3_xor;obtain ⟨g, hg⟩ : ∃ g, g = w.heap.size := ⟨_, rfl⟩;have HGE := zH hg;have hb : Blk ((w.alloc (.cells (wc3 (lay ⟨ka, kb, kc, kd⟩)) 140)).alloc (.cells z16s 140)) g 140 (wc3 (lay ⟨ka, kb, kc, kd⟩)) := by rw [hg]; exact (Blk.new _ _ _).alloc _
 have hr : Blk ((w.alloc (.cells (wc3 (lay ⟨ka, kb, kc, kd⟩)) 140)).alloc (.cells z16s 140)) (g + 1) 140 z16s := by rw [hg]; simpa using Blk.new (w.alloc (.cells (wc3 (lay ⟨ka, kb, kc, kd⟩)) 140)) 140 z16s
 have hgr : Below w.heap.size w ((w.alloc (.cells (wc3 (lay ⟨ka, kb, kc, kd⟩)) 140)).alloc (.cells z16s 140)) := bal (bal (b0 w) _) _;unfold z16s at hb hr hgr;go_enter Tryz.func115, Tryz.ntmps115;go_upto_region 1 with fail
 rw [<- hg];generalize (w.alloc (.cells (wc3 (lay ⟨ka, kb, kc, kd⟩)) 140)).alloc (.cells #[.int .u32 0, .int .u32 0, .int .u32 0, .int .u32 0, .int .u32 0, .int .u32 0, .int .u32 0, .int .u32 0, .int .u32 0, .int .u32 0, .int .u32 0, .int .u32 0, .int .u32 0, .int .u32 0, .int .u32 0, .int .u32 0] 140) = wa at *;clear hg;have HB := zH hb; have HR := zH hr; have HG := zH hgr; clear hb hr hgr;have RP := zH rp; clear rp;go_wp2_with (go_at_call 125; refine (RP _).mono ?_; rintro e wc ⟨rfl, hb9⟩; have HB2 := zH (HB.below hb9 HB.lt); have HR2 := zH (HR.below hb9 HR.lt); have HG2 := zH (bcall HG hb9); clear hb9);clear RP HB HR HG wa;have HB := zH HB2.out; have HR := zH HR2.out; have HG := zH HG2.out; clear HB2 HR2 HG2;have ga : wc.cell? ⟨g, pa, none⟩ = some (.int .u32 (wr3 ka)) := (HB.cell _).trans (wc3_at' _ _ _ (HAa _));have gb : wc.cell? ⟨g, pb, none⟩ = some (.int .u32 (wr3 kb)) := (HB.cell _).trans (wc3_at' _ _ _ (HAb _));have gc : wc.cell? ⟨g, pc, none⟩ = some (.int .u32 (wr3 kc)) := (HB.cell _).trans (wc3_at' _ _ _ (HAc _));have gd : wc.cell? ⟨g, pd, none⟩ = some (.int .u32 (wr3 kd)) := (HB.cell _).trans (wc3_at' _ _ _ (HAd _));have fa : ∀ i, wc.frozen? ⟨g, i, none⟩ = false := HB.frozen;refine wrZ (fun _ => True) (fun _ _ h => h) (Ords.of [(0, 0), (0, 1), (0, 2), (1, 3), (0, 4), (0, 5), (1, 6), (0, 7), (0, 8), (0, 9), (0, 10), (2, 11)] .fin) trivial ?_
 iterate 11 ((first | refine ords_pure rfl (fun K hK => ?_) | refine ords_read rfl (fun K hK => ?_)); go_simp; refine hK _ ?_; clear hK K)
 refine ords_loud rfl (fun n1 => ?_);go_wp2
 first | (refine ⟨trivial, ?_⟩; refine ords_end (fun n2 => ?_)) | (rintro _ ⟨n2, rfl⟩)
 have hb := ((HB.drewN n1).set_ pa (wv3 (ka + kb + x))).drewN n2;rw [wc3_set, HLa.out] at hb;dsimp only at hb;have hr := ((HR.drewN n1).far (p := ⟨g, pa, none⟩) (show g + 1 ≠ g by omega) (wv3 (ka + kb + x))).drewN n2;have hgr := bdr (bput (bdr HG (n1)) (p := ⟨g, pa, none⟩) (show w.heap.size <= g from bZF HGE.symm) (wv3 (ka + kb + x))) n2;go_wp2_with fail;change Blk (aZD (aZI (aZD wc (n1)) ⟨g, pa, none⟩ (.int .u32 (wr3 ((ka + kb + x))))) n2) _ _ _ at hb;change Blk (aZD (aZI (aZD wc (n1)) ⟨g, pa, none⟩ (.int .u32 (wr3 ((ka + kb + x))))) n2) _ _ _ at hr;change Below _ w (aZD (aZI (aZD wc (n1)) ⟨g, pa, none⟩ (.int .u32 (wr3 ((ka + kb + x))))) n2) at hgr;clear ga gb gc gd fa HB HG HR;generalize aZD (aZI (aZD wc (n1)) ⟨g, pa, none⟩ (.int .u32 (wr3 ((ka + kb + x))))) n2 = wn at *;obtain ⟨a1, ha1⟩ : ∃ a1, a1 = (ka + kb + x) := ⟨_, rfl⟩;rw [<- ha1] at hb ⊢;clear wc;obtain ⟨wc, hwc⟩ : ∃ wc, wc = wn := ⟨_, rfl⟩;rw [<- hwc] at hb hr hgr ⊢;clear hwc;have Ea1 := zH ha1; have HB := zH hb; have HR := zH hr; have HG := zH hgr; clear hb hr hgr ha1;have ga : wc.cell? ⟨g, pa, none⟩ = some (.int .u32 (wr3 a1)) := (HB.cell _).trans (wc3_at' _ _ _ (HAa _));have gb : wc.cell? ⟨g, pb, none⟩ = some (.int .u32 (wr3 kb)) := (HB.cell _).trans (wc3_at' _ _ _ (HAb _));have gc : wc.cell? ⟨g, pc, none⟩ = some (.int .u32 (wr3 kc)) := (HB.cell _).trans (wc3_at' _ _ _ (HAc _));have gd : wc.cell? ⟨g, pd, none⟩ = some (.int .u32 (wr3 kd)) := (HB.cell _).trans (wc3_at' _ _ _ (HAd _));have fa : ∀ i, wc.frozen? ⟨g, i, none⟩ = false := HB.frozen;refine wrZ (fun _ => True) (fun _ _ h => h) (Ords.of [(0, 0), (0, 1), (0, 2), (1, 3), (0, 4), (0, 5), (1, 6), (0, 7), (2, 8), (0, 9), (2, 10)] .fin) trivial ?_
 iterate 8 ((first | refine ords_pure rfl (fun K hK => ?_) | refine ords_read rfl (fun K hK => ?_)); go_simp; refine hK _ ?_; clear hK K)
 refine ords_loud rfl (fun n1 => ?_);go_wp2_with (go_at_call 126; refine (r4turn_16 _ _).mono ?_; rintro e w9 ⟨rfl, rfl⟩);refine ⟨trivial, ?_⟩;refine ords_pure rfl (fun K hK => ?_); go_simp; refine hK _ ?_; clear hK K;refine ords_loud rfl (fun n2 => ?_);go_wp2
 first | (refine ⟨trivial, ?_⟩; refine ords_end (fun n3 => ?_)) | (rintro _ ⟨n3, rfl⟩)
 have hb := ((HB.drewN (n1 + n2)).set_ pd (wv3 (rot3 (kd ^^^ a1) 16))).drewN n3;rw [wc3_set, HLd.out] at hb;dsimp only at hb;have hr := ((HR.drewN (n1 + n2)).far (p := ⟨g, pd, none⟩) (show g + 1 ≠ g by omega) (wv3 (rot3 (kd ^^^ a1) 16))).drewN n3;have hgr := bdr (bput (bdr HG ((n1 + n2))) (p := ⟨g, pd, none⟩) (show w.heap.size <= g from bZF HGE.symm) (wv3 (rot3 (kd ^^^ a1) 16))) n3;go_wp2_with fail;change Blk (aZD (aZI (aZD wc ((n1 + n2))) ⟨g, pd, none⟩ (.int .u32 (wr3 ((rot3 (kd ^^^ a1) 16))))) n3) _ _ _ at hb;change Blk (aZD (aZI (aZD wc ((n1 + n2))) ⟨g, pd, none⟩ (.int .u32 (wr3 ((rot3 (kd ^^^ a1) 16))))) n3) _ _ _ at hr;change Below _ w (aZD (aZI (aZD wc ((n1 + n2))) ⟨g, pd, none⟩ (.int .u32 (wr3 ((rot3 (kd ^^^ a1) 16))))) n3) at hgr;clear ga gb gc gd fa HB HG HR;generalize aZD (aZI (aZD wc ((n1 + n2))) ⟨g, pd, none⟩ (.int .u32 (wr3 ((rot3 (kd ^^^ a1) 16))))) n3 = wn at *;obtain ⟨d1, hd1⟩ : ∃ d1, d1 = (rot3 (kd ^^^ a1) 16) := ⟨_, rfl⟩;rw [<- hd1] at hb ⊢;clear wc;obtain ⟨wc, hwc⟩ : ∃ wc, wc = wn := ⟨_, rfl⟩;rw [<- hwc] at hb hr hgr ⊢;clear hwc;have Ed1 := zH hd1; have HB := zH hb; have HR := zH hr; have HG := zH hgr; clear hb hr hgr hd1;have ga : wc.cell? ⟨g, pa, none⟩ = some (.int .u32 (wr3 a1)) := (HB.cell _).trans (wc3_at' _ _ _ (HAa _));have gb : wc.cell? ⟨g, pb, none⟩ = some (.int .u32 (wr3 kb)) := (HB.cell _).trans (wc3_at' _ _ _ (HAb _));have gc : wc.cell? ⟨g, pc, none⟩ = some (.int .u32 (wr3 kc)) := (HB.cell _).trans (wc3_at' _ _ _ (HAc _));have gd : wc.cell? ⟨g, pd, none⟩ = some (.int .u32 (wr3 d1)) := (HB.cell _).trans (wc3_at' _ _ _ (HAd _));have fa : ∀ i, wc.frozen? ⟨g, i, none⟩ = false := HB.frozen;refine wrZ (fun _ => True) (fun _ _ h => h) (Ords.of [(0, 0), (0, 1), (0, 2), (1, 3), (0, 4), (0, 5), (1, 6), (0, 7), (0, 8), (2, 9)] .fin) trivial ?_
 iterate 9 ((first | refine ords_pure rfl (fun K hK => ?_) | refine ords_read rfl (fun K hK => ?_)); go_simp; refine hK _ ?_; clear hK K)
 refine ords_loud rfl (fun n1 => ?_);go_wp2
 first | (refine ⟨trivial, ?_⟩; refine ords_end (fun n2 => ?_)) | (rintro _ ⟨n2, rfl⟩)
 have hb := ((HB.drewN n1).set_ pc (wv3 (kc + d1))).drewN n2;rw [wc3_set, HLc.out] at hb;dsimp only at hb;have hr := ((HR.drewN n1).far (p := ⟨g, pc, none⟩) (show g + 1 ≠ g by omega) (wv3 (kc + d1))).drewN n2;have hgr := bdr (bput (bdr HG (n1)) (p := ⟨g, pc, none⟩) (show w.heap.size <= g from bZF HGE.symm) (wv3 (kc + d1))) n2;go_wp2_with fail;change Blk (aZD (aZI (aZD wc (n1)) ⟨g, pc, none⟩ (.int .u32 (wr3 ((kc + d1))))) n2) _ _ _ at hb;change Blk (aZD (aZI (aZD wc (n1)) ⟨g, pc, none⟩ (.int .u32 (wr3 ((kc + d1))))) n2) _ _ _ at hr;change Below _ w (aZD (aZI (aZD wc (n1)) ⟨g, pc, none⟩ (.int .u32 (wr3 ((kc + d1))))) n2) at hgr;clear ga gb gc gd fa HB HG HR;generalize aZD (aZI (aZD wc (n1)) ⟨g, pc, none⟩ (.int .u32 (wr3 ((kc + d1))))) n2 = wn at *;obtain ⟨c1, hc1⟩ : ∃ c1, c1 = (kc + d1) := ⟨_, rfl⟩;rw [<- hc1] at hb ⊢;clear wc;obtain ⟨wc, hwc⟩ : ∃ wc, wc = wn := ⟨_, rfl⟩;rw [<- hwc] at hb hr hgr ⊢;clear hwc;have Ec1 := zH hc1; have HB := zH hb; have HR := zH hr; have HG := zH hgr; clear hb hr hgr hc1;have ga : wc.cell? ⟨g, pa, none⟩ = some (.int .u32 (wr3 a1)) := (HB.cell _).trans (wc3_at' _ _ _ (HAa _));have gb : wc.cell? ⟨g, pb, none⟩ = some (.int .u32 (wr3 kb)) := (HB.cell _).trans (wc3_at' _ _ _ (HAb _));have gc : wc.cell? ⟨g, pc, none⟩ = some (.int .u32 (wr3 c1)) := (HB.cell _).trans (wc3_at' _ _ _ (HAc _));have gd : wc.cell? ⟨g, pd, none⟩ = some (.int .u32 (wr3 d1)) := (HB.cell _).trans (wc3_at' _ _ _ (HAd _));have fa : ∀ i, wc.frozen? ⟨g, i, none⟩ = false := HB.frozen;refine wrZ (fun _ => True) (fun _ _ h => h) (Ords.of [(0, 0), (0, 1), (0, 2), (1, 3), (0, 4), (0, 5), (1, 6), (0, 7), (2, 8), (0, 9), (2, 10)] .fin) trivial ?_
 iterate 8 ((first | refine ords_pure rfl (fun K hK => ?_) | refine ords_read rfl (fun K hK => ?_)); go_simp; refine hK _ ?_; clear hK K)
 refine ords_loud rfl (fun n1 => ?_);go_wp2_with (go_at_call 126; refine (r4turn_12 _ _).mono ?_; rintro e w9 ⟨rfl, rfl⟩);refine ⟨trivial, ?_⟩;refine ords_pure rfl (fun K hK => ?_); go_simp; refine hK _ ?_; clear hK K;refine ords_loud rfl (fun n2 => ?_);go_wp2
 first | (refine ⟨trivial, ?_⟩; refine ords_end (fun n3 => ?_)) | (rintro _ ⟨n3, rfl⟩)
 have hb := ((HB.drewN (n1 + n2)).set_ pb (wv3 (rot3 (kb ^^^ c1) 12))).drewN n3;rw [wc3_set, HLb.out] at hb;dsimp only at hb;have hr := ((HR.drewN (n1 + n2)).far (p := ⟨g, pb, none⟩) (show g + 1 ≠ g by omega) (wv3 (rot3 (kb ^^^ c1) 12))).drewN n3;have hgr := bdr (bput (bdr HG ((n1 + n2))) (p := ⟨g, pb, none⟩) (show w.heap.size <= g from bZF HGE.symm) (wv3 (rot3 (kb ^^^ c1) 12))) n3;go_wp2_with fail;change Blk (aZD (aZI (aZD wc ((n1 + n2))) ⟨g, pb, none⟩ (.int .u32 (wr3 ((rot3 (kb ^^^ c1) 12))))) n3) _ _ _ at hb;change Blk (aZD (aZI (aZD wc ((n1 + n2))) ⟨g, pb, none⟩ (.int .u32 (wr3 ((rot3 (kb ^^^ c1) 12))))) n3) _ _ _ at hr;change Below _ w (aZD (aZI (aZD wc ((n1 + n2))) ⟨g, pb, none⟩ (.int .u32 (wr3 ((rot3 (kb ^^^ c1) 12))))) n3) at hgr;clear ga gb gc gd fa HB HG HR;generalize aZD (aZI (aZD wc ((n1 + n2))) ⟨g, pb, none⟩ (.int .u32 (wr3 ((rot3 (kb ^^^ c1) 12))))) n3 = wn at *;obtain ⟨b1, hb1⟩ : ∃ b1, b1 = (rot3 (kb ^^^ c1) 12) := ⟨_, rfl⟩;rw [<- hb1] at hb ⊢;clear wc;obtain ⟨wc, hwc⟩ : ∃ wc, wc = wn := ⟨_, rfl⟩;rw [<- hwc] at hb hr hgr ⊢;clear hwc;have Eb1 := zH hb1; have HB := zH hb; have HR := zH hr; have HG := zH hgr; clear hb hr hgr hb1;have ga : wc.cell? ⟨g, pa, none⟩ = some (.int .u32 (wr3 a1)) := (HB.cell _).trans (wc3_at' _ _ _ (HAa _));have gb : wc.cell? ⟨g, pb, none⟩ = some (.int .u32 (wr3 b1)) := (HB.cell _).trans (wc3_at' _ _ _ (HAb _));have gc : wc.cell? ⟨g, pc, none⟩ = some (.int .u32 (wr3 c1)) := (HB.cell _).trans (wc3_at' _ _ _ (HAc _));have gd : wc.cell? ⟨g, pd, none⟩ = some (.int .u32 (wr3 d1)) := (HB.cell _).trans (wc3_at' _ _ _ (HAd _));have fa : ∀ i, wc.frozen? ⟨g, i, none⟩ = false := HB.frozen;refine wrZ (fun _ => True) (fun _ _ h => h) (Ords.of [(0, 0), (0, 1), (0, 2), (1, 3), (0, 4), (0, 5), (1, 6), (0, 7), (0, 8), (0, 9), (0, 10), (2, 11)] .fin) trivial ?_
 iterate 11 ((first | refine ords_pure rfl (fun K hK => ?_) | refine ords_read rfl (fun K hK => ?_)); go_simp; refine hK _ ?_; clear hK K)
 refine ords_loud rfl (fun n1 => ?_);go_wp2
 first | (refine ⟨trivial, ?_⟩; refine ords_end (fun n2 => ?_)) | (rintro _ ⟨n2, rfl⟩)
 have hb := ((HB.drewN n1).set_ pa (wv3 (a1 + b1 + y))).drewN n2;rw [wc3_set, HLa.out] at hb;dsimp only at hb;have hr := ((HR.drewN n1).far (p := ⟨g, pa, none⟩) (show g + 1 ≠ g by omega) (wv3 (a1 + b1 + y))).drewN n2;have hgr := bdr (bput (bdr HG (n1)) (p := ⟨g, pa, none⟩) (show w.heap.size <= g from bZF HGE.symm) (wv3 (a1 + b1 + y))) n2;go_wp2_with fail;change Blk (aZD (aZI (aZD wc (n1)) ⟨g, pa, none⟩ (.int .u32 (wr3 ((a1 + b1 + y))))) n2) _ _ _ at hb;change Blk (aZD (aZI (aZD wc (n1)) ⟨g, pa, none⟩ (.int .u32 (wr3 ((a1 + b1 + y))))) n2) _ _ _ at hr;change Below _ w (aZD (aZI (aZD wc (n1)) ⟨g, pa, none⟩ (.int .u32 (wr3 ((a1 + b1 + y))))) n2) at hgr;clear ga gb gc gd fa HB HG HR;generalize aZD (aZI (aZD wc (n1)) ⟨g, pa, none⟩ (.int .u32 (wr3 ((a1 + b1 + y))))) n2 = wn at *;obtain ⟨a2, ha2⟩ : ∃ a2, a2 = (a1 + b1 + y) := ⟨_, rfl⟩;rw [<- ha2] at hb ⊢;clear wc;obtain ⟨wc, hwc⟩ : ∃ wc, wc = wn := ⟨_, rfl⟩;rw [<- hwc] at hb hr hgr ⊢;clear hwc;have Ea2 := zH ha2; have HB := zH hb; have HR := zH hr; have HG := zH hgr; clear hb hr hgr ha2;have ga : wc.cell? ⟨g, pa, none⟩ = some (.int .u32 (wr3 a2)) := (HB.cell _).trans (wc3_at' _ _ _ (HAa _));have gb : wc.cell? ⟨g, pb, none⟩ = some (.int .u32 (wr3 b1)) := (HB.cell _).trans (wc3_at' _ _ _ (HAb _));have gc : wc.cell? ⟨g, pc, none⟩ = some (.int .u32 (wr3 c1)) := (HB.cell _).trans (wc3_at' _ _ _ (HAc _));have gd : wc.cell? ⟨g, pd, none⟩ = some (.int .u32 (wr3 d1)) := (HB.cell _).trans (wc3_at' _ _ _ (HAd _));have fa : ∀ i, wc.frozen? ⟨g, i, none⟩ = false := HB.frozen;refine wrZ (fun _ => True) (fun _ _ h => h) (Ords.of [(0, 0), (0, 1), (0, 2), (1, 3), (0, 4), (0, 5), (1, 6), (0, 7), (2, 8), (0, 9), (2, 10)] .fin) trivial ?_
 iterate 8 ((first | refine ords_pure rfl (fun K hK => ?_) | refine ords_read rfl (fun K hK => ?_)); go_simp; refine hK _ ?_; clear hK K)
 refine ords_loud rfl (fun n1 => ?_);go_wp2_with (go_at_call 126; refine (r4turn_8 _ _).mono ?_; rintro e w9 ⟨rfl, rfl⟩);refine ⟨trivial, ?_⟩;refine ords_pure rfl (fun K hK => ?_); go_simp; refine hK _ ?_; clear hK K;refine ords_loud rfl (fun n2 => ?_);go_wp2
 first | (refine ⟨trivial, ?_⟩; refine ords_end (fun n3 => ?_)) | (rintro _ ⟨n3, rfl⟩)
 have hb := ((HB.drewN (n1 + n2)).set_ pd (wv3 (rot3 (d1 ^^^ a2) 8))).drewN n3;rw [wc3_set, HLd.out] at hb;dsimp only at hb;have hr := ((HR.drewN (n1 + n2)).far (p := ⟨g, pd, none⟩) (show g + 1 ≠ g by omega) (wv3 (rot3 (d1 ^^^ a2) 8))).drewN n3;have hgr := bdr (bput (bdr HG ((n1 + n2))) (p := ⟨g, pd, none⟩) (show w.heap.size <= g from bZF HGE.symm) (wv3 (rot3 (d1 ^^^ a2) 8))) n3;go_wp2_with fail;change Blk (aZD (aZI (aZD wc ((n1 + n2))) ⟨g, pd, none⟩ (.int .u32 (wr3 ((rot3 (d1 ^^^ a2) 8))))) n3) _ _ _ at hb;change Blk (aZD (aZI (aZD wc ((n1 + n2))) ⟨g, pd, none⟩ (.int .u32 (wr3 ((rot3 (d1 ^^^ a2) 8))))) n3) _ _ _ at hr;change Below _ w (aZD (aZI (aZD wc ((n1 + n2))) ⟨g, pd, none⟩ (.int .u32 (wr3 ((rot3 (d1 ^^^ a2) 8))))) n3) at hgr;clear ga gb gc gd fa HB HG HR;generalize aZD (aZI (aZD wc ((n1 + n2))) ⟨g, pd, none⟩ (.int .u32 (wr3 ((rot3 (d1 ^^^ a2) 8))))) n3 = wn at *;obtain ⟨d2, hd2⟩ : ∃ d2, d2 = (rot3 (d1 ^^^ a2) 8) := ⟨_, rfl⟩;rw [<- hd2] at hb ⊢;clear wc;obtain ⟨wc, hwc⟩ : ∃ wc, wc = wn := ⟨_, rfl⟩;rw [<- hwc] at hb hr hgr ⊢;clear hwc;have Ed2 := zH hd2; have HB := zH hb; have HR := zH hr; have HG := zH hgr; clear hb hr hgr hd2;have ga : wc.cell? ⟨g, pa, none⟩ = some (.int .u32 (wr3 a2)) := (HB.cell _).trans (wc3_at' _ _ _ (HAa _));have gb : wc.cell? ⟨g, pb, none⟩ = some (.int .u32 (wr3 b1)) := (HB.cell _).trans (wc3_at' _ _ _ (HAb _));have gc : wc.cell? ⟨g, pc, none⟩ = some (.int .u32 (wr3 c1)) := (HB.cell _).trans (wc3_at' _ _ _ (HAc _));have gd : wc.cell? ⟨g, pd, none⟩ = some (.int .u32 (wr3 d2)) := (HB.cell _).trans (wc3_at' _ _ _ (HAd _));have fa : ∀ i, wc.frozen? ⟨g, i, none⟩ = false := HB.frozen;refine wrZ (fun _ => True) (fun _ _ h => h) (Ords.of [(0, 0), (0, 1), (0, 2), (1, 3), (0, 4), (0, 5), (1, 6), (0, 7), (0, 8), (2, 9)] .fin) trivial ?_
 iterate 9 ((first | refine ords_pure rfl (fun K hK => ?_) | refine ords_read rfl (fun K hK => ?_)); go_simp; refine hK _ ?_; clear hK K)
 refine ords_loud rfl (fun n1 => ?_);go_wp2
 first | (refine ⟨trivial, ?_⟩; refine ords_end (fun n2 => ?_)) | (rintro _ ⟨n2, rfl⟩)
 have hb := ((HB.drewN n1).set_ pc (wv3 (c1 + d2))).drewN n2;rw [wc3_set, HLc.out] at hb;dsimp only at hb;have hr := ((HR.drewN n1).far (p := ⟨g, pc, none⟩) (show g + 1 ≠ g by omega) (wv3 (c1 + d2))).drewN n2;have hgr := bdr (bput (bdr HG (n1)) (p := ⟨g, pc, none⟩) (show w.heap.size <= g from bZF HGE.symm) (wv3 (c1 + d2))) n2;go_wp2_with fail;change Blk (aZD (aZI (aZD wc (n1)) ⟨g, pc, none⟩ (.int .u32 (wr3 ((c1 + d2))))) n2) _ _ _ at hb;change Blk (aZD (aZI (aZD wc (n1)) ⟨g, pc, none⟩ (.int .u32 (wr3 ((c1 + d2))))) n2) _ _ _ at hr;change Below _ w (aZD (aZI (aZD wc (n1)) ⟨g, pc, none⟩ (.int .u32 (wr3 ((c1 + d2))))) n2) at hgr;clear ga gb gc gd fa HB HG HR;generalize aZD (aZI (aZD wc (n1)) ⟨g, pc, none⟩ (.int .u32 (wr3 ((c1 + d2))))) n2 = wn at *;obtain ⟨c2, hc2⟩ : ∃ c2, c2 = (c1 + d2) := ⟨_, rfl⟩;rw [<- hc2] at hb ⊢;clear wc;obtain ⟨wc, hwc⟩ : ∃ wc, wc = wn := ⟨_, rfl⟩;rw [<- hwc] at hb hr hgr ⊢;clear hwc;have Ec2 := zH hc2; have HB := zH hb; have HR := zH hr; have HG := zH hgr; clear hb hr hgr hc2;have ga : wc.cell? ⟨g, pa, none⟩ = some (.int .u32 (wr3 a2)) := (HB.cell _).trans (wc3_at' _ _ _ (HAa _));have gb : wc.cell? ⟨g, pb, none⟩ = some (.int .u32 (wr3 b1)) := (HB.cell _).trans (wc3_at' _ _ _ (HAb _));have gc : wc.cell? ⟨g, pc, none⟩ = some (.int .u32 (wr3 c2)) := (HB.cell _).trans (wc3_at' _ _ _ (HAc _));have gd : wc.cell? ⟨g, pd, none⟩ = some (.int .u32 (wr3 d2)) := (HB.cell _).trans (wc3_at' _ _ _ (HAd _));have fa : ∀ i, wc.frozen? ⟨g, i, none⟩ = false := HB.frozen;refine wrZ (fun _ => True) (fun _ _ h => h) (Ords.of [(0, 0), (0, 1), (0, 2), (1, 3), (0, 4), (0, 5), (1, 6), (0, 7), (2, 8), (0, 9), (2, 10)] .fin) trivial ?_
 iterate 8 ((first | refine ords_pure rfl (fun K hK => ?_) | refine ords_read rfl (fun K hK => ?_)); go_simp; refine hK _ ?_; clear hK K)
 refine ords_loud rfl (fun n1 => ?_);go_wp2_with (go_at_call 126; refine (r4turn_7 _ _).mono ?_; rintro e w9 ⟨rfl, rfl⟩);refine ⟨trivial, ?_⟩;refine ords_pure rfl (fun K hK => ?_); go_simp; refine hK _ ?_; clear hK K;refine ords_loud rfl (fun n2 => ?_);go_wp2
 first | (refine ⟨trivial, ?_⟩; refine ords_end (fun n3 => ?_)) | (rintro _ ⟨n3, rfl⟩)
 have hb := ((HB.drewN (n1 + n2)).set_ pb (wv3 (rot3 (b1 ^^^ c2) 7))).drewN n3;rw [wc3_set, HLb.out] at hb;dsimp only at hb;have hr := ((HR.drewN (n1 + n2)).far (p := ⟨g, pb, none⟩) (show g + 1 ≠ g by omega) (wv3 (rot3 (b1 ^^^ c2) 7))).drewN n3;have hgr := bdr (bput (bdr HG ((n1 + n2))) (p := ⟨g, pb, none⟩) (show w.heap.size <= g from bZF HGE.symm) (wv3 (rot3 (b1 ^^^ c2) 7))) n3;go_upto_region 11 with fail
 change Blk (aZD (aZI (aZD wc ((n1 + n2))) ⟨g, pb, none⟩ (.int .u32 (wr3 ((rot3 (b1 ^^^ c2) 7))))) n3) _ _ _ at hb;change Blk (aZD (aZI (aZD wc ((n1 + n2))) ⟨g, pb, none⟩ (.int .u32 (wr3 ((rot3 (b1 ^^^ c2) 7))))) n3) _ _ _ at hr;change Below _ w (aZD (aZI (aZD wc ((n1 + n2))) ⟨g, pb, none⟩ (.int .u32 (wr3 ((rot3 (b1 ^^^ c2) 7))))) n3) at hgr;clear ga gb gc gd fa HB HG HR;generalize aZD (aZI (aZD wc ((n1 + n2))) ⟨g, pb, none⟩ (.int .u32 (wr3 ((rot3 (b1 ^^^ c2) 7))))) n3 = wn at *;obtain ⟨b2, hb2⟩ : ∃ b2, b2 = (rot3 (b1 ^^^ c2) 7) := ⟨_, rfl⟩;rw [<- hb2] at hb ⊢;clear wc;obtain ⟨wc, hwc⟩ : ∃ wc, wc = wn := ⟨_, rfl⟩;rw [<- hwc] at hb hr hgr ⊢;clear hwc;have Eb2 := zH hb2; have HB := zH hb; have HR := zH hr; have HG := zH hgr; clear hb hr hgr hb2;have e : (⟨a2, b2, c2, d2⟩ : Qd UInt32) = gm32 ⟨ka, kb, kc, kd⟩ x y := by
  unfold gm32
  dsimp only
  rw [Eb2.out, Ec2.out, Ed2.out, Ea2.out, Eb1.out, Ec1.out, Ed1.out, Ea1.out];simp only [UInt32.add_assoc]
 clear Eb2 Ec2 Ed2 Ea2 Eb1 Ec1 Ed1 Ea1 HLa HLb HLc HLd HAa HAb HAc HAd;have h := HB.out;rw [e] at h;have H := zH h; clear h HB;go_wp2_with (first
  | (refine aZH rfl 140 _ rfl g rfl 140 (wc3 (lay (gm32 ⟨ka, kb, kc, kd⟩ x y))) (0, 0) _ H.out hu.out rfl hsz.out ?_)
  | (refine aZE rfl 140 _ _ rfl (g + 1) (wc3 (lay (gm32 ⟨ka, kb, kc, kd⟩ x y))) rfl rfl 140 _ HR hsz.out hVs.out hall.out ?_))
 exact aZB (results_cell_tmp rfl _ _ (g + 1) _ _ _ rfl (HR.row _) hu.out rfl hsz.out) rfl ⟨rfl, brow HG.out (by have := HGE.out; omega) _⟩
theorem r4Round_any (r : Nat) (V M : List UInt32) (w : World) (hr : r < 10) (hV : V.length = 16) (hM : M.length = 16) :
  Calls Tryz.prog 98 #[.agg (wc3 V), .agg (wc3 M), .int .i64 r] w fun e w' => e = .returned (.tuple #[.agg (wc3 (turn32 M r V)), .int .i64 0]) /\ Below w.heap.size w w' := by
 have HV := zH hV; have HM := zH hM; clear hV hM;have hsl := sigma_len r;have hslt := sigma_lt r;have hsg := fun i hi W => refSigma_any r i hi W
 unfold turn32;generalize sigma r = S at *;have HST := zH hslt; have HSG := zH hsg; clear hsl hslt hsg;have hpl := zH r4four_any;have hu := zH Tryz.underlying140;have hr0 : decide ((r : Int) < 0) = false := by simp
 have hr1 : decide ((9 : Int) < (r : Int)) = false := by simp; omega
 have n0 : Blk (((w.alloc (.cells (wc3 V) 140)).alloc (.cells (wc3 M) 140)).alloc (.cells z16s 140)) w.heap.size 140 (wc3 V) := ((Blk.new _ _ _).alloc _).alloc _;have n1 : Blk (((w.alloc (.cells (wc3 V) 140)).alloc (.cells (wc3 M) 140)).alloc (.cells z16s 140)) (w.heap.size + 1) 140 (wc3 M) := by
  have := (Blk.new (w.alloc (.cells (wc3 V) 140)) 140 (wc3 M)).alloc (.cells z16s 140); simpa using this
 have n2 : Blk (((w.alloc (.cells (wc3 V) 140)).alloc (.cells (wc3 M) 140)).alloc (.cells z16s 140)) (w.heap.size + 1 + 1) 140 z16s := by
  have := Blk.new ((w.alloc (.cells (wc3 V) 140)).alloc (.cells (wc3 M) 140)) 140 z16s; simpa using this
 have n4 := bal (bal (bal (b0 w) (.cells (wc3 V) 140)) (.cells (wc3 M) 140)) (.cells z16s 140);obtain ⟨g, hg⟩ : ∃ g, g = w.heap.size := ⟨_, rfl⟩;unfold z16s at n0 n1 n2 n4;rw [<- hg] at n0 n1 n2;go_enter Tryz.func98, Tryz.ntmps98;go_upto_region 3 with fail
 rw [<- hg];generalize ((w.alloc (.cells (wc3 V) 140)).alloc (.cells (wc3 M) 140)).alloc (.cells #[.int .u32 0, .int .u32 0, .int .u32 0, .int .u32 0, .int .u32 0, .int .u32 0, .int .u32 0, .int .u32 0, .int .u32 0, .int .u32 0, .int .u32 0, .int .u32 0, .int .u32 0, .int .u32 0, .int .u32 0, .int .u32 0] 140) = w0 at *;have N0 := zH n0; have N1 := zH n1; have N2 := zH n2; have N4 := zH n4; have hwg : Hid (w.heap.size <= g) := by (show _ <= _; omega)
 clear n0 n1 n2 n4 hg hr0 hr1;go_wp2_with fail;go_loopw [8] (fun i wr => ∃ k : Nat, k <= 8 /\ i = .int .i64 k /\ Blk wr g 140 (wc3 (turnTo32 M S k V)) /\ Blk wr (g + 1) 140 (wc3 M) /\ Blk wr (g + 1 + 1) 140 z16s /\ Below w.heap.size w wr) (fun i _ => 8 - (intOf i).toNat)
 case atStart => exact ⟨0, by omega, rfl, N0.out, N1.out, N2.out, N4.out⟩
 case round =>
  clear N0 N1 N2 N4;obtain ⟨k, hk, rfl, x0, x1, x2, x4⟩ := hrel;have N0 := zH x0; have N1 := zH x1; have N2 := zH x2; have N4 := zH x4; clear x0 x1 x2 x4
  by_cases hlt : k < 8
  ·have hP := fun W => hpl.out k hlt W
   have hok := pls_ok k hlt;have hturn : turnTo32 M S (k + 1) V = (pls k).lay (turnTo32 M S k V) (gm32 ((pls k).get 0 (turnTo32 M S k V)) (M.getD (S.getD (2 * k) 0) 0) (M.getD (S.getD (2 * k + 1) 0) 0)) := rfl;have hTl : (turnTo32 M S k V).length = 16 := by rw [turnTo32_len, HV.out]
   have hTl1 : (turnTo32 M S (k + 1) V).length = 16 := by rw [turnTo32_len, HV.out]
   obtain ⟨i2, hi2⟩ : ∃ i2, i2 = 2 * k := ⟨_, rfl⟩;obtain ⟨i3, hi3⟩ : ∃ i3, i3 = 2 * k + 1 := ⟨_, rfl⟩;rw [<- hi3, <- hi2] at hturn;have e2 : 2 * (k : Int) = (i2 : Int) := by omega
   have e3 : (i2 : Int) + 1 = (i3 : Int) := by omega
   have l2 : i2 < 16 := by omega
   have l3 : i3 < 16 := by omega
   have hs2c := fun W => HSG i2 l2 W
   have hs3c := fun W => HSG i3 l3 W
   obtain ⟨s2, hs2⟩ : ∃ s, s = S.getD i2 0 := ⟨_, rfl⟩;obtain ⟨s3, hs3⟩ : ∃ s, s = S.getD i3 0 := ⟨_, rfl⟩;have ls2 : s2 < 16 := by rw [hs2]; exact HST.out i2 l2
   have ls3 : s3 < 16 := by rw [hs3]; exact HST.out i3 l3
   rw [<- hs2] at hturn hs2c;rw [<- hs3] at hturn hs3c;obtain ⟨x, hx⟩ : ∃ x, x = M.getD s2 0 := ⟨_, rfl⟩;obtain ⟨y, hy⟩ : ∃ y, y = M.getD s3 0 := ⟨_, rfl⟩;have m2 : (wc3 M)[s2]? = some (.int .u32 (wr3 x)) := by rw [wc3_get M s2 (by rw [HM.out]; exact ls2), hx]; rfl
   have m3 : (wc3 M)[s3]? = some (.int .u32 (wr3 y)) := by rw [wc3_get M s3 (by rw [HM.out]; exact ls3), hy]; rfl
   rw [<- hx, <- hy] at hturn;obtain ⟨p, hp⟩ : ∃ p, p = pls k := ⟨_, rfl⟩;rw [<- hp] at hP hok hturn;have hG := fun W => r4G_any p (turnTo32 M S k V) x y W hok hTl
   rw [<- hturn] at hG;obtain ⟨pa, pb, pc, pd⟩ := p;dsimp only at hP hG;have HP := zH hP; have HG := zH hG; have HS2 := zH hs2c; have HS3 := zH hs3c; have HM2 := zH m2; have HM3 := zH m3;have hsV := zH (sz16s _ hTl);have hsW := zH (sz16s _ hTl1);have hold : Hid ((wc3 (turnTo32 M S k V)).size = (wc3 (turnTo32 M S (k + 1) V)).size) := by show _ = _; rw [wc3_size, wc3_size, hTl, hTl1]
   have hall := zH (wc3_all (turnTo32 M S (k + 1) V));clear hP hG hs2c hs3c m2 m3 hturn hok hTl hTl1 hi2 hi3 hs2 hs3 hx hy hp;have j2 : (i2 : Int) < 16 := by omega
   have j3 : (i3 : Int) < 16 := by omega
   have j4 : (s2 : Int) < 16 := by omega
   have j5 : (s3 : Int) < 16 := by omega
   have hkd : decide ((k : Int) < 8) = true := by simp; omega
   have w2' : IntKind.i64.wrap (i2 : Int) = i2 := by simp [aZU, aZR, aZM]; omega
   have w3' : IntKind.i64.wrap (i3 : Int) = i3 := by simp [aZU, aZR, aZM]; omega
   go_upto_region 7 with (go_at_call 114; refine (HP _).mono ?_; rintro e w1 ⟨rfl, rfl⟩)
   have c4 : wr.cell? ⟨g + 1, s2, none⟩ = some (.int .u32 (wr3 x)) := (N1.cell _).trans HM2.out;have c5 : wr.cell? ⟨g + 1, s3, none⟩ = some (.int .u32 (wr3 y)) := (N1.cell _).trans HM3.out;refine wrZ (fun w' => Blk w' (g + 1) 140 (wc3 M)) (fun _ n h => h.drewN n) (Ords.of [(0, 1), (0, 2), (0, 3), (0, 4), (0, 5), (0, 6), (0, 7), (0, 11), (0, 12), (0, 13), (0, 14)] (.two 0 8 (Ords.of [(2, 8), (0, 9), (0, 10), (2, 15), (0, 16), (0, 17), (2, 18), (0, 19), (0, 20), (0, 21), (2, 22)] .fin) (Ords.of [(0, 9), (0, 10)] (.two 0 15 (Ords.of [(2, 15), (0, 16), (0, 17), (2, 18), (0, 19), (0, 20), (0, 21), (2, 22)] .fin) (Ords.of [(0, 16), (0, 17), (2, 0), (2, 18), (0, 19), (0, 20), (0, 21), (2, 22)] .fin))))) N1 ?_
   iterate 11 (refine ords_pure rfl (fun K hK => ?_); go_simp; refine hK _ ?_; clear hK K)
   refine ords_two rfl rfl (fun n1 => ?_) (fun n1 => ?_)
   ·go_wp2_with (first | (refine aZH rfl 140 _ rfl g rfl 140 (wc3 (turnTo32 M S k V)) (0, 0) _ (N0.drewN _) hu.out rfl hsV.out ?_) | (refine aZH rfl 140 _ rfl g rfl 140 (wc3 (turnTo32 M S k V)) (0, 0) _ ((N0.drewN _).drewN _) hu.out rfl hsV.out ?_) | (refine aZH rfl 140 _ rfl g rfl 140 (wc3 (turnTo32 M S k V)) (0, 0) _ (((N0.drewN _).drewN _).drewN _) hu.out rfl hsV.out ?_))
    refine ⟨by first | exact N1.drewN _ | exact (N1.drewN _).drewN _ | exact ((N1.drewN _).drewN _).drewN _, ?_⟩;refine ords_loud rfl (fun n2 => ?_);go_wp2_with (go_at_call 113; refine (HS2 _).mono ?_; rintro e w9 ⟨rfl, rfl⟩);refine ⟨N1.drewN _, ?_⟩;refine ords_pure rfl (fun K hK => ?_); go_simp; refine hK _ ?_; clear hK K;refine ords_heldK rfl (fun K K2 hK hK2 => ?_); go_simp; refine ⟨hK2 _ (fun w9 hS => ?_), hK _ ?_⟩; (clear hK hK2 K K2; have q4 : w9.cell? ⟨g + 1, s2, none⟩ = some (.int .u32 (wr3 x)) := (hS.cell _).trans HM2.out; have q5 : w9.cell? ⟨g + 1, s3, none⟩ = some (.int .u32 (wr3 y)) := (hS.cell _).trans HM3.out; go_simp); (clear hK hK2 K K2);refine ords_loud rfl (fun n3 => ?_);go_wp2_with (go_at_call 113; refine (HS3 _).mono ?_; rintro e w9 ⟨rfl, rfl⟩);refine ⟨N1.drewN _, ?_⟩;refine ords_pure rfl (fun K hK => ?_); go_simp; refine hK _ ?_; clear hK K;refine ords_heldK rfl (fun K K2 hK hK2 => ?_); go_simp; refine ⟨hK2 _ (fun w9 hS => ?_), hK _ ?_⟩; (clear hK hK2 K K2; have q4 : w9.cell? ⟨g + 1, s2, none⟩ = some (.int .u32 (wr3 x)) := (hS.cell _).trans HM2.out; have q5 : w9.cell? ⟨g + 1, s3, none⟩ = some (.int .u32 (wr3 y)) := (hS.cell _).trans HM3.out; go_simp); (clear hK hK2 K K2);refine ords_loud rfl (fun n4 => ?_);go_wp2_with (go_at_call 115; refine (HG _).mono ?_; rintro e w8 ⟨rfl, hb8⟩);have y0 := (N0.drewN _).below hb8 (N0.drewN _).lt; have y1 := (N1.drewN _).below hb8 (N1.drewN _).lt; have y2 := (N2.drewN _).below hb8 (N2.drewN _).lt; have y4 := bcall (bdr N4 _) hb8;refine ⟨y1, ?_⟩
    iterate 3 (refine ords_pure rfl (fun K hK => ?_); go_simp; refine hK _ ?_; clear hK K)
    refine ords_loud rfl (fun n5 => ?_);go_wp2_with (refine aZE rfl 140 _ _ rfl g (wc3 (turnTo32 M S (k + 1) V)) rfl rfl 140 _ (y0.drewN _) hsW.out hold.out hall.out ?_);refine ⟨(y1.drewN _).rowFar (by omega) _, ?_⟩;refine ords_end (fun n6 => ?_);go_wp2_with fail;go_roundw
    case rel => exact ⟨k + 1, by omega, by go_num, ((y0.drewN _).row _).drewN _, ((y1.drewN _).rowFar (by omega) _).drewN _, ((y2.drewN _).rowFar (by omega) _).drewN _, bdr (brow (bdr y4 _) hwg.out _) _⟩
    case measure => simp [intOf]; omega
   ·go_wp2_with (go_at_call 113; refine (HS2 _).mono ?_; rintro e w9 ⟨rfl, rfl⟩)
    refine ⟨N1.drewN _, ?_⟩;refine ords_pure rfl (fun K hK => ?_); go_simp; refine hK _ ?_; clear hK K;refine ords_heldK rfl (fun K K2 hK hK2 => ?_); go_simp; refine ⟨hK2 _ (fun w9 hS => ?_), hK _ ?_⟩; (clear hK hK2 K K2; have q4 : w9.cell? ⟨g + 1, s2, none⟩ = some (.int .u32 (wr3 x)) := (hS.cell _).trans HM2.out; have q5 : w9.cell? ⟨g + 1, s3, none⟩ = some (.int .u32 (wr3 y)) := (hS.cell _).trans HM3.out; go_simp); (clear hK hK2 K K2);refine ords_two rfl rfl (fun n2 => ?_) (fun n2 => ?_)
    ·go_wp2_with (first | (refine aZH rfl 140 _ rfl g rfl 140 (wc3 (turnTo32 M S k V)) (0, 0) _ (N0.drewN _) hu.out rfl hsV.out ?_) | (refine aZH rfl 140 _ rfl g rfl 140 (wc3 (turnTo32 M S k V)) (0, 0) _ ((N0.drewN _).drewN _) hu.out rfl hsV.out ?_) | (refine aZH rfl 140 _ rfl g rfl 140 (wc3 (turnTo32 M S k V)) (0, 0) _ (((N0.drewN _).drewN _).drewN _) hu.out rfl hsV.out ?_))
     refine ⟨by first | exact N1.drewN _ | exact (N1.drewN _).drewN _ | exact ((N1.drewN _).drewN _).drewN _, ?_⟩;refine ords_loud rfl (fun n3 => ?_);go_wp2_with (go_at_call 113; refine (HS3 _).mono ?_; rintro e w9 ⟨rfl, rfl⟩);refine ⟨N1.drewN _, ?_⟩;refine ords_pure rfl (fun K hK => ?_); go_simp; refine hK _ ?_; clear hK K;refine ords_heldK rfl (fun K K2 hK hK2 => ?_); go_simp; refine ⟨hK2 _ (fun w9 hS => ?_), hK _ ?_⟩; (clear hK hK2 K K2; have q4 : w9.cell? ⟨g + 1, s2, none⟩ = some (.int .u32 (wr3 x)) := (hS.cell _).trans HM2.out; have q5 : w9.cell? ⟨g + 1, s3, none⟩ = some (.int .u32 (wr3 y)) := (hS.cell _).trans HM3.out; go_simp); (clear hK hK2 K K2);refine ords_loud rfl (fun n4 => ?_);go_wp2_with (go_at_call 115; refine (HG _).mono ?_; rintro e w8 ⟨rfl, hb8⟩);have y0 := (N0.drewN _).below hb8 (N0.drewN _).lt; have y1 := (N1.drewN _).below hb8 (N1.drewN _).lt; have y2 := (N2.drewN _).below hb8 (N2.drewN _).lt; have y4 := bcall (bdr N4 _) hb8;refine ⟨y1, ?_⟩
     iterate 3 (refine ords_pure rfl (fun K hK => ?_); go_simp; refine hK _ ?_; clear hK K)
     refine ords_loud rfl (fun n5 => ?_);go_wp2_with (refine aZE rfl 140 _ _ rfl g (wc3 (turnTo32 M S (k + 1) V)) rfl rfl 140 _ (y0.drewN _) hsW.out hold.out hall.out ?_);refine ⟨(y1.drewN _).rowFar (by omega) _, ?_⟩;refine ords_end (fun n6 => ?_);go_wp2_with fail;go_roundw
     case rel => exact ⟨k + 1, by omega, by go_num, ((y0.drewN _).row _).drewN _, ((y1.drewN _).rowFar (by omega) _).drewN _, ((y2.drewN _).rowFar (by omega) _).drewN _, bdr (brow (bdr y4 _) hwg.out _) _⟩
     case measure => simp [intOf]; omega
    ·go_wp2_with (go_at_call 113; refine (HS3 _).mono ?_; rintro e w9 ⟨rfl, rfl⟩)
     refine ⟨N1.drewN _, ?_⟩;refine ords_pure rfl (fun K hK => ?_); go_simp; refine hK _ ?_; clear hK K;refine ords_heldK rfl (fun K K2 hK hK2 => ?_); go_simp; refine ⟨hK2 _ (fun w9 hS => ?_), hK _ ?_⟩; (clear hK hK2 K K2; have q4 : w9.cell? ⟨g + 1, s2, none⟩ = some (.int .u32 (wr3 x)) := (hS.cell _).trans HM2.out; have q5 : w9.cell? ⟨g + 1, s3, none⟩ = some (.int .u32 (wr3 y)) := (hS.cell _).trans HM3.out; go_simp); (clear hK hK2 K K2);refine ords_loud rfl (fun n3 => ?_);go_wp2_with (first | (refine aZH rfl 140 _ rfl g rfl 140 (wc3 (turnTo32 M S k V)) (0, 0) _ (N0.drewN _) hu.out rfl hsV.out ?_) | (refine aZH rfl 140 _ rfl g rfl 140 (wc3 (turnTo32 M S k V)) (0, 0) _ ((N0.drewN _).drewN _) hu.out rfl hsV.out ?_) | (refine aZH rfl 140 _ rfl g rfl 140 (wc3 (turnTo32 M S k V)) (0, 0) _ (((N0.drewN _).drewN _).drewN _) hu.out rfl hsV.out ?_));refine ⟨by first | exact N1.drewN _ | exact (N1.drewN _).drewN _ | exact ((N1.drewN _).drewN _).drewN _, ?_⟩;refine ords_loud rfl (fun n4 => ?_);go_wp2_with (go_at_call 115; refine (HG _).mono ?_; rintro e w8 ⟨rfl, hb8⟩);have y0 := (N0.drewN _).below hb8 (N0.drewN _).lt; have y1 := (N1.drewN _).below hb8 (N1.drewN _).lt; have y2 := (N2.drewN _).below hb8 (N2.drewN _).lt; have y4 := bcall (bdr N4 _) hb8;refine ⟨y1, ?_⟩
     iterate 3 (refine ords_pure rfl (fun K hK => ?_); go_simp; refine hK _ ?_; clear hK K)
     refine ords_loud rfl (fun n5 => ?_);go_wp2_with (refine aZE rfl 140 _ _ rfl g (wc3 (turnTo32 M S (k + 1) V)) rfl rfl 140 _ (y0.drewN _) hsW.out hold.out hall.out ?_);refine ⟨(y1.drewN _).rowFar (by omega) _, ?_⟩;refine ords_end (fun n6 => ?_);go_wp2_with fail;go_roundw
     case rel => exact ⟨k + 1, by omega, by go_num, ((y0.drewN _).row _).drewN _, ((y1.drewN _).rowFar (by omega) _).drewN _, ((y2.drewN _).rowFar (by omega) _).drewN _, bdr (brow (bdr y4 _) hwg.out _) _⟩
     case measure => simp [intOf]; omega
  ·obtain rfl : k = 8 := by omega
   clear hlt hk;have hTl : (turnTo32 M S 8 V).length = 16 := by rw [turnTo32_len, HV.out]
   have hsV := zH (sz16s _ hTl);have hold : Hid (z16s.size = (wc3 (turnTo32 M S 8 V)).size) := by show _ = _; rw [wc3_size, hTl]; rfl
   have hall := zH (wc3_all (turnTo32 M S 8 V));clear hTl;go_upto_region 8 with fail
   go_wp2_with (first
    | (refine aZH rfl 140 _ rfl g rfl 140 (wc3 (turnTo32 M S 8 V)) (0, 0) _ N0 hu.out rfl hsV.out ?_)
    | (refine aZE rfl 140 _ _ rfl (g + 1 + 1) (wc3 (turnTo32 M S 8 V)) rfl rfl 140 _ N2 hsV.out hold.out hall.out ?_))
   exact aZB (results_cell_tmp rfl _ _ (g + 1 + 1) _ _ _ rfl (N2.row _) hu.out rfl hsV.out) rfl ⟨rfl, brow N4.out (by have := hwg.out; omega) _⟩
def fill3 (z : List UInt32) (k n : Nat) : List UInt32 := z.take k ++ List.replicate (n - k) 0
theorem fill3_len (z : List UInt32) (k n : Nat) (hk : k <= n) (hz : z.length = n) : (fill3 z k n).length = n := fill_len z k n 0 hk hz
theorem fill3_all (z : List UInt32) (n : Nat) (hz : z.length = n) : fill3 z n n = z := by unfold fill3; rw [Nat.sub_self, List.replicate_zero, List.append_nil, List.take_of_length_le (by omega)]
theorem fill3_set (z : List UInt32) (k n : Nat) (v : UInt32) (hk : k < n) (hn : z.length = n) (hz : z[k]? = some v) : (fill3 z k n).set k v = fill3 z (k + 1) n := by
 have h1 : (z.take k).length = k := by simp; omega
 unfold fill3;rw [List.take_add_one, hz, cZG, if_neg (by rw [h1]; omega), h1, Nat.sub_self, show n - k = (n - (k + 1)) + 1 by omega, List.replicate_succ, List.set_cons_zero, List.append_assoc]
 rfl
theorem fill3_put (z : List UInt32) (k n : Nat) (v : UInt32) (hk : k < n) (hn : z.length = n) (hz : z[k]? = some v) : (wc3 (fill3 z k n)).setIfInBounds k (wv3 v) = wc3 (fill3 z (k + 1) n) := by
 rw [wc3_set, fill3_set z k n v hk hn hz]
def halves3 (H I : List UInt32) (k : Nat) : List UInt32 := fill3 H k 8 ++ fill3 I k 8
theorem halves3_len (H I : List UInt32) (k : Nat) (hk : k <= 8) (hH : H.length = 8) (hI : I.length = 8) : (halves3 H I k).length = 16 := by
 unfold halves3; rw [List.length_append, fill3_len H k 8 hk hH, fill3_len I k 8 hk hI]
theorem halves3_all (H I : List UInt32) (hH : H.length = 8) (hI : I.length = 8) : halves3 H I 8 = H ++ I := by unfold halves3; rw [fill3_all H 8 hH, fill3_all I 8 hI]
theorem halves3_put (H I : List UInt32) (k : Nat) (u v : UInt32) (hk : k < 8) (hH : H.length = 8) (hI : I.length = 8) (hu : H[k]? = some u) (hv : I[k]? = some v) : ((halves3 H I k).set k u).set (k + 8) v = halves3 H I (k + 1) := by
 have l1 := fill3_len H k 8 (by omega) hH;have l2 := fill3_len H (k + 1) 8 (by omega) hH;unfold halves3;rw [cZG, if_pos (by omega), fill3_set H k 8 u hk hH hu, cZG, if_neg (by omega), l2, show k + 8 - 8 = k by omega, fill3_set I k 8 v hk hI hv]
theorem wr3_not' (x : UInt32) : bits .xor .u32 (wr3 x) 4294967295 = wr3 (~~~x) := by
 have h := wr3_xor x 4294967295;have e : wr3 4294967295 = 4294967295 := rfl;rw [e] at h;rw [h]
 congr 1
 exact UInt32.xor_neg_one
theorem r4Begin_any (H : List UInt32) (cnt : UInt64) (last node : Bool) (w : World) (hH : H.length = 8) :
  Calls Tryz.prog 97 #[.agg (wc3 H), .int .u64 (wrd cnt), .bool last, .bool node] w fun e w' => e = .returned (.agg (wc3 (initOf3 H (lo32 cnt) (hi32 cnt) last node))) /\ Below w.heap.size w w' := by
 have HH := zH hH; clear hH;have hwl := wrap_lo cnt;have hwh := wrap_hi cnt;generalize lo32 cnt = lo at *;generalize hi32 cnt = hi at *;have hG : Hid (initOf3 H lo hi last node = (let v := ((H ++ iv32).set 12 (0x510e527f ^^^ lo)).set 13 (0x9b05688c ^^^ hi); let v := if last then v.set 14 (~~~ 0x1f83d9ab) else v; if node then v.set 15 (~~~ 0x5be0cd19) else v)) := rfl;generalize initOf3 H lo hi last node = G at *;have IVl : Hid (iv32.length = 8) := rfl;have hIV : Hid (iv32 = [0x6a09e667, 0xbb67ae85, 0x3c6ef372, 0xa54ff53a, 0x510e527f, 0x9b05688c, 0x1f83d9ab, 0x5be0cd19]) := rfl;have hiv := zH r4IV_any;generalize iv32 = I at *;have sI := zH (sz8s I IVl);have aI := zH (wc3_all I);have hoI : Hid ((wc3 (zw3 8)).size = (wc3 I).size) := by show _ = _; rw [wc3_size, wc3_size, IVl.out]; rfl
 go_enter Tryz.func97, Tryz.ntmps97;go_upto_region 2 with fail
 have n1 : Blk (((w.alloc (.cells (wc3 H) 130)).alloc (.cells z16s 140)).alloc (.cells z16s 140)) w.heap.size 130 (wc3 H) := ((Blk.new _ _ _).alloc _).alloc _;have n2 : Blk (((w.alloc (.cells (wc3 H) 130)).alloc (.cells z16s 140)).alloc (.cells z16s 140)) (w.heap.size + 1) 140 (wc3 (zw3 16)) := by
  have := (Blk.new (w.alloc (.cells (wc3 H) 130)) 140 z16s).alloc (.cells z16s 140); show Blk _ _ _ z16s; simpa using this
 have n3 : Blk (((w.alloc (.cells (wc3 H) 130)).alloc (.cells z16s 140)).alloc (.cells z16s 140)) (w.heap.size + 1 + 1) 140 (wc3 (halves3 H I 0)) := by
  have := Blk.new ((w.alloc (.cells (wc3 H) 130)).alloc (.cells z16s 140)) 140 z16s; show Blk _ _ _ z16s; simpa using this
 have n4 := bal (bal (bal (b0 w) (.cells (wc3 H) 130)) (.cells z16s 140)) (.cells z16s 140);obtain ⟨g, hg⟩ : ∃ g, g = w.heap.size := ⟨_, rfl⟩;unfold z16s at n1 n2 n3 n4;rw [<- hg] at n1 n2 n3 ⊢;generalize ((w.alloc (.cells (wc3 H) 130)).alloc (.cells #[.int .u32 0, .int .u32 0, .int .u32 0, .int .u32 0, .int .u32 0, .int .u32 0, .int .u32 0, .int .u32 0, .int .u32 0, .int .u32 0, .int .u32 0, .int .u32 0, .int .u32 0, .int .u32 0, .int .u32 0, .int .u32 0] 140)).alloc (.cells #[.int .u32 0, .int .u32 0, .int .u32 0, .int .u32 0, .int .u32 0, .int .u32 0, .int .u32 0, .int .u32 0, .int .u32 0, .int .u32 0, .int .u32 0, .int .u32 0, .int .u32 0, .int .u32 0, .int .u32 0, .int .u32 0] 140) = w0 at *;have l0 : Hid (w.heap.size <= g) := by (show _ <= _; omega)
 obtain ⟨g2, hg2⟩ : ∃ g2, g2 = g + 1 := ⟨_, rfl⟩;obtain ⟨g3, hg3⟩ : ∃ g3, g3 = g + 1 + 1 := ⟨_, rfl⟩;rw [<- hg3, <- hg2];rw [<- hg2] at n2;rw [<- hg3] at n3;have l12 : g < g2 := by omega
 have l23 : g2 < g3 := by omega
 have N1 := zH n1; have N2 := zH n2; have N3 := zH n3; have N4 := zH n4;clear n1 n2 n3 n4 hg hg2 hg3;go_wp2_with fail;refine (hiv.out _).mono ?_;rintro e w5 ⟨rfl, hb5⟩;have l5 : g3 < w5.heap.size := (N3.below hb5 N3.lt).lt;have n5 := Blk.new w5 130 z8s;have v1 := (N1.below hb5 N1.lt).alloc (.cells z8s 130);have v2 := (N2.below hb5 N2.lt).alloc (.cells z8s 130);have v3 := (N3.below hb5 N3.lt).alloc (.cells z8s 130);have v4 := bal (bcall N4 hb5) (.cells z8s 130);have l6 := (bcall N4 hb5).size;unfold z8s at n5 v1 v2 v3 v4;have N5 := zH n5; have L6 := zH l6; clear n5 l6 hb5 N1 N2 N3 N4;go_upto_region 3 with (refine aZE rfl 130 _ _ rfl w5.heap.size (wc3 I) rfl rfl 130 _ N5 sI.out hoI.out aI.out ?_)
 have n5 := N5.row (wc3 I);obtain ⟨g5, hg5⟩ : ∃ g5, g5 = w5.heap.size := ⟨_, rfl⟩;replace v1 := v1.rowFar (k := w5.heap.size) (by omega) (wc3 I); replace v2 := v2.rowFar (k := w5.heap.size) (by omega) (wc3 I); replace v3 := v3.rowFar (k := w5.heap.size) (by omega) (wc3 I); replace v4 := brow v4 L6.out (wc3 I);rw [<- hg5] at n5 v1 v2 v3 v4 l5 ⊢;clear N5;generalize (w5.alloc (.cells #[.int .u32 0, .int .u32 0, .int .u32 0, .int .u32 0, .int .u32 0, .int .u32 0, .int .u32 0, .int .u32 0] 130)).setRow g5 (wc3 I) = w6 at *;clear hg5 L6;have N1 := zH v1; have N2 := zH v2; have N3 := zH v3; have N4 := zH v4; have N5 := zH n5; clear v1 v2 v3 v4 n5;go_wp2_with fail;go_loopw [11] (fun i wr => ∃ k : Nat, k <= 8 /\ i = .int .i64 k /\ Blk wr g 130 (wc3 H) /\ Blk wr g2 140 (wc3 (zw3 16)) /\ Blk wr g3 140 (wc3 (halves3 H I k)) /\ Blk wr g5 130 (wc3 I) /\ Below w.heap.size w wr) (fun i _ => 8 - (intOf i).toNat)
 case atStart => exact ⟨0, by omega, rfl, N1.out, N2.out, N3.out, N5.out, N4.out⟩
 case round =>
  clear N1 N2 N3 N4 N5;obtain ⟨k, hk, rfl, x1, x2, x3, x5, x4⟩ := hrel;have N1 := zH x1; have N2 := zH x2; have N3 := zH x3; have N4 := zH x4; have N5 := zH x5; clear x1 x2 x3 x4 x5
  by_cases hlt : k < 8
  ·obtain ⟨u, hu⟩ : ∃ u, u = H.getD k 0 := ⟨_, rfl⟩
   obtain ⟨v, hv⟩ : ∃ v, v = I.getD k 0 := ⟨_, rfl⟩;have hHk : H[k]? = some u := by rw [hu]; exact getD3 H k (by rw [HH.out]; exact hlt)
   have hIk : I[k]? = some v := by rw [hv]; exact getD3 I k (by rw [IVl.out]; exact hlt)
   have hput := halves3_put H I k u v hlt HH IVl hHk hIk;obtain ⟨k8, hk8⟩ : ∃ k8, k8 = k + 8 := ⟨_, rfl⟩;rw [<- hk8] at hput;have e8 : (k : Int) + 8 = (k8 : Int) := by omega
   have w8' : IntKind.i64.wrap (k8 : Int) = k8 := by simp [aZU, aZR, aZM]; omega
   have hk8i : (k8 : Int) < 16 := by omega
   have hk16 : (k : Int) < 16 := by omega
   have hki : (k : Int) < 8 := by omega
   have hkd : decide ((k : Int) < 8) = true := by simp; omega
   have hkk : k ≠ k8 := by omega
   have hl16 := halves3_len H I k (by omega) HH.out IVl.out;have c0 : wr.cell? ⟨g, k, none⟩ = some (.int .u32 (wr3 u)) := by rw [N1.cell, wc3_at' _ k u hHk]
   have c5 : wr.cell? ⟨g5, k, none⟩ = some (.int .u32 (wr3 v)) := by rw [N5.cell, wc3_at' _ k v hIk]
   have c1 : wr.cell? ⟨g3, k, none⟩ = some (wv3 ((halves3 H I k).getD k 0)) := (N3.cell k).trans (wc3_get _ _ (by rw [hl16]; omega));have c2 : wr.cell? ⟨g3, k8, none⟩ = some (wv3 ((halves3 H I k).getD k8 0)) := (N3.cell k8).trans (wc3_get _ _ (by rw [hl16]; omega));generalize wv3 ((halves3 H I k).getD k 0) = old at c1;generalize wv3 ((halves3 H I k).getD k8 0) = old2 at c2;have f1 : wr.frozen? ⟨g3, k, none⟩ = false := N3.frozen k;have f2 : wr.frozen? ⟨g3, k8, none⟩ = false := N3.frozen k8;have hs3 := (N3.set_ k (wv3 u)).set_ k8 (wv3 v);rw [wc3_set, wc3_set, hput] at hs3;have hs1 := (N1.far (p := ⟨g3, k, none⟩) (by show g ≠ g3; omega) (wv3 u)).far (p := ⟨g3, k8, none⟩) (by show g ≠ g3; omega) (wv3 v);have hs2 := (N2.far (p := ⟨g3, k, none⟩) (by show g2 ≠ g3; omega) (wv3 u)).far (p := ⟨g3, k8, none⟩) (by show g2 ≠ g3; omega) (wv3 v);have hs5 := (N5.far (p := ⟨g3, k, none⟩) (by show g5 ≠ g3; omega) (wv3 u)).far (p := ⟨g3, k8, none⟩) (by show g5 ≠ g3; omega) (wv3 v);have hs4 := bput (bput N4.out (p := ⟨g3, k, none⟩) (by have := l0.out; simp; omega) (wv3 u)) (p := ⟨g3, k8, none⟩) (by have := l0.out; simp; omega) (wv3 v);have hg53 : g5 ≠ g3 := by omega
   have HS1 := zH hs1; have HS2 := zH hs2; have HS3 := zH hs3; have HS4 := zH hs4; have HS5 := zH hs5;clear hput hs1 hs2 hs3 hs4 hs5 hl16 hHk hIk hu hv hk8 N1 N2 N3 N4 N5;go_wp2_with fail;go_roundw
   case rel => exact ⟨k + 1, by omega, by go_num, HS1.out, HS2.out, HS3.out, HS5.out, HS4.out⟩
   case measure => simp [intOf]; omega
  ·obtain rfl : k = 8 := by omega
   clear hlt hk;have hN3 := N3.out;rw [halves3_all H I HH.out IVl.out] at hN3;obtain ⟨i4, hi4⟩ : ∃ i, i = (0x510e527f : UInt32) := ⟨_, rfl⟩;obtain ⟨i5, hi5⟩ : ∃ i, i = (0x9b05688c : UInt32) := ⟨_, rfl⟩;obtain ⟨i6, hi6⟩ : ∃ i, i = (0x1f83d9ab : UInt32) := ⟨_, rfl⟩;obtain ⟨i7, hi7⟩ : ∃ i, i = (0x5be0cd19 : UInt32) := ⟨_, rfl⟩;have hI := hIV.out;have hGG := hG.out;rw [<- hi4, <- hi5, <- hi6, <- hi7] at hI;rw [<- hi4, <- hi5, <- hi6, <- hi7] at hGG;clear hIV hG hi4 hi5 hi6 hi7 hiv;obtain ⟨V, hV⟩ : ∃ V, V = H ++ I := ⟨_, rfl⟩;rw [<- hV] at hN3 hGG;have hVl : V.length = 16 := by rw [hV, List.length_append, HH.out, IVl.out]
   have c12 : wr.cell? ⟨g3, 12, none⟩ = some (.int .u32 (wr3 i4)) := by rw [hN3.cell, wc3_at' V 12 i4 (by rw [hV, aZV (by rw [HH.out]; omega), HH.out, hI]; rfl)]
   have c13 : wr.cell? ⟨g3, 13, none⟩ = some (.int .u32 (wr3 i5)) := by rw [hN3.cell, wc3_at' V 13 i5 (by rw [hV, aZV (by rw [HH.out]; omega), HH.out, hI]; rfl)]
   have c14 : wr.cell? ⟨g3, 14, none⟩ = some (.int .u32 (wr3 i6)) := by rw [hN3.cell, wc3_at' V 14 i6 (by rw [hV, aZV (by rw [HH.out]; omega), HH.out, hI]; rfl)]
   have c15 : wr.cell? ⟨g3, 15, none⟩ = some (.int .u32 (wr3 i7)) := by rw [hN3.cell, wc3_at' V 15 i7 (by rw [hV, aZV (by rw [HH.out]; omega), HH.out, hI]; rfl)]
   have ff : ∀ i, wr.frozen? ⟨g3, i, none⟩ = false := hN3.frozen;have h2 := wr3_xor;have HV := zH hVl; have HGG := zH hGG; clear hV hVl hI hGG IVl sI aI hoI;have h3 := wr3_not';have z12 := hN3.set_ 12 (wv3 (i4 ^^^ lo));rw [wc3_set] at z12;have z13 := z12.set_ 13 (wv3 (i5 ^^^ hi));rw [wc3_set] at z13;have z14 := z13.set_ 14 (wv3 (~~~ i6));rw [wc3_set] at z14;have z15 := z13.set_ 15 (wv3 (~~~ i7));rw [wc3_set] at z15;have z16 := z14.set_ 15 (wv3 (~~~ i7));rw [wc3_set] at z16;have Z13 := zH z13; have Z14 := zH z14; have Z15 := zH z15; have Z16 := zH z16; clear z12 z13 z14 z15 z16;have hlr : Hid (w.heap.size <= g3) := by show _ <= _; have := l0.out; omega
   have hw13 := bput (bput N4 (p := ⟨g3, 12, none⟩) hlr.out (wv3 (i4 ^^^ lo))) (p := ⟨g3, 13, none⟩) hlr.out (wv3 (i5 ^^^ hi));have hl2 : Hid (w.heap.size <= g2) := by show _ <= _; have := l0.out; omega
   have y2 := (N2.far (p := ⟨g3, 12, none⟩) (by simp; omega) (wv3 (i4 ^^^ lo))).far (p := ⟨g3, 13, none⟩) (by simp; omega) (wv3 (i5 ^^^ hi));have Y2 := zH y2; have HW := zH hw13; have hg23 : g2 ≠ g3 := by omega
   clear y2 hw13 N1 N2 N3 N4 N5 hN3;have hu := zH Tryz.underlying140;have hsz : Hid (∀ L : List UInt32, L.length = 16 -> (Tryz.prog.info? 140).map (·.size) = some (wc3 L).size) := sz16s;have hall := zH wc3_all;have hold : Hid (∀ L : List UInt32, L.length = 16 -> (wc3 (zw3 16)).size = (wc3 L).size) := fun L h => by rw [wc3_size, wc3_size, h]; rfl
   cases last <;> cases node
   ·have hg := HGG.out
    simp only [bZQ, if_false] at hg;have HG2 := zH hg; clear hg;have hl : Hid (G.length = 16) := by show _ = _; rw [HG2.out]; simp [HV.out]
    have hz : Hid (Blk ((wr.setCell ⟨g3, 12, none⟩ (.int .u32 (wr3 (i4 ^^^ lo)))).setCell ⟨g3, 13, none⟩ (.int .u32 (wr3 (i5 ^^^ hi)))) g3 140 (wc3 G)) := by show Blk _ _ _ _; rw [HG2.out]; exact Z13.out
    have hy : Hid (Blk ((wr.setCell ⟨g3, 12, none⟩ (.int .u32 (wr3 (i4 ^^^ lo)))).setCell ⟨g3, 13, none⟩ (.int .u32 (wr3 (i5 ^^^ hi)))) g2 140 (wc3 (zw3 16))) := Y2.out;have hx : Hid (Below w.heap.size w ((wr.setCell ⟨g3, 12, none⟩ (.int .u32 (wr3 (i4 ^^^ lo)))).setCell ⟨g3, 13, none⟩ (.int .u32 (wr3 (i5 ^^^ hi))))) := HW.out;go_upto_region 14 with fail
    go_wp2_with (first
     | (refine aZH rfl 140 _ rfl g3 rfl 140 (wc3 G) (0, 0) _ hz.out hu.out rfl (hsz.out G hl.out) ?_)
     | (refine aZE rfl 140 _ _ rfl g2 (wc3 G) rfl rfl 140 _ hy.out (hsz.out G hl.out) (hold.out G hl.out) (hall.out G) ?_))
    exact aZB (aZZ rfl _ _ g2 _ _ (0, 0) _ rfl (hy.row _) hu.out rfl (hsz.out G hl.out)) rfl ⟨rfl, brow hx.out hl2.out _⟩
   ·have hg := HGG.out
    simp only [bZQ, if_false, if_true] at hg;have HG2 := zH hg; clear hg;have hl : Hid (G.length = 16) := by show _ = _; rw [HG2.out]; simp [HV.out]
    have hz : Hid (Blk (((wr.setCell ⟨g3, 12, none⟩ (.int .u32 (wr3 (i4 ^^^ lo)))).setCell ⟨g3, 13, none⟩ (.int .u32 (wr3 (i5 ^^^ hi)))).setCell ⟨g3, 15, none⟩ (.int .u32 (wr3 (~~~ i7)))) g3 140 (wc3 G)) := by show Blk _ _ _ _; rw [HG2.out]; exact Z15.out
    have hy : Hid (Blk (((wr.setCell ⟨g3, 12, none⟩ (.int .u32 (wr3 (i4 ^^^ lo)))).setCell ⟨g3, 13, none⟩ (.int .u32 (wr3 (i5 ^^^ hi)))).setCell ⟨g3, 15, none⟩ (.int .u32 (wr3 (~~~ i7)))) g2 140 (wc3 (zw3 16))) := (Y2.out).far (p := ⟨g3, 15, none⟩) (by simp; omega) _;have hx : Hid (Below w.heap.size w (((wr.setCell ⟨g3, 12, none⟩ (.int .u32 (wr3 (i4 ^^^ lo)))).setCell ⟨g3, 13, none⟩ (.int .u32 (wr3 (i5 ^^^ hi)))).setCell ⟨g3, 15, none⟩ (.int .u32 (wr3 (~~~ i7))))) := bput (HW) (p := ⟨g3, 15, none⟩) hlr.out _;go_upto_region 14 with fail
    go_wp2_with (first
     | (refine aZH rfl 140 _ rfl g3 rfl 140 (wc3 G) (0, 0) _ hz.out hu.out rfl (hsz.out G hl.out) ?_)
     | (refine aZE rfl 140 _ _ rfl g2 (wc3 G) rfl rfl 140 _ hy.out (hsz.out G hl.out) (hold.out G hl.out) (hall.out G) ?_))
    exact aZB (aZZ rfl _ _ g2 _ _ (0, 0) _ rfl (hy.row _) hu.out rfl (hsz.out G hl.out)) rfl ⟨rfl, brow hx.out hl2.out _⟩
   ·have hg := HGG.out
    simp only [bZQ, if_false, if_true] at hg;have HG2 := zH hg; clear hg;have hl : Hid (G.length = 16) := by show _ = _; rw [HG2.out]; simp [HV.out]
    have hz : Hid (Blk (((wr.setCell ⟨g3, 12, none⟩ (.int .u32 (wr3 (i4 ^^^ lo)))).setCell ⟨g3, 13, none⟩ (.int .u32 (wr3 (i5 ^^^ hi)))).setCell ⟨g3, 14, none⟩ (.int .u32 (wr3 (~~~ i6)))) g3 140 (wc3 G)) := by show Blk _ _ _ _; rw [HG2.out]; exact Z14.out
    have hy : Hid (Blk (((wr.setCell ⟨g3, 12, none⟩ (.int .u32 (wr3 (i4 ^^^ lo)))).setCell ⟨g3, 13, none⟩ (.int .u32 (wr3 (i5 ^^^ hi)))).setCell ⟨g3, 14, none⟩ (.int .u32 (wr3 (~~~ i6)))) g2 140 (wc3 (zw3 16))) := (Y2.out).far (p := ⟨g3, 14, none⟩) (by simp; omega) _;have hx : Hid (Below w.heap.size w (((wr.setCell ⟨g3, 12, none⟩ (.int .u32 (wr3 (i4 ^^^ lo)))).setCell ⟨g3, 13, none⟩ (.int .u32 (wr3 (i5 ^^^ hi)))).setCell ⟨g3, 14, none⟩ (.int .u32 (wr3 (~~~ i6))))) := bput (HW) (p := ⟨g3, 14, none⟩) hlr.out _;go_upto_region 14 with fail
    go_wp2_with (first
     | (refine aZH rfl 140 _ rfl g3 rfl 140 (wc3 G) (0, 0) _ hz.out hu.out rfl (hsz.out G hl.out) ?_)
     | (refine aZE rfl 140 _ _ rfl g2 (wc3 G) rfl rfl 140 _ hy.out (hsz.out G hl.out) (hold.out G hl.out) (hall.out G) ?_))
    exact aZB (aZZ rfl _ _ g2 _ _ (0, 0) _ rfl (hy.row _) hu.out rfl (hsz.out G hl.out)) rfl ⟨rfl, brow hx.out hl2.out _⟩
   ·have hg := HGG.out
    simp only [if_true] at hg;have HG2 := zH hg; clear hg;have hl : Hid (G.length = 16) := by show _ = _; rw [HG2.out]; simp [HV.out]
    have hz : Hid (Blk ((((wr.setCell ⟨g3, 12, none⟩ (.int .u32 (wr3 (i4 ^^^ lo)))).setCell ⟨g3, 13, none⟩ (.int .u32 (wr3 (i5 ^^^ hi)))).setCell ⟨g3, 14, none⟩ (.int .u32 (wr3 (~~~ i6)))).setCell ⟨g3, 15, none⟩ (.int .u32 (wr3 (~~~ i7)))) g3 140 (wc3 G)) := by show Blk _ _ _ _; rw [HG2.out]; exact Z16.out
    have hy : Hid (Blk ((((wr.setCell ⟨g3, 12, none⟩ (.int .u32 (wr3 (i4 ^^^ lo)))).setCell ⟨g3, 13, none⟩ (.int .u32 (wr3 (i5 ^^^ hi)))).setCell ⟨g3, 14, none⟩ (.int .u32 (wr3 (~~~ i6)))).setCell ⟨g3, 15, none⟩ (.int .u32 (wr3 (~~~ i7)))) g2 140 (wc3 (zw3 16))) := ((Y2.out).far (p := ⟨g3, 14, none⟩) (by simp; omega) _).far (p := ⟨g3, 15, none⟩) (by simp; omega) _;have hx : Hid (Below w.heap.size w ((((wr.setCell ⟨g3, 12, none⟩ (.int .u32 (wr3 (i4 ^^^ lo)))).setCell ⟨g3, 13, none⟩ (.int .u32 (wr3 (i5 ^^^ hi)))).setCell ⟨g3, 14, none⟩ (.int .u32 (wr3 (~~~ i6)))).setCell ⟨g3, 15, none⟩ (.int .u32 (wr3 (~~~ i7))))) := bput (bput (HW) (p := ⟨g3, 14, none⟩) hlr.out _) (p := ⟨g3, 15, none⟩) hlr.out _;go_upto_region 14 with fail
    go_wp2_with (first
     | (refine aZH rfl 140 _ rfl g3 rfl 140 (wc3 G) (0, 0) _ hz.out hu.out rfl (hsz.out G hl.out) ?_)
     | (refine aZE rfl 140 _ _ rfl g2 (wc3 G) rfl rfl 140 _ hy.out (hsz.out G hl.out) (hold.out G hl.out) (hall.out G) ?_))
    exact aZB (aZZ rfl _ _ g2 _ _ (0, 0) _ rfl (hy.row _) hu.out rfl (hsz.out G hl.out)) rfl ⟨rfl, brow hx.out hl2.out _⟩
theorem r4End_any (H R : List UInt32) (w : World) (hH : H.length = 8) (hR : R.length = 16) :
  Calls Tryz.prog 99 #[.agg (wc3 H), .agg (wc3 R)] w fun e w' => e = .returned (.agg (wc3 (outOf3 H R))) /\ Below w.heap.size w w' := by
 obtain ⟨F, hF⟩ : ∃ F, F = outOf3 H R := ⟨_, rfl⟩;have hFl : F.length = 8 := by rw [hF, outOf3_len]
 rw [<- hF];have HH := zH hH; have HRl := zH hR; have HFl := zH hFl; have HF := zH hF; clear hH hR hFl hF;have hu8 := zH Tryz.underlying130;have sF := zH (sz8s F HFl);have aF := zH (wc3_all F);have hoF : Hid ((wc3 (zw3 8)).size = (wc3 F).size) := by show _ = _; rw [wc3_size, wc3_size, HFl.out]; rfl
 go_enter Tryz.func99, Tryz.ntmps99;go_upto_region 1 with fail
 have n0 : Blk (((w.alloc (.cells (wc3 H) 130)).alloc (.cells (wc3 R) 140)).alloc (.cells z8s 130)) w.heap.size 130 (wc3 H) := ((Blk.new _ _ _).alloc _).alloc _;have n6 : Blk (((w.alloc (.cells (wc3 H) 130)).alloc (.cells (wc3 R) 140)).alloc (.cells z8s 130)) (w.heap.size + 1) 140 (wc3 R) := by
  have := (Blk.new (w.alloc (.cells (wc3 H) 130)) 140 (wc3 R)).alloc (.cells z8s 130); simpa using this
 have n3 : Blk (((w.alloc (.cells (wc3 H) 130)).alloc (.cells (wc3 R) 140)).alloc (.cells z8s 130)) (w.heap.size + 1 + 1) 130 (wc3 (zw3 8)) := by
  have := Blk.new ((w.alloc (.cells (wc3 H) 130)).alloc (.cells (wc3 R) 140)) 130 z8s; show Blk _ _ _ z8s; simpa using this
 have n4 := bal (bal (bal (b0 w) (.cells (wc3 H) 130)) (.cells (wc3 R) 140)) (.cells z8s 130);obtain ⟨g0, hg0⟩ : ∃ g, g = w.heap.size := ⟨_, rfl⟩;obtain ⟨g6, hg6⟩ : ∃ g, g = w.heap.size + 1 := ⟨_, rfl⟩;obtain ⟨g3, hg3⟩ : ∃ g, g = w.heap.size + 1 + 1 := ⟨_, rfl⟩;unfold z8s at n0 n6 n3 n4;rw [<- hg0] at n0; rw [<- hg6] at n6; rw [<- hg3] at n3;rw [<- hg3, <- hg6, <- hg0];generalize ((w.alloc (.cells (wc3 H) 130)).alloc (.cells (wc3 R) 140)).alloc (.cells #[.int .u32 0, .int .u32 0, .int .u32 0, .int .u32 0, .int .u32 0, .int .u32 0, .int .u32 0, .int .u32 0] 130) = w4 at *;have l06 : g0 < g6 := by omega
 have l63 : g6 < g3 := by omega
 have l0 : Hid (w.heap.size <= g0) := by show _ <= _; omega
 have N0 := zH n0; have N6 := zH n6; have N3 := zH n3; have N4 := zH n4;clear n0 n6 n3 n4 hg0 hg6 hg3;go_wp2_with fail;go_loopw [5] (fun i wr => ∃ k : Nat, k <= 8 /\ i = .int .i64 k /\ Blk wr g0 130 (wc3 (half3 F H k)) /\ Blk wr g6 140 (wc3 R) /\ Blk wr g3 130 (wc3 (zw3 8)) /\ Below w.heap.size w wr) (fun i _ => 8 - (intOf i).toNat)
 case atStart => exact ⟨0, by omega, rfl, by simpa [half3] using N0.out, N6.out, N3.out, N4.out⟩
 case round =>
  clear N0 N3 N4 N6;obtain ⟨k, hk, rfl, x0, x6, x3, x4⟩ := hrel;have N0 := zH x0; have N3 := zH x3; have N4 := zH x4; have N6 := zH x6; clear x0 x3 x4 x6
  by_cases hlt : k < 8
  ·have eF := outOf3_at H R k hlt
   rw [<- HF.out, <- UInt32.xor_assoc] at eF;obtain ⟨k8, hk8⟩ : ∃ k8, k8 = k + 8 := ⟨_, rfl⟩;rw [<- hk8] at eF;have e8 : (k : Int) + 8 = (k8 : Int) := by omega
   have w8' : IntKind.i64.wrap (k8 : Int) = k8 := by simp [aZU, aZR, aZM]; omega
   obtain ⟨p, hp⟩ : ∃ p, p = H.getD k 0 := ⟨_, rfl⟩;obtain ⟨q, hq⟩ : ∃ q, q = R.getD k 0 := ⟨_, rfl⟩;obtain ⟨r, hr⟩ : ∃ r, r = R.getD k8 0 := ⟨_, rfl⟩;have c0 : wr.cell? ⟨g0, k, none⟩ = some (.int .u32 (wr3 p)) := by rw [N0.cell, wc3_at' _ k p (by rw [hp]; exact half3_at F H k (by rw [HH.out]; exact hlt) (by rw [HH.out, HFl.out]))]
   have c1 : wr.cell? ⟨g6, k, none⟩ = some (.int .u32 (wr3 q)) := by rw [N6.cell, wc3_at' _ k q (by rw [hq]; exact getD3 R k (by rw [HRl.out]; omega))]
   have c2 : wr.cell? ⟨g6, k8, none⟩ = some (.int .u32 (wr3 r)) := by rw [N6.cell, wc3_at' _ k8 r (by rw [hr]; exact getD3 R k8 (by rw [HRl.out]; omega))]
   have cf : wr.frozen? ⟨g0, k, none⟩ = false := N0.frozen k;rw [<- hp, <- hq, <- hr] at eF;have EF := zH eF; clear eF hp hq hr;have h2 := wr3_xor;have hki : (k : Int) < 8 := by omega
   have hk8i : (k8 : Int) < 16 := by omega
   have hk16 : (k : Int) < 16 := by omega
   have hkd : decide ((k : Int) < 8) = true := by simp; omega
   clear hk8;go_wp2;refine wrZ (fun _ => True) (fun _ _ h => h) (Ords.of [(0, 0), (0, 1), (0, 2), (1, 3), (0, 4), (0, 5), (1, 6), (0, 7), (0, 8), (0, 9), (0, 10), (1, 11), (0, 12), (0, 13), (2, 14)] .fin) trivial ?_
   iterate 14 ((first | refine ords_pure rfl (fun K hK => ?_) | refine ords_read rfl (fun K hK => ?_)); go_simp; refine hK _ ?_; clear hK K)
   refine ords_loud rfl (fun n1 => ?_);go_wp2
   first | (refine ⟨trivial, ?_⟩; refine ords_end (fun n2 => ?_)) | (rintro _ ⟨n2, rfl⟩)
   go_wp2_with fail;go_roundw
   case rel =>
    have h0 := ((N0.drewN n1).set_ k (wv3 (p ^^^ q ^^^ r))).drewN n2;rw [wc3_set, half3_put F H k _ EF.out (by rw [HH.out, HFl.out])] at h0;exact ⟨k + 1, by omega, by go_num, h0, ((N6.drewN n1).far (p := ⟨g0, k, none⟩) (by simp; omega) _).drewN n2, ((N3.drewN n1).far (p := ⟨g0, k, none⟩) (by simp; omega) _).drewN n2, bdr (bput (bdr N4.out n1) (p := ⟨g0, k, none⟩) l0.out _) n2⟩
   case measure => simp [intOf]; omega
  ·obtain rfl : k = 8 := by omega
   clear hlt hk;have x0 := N0.out;rw [half3_all F H 8 HFl.out HH.out] at x0;have X0 := zH x0; clear x0 N0;have hl3 : Hid (w.heap.size <= g3) := by show _ <= _; have := l0.out; omega
   go_upto_region 5 with fail
   go_wp2_with (first
    | (refine aZH rfl 130 _ rfl g0 rfl 130 (wc3 F) (0, 0) _ X0 hu8.out rfl sF.out ?_)
    | (refine aZE rfl 130 _ _ rfl g3 (wc3 F) rfl rfl 130 _ N3 sF.out hoF.out aF.out ?_))
   exact aZB (aZZ rfl _ _ g3 _ _ (0, 0) _ rfl (N3.row _) hu8.out rfl sF.out) rfl ⟨rfl, brow N4 hl3.out _⟩
theorem r4F_any (H M : List UInt32) (cnt : UInt64) (last node : Bool) (w : World) (hH : H.length = 8) (hM : M.length = 16) :
  Calls Tryz.prog 79 #[.agg (wc3 H), .agg (wc3 M), .int .u64 (wrd cnt), .bool last, .bool node] w fun e w' => e = .returned (.agg (wc3 (comp32 H M cnt last node))) /\ Below w.heap.size w w' := by
 have HH := zH hH; have HM := zH hM;have hIl := initOf3_len H (lo32 cnt) (hi32 cnt) last node hH;have hI := fun w => r4Begin_any H cnt last node w hH
 unfold comp32;generalize initOf3 H (lo32 cnt) (hi32 cnt) last node = V at *;have HI := zH hI; have HVl := zH hIl; clear hI hIl hH hM;have hu8 := zH Tryz.underlying130;have hu16 := zH Tryz.underlying140;have s8 := zH (sz8s H HH);have sM := zH (sz16s M HM);have sV := zH (sz16s V HVl);have aV := zH (wc3_all V);have holdV : Hid ((wc3 (zw3 16)).size = (wc3 V).size) := by show _ = _; rw [wc3_size, wc3_size, HVl.out]; rfl
 go_enter Tryz.func79, Tryz.ntmps79;go_upto_region 1 with fail
 have n0 : Blk (((w.alloc (.cells (wc3 H) 130)).alloc (.cells (wc3 M) 140)).alloc (.cells z8s 130)) w.heap.size 130 (wc3 H) := ((Blk.new _ _ _).alloc _).alloc _;have n1 : Blk (((w.alloc (.cells (wc3 H) 130)).alloc (.cells (wc3 M) 140)).alloc (.cells z8s 130)) (w.heap.size + 1) 140 (wc3 M) := by
  have := (Blk.new (w.alloc (.cells (wc3 H) 130)) 140 (wc3 M)).alloc (.cells z8s 130); simpa using this
 have n3 : Blk (((w.alloc (.cells (wc3 H) 130)).alloc (.cells (wc3 M) 140)).alloc (.cells z8s 130)) (w.heap.size + 1 + 1) 130 (wc3 (zw3 8)) := by
  have := Blk.new ((w.alloc (.cells (wc3 H) 130)).alloc (.cells (wc3 M) 140)) 130 z8s; show Blk _ _ _ z8s; simpa using this
 have n4 := bal (bal (bal (b0 w) (.cells (wc3 H) 130)) (.cells (wc3 M) 140)) (.cells z8s 130);obtain ⟨g0, hg0⟩ : ∃ g, g = w.heap.size := ⟨_, rfl⟩;obtain ⟨g1, hg1⟩ : ∃ g, g = w.heap.size + 1 := ⟨_, rfl⟩;obtain ⟨g3, hg3⟩ : ∃ g, g = w.heap.size + 1 + 1 := ⟨_, rfl⟩;unfold z8s at n0 n1 n3 n4;rw [<- hg0] at n0; rw [<- hg1] at n1; rw [<- hg3] at n3;rw [<- hg3, <- hg1, <- hg0];generalize ((w.alloc (.cells (wc3 H) 130)).alloc (.cells (wc3 M) 140)).alloc (.cells #[.int .u32 0, .int .u32 0, .int .u32 0, .int .u32 0, .int .u32 0, .int .u32 0, .int .u32 0, .int .u32 0] 130) = w4 at *;have l01 : g0 < g1 := by omega
 have l13 : g1 < g3 := by omega
 have l0 : Hid (w.heap.size <= g0) := by show _ <= _; omega
 have N0 := zH n0; have N1 := zH n1; have N3 := zH n3; have N4 := zH n4;clear n0 n1 n3 n4 hg0 hg1 hg3;go_wp2_with (refine aZH rfl 130 _ rfl g0 rfl 130 (wc3 H) (0, 0) _ N0 hu8.out rfl s8.out ?_);refine (HI _).mono ?_;rintro e w6 ⟨rfl, hb6⟩;replace N0 := zH (N0.below hb6 N0.lt); replace N1 := zH (N1.below hb6 N1.lt); replace N3 := zH (N3.below hb6 N3.lt); replace N4 := zH (bcall N4 hb6);have l36 : g3 < w6.heap.size := N3.lt;clear hb6;have n6 : Blk (w6.alloc (.cells z16s 140)) w6.heap.size 140 (wc3 (zw3 16)) := Blk.new _ _ _;have v0 := N0.alloc (.cells z16s 140); have v1 := N1.alloc (.cells z16s 140); have v3 := N3.alloc (.cells z16s 140); have v4 := bal N4 (.cells z16s 140);have l6 := N4.size;obtain ⟨g6, hg6⟩ : ∃ g6, g6 = w6.heap.size := ⟨_, rfl⟩;unfold z16s at n6 v0 v1 v3 v4;have N6 := zH n6; have hw6 : Hid (w.heap.size <= w6.heap.size) := l6; clear n6 l6;go_upto_region 2 with (refine aZE rfl 140 _ _ rfl w6.heap.size (wc3 V) rfl rfl 140 _ N6 sV.out holdV.out aV.out ?_)
 have n6 := N6.row (wc3 V);replace v0 := v0.rowFar (k := w6.heap.size) (by omega) (wc3 V); replace v1 := v1.rowFar (k := w6.heap.size) (by omega) (wc3 V); replace v3 := v3.rowFar (k := w6.heap.size) (by omega) (wc3 V); replace v4 := brow v4 hw6.out (wc3 V);rw [<- hg6] at n6 v0 v1 v3 v4 l36 ⊢;clear N0 N1 N3 N4 N6 sV holdV aV;generalize (w6.alloc (.cells #[.int .u32 0, .int .u32 0, .int .u32 0, .int .u32 0, .int .u32 0, .int .u32 0, .int .u32 0, .int .u32 0, .int .u32 0, .int .u32 0, .int .u32 0, .int .u32 0, .int .u32 0, .int .u32 0, .int .u32 0, .int .u32 0] 140)).setRow g6 (wc3 V) = w7 at *;have hl6 : Hid (w.heap.size <= g6) := by show _ <= _; rw [hg6]; exact hw6.out
 clear hg6 hw6;have N0 := zH v0; have N1 := zH v1; have N3 := zH v3; have N4 := zH v4; have N6 := zH n6; clear v0 v1 v3 v4 n6;go_wp2_with fail;go_loopw [12] (fun i wr => ∃ k : Nat, k <= 10 /\ i = .int .i64 k /\ Blk wr g6 140 (wc3 (roundsTo3 M k V)) /\ Blk wr g0 130 (wc3 H) /\ Blk wr g1 140 (wc3 M) /\ Blk wr g3 130 (wc3 (zw3 8)) /\ Below w.heap.size w wr) (fun i _ => 10 - (intOf i).toNat)
 case atStart => exact ⟨0, by omega, rfl, N6.out, N0.out, N1.out, N3.out, N4.out⟩
 case round =>
  clear N0 N1 N3 N4 N6;obtain ⟨k, hk, rfl, x6, x0, x1, x3, x4⟩ := hrel;have N0 := zH x0; have N1 := zH x1; have N3 := zH x3; have N4 := zH x4; have N6 := zH x6; clear x0 x1 x3 x4 x6
  by_cases hlt : k < 10
  ·have hRl : (roundsTo3 M k V).length = 16 := by rw [roundsTo3_len, HVl.out]
   have hRl1 : (roundsTo3 M (k + 1) V).length = 16 := by rw [roundsTo3_len, HVl.out]
   have hR := fun W => r4Round_any k (roundsTo3 M k V) M W hlt hRl HM.out
   have e : turn32 M k (roundsTo3 M k V) = roundsTo3 M (k + 1) V := rfl;rw [e] at hR;have HR := zH hR;have sR := zH (sz16s _ hRl);have sS := zH (sz16s _ hRl1);have aS := zH (wc3_all (roundsTo3 M (k + 1) V));have hoS : Hid ((wc3 (roundsTo3 M k V)).size = (wc3 (roundsTo3 M (k + 1) V)).size) := by show _ = _; rw [wc3_size, wc3_size, hRl, hRl1]
   clear hR hRl hRl1 e;have hkd : decide ((k : Int) < 10) = true := by simp; omega
   go_wp2_with (first
    | (refine aZH rfl 140 (.tmp 11) rfl g6 rfl 140 (wc3 (roundsTo3 M k V)) (0, 0) _ N6 hu16.out rfl sR.out ?_)
    | (refine aZH rfl 140 (.tmp 6) rfl g1 rfl 140 (wc3 M) (0, 0) _ N1 hu16.out rfl sM.out ?_)
    | (go_at_call 98; refine (HR _).mono ?_; rintro e w8 ⟨rfl, hb8⟩; have M6 := zH (N6.below hb8 N6.lt); have HB8 := zH hb8; clear hb8)
    | (refine aZE rfl 140 _ _ rfl g6 (wc3 (roundsTo3 M (k + 1) V)) rfl rfl 140 _ M6 sS.out hoS.out aS.out ?_))
   go_roundw
   case rel => exact ⟨k + 1, by omega, by go_num, M6.row _, (N0.below HB8.out N0.lt).rowFar (by omega) _, (N1.below HB8.out N1.lt).rowFar (by omega) _, (N3.below HB8.out N3.lt).rowFar (by omega) _, brow (bcall N4.out HB8.out) hl6.out _⟩
   case measure => simp [intOf]; omega
  ·obtain rfl : k = 10 := by omega
   clear hlt hk;have hRl : (roundsTo3 M 10 V).length = 16 := by rw [roundsTo3_len, HVl.out]
   have hE := fun W => r4End_any H (roundsTo3 M 10 V) W HH hRl
   have hFl := outOf3_len H (roundsTo3 M 10 V);have sR := zH (sz16s _ hRl);obtain ⟨F, hF⟩ : ∃ F, F = outOf3 H (roundsTo3 M 10 V) := ⟨_, rfl⟩;rw [<- hF] at hE hFl;have HE := zH hE; have HF := zH hF;have sF := zH (sz8s F hFl);have aF := zH (wc3_all F);have hoF : Hid ((wc3 (zw3 8)).size = (wc3 F).size) := by show _ = _; rw [wc3_size, wc3_size, hFl]; rfl
   have hl3 : Hid (w.heap.size <= g3) := by show _ <= _; have := l0.out; omega
   clear hE hFl hRl hF;go_upto_region 6 with fail
   go_wp2_with (first
    | (refine aZH rfl 130 (.tmp 5) rfl g0 rfl 130 (wc3 H) (0, 0) _ N0 hu8.out rfl s8.out ?_)
    | (refine aZH rfl 140 (.tmp 11) rfl g6 rfl 140 (wc3 (roundsTo3 M 10 V)) (0, 0) _ N6 hu16.out rfl sR.out ?_)
    | (go_at_call 99; refine (HE _).mono ?_; rintro e w8 ⟨rfl, hb8⟩; have M3 := zH (N3.below hb8 N3.lt); have HB8 := zH hb8; clear hb8)
    | (refine aZE rfl 130 _ _ rfl g3 (wc3 F) rfl rfl 130 _ M3 sF.out hoF.out aF.out ?_))
   rw [<- HF.out];exact aZB (aZZ rfl _ _ g3 _ _ (0, 0) _ rfl (M3.row _) hu8.out rfl sF.out) rfl ⟨rfl, brow (bcall N4 HB8) hl3.out _⟩
theorem r4Words_any (A : Option Addr) (c : Nat) (x : List UInt8) (w : World) (hx : x.length = 64) (hr : RS cB w w.heap.size A x) :
  Calls Tryz.prog 78 #[.slice A 64 c] w fun e w' => e = .returned (.tuple #[.agg (wc3 (words3 x 16)), .int .i64 0]) /\ Below w.heap.size w w' := by
 have HX := zH hx; have HR := zH hr; clear hx hr;obtain ⟨M, hM⟩ : ∃ M, M = words3 x 16 := ⟨_, rfl⟩;have hMl : M.length = 16 := by rw [hM, words3_len]
 rw [<- hM];have HM := zH hM; have HML := zH hMl; clear hM hMl;have hu := zH Tryz.underlying140;have sM := zH (sz16s M HML);have aM := zH (wc3_all M);have hoM : Hid ((wc3 (fill3 M 0 16)).size = (wc3 M).size) := by show _ = _; rw [wc3_size, wc3_size, fill3_len _ _ _ (by omega) HML.out, HML.out]
 have e0 : wc3 (fill3 M 0 16) = z16s := rfl;go_enter Tryz.func78, Tryz.ntmps78;go_upto_region 2 with fail
 have n0 : Blk ((w.alloc (.cells z16s 140)).alloc (.cells z16s 140)) w.heap.size 140 (wc3 (fill3 M 0 16)) := by rw [e0]; exact (Blk.new _ _ _).alloc _
 have n1 : Blk ((w.alloc (.cells z16s 140)).alloc (.cells z16s 140)) (w.heap.size + 1) 140 (wc3 (fill3 M 0 16)) := by
  rw [e0]; simpa using Blk.new (w.alloc (.cells z16s 140)) 140 z16s
 have n4 := bal (bal (b0 w) (.cells z16s 140)) (.cells z16s 140);clear e0;unfold z16s at n0 n1 n4;obtain ⟨b, hb⟩ : ∃ b, b = w.heap.size := ⟨_, rfl⟩;rw [<- hb] at n0 n1 ⊢;generalize (w.alloc (.cells #[.int .u32 0, .int .u32 0, .int .u32 0, .int .u32 0, .int .u32 0, .int .u32 0, .int .u32 0, .int .u32 0, .int .u32 0, .int .u32 0, .int .u32 0, .int .u32 0, .int .u32 0, .int .u32 0, .int .u32 0, .int .u32 0] 140)).alloc (.cells #[.int .u32 0, .int .u32 0, .int .u32 0, .int .u32 0, .int .u32 0, .int .u32 0, .int .u32 0, .int .u32 0, .int .u32 0, .int .u32 0, .int .u32 0, .int .u32 0, .int .u32 0, .int .u32 0, .int .u32 0, .int .u32 0] 140) = w0 at *;have N0 := zH n0; have N1 := zH n1; have N4 := zH n4; have hwb : Hid (w.heap.size <= b) := by (show _ <= _; omega)
 clear n0 n1 n4 hb;go_wp2_with fail;go_loopw [5] (fun i wr => ∃ k : Nat, k <= 16 /\ i = .int .i64 k /\ Blk wr b 140 (wc3 (fill3 M 0 16)) /\ Blk wr (b + 1) 140 (wc3 (fill3 M k 16)) /\ Below w.heap.size w wr) (fun i _ => 16 - (intOf i).toNat)
 case atStart => exact ⟨0, by omega, rfl, N0.out, N1.out, N4.out⟩
 case round =>
  clear N0 N1 N4;obtain ⟨k, hk, rfl, x0, x1, x4⟩ := hrel;have N0 := zH x0; have N1 := zH x1; have N4 := zH x4; clear x0 x1 x4
  by_cases hlt : k < 16
  ·have hl := r4load_any A c 64 (4 * k) w.heap.size x wr HX.out (by omega) (HR.below N4.out) (by omega)
   have e8 : ((4 * k : Nat) : Int) = 4 * (k : Int) := by omega
   rw [e8] at hl;obtain ⟨v, hv⟩ : ∃ v, v = word3 ((x.drop (4 * k)).take 4) := ⟨_, rfl⟩;have hmk : M[k]? = some v := by rw [HM.out, words3_at x 16 k hlt, hv]
   rw [<- hv] at hl;have HL := zH hl; have HMK := zH hmk; clear hl hv e8 hmk;have hki : (k : Int) < 16 := by omega
   have hkd : decide ((k : Int) < 16) = true := by simp; omega
   go_wp2_with (go_at_call 96; refine HL.mono ?_; rintro e w4 ⟨rfl, hb4⟩; have n1 := N1.below hb4 N1.lt; have gc : w4.cell? ⟨b + 1, k, none⟩ = some (wv3 ((fill3 M k 16).getD k 0)) := (n1.cell k).trans (wc3_get _ _ (by rw [fill3_len _ _ _ hk HML.out]; exact hlt)); have gf : w4.frozen? ⟨b + 1, k, none⟩ = false := n1.frozen k; generalize wv3 ((fill3 M k 16).getD k 0) = old at gc; have N1' := zH n1; have HB4 := zH hb4; clear n1 hb4);go_roundw
   case rel =>
    have h1 := N1'.set_ k (wv3 v);rw [fill3_put _ k 16 v hlt HML.out HMK.out] at h1;exact ⟨k + 1, by omega, by go_num, (N0.below HB4.out N0.lt).far (p := ⟨b + 1, k, none⟩) (by simp) _, h1, bput (bcall N4.out HB4.out) (p := ⟨b + 1, k, none⟩) (by have := hwb.out; simp; omega) _⟩
   case measure => simp [intOf]; omega
  ·obtain rfl : k = 16 := by omega
   clear hlt hk;have x1 := N1.out;rw [fill3_all _ 16 HML.out] at x1;have X1 := zH x1; clear x1 N1;go_upto_region 10 with fail
   go_wp2_with (first
    | (refine aZH rfl 140 _ rfl (b + 1) rfl 140 (wc3 M) (0, 0) _ X1 hu.out rfl sM.out ?_)
    | (refine aZE rfl 140 _ _ rfl b (wc3 M) rfl rfl 140 _ N0 sM.out hoM.out aM.out ?_))
   exact aZB (results_cell_tmp rfl _ _ b _ _ _ rfl (N0.row _) hu.out rfl sM.out) rfl ⟨rfl, brow N4 hwb.out _⟩
theorem r4Start_any (A : Option Addr) (c : Nat) (x : List UInt8) (w : World) (hx : x.length = 32) (hr : RS cB w w.heap.size A x) :
  Calls Tryz.prog 88 #[.slice A 32 c] w fun e w' => e = .returned (.tuple #[.agg (wc3 (start32 x)), .int .i64 0]) /\ Below w.heap.size w w' := by
 have HX := zH hx; have HR := zH hr; clear hx hr;obtain ⟨S, hS⟩ : ∃ S, S = start32 x := ⟨_, rfl⟩;have hSl : S.length = 8 := by rw [hS, start32_len]
 have hSk : ∀ k, k < 8 -> S[k]? = some (iv32.getD k 0 ^^^ word3 ((x.drop (4 * k)).take 4)) := by
  intro k hk;rw [hS];exact xor3W_at iv32 (words3 x 8) k _ _ (getD3 iv32 k hk) (words3_at x 8 k hk)
 rw [<- hS];have hiv := r4IV_any;have hil : iv32.length = 8 := rfl;generalize iv32 = I at *;have HSK := zH hSk; have HSL := zH hSl; have HIV := zH hiv; have HIL := zH hil; clear hS hSl hSk hiv hil;have hu := zH Tryz.underlying130;have sS := zH (sz8s S HSL);have aS := zH (wc3_all S);have sI := zH (sz8s I HIL);have aI := zH (wc3_all I);have hoI : Hid ((wc3 (fill3 S 0 8)).size = (wc3 I).size) := by show _ = _; rw [wc3_size, wc3_size, fill3_len _ _ _ (by omega) HSL.out, HIL.out]
 have e0 : wc3 (fill3 S 0 8) = z8s := rfl;have hoS : Hid ((wc3 (fill3 S 0 8)).size = (wc3 S).size) := by show _ = _; rw [wc3_size, wc3_size, fill3_len _ _ _ (by omega) HSL.out, HSL.out]
 go_enter Tryz.func88, Tryz.ntmps88;go_upto_region 2 with fail
 have n0 : Blk ((w.alloc (.cells z8s 130)).alloc (.cells z8s 130)) w.heap.size 130 (wc3 (fill3 S 0 8)) := by rw [e0]; exact (Blk.new _ _ _).alloc _
 have n1 : Blk ((w.alloc (.cells z8s 130)).alloc (.cells z8s 130)) (w.heap.size + 1) 130 (wc3 (fill3 S 0 8)) := by
  rw [e0]; simpa using Blk.new (w.alloc (.cells z8s 130)) 130 z8s
 have n4 := bal (bal (b0 w) (.cells z8s 130)) (.cells z8s 130);clear e0;unfold z8s at n0 n1 n4;obtain ⟨b, hb⟩ : ∃ b, b = w.heap.size := ⟨_, rfl⟩;rw [<- hb] at n0 n1 ⊢;generalize (w.alloc (.cells #[.int .u32 0, .int .u32 0, .int .u32 0, .int .u32 0, .int .u32 0, .int .u32 0, .int .u32 0, .int .u32 0] 130)).alloc (.cells #[.int .u32 0, .int .u32 0, .int .u32 0, .int .u32 0, .int .u32 0, .int .u32 0, .int .u32 0, .int .u32 0] 130) = w0 at *;have N0 := zH n0; have N1 := zH n1; have N4 := zH n4; have hwb : Hid (w.heap.size <= b) := by (show _ <= _; omega)
 clear n0 n1 n4 hb;go_upto_region 7 with (first
  | (go_at_call 109; refine (HIV _).mono ?_; rintro e w3 ⟨rfl, hb3⟩; have M0 := zH (N0.below hb3 N0.lt); have M1 := zH (N1.below hb3 N1.lt); have M4 := zH (bcall N4 hb3); clear hb3)
  | (refine aZE rfl 130 _ _ rfl (b + 1) (wc3 I) rfl rfl 130 _ M1 sI.out hoI.out aI.out ?_))
 have h0 := M0.rowFar (k := b + 1) (by omega) (wc3 I);have h1 := M1.row (wc3 I);have h4 := brow M4.out (g := b + 1) (by have := hwb.out; omega) (wc3 I);clear N0 N1 N4 M0 M1 M4;generalize w3.setRow (b + 1) (wc3 I) = w5 at *;have N0 := zH h0; have N1 := zH h1; have N4 := zH h4; clear h0 h1 h4;go_wp2_with fail;go_loopw [5] (fun i wr => ∃ k : Nat, k <= 8 /\ i = .int .i64 k /\ Blk wr b 130 (wc3 (fill3 S 0 8)) /\ Blk wr (b + 1) 130 (wc3 (half3 S I k)) /\ Below w.heap.size w wr) (fun i _ => 8 - (intOf i).toNat)
 case atStart => exact ⟨0, by omega, rfl, N0.out, by simpa [half3] using N1.out, N4.out⟩
 case round =>
  clear N0 N1 N4;obtain ⟨k, hk, rfl, x0, x1, x4⟩ := hrel;have N0 := zH x0; have N1 := zH x1; have N4 := zH x4; clear x0 x1 x4
  by_cases hlt : k < 8
  ·have hl := fun n => r4load_any A c 32 (4 * k) w.heap.size x (wr.drewN n) HX.out (by omega) ((HR.below N4.out).drewN n) (by omega)
   have e8 : ((4 * k : Nat) : Int) = 4 * (k : Int) := by omega
   rw [e8] at hl;have hsk := HSK k hlt;obtain ⟨v, hv⟩ : ∃ v, v = word3 ((x.drop (4 * k)).take 4) := ⟨_, rfl⟩;obtain ⟨q, hq⟩ : ∃ q, q = I.getD k 0 := ⟨_, rfl⟩;rw [<- hv] at hl hsk;rw [<- hq] at hsk;have c1 : wr.cell? ⟨b + 1, k, none⟩ = some (.int .u32 (wr3 q)) := by rw [N1.cell, wc3_at' _ k q (by rw [hq]; exact half3_at S I k (by rw [HIL.out]; exact hlt) (by rw [HIL.out, HSL.out]))]
   have HL := zH hl; have HSV := zH hsk; clear hl hv e8 hsk hq;have h2 := wr3_xor;have hki : (k : Int) < 8 := by omega
   have hkd : decide ((k : Int) < 8) = true := by simp; omega
   have w4' : IntKind.i64.wrap (4 * (k : Int)) = 4 * (k : Int) := by simp [aZU, aZR, aZM]; omega
   go_wp2_with fail;refine wrZ (fun _ => True) (fun _ _ h => h) (Ords.of [(0, 0), (0, 1), (0, 2), (0, 4), (0, 5), (0, 6)] (.two 3 7 (Ords.of [(2, 7), (0, 8), (0, 9), (2, 10)] .fin) (Ords.of [(2, 3), (0, 8), (0, 9), (2, 10)] .fin))) trivial ?_
   iterate 6 (refine ords_pure rfl (fun K hK => ?_); go_simp; refine hK _ ?_; clear hK K)
   refine ords_two rfl rfl (fun n1 => ?_) (fun n1 => ?_)
   ·go_wp2
    refine ⟨trivial, ?_⟩;refine ords_loud rfl (fun n2 => ?_);go_wp2_with (go_at_call 96; refine (HL.out _).mono ?_; rintro e w4 ⟨rfl, hb4⟩; have m1 := (N1.drewN _).below hb4 (N1.drewN _).lt; have gc : w4.cell? ⟨b + 1, k, none⟩ = some (.int .u32 (wr3 q)) := by rw [m1.cell, <- N1.cell, c1]);have gf : w4.frozen? ⟨b + 1, k, none⟩ = false := m1.frozen k;have hms : ∀ n m, Blk (((w4.drewN n).setCell ⟨b + 1, k, none⟩ (wv3 (q ^^^ v))).drewN m) (b + 1) 130 (wc3 (half3 S I (k + 1))) := by
     intro n m;have h := ((m1.drewN n).set_ k (wv3 (q ^^^ v))).drewN m;rw [wc3_set, half3_put S I k _ HSV.out (by rw [HSL.out, HIL.out])] at h;exact h
    have HMS := zH hms; have HB4 := zH hb4; have M0 := zH ((N0.drewN _).below hb4 (N0.drewN _).lt); have M4 := zH (bcall (bdr N4 _) hb4);clear m1 hms hb4;refine ⟨trivial, ?_⟩
    iterate 2 (refine ords_pure rfl (fun K hK => ?_); go_simp; refine hK _ ?_; clear hK K)
    refine ords_loud rfl (fun n3 => ?_);go_wp2;refine ⟨trivial, ?_⟩;refine ords_end (fun n4 => ?_);go_wp2_with fail;go_roundw
    case rel => exact ⟨k + 1, by omega, by go_num, ((M0.drewN _).far (p := ⟨b + 1, k, none⟩) (by simp) _).drewN _, HMS.out _ _, bdr (bput (bdr M4.out _) (p := ⟨b + 1, k, none⟩) (by have := hwb.out; simp; omega) _) _⟩
    case measure => simp [intOf]; omega
   ·go_wp2_with (go_at_call 96; refine (HL.out _).mono ?_; rintro e w4 ⟨rfl, hb4⟩; have m1 := (N1.drewN _).below hb4 (N1.drewN _).lt; have gc : w4.cell? ⟨b + 1, k, none⟩ = some (.int .u32 (wr3 q)) := by rw [m1.cell, <- N1.cell, c1])
    have gf : w4.frozen? ⟨b + 1, k, none⟩ = false := m1.frozen k;have hms : ∀ n m, Blk (((w4.drewN n).setCell ⟨b + 1, k, none⟩ (wv3 (q ^^^ v))).drewN m) (b + 1) 130 (wc3 (half3 S I (k + 1))) := by
     intro n m;have h := ((m1.drewN n).set_ k (wv3 (q ^^^ v))).drewN m;rw [wc3_set, half3_put S I k _ HSV.out (by rw [HSL.out, HIL.out])] at h;exact h
    have HMS := zH hms; have HB4 := zH hb4; have M0 := zH ((N0.drewN _).below hb4 (N0.drewN _).lt); have M4 := zH (bcall (bdr N4 _) hb4);clear m1 hms hb4;refine ⟨trivial, ?_⟩;refine ords_loud rfl (fun n2 => ?_);go_wp2;refine ⟨trivial, ?_⟩
    iterate 2 (refine ords_pure rfl (fun K hK => ?_); go_simp; refine hK _ ?_; clear hK K)
    refine ords_loud rfl (fun n3 => ?_);go_wp2;refine ⟨trivial, ?_⟩;refine ords_end (fun n4 => ?_);go_wp2_with fail;go_roundw
    case rel => exact ⟨k + 1, by omega, by go_num, ((M0.drewN _).far (p := ⟨b + 1, k, none⟩) (by simp) _).drewN _, HMS.out _ _, bdr (bput (bdr M4.out _) (p := ⟨b + 1, k, none⟩) (by have := hwb.out; simp; omega) _) _⟩
    case measure => simp [intOf]; omega
  ·obtain rfl : k = 8 := by omega
   clear hlt hk;have x1 := N1.out;rw [half3_all S I 8 HSL.out HIL.out] at x1;have X1 := zH x1; clear x1 N1;go_upto_region 11 with fail
   go_wp2_with (first
    | (refine aZH rfl 130 _ rfl (b + 1) rfl 130 (wc3 S) (0, 0) _ X1 hu.out rfl sS.out ?_)
    | (refine aZE rfl 130 _ _ rfl b (wc3 S) rfl rfl 130 _ N0 sS.out hoS.out aS.out ?_))
   exact aZB (results_cell_tmp rfl _ _ b _ _ _ rfl (N0.row _) hu.out rfl sS.out) rfl ⟨rfl, brow N4 hwb.out _⟩
end Go.Proofs.YtboihcigcfmhhaaGreat

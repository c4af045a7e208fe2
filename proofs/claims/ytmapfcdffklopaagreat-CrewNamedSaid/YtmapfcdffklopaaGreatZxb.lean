/-
  Scripts that several proofs share, each the default argument of a lemma; no statement is claimed here.
-/
import Derived.BigQuiet
import Derived.ChangeMaps5
import Derived.Deep.AppendLies
import Derived.Deep.CondSized
import Derived.Deep.CutRange
import Derived.Deep.Draws
import Derived.Deep.MidRow
import Derived.Deep.OwnRows
import Derived.Deep.QuietTactic
import Derived.Deep.RegionLaw
import Derived.Deep.Slices
import Derived.Great.BuildSlice
import Derived.JoinedCond
import Derived.Laws.CopyOwn
import Derived.Laws.DeepNot64
import Derived.Laws.EntriesVeiled
import Derived.Laws.Externs
import Derived.Laws.IdiomStrings
import Derived.Laws.OwnMore
import Derived.Laws.Rows
import Derived.Lib.BufferRead
import Derived.Lib.Hide
import Derived.Maps.AppendAt
import Derived.OpenShut
import Derived.OrdersHeld
import Derived.Outline
import Derived.ProofKit
import Derived.SizedLaws
import Derived.WalkKit
import Derived.WalkLawsBesides
import Derived.WalkSpells
import Derived.WideShapes
import Derived.Test.YtmapfcdffklopaaGreatZx
set_option maxRecDepth 1000000
namespace Go.Proofs.YtmapfcdffklopaaGreat
theorem zS9 {P : Prop} (h : P := by
 have HV := zH hV; have HM := zH hM; have BV := zH hv; have BM := zH hm; clear hV hM hv hm;have hsl := sigma_len r;have hslt := sigma_lt r;have hsg := sigma_any r
 first
  |(guard_expr zA=zA;unfold turn64)
  |(unfold turn32)
 generalize sigma r = S at *;have HSL := zH hsl; have HST := zH hslt; have HSG := zH hsg; clear hsl hslt hsg;have hsz16 : Hid ((Tryz.prog.info? 254).map (·.size) = some (ics S).size) := by show _ = _; rw [ics_size, HSL.out]; kernel_rfl
 have hall16 := zH (ics_all S)
 first
  |(guard_expr zA=zA;have hpl : Hid (∀ w, Calls Tryz.prog 173 #[] w fun e w' => e = .returned (.agg plCells) /\ Below w.heap.size w w') := places_any)
  |(have hpl : Hid (∀ w, Calls Tryz.prog 175 #[] w fun e w' => e = .returned (.agg plCells) /\ Below w.heap.size w w') := places3_any)
 have hix : Hid (∀ k : Nat, k < 8 -> ∀ w, (cZA 228 (.agg plCells) (.int .i64 k)).run Tryz.prog w = .ok (plv (pls k)) w) := index_pl;generalize plCells = PL at *
 first
  |(guard_expr zA=zA;go_enter Tryz.func167, Tryz.ntmps167)
  |(go_enter Tryz.func170, Tryz.ntmps170)
 go_wp2_with fail;refine (HSG _).mono ?_;rintro e w1 ⟨rfl, hb1⟩;have q1 := zH (Blk.new w1 254 zi16);have hold : Hid (zi16.size = (ics S).size) := by show _ = _; rw [ics_size, HSL.out]; rfl
 unfold zi16 at q1 hold;go_upto_region 1 with (refine aZE rfl 254 _ _ rfl w1.heap.size (ics S) rfl rfl 254 _ q1.out hsz16.out hold.out hall16.out ?_)
 have hgv := BV.lt; have hgm := BM.lt; have hs1 := hb1.size;have v0 := ((BV.below hb1 hgv).alloc (.cells zi16 254)).rowFar (k := w1.heap.size) (by omega) (ics S);have v1 := ((BM.below hb1 hgm).alloc (.cells zi16 254)).rowFar (k := w1.heap.size) (by omega) (ics S);have v2 := q1.row (ics S);have v3 := only_of_below (brow (bal hb1 (.cells zi16 254)) hs1 (ics S)) (some gv);unfold zi16 at v0 v1 v3;obtain ⟨b, hb⟩ : ∃ b, b = w1.heap.size := ⟨_, rfl⟩;have hvb : gv < b := by omega
 have hmb : gm < b := by omega
 rw [<- hb] at v0 v1 v2 v3 ⊢;clear q1 hold hb hb1 hs1 BV BM hsz16 hall16 HSG;generalize (w1.alloc (.cells #[.int .i64 0, .int .i64 0, .int .i64 0, .int .i64 0, .int .i64 0, .int .i64 0, .int .i64 0, .int .i64 0, .int .i64 0, .int .i64 0, .int .i64 0, .int .i64 0, .int .i64 0, .int .i64 0, .int .i64 0, .int .i64 0] 254)).setRow b (ics S) = w2 at *;have BV := zH v0; have BM := zH v1; have BS := zH v2; have HG := zH v3; clear v0 v1 v2 v3;go_wp2_with fail;refine (hpl.out _).mono ?_;rintro e w3 ⟨rfl, hb3⟩;replace BV := zH (BV.below hb3 BV.lt); replace BM := zH (BM.below hb3 BM.lt); replace BS := zH (BS.below hb3 BS.lt);replace HG : Hid (w.grownBy w3 (some gv)) := grown_below HG hb3;go_wp2_with fail
 first
  |(guard_expr zA=zA;go_loopw [12] (fun i wr => ∃ k : Nat, k <= 8 /\ i = .int .i64 k /\ Blk wr gv 97 (wcs (turnTo64 M S k V)) /\ Blk wr gm 97 (wcs M) /\ Blk wr b 254 (ics S) /\ w.grownBy wr (some gv)) (fun i _ => 8 - (intOf i).toNat))
  |(go_loopw [12] (fun i wr => ∃ k : Nat, k <= 8 /\ i = .int .i64 k /\ Blk wr gv 155 (wc3 (turnTo32 M S k V)) /\ Blk wr gm 155 (wc3 M) /\ Blk wr b 254 (ics S) /\ w.grownBy wr (some gv)) (fun i _ => 8 - (intOf i).toNat))
 case atStart => exact ⟨0, by omega, rfl, BV.out, BM.out, BS.out, HG.out⟩
 case round =>
  clear BV BM BS HG hb3;obtain ⟨k, hk, rfl, x0, x1, x2, x3⟩ := hrel;have BV := zH x0; have BM := zH x1; have BS := zH x2; have HG := zH x3; clear x0 x1 x2 x3
  by_cases hlt : k < 8
  ·have hidx := hix.out k hlt
   have hok := pls_ok k hlt
   first
    |(guard_expr zA=zA
      have hturn : turnTo64 M S (k + 1) V = (pls k).lay (turnTo64 M S k V) (gm64 ((pls k).get 0 (turnTo64 M S k V)) (M.getD (S.getD (2 * k) 0) 0) (M.getD (S.getD (2 * k + 1) 0) 0)) := rfl;have hTl : (turnTo64 M S k V).length = 16 := by rw [turnTo64_len, HV.out])
    |(have hturn : turnTo32 M S (k + 1) V = (pls k).lay (turnTo32 M S k V) (gm32 ((pls k).get 0 (turnTo32 M S k V)) (M.getD (S.getD (2 * k) 0) 0) (M.getD (S.getD (2 * k + 1) 0) 0)) := rfl
      have hTl : (turnTo32 M S k V).length = 16 := by rw [turnTo32_len, HV.out])
   obtain ⟨i2, hi2⟩ : ∃ i2, i2 = 2 * k := ⟨_, rfl⟩;obtain ⟨i3, hi3⟩ : ∃ i3, i3 = 2 * k + 1 := ⟨_, rfl⟩;rw [<- hi3, <- hi2] at hturn;have e2 : 2 * (k : Int) = (i2 : Int) := by omega
   have e3 : (i2 : Int) + 1 = (i3 : Int) := by omega
   have l2 : i2 < 16 := by omega
   have l3 : i3 < 16 := by omega
   obtain ⟨s2, hs2⟩ : ∃ s, s = S.getD i2 0 := ⟨_, rfl⟩;obtain ⟨s3, hs3⟩ : ∃ s, s = S.getD i3 0 := ⟨_, rfl⟩;have ls2 : s2 < 16 := by rw [hs2]; exact HST.out i2 l2
   have ls3 : s3 < 16 := by rw [hs3]; exact HST.out i3 l3
   have c2 : wr.cell? ⟨b, i2, none⟩ = some (.int .i64 s2) := by rw [BS.cell, ics_get S i2 (by rw [HSL.out]; exact l2), hs2]; rfl
   have c3 : wr.cell? ⟨b, i3, none⟩ = some (.int .i64 s3) := by rw [BS.cell, ics_get S i3 (by rw [HSL.out]; exact l3), hs3]; rfl
   rw [<- hs2, <- hs3] at hturn;obtain ⟨x, hx⟩ : ∃ x, x = M.getD s2 0 := ⟨_, rfl⟩;obtain ⟨y, hy⟩ : ∃ y, y = M.getD s3 0 := ⟨_, rfl⟩
   first
    |(guard_expr zA=zA
      have m2 : wr.cell? ⟨gm, s2, none⟩ = some (.int .u64 (wrd x)) := by rw [BM.cell, wcs_get M s2 (by rw [HM.out]; exact ls2), hx]; rfl
      have m3 : wr.cell? ⟨gm, s3, none⟩ = some (.int .u64 (wrd y)) := by rw [BM.cell, wcs_get M s3 (by rw [HM.out]; exact ls3), hy]; rfl)
    |(have m2 : wr.cell? ⟨gm, s2, none⟩ = some (.int .u32 (wr3 x)) := by rw [BM.cell, wc3_get M s2 (by rw [HM.out]; exact ls2), hx]; rfl
      have m3 : wr.cell? ⟨gm, s3, none⟩ = some (.int .u32 (wr3 y)) := by rw [BM.cell, wc3_get M s3 (by rw [HM.out]; exact ls3), hy]; rfl)
   rw [<- hx, <- hy] at hturn;obtain ⟨p, hp⟩ : ∃ p, p = pls k := ⟨_, rfl⟩;rw [<- hp] at hidx hok hturn;obtain ⟨pa, pb, pc, pd⟩ := p;unfold plv at hidx;dsimp only at hidx;have HT := zH hturn; have HOK := zH hok; have HTL := zH hTl;clear hturn hok hTl hi2 hi3 hs2 hs3 hx hy hp;have j2 : (i2 : Int) < 16 := by omega
   have j3 : (i3 : Int) < 16 := by omega
   have j4 : (s2 : Int) < 16 := by omega
   have j5 : (s3 : Int) < 16 := by omega
   have hkd : decide ((k : Int) < 8) = true := by simp; omega
   have w2' : IntKind.i64.wrap (i2 : Int) = i2 := by simp [aZU, aZR, aZM]; omega
   have w3' : IntKind.i64.wrap (i3 : Int) = i3 := by simp [aZU, aZR, aZM]; omega
   have hbs : b < wr.heap.size := BS.lt;have hgs : gm < wr.heap.size := BM.lt;go_upto_region 4 with fail
   first
    |(guard_expr zA=zA
      have hpp : Hid (∀ W, Blk W gv 97 (wcs (turnTo64 M S k V)) -> Calls Tryz.prog 174 #[.pointer (some ⟨gv, 0, none⟩), .agg #[.int .i64 pa, .int .i64 pb, .int .i64 pc, .int .i64 pd], .int .u64 (wrd x), .int .u64 (wrd y)] W fun e w' => e = .returned (.tuple #[]) /\ Blk w' gv 97 (wcs (turnTo64 M S (k + 1) V)) /\ W.grownBy w' (some gv)) := by
       show ∀ W, _
       intro W hW;rw [HT.out];exact step_any gv ⟨pa, pb, pc, pd⟩ _ x y W HOK HTL hW)
    |(have hpp : Hid (∀ W, Blk W gv 155 (wc3 (turnTo32 M S k V)) -> Calls Tryz.prog 176 #[.pointer (some ⟨gv, 0, none⟩), .int .i64 pa, .int .i64 pb, .int .i64 pc, .int .i64 pd, .int .u32 (wr3 x), .int .u32 (wr3 y)] W fun e w' => e = .returned (.tuple #[]) /\ Blk w' gv 155 (wc3 (turnTo32 M S (k + 1) V)) /\ W.grownBy w' (some gv)) := by
       show ∀ W, _
       intro W hW;rw [HT.out];exact mixs_any gv ⟨pa, pb, pc, pd⟩ _ x y W HOK HTL hW)
   have y0 := zH (BV.alloc (.cells #[.int .i64 pa, .int .i64 pb, .int .i64 pc, .int .i64 pd] 204))
   first
    |(guard_expr zA=zA
      refine wrZ (fun _ => True) (fun _ _ h => h) (Ords.of [(0, 0), (1, 1), (0, 2), (0, 3), (0, 4), (0, 5), (1, 6), (0, 7), (0, 8), (1, 9), (0, 10), (0, 11), (0, 12), (0, 13), (0, 14), (1, 15), (0, 16), (0, 17), (1, 18), (2, 19)] .fin) trivial ?_
      iterate 19 ((first | refine ords_pure rfl (fun K hK => ?_) | refine ords_read rfl (fun K hK => ?_)); go_simp; refine hK _ ?_; clear hK K))
    |(refine wrZ (fun _ => True) (fun _ _ h => h) (Ords.of [(0, 0), (0, 1), (1, 2), (0, 3), (1, 4), (0, 5), (1, 6), (0, 7), (1, 8), (0, 9), (0, 10), (0, 11), (0, 12), (1, 13), (0, 14), (0, 15), (1, 16), (0, 17), (0, 18), (0, 19), (0, 20), (0, 21), (1, 22), (0, 23), (0, 24), (1, 25), (2, 26)] .fin) trivial ?_
      iterate 26 ((first | refine ords_pure rfl (fun K hK => ?_) | refine ords_read rfl (fun K hK => ?_)); go_simp; refine hK _ ?_; clear hK K))
   refine ords_loud rfl (fun n1 => ?_)
   first
    |(guard_expr zA=zA
      go_wp2_with (go_at_call 174; refine (hpp.out _ (y0.drewN _)).mono ?_; rintro e w6 ⟨rfl, hz6, hg6⟩; have HZ6 := zH hz6; have HG6 := zH hg6; clear hz6 hg6);refine ⟨trivial, ?_⟩;refine ords_end (fun n2 => ?_))
    |(go_wp2_with (go_at_call 176; refine (hpp.out _ (y0.drewN _)).mono ?_; rintro e w6 ⟨rfl, hz6, hg6⟩; have HZ6 := zH hz6; have HG6 := zH hg6; clear hz6 hg6)
      first | (refine ⟨trivial, ?_⟩; refine ords_end (fun n2 => ?_)) | (rintro _ ⟨n2, rfl⟩))
   go_wp2_with fail;go_roundw
   case rel =>
    have g1 := (BM.alloc (.cells #[.int .i64 pa, .int .i64 pb, .int .i64 pc, .int .i64 pd] 204)).drewN n1;have g2 := (BS.alloc (.cells #[.int .i64 pa, .int .i64 pb, .int .i64 pc, .int .i64 pd] 204)).drewN n1;exact ⟨k + 1, by omega, by go_num, HZ6.drewN n2, (g1.grown HG6.out (by simpa using hne)).drewN n2, (g2.grown HG6.out (by simp; omega)).drewN n2, gdr (grown_grown (only_alloc HG.out _) (gdr_in HG6.out)) n2⟩
   case measure => simp [intOf]; omega
  ·obtain rfl : k = 8 := by omega
   go_wp2_with fail;go_end0;exact ⟨rfl, BV.out, HG.out⟩
 ) : P := h
theorem zS10 {P : Prop} (h : P := by
 have HV := zH hV; have HM := zH hM; clear hV hM;have hsl := sigma_len r;have hslt := sigma_lt r;have hsg := fun i hi W => refSigma_any r i hi W
 first
  |(guard_expr zA=zA;unfold turn32)
  |(unfold turn64)
 generalize sigma r = S at *;have HST := zH hslt; have HSG := zH hsg; clear hsl hslt hsg
 first
  |(guard_expr zA=zA
    have hpl := zH r4four_any;have hu := zH Tryz.underlying155)
  |(have hpl := zH refPlaces_any
    have hu := zH Tryz.underlying97)
 have hr0 : decide ((r : Int) < 0) = false := by simp
 first
  |(guard_expr zA=zA
    have hr1 : decide ((9 : Int) < (r : Int)) = false := by simp; omega
    have n0 : Blk (((w.alloc (.cells (wc3 V) 155)).alloc (.cells (wc3 M) 155)).alloc (.cells z16s 155)) w.heap.size 155 (wc3 V) := ((Blk.new _ _ _).alloc _).alloc _;have n1 : Blk (((w.alloc (.cells (wc3 V) 155)).alloc (.cells (wc3 M) 155)).alloc (.cells z16s 155)) (w.heap.size + 1) 155 (wc3 M) := by
     have := (Blk.new (w.alloc (.cells (wc3 V) 155)) 155 (wc3 M)).alloc (.cells z16s 155); simpa using this
    have n2 : Blk (((w.alloc (.cells (wc3 V) 155)).alloc (.cells (wc3 M) 155)).alloc (.cells z16s 155)) (w.heap.size + 1 + 1) 155 z16s := by
     have := Blk.new ((w.alloc (.cells (wc3 V) 155)).alloc (.cells (wc3 M) 155)) 155 z16s; simpa using this
    have n4 := bal (bal (bal (b0 w) (.cells (wc3 V) 155)) (.cells (wc3 M) 155)) (.cells z16s 155))
  |(have hr1 : decide ((11 : Int) < (r : Int)) = false := by simp; omega
    have n0 : Blk (((w.alloc (.cells (wcs V) 97)).alloc (.cells (wcs M) 97)).alloc (.cells z16 97)) w.heap.size 97 (wcs V) := ((Blk.new _ _ _).alloc _).alloc _;have n1 : Blk (((w.alloc (.cells (wcs V) 97)).alloc (.cells (wcs M) 97)).alloc (.cells z16 97)) (w.heap.size + 1) 97 (wcs M) := by
     have := (Blk.new (w.alloc (.cells (wcs V) 97)) 97 (wcs M)).alloc (.cells z16 97); simpa using this
    have n2 : Blk (((w.alloc (.cells (wcs V) 97)).alloc (.cells (wcs M) 97)).alloc (.cells z16 97)) (w.heap.size + 1 + 1) 97 z16 := by
     have := Blk.new ((w.alloc (.cells (wcs V) 97)).alloc (.cells (wcs M) 97)) 97 z16; simpa using this
    have n4 := bal (bal (bal (b0 w) (.cells (wcs V) 97)) (.cells (wcs M) 97)) (.cells z16 97))
 obtain ⟨g, hg⟩ : ∃ g, g = w.heap.size := ⟨_, rfl⟩
 first
  |(guard_expr zA=zA;unfold z16s at n0 n1 n2 n4)
  |(unfold z16 at n0 n1 n2 n4)
 rw [<- hg] at n0 n1 n2
 first
  |(guard_expr zA=zA;go_enter Tryz.func123, Tryz.ntmps123)
  |(go_enter Tryz.func120, Tryz.ntmps120)
 go_upto_region 3 with fail
 rw [<- hg]
 first
  |(guard_expr zA=zA;generalize ((w.alloc (.cells (wc3 V) 155)).alloc (.cells (wc3 M) 155)).alloc (.cells #[.int .u32 0, .int .u32 0, .int .u32 0, .int .u32 0, .int .u32 0, .int .u32 0, .int .u32 0, .int .u32 0, .int .u32 0, .int .u32 0, .int .u32 0, .int .u32 0, .int .u32 0, .int .u32 0, .int .u32 0, .int .u32 0] 155) = w0 at *)
  |(generalize ((w.alloc (.cells (wcs V) 97)).alloc (.cells (wcs M) 97)).alloc (.cells #[.int .u64 0, .int .u64 0, .int .u64 0, .int .u64 0, .int .u64 0, .int .u64 0, .int .u64 0, .int .u64 0, .int .u64 0, .int .u64 0, .int .u64 0, .int .u64 0, .int .u64 0, .int .u64 0, .int .u64 0, .int .u64 0] 97) = w0 at *)
 have N0 := zH n0; have N1 := zH n1; have N2 := zH n2; have N4 := zH n4; have hwg : Hid (w.heap.size <= g) := by (show _ <= _; omega)
 clear n0 n1 n2 n4 hg hr0 hr1;go_wp2_with fail
 first
  |(guard_expr zA=zA;go_loopw [8] (fun i wr => ∃ k : Nat, k <= 8 /\ i = .int .i64 k /\ Blk wr g 155 (wc3 (turnTo32 M S k V)) /\ Blk wr (g + 1) 155 (wc3 M) /\ Blk wr (g + 1 + 1) 155 z16s /\ Below w.heap.size w wr) (fun i _ => 8 - (intOf i).toNat))
  |(go_loopw [8] (fun i wr => ∃ k : Nat, k <= 8 /\ i = .int .i64 k /\ Blk wr g 97 (wcs (turnTo64 M S k V)) /\ Blk wr (g + 1) 97 (wcs M) /\ Blk wr (g + 1 + 1) 97 z16 /\ Below w.heap.size w wr) (fun i _ => 8 - (intOf i).toNat))
 case atStart => exact ⟨0, by omega, rfl, N0.out, N1.out, N2.out, N4.out⟩
 case round =>
  clear N0 N1 N2 N4;obtain ⟨k, hk, rfl, x0, x1, x2, x4⟩ := hrel;have N0 := zH x0; have N1 := zH x1; have N2 := zH x2; have N4 := zH x4; clear x0 x1 x2 x4
  by_cases hlt : k < 8
  ·have hP := fun W => hpl.out k hlt W
   have hok := pls_ok k hlt
   first
    |(guard_expr zA=zA
      have hturn : turnTo32 M S (k + 1) V = (pls k).lay (turnTo32 M S k V) (gm32 ((pls k).get 0 (turnTo32 M S k V)) (M.getD (S.getD (2 * k) 0) 0) (M.getD (S.getD (2 * k + 1) 0) 0)) := rfl;have hTl : (turnTo32 M S k V).length = 16 := by rw [turnTo32_len, HV.out]
      have hTl1 : (turnTo32 M S (k + 1) V).length = 16 := by rw [turnTo32_len, HV.out])
    |(have hturn : turnTo64 M S (k + 1) V = (pls k).lay (turnTo64 M S k V) (gm64 ((pls k).get 0 (turnTo64 M S k V)) (M.getD (S.getD (2 * k) 0) 0) (M.getD (S.getD (2 * k + 1) 0) 0)) := rfl
      have hTl : (turnTo64 M S k V).length = 16 := by rw [turnTo64_len, HV.out]
      have hTl1 : (turnTo64 M S (k + 1) V).length = 16 := by rw [turnTo64_len, HV.out])
   obtain ⟨i2, hi2⟩ : ∃ i2, i2 = 2 * k := ⟨_, rfl⟩;obtain ⟨i3, hi3⟩ : ∃ i3, i3 = 2 * k + 1 := ⟨_, rfl⟩;rw [<- hi3, <- hi2] at hturn;have e2 : 2 * (k : Int) = (i2 : Int) := by omega
   have e3 : (i2 : Int) + 1 = (i3 : Int) := by omega
   have l2 : i2 < 16 := by omega
   have l3 : i3 < 16 := by omega
   have hs2c := fun W => HSG i2 l2 W
   have hs3c := fun W => HSG i3 l3 W
   obtain ⟨s2, hs2⟩ : ∃ s, s = S.getD i2 0 := ⟨_, rfl⟩;obtain ⟨s3, hs3⟩ : ∃ s, s = S.getD i3 0 := ⟨_, rfl⟩;have ls2 : s2 < 16 := by rw [hs2]; exact HST.out i2 l2
   have ls3 : s3 < 16 := by rw [hs3]; exact HST.out i3 l3
   rw [<- hs2] at hturn hs2c;rw [<- hs3] at hturn hs3c;obtain ⟨x, hx⟩ : ∃ x, x = M.getD s2 0 := ⟨_, rfl⟩;obtain ⟨y, hy⟩ : ∃ y, y = M.getD s3 0 := ⟨_, rfl⟩
   first
    |(guard_expr zA=zA
      have m2 : (wc3 M)[s2]? = some (.int .u32 (wr3 x)) := by rw [wc3_get M s2 (by rw [HM.out]; exact ls2), hx]; rfl
      have m3 : (wc3 M)[s3]? = some (.int .u32 (wr3 y)) := by rw [wc3_get M s3 (by rw [HM.out]; exact ls3), hy]; rfl)
    |(have m2 : (wcs M)[s2]? = some (.int .u64 (wrd x)) := by rw [wcs_get M s2 (by rw [HM.out]; exact ls2), hx]; rfl
      have m3 : (wcs M)[s3]? = some (.int .u64 (wrd y)) := by rw [wcs_get M s3 (by rw [HM.out]; exact ls3), hy]; rfl)
   rw [<- hx, <- hy] at hturn;obtain ⟨p, hp⟩ : ∃ p, p = pls k := ⟨_, rfl⟩;rw [<- hp] at hP hok hturn
   first
    |(guard_expr zA=zA;have hG := fun W => r4G_any p (turnTo32 M S k V) x y W hok hTl)
    |(have hG := fun W => refG_any p (turnTo64 M S k V) x y W hok hTl)
   rw [<- hturn] at hG;obtain ⟨pa, pb, pc, pd⟩ := p
   first
    |(guard_expr zA=zA)
    |(unfold plv at hP)
   dsimp only at hP hG;have HP := zH hP; have HG := zH hG; have HS2 := zH hs2c; have HS3 := zH hs3c; have HM2 := zH m2; have HM3 := zH m3
   first
    |(guard_expr zA=zA
      have hsV := zH (sz16s _ hTl);have hsW := zH (sz16s _ hTl1);have hold : Hid ((wc3 (turnTo32 M S k V)).size = (wc3 (turnTo32 M S (k + 1) V)).size) := by show _ = _; rw [wc3_size, wc3_size, hTl, hTl1]
      have hall := zH (wc3_all (turnTo32 M S (k + 1) V)))
    |(have hsV := zH (sz16w _ hTl)
      have hsW := zH (sz16w _ hTl1);have hold : Hid ((wcs (turnTo64 M S k V)).size = (wcs (turnTo64 M S (k + 1) V)).size) := by show _ = _; rw [wcs_size, wcs_size, hTl, hTl1]
      have hall := zH (wcs_all (turnTo64 M S (k + 1) V)))
   clear hP hG hs2c hs3c m2 m3 hturn hok hTl hTl1 hi2 hi3 hs2 hs3 hx hy hp;have j2 : (i2 : Int) < 16 := by omega
   have j3 : (i3 : Int) < 16 := by omega
   have j4 : (s2 : Int) < 16 := by omega
   have j5 : (s3 : Int) < 16 := by omega
   have hkd : decide ((k : Int) < 8) = true := by simp; omega
   have w2' : IntKind.i64.wrap (i2 : Int) = i2 := by simp [aZU, aZR, aZM]; omega
   have w3' : IntKind.i64.wrap (i3 : Int) = i3 := by simp [aZU, aZR, aZM]; omega
   first
    |(guard_expr zA=zA
      go_upto_region 7 with (go_at_call 139; refine (HP _).mono ?_; rintro e w1 ⟨rfl, rfl⟩)
      have c4 : wr.cell? ⟨g + 1, s2, none⟩ = some (.int .u32 (wr3 x)) := (N1.cell _).trans HM2.out;have c5 : wr.cell? ⟨g + 1, s3, none⟩ = some (.int .u32 (wr3 y)) := (N1.cell _).trans HM3.out;refine wrZ (fun w' => Blk w' (g + 1) 155 (wc3 M)) (fun _ n h => h.drewN n) (Ords.of [(0, 1), (0, 2), (0, 3), (0, 4), (0, 5), (0, 6), (0, 7), (0, 11), (0, 12), (0, 13), (0, 14)] (.two 0 8 (Ords.of [(2, 8), (0, 9), (0, 10), (2, 15), (0, 16), (0, 17), (2, 18), (0, 19), (0, 20), (0, 21), (2, 22)] .fin) (Ords.of [(0, 9), (0, 10)] (.two 0 15 (Ords.of [(2, 15), (0, 16), (0, 17), (2, 18), (0, 19), (0, 20), (0, 21), (2, 22)] .fin) (Ords.of [(0, 16), (0, 17), (2, 0), (2, 18), (0, 19), (0, 20), (0, 21), (2, 22)] .fin))))) N1 ?_
      iterate 11 (refine ords_pure rfl (fun K hK => ?_); go_simp; refine hK _ ?_; clear hK K))
    |(go_upto_region 7 with (go_at_call 136; refine (HP _).mono ?_; rintro e w1 ⟨rfl, hb1⟩)
      obtain ⟨P1, hP1⟩ : ∃ P1, P1 = w1.heap.size := ⟨_, rfl⟩;have T0 : Blk (w1.alloc (.cells #[.int .i64 pa, .int .i64 pb, .int .i64 pc, .int .i64 pd] 204)) P1 204 #[.int .i64 pa, .int .i64 pb, .int .i64 pc, .int .i64 pd] := by rw [hP1]; exact Blk.new _ _ _
      have X0 := (N0.below hb1 N0.lt).alloc (.cells #[.int .i64 pa, .int .i64 pb, .int .i64 pc, .int .i64 pd] 204);have X1 := (N1.below hb1 N1.lt).alloc (.cells #[.int .i64 pa, .int .i64 pb, .int .i64 pc, .int .i64 pd] 204);have X2 := (N2.below hb1 N2.lt).alloc (.cells #[.int .i64 pa, .int .i64 pb, .int .i64 pc, .int .i64 pd] 204);have X4 := bal (bcall N4 hb1) (.cells #[.int .i64 pa, .int .i64 pb, .int .i64 pc, .int .i64 pd] 204);have hgP : g + 1 + 1 < P1 := by have := N2.lt; have := hb1.size; omega
      rw [<- hP1];clear hP1 hb1 N0 N1 N2 N4;generalize w1.alloc (.cells #[.int .i64 pa, .int .i64 pb, .int .i64 pc, .int .i64 pd] 204) = w2 at *;have HT := zH T0; have N0 := zH X0; have N1 := zH X1; have N2 := zH X2; have N4 := zH X4; clear T0 X0 X1 X2 X4;have c0 : w2.cell? ⟨P1, 0, none⟩ = some (.int .i64 pa) := HT.cell 0;have c1 : w2.cell? ⟨P1, 1, none⟩ = some (.int .i64 pb) := HT.cell 1;have c2 : w2.cell? ⟨P1, 2, none⟩ = some (.int .i64 pc) := HT.cell 2;have c3 : w2.cell? ⟨P1, 3, none⟩ = some (.int .i64 pd) := HT.cell 3;have c4 : w2.cell? ⟨g + 1, s2, none⟩ = some (.int .u64 (wrd x)) := (N1.cell _).trans HM2.out;have c5 : w2.cell? ⟨g + 1, s3, none⟩ = some (.int .u64 (wrd y)) := (N1.cell _).trans HM3.out;refine wrZ (fun w' => Blk w' P1 204 #[.int .i64 pa, .int .i64 pb, .int .i64 pc, .int .i64 pd] /\ Blk w' (g + 1) 97 (wcs M)) (fun _ n h => ⟨h.1.drewN n, h.2.drewN n⟩) (Ords.of [(0, 1), (0, 2), (0, 3), (0, 4), (0, 5), (0, 6), (0, 7), (0, 8), (0, 9), (0, 10), (0, 11), (0, 15), (0, 16), (0, 17), (0, 18)] (.two 0 12 (Ords.of [(2, 12), (0, 13), (0, 14), (2, 19), (0, 20), (0, 21), (2, 22), (0, 23), (0, 24), (0, 25), (2, 26)] .fin) (Ords.of [(0, 13), (0, 14)] (.two 0 19 (Ords.of [(2, 19), (0, 20), (0, 21), (2, 22), (0, 23), (0, 24), (0, 25), (2, 26)] .fin) (Ords.of [(0, 20), (0, 21), (2, 0), (2, 22), (0, 23), (0, 24), (0, 25), (2, 26)] .fin))))) ⟨HT.out, N1.out⟩ ?_
      iterate 4 (refine ords_pure rfl (fun K hK => ?_); go_simp; refine hK _ ?_; clear hK K; refine ords_heldK rfl (fun K K2 hK hK2 => ?_); go_simp; refine ⟨hK2 _ (fun w9 hS => ?_), hK _ ?_⟩; (clear hK hK2 K K2; have q0 : w9.cell? ⟨P1, 0, none⟩ = some (.int .i64 pa) := hS.1.cell 0; have q1 : w9.cell? ⟨P1, 1, none⟩ = some (.int .i64 pb) := hS.1.cell 1; have q2 : w9.cell? ⟨P1, 2, none⟩ = some (.int .i64 pc) := hS.1.cell 2; have q3 : w9.cell? ⟨P1, 3, none⟩ = some (.int .i64 pd) := hS.1.cell 3; have q4 : w9.cell? ⟨g + 1, s2, none⟩ = some (.int .u64 (wrd x)) := (hS.2.cell _).trans HM2.out; have q5 : w9.cell? ⟨g + 1, s3, none⟩ = some (.int .u64 (wrd y)) := (hS.2.cell _).trans HM3.out; go_simp); (clear hK hK2 K K2))
      iterate 7 (refine ords_pure rfl (fun K hK => ?_); go_simp; refine hK _ ?_; clear hK K))
   refine ords_two rfl rfl (fun n1 => ?_) (fun n1 => ?_)
   ·first
     |(guard_expr zA=zA
       go_wp2_with (first | (refine aZH rfl 155 _ rfl g rfl 155 (wc3 (turnTo32 M S k V)) (0, 0) _ (N0.drewN _) hu.out rfl hsV.out ?_) | (refine aZH rfl 155 _ rfl g rfl 155 (wc3 (turnTo32 M S k V)) (0, 0) _ ((N0.drewN _).drewN _) hu.out rfl hsV.out ?_) | (refine aZH rfl 155 _ rfl g rfl 155 (wc3 (turnTo32 M S k V)) (0, 0) _ (((N0.drewN _).drewN _).drewN _) hu.out rfl hsV.out ?_));refine ⟨by first | exact N1.drewN _ | exact (N1.drewN _).drewN _ | exact ((N1.drewN _).drewN _).drewN _, ?_⟩)
     |(go_wp2_with (first | (refine aZH rfl 97 _ rfl g rfl 97 (wcs (turnTo64 M S k V)) (0, 0) _ (N0.drewN _) hu.out rfl hsV.out ?_) | (refine aZH rfl 97 _ rfl g rfl 97 (wcs (turnTo64 M S k V)) (0, 0) _ ((N0.drewN _).drewN _) hu.out rfl hsV.out ?_) | (refine aZH rfl 97 _ rfl g rfl 97 (wcs (turnTo64 M S k V)) (0, 0) _ (((N0.drewN _).drewN _).drewN _) hu.out rfl hsV.out ?_))
       refine ⟨⟨by first | exact HT.drewN _ | exact (HT.drewN _).drewN _ | exact ((HT.drewN _).drewN _).drewN _, by first | exact N1.drewN _ | exact (N1.drewN _).drewN _ | exact ((N1.drewN _).drewN _).drewN _⟩, ?_⟩)
    refine ords_loud rfl (fun n2 => ?_);go_wp2_with (go_at_call 138; refine (HS2 _).mono ?_; rintro e w9 ⟨rfl, rfl⟩)
    first
     |(guard_expr zA=zA;refine ⟨N1.drewN _, ?_⟩)
     |(refine ⟨⟨HT.drewN _, N1.drewN _⟩, ?_⟩)
    refine ords_pure rfl (fun K hK => ?_); go_simp; refine hK _ ?_; clear hK K
    first
     |(guard_expr zA=zA;refine ords_heldK rfl (fun K K2 hK hK2 => ?_); go_simp; refine ⟨hK2 _ (fun w9 hS => ?_), hK _ ?_⟩; (clear hK hK2 K K2; have q4 : w9.cell? ⟨g + 1, s2, none⟩ = some (.int .u32 (wr3 x)) := (hS.cell _).trans HM2.out; have q5 : w9.cell? ⟨g + 1, s3, none⟩ = some (.int .u32 (wr3 y)) := (hS.cell _).trans HM3.out; go_simp); (clear hK hK2 K K2))
     |(refine ords_heldK rfl (fun K K2 hK hK2 => ?_); go_simp; refine ⟨hK2 _ (fun w9 hS => ?_), hK _ ?_⟩; (clear hK hK2 K K2; have q0 : w9.cell? ⟨P1, 0, none⟩ = some (.int .i64 pa) := hS.1.cell 0; have q1 : w9.cell? ⟨P1, 1, none⟩ = some (.int .i64 pb) := hS.1.cell 1; have q2 : w9.cell? ⟨P1, 2, none⟩ = some (.int .i64 pc) := hS.1.cell 2; have q3 : w9.cell? ⟨P1, 3, none⟩ = some (.int .i64 pd) := hS.1.cell 3; have q4 : w9.cell? ⟨g + 1, s2, none⟩ = some (.int .u64 (wrd x)) := (hS.2.cell _).trans HM2.out; have q5 : w9.cell? ⟨g + 1, s3, none⟩ = some (.int .u64 (wrd y)) := (hS.2.cell _).trans HM3.out; go_simp); (clear hK hK2 K K2))
    refine ords_loud rfl (fun n3 => ?_);go_wp2_with (go_at_call 138; refine (HS3 _).mono ?_; rintro e w9 ⟨rfl, rfl⟩)
    first
     |(guard_expr zA=zA;refine ⟨N1.drewN _, ?_⟩)
     |(refine ⟨⟨HT.drewN _, N1.drewN _⟩, ?_⟩)
    refine ords_pure rfl (fun K hK => ?_); go_simp; refine hK _ ?_; clear hK K
    first
     |(guard_expr zA=zA;refine ords_heldK rfl (fun K K2 hK hK2 => ?_); go_simp; refine ⟨hK2 _ (fun w9 hS => ?_), hK _ ?_⟩; (clear hK hK2 K K2; have q4 : w9.cell? ⟨g + 1, s2, none⟩ = some (.int .u32 (wr3 x)) := (hS.cell _).trans HM2.out; have q5 : w9.cell? ⟨g + 1, s3, none⟩ = some (.int .u32 (wr3 y)) := (hS.cell _).trans HM3.out; go_simp); (clear hK hK2 K K2))
     |(refine ords_heldK rfl (fun K K2 hK hK2 => ?_); go_simp; refine ⟨hK2 _ (fun w9 hS => ?_), hK _ ?_⟩; (clear hK hK2 K K2; have q0 : w9.cell? ⟨P1, 0, none⟩ = some (.int .i64 pa) := hS.1.cell 0; have q1 : w9.cell? ⟨P1, 1, none⟩ = some (.int .i64 pb) := hS.1.cell 1; have q2 : w9.cell? ⟨P1, 2, none⟩ = some (.int .i64 pc) := hS.1.cell 2; have q3 : w9.cell? ⟨P1, 3, none⟩ = some (.int .i64 pd) := hS.1.cell 3; have q4 : w9.cell? ⟨g + 1, s2, none⟩ = some (.int .u64 (wrd x)) := (hS.2.cell _).trans HM2.out; have q5 : w9.cell? ⟨g + 1, s3, none⟩ = some (.int .u64 (wrd y)) := (hS.2.cell _).trans HM3.out; go_simp); (clear hK hK2 K K2))
    refine ords_loud rfl (fun n4 => ?_)
    first
     |(guard_expr zA=zA
       go_wp2_with (go_at_call 140; refine (HG _).mono ?_; rintro e w8 ⟨rfl, hb8⟩);have y0 := (N0.drewN _).below hb8 (N0.drewN _).lt; have y1 := (N1.drewN _).below hb8 (N1.drewN _).lt; have y2 := (N2.drewN _).below hb8 (N2.drewN _).lt; have y4 := bcall (bdr N4 _) hb8;refine ⟨y1, ?_⟩)
     |(go_wp2_with (go_at_call 137; refine (HG _).mono ?_; rintro e w8 ⟨rfl, hb8⟩)
       have y0 := (N0.drewN _).below hb8 (N0.drewN _).lt; have y1 := (N1.drewN _).below hb8 (N1.drewN _).lt; have y2 := (N2.drewN _).below hb8 (N2.drewN _).lt; have yt := (HT.drewN _).below hb8 (HT.drewN _).lt; have y4 := bcall (bdr N4 _) hb8;refine ⟨⟨yt, y1⟩, ?_⟩)
    iterate 3 (refine ords_pure rfl (fun K hK => ?_); go_simp; refine hK _ ?_; clear hK K)
    refine ords_loud rfl (fun n5 => ?_)
    first
     |(guard_expr zA=zA
       go_wp2_with (refine aZE rfl 155 _ _ rfl g (wc3 (turnTo32 M S (k + 1) V)) rfl rfl 155 _ (y0.drewN _) hsW.out hold.out hall.out ?_);refine ⟨(y1.drewN _).rowFar (by omega) _, ?_⟩)
     |(go_wp2_with (refine aZE rfl 97 _ _ rfl g (wcs (turnTo64 M S (k + 1) V)) rfl rfl 97 _ (y0.drewN _) hsW.out hold.out hall.out ?_)
       refine ⟨⟨(yt.drewN _).rowFar (by omega) _, (y1.drewN _).rowFar (by omega) _⟩, ?_⟩)
    refine ords_end (fun n6 => ?_);go_wp2_with fail;go_roundw
    case rel => exact ⟨k + 1, by omega, by go_num, ((y0.drewN _).row _).drewN _, ((y1.drewN _).rowFar (by omega) _).drewN _, ((y2.drewN _).rowFar (by omega) _).drewN _, bdr (brow (bdr y4 _) hwg.out _) _⟩
    case measure => simp [intOf]; omega
   ·go_wp2_with (go_at_call 138; refine (HS2 _).mono ?_; rintro e w9 ⟨rfl, rfl⟩)
    first
     |(guard_expr zA=zA;refine ⟨N1.drewN _, ?_⟩)
     |(refine ⟨⟨HT.drewN _, N1.drewN _⟩, ?_⟩)
    refine ords_pure rfl (fun K hK => ?_); go_simp; refine hK _ ?_; clear hK K
    first
     |(guard_expr zA=zA;refine ords_heldK rfl (fun K K2 hK hK2 => ?_); go_simp; refine ⟨hK2 _ (fun w9 hS => ?_), hK _ ?_⟩; (clear hK hK2 K K2; have q4 : w9.cell? ⟨g + 1, s2, none⟩ = some (.int .u32 (wr3 x)) := (hS.cell _).trans HM2.out; have q5 : w9.cell? ⟨g + 1, s3, none⟩ = some (.int .u32 (wr3 y)) := (hS.cell _).trans HM3.out; go_simp); (clear hK hK2 K K2))
     |(refine ords_heldK rfl (fun K K2 hK hK2 => ?_); go_simp; refine ⟨hK2 _ (fun w9 hS => ?_), hK _ ?_⟩; (clear hK hK2 K K2; have q0 : w9.cell? ⟨P1, 0, none⟩ = some (.int .i64 pa) := hS.1.cell 0; have q1 : w9.cell? ⟨P1, 1, none⟩ = some (.int .i64 pb) := hS.1.cell 1; have q2 : w9.cell? ⟨P1, 2, none⟩ = some (.int .i64 pc) := hS.1.cell 2; have q3 : w9.cell? ⟨P1, 3, none⟩ = some (.int .i64 pd) := hS.1.cell 3; have q4 : w9.cell? ⟨g + 1, s2, none⟩ = some (.int .u64 (wrd x)) := (hS.2.cell _).trans HM2.out; have q5 : w9.cell? ⟨g + 1, s3, none⟩ = some (.int .u64 (wrd y)) := (hS.2.cell _).trans HM3.out; go_simp); (clear hK hK2 K K2))
    refine ords_two rfl rfl (fun n2 => ?_) (fun n2 => ?_)
    ·first
      |(guard_expr zA=zA
        go_wp2_with (first | (refine aZH rfl 155 _ rfl g rfl 155 (wc3 (turnTo32 M S k V)) (0, 0) _ (N0.drewN _) hu.out rfl hsV.out ?_) | (refine aZH rfl 155 _ rfl g rfl 155 (wc3 (turnTo32 M S k V)) (0, 0) _ ((N0.drewN _).drewN _) hu.out rfl hsV.out ?_) | (refine aZH rfl 155 _ rfl g rfl 155 (wc3 (turnTo32 M S k V)) (0, 0) _ (((N0.drewN _).drewN _).drewN _) hu.out rfl hsV.out ?_));refine ⟨by first | exact N1.drewN _ | exact (N1.drewN _).drewN _ | exact ((N1.drewN _).drewN _).drewN _, ?_⟩)
      |(go_wp2_with (first | (refine aZH rfl 97 _ rfl g rfl 97 (wcs (turnTo64 M S k V)) (0, 0) _ (N0.drewN _) hu.out rfl hsV.out ?_) | (refine aZH rfl 97 _ rfl g rfl 97 (wcs (turnTo64 M S k V)) (0, 0) _ ((N0.drewN _).drewN _) hu.out rfl hsV.out ?_) | (refine aZH rfl 97 _ rfl g rfl 97 (wcs (turnTo64 M S k V)) (0, 0) _ (((N0.drewN _).drewN _).drewN _) hu.out rfl hsV.out ?_))
        refine ⟨⟨by first | exact HT.drewN _ | exact (HT.drewN _).drewN _ | exact ((HT.drewN _).drewN _).drewN _, by first | exact N1.drewN _ | exact (N1.drewN _).drewN _ | exact ((N1.drewN _).drewN _).drewN _⟩, ?_⟩)
     refine ords_loud rfl (fun n3 => ?_);go_wp2_with (go_at_call 138; refine (HS3 _).mono ?_; rintro e w9 ⟨rfl, rfl⟩)
     first
      |(guard_expr zA=zA;refine ⟨N1.drewN _, ?_⟩)
      |(refine ⟨⟨HT.drewN _, N1.drewN _⟩, ?_⟩)
     refine ords_pure rfl (fun K hK => ?_); go_simp; refine hK _ ?_; clear hK K
     first
      |(guard_expr zA=zA;refine ords_heldK rfl (fun K K2 hK hK2 => ?_); go_simp; refine ⟨hK2 _ (fun w9 hS => ?_), hK _ ?_⟩; (clear hK hK2 K K2; have q4 : w9.cell? ⟨g + 1, s2, none⟩ = some (.int .u32 (wr3 x)) := (hS.cell _).trans HM2.out; have q5 : w9.cell? ⟨g + 1, s3, none⟩ = some (.int .u32 (wr3 y)) := (hS.cell _).trans HM3.out; go_simp); (clear hK hK2 K K2))
      |(refine ords_heldK rfl (fun K K2 hK hK2 => ?_); go_simp; refine ⟨hK2 _ (fun w9 hS => ?_), hK _ ?_⟩; (clear hK hK2 K K2; have q0 : w9.cell? ⟨P1, 0, none⟩ = some (.int .i64 pa) := hS.1.cell 0; have q1 : w9.cell? ⟨P1, 1, none⟩ = some (.int .i64 pb) := hS.1.cell 1; have q2 : w9.cell? ⟨P1, 2, none⟩ = some (.int .i64 pc) := hS.1.cell 2; have q3 : w9.cell? ⟨P1, 3, none⟩ = some (.int .i64 pd) := hS.1.cell 3; have q4 : w9.cell? ⟨g + 1, s2, none⟩ = some (.int .u64 (wrd x)) := (hS.2.cell _).trans HM2.out; have q5 : w9.cell? ⟨g + 1, s3, none⟩ = some (.int .u64 (wrd y)) := (hS.2.cell _).trans HM3.out; go_simp); (clear hK hK2 K K2))
     refine ords_loud rfl (fun n4 => ?_)
     first
      |(guard_expr zA=zA
        go_wp2_with (go_at_call 140; refine (HG _).mono ?_; rintro e w8 ⟨rfl, hb8⟩);have y0 := (N0.drewN _).below hb8 (N0.drewN _).lt; have y1 := (N1.drewN _).below hb8 (N1.drewN _).lt; have y2 := (N2.drewN _).below hb8 (N2.drewN _).lt; have y4 := bcall (bdr N4 _) hb8;refine ⟨y1, ?_⟩)
      |(go_wp2_with (go_at_call 137; refine (HG _).mono ?_; rintro e w8 ⟨rfl, hb8⟩)
        have y0 := (N0.drewN _).below hb8 (N0.drewN _).lt; have y1 := (N1.drewN _).below hb8 (N1.drewN _).lt; have y2 := (N2.drewN _).below hb8 (N2.drewN _).lt; have yt := (HT.drewN _).below hb8 (HT.drewN _).lt; have y4 := bcall (bdr N4 _) hb8;refine ⟨⟨yt, y1⟩, ?_⟩)
     iterate 3 (refine ords_pure rfl (fun K hK => ?_); go_simp; refine hK _ ?_; clear hK K)
     refine ords_loud rfl (fun n5 => ?_)
     first
      |(guard_expr zA=zA
        go_wp2_with (refine aZE rfl 155 _ _ rfl g (wc3 (turnTo32 M S (k + 1) V)) rfl rfl 155 _ (y0.drewN _) hsW.out hold.out hall.out ?_);refine ⟨(y1.drewN _).rowFar (by omega) _, ?_⟩)
      |(go_wp2_with (refine aZE rfl 97 _ _ rfl g (wcs (turnTo64 M S (k + 1) V)) rfl rfl 97 _ (y0.drewN _) hsW.out hold.out hall.out ?_)
        refine ⟨⟨(yt.drewN _).rowFar (by omega) _, (y1.drewN _).rowFar (by omega) _⟩, ?_⟩)
     refine ords_end (fun n6 => ?_);go_wp2_with fail;go_roundw
     case rel => exact ⟨k + 1, by omega, by go_num, ((y0.drewN _).row _).drewN _, ((y1.drewN _).rowFar (by omega) _).drewN _, ((y2.drewN _).rowFar (by omega) _).drewN _, bdr (brow (bdr y4 _) hwg.out _) _⟩
     case measure => simp [intOf]; omega
    ·go_wp2_with (go_at_call 138; refine (HS3 _).mono ?_; rintro e w9 ⟨rfl, rfl⟩)
     first
      |(guard_expr zA=zA;refine ⟨N1.drewN _, ?_⟩)
      |(refine ⟨⟨HT.drewN _, N1.drewN _⟩, ?_⟩)
     refine ords_pure rfl (fun K hK => ?_); go_simp; refine hK _ ?_; clear hK K
     first
      |(guard_expr zA=zA;refine ords_heldK rfl (fun K K2 hK hK2 => ?_); go_simp; refine ⟨hK2 _ (fun w9 hS => ?_), hK _ ?_⟩; (clear hK hK2 K K2; have q4 : w9.cell? ⟨g + 1, s2, none⟩ = some (.int .u32 (wr3 x)) := (hS.cell _).trans HM2.out; have q5 : w9.cell? ⟨g + 1, s3, none⟩ = some (.int .u32 (wr3 y)) := (hS.cell _).trans HM3.out; go_simp); (clear hK hK2 K K2))
      |(refine ords_heldK rfl (fun K K2 hK hK2 => ?_); go_simp; refine ⟨hK2 _ (fun w9 hS => ?_), hK _ ?_⟩; (clear hK hK2 K K2; have q0 : w9.cell? ⟨P1, 0, none⟩ = some (.int .i64 pa) := hS.1.cell 0; have q1 : w9.cell? ⟨P1, 1, none⟩ = some (.int .i64 pb) := hS.1.cell 1; have q2 : w9.cell? ⟨P1, 2, none⟩ = some (.int .i64 pc) := hS.1.cell 2; have q3 : w9.cell? ⟨P1, 3, none⟩ = some (.int .i64 pd) := hS.1.cell 3; have q4 : w9.cell? ⟨g + 1, s2, none⟩ = some (.int .u64 (wrd x)) := (hS.2.cell _).trans HM2.out; have q5 : w9.cell? ⟨g + 1, s3, none⟩ = some (.int .u64 (wrd y)) := (hS.2.cell _).trans HM3.out; go_simp); (clear hK hK2 K K2))
     refine ords_loud rfl (fun n3 => ?_)
     first
      |(guard_expr zA=zA
        go_wp2_with (first | (refine aZH rfl 155 _ rfl g rfl 155 (wc3 (turnTo32 M S k V)) (0, 0) _ (N0.drewN _) hu.out rfl hsV.out ?_) | (refine aZH rfl 155 _ rfl g rfl 155 (wc3 (turnTo32 M S k V)) (0, 0) _ ((N0.drewN _).drewN _) hu.out rfl hsV.out ?_) | (refine aZH rfl 155 _ rfl g rfl 155 (wc3 (turnTo32 M S k V)) (0, 0) _ (((N0.drewN _).drewN _).drewN _) hu.out rfl hsV.out ?_));refine ⟨by first | exact N1.drewN _ | exact (N1.drewN _).drewN _ | exact ((N1.drewN _).drewN _).drewN _, ?_⟩)
      |(go_wp2_with (first | (refine aZH rfl 97 _ rfl g rfl 97 (wcs (turnTo64 M S k V)) (0, 0) _ (N0.drewN _) hu.out rfl hsV.out ?_) | (refine aZH rfl 97 _ rfl g rfl 97 (wcs (turnTo64 M S k V)) (0, 0) _ ((N0.drewN _).drewN _) hu.out rfl hsV.out ?_) | (refine aZH rfl 97 _ rfl g rfl 97 (wcs (turnTo64 M S k V)) (0, 0) _ (((N0.drewN _).drewN _).drewN _) hu.out rfl hsV.out ?_))
        refine ⟨⟨by first | exact HT.drewN _ | exact (HT.drewN _).drewN _ | exact ((HT.drewN _).drewN _).drewN _, by first | exact N1.drewN _ | exact (N1.drewN _).drewN _ | exact ((N1.drewN _).drewN _).drewN _⟩, ?_⟩)
     refine ords_loud rfl (fun n4 => ?_)
     first
      |(guard_expr zA=zA
        go_wp2_with (go_at_call 140; refine (HG _).mono ?_; rintro e w8 ⟨rfl, hb8⟩);have y0 := (N0.drewN _).below hb8 (N0.drewN _).lt; have y1 := (N1.drewN _).below hb8 (N1.drewN _).lt; have y2 := (N2.drewN _).below hb8 (N2.drewN _).lt; have y4 := bcall (bdr N4 _) hb8;refine ⟨y1, ?_⟩)
      |(go_wp2_with (go_at_call 137; refine (HG _).mono ?_; rintro e w8 ⟨rfl, hb8⟩)
        have y0 := (N0.drewN _).below hb8 (N0.drewN _).lt; have y1 := (N1.drewN _).below hb8 (N1.drewN _).lt; have y2 := (N2.drewN _).below hb8 (N2.drewN _).lt; have yt := (HT.drewN _).below hb8 (HT.drewN _).lt; have y4 := bcall (bdr N4 _) hb8;refine ⟨⟨yt, y1⟩, ?_⟩)
     iterate 3 (refine ords_pure rfl (fun K hK => ?_); go_simp; refine hK _ ?_; clear hK K)
     refine ords_loud rfl (fun n5 => ?_)
     first
      |(guard_expr zA=zA
        go_wp2_with (refine aZE rfl 155 _ _ rfl g (wc3 (turnTo32 M S (k + 1) V)) rfl rfl 155 _ (y0.drewN _) hsW.out hold.out hall.out ?_);refine ⟨(y1.drewN _).rowFar (by omega) _, ?_⟩)
      |(go_wp2_with (refine aZE rfl 97 _ _ rfl g (wcs (turnTo64 M S (k + 1) V)) rfl rfl 97 _ (y0.drewN _) hsW.out hold.out hall.out ?_)
        refine ⟨⟨(yt.drewN _).rowFar (by omega) _, (y1.drewN _).rowFar (by omega) _⟩, ?_⟩)
     refine ords_end (fun n6 => ?_);go_wp2_with fail;go_roundw
     case rel => exact ⟨k + 1, by omega, by go_num, ((y0.drewN _).row _).drewN _, ((y1.drewN _).rowFar (by omega) _).drewN _, ((y2.drewN _).rowFar (by omega) _).drewN _, bdr (brow (bdr y4 _) hwg.out _) _⟩
     case measure => simp [intOf]; omega
  ·obtain rfl : k = 8 := by omega
   clear hlt hk
   first
    |(guard_expr zA=zA
      have hTl : (turnTo32 M S 8 V).length = 16 := by rw [turnTo32_len, HV.out]
      have hsV := zH (sz16s _ hTl);have hold : Hid (z16s.size = (wc3 (turnTo32 M S 8 V)).size) := by show _ = _; rw [wc3_size, hTl]; rfl
      have hall := zH (wc3_all (turnTo32 M S 8 V)))
    |(have hTl : (turnTo64 M S 8 V).length = 16 := by rw [turnTo64_len, HV.out]
      have hsV := zH (sz16w _ hTl);have hold : Hid (z16.size = (wcs (turnTo64 M S 8 V)).size) := by show _ = _; rw [wcs_size, hTl]; rfl
      have hall := zH (wcs_all (turnTo64 M S 8 V)))
   clear hTl;go_upto_region 8 with fail
   first
    |(guard_expr zA=zA
      go_wp2_with (first
       | (refine aZH rfl 155 _ rfl g rfl 155 (wc3 (turnTo32 M S 8 V)) (0, 0) _ N0 hu.out rfl hsV.out ?_)
       | (refine aZE rfl 155 _ _ rfl (g + 1 + 1) (wc3 (turnTo32 M S 8 V)) rfl rfl 155 _ N2 hsV.out hold.out hall.out ?_)))
    |(go_wp2_with (first
       | (refine aZH rfl 97 _ rfl g rfl 97 (wcs (turnTo64 M S 8 V)) (0, 0) _ N0 hu.out rfl hsV.out ?_)
       | (refine aZE rfl 97 _ _ rfl (g + 1 + 1) (wcs (turnTo64 M S 8 V)) rfl rfl 97 _ N2 hsV.out hold.out hall.out ?_)))
   exact aZB (results_cell_tmp rfl _ _ (g + 1 + 1) _ _ _ rfl (N2.row _) hu.out rfl hsV.out) rfl ⟨rfl, brow N4.out (by have := hwg.out; omega) _⟩
 ) : P := h
theorem zS11 {P : Prop} (h : P := by
 first
  |(guard_expr zA=zA
    obtain rfl : V = 0 := hV;have hfu := fun W => refFull_any true W
    change ∀ W, Calls Tryz.prog _ #[.int .i64 1] W (fun e w' => e = .returned (.int .i64 64) /\ W = w') at hfu)
  |(obtain rfl : V = 1 := hV
    have hfu := fun W => refFull_any false W
    change ∀ W, Calls Tryz.prog _ #[.int .i64 2] W (fun e w' => e = .returned (.int .i64 32) /\ W = w') at hfu)
 have HFU := zH hfu;clear hfu
 by_cases h1 : size < 1
 ·have d1 : decide (size < 1) = true := by simpa using h1
  have HRR2 : Hid (R = ([], 1)) := zH (by rw [HR.out]; exact nmS_size (by decide) (.inl h1));clear h1;go_wp2_with (go_at_call 33; refine (HFU _).mono ?_; rintro e2 w2 ⟨rfl, rfl⟩);exact aZB (aZG rfl _ _ _) rfl ⟨none, 0, 0, 0, by rw [HRR2.out]; rfl, by rw [HRR2.out]; rfl, by rw [HRR2.out]; exact OS.nil _ _ 0 rfl, HBW.out⟩
 ·have d1 : decide (size < 1) = false := by simpa using h1
  first
   |(guard_expr zA=zA;by_cases h2 : 64 < size)
   |(by_cases h2 : 32 < size)
  ·first
    |(guard_expr zA=zA
      have d2 : decide (size > 64) = true := by simpa using h2
      have d3 : decide (64 < size) = true := d2)
    |(have d2 : decide (size > 32) = true := by simpa using h2
      have d3 : decide (32 < size) = true := d2)
   have HRR2 : Hid (R = ([], 1)) := zH (by rw [HR.out]; exact nmS_size (by decide) (.inr h2));clear h1 h2;go_wp2_with (go_at_call 33; refine (HFU _).mono ?_; rintro e2 w2 ⟨rfl, rfl⟩);exact aZB (aZG rfl _ _ _) rfl ⟨none, 0, 0, 0, by rw [HRR2.out]; rfl, by rw [HRR2.out]; rfl, by rw [HRR2.out]; exact OS.nil _ _ 0 rfl, HBW.out⟩
  ·first
    |(guard_expr zA=zA
      have d2 : decide (size > 64) = false := by simpa using h2
      have d3 : decide (64 < size) = false := d2;have hsz : ¬ (size < 1 \/ (nmMost 0 : Int) < size) := fun h => h.elim h1 h2
      by_cases h3 : 64 < nk)
    |(have d2 : decide (size > 32) = false := by simpa using h2
      have d3 : decide (32 < size) = false := d2;have hsz : ¬ (size < 1 \/ (nmMost 1 : Int) < size) := fun h => h.elim h1 h2
      by_cases h3 : 32 < nk)
   ·first
     |(guard_expr zA=zA
       have d4 : decide ((nk : Int) > 64) = true := by simp; omega
       have d5 : (64 < nk) = True := eq_true h3)
     |(have d4 : decide ((nk : Int) > 32) = true := by simp; omega
       have d5 : (32 < nk) = True := eq_true h3)
    have HRR2 : Hid (R = ([], 8)) := zH (by rw [HR.out]; exact nmS_key (by decide) hsz (by rw [HK.out]; exact h3));clear h1 h2 h3 hsz;go_wp2_with (go_at_call 33; refine (HFU _).mono ?_; rintro e2 w2 ⟨rfl, rfl⟩);exact aZB (aZG rfl _ _ _) rfl ⟨none, 0, 0, 0, by rw [HRR2.out]; rfl, by rw [HRR2.out]; rfl, by rw [HRR2.out]; exact OS.nil _ _ 0 rfl, HBW.out⟩
   ·first
     |(guard_expr zA=zA
       have d4 : decide ((nk : Int) > 64) = false := by simp; omega
       have d5 : (64 < nk) = False := eq_false h3;have hRh : R = nmHash 0 size key data := by rw [HR.out]; exact nmS_ok (by decide) hsz (by rw [HK.out]; exact h3))
     |(have d4 : decide ((nk : Int) > 32) = false := by simp; omega
       have d5 : (32 < nk) = False := eq_false h3;have hRh : R = nmHash 1 size key data := by rw [HR.out]; exact nmS_ok (by decide) hsz (by rw [HK.out]; exact h3))
    obtain ⟨sn, hsn⟩ : ∃ sn : Nat, size = (sn : Int) := ⟨size.toNat, by omega⟩;subst hsn
    first
     |(guard_expr zA=zA
       have hR3 : R = ((hashL true (plainP sn nk) [] [] key false data).take sn, 0) := by rw [hRh, <- HK.out]; rfl
       have hlen : ((hashL true (plainP sn nk) [] [] key false data).take sn).length = sn := by unfold hashL; rw [List.length_take, Eng.out_len, Eng.feed_full, startK_full]; show min sn 64 = sn; omega
       have hcl : ∀ W, Below w.heap.size w W -> Calls Tryz.prog 34 #[.int .i64 1, .agg #[Value.int .i64 sn, .int .i64 nk, .int .i64 1, .int .i64 1, .int .u32 0, .int .u64 0, .int .u32 0, .int .i64 0, .int .i64 0, .slice none 0 0, .slice none 0 0], .slice Ak nk ck, .bool false, .int .i64 sn, .slice Ad nd cd] W (fun r w' => ∃ A' j c' cc, r = .returned (.tuple #[.slice A' j cc, .int .i64 0]) /\ sn = j /\ OS cB w' W.heap.size A' c' ((hashL true (plainP sn nk) [] [] key false data).take sn) /\ Below W.heap.size W w') :=
        fun W hb => (refHash_any true false sn (plainP sn nk) [] [] key data Ak Ad nk ck nd cd W (plainP_chk true sn nk ⟨by omega, by show sn <= 64; omega⟩ (by show nk <= 64; omega)) (plainP_fit _ _) rfl rfl (RS.nil _) (RS.nil _) HK.out (.inr rfl) ((HRK.below hb).more hb.size) HDL.out (by have := HN2.out; omega) ((HRD.below hb).more hb.size) ⟨by omega, by show sn <= 64; omega⟩).mono fun r w' ⟨A', c', cc, h1, _, h2, h3⟩ => ⟨A', sn, c', cc, h1, rfl, h2, h3⟩
       generalize (hashL true (plainP sn nk) [] [] key false data).take sn = LL at *)
     |(have hR3 : R = ((hashL false (plainP sn nk) [] [] key false data).take sn, 0) := by rw [hRh, <- HK.out]; rfl
       have hlen : ((hashL false (plainP sn nk) [] [] key false data).take sn).length = sn := by unfold hashL; rw [List.length_take, Eng.out_len, Eng.feed_full, startK_full]; show min sn 32 = sn; omega
       have hcl : ∀ W, Below w.heap.size w W -> Calls Tryz.prog 34 #[.int .i64 2, .agg #[Value.int .i64 sn, .int .i64 nk, .int .i64 1, .int .i64 1, .int .u32 0, .int .u64 0, .int .u32 0, .int .i64 0, .int .i64 0, .slice none 0 0, .slice none 0 0], .slice Ak nk ck, .bool false, .int .i64 sn, .slice Ad nd cd] W (fun r w' => ∃ A' j c' cc, r = .returned (.tuple #[.slice A' j cc, .int .i64 0]) /\ sn = j /\ OS cB w' W.heap.size A' c' ((hashL false (plainP sn nk) [] [] key false data).take sn) /\ Below W.heap.size W w') :=
        fun W hb => (refHash_any false false sn (plainP sn nk) [] [] key data Ak Ad nk ck nd cd W (plainP_chk false sn nk ⟨by omega, by show sn <= 32; omega⟩ (by show nk <= 32; omega)) (plainP_fit _ _) rfl rfl (RS.nil _) (RS.nil _) HK.out (.inr rfl) ((HRK.below hb).more hb.size) HDL.out (by have := HN2.out; omega) ((HRD.below hb).more hb.size) ⟨by omega, by show sn <= 32; omega⟩).mono fun r w' ⟨A', c', cc, h1, _, h2, h3⟩ => ⟨A', sn, c', cc, h1, rfl, h2, h3⟩
       generalize (hashL false (plainP sn nk) [] [] key false data).take sn = LL at *)
    have HR3 := zH hR3; have HCL := zH hcl; have HLN := zH hlen;clear h1 h2 h3 hsz hRh hR3 hcl hlen;have PS : Hid ((Tryz.prog.info? 81).map (·.size) = some (#[Value.int .i64 sn, .int .i64 nk, .int .i64 1, .int .i64 1, .int .u32 0, .int .u64 0, .int .u32 0, .int .i64 0, .int .i64 0, .slice none 0 0, .slice none 0 0]).size) := Pr.size (plainP sn nk);have PO : Hid ((#[Value.int .i64 sn, .int .i64 nk, .int .i64 1, .int .i64 1, .int .u32 0, .int .u64 0, .int .u32 0, .int .i64 0, .int .i64 0, .slice none 0 0, .slice none 0 0]).all (·.oneCell') = true) := Pr.ones (plainP sn nk);go_upto_region 22 with first
     | (go_at_call 33; refine (HFU _).mono ?_; rintro e2 w2 ⟨rfl, rfl⟩)
     | (refine wpList_store_row rfl 81 _ _ rfl wr.heap.size #[Value.int .i64 sn, .int .i64 nk, .int .i64 1, .int .i64 1, .int .u32 0, .int .u64 0, .int .u32 0, .int .i64 0, .int .i64 0, .slice none 0 0, .slice none 0 0] rfl rfl 81 zcs (Blk.new _ _ _) PS rfl PO ?_)
    have HG := zH ((Blk.new wr 81 zcs).row #[Value.int .i64 sn, .int .i64 nk, .int .i64 1, .int .i64 1, .int .u32 0, .int .u64 0, .int .u32 0, .int .i64 0, .int .i64 0, .slice none 0 0, .slice none 0 0]);have HB := zH (bcall HBW (brow (bal (b0 wr) (.cells zcs 81)) (Nat.le_refl _) #[Value.int .i64 sn, .int .i64 nk, .int .i64 1, .int .i64 1, .int .u32 0, .int .u64 0, .int .u32 0, .int .i64 0, .int .i64 0, .slice none 0 0, .slice none 0 0]));have hz : zcs = #[.int .i64 0, .int .i64 0, .int .i64 0, .int .i64 0, .int .u32 0, .int .u64 0, .int .u32 0, .int .i64 0, .int .i64 0, .slice none 0 0, .slice none 0 0] := rfl
    (try rw [<- hz])
    clear hz;generalize (wr.alloc (.cells zcs 81)).setRow wr.heap.size #[Value.int .i64 sn, .int .i64 nk, .int .i64 1, .int .i64 1, .int .u32 0, .int .u64 0, .int .u32 0, .int .i64 0, .int .i64 0, .slice none 0 0, .slice none 0 0] = u at *;go_wp2_with first
     | (refine wpList_load_row rfl 81 _ rfl wr.heap.size rfl 81 #[Value.int .i64 sn, .int .i64 nk, .int .i64 1, .int .i64 1, .int .u32 0, .int .u64 0, .int .u32 0, .int .i64 0, .int .i64 0, .slice none 0 0, .slice none 0 0] (0, 0) _ HG hu.out rfl PS ?_)
     | (go_at_call 34; refine (HCL u HB).mono ?_; rintro e3 w3 ⟨A3, j3, c3, x3, rfl, hj3, ho3, hb3⟩; have HO3 := zH ho3; have HB3 := zH hb3; have HJ3 := zH hj3; clear ho3 hb3 hj3)
    exact aZB (aZG rfl _ _ _) rfl ⟨A3, j3, c3, x3, by rw [HR3.out]; rfl, by rw [HR3.out, <- HJ3.out]; exact HLN.out, by rw [HR3.out]; exact HO3.mono HB.size, bcall HB.out HB3.out⟩
 ) : P := h
theorem zS12 {P : Prop} (h : P := by
 first
  |(guard_expr zA=zA
    have HH := zH hH; clear hH;have hG : Hid (initOf H lo hi last node = (let v := ((H ++ iv64).set 12 (0x510e527fade682d1 ^^^ lo)).set 13 (0x9b05688c2b3e6c1f ^^^ hi); let v := if last then v.set 14 (~~~ 0x1f83d9abfb41bd6b) else v; if node then v.set 15 (~~~ 0x5be0cd19137e2179) else v)) := rfl;generalize initOf H lo hi last node = G at *;go_enter Tryz.func166, Tryz.ntmps166;go_upto_region 2 with fail
    obtain ⟨w1, hw1⟩ : ∃ w1, w1 = w.alloc (.cells (wcs H) 150) := ⟨_, rfl⟩;obtain ⟨w2, hw2⟩ : ∃ w2, w2 = w1.alloc (.cells #[.int .u64 (wrd lo), .int .u64 (wrd hi)] 217) := ⟨_, rfl⟩;obtain ⟨w3, hw3⟩ : ∃ w3, w3 = w2.alloc (.cells (wcs (zw 16)) 97) := ⟨_, rfl⟩;obtain ⟨w4, hw4⟩ : ∃ w4, w4 = w3.alloc (.cells (wcs (zw 16)) 97) := ⟨_, rfl⟩;have e4 : (((w.alloc (.cells (wcs H) 150)).alloc (.cells #[.int .u64 (wrd lo), .int .u64 (wrd hi)] 217)).alloc (.cells z16 97)).alloc (.cells z16 97) = w4 := by rw [hw4, hw3, hw2, hw1]; rfl
    unfold z16 at e4;rw [e4];have n0 : Blk w4 w.heap.size 150 (wcs H) := by rw [hw4, hw3, hw2, hw1]; exact (((Blk.new _ _ _).alloc _).alloc _).alloc _
    have n1 : Blk w4 (w.heap.size + 1) 217 #[.int .u64 (wrd lo), .int .u64 (wrd hi)] := by
     have : w1.heap.size = w.heap.size + 1 := by rw [hw1]; simp
     rw [<- this, hw4, hw3, hw2]; exact ((Blk.new _ _ _).alloc _).alloc _
    have n2 : Blk w4 (w.heap.size + 1 + 1) 97 (wcs (zw 16)) := by
     have : w2.heap.size = w.heap.size + 1 + 1 := by rw [hw2, hw1]; simp
     rw [<- this, hw4, hw3]; exact (Blk.new _ _ _).alloc _
    have n3 : Blk w4 (w.heap.size + 1 + 1 + 1) 97 (wcs (zw 16)) := by
     have : w3.heap.size = w.heap.size + 1 + 1 + 1 := by rw [hw3, hw2, hw1]; simp
     rw [<- this, hw4]; exact Blk.new _ _ _
    have n4 : Below w.heap.size w w4 := by rw [hw4, hw3, hw2, hw1]; exact bal (bal (bal (bal (b0 _) _) _) _) _
    clear hw1 hw2 hw3 hw4 e4 w1 w2 w3;obtain ⟨g0, hg0⟩ : ∃ g, g = w.heap.size := ⟨_, rfl⟩;obtain ⟨g1, hg1⟩ : ∃ g, g = w.heap.size + 1 := ⟨_, rfl⟩;obtain ⟨g2, hg2⟩ : ∃ g, g = w.heap.size + 1 + 1 := ⟨_, rfl⟩;obtain ⟨g3, hg3⟩ : ∃ g, g = w.heap.size + 1 + 1 + 1 := ⟨_, rfl⟩;rw [<- hg3, <- hg2, <- hg1, <- hg0];rw [<- hg0] at n0; rw [<- hg1] at n1; rw [<- hg2] at n2; rw [<- hg3] at n3;have l01 : g0 < g1 := by omega
    have l12 : g1 < g2 := by omega
    have l23 : g2 < g3 := by omega
    have l0 : Hid (w.heap.size <= g0) := by show _ <= _; omega
    have N0 := zH n0; have N1 := zH n1; have N2 := zH n2; have N3 := zH n3; have N4 := zH n4;clear n0 n1 n2 n3 n4 hg0 hg1 hg2 hg3;have e1 : (zw 16).take 0 ++ (H ++ (zw 16).drop (0 + 8)) = H ++ zw 8 := rfl;refine wrZ (fun _ => True) (fun _ _ h => h) (Ords.of [(0, 0), (0, 1), (2, 2)] .fin) trivial ?_
    iterate 2 (refine ords_pure rfl (fun K hK => ?_); go_simp; refine hK _ ?_; clear hK K)
    refine ords_loud rfl (fun n1 => ?_);refine wpList_copyW rfl (.tmp 11) (.tmp 12) rfl g3 0 g0 8 16 8 rfl rfl (zw 16) H 97 150 (N3.drewN n1) (N0.drewN n1) HH.out (by decide) ?_; rw [e1]; clear e1; go_wp2
    first | (refine ⟨trivial, ?_⟩; refine ords_end (fun n2 => ?_)) | (rintro _ ⟨n2, rfl⟩)
    have v3 := ((N3.drewN n1).row (wcs (H ++ zw 8))).drewN n2;have v1 := ((N1.drewN n1).rowFar (k := g3) (by omega) (wcs (H ++ zw 8))).drewN n2;have v2 := ((N2.drewN n1).rowFar (k := g3) (by omega) (wcs (H ++ zw 8))).drewN n2;have v4 := bdr (brow (bdr N4.out n1) (g := g3) (by have := l0.out; omega) (wcs (H ++ zw 8))) n2;clear N0 N1 N2 N3 N4;generalize ((w4.drewN n1).setRow g3 (wcs (H ++ zw 8))).drewN n2 = w5 at *;have N1 := zH v1; have N2 := zH v2; have N3 := zH v3; have N4 := zH v4; clear v1 v2 v3 v4;go_wp2_with fail;refine (iv_any _).mono ?_;rintro e w6 ⟨rfl, hb6⟩;have l5 := N3.lt;replace N1 := zH (N1.below hb6 N1.lt); replace N2 := zH (N2.below hb6 N2.lt); replace N3 := zH (N3.below hb6 N3.lt); replace N4 := zH (bcall N4 hb6);have l6 := hb6.size;have IVl : Hid (iv64.length = 8) := rfl;have S8 := zH (sz8w iv64 IVl);have AL := zH (wcs_all iv64);have hIV : Hid (iv64 = [0x6a09e667f3bcc908, 0xbb67ae8584caa73b, 0x3c6ef372fe94f82b, 0xa54ff53a5f1d36f1, 0x510e527fade682d1, 0x9b05688c2b3e6c1f, 0x1f83d9abfb41bd6b, 0x5be0cd19137e2179]) := rfl;generalize iv64 = I at *;have n6 := zH (Blk.new w6 150 (wcs (zw 8)));have hold : Hid ((wcs (zw 8)).size = (wcs I).size) := by show _ = _; rw [wcs_size, wcs_size, IVl.out]; rfl
    change Hid (Blk (w6.alloc (.cells #[.int .u64 0, .int .u64 0, .int .u64 0, .int .u64 0, .int .u64 0, .int .u64 0, .int .u64 0, .int .u64 0] 150)) w6.heap.size 150 (wcs (zw 8))) at n6;go_upto_region 4 with (refine aZE rfl 150 _ _ rfl w6.heap.size (wcs I) rfl rfl 150 _ n6.out S8 hold.out AL ?_)
    have v1 := (N1.alloc (.cells (wcs (zw 8)) 150)).rowFar (k := w6.heap.size) (by omega) (wcs I);have v2 := (N2.alloc (.cells (wcs (zw 8)) 150)).rowFar (k := w6.heap.size) (by omega) (wcs I);have v3 := (N3.alloc (.cells (wcs (zw 8)) 150)).rowFar (k := w6.heap.size) (by omega) (wcs I);have v4 := brow (bal N4 (.cells (wcs (zw 8)) 150)) N4.size (wcs I);have v5 := n6.row (wcs I);change Blk (World.setRow (w6.alloc (.cells #[.int .u64 0, .int .u64 0, .int .u64 0, .int .u64 0, .int .u64 0, .int .u64 0, .int .u64 0, .int .u64 0] 150)) _ _) _ _ _ at v1;change Blk (World.setRow (w6.alloc (.cells #[.int .u64 0, .int .u64 0, .int .u64 0, .int .u64 0, .int .u64 0, .int .u64 0, .int .u64 0, .int .u64 0] 150)) _ _) _ _ _ at v2;change Blk (World.setRow (w6.alloc (.cells #[.int .u64 0, .int .u64 0, .int .u64 0, .int .u64 0, .int .u64 0, .int .u64 0, .int .u64 0, .int .u64 0] 150)) _ _) _ _ _ at v3;change Below _ _ (World.setRow (w6.alloc (.cells #[.int .u64 0, .int .u64 0, .int .u64 0, .int .u64 0, .int .u64 0, .int .u64 0, .int .u64 0, .int .u64 0] 150)) _ _) at v4;have l36 : g3 < w6.heap.size := by omega
    obtain ⟨g6, hg6⟩ : ∃ g6, g6 = w6.heap.size := ⟨_, rfl⟩;rw [<- hg6] at v1 v2 v3 v4 v5 l36 ⊢;clear n6 hold N1 N2 N3 N4 hg6 hb6 l5 l6;generalize (w6.alloc (.cells #[.int .u64 0, .int .u64 0, .int .u64 0, .int .u64 0, .int .u64 0, .int .u64 0, .int .u64 0, .int .u64 0] 150)).setRow g6 (wcs I) = w7 at *;have N1 := zH v1; have N2 := zH v2; have N3 := zH v3; have N4 := zH v4; have N5 := zH v5; clear v1 v2 v3 v4 v5;have hHz : Hid ((H ++ zw 8).length = 16) := by show _ = _; rw [aZN, HH.out]; rfl
    have e1 : (H ++ zw 8).take 8 ++ (I ++ (H ++ zw 8).drop (8 + 8)) = H ++ I := by
     rw [List.take_left' HH.out, List.drop_eq_nil_of_le (by rw [hHz.out]; omega), bZX]
    refine wrZ (fun _ => True) (fun _ _ h => h) (Ords.of [(0, 0), (0, 1), (2, 2)] .fin) trivial ?_
    iterate 2 (refine ords_pure rfl (fun K hK => ?_); go_simp; refine hK _ ?_; clear hK K)
    refine ords_loud rfl (fun n1 => ?_);refine wpList_copyW rfl (.tmp 15) (.tmp 16) rfl g3 8 g6 8 8 8 rfl rfl (H ++ zw 8) I 97 150 (N3.drewN n1) (N5.drewN n1) IVl.out (by rw [hHz.out]; omega) ?_; rw [e1]; clear e1; go_wp2
    first | (refine ⟨trivial, ?_⟩; refine ords_end (fun n2 => ?_)) | (rintro _ ⟨n2, rfl⟩)
    have v3 := ((N3.drewN n1).row (wcs (H ++ I))).drewN n2;have v1 := ((N1.drewN n1).rowFar (k := g3) (by omega) (wcs (H ++ I))).drewN n2;have v2 := ((N2.drewN n1).rowFar (k := g3) (by omega) (wcs (H ++ I))).drewN n2;have v4 := bdr (brow (bdr N4.out n1) (g := g3) (by have := l0.out; omega) (wcs (H ++ I))) n2;clear N1 N2 N3 N4 N5 hHz AL S8;generalize ((w7.drewN n1).setRow g3 (wcs (H ++ I))).drewN n2 = w8 at *;have N1 := zH v1; have N2 := zH v2; have N3 := zH v3; have N4 := zH v4; clear v1 v2 v3 v4)
  |(obtain rfl : k = 8 := by omega
    clear hlt hk;have hN3 := N3.out;rw [halves_all H I HH.out IVl.out] at hN3)
 obtain ⟨i4, hi4⟩ : ∃ i, i = (0x510e527fade682d1 : UInt64) := ⟨_, rfl⟩;obtain ⟨i5, hi5⟩ : ∃ i, i = (0x9b05688c2b3e6c1f : UInt64) := ⟨_, rfl⟩;obtain ⟨i6, hi6⟩ : ∃ i, i = (0x1f83d9abfb41bd6b : UInt64) := ⟨_, rfl⟩;obtain ⟨i7, hi7⟩ : ∃ i, i = (0x5be0cd19137e2179 : UInt64) := ⟨_, rfl⟩;have hI := hIV.out;have hGG := hG.out;rw [<- hi4, <- hi5, <- hi6, <- hi7] at hI;rw [<- hi4, <- hi5, <- hi6, <- hi7] at hGG
 first
  |(guard_expr zA=zA;clear hIV hG hi4 hi5 hi6 hi7)
  |(clear hIV hG hi4 hi5 hi6 hi7 hiv)
 obtain ⟨V, hV⟩ : ∃ V, V = H ++ I := ⟨_, rfl⟩
 first
  |(guard_expr zA=zA
    rw [<- hV] at N3 hGG;have hVl : V.length = 16 := by rw [hV, aZN, HH.out, IVl.out]
    have c12 : w8.cell? ⟨g3, 12, none⟩ = some (.int .u64 (wrd i4)) := by rw [N3.cell, wcs_at' V 12 i4 (by rw [hV, aZV (by rw [HH.out]; omega), HH.out, hI]; rfl)]
    have c13 : w8.cell? ⟨g3, 13, none⟩ = some (.int .u64 (wrd i5)) := by rw [N3.cell, wcs_at' V 13 i5 (by rw [hV, aZV (by rw [HH.out]; omega), HH.out, hI]; rfl)]
    have c14 : w8.cell? ⟨g3, 14, none⟩ = some (.int .u64 (wrd i6)) := by rw [N3.cell, wcs_at' V 14 i6 (by rw [hV, aZV (by rw [HH.out]; omega), HH.out, hI]; rfl)]
    have c15 : w8.cell? ⟨g3, 15, none⟩ = some (.int .u64 (wrd i7)) := by rw [N3.cell, wcs_at' V 15 i7 (by rw [hV, aZV (by rw [HH.out]; omega), HH.out, hI]; rfl)]
    have d0 : w8.cell? ⟨g1, 0, none⟩ = some (.int .u64 (wrd lo)) := N1.cell 0;have d1 : w8.cell? ⟨g1, 1, none⟩ = some (.int .u64 (wrd hi)) := N1.cell 1;have ff : ∀ i, w8.frozen? ⟨g3, i, none⟩ = false := N3.frozen)
  |(rw [<- hV] at hN3 hGG
    have hVl : V.length = 16 := by rw [hV, List.length_append, HH.out, IVl.out]
    have c12 : wr.cell? ⟨g3, 12, none⟩ = some (.int .u64 (wrd i4)) := by rw [hN3.cell, wcs_at' V 12 i4 (by rw [hV, aZV (by rw [HH.out]; omega), HH.out, hI]; rfl)]
    have c13 : wr.cell? ⟨g3, 13, none⟩ = some (.int .u64 (wrd i5)) := by rw [hN3.cell, wcs_at' V 13 i5 (by rw [hV, aZV (by rw [HH.out]; omega), HH.out, hI]; rfl)]
    have c14 : wr.cell? ⟨g3, 14, none⟩ = some (.int .u64 (wrd i6)) := by rw [hN3.cell, wcs_at' V 14 i6 (by rw [hV, aZV (by rw [HH.out]; omega), HH.out, hI]; rfl)]
    have c15 : wr.cell? ⟨g3, 15, none⟩ = some (.int .u64 (wrd i7)) := by rw [hN3.cell, wcs_at' V 15 i7 (by rw [hV, aZV (by rw [HH.out]; omega), HH.out, hI]; rfl)]
    have ff : ∀ i, wr.frozen? ⟨g3, i, none⟩ = false := hN3.frozen)
 have h2 := wrd_xor;have HV := zH hVl; have HGG := zH hGG; clear hV hVl hI hGG IVl
 first
  |(guard_expr zA=zA;have hne : g1 ≠ g3 := by omega)
  |(skip)
 have h3 := wrd_not;have h3' : ∀ x : UInt64, bits .xor .u64 (if IntKind.u64.signed = true then -1 else IntKind.u64.max) (wrd x) = wrd (~~~ x) := wrd_not
 first
  |(guard_expr zA=zA;have z12 := N3.set_ 12 (wv (i4 ^^^ lo)))
  |(have z12 := hN3.set_ 12 (wv (i4 ^^^ lo)))
 rw [wcs_set] at z12;have z13 := z12.set_ 13 (wv (i5 ^^^ hi));rw [wcs_set] at z13;have z14 := z13.set_ 14 (wv (~~~ i6));rw [wcs_set] at z14;have z15 := z13.set_ 15 (wv (~~~ i7));rw [wcs_set] at z15;have z16 := z14.set_ 15 (wv (~~~ i7));rw [wcs_set] at z16;have Z13 := zH z13; have Z14 := zH z14; have Z15 := zH z15; have Z16 := zH z16; clear z12 z13 z14 z15 z16;have hlr : Hid (w.heap.size <= g3) := by show _ <= _; have := l0.out; omega
 have hw13 := bput (bput N4 (p := ⟨g3, 12, none⟩) hlr.out (wv (i4 ^^^ lo))) (p := ⟨g3, 13, none⟩) hlr.out (wv (i5 ^^^ hi));have hl2 : Hid (w.heap.size <= g2) := by show _ <= _; have := l0.out; omega
 have y2 := (N2.far (p := ⟨g3, 12, none⟩) (by simp; omega) (wv (i4 ^^^ lo))).far (p := ⟨g3, 13, none⟩) (by simp; omega) (wv (i5 ^^^ hi));have Y2 := zH y2; have HW := zH hw13; have hg23 : g2 ≠ g3 := by omega
 first
  |(guard_expr zA=zA;clear y2 hw13 N1 N2 N3 N4)
  |(clear y2 hw13 N1 N2 N3 N4 hN3)
 have hu := zH Tryz.underlying97;have hsz : Hid (∀ L : List UInt64, L.length = 16 -> (Tryz.prog.info? 97).map (·.size) = some (wcs L).size) := sz16w;have hall := zH wcs_all;have hold : Hid (∀ L : List UInt64, L.length = 16 -> (wcs (zw 16)).size = (wcs L).size) := fun L h => by rw [wcs_size, wcs_size, h]; rfl
 cases last <;> cases node
 ·have hg := HGG.out
  simp only [bZQ, if_false] at hg;have HG2 := zH hg; clear hg;have hl : Hid (G.length = 16) := by show _ = _; rw [HG2.out]; simp [HV.out]
  first
   |(guard_expr zA=zA
     have hz : Hid (Blk ((w8.setCell ⟨g3, 12, none⟩ (.int .u64 (wrd (i4 ^^^ lo)))).setCell ⟨g3, 13, none⟩ (.int .u64 (wrd (i5 ^^^ hi)))) g3 97 (wcs G)) := by show Blk _ _ _ _; rw [HG2.out]; exact Z13.out
     have hy : Hid (Blk ((w8.setCell ⟨g3, 12, none⟩ (.int .u64 (wrd (i4 ^^^ lo)))).setCell ⟨g3, 13, none⟩ (.int .u64 (wrd (i5 ^^^ hi)))) g2 97 (wcs (zw 16))) := Y2.out;have hx : Hid (Below w.heap.size w ((w8.setCell ⟨g3, 12, none⟩ (.int .u64 (wrd (i4 ^^^ lo)))).setCell ⟨g3, 13, none⟩ (.int .u64 (wrd (i5 ^^^ hi))))) := HW.out;go_upto_region 11 with fail)
   |(have hz : Hid (Blk ((wr.setCell ⟨g3, 12, none⟩ (.int .u64 (wrd (i4 ^^^ lo)))).setCell ⟨g3, 13, none⟩ (.int .u64 (wrd (i5 ^^^ hi)))) g3 97 (wcs G)) := by show Blk _ _ _ _; rw [HG2.out]; exact Z13.out
     have hy : Hid (Blk ((wr.setCell ⟨g3, 12, none⟩ (.int .u64 (wrd (i4 ^^^ lo)))).setCell ⟨g3, 13, none⟩ (.int .u64 (wrd (i5 ^^^ hi)))) g2 97 (wcs (zw 16))) := Y2.out;have hx : Hid (Below w.heap.size w ((wr.setCell ⟨g3, 12, none⟩ (.int .u64 (wrd (i4 ^^^ lo)))).setCell ⟨g3, 13, none⟩ (.int .u64 (wrd (i5 ^^^ hi))))) := HW.out;go_upto_region 13 with fail)
  go_wp2_with (first
   | (refine aZH rfl 97 _ rfl g3 rfl 97 (wcs G) (0, 0) _ hz.out hu.out rfl (hsz.out G hl.out) ?_)
   | (refine aZE rfl 97 _ _ rfl g2 (wcs G) rfl rfl 97 _ hy.out (hsz.out G hl.out) (hold.out G hl.out) (hall.out G) ?_))
  exact aZB (aZZ rfl _ _ g2 _ _ (0, 0) _ rfl (hy.row _) hu.out rfl (hsz.out G hl.out)) rfl ⟨rfl, brow hx.out hl2.out _⟩
 ·have hg := HGG.out
  simp only [bZQ, if_false, if_true] at hg;have HG2 := zH hg; clear hg;have hl : Hid (G.length = 16) := by show _ = _; rw [HG2.out]; simp [HV.out]
  first
   |(guard_expr zA=zA
     have hz : Hid (Blk (((w8.setCell ⟨g3, 12, none⟩ (.int .u64 (wrd (i4 ^^^ lo)))).setCell ⟨g3, 13, none⟩ (.int .u64 (wrd (i5 ^^^ hi)))).setCell ⟨g3, 15, none⟩ (.int .u64 (wrd (~~~ i7)))) g3 97 (wcs G)) := by show Blk _ _ _ _; rw [HG2.out]; exact Z15.out
     have hy : Hid (Blk (((w8.setCell ⟨g3, 12, none⟩ (.int .u64 (wrd (i4 ^^^ lo)))).setCell ⟨g3, 13, none⟩ (.int .u64 (wrd (i5 ^^^ hi)))).setCell ⟨g3, 15, none⟩ (.int .u64 (wrd (~~~ i7)))) g2 97 (wcs (zw 16))) := (Y2.out).far (p := ⟨g3, 15, none⟩) (by simp; omega) _;have hx : Hid (Below w.heap.size w (((w8.setCell ⟨g3, 12, none⟩ (.int .u64 (wrd (i4 ^^^ lo)))).setCell ⟨g3, 13, none⟩ (.int .u64 (wrd (i5 ^^^ hi)))).setCell ⟨g3, 15, none⟩ (.int .u64 (wrd (~~~ i7))))) := bput (HW) (p := ⟨g3, 15, none⟩) hlr.out _;go_upto_region 11 with fail)
   |(have hz : Hid (Blk (((wr.setCell ⟨g3, 12, none⟩ (.int .u64 (wrd (i4 ^^^ lo)))).setCell ⟨g3, 13, none⟩ (.int .u64 (wrd (i5 ^^^ hi)))).setCell ⟨g3, 15, none⟩ (.int .u64 (wrd (~~~ i7)))) g3 97 (wcs G)) := by show Blk _ _ _ _; rw [HG2.out]; exact Z15.out
     have hy : Hid (Blk (((wr.setCell ⟨g3, 12, none⟩ (.int .u64 (wrd (i4 ^^^ lo)))).setCell ⟨g3, 13, none⟩ (.int .u64 (wrd (i5 ^^^ hi)))).setCell ⟨g3, 15, none⟩ (.int .u64 (wrd (~~~ i7)))) g2 97 (wcs (zw 16))) := (Y2.out).far (p := ⟨g3, 15, none⟩) (by simp; omega) _;have hx : Hid (Below w.heap.size w (((wr.setCell ⟨g3, 12, none⟩ (.int .u64 (wrd (i4 ^^^ lo)))).setCell ⟨g3, 13, none⟩ (.int .u64 (wrd (i5 ^^^ hi)))).setCell ⟨g3, 15, none⟩ (.int .u64 (wrd (~~~ i7))))) := bput (HW) (p := ⟨g3, 15, none⟩) hlr.out _;go_upto_region 13 with fail)
  go_wp2_with (first
   | (refine aZH rfl 97 _ rfl g3 rfl 97 (wcs G) (0, 0) _ hz.out hu.out rfl (hsz.out G hl.out) ?_)
   | (refine aZE rfl 97 _ _ rfl g2 (wcs G) rfl rfl 97 _ hy.out (hsz.out G hl.out) (hold.out G hl.out) (hall.out G) ?_))
  exact aZB (aZZ rfl _ _ g2 _ _ (0, 0) _ rfl (hy.row _) hu.out rfl (hsz.out G hl.out)) rfl ⟨rfl, brow hx.out hl2.out _⟩
 ·have hg := HGG.out
  simp only [bZQ, if_false, if_true] at hg;have HG2 := zH hg; clear hg;have hl : Hid (G.length = 16) := by show _ = _; rw [HG2.out]; simp [HV.out]
  first
   |(guard_expr zA=zA
     have hz : Hid (Blk (((w8.setCell ⟨g3, 12, none⟩ (.int .u64 (wrd (i4 ^^^ lo)))).setCell ⟨g3, 13, none⟩ (.int .u64 (wrd (i5 ^^^ hi)))).setCell ⟨g3, 14, none⟩ (.int .u64 (wrd (~~~ i6)))) g3 97 (wcs G)) := by show Blk _ _ _ _; rw [HG2.out]; exact Z14.out
     have hy : Hid (Blk (((w8.setCell ⟨g3, 12, none⟩ (.int .u64 (wrd (i4 ^^^ lo)))).setCell ⟨g3, 13, none⟩ (.int .u64 (wrd (i5 ^^^ hi)))).setCell ⟨g3, 14, none⟩ (.int .u64 (wrd (~~~ i6)))) g2 97 (wcs (zw 16))) := (Y2.out).far (p := ⟨g3, 14, none⟩) (by simp; omega) _;have hx : Hid (Below w.heap.size w (((w8.setCell ⟨g3, 12, none⟩ (.int .u64 (wrd (i4 ^^^ lo)))).setCell ⟨g3, 13, none⟩ (.int .u64 (wrd (i5 ^^^ hi)))).setCell ⟨g3, 14, none⟩ (.int .u64 (wrd (~~~ i6))))) := bput (HW) (p := ⟨g3, 14, none⟩) hlr.out _;go_upto_region 11 with fail)
   |(have hz : Hid (Blk (((wr.setCell ⟨g3, 12, none⟩ (.int .u64 (wrd (i4 ^^^ lo)))).setCell ⟨g3, 13, none⟩ (.int .u64 (wrd (i5 ^^^ hi)))).setCell ⟨g3, 14, none⟩ (.int .u64 (wrd (~~~ i6)))) g3 97 (wcs G)) := by show Blk _ _ _ _; rw [HG2.out]; exact Z14.out
     have hy : Hid (Blk (((wr.setCell ⟨g3, 12, none⟩ (.int .u64 (wrd (i4 ^^^ lo)))).setCell ⟨g3, 13, none⟩ (.int .u64 (wrd (i5 ^^^ hi)))).setCell ⟨g3, 14, none⟩ (.int .u64 (wrd (~~~ i6)))) g2 97 (wcs (zw 16))) := (Y2.out).far (p := ⟨g3, 14, none⟩) (by simp; omega) _;have hx : Hid (Below w.heap.size w (((wr.setCell ⟨g3, 12, none⟩ (.int .u64 (wrd (i4 ^^^ lo)))).setCell ⟨g3, 13, none⟩ (.int .u64 (wrd (i5 ^^^ hi)))).setCell ⟨g3, 14, none⟩ (.int .u64 (wrd (~~~ i6))))) := bput (HW) (p := ⟨g3, 14, none⟩) hlr.out _;go_upto_region 13 with fail)
  go_wp2_with (first
   | (refine aZH rfl 97 _ rfl g3 rfl 97 (wcs G) (0, 0) _ hz.out hu.out rfl (hsz.out G hl.out) ?_)
   | (refine aZE rfl 97 _ _ rfl g2 (wcs G) rfl rfl 97 _ hy.out (hsz.out G hl.out) (hold.out G hl.out) (hall.out G) ?_))
  exact aZB (aZZ rfl _ _ g2 _ _ (0, 0) _ rfl (hy.row _) hu.out rfl (hsz.out G hl.out)) rfl ⟨rfl, brow hx.out hl2.out _⟩
 ·have hg := HGG.out
  simp only [if_true] at hg;have HG2 := zH hg; clear hg;have hl : Hid (G.length = 16) := by show _ = _; rw [HG2.out]; simp [HV.out]
  first
   |(guard_expr zA=zA
     have hz : Hid (Blk ((((w8.setCell ⟨g3, 12, none⟩ (.int .u64 (wrd (i4 ^^^ lo)))).setCell ⟨g3, 13, none⟩ (.int .u64 (wrd (i5 ^^^ hi)))).setCell ⟨g3, 14, none⟩ (.int .u64 (wrd (~~~ i6)))).setCell ⟨g3, 15, none⟩ (.int .u64 (wrd (~~~ i7)))) g3 97 (wcs G)) := by show Blk _ _ _ _; rw [HG2.out]; exact Z16.out
     have hy : Hid (Blk ((((w8.setCell ⟨g3, 12, none⟩ (.int .u64 (wrd (i4 ^^^ lo)))).setCell ⟨g3, 13, none⟩ (.int .u64 (wrd (i5 ^^^ hi)))).setCell ⟨g3, 14, none⟩ (.int .u64 (wrd (~~~ i6)))).setCell ⟨g3, 15, none⟩ (.int .u64 (wrd (~~~ i7)))) g2 97 (wcs (zw 16))) := ((Y2.out).far (p := ⟨g3, 14, none⟩) (by simp; omega) _).far (p := ⟨g3, 15, none⟩) (by simp; omega) _;have hx : Hid (Below w.heap.size w ((((w8.setCell ⟨g3, 12, none⟩ (.int .u64 (wrd (i4 ^^^ lo)))).setCell ⟨g3, 13, none⟩ (.int .u64 (wrd (i5 ^^^ hi)))).setCell ⟨g3, 14, none⟩ (.int .u64 (wrd (~~~ i6)))).setCell ⟨g3, 15, none⟩ (.int .u64 (wrd (~~~ i7))))) := bput (bput (HW) (p := ⟨g3, 14, none⟩) hlr.out _) (p := ⟨g3, 15, none⟩) hlr.out _;go_upto_region 11 with fail)
   |(have hz : Hid (Blk ((((wr.setCell ⟨g3, 12, none⟩ (.int .u64 (wrd (i4 ^^^ lo)))).setCell ⟨g3, 13, none⟩ (.int .u64 (wrd (i5 ^^^ hi)))).setCell ⟨g3, 14, none⟩ (.int .u64 (wrd (~~~ i6)))).setCell ⟨g3, 15, none⟩ (.int .u64 (wrd (~~~ i7)))) g3 97 (wcs G)) := by show Blk _ _ _ _; rw [HG2.out]; exact Z16.out
     have hy : Hid (Blk ((((wr.setCell ⟨g3, 12, none⟩ (.int .u64 (wrd (i4 ^^^ lo)))).setCell ⟨g3, 13, none⟩ (.int .u64 (wrd (i5 ^^^ hi)))).setCell ⟨g3, 14, none⟩ (.int .u64 (wrd (~~~ i6)))).setCell ⟨g3, 15, none⟩ (.int .u64 (wrd (~~~ i7)))) g2 97 (wcs (zw 16))) := ((Y2.out).far (p := ⟨g3, 14, none⟩) (by simp; omega) _).far (p := ⟨g3, 15, none⟩) (by simp; omega) _;have hx : Hid (Below w.heap.size w ((((wr.setCell ⟨g3, 12, none⟩ (.int .u64 (wrd (i4 ^^^ lo)))).setCell ⟨g3, 13, none⟩ (.int .u64 (wrd (i5 ^^^ hi)))).setCell ⟨g3, 14, none⟩ (.int .u64 (wrd (~~~ i6)))).setCell ⟨g3, 15, none⟩ (.int .u64 (wrd (~~~ i7))))) := bput (bput (HW) (p := ⟨g3, 14, none⟩) hlr.out _) (p := ⟨g3, 15, none⟩) hlr.out _;go_upto_region 13 with fail)
  go_wp2_with (first
   | (refine aZH rfl 97 _ rfl g3 rfl 97 (wcs G) (0, 0) _ hz.out hu.out rfl (hsz.out G hl.out) ?_)
   | (refine aZE rfl 97 _ _ rfl g2 (wcs G) rfl rfl 97 _ hy.out (hsz.out G hl.out) (hold.out G hl.out) (hall.out G) ?_))
  exact aZB (aZZ rfl _ _ g2 _ _ (0, 0) _ rfl (hy.row _) hu.out rfl (hsz.out G hl.out)) rfl ⟨rfl, brow hx.out hl2.out _⟩
 ) : P := h
theorem zS13 {P : Prop} (h : P := by
 first
  |(guard_expr zA=zA
    have hMl := wordsOf_len x 16;have hwo := fun W hr => refWords_any A c x W hx hr
    have hcomp := fun W => refF_any H (wordsOf x 16) lo hi last node W hH hMl
    have hFl := comp64_len H (wordsOf x 16) lo hi last node;obtain ⟨M, hM⟩ : ∃ M, M = wordsOf x 16 := ⟨_, rfl⟩;obtain ⟨F, hF⟩ : ∃ F, F = comp64 H (wordsOf x 16) lo hi last node := ⟨_, rfl⟩)
  |(have hMl := words3_len x 16
    have hwo := fun W hr => r4Words_any A c x W hx hr
    have hcomp := fun W => r4F_any H (words3 x 16) lo last node W hH hMl
    have hFl := comp32_len H (words3 x 16) lo last node;obtain ⟨M, hM⟩ : ∃ M, M = words3 x 16 := ⟨_, rfl⟩;obtain ⟨F, hF⟩ : ∃ F, F = comp32 H (words3 x 16) lo last node := ⟨_, rfl⟩)
 rw [<- hF];rw [<- hF] at hFl;simp only [<- hM] at hMl hwo hcomp hF;simp only [<- hF] at hcomp
 first
  |(guard_expr zA=zA
    obtain ⟨L, hL⟩ : ∃ L, L = H ++ zw 8 := ⟨_, rfl⟩;have hLl : L.length = 16 := by rw [hL, aZN, hH]; rfl
    obtain ⟨R, hR⟩ : ∃ R, R = F ++ zw 8 := ⟨_, rfl⟩;have hRl : R.length = 16 := by rw [hR, aZN, hFl]; rfl
    have hLH : ∀ k v, k < 8 -> H[k]? = some v -> L[k]? = some v := fun k v hk h => by rw [hL, bZH (by omega), h]
    have hRF : ∀ k v, k < 8 -> F[k]? = some v -> R[k]? = some v := fun k v hk h => by rw [hR, bZH (by omega), h])
  |(obtain ⟨L, hL⟩ : ∃ L, L = H.map (fun x => x.toUInt64) ++ zw 8 := ⟨_, rfl⟩
    have hLl : L.length = 16 := by rw [hL, aZN, bZE, hH]; rfl
    obtain ⟨R, hR⟩ : ∃ R, R = F.map (fun x => x.toUInt64) ++ zw 8 := ⟨_, rfl⟩;have hRl : R.length = 16 := by rw [hR, aZN, bZE, hFl]; rfl
    have hLH : ∀ k v, k < 8 -> H[k]? = some v -> L[k]? = some (UInt32.toUInt64 v) := fun k v hk h => by rw [hL, bZH (by rw [bZE]; omega), bZK, h]; rfl
    have hRF : ∀ k v, k < 8 -> F[k]? = some v -> R[k]? = some (UInt32.toUInt64 v) := fun k v hk h => by rw [hR, bZH (by rw [bZE]; omega), bZK, h]; rfl)
 have hfin : halfW R L 8 = R := by
  unfold halfW
  first
   |(guard_expr zA=zA;rw [hR, hL, List.take_left' hFl, List.drop_left' hH])
   |(rw [hR, hL, List.take_left' (by rw [bZE]; exact hFl), List.drop_left' (by rw [bZE]; exact hH)])
 rw [<- hL, <- hR];have HH := zH hH; have HX := zH hx; have HRS := zH hr; have HWO := zH hwo; have HC := zH hcomp; have HML := zH hMl; have HFL := zH hFl; have HLL := zH hLl; have HRL := zH hRl; have HLH := zH hLH; have HRF := zH hRF; have HFIN := zH hfin;clear hH hx hr hwo hcomp hMl hFl hM hF hL hLl hR hRl hLH hRF hfin
 first
  |(guard_expr zA=zA
    have hu8 := zH Tryz.underlying150; have hu16 := zH Tryz.underlying97;have s8 := zH (sz8w H HH); have sM := zH (sz16w M HML); have sF := zH (sz8w F HFL); have sR := zH (sz16w R HRL);have aM := zH (wcs_all M); have aF := zH (wcs_all F); have aR := zH (wcs_all R);have hoM : Hid ((wcs (zw 16)).size = (wcs M).size) := by show _ = _; rw [wcs_size, wcs_size, HML.out]; rfl
    have hoF : Hid ((wcs H).size = (wcs F).size) := by show _ = _; rw [wcs_size, wcs_size, HFL.out, HH.out])
  |(have hu8 := zH Tryz.underlying154; have hu16 := zH Tryz.underlying97; have hu3 := zH Tryz.underlying155
    have s8 := zH (sz8s H HH); have sM := zH (sz16s M HML); have sF := zH (sz8s F HFL); have sR := zH (sz16w R HRL);have aM := zH (wc3_all M); have aF := zH (wc3_all F); have aR := zH (wcs_all R);have hoM : Hid ((wc3 (zw3 16)).size = (wc3 M).size) := by show _ = _; rw [wc3_size, wc3_size, HML.out]; rfl
    have hoF : Hid ((wc3 H).size = (wc3 F).size) := by show _ = _; rw [wc3_size, wc3_size, HFL.out, HH.out])
 have hoR : Hid ((wcs (zw 16)).size = (wcs R).size) := by show _ = _; rw [wcs_size, wcs_size, HRL.out]; rfl
 go_enter Tryz.func77, Tryz.ntmps77
 first
  |(guard_expr zA=zA
    go_upto_region 3 with fail
    have n0 : Blk (((w.alloc (.cells (wcs L) 97)).alloc (.cells z16 97)).alloc (.cells z8 150)) w.heap.size 97 (wcs L) := ((Blk.new _ _ _).alloc _).alloc _;have n1 : Blk (((w.alloc (.cells (wcs L) 97)).alloc (.cells z16 97)).alloc (.cells z8 150)) (w.heap.size + 1) 97 (wcs (zw 16)) := by
     have := (Blk.new (w.alloc (.cells (wcs L) 97)) 97 z16).alloc (.cells z8 150); show Blk _ _ _ z16; simpa using this
    have n2 : Blk (((w.alloc (.cells (wcs L) 97)).alloc (.cells z16 97)).alloc (.cells z8 150)) (w.heap.size + 1 + 1) 150 (wcs (fillU H 0 8)) := by
     have := Blk.new ((w.alloc (.cells (wcs L) 97)).alloc (.cells z16 97)) 150 z8; show Blk _ _ _ z8; simpa using this
    have n4 := bal (bal (bal (b0 w) (.cells (wcs L) 97)) (.cells z16 97)) (.cells z8 150))
  |(go_upto_region 15 with fail
    have n0 : Blk (((w.alloc (.cells (wcs L) 97)).alloc (.cells z16 97)).alloc (.cells z8s 154)) w.heap.size 97 (wcs L) := ((Blk.new _ _ _).alloc _).alloc _;have n1 : Blk (((w.alloc (.cells (wcs L) 97)).alloc (.cells z16 97)).alloc (.cells z8s 154)) (w.heap.size + 1) 97 (wcs (zw 16)) := by
     have := (Blk.new (w.alloc (.cells (wcs L) 97)) 97 z16).alloc (.cells z8s 154); show Blk _ _ _ z16; simpa using this
    have n2 : Blk (((w.alloc (.cells (wcs L) 97)).alloc (.cells z16 97)).alloc (.cells z8s 154)) (w.heap.size + 1 + 1) 154 (wc3 (fill3 H 0 8)) := by
     have := Blk.new ((w.alloc (.cells (wcs L) 97)).alloc (.cells z16 97)) 154 z8s; show Blk _ _ _ z8s; simpa using this
    have n4 := bal (bal (bal (b0 w) (.cells (wcs L) 97)) (.cells z16 97)) (.cells z8s 154))
 obtain ⟨g0, hg0⟩ : ∃ g, g = w.heap.size := ⟨_, rfl⟩;obtain ⟨g1, hg1⟩ : ∃ g, g = w.heap.size + 1 := ⟨_, rfl⟩;obtain ⟨g2, hg2⟩ : ∃ g, g = w.heap.size + 1 + 1 := ⟨_, rfl⟩
 first
  |(guard_expr zA=zA;unfold z16 z8 at n0 n1 n2 n4)
  |(unfold z16 z8s at n0 n1 n2 n4)
 rw [<- hg0] at n0; rw [<- hg1] at n1; rw [<- hg2] at n2;rw [<- hg2, <- hg1, <- hg0]
 first
  |(guard_expr zA=zA;generalize ((w.alloc (.cells (wcs L) 97)).alloc (.cells #[.int .u64 0, .int .u64 0, .int .u64 0, .int .u64 0, .int .u64 0, .int .u64 0, .int .u64 0, .int .u64 0, .int .u64 0, .int .u64 0, .int .u64 0, .int .u64 0, .int .u64 0, .int .u64 0, .int .u64 0, .int .u64 0] 97)).alloc (.cells #[.int .u64 0, .int .u64 0, .int .u64 0, .int .u64 0, .int .u64 0, .int .u64 0, .int .u64 0, .int .u64 0] 150) = w4 at *)
  |(generalize ((w.alloc (.cells (wcs L) 97)).alloc (.cells #[.int .u64 0, .int .u64 0, .int .u64 0, .int .u64 0, .int .u64 0, .int .u64 0, .int .u64 0, .int .u64 0, .int .u64 0, .int .u64 0, .int .u64 0, .int .u64 0, .int .u64 0, .int .u64 0, .int .u64 0, .int .u64 0] 97)).alloc (.cells #[.int .u32 0, .int .u32 0, .int .u32 0, .int .u32 0, .int .u32 0, .int .u32 0, .int .u32 0, .int .u32 0] 154) = w4 at *)
 have l01 : g0 < g1 := by omega
 have l12 : g1 < g2 := by omega
 have l0 : Hid (w.heap.size <= g0) := by show _ <= _; omega
 have N0 := zH n0; have N1 := zH n1; have N2 := zH n2; have N4 := zH n4;clear n0 n1 n2 n4 hg0 hg1 hg2;go_wp2_with fail
 first
  |(guard_expr zA=zA;go_loopw [16] (fun i wr => ∃ k : Nat, k <= 8 /\ i = .int .i64 k /\ Blk wr g0 97 (wcs L) /\ Blk wr g1 97 (wcs (zw 16)) /\ Blk wr g2 150 (wcs (fillU H k 8)) /\ Below w.heap.size w wr) (fun i _ => 8 - (intOf i).toNat))
  |(go_loopw [21] (fun i wr => ∃ k : Nat, k <= 8 /\ i = .int .i64 k /\ Blk wr g0 97 (wcs L) /\ Blk wr g1 97 (wcs (zw 16)) /\ Blk wr g2 154 (wc3 (fill3 H k 8)) /\ Below w.heap.size w wr) (fun i _ => 8 - (intOf i).toNat))
 case atStart => exact ⟨0, by omega, rfl, N0.out, N1.out, N2.out, N4.out⟩
 case round =>
  clear N0 N1 N2 N4;obtain ⟨k, hk, rfl, x0, x1, x2, x4⟩ := hrel;have N0 := zH x0; have N1 := zH x1; have N2 := zH x2; have N4 := zH x4; clear x0 x1 x2 x4
  by_cases hlt : k < 8
  ·obtain ⟨u, hu⟩ : ∃ u, u = H.getD k 0 := ⟨_, rfl⟩
   first
    |(guard_expr zA=zA
      have hHk : H[k]? = some u := by rw [hu]; exact getDW H k (by rw [HH.out]; exact hlt)
      have c0 : wr.cell? ⟨g0, k, none⟩ = some (.int .u64 (wrd u)) := by rw [N0.cell, wcs_at' _ k u (HLH.out k u hlt hHk)]
      have c2 : wr.cell? ⟨g2, k, none⟩ = some (wv ((fillU H k 8).getD k 0)) := (N2.cell k).trans (wcs_get _ _ (by rw [fillU_len H k 8 hk HH.out]; exact hlt));generalize wv ((fillU H k 8).getD k 0) = old at c2)
    |(have hcv := up_down u
      have hHk : H[k]? = some u := by rw [hu]; exact getD3 H k (by rw [HH.out]; exact hlt)
      have c0 : wr.cell? ⟨g0, k, none⟩ = some (.int .u64 (wrd (UInt32.toUInt64 u))) := by rw [N0.cell, wcs_at' _ k _ (HLH.out k u hlt hHk)]
      have c2 : wr.cell? ⟨g2, k, none⟩ = some (wv3 ((fill3 H k 8).getD k 0)) := (N2.cell k).trans (wc3_get _ _ (by rw [fill3_len H k 8 hk HH.out]; exact hlt));generalize wv3 ((fill3 H k 8).getD k 0) = old at c2)
   have f2 : wr.frozen? ⟨g2, k, none⟩ = false := N2.frozen k;have hki : (k : Int) < 8 := by omega
   have hk16 : (k : Int) < 16 := by omega
   have hkd : decide ((k : Int) < 8) = true := by simp; omega
   first
    |(guard_expr zA=zA
      have hs2 := N2.set_ k (wv u);rw [fillU_put H k 8 u hlt hHk] at hs2;have hs0 := N0.far (p := ⟨g2, k, none⟩) (by show g0 ≠ g2; omega) (wv u);have hs1 := N1.far (p := ⟨g2, k, none⟩) (by show g1 ≠ g2; omega) (wv u);have hs4 := bput N4.out (p := ⟨g2, k, none⟩) (by have := l0.out; simp; omega) (wv u))
    |(have hs2 := N2.set_ k (wv3 u)
      rw [fill3_put H k 8 u hlt HH.out hHk] at hs2;have hs0 := N0.far (p := ⟨g2, k, none⟩) (by show g0 ≠ g2; omega) (wv3 u);have hs1 := N1.far (p := ⟨g2, k, none⟩) (by show g1 ≠ g2; omega) (wv3 u);have hs4 := bput N4.out (p := ⟨g2, k, none⟩) (by have := l0.out; simp; omega) (wv3 u))
   have HS0 := zH hs0; have HS1 := zH hs1; have HS2 := zH hs2; have HS4 := zH hs4;clear hs0 hs1 hs2 hs4 hu hHk N0 N1 N2 N4;go_wp2_with fail;go_roundw
   case rel => exact ⟨k + 1, by omega, by go_num, HS0.out, HS1.out, HS2.out, HS4.out⟩
   case measure => simp [intOf]; omega
  ·obtain rfl : k = 8 := by omega
   rw [show ((8 : Nat) : Int) = 8 from rfl];clear hlt hk;have x2 := N2.out
   first
    |(guard_expr zA=zA;rw [fillU_all H 8 HH.out] at x2)
    |(rw [fill3_all H 8 HH.out] at x2)
   have M2 := zH x2; clear x2 N2;go_wp2_with fail;refine (HWO _ ((HRS.below N4).more N4.size)).mono ?_;rintro e w5 ⟨rfl, hb5⟩
   first
    |(guard_expr zA=zA
      have q0 := (N0.below hb5 N0.lt).alloc (.cells z16 97);have q1 := (N1.below hb5 N1.lt).alloc (.cells z16 97);have q2 := (M2.below hb5 M2.lt).alloc (.cells z16 97);have q4 := bal (bcall N4 hb5) (.cells z16 97);have q3 : Blk (w5.alloc (.cells z16 97)) w5.heap.size 97 (wcs (zw 16)) := Blk.new _ _ _)
    |(have q0 := (N0.below hb5 N0.lt).alloc (.cells z16s 155)
      have q1 := (N1.below hb5 N1.lt).alloc (.cells z16s 155);have q2 := (M2.below hb5 M2.lt).alloc (.cells z16s 155);have q4 := bal (bcall N4 hb5) (.cells z16s 155);have q3 : Blk (w5.alloc (.cells z16s 155)) w5.heap.size 155 (wc3 (zw3 16)) := Blk.new _ _ _)
   have hs5 : g2 < w5.heap.size := by have := (M2.below hb5 M2.lt).lt; omega
   have hw5 : Hid (w.heap.size <= w5.heap.size) := (bcall N4 hb5).size
   first
    |(guard_expr zA=zA;unfold z16 at q0 q1 q2 q3 q4)
    |(unfold z16s at q0 q1 q2 q3 q4)
   have Q3 := zH q3; clear q3 hb5 N0 N1 M2 N4
   first
    |(guard_expr zA=zA
      go_upto_region 8 with (refine aZE rfl 97 _ _ rfl w5.heap.size (wcs M) rfl rfl 97 _ Q3 sM.out hoM.out aM.out ?_)
      have q3 := Q3.row (wcs M);replace q0 := q0.rowFar (k := w5.heap.size) (by omega) (wcs M); replace q1 := q1.rowFar (k := w5.heap.size) (by omega) (wcs M); replace q2 := q2.rowFar (k := w5.heap.size) (by omega) (wcs M); replace q4 := brow q4 (g := w5.heap.size) hw5.out (wcs M))
    |(go_upto_region 20 with (refine aZE rfl 155 _ _ rfl w5.heap.size (wc3 M) rfl rfl 155 _ Q3 sM.out hoM.out aM.out ?_)
      have q3 := Q3.row (wc3 M);replace q0 := q0.rowFar (k := w5.heap.size) (by omega) (wc3 M); replace q1 := q1.rowFar (k := w5.heap.size) (by omega) (wc3 M); replace q2 := q2.rowFar (k := w5.heap.size) (by omega) (wc3 M); replace q4 := brow q4 (g := w5.heap.size) hw5.out (wc3 M))
   clear Q3;obtain ⟨g3, hg3⟩ : ∃ g, g = w5.heap.size := ⟨_, rfl⟩;rw [<- hg3] at q0 q1 q2 q3 q4 hs5 ⊢
   first
    |(guard_expr zA=zA;generalize (w5.alloc (.cells #[.int .u64 0, .int .u64 0, .int .u64 0, .int .u64 0, .int .u64 0, .int .u64 0, .int .u64 0, .int .u64 0, .int .u64 0, .int .u64 0, .int .u64 0, .int .u64 0, .int .u64 0, .int .u64 0, .int .u64 0, .int .u64 0] 97)).setRow g3 (wcs M) = w6 at *)
    |(generalize (w5.alloc (.cells #[.int .u32 0, .int .u32 0, .int .u32 0, .int .u32 0, .int .u32 0, .int .u32 0, .int .u32 0, .int .u32 0, .int .u32 0, .int .u32 0, .int .u32 0, .int .u32 0, .int .u32 0, .int .u32 0, .int .u32 0, .int .u32 0] 155)).setRow g3 (wc3 M) = w6 at *)
   have Q0 := zH q0; have Q1 := zH q1; have Q2 := zH q2; have Q3 := zH q3; have Q4 := zH q4;clear q0 q1 q2 q3 q4 hg3 hw5
   first
    |(guard_expr zA=zA
      go_upto_region 9 with (first
       | (refine aZH rfl 150 (.tmp 15) rfl g2 rfl 150 (wcs H) (0, 0) _ Q2 hu8.out rfl s8.out ?_)
       | (refine aZH rfl 97 (.tmp 17) rfl g3 rfl 97 (wcs M) (0, 0) _ Q3 hu16.out rfl sM.out ?_)
       | (go_at_call 98; refine (HC _).mono ?_; rintro e w7 ⟨rfl, hb7⟩; have R2 := zH (Q2.below hb7 Q2.lt); have HB7 := zH hb7; clear hb7)
       | (refine aZE rfl 150 _ _ rfl g2 (wcs F) rfl rfl 150 _ R2 sF.out hoF.out aF.out ?_))
      have q2 := R2.row (wcs F);have q0 := (Q0.below HB7.out Q0.lt).rowFar (k := g2) (by omega) (wcs F);have q1 := (Q1.below HB7.out Q1.lt).rowFar (k := g2) (by omega) (wcs F);have q4 := brow (bcall Q4.out HB7.out) (g := g2) (by have := l0.out; omega) (wcs F))
    |(go_upto_region 21 with (first
       | (refine aZH rfl 154 (.tmp 20) rfl g2 rfl 154 (wc3 H) (0, 0) _ Q2 hu8.out rfl s8.out ?_)
       | (refine aZH rfl 155 (.tmp 22) rfl g3 rfl 155 (wc3 M) (0, 0) _ Q3 hu3.out rfl sM.out ?_)
       | (go_at_call 100; refine (HC _).mono ?_; rintro e w7 ⟨rfl, hb7⟩; have R2 := zH (Q2.below hb7 Q2.lt); have HB7 := zH hb7; clear hb7)
       | (refine aZE rfl 154 _ _ rfl g2 (wc3 F) rfl rfl 154 _ R2 sF.out hoF.out aF.out ?_))
      have q2 := R2.row (wc3 F);have q0 := (Q0.below HB7.out Q0.lt).rowFar (k := g2) (by omega) (wc3 F);have q1 := (Q1.below HB7.out Q1.lt).rowFar (k := g2) (by omega) (wc3 F);have q4 := brow (bcall Q4.out HB7.out) (g := g2) (by have := l0.out; omega) (wc3 F))
   clear Q0 Q1 Q2 Q3 Q4 R2 HB7
   first
    |(guard_expr zA=zA;generalize w7.setRow g2 (wcs F) = w8 at *)
    |(generalize w7.setRow g2 (wc3 F) = w8 at *)
   have N0 := zH q0; have N1 := zH q1; have N2 := zH q2; have N4 := zH q4; clear q0 q1 q2 q4;go_wp2_with fail
   first
    |(guard_expr zA=zA;go_loopw [19] (fun i wr => ∃ k : Nat, k <= 8 /\ i = .int .i64 k /\ Blk wr g0 97 (wcs (halfW R L k)) /\ Blk wr g1 97 (wcs (zw 16)) /\ Blk wr g2 150 (wcs F) /\ Below w.heap.size w wr) (fun i _ => 8 - (intOf i).toNat))
    |(go_loopw [24] (fun i wr => ∃ k : Nat, k <= 8 /\ i = .int .i64 k /\ Blk wr g0 97 (wcs (halfW R L k)) /\ Blk wr g1 97 (wcs (zw 16)) /\ Blk wr g2 154 (wc3 F) /\ Below w.heap.size w wr) (fun i _ => 8 - (intOf i).toNat))
   case atStart => exact ⟨0, by omega, rfl, by simpa [halfW] using N0.out, N1.out, N2.out, N4.out⟩
   case round =>
    clear N0 N1 N2 N4;obtain ⟨k, hk, rfl, x0, x1, x2, x4⟩ := hrel;have N0 := zH x0; have N1 := zH x1; have N2 := zH x2; have N4 := zH x4; clear x0 x1 x2 x4
    by_cases hlt : k < 8
    ·obtain ⟨u, hu⟩ : ∃ u, u = F.getD k 0 := ⟨_, rfl⟩
     first
      |(guard_expr zA=zA
        have hFk : F[k]? = some u := by rw [hu]; exact getDW F k (by rw [HFL.out]; exact hlt)
        have c2 : wr.cell? ⟨g2, k, none⟩ = some (.int .u64 (wrd u)) := by rw [N2.cell, wcs_at' _ k u hFk])
      |(have hcv := down_up u
        have hFk : F[k]? = some u := by rw [hu]; exact getD3 F k (by rw [HFL.out]; exact hlt)
        have c2 : wr.cell? ⟨g2, k, none⟩ = some (.int .u32 (wr3 u)) := by rw [N2.cell, wc3_at' _ k u hFk])
     have c0 : wr.cell? ⟨g0, k, none⟩ = some (wv (L.getD k 0)) := (N0.cell k).trans (wcs_at' _ k _ (halfW_at R L k (by rw [HLL.out]; omega) (by rw [HLL.out, HRL.out])));generalize wv (L.getD k 0) = old at c0;have f0 : wr.frozen? ⟨g0, k, none⟩ = false := N0.frozen k;have hki : (k : Int) < 8 := by omega
     have hk16 : (k : Int) < 16 := by omega
     have hkd : decide ((k : Int) < 8) = true := by simp; omega
     first
      |(guard_expr zA=zA
        have hs0 := N0.set_ k (wv u);rw [wcs_set, halfW_put R L k u (HRF.out k u hlt hFk) (by rw [HLL.out, HRL.out])] at hs0;have hs1 := N1.far (p := ⟨g0, k, none⟩) (by show g1 ≠ g0; omega) (wv u);have hs2 := N2.far (p := ⟨g0, k, none⟩) (by show g2 ≠ g0; omega) (wv u);have hs4 := bput N4 (p := ⟨g0, k, none⟩) l0.out (wv u))
      |(have hs0 := N0.set_ k (wv (UInt32.toUInt64 u))
        rw [wcs_set, halfW_put R L k _ (HRF.out k u hlt hFk) (by rw [HLL.out, HRL.out])] at hs0;have hs1 := N1.far (p := ⟨g0, k, none⟩) (by show g1 ≠ g0; omega) (wv (UInt32.toUInt64 u));have hs2 := N2.far (p := ⟨g0, k, none⟩) (by show g2 ≠ g0; omega) (wv (UInt32.toUInt64 u));have hs4 := bput N4 (p := ⟨g0, k, none⟩) l0.out (wv (UInt32.toUInt64 u)))
     have HS0 := zH hs0; have HS1 := zH hs1; have HS2 := zH hs2; have HS4 := zH hs4;clear hs0 hs1 hs2 hs4 hu hFk N0 N1 N2 N4;go_wp2_with fail;go_roundw
     case rel => exact ⟨k + 1, by omega, by go_num, HS0.out, HS1.out, HS2.out, HS4.out⟩
     case measure => simp [intOf]; omega
    ·obtain rfl : k = 8 := by omega
     clear hlt hk;have x0 := N0.out;rw [HFIN.out] at x0;have X0 := zH x0; clear x0 N0;have hl1 : Hid (w.heap.size <= g1) := by show _ <= _; have := l0.out; omega
     first
      |(guard_expr zA=zA;go_upto_region 13 with fail)
      |(go_upto_region 25 with fail)
     go_wp2_with (first
      | (refine aZH rfl 97 _ rfl g0 rfl 97 (wcs R) (0, 0) _ X0 hu16.out rfl sR.out ?_)
      | (refine aZE rfl 97 _ _ rfl g1 (wcs R) rfl rfl 97 _ N1 sR.out hoR.out aR.out ?_))
     exact aZB (aZZ rfl _ _ g1 _ _ (0, 0) _ rfl (N1.row _) hu16.out rfl sR.out) rfl ⟨rfl, brow N4 hl1.out _⟩
 ) : P := h
theorem zS14 {P : Prop} (h : P := by
 first
  |(guard_expr zB=zB
    have hd := fun W hr => refDecoded_any big sb.A sb.n sb.c b W hok hin.bl hin.bc.1 hr
    have hkl : key.length = 0 \/ key.length = fld b 1 1 := by rw [hin.kl]; exact hkey
    have hha : ∀ (X : Pr) (ext : Bool) (s t : Sl) (W : World), X = decPr big ext b s t -> decOk big ext b -> Trim (s1L big b) s.n -> Trim (s2L big b) t.n -> RS cB W W.heap.size s.A ((s1L big b).take s.n) -> RS cB W W.heap.size t.A ((s2L big b).take t.n) -> RS cB W W.heap.size sk.A key -> RS cB W W.heap.size sd.A data ->
      Calls Tryz.prog 34 #[.int .i64 (kOf big), X.v, .slice sk.A sk.n sk.c, .bool last, .int .i64 m, .slice sd.A sd.n sd.c] W fun r w' => ∃ A n c cc, r = .returned (.tuple #[.slice A n cc, .int .i64 (callS (kOf big) b key last m data).2]) /\ (callS (kOf big) b key last m data).1.length = n /\ n <= cc /\ OS cB w' W.heap.size A c (callS (kOf big) b key last m data).1 /\ Below W.heap.size W w' := by
     intro X ext s t W hX hdo hT1 hT2 hr1 hr2 hrk hrd;subst hX;have l1 := Trim.le4 hT1;have l2 := Trim.le4' hT2;rw [<- hashS_dec key last m data hdo hT1 hT2 (by omega) (by omega) hkl];exact refHashS_any (kOf big) last m (decPr big ext b s t) ((s1L big b).take s.n) ((s2L big b).take t.n) key data sk.A sd.A sk.n sk.c sd.n sd.c W (fit_dec _ _ _ _ _) (by rw [aZJ]; exact Nat.min_eq_left hT1.1) (by rw [aZJ]; exact Nat.min_eq_left hT2.1) hr1 hr2 hin.kl hrk hin.dl h47 hrd
    have x0 : ((sk.n : Int) != 0) = false \/ (((sk.n : Int) != 0) = true /\ ((sk.n : Int) != ((fld b 1 1 : Nat) : Int)) = false) := by
     by_cases h : sk.n = 0
     ·exact .inl (by simpa using h)
     ·exact .inr ⟨by simpa using h, by have := hkey.resolve_left h; rw [this]; simp⟩
    obtain ⟨d1, e1⟩ : ∃ d, d = fld b 1 1 := ⟨_, rfl⟩;rw [<- e1] at x0;have HD1 := zH e1)
  |(guard_expr zA=zA
    have hd := fun W hr => refDecoded_any big sb.A sb.n sb.c b W hok hin.bl hin.bc.1 hr
    have x1 : ((sk.n : Int) != 0) = true := by simpa using h1
    have x2 : ((sk.n : Int) != ((fld b 1 1 : Nat) : Int)) = true := by
     rw [bne_iff_ne];exact fun h => h2 (Int.ofNat.inj h)
    obtain ⟨d1, e1⟩ : ∃ d, d = fld b 1 1 := ⟨_, rfl⟩;rw [<- e1] at x2;have HD1 := zH e1)
  |(have hd := fun W hr => refDecodedNo_any big sb.A sb.n sb.c b W hok hin.bl hin.bc.1 hr)
 have HD := zH hd
 first
  |(guard_expr zB=zB;have HHA := zH hha)
  |(skip)
 have tk := kind_tests big
 first
  |(guard_expr zB=zB
    generalize callS (kOf big) b key last m data = R at *;clear hok hd hkey hkl hha e1 h47;rcases tk with tk1 | ⟨tk1, tk2⟩ <;> rcases x0 with x1 | ⟨x1, x2⟩)
  |(guard_expr zA=zA
    clear hok hd h1 h2 e1;rcases tk with tk1 | ⟨tk1, tk2⟩)
  |(clear hok hd
    rcases tk with tk1 | ⟨tk1, tk2⟩)
 all_goals
  have HIN := zH hin; clear hin;generalize kOf big = k at *;have hu := zH Tryz.underlying81;go_enter Tryz.func56, Tryz.ntmps56;have HC := zH (Blk.new w 107 (callV k sb sk sd last m));have HB := zH (bal (b0 w) (.cells (callV k sb sk sd last m) 107));unfold callV;go_upto_region 1 with fail
  rw [show #[Value.int .i64 k, .slice sb.A sb.n sb.c, .slice sk.A sk.n sk.c, .bool last, .int .i64 m, .slice sd.A sd.n sd.c] = callV k sb sk sd last m from rfl];generalize w.alloc (.cells (callV k sb sk sd last m) 107) = u at *;have c0 : u.cell? ⟨w.heap.size, 0, none⟩ = some (.int .i64 k) := HC.cell 0;have c1 : u.cell? ⟨w.heap.size, 1, none⟩ = some (.slice sb.A sb.n sb.c) := HC.cell 1;have c2 : u.cell? ⟨w.heap.size, 2, none⟩ = some (.slice sk.A sk.n sk.c) := HC.cell 2;have c3 : u.cell? ⟨w.heap.size, 3, none⟩ = some (.bool last) := HC.cell 3;have c4 : u.cell? ⟨w.heap.size, 4, none⟩ = some (.int .i64 m) := HC.cell 4;have c5 : u.cell? ⟨w.heap.size, 5, none⟩ = some (.slice sd.A sd.n sd.c) := HC.cell 5;go_upto_region 4 with fail
  go_wp2_with fail;refine (HD _ ((HIN.below HB).br)).mono ?_;clear c0 c1 c2 c3 c4 c5
  first
   |(guard_expr zC=zC;rintro e1 u ⟨X, e, rfl, he, hb1⟩)
   |(rintro e1 u ⟨X, ext, s, t, rfl, hX, hT1, hT2, ho1, ho2, hb1⟩
     have HX := zH hX; have HT1 := zH hT1; have HT2 := zH hT2;have HO1 := zH (ho1.mono HB.size); have HO2 := zH (ho2.mono HB.size))
  replace HC := zH (HC.below hb1 HC.lt);replace HB := zH (bcall HB hb1)
  first
   |(guard_expr zC=zC)
   |(clear hb1 hX hT1 hT2 ho1 ho2)
  go_upto_region 5 with (refine aZE rfl 81 _ _ rfl u.heap.size X.cs rfl rfl 81 zcs (Blk.new _ _ _) (Pr.size _) rfl (Pr.ones _) ?_)
  have HG := zH ((Blk.new u 81 zcs).row X.cs);obtain ⟨g, hg⟩ : ∃ g, g = u.heap.size := ⟨_, rfl⟩;have HNE := zH (show w.heap.size ≠ g by rw [hg]; exact Nat.ne_of_lt HC.lt);replace HC := zH ((HC.alloc (.cells zcs 81)).rowFar (by rw [hg] at HNE; exact HNE.out) X.cs);replace HB := zH (brow (g := u.heap.size) (bal HB (.cells zcs 81)) HB.size X.cs)
  first
   |(guard_expr zC=zC)
   |(replace HO1 := zH ((HO1.alloc (.cells zcs 81)).of_block (fun a ha => bZC _ _ _ _ ((HO1.alloc (.cells zcs 81)).ne_blk (Blk.new u 81 zcs) (by show 5 ≠ 81; decide) a ha)) : OS cB ((u.alloc (.cells zcs 81)).setRow u.heap.size X.cs) w.heap.size _ _ _)
     replace HO2 := zH ((HO2.alloc (.cells zcs 81)).of_block (fun a ha => bZC _ _ _ _ ((HO2.alloc (.cells zcs 81)).ne_blk (Blk.new u 81 zcs) (by show 5 ≠ 81; decide) a ha)) : OS cB ((u.alloc (.cells zcs 81)).setRow u.heap.size X.cs) w.heap.size _ _ _))
  have hz : zcs = #[.int .i64 0, .int .i64 0, .int .i64 0, .int .i64 0, .int .u32 0, .int .u64 0, .int .u32 0, .int .i64 0, .int .i64 0, .slice none 0 0, .slice none 0 0] := rfl
  (try rw [<- hz])
  clear hz;rw [<- hg] at HG HC HB ⊢
  (try rw [<- hg] at HO1 HO2)
  clear hg;generalize (u.alloc (.cells zcs 81)).setRow g X.cs = u at *;have c0 : u.cell? ⟨w.heap.size, 0, none⟩ = some (.int .i64 k) := HC.cell 0;have c1 : u.cell? ⟨w.heap.size, 1, none⟩ = some (.slice sb.A sb.n sb.c) := HC.cell 1;have c2 : u.cell? ⟨w.heap.size, 2, none⟩ = some (.slice sk.A sk.n sk.c) := HC.cell 2;have c3 : u.cell? ⟨w.heap.size, 3, none⟩ = some (.bool last) := HC.cell 3;have c4 : u.cell? ⟨w.heap.size, 4, none⟩ = some (.int .i64 m) := HC.cell 4;have c5 : u.cell? ⟨w.heap.size, 5, none⟩ = some (.slice sd.A sd.n sd.c) := HC.cell 5
  first
   |(guard_expr zB=zB
     have k1 : u.cell? ⟨g, 1, none⟩ = some (.int .i64 d1) := (HG.cell 1).trans (by rw [HX.out.2, HD1.out]; rfl);go_wp2_with (first
      | (refine wpList_load_row rfl 81 _ rfl g rfl 81 X.cs (0, 0) _ HG hu.out rfl (Pr.size _) ?_)
      | (go_at_call 34; refine (HHA X ext s t _ HX.out.2 HX.out.1 HT1 HT2 HO1.reads HO2.reads ((HIN.below HB).kr) ((HIN.below HB).dr)).mono ?_; rintro e2 w2 ⟨A2, n2, c2, cc2, rfl, hl2, hn2, ho2, hb2⟩; have HL2 := zH hl2; have HN2 := zH hn2; have HO3 := zH ho2; have HB2 := zH hb2; clear hl2 hn2 ho2 hb2))
     exact aZB (aZG rfl _ _ _) rfl ⟨A2, n2, c2, cc2, rfl, HL2.out, HN2.out, HO3.mono HB.size, bcall HB HB2.out⟩)
   |(guard_expr zA=zA
     have k1 : u.cell? ⟨g, 1, none⟩ = some (.int .i64 d1) := (HG.cell 1).trans (by rw [HX.out.2, HD1.out]; rfl);go_wp2;exact aZB (aZG rfl _ _ _) rfl ⟨rfl, HB.out⟩)
   |(go_wp2
     exact aZB (aZG rfl _ _ _) rfl ⟨rfl, HB.out⟩)
 ) : P := h
theorem zS15 {P : Prop} (h : P := by
 first
  |(guard_expr zA=zA
    have hcl := wrap_lo cnt; have hch := wrap_hi cnt;generalize lo32 cnt = lo at *;generalize hi32 cnt = hi at *;have HH := zH hH; clear hH;have hG : Hid (initOf3 H lo hi last node = (let v := ((H ++ iv32).set 12 (0x510e527f ^^^ lo)).set 13 (0x9b05688c ^^^ hi); let v := if last then v.set 14 (~~~ 0x1f83d9ab) else v; if node then v.set 15 (~~~ 0x5be0cd19) else v)) := rfl;generalize initOf3 H lo hi last node = G at *;go_enter Tryz.func169, Tryz.ntmps169;go_upto_region 2 with fail
    obtain ⟨w1, hw1⟩ : ∃ w1, w1 = w.alloc (.cells (wc3 H) 154) := ⟨_, rfl⟩;obtain ⟨w3, hw3⟩ : ∃ w3, w3 = w1.alloc (.cells (wc3 (zw3 16)) 155) := ⟨_, rfl⟩;obtain ⟨w4, hw4⟩ : ∃ w4, w4 = w3.alloc (.cells (wc3 (zw3 16)) 155) := ⟨_, rfl⟩;have e4 : ((w.alloc (.cells (wc3 H) 154)).alloc (.cells z16s 155)).alloc (.cells z16s 155) = w4 := by rw [hw4, hw3, hw1]; rfl
    unfold z16s at e4;rw [e4];have n0 : Blk w4 w.heap.size 154 (wc3 H) := by rw [hw4, hw3, hw1]; exact ((Blk.new _ _ _).alloc _).alloc _
    have n2 : Blk w4 (w.heap.size + 1) 155 (wc3 (zw3 16)) := by
     have : w1.heap.size = w.heap.size + 1 := by rw [hw1]; simp
     rw [<- this, hw4, hw3]; exact (Blk.new _ _ _).alloc _
    have n3 : Blk w4 (w.heap.size + 1 + 1) 155 (wc3 (zw3 16)) := by
     have : w3.heap.size = w.heap.size + 1 + 1 := by rw [hw3, hw1]; simp
     rw [<- this, hw4]; exact Blk.new _ _ _
    have n4 : Below w.heap.size w w4 := by rw [hw4, hw3, hw1]; exact bal (bal (bal (b0 _) _) _) _
    clear hw1 hw3 hw4 e4 w1 w3;obtain ⟨g0, hg0⟩ : ∃ g, g = w.heap.size := ⟨_, rfl⟩;obtain ⟨g2, hg2⟩ : ∃ g, g = w.heap.size + 1 := ⟨_, rfl⟩;obtain ⟨g3, hg3⟩ : ∃ g, g = w.heap.size + 1 + 1 := ⟨_, rfl⟩;rw [<- hg3, <- hg2, <- hg0];rw [<- hg0] at n0; rw [<- hg2] at n2; rw [<- hg3] at n3;have l02 : g0 < g2 := by omega
    have l23 : g2 < g3 := by omega
    have l0 : Hid (w.heap.size <= g0) := by show _ <= _; omega
    have N0 := zH n0; have N2 := zH n2; have N3 := zH n3; have N4 := zH n4;clear n0 n2 n3 n4 hg0 hg2 hg3;go_wp2_with fail;refine (iv3_any _).mono ?_;rintro e w6 ⟨rfl, hb6⟩;have l5 := N3.lt;replace N0 := zH (N0.below hb6 N0.lt); replace N2 := zH (N2.below hb6 N2.lt); replace N3 := zH (N3.below hb6 N3.lt); replace N4 := zH (bcall N4 hb6);have l6 := hb6.size;have IVl : Hid (iv32.length = 8) := rfl;have S8 := zH (sz8s iv32 IVl);have AL := zH (wc3_all iv32);have hIV : Hid (iv32 = [0x6a09e667, 0xbb67ae85, 0x3c6ef372, 0xa54ff53a, 0x510e527f, 0x9b05688c, 0x1f83d9ab, 0x5be0cd19]) := rfl;generalize iv32 = I at *;have n6 := zH (Blk.new w6 154 (wc3 (zw3 8)));have hold : Hid ((wc3 (zw3 8)).size = (wc3 I).size) := by show _ = _; rw [wc3_size, wc3_size, IVl.out]; rfl
    change Hid (Blk (w6.alloc (.cells #[.int .u32 0, .int .u32 0, .int .u32 0, .int .u32 0, .int .u32 0, .int .u32 0, .int .u32 0, .int .u32 0] 154)) w6.heap.size 154 (wc3 (zw3 8))) at n6;go_upto_region 3 with (refine aZE rfl 154 _ _ rfl w6.heap.size (wc3 I) rfl rfl 154 _ n6.out S8 hold.out AL ?_)
    have v0 := (N0.alloc (.cells (wc3 (zw3 8)) 154)).rowFar (k := w6.heap.size) (by omega) (wc3 I);have v2 := (N2.alloc (.cells (wc3 (zw3 8)) 154)).rowFar (k := w6.heap.size) (by omega) (wc3 I);have v3 := (N3.alloc (.cells (wc3 (zw3 8)) 154)).rowFar (k := w6.heap.size) (by omega) (wc3 I);have v4 := brow (bal N4 (.cells (wc3 (zw3 8)) 154)) N4.size (wc3 I);have v5 := n6.row (wc3 I);change Blk (World.setRow (w6.alloc (.cells #[.int .u32 0, .int .u32 0, .int .u32 0, .int .u32 0, .int .u32 0, .int .u32 0, .int .u32 0, .int .u32 0] 154)) _ _) _ _ _ at v0;change Blk (World.setRow (w6.alloc (.cells #[.int .u32 0, .int .u32 0, .int .u32 0, .int .u32 0, .int .u32 0, .int .u32 0, .int .u32 0, .int .u32 0] 154)) _ _) _ _ _ at v2;change Blk (World.setRow (w6.alloc (.cells #[.int .u32 0, .int .u32 0, .int .u32 0, .int .u32 0, .int .u32 0, .int .u32 0, .int .u32 0, .int .u32 0] 154)) _ _) _ _ _ at v3;change Below _ _ (World.setRow (w6.alloc (.cells #[.int .u32 0, .int .u32 0, .int .u32 0, .int .u32 0, .int .u32 0, .int .u32 0, .int .u32 0, .int .u32 0] 154)) _ _) at v4;have l36 : g3 < w6.heap.size := by omega
    obtain ⟨g6, hg6⟩ : ∃ g6, g6 = w6.heap.size := ⟨_, rfl⟩;rw [<- hg6] at v0 v2 v3 v4 v5 l36 ⊢;clear n6 hold N0 N2 N3 N4 hg6 hb6 l5 l6;generalize (w6.alloc (.cells #[.int .u32 0, .int .u32 0, .int .u32 0, .int .u32 0, .int .u32 0, .int .u32 0, .int .u32 0, .int .u32 0] 154)).setRow g6 (wc3 I) = w7 at *;have N0 := zH v0; have N2 := zH v2; have N3 := zH v3; have N4 := zH v4; have N5 := zH v5; clear v0 v2 v3 v4 v5;have e1 : (zw3 16).take 0 ++ (H ++ (zw3 16).drop (0 + 8)) = H ++ zw3 8 := rfl;refine wrZ (fun _ => True) (fun _ _ h => h) (Ords.of [(0, 0), (0, 1), (2, 2)] .fin) trivial ?_
    iterate 2 (refine ords_pure rfl (fun K hK => ?_); go_simp; refine hK _ ?_; clear hK K)
    refine ords_loud rfl (fun n1 => ?_);refine wpList_copy3 rfl (.tmp 12) (.tmp 13) rfl g3 0 g0 8 16 8 rfl rfl (zw3 16) H 155 154 (N3.drewN n1) (N0.drewN n1) HH.out (by decide) ?_; rw [e1]; clear e1; go_wp2
    first | (refine ⟨trivial, ?_⟩; refine ords_end (fun n2 => ?_)) | (rintro _ ⟨n2, rfl⟩)
    have v3 := ((N3.drewN n1).row (wc3 (H ++ zw3 8))).drewN n2;have v2 := ((N2.drewN n1).rowFar (k := g3) (by omega) (wc3 (H ++ zw3 8))).drewN n2;have v5 := ((N5.drewN n1).rowFar (k := g3) (by omega) (wc3 (H ++ zw3 8))).drewN n2;have v4 := bdr (brow (bdr N4.out n1) (g := g3) (by have := l0.out; omega) (wc3 (H ++ zw3 8))) n2;clear N0 N2 N3 N4 N5;generalize ((w7.drewN n1).setRow g3 (wc3 (H ++ zw3 8))).drewN n2 = w7 at *;have N2 := zH v2; have N3 := zH v3; have N4 := zH v4; have N5 := zH v5; clear v2 v3 v4 v5;go_upto_region 4 with fail
    have hHz : Hid ((H ++ zw3 8).length = 16) := by show _ = _; rw [aZN, HH.out]; rfl
    have e1 : (H ++ zw3 8).take 8 ++ (I ++ (H ++ zw3 8).drop (8 + 8)) = H ++ I := by
     rw [List.take_left' HH.out, List.drop_eq_nil_of_le (by rw [hHz.out]; omega), List.append_nil]
    refine wrZ (fun _ => True) (fun _ _ h => h) (Ords.of [(0, 0), (0, 1), (2, 2)] .fin) trivial ?_
    iterate 2 (refine ords_pure rfl (fun K hK => ?_); go_simp; refine hK _ ?_; clear hK K)
    refine ords_loud rfl (fun n1 => ?_);refine wpList_copy3 rfl (.tmp 15) (.tmp 16) rfl g3 8 g6 8 8 8 rfl rfl (H ++ zw3 8) I 155 154 (N3.drewN n1) (N5.drewN n1) IVl.out (by rw [hHz.out]; omega) ?_; rw [e1]; clear e1; go_wp2
    first | (refine ⟨trivial, ?_⟩; refine ords_end (fun n2 => ?_)) | (rintro _ ⟨n2, rfl⟩)
    have v3 := ((N3.drewN n1).row (wc3 (H ++ I))).drewN n2;have v2 := ((N2.drewN n1).rowFar (k := g3) (by omega) (wc3 (H ++ I))).drewN n2;have v4 := bdr (brow (bdr N4.out n1) (g := g3) (by have := l0.out; omega) (wc3 (H ++ I))) n2;clear N2 N3 N4 N5 hHz AL S8;generalize ((w7.drewN n1).setRow g3 (wc3 (H ++ I))).drewN n2 = w8 at *;have N2 := zH v2; have N3 := zH v3; have N4 := zH v4; clear v2 v3 v4)
  |(obtain rfl : k = 8 := by omega
    clear hlt hk;have hN3 := N3.out;rw [halves3_all H I HH.out IVl.out] at hN3)
 obtain ⟨i4, hi4⟩ : ∃ i, i = (0x510e527f : UInt32) := ⟨_, rfl⟩;obtain ⟨i5, hi5⟩ : ∃ i, i = (0x9b05688c : UInt32) := ⟨_, rfl⟩;obtain ⟨i6, hi6⟩ : ∃ i, i = (0x1f83d9ab : UInt32) := ⟨_, rfl⟩;obtain ⟨i7, hi7⟩ : ∃ i, i = (0x5be0cd19 : UInt32) := ⟨_, rfl⟩;have hI := hIV.out;have hGG := hG.out;rw [<- hi4, <- hi5, <- hi6, <- hi7] at hI;rw [<- hi4, <- hi5, <- hi6, <- hi7] at hGG
 first
  |(guard_expr zA=zA;clear hIV hG hi4 hi5 hi6 hi7)
  |(clear hIV hG hi4 hi5 hi6 hi7 hiv)
 obtain ⟨V, hV⟩ : ∃ V, V = H ++ I := ⟨_, rfl⟩
 first
  |(guard_expr zA=zA
    rw [<- hV] at N3 hGG;have hVl : V.length = 16 := by rw [hV, aZN, HH.out, IVl.out]
    have c12 : w8.cell? ⟨g3, 12, none⟩ = some (.int .u32 (wr3 i4)) := by rw [N3.cell, wc3_at' V 12 i4 (by rw [hV, aZV (by rw [HH.out]; omega), HH.out, hI]; rfl)]
    have c13 : w8.cell? ⟨g3, 13, none⟩ = some (.int .u32 (wr3 i5)) := by rw [N3.cell, wc3_at' V 13 i5 (by rw [hV, aZV (by rw [HH.out]; omega), HH.out, hI]; rfl)]
    have c14 : w8.cell? ⟨g3, 14, none⟩ = some (.int .u32 (wr3 i6)) := by rw [N3.cell, wc3_at' V 14 i6 (by rw [hV, aZV (by rw [HH.out]; omega), HH.out, hI]; rfl)]
    have c15 : w8.cell? ⟨g3, 15, none⟩ = some (.int .u32 (wr3 i7)) := by rw [N3.cell, wc3_at' V 15 i7 (by rw [hV, aZV (by rw [HH.out]; omega), HH.out, hI]; rfl)]
    have ff : ∀ i, w8.frozen? ⟨g3, i, none⟩ = false := N3.frozen)
  |(rw [<- hV] at hN3 hGG
    have hVl : V.length = 16 := by rw [hV, List.length_append, HH.out, IVl.out]
    have c12 : wr.cell? ⟨g3, 12, none⟩ = some (.int .u32 (wr3 i4)) := by rw [hN3.cell, wc3_at' V 12 i4 (by rw [hV, aZV (by rw [HH.out]; omega), HH.out, hI]; rfl)]
    have c13 : wr.cell? ⟨g3, 13, none⟩ = some (.int .u32 (wr3 i5)) := by rw [hN3.cell, wc3_at' V 13 i5 (by rw [hV, aZV (by rw [HH.out]; omega), HH.out, hI]; rfl)]
    have c14 : wr.cell? ⟨g3, 14, none⟩ = some (.int .u32 (wr3 i6)) := by rw [hN3.cell, wc3_at' V 14 i6 (by rw [hV, aZV (by rw [HH.out]; omega), HH.out, hI]; rfl)]
    have c15 : wr.cell? ⟨g3, 15, none⟩ = some (.int .u32 (wr3 i7)) := by rw [hN3.cell, wc3_at' V 15 i7 (by rw [hV, aZV (by rw [HH.out]; omega), HH.out, hI]; rfl)]
    have ff : ∀ i, wr.frozen? ⟨g3, i, none⟩ = false := hN3.frozen)
 have h2 := wr3_xor
 first
  |(guard_expr zA=zA
    have HV := zH hVl; have HGG := zH hGG; clear hV hVl hI hGG IVl;have h3 := wr3_not;have h3' : ∀ x : UInt32, bits .xor .u32 (if IntKind.u32.signed = true then -1 else IntKind.u32.max) (wr3 x) = wr3 (~~~ x) := wr3_not;have z12 := N3.set_ 12 (wv3 (i4 ^^^ lo)))
  |(have HV := zH hVl; have HGG := zH hGG; clear hV hVl hI hGG IVl sI aI hoI
    have h3 := wr3_not';have z12 := hN3.set_ 12 (wv3 (i4 ^^^ lo)))
 rw [wc3_set] at z12;have z13 := z12.set_ 13 (wv3 (i5 ^^^ hi));rw [wc3_set] at z13;have z14 := z13.set_ 14 (wv3 (~~~ i6));rw [wc3_set] at z14;have z15 := z13.set_ 15 (wv3 (~~~ i7));rw [wc3_set] at z15
 first
  |(guard_expr zA=zA
    have z16s := z14.set_ 15 (wv3 (~~~ i7));rw [wc3_set] at z16s;have Z13 := zH z13; have Z14 := zH z14; have Z15 := zH z15; have Z16 := zH z16s; clear z12 z13 z14 z15 z16s)
  |(have z16 := z14.set_ 15 (wv3 (~~~ i7))
    rw [wc3_set] at z16;have Z13 := zH z13; have Z14 := zH z14; have Z15 := zH z15; have Z16 := zH z16; clear z12 z13 z14 z15 z16)
 have hlr : Hid (w.heap.size <= g3) := by show _ <= _; have := l0.out; omega
 have hw13 := bput (bput N4 (p := ⟨g3, 12, none⟩) hlr.out (wv3 (i4 ^^^ lo))) (p := ⟨g3, 13, none⟩) hlr.out (wv3 (i5 ^^^ hi));have hl2 : Hid (w.heap.size <= g2) := by show _ <= _; have := l0.out; omega
 have y2 := (N2.far (p := ⟨g3, 12, none⟩) (by simp; omega) (wv3 (i4 ^^^ lo))).far (p := ⟨g3, 13, none⟩) (by simp; omega) (wv3 (i5 ^^^ hi));have Y2 := zH y2; have HW := zH hw13; have hg23 : g2 ≠ g3 := by omega
 first
  |(guard_expr zA=zA;clear y2 hw13 N2 N3 N4)
  |(clear y2 hw13 N1 N2 N3 N4 N5 hN3)
 have hu := zH Tryz.underlying155;have hsz : Hid (∀ L : List UInt32, L.length = 16 -> (Tryz.prog.info? 155).map (·.size) = some (wc3 L).size) := sz16s;have hall := zH wc3_all;have hold : Hid (∀ L : List UInt32, L.length = 16 -> (wc3 (zw3 16)).size = (wc3 L).size) := fun L h => by rw [wc3_size, wc3_size, h]; rfl
 cases last <;> cases node
 ·have hg := HGG.out
  simp only [bZQ, if_false] at hg;have HG2 := zH hg; clear hg;have hl : Hid (G.length = 16) := by show _ = _; rw [HG2.out]; simp [HV.out]
  first
   |(guard_expr zA=zA
     have hz : Hid (Blk ((w8.setCell ⟨g3, 12, none⟩ (.int .u32 (wr3 (i4 ^^^ lo)))).setCell ⟨g3, 13, none⟩ (.int .u32 (wr3 (i5 ^^^ hi)))) g3 155 (wc3 G)) := by show Blk _ _ _ _; rw [HG2.out]; exact Z13.out
     have hy : Hid (Blk ((w8.setCell ⟨g3, 12, none⟩ (.int .u32 (wr3 (i4 ^^^ lo)))).setCell ⟨g3, 13, none⟩ (.int .u32 (wr3 (i5 ^^^ hi)))) g2 155 (wc3 (zw3 16))) := Y2.out;have hx : Hid (Below w.heap.size w ((w8.setCell ⟨g3, 12, none⟩ (.int .u32 (wr3 (i4 ^^^ lo)))).setCell ⟨g3, 13, none⟩ (.int .u32 (wr3 (i5 ^^^ hi))))) := HW.out;go_upto_region 11 with fail)
   |(have hz : Hid (Blk ((wr.setCell ⟨g3, 12, none⟩ (.int .u32 (wr3 (i4 ^^^ lo)))).setCell ⟨g3, 13, none⟩ (.int .u32 (wr3 (i5 ^^^ hi)))) g3 155 (wc3 G)) := by show Blk _ _ _ _; rw [HG2.out]; exact Z13.out
     have hy : Hid (Blk ((wr.setCell ⟨g3, 12, none⟩ (.int .u32 (wr3 (i4 ^^^ lo)))).setCell ⟨g3, 13, none⟩ (.int .u32 (wr3 (i5 ^^^ hi)))) g2 155 (wc3 (zw3 16))) := Y2.out;have hx : Hid (Below w.heap.size w ((wr.setCell ⟨g3, 12, none⟩ (.int .u32 (wr3 (i4 ^^^ lo)))).setCell ⟨g3, 13, none⟩ (.int .u32 (wr3 (i5 ^^^ hi))))) := HW.out;go_upto_region 14 with fail)
  go_wp2_with (first
   | (refine aZH rfl 155 _ rfl g3 rfl 155 (wc3 G) (0, 0) _ hz.out hu.out rfl (hsz.out G hl.out) ?_)
   | (refine aZE rfl 155 _ _ rfl g2 (wc3 G) rfl rfl 155 _ hy.out (hsz.out G hl.out) (hold.out G hl.out) (hall.out G) ?_))
  exact aZB (aZZ rfl _ _ g2 _ _ (0, 0) _ rfl (hy.row _) hu.out rfl (hsz.out G hl.out)) rfl ⟨rfl, brow hx.out hl2.out _⟩
 ·have hg := HGG.out
  simp only [bZQ, if_false, if_true] at hg;have HG2 := zH hg; clear hg;have hl : Hid (G.length = 16) := by show _ = _; rw [HG2.out]; simp [HV.out]
  first
   |(guard_expr zA=zA
     have hz : Hid (Blk (((w8.setCell ⟨g3, 12, none⟩ (.int .u32 (wr3 (i4 ^^^ lo)))).setCell ⟨g3, 13, none⟩ (.int .u32 (wr3 (i5 ^^^ hi)))).setCell ⟨g3, 15, none⟩ (.int .u32 (wr3 (~~~ i7)))) g3 155 (wc3 G)) := by show Blk _ _ _ _; rw [HG2.out]; exact Z15.out
     have hy : Hid (Blk (((w8.setCell ⟨g3, 12, none⟩ (.int .u32 (wr3 (i4 ^^^ lo)))).setCell ⟨g3, 13, none⟩ (.int .u32 (wr3 (i5 ^^^ hi)))).setCell ⟨g3, 15, none⟩ (.int .u32 (wr3 (~~~ i7)))) g2 155 (wc3 (zw3 16))) := (Y2.out).far (p := ⟨g3, 15, none⟩) (by simp; omega) _;have hx : Hid (Below w.heap.size w (((w8.setCell ⟨g3, 12, none⟩ (.int .u32 (wr3 (i4 ^^^ lo)))).setCell ⟨g3, 13, none⟩ (.int .u32 (wr3 (i5 ^^^ hi)))).setCell ⟨g3, 15, none⟩ (.int .u32 (wr3 (~~~ i7))))) := bput (HW) (p := ⟨g3, 15, none⟩) hlr.out _;go_upto_region 11 with fail)
   |(have hz : Hid (Blk (((wr.setCell ⟨g3, 12, none⟩ (.int .u32 (wr3 (i4 ^^^ lo)))).setCell ⟨g3, 13, none⟩ (.int .u32 (wr3 (i5 ^^^ hi)))).setCell ⟨g3, 15, none⟩ (.int .u32 (wr3 (~~~ i7)))) g3 155 (wc3 G)) := by show Blk _ _ _ _; rw [HG2.out]; exact Z15.out
     have hy : Hid (Blk (((wr.setCell ⟨g3, 12, none⟩ (.int .u32 (wr3 (i4 ^^^ lo)))).setCell ⟨g3, 13, none⟩ (.int .u32 (wr3 (i5 ^^^ hi)))).setCell ⟨g3, 15, none⟩ (.int .u32 (wr3 (~~~ i7)))) g2 155 (wc3 (zw3 16))) := (Y2.out).far (p := ⟨g3, 15, none⟩) (by simp; omega) _;have hx : Hid (Below w.heap.size w (((wr.setCell ⟨g3, 12, none⟩ (.int .u32 (wr3 (i4 ^^^ lo)))).setCell ⟨g3, 13, none⟩ (.int .u32 (wr3 (i5 ^^^ hi)))).setCell ⟨g3, 15, none⟩ (.int .u32 (wr3 (~~~ i7))))) := bput (HW) (p := ⟨g3, 15, none⟩) hlr.out _;go_upto_region 14 with fail)
  go_wp2_with (first
   | (refine aZH rfl 155 _ rfl g3 rfl 155 (wc3 G) (0, 0) _ hz.out hu.out rfl (hsz.out G hl.out) ?_)
   | (refine aZE rfl 155 _ _ rfl g2 (wc3 G) rfl rfl 155 _ hy.out (hsz.out G hl.out) (hold.out G hl.out) (hall.out G) ?_))
  exact aZB (aZZ rfl _ _ g2 _ _ (0, 0) _ rfl (hy.row _) hu.out rfl (hsz.out G hl.out)) rfl ⟨rfl, brow hx.out hl2.out _⟩
 ·have hg := HGG.out
  simp only [bZQ, if_false, if_true] at hg;have HG2 := zH hg; clear hg;have hl : Hid (G.length = 16) := by show _ = _; rw [HG2.out]; simp [HV.out]
  first
   |(guard_expr zA=zA
     have hz : Hid (Blk (((w8.setCell ⟨g3, 12, none⟩ (.int .u32 (wr3 (i4 ^^^ lo)))).setCell ⟨g3, 13, none⟩ (.int .u32 (wr3 (i5 ^^^ hi)))).setCell ⟨g3, 14, none⟩ (.int .u32 (wr3 (~~~ i6)))) g3 155 (wc3 G)) := by show Blk _ _ _ _; rw [HG2.out]; exact Z14.out
     have hy : Hid (Blk (((w8.setCell ⟨g3, 12, none⟩ (.int .u32 (wr3 (i4 ^^^ lo)))).setCell ⟨g3, 13, none⟩ (.int .u32 (wr3 (i5 ^^^ hi)))).setCell ⟨g3, 14, none⟩ (.int .u32 (wr3 (~~~ i6)))) g2 155 (wc3 (zw3 16))) := (Y2.out).far (p := ⟨g3, 14, none⟩) (by simp; omega) _;have hx : Hid (Below w.heap.size w (((w8.setCell ⟨g3, 12, none⟩ (.int .u32 (wr3 (i4 ^^^ lo)))).setCell ⟨g3, 13, none⟩ (.int .u32 (wr3 (i5 ^^^ hi)))).setCell ⟨g3, 14, none⟩ (.int .u32 (wr3 (~~~ i6))))) := bput (HW) (p := ⟨g3, 14, none⟩) hlr.out _;go_upto_region 11 with fail)
   |(have hz : Hid (Blk (((wr.setCell ⟨g3, 12, none⟩ (.int .u32 (wr3 (i4 ^^^ lo)))).setCell ⟨g3, 13, none⟩ (.int .u32 (wr3 (i5 ^^^ hi)))).setCell ⟨g3, 14, none⟩ (.int .u32 (wr3 (~~~ i6)))) g3 155 (wc3 G)) := by show Blk _ _ _ _; rw [HG2.out]; exact Z14.out
     have hy : Hid (Blk (((wr.setCell ⟨g3, 12, none⟩ (.int .u32 (wr3 (i4 ^^^ lo)))).setCell ⟨g3, 13, none⟩ (.int .u32 (wr3 (i5 ^^^ hi)))).setCell ⟨g3, 14, none⟩ (.int .u32 (wr3 (~~~ i6)))) g2 155 (wc3 (zw3 16))) := (Y2.out).far (p := ⟨g3, 14, none⟩) (by simp; omega) _;have hx : Hid (Below w.heap.size w (((wr.setCell ⟨g3, 12, none⟩ (.int .u32 (wr3 (i4 ^^^ lo)))).setCell ⟨g3, 13, none⟩ (.int .u32 (wr3 (i5 ^^^ hi)))).setCell ⟨g3, 14, none⟩ (.int .u32 (wr3 (~~~ i6))))) := bput (HW) (p := ⟨g3, 14, none⟩) hlr.out _;go_upto_region 14 with fail)
  go_wp2_with (first
   | (refine aZH rfl 155 _ rfl g3 rfl 155 (wc3 G) (0, 0) _ hz.out hu.out rfl (hsz.out G hl.out) ?_)
   | (refine aZE rfl 155 _ _ rfl g2 (wc3 G) rfl rfl 155 _ hy.out (hsz.out G hl.out) (hold.out G hl.out) (hall.out G) ?_))
  exact aZB (aZZ rfl _ _ g2 _ _ (0, 0) _ rfl (hy.row _) hu.out rfl (hsz.out G hl.out)) rfl ⟨rfl, brow hx.out hl2.out _⟩
 ·have hg := HGG.out
  simp only [if_true] at hg;have HG2 := zH hg; clear hg;have hl : Hid (G.length = 16) := by show _ = _; rw [HG2.out]; simp [HV.out]
  first
   |(guard_expr zA=zA
     have hz : Hid (Blk ((((w8.setCell ⟨g3, 12, none⟩ (.int .u32 (wr3 (i4 ^^^ lo)))).setCell ⟨g3, 13, none⟩ (.int .u32 (wr3 (i5 ^^^ hi)))).setCell ⟨g3, 14, none⟩ (.int .u32 (wr3 (~~~ i6)))).setCell ⟨g3, 15, none⟩ (.int .u32 (wr3 (~~~ i7)))) g3 155 (wc3 G)) := by show Blk _ _ _ _; rw [HG2.out]; exact Z16.out
     have hy : Hid (Blk ((((w8.setCell ⟨g3, 12, none⟩ (.int .u32 (wr3 (i4 ^^^ lo)))).setCell ⟨g3, 13, none⟩ (.int .u32 (wr3 (i5 ^^^ hi)))).setCell ⟨g3, 14, none⟩ (.int .u32 (wr3 (~~~ i6)))).setCell ⟨g3, 15, none⟩ (.int .u32 (wr3 (~~~ i7)))) g2 155 (wc3 (zw3 16))) := ((Y2.out).far (p := ⟨g3, 14, none⟩) (by simp; omega) _).far (p := ⟨g3, 15, none⟩) (by simp; omega) _;have hx : Hid (Below w.heap.size w ((((w8.setCell ⟨g3, 12, none⟩ (.int .u32 (wr3 (i4 ^^^ lo)))).setCell ⟨g3, 13, none⟩ (.int .u32 (wr3 (i5 ^^^ hi)))).setCell ⟨g3, 14, none⟩ (.int .u32 (wr3 (~~~ i6)))).setCell ⟨g3, 15, none⟩ (.int .u32 (wr3 (~~~ i7))))) := bput (bput (HW) (p := ⟨g3, 14, none⟩) hlr.out _) (p := ⟨g3, 15, none⟩) hlr.out _;go_upto_region 11 with fail)
   |(have hz : Hid (Blk ((((wr.setCell ⟨g3, 12, none⟩ (.int .u32 (wr3 (i4 ^^^ lo)))).setCell ⟨g3, 13, none⟩ (.int .u32 (wr3 (i5 ^^^ hi)))).setCell ⟨g3, 14, none⟩ (.int .u32 (wr3 (~~~ i6)))).setCell ⟨g3, 15, none⟩ (.int .u32 (wr3 (~~~ i7)))) g3 155 (wc3 G)) := by show Blk _ _ _ _; rw [HG2.out]; exact Z16.out
     have hy : Hid (Blk ((((wr.setCell ⟨g3, 12, none⟩ (.int .u32 (wr3 (i4 ^^^ lo)))).setCell ⟨g3, 13, none⟩ (.int .u32 (wr3 (i5 ^^^ hi)))).setCell ⟨g3, 14, none⟩ (.int .u32 (wr3 (~~~ i6)))).setCell ⟨g3, 15, none⟩ (.int .u32 (wr3 (~~~ i7)))) g2 155 (wc3 (zw3 16))) := ((Y2.out).far (p := ⟨g3, 14, none⟩) (by simp; omega) _).far (p := ⟨g3, 15, none⟩) (by simp; omega) _;have hx : Hid (Below w.heap.size w ((((wr.setCell ⟨g3, 12, none⟩ (.int .u32 (wr3 (i4 ^^^ lo)))).setCell ⟨g3, 13, none⟩ (.int .u32 (wr3 (i5 ^^^ hi)))).setCell ⟨g3, 14, none⟩ (.int .u32 (wr3 (~~~ i6)))).setCell ⟨g3, 15, none⟩ (.int .u32 (wr3 (~~~ i7))))) := bput (bput (HW) (p := ⟨g3, 14, none⟩) hlr.out _) (p := ⟨g3, 15, none⟩) hlr.out _;go_upto_region 14 with fail)
  go_wp2_with (first
   | (refine aZH rfl 155 _ rfl g3 rfl 155 (wc3 G) (0, 0) _ hz.out hu.out rfl (hsz.out G hl.out) ?_)
   | (refine aZE rfl 155 _ _ rfl g2 (wc3 G) rfl rfl 155 _ hy.out (hsz.out G hl.out) (hold.out G hl.out) (hall.out G) ?_))
  exact aZB (aZZ rfl _ _ g2 _ _ (0, 0) _ rfl (hy.row _) hu.out rfl (hsz.out G hl.out)) rfl ⟨rfl, brow hx.out hl2.out _⟩
 ) : P := h
theorem zS16 {P : Prop} (h : P := by
 have hrp := h;clear h
 first
  |(guard_expr zA=zA
    have hpr : r <= p := by omega
    have hrr : r <= r := Nat.le_refl _)
  |(have hpr : p <= p := Nat.le_refl _
    have hrr : p <= r := by omega
    have hpc : p <= cr := by omega)
 clear q1 l1;replace HW := zH (HW.drewN nq); generalize u.drewN nq = u at *;have q1 : u.cell? ⟨gh, 1, none⟩ = some (.int .i64 blk) := by rw [HBL.out]; exact HW.hs.blk.cell 1
 have l1 := HW.hs.blk.lt;have HPR := zH hpr; have HRR := zH hrr
 first
  |(guard_expr zA=zA;have hll : ((L.drop k).take r).length = r := by rw [aZJ, aZS, HL.out]; omega)
  |(have hll : ((L.drop k).take p).length = p := by rw [aZJ, aZS, HL.out]; omega)
 have HLL := zH hll
 first
  |(guard_expr zA=zA
    obtain ⟨t2, ht2⟩ : ∃ t2, t2 = (x + r) % 18446744073709551616 := ⟨_, rfl⟩;have hwt := wtook x r (by omega))
  |(obtain ⟨t2, ht2⟩ : ∃ t2, t2 = (x + p) % 18446744073709551616 := ⟨_, rfl⟩
    have hwt := wtook x p (by omega))
 rw [<- HT.out, <- ht2] at hwt;obtain ⟨w1, w2⟩ := hwt;have HT2 := zH ht2;clear hll ht2 hpr hrr hrp;have q8 : u.cell? ⟨gh, 8, none⟩ = some (.slice (some ⟨g1, 0, none⟩) n cap) := by rw [HN.out]; exact HW.hs.blk.cell 8
 have qi : u.cell? ⟨g1, i, none⟩ = some (.pointer (some ⟨pp, 0, none⟩)) := HW.hs.nds.row.ptr HP1.out;refine wrZ (fun w' => (Blk w' gh 179 (hasC P a b c (some ⟨g1, 0, none⟩) (lnOf P.big) cap t) /\ w'.cell? ⟨g1, i, none⟩ = some (.pointer (some ⟨pp, 0, none⟩)))) (fun _ n h => ⟨h.1.drewN n, h.2⟩) (Ords.of [(0, 0), (0, 1), (0, 2), (0, 3), (0, 4), (0, 5), (0, 6), (0, 7), (0, 8), (0, 9), (0, 10), (0, 11), (0, 12), (0, 13), (0, 14), (0, 15), (0, 16), (2, 17)] .fin) ⟨HW.hs.blk, HW.hs.nds.row.ptr HP1.out⟩ ?_
 iterate 3 (refine ords_pure rfl (fun K hK => ?_); go_simp; refine hK _ ?_; clear hK K)
 refine ords_heldK rfl (fun K K2 hK hK2 => ?_); go_simp; refine ⟨hK2 _ (fun w9 hS => ?_), hK _ ?_⟩; (clear hK hK2 K K2; have q1 : w9.cell? ⟨gh, 1, none⟩ = some (.int .i64 blk) := (by rw [HBL.out]; exact hS.1.cell 1); have q8 : w9.cell? ⟨gh, 8, none⟩ = some (.slice (some ⟨g1, 0, none⟩) n cap) := (by rw [HN.out]; exact hS.1.cell 8); have qi : w9.cell? ⟨g1, i, none⟩ = some (.pointer (some ⟨pp, 0, none⟩)) := hS.2; clear hS; go_simp); (clear hK hK2 K K2)
 iterate 6 (refine ords_pure rfl (fun K hK => ?_); go_simp; refine hK _ ?_; clear hK K)
 iterate 2 (refine ords_heldK rfl (fun K K2 hK hK2 => ?_); go_simp; refine ⟨hK2 _ (fun w9 hS => ?_), hK _ ?_⟩; (clear hK hK2 K K2; have q1 : w9.cell? ⟨gh, 1, none⟩ = some (.int .i64 blk) := (by rw [HBL.out]; exact hS.1.cell 1); have q8 : w9.cell? ⟨gh, 8, none⟩ = some (.slice (some ⟨g1, 0, none⟩) n cap) := (by rw [HN.out]; exact hS.1.cell 8); have qi : w9.cell? ⟨g1, i, none⟩ = some (.pointer (some ⟨pp, 0, none⟩)) := hS.2; clear hS; go_simp); (clear hK hK2 K K2); refine ords_pure rfl (fun K hK => ?_); go_simp; refine hK _ ?_; clear hK K; refine ords_pure rfl (fun K hK => ?_); go_simp; refine hK _ ?_; clear hK K)
 refine ords_pure rfl (fun K hK => ?_); go_simp; refine hK _ ?_; clear hK K;refine ords_loud rfl (fun n1 => ?_);clear q1 q8 qi l1;replace HW := zH (HW.drewN n1); generalize u.drewN n1 = u at *;obtain ⟨p2, r2, e2, hN2⟩ := HW.hs.nds.node i HI.out;rw [HP1.out] at e2;obtain rfl : pp = p2 := aZF e2
 first
  |(guard_expr zA=zA;have HWN := zH (writeN_any pp d P.big (P.nlast i) (P.blk i) (P.nkey i) r2 _ (F i) Ar r cr ((L.drop k).take r) u hN2 HLL.out (by omega) hcr2 ((HW.rs.take r).more HW.but.size) (fun _ x hx => (HW.at_ HFAR.out HDR.out x hx).2 i HI.out)))
  |(have HWN := zH (writeN_any pp d P.big (P.nlast i) (P.blk i) (P.nkey i) r2 _ (F i) Ar p cr ((L.drop k).take p) u hN2 HLL.out (by omega) hcr2 ((HW.rs.take p).more HW.but.size) (fun _ x hx => (HW.at_ HFAR.out HDR.out x hx).2 i HI.out)))
 clear hN2 e2;go_wp2_with (go_at_call 89; refine HWN.mono ?_; rintro e5 u ⟨rfl, F5, hn5, hf5, hb5⟩);replace HW := zH (HW.wrote HFAR HDR HI HP1 hn5 hf5 hb5);clear hn5 hf5 hb5 HWN;refine ⟨⟨HW.hs.blk, HW.hs.nds.row.ptr HP1.out⟩, ?_⟩;go_simp;refine ords_end (fun n2 => ?_);replace HW := zH (HW.drewN n2); generalize u.drewN n2 = u at *
 first
  |(guard_expr zA=zA
    have HX2 : Hid (M ++ L.take (k + r) = (M ++ L.take k) ++ (L.drop k).take r) := (by rw [List.append_assoc, List.take_add]; exact zH rfl);have hst := P.engs_step (M ++ L.take k) ((L.drop k).take r) i (by rw [<- HX.out]; exact HM5.out) (fun y hy => by rw [<- HX.out]; exact HM6.out y (by rw [HLL.out] at hy; have := HPR.out; omega)))
  |(have HX2 : Hid (M ++ L.take (k + p) = (M ++ L.take k) ++ (L.drop k).take p) := (by rw [List.append_assoc, List.take_add]; exact zH rfl)
    have hst := P.engs_step (M ++ L.take k) ((L.drop k).take p) i (by rw [<- HX.out]; exact HM5.out) (fun y hy => by rw [<- HX.out]; exact HM6.out y (by rw [HLL.out] at hy; have := HPR.out; omega)))
 rw [<- HX2.out] at hst;rw [hst] at HW;have q9 : u.cell? ⟨gh, 9, none⟩ = some (.int .u64 t) := HW.hs.blk.cell 9;have f9 := HW.hs.blk.frozen 9;have l9 := HW.hs.blk.lt;clear hst;go_upto_region 8 with fail
 replace HW := zH (HW.took HFAR HDR t2)
 first
  |(guard_expr zA=zA
    replace HW := zH (HW.cut (m := r) (by rw [HL.out]; have := HRR.out; omega));have HTT : Hid ((M ++ L.take (k + r)).length % 18446744073709551616 = t2) := (by rw [HX2.out, List.length_append, HLL.out, <- HX.out]; exact zH HT2.symm))
  |(replace HW := zH (HW.cut (m := p) (by rw [HL.out]; have := HRR.out; omega))
    have HTT : Hid ((M ++ L.take (k + p)).length % 18446744073709551616 = t2) := (by rw [HX2.out, List.length_append, HLL.out, <- HX.out]; exact zH HT2.symm))
 clear q9 f9 l9;go_wp2_with fail
 first
  |(guard_expr zA=zA;exact ⟨⟨k + r, 0, cr - r, _, _, by have := HKR.out; have := HRR.out; omega, rfl, (by rw [HTT.out]; exact HW.out)⟩, by have := HLT.out; have := HRR.out; show 0 < r; omega⟩)
  |(exact ⟨⟨k + p, (r - p), cr - p, _, _, by have := HKR.out; have := HRR.out; omega, rfl, (by rw [HTT.out]; exact HW.out)⟩, by have := HLT.out; have := HRR.out; show (r - p) < r; omega⟩)
 ) : P := h
theorem zS17 {P : Prop} (h : P := by
 go_wp2
 first
  |(guard_expr zA=zA)
  |(refine ⟨((HRW.drewN _).alloc (by simp; omega) _), ?_⟩
    refine ords_loud rfl (fun n2 => ?_);go_wp2)
 refine ⟨by first | exact HRW.drewN _ | exact ((HRW.drewN _).alloc (by simp; omega) _).drewN _, ?_⟩
 first
  |(guard_expr zA=zA
    refine ords_loud rfl (fun n2 => ?_);go_wp2;refine ⟨((HRW.drewN _).alloc (by simp; omega) _), ?_⟩)
  |(skip)
 refine ords_loud rfl (fun n3 => ?_)
 (try simp only [World.drewN_drewN])
 (refine wpList_appB1 _ rfl (.tmp 15) (.tmp 20) rfl (((HW.own.drewN _).alloc _).drewN _) rfl HML.out rfl (show World.cell? (World.drewN (World.alloc _ _) _) _ = _ from cnew _ _ _ rfl) x rfl (by omega) (by simp; omega) ?_; intro A3 c3 w3 ho3 hg3 hA3)
 have hbl3 := ((((HW.blk.drewN _).alloc _).drewN _).grown hg3 (fun h => by
  cases hA : A with
  | none => rw [hA] at h; cases h
  | some a => rw [hA] at h; exact HW.far a hA (aZF h).symm))
 have hrs3 := ((((HRW.drewN _).alloc (by simp; omega) _).drewN _).grown hg3 (by simp; omega) (fun g hg => by
  cases hA : A with
  | none => rw [hA] at hg; cases hg
  | some a => rw [hA] at hg; have h := (HW.own.block_lt a hA).1; have h2 : a.block = g := aZF hg; omega))
 have hrow3 : ∀ a, A3 = some a -> a.block ∈ obl Am \/ w.heap.size <= a.block := fun a ha => by
  rw [ha] at hA3;rcases hA3 with h | h
  ·cases hA : A with
   | none => rw [hA] at h; cases h
   | some b => rw [hA] at h; have h2 : a.block = b.block := aZF h; rw [h2]; exact HW.row b hA
  ·have h2 : a.block = _ := aZF h; have h3 := HW.but.size; simp at h2; right; omega
 have hfar3 : ∀ a, A3 = some a -> a.block ≠ q := fun a ha => by
  rw [ha] at hA3;rcases hA3 with h | h
  ·cases hA : A with
   | none => rw [hA] at h; cases h
   | some b => rw [hA] at h; have h2 : a.block = b.block := aZF h; rw [h2]; exact HW.far b hA
  ·have h2 : a.block = _ := aZF h; simp at h2; omega
 have hbut3 : But (q :: obl Am) w w3 := (((HW.but.drewN _).alloc _).drewN _).trans (But.grown (F := obl A) hg3 (fun j hj => by
  cases hA : A with
  | none => rw [hA] at hj; cases hj
  | some b => rw [hA] at hj; have h2 : b.block = j := aZF hj; left; simp [obl]; omega)) (fun j hj => by
  obtain ⟨a, ha, hb⟩ := mem_obl.1 hj;rcases HW.row a ha with h | h
  ·left; rw [<- hb]; exact List.mem_cons_of_mem _ h
  ·right; omega)
 have g33 := hbl3.cell 33;change w3.cell? ⟨q, 33, none⟩ = some (.slice A n c) at g33;have f33 := hbl3.frozen 33;have hbb : ∀ a m, Blk (((w3.drewN a).setCell ⟨q, 33, none⟩ (.slice A3 (n + 1) c3)).drewN m) q 99 (rnCells big p kv last (.slice A3 (n + 1) c3) cnt) := fun a m => ((hbl3.drewN a).set_ 33 _).drewN m
 have hoo : ∀ a m, OS cB (((w3.drewN a).setCell ⟨q, 33, none⟩ (.slice A3 (n + 1) c3)).drewN m) base A3 c3 (msg ++ data.take (k + 1)) := fun a m => by
  have ho := ((ho3.drewN a).setFar (p := ⟨q, 33, none⟩) hfar3 (.slice A3 (n + 1) c3)).drewN m;rw [List.append_assoc, <- HTK.out] at ho;exact ho
 have HB3 := zH hbb; have HRS3 := zH hrs3; have HROW3 := zH hrow3; have HFAR3 := zH hfar3; have HBUT3 := zH hbut3; have HO3 := zH hoo;clear hbb hoo hbl3 hrs3 hrow3 hfar3 hbut3 ho3 hg3 hA3;go_wp2;refine ⟨HRS3.out, ?_⟩
 iterate 2 (refine ords_pure rfl (fun K hK => ?_); go_simp; refine hK _ ?_; clear hK K)
 refine ords_loud rfl (fun n4 => ?_);go_wp2;refine ⟨(HRS3.drewN _).setCell hqb _, ?_⟩;refine ords_end (fun n5 => ?_);go_wp2_with fail;go_roundw
 case rel =>
  exact ⟨k + 1, n + 1, A3, c3, by omega, by go_num, by have := HNK.out; omega, ⟨HB3.out _ _, HO3.out _ _, HFAR3.out, HROW3.out, ((HBUT3.drewN _).setCell (p := ⟨q, 33, none⟩) (.inl (by simp)) _).drewN _⟩⟩
 case measure => simp [intOf]; omega
 ) : P := h
theorem zS18 {P : Prop} (h : P := by
 first
  |(guard_expr zB=zB
    have hT := hok.resolve_left hF;have hdf := fun W hr => rdN_any A n c b W hF hb hc hr
    have hdt := fun W hr => rdY_any A n c b W hT hb hc hr
    have HF := zH hT;clear hF hT hok)
  |(guard_expr zA=zA
    have hdf := fun W hr => rdN_any A n c b W (fun h => hok (.inl h)) hb hc hr
    have hdt := fun W hr => rdN_any A n c b W (fun h => hok (.inr h)) hb hc hr
    clear hok)
  |(have hdf := fun W hr => rdY_any A n c b W hF hb hc hr
    have hdt : True := trivial;have HF := zH hF;clear hF hok)
 have HDF := zH hdf; have HDT := zH hdt; have HR := zH hr; clear hdf hdt hr;generalize kOf big = k at *;have hu := zH Tryz.underlying81;go_enter Tryz.func84, Tryz.ntmps84;go_wp2_with fail;have hz : zcs = #[.int .i64 0, .int .i64 0, .int .i64 0, .int .i64 0, .int .u32 0, .int .u64 0, .int .u32 0, .int .i64 0, .int .i64 0, .slice none 0 0, .slice none 0 0] := rfl;rw [<- hz];clear hz;have HK4 := zH (Blk.new w 81 zcs);have HB := zH (bal (b0 w) (.cells zcs 81));generalize w.alloc (.cells zcs 81) = u at *;refine (HDF _ ((HR.below HB).more HB.size)).mono ?_
 first
  |(guard_expr zC=zC
    rintro e1 u ⟨X, s, t, rfl, hX, hT1, hT2, ho1, ho2, hb1⟩;have HX := zH hX; have HT1 := zH hT1; have HT2 := zH hT2;have HO1 := zH (ho1.mono HB.size); have HO2 := zH (ho2.mono HB.size))
  |(rintro e1 u ⟨X, e, rfl, he, hb1⟩)
 replace HK4 := zH (HK4.below hb1 HK4.lt)
 (try replace HG := zH (HG.below hb1 HG.lt))
 replace HB := zH (bcall HB hb1)
 first
  |(guard_expr zC=zC
    clear hb1 hX hT1 hT2 ho1 ho2;replace HX := zH (And.intro HF HX))
  |(clear hb1)
 go_upto_region 2 with (refine aZE rfl 81 _ _ rfl u.heap.size X.cs rfl rfl 81 zcs (Blk.new _ _ _) (Pr.size _) rfl (Pr.ones _) ?_)
 have HG := zH ((Blk.new u 81 zcs).row X.cs);obtain ⟨g, hg⟩ : ∃ g, g = u.heap.size := ⟨_, rfl⟩;have HG0 := zH (show w.heap.size <= g by rw [hg]; exact HB.size);have HNE := zH (show w.heap.size ≠ g by rw [hg]; exact Nat.ne_of_lt HK4.lt);replace HK4 := zH ((HK4.alloc (.cells zcs 81)).rowFar (by rw [hg] at HNE; exact HNE.out) X.cs)
 (try replace HO1 := zH ((HO1.alloc (.cells zcs 81)).of_block (fun a ha => bZC _ _ _ _ ((HO1.alloc (.cells zcs 81)).ne_blk (Blk.new u 81 zcs) (by show 5 ≠ 81; decide) a ha)) : OS cB ((u.alloc (.cells zcs 81)).setRow u.heap.size X.cs) w.heap.size _ _ _))
 (try replace HO2 := zH ((HO2.alloc (.cells zcs 81)).of_block (fun a ha => bZC _ _ _ _ ((HO2.alloc (.cells zcs 81)).ne_blk (Blk.new u 81 zcs) (by show 5 ≠ 81; decide) a ha)) : OS cB ((u.alloc (.cells zcs 81)).setRow u.heap.size X.cs) w.heap.size _ _ _))
 replace HB := zH (brow (g := u.heap.size) (bal HB (.cells zcs 81)) HB.size X.cs);have hz : zcs = #[.int .i64 0, .int .i64 0, .int .i64 0, .int .i64 0, .int .u32 0, .int .u64 0, .int .u32 0, .int .i64 0, .int .i64 0, .slice none 0 0, .slice none 0 0] := rfl
 (try rw [<- hz])
 clear hz;rw [<- hg] at HG HK4 HB ⊢
 (try rw [<- hg] at HO1 HO2)
 clear hg;generalize (u.alloc (.cells zcs 81)).setRow g X.cs = u at *
 first
  |(guard_expr zB=zB
    go_wp2_with fail;refine (HDT _ ((HR.below HB).more HB.size)).mono ?_;rintro e1 u ⟨X, s, t, rfl, hX, hT1, hT2, ho1, ho2, hb1⟩;have HX := zH hX; have HT1 := zH hT1; have HT2 := zH hT2;have HO1 := zH (ho1.mono HB.size); have HO2 := zH (ho2.mono HB.size);replace HK4 := zH (HK4.below hb1 HK4.lt)
    (try replace HG := zH (HG.below hb1 HG.lt))
    replace HB := zH (bcall HB hb1);clear hb1 hX hT1 hT2 ho1 ho2;replace HX := zH (And.intro HF HX);go_upto_region 4 with (refine aZE rfl 81 _ _ rfl g X.cs rfl rfl 81 _ HG (Pr.size _) rfl (Pr.ones _) ?_)
    (try replace HO1 := zH (HO1.of_block (fun a ha => bZC u _ _ X.cs (HO1.ne_blk HG (by show 5 ≠ 81; decide) a ha))))
    (try replace HO2 := zH (HO2.of_block (fun a ha => bZC u _ _ X.cs (HO2.ne_blk HG (by show 5 ≠ 81; decide) a ha))))
    replace HG := zH (HG.row X.cs);replace HK4 := zH (HK4.rowFar HNE X.cs);replace HB := zH (brow HB HG0 X.cs);generalize u.setRow g X.cs = u at *)
  |(guard_expr zA=zA
    go_wp2_with fail;refine (HDT _ ((HR.below HB).more HB.size)).mono ?_;rintro e1 u ⟨X, e, rfl, he, hb1⟩;replace HK4 := zH (HK4.below hb1 HK4.lt)
    (try replace HG := zH (HG.below hb1 HG.lt))
    replace HB := zH (bcall HB hb1);clear hb1;go_upto_region 4 with (refine aZE rfl 81 _ _ rfl g X.cs rfl rfl 81 _ HG (Pr.size _) rfl (Pr.ones _) ?_)
    (try replace HO1 := zH (HO1.of_block (fun a ha => bZC u _ _ X.cs (HO1.ne_blk HG (by show 5 ≠ 81; decide) a ha))))
    (try replace HO2 := zH (HO2.of_block (fun a ha => bZC u _ _ X.cs (HO2.ne_blk HG (by show 5 ≠ 81; decide) a ha))))
    replace HG := zH (HG.row X.cs);replace HK4 := zH (HK4.rowFar HNE X.cs);replace HB := zH (brow HB HG0 X.cs);generalize u.setRow g X.cs = u at *)
  |(skip)
 go_wp2_with (first
  | (refine wpList_load_row rfl 81 _ rfl g rfl 81 X.cs (0, 0) _ HG hu.out rfl (Pr.size _) ?_)
  | (refine aZE rfl 81 _ _ rfl w.heap.size X.cs rfl rfl 81 _ HK4 (Pr.size _) rfl (Pr.ones _) ?_))
 first
  |(guard_expr zB=zB
    refine bodyPost_ret (results_cell_tmp rfl _ _ w.heap.size 81 X.cs _ rfl (HK4.row _) hu.out rfl (Pr.size _)) rfl ⟨X, true, s, t, rfl, HX.out, HT1.out, HT2.out, ?_, ?_, brow HB (Nat.le_refl _) _⟩
    ·exact HO1.of_block (fun a ha => bZC u _ _ _ (HO1.ne_blk HK4 (by show 5 ≠ 81; decide) a ha))
    ·exact HO2.of_block (fun a ha => bZC u _ _ _ (HO2.ne_blk HK4 (by show 5 ≠ 81; decide) a ha)))
  |(guard_expr zA=zA;exact bodyPost_ret (results_cell_tmp rfl _ _ w.heap.size 81 X.cs _ rfl (HK4.row _) hu.out rfl (Pr.size _)) rfl ⟨X, e, rfl, he, brow HB (Nat.le_refl _) _⟩)
  |(refine bodyPost_ret (results_cell_tmp rfl _ _ w.heap.size 81 X.cs _ rfl (HK4.row _) hu.out rfl (Pr.size _)) rfl ⟨X, false, s, t, rfl, HX.out, HT1.out, HT2.out, ?_, ?_, brow HB (Nat.le_refl _) _⟩
    ·exact HO1.of_block (fun a ha => bZC u _ _ _ (HO1.ne_blk HK4 (by show 5 ≠ 81; decide) a ha))
    ·exact HO2.of_block (fun a ha => bZC u _ _ _ (HO2.ne_blk HK4 (by show 5 ≠ 81; decide) a ha)))
 ) : P := h
theorem zS19 {P : Prop} (h : P := by
 first
  |(guard_expr zA=zA;have HX := zH hx; have HR := zH (hr.more hB); clear hx hr)
  |(have HX := zH hx; have HR := zH hr; clear hx hr)
 obtain ⟨M, hM⟩ : ∃ M, M = wordsOf x 16 := ⟨_, rfl⟩;have hMl : M.length = 16 := by rw [hM, wordsOf_len]
 rw [<- hM];have HM := zH hM; have HML := zH hMl; clear hM hMl;have hu := zH Tryz.underlying97;have sM := zH (sz16w M HML);have aM := zH (wcs_all M);have hoM : Hid ((wcs (fillU M 0 16)).size = (wcs M).size) := by show _ = _; rw [wcs_size, wcs_size, fillU_len _ _ _ (by omega) HML.out, HML.out]
 first
  |(guard_expr zA=zA;go_enter Tryz.func157, Tryz.ntmps157)
  |(go_enter Tryz.func97, Tryz.ntmps97)
 go_upto_region 4 with fail
 have n0 : Blk ((w.alloc (.cells z16 97)).alloc (.cells z16 97)) w.heap.size 97 (wcs (fillU M 0 16)) := by rw [fillU_none]; exact (Blk.new _ _ _).alloc _
 have n1 : Blk ((w.alloc (.cells z16 97)).alloc (.cells z16 97)) (w.heap.size + 1) 97 (wcs (fillU M 0 16)) := by
  rw [fillU_none]; simpa using Blk.new (w.alloc (.cells z16 97)) 97 z16
 have n4 := bal (bal (b0 w) (.cells z16 97)) (.cells z16 97);unfold z16 at n0 n1 n4;obtain ⟨b, hb⟩ : ∃ b, b = w.heap.size := ⟨_, rfl⟩;rw [<- hb] at n0 n1 ⊢;generalize (w.alloc (.cells #[.int .u64 0, .int .u64 0, .int .u64 0, .int .u64 0, .int .u64 0, .int .u64 0, .int .u64 0, .int .u64 0, .int .u64 0, .int .u64 0, .int .u64 0, .int .u64 0, .int .u64 0, .int .u64 0, .int .u64 0, .int .u64 0] 97)).alloc (.cells #[.int .u64 0, .int .u64 0, .int .u64 0, .int .u64 0, .int .u64 0, .int .u64 0, .int .u64 0, .int .u64 0, .int .u64 0, .int .u64 0, .int .u64 0, .int .u64 0, .int .u64 0, .int .u64 0, .int .u64 0, .int .u64 0] 97) = w0 at *;have N0 := zH n0; have N1 := zH n1; have N4 := zH n4; have hwb : Hid (w.heap.size <= b) := by (show _ <= _; omega)
 clear n0 n1 n4 hb;go_wp2_with fail
 first
  |(guard_expr zA=zA;go_loopw [10] (fun i wr => ∃ k : Nat, k <= 16 /\ i = .int .i64 k /\ Blk wr b 97 (wcs (fillU M 0 16)) /\ Blk wr (b + 1) 97 (wcs (fillU M k 16)) /\ Below w.heap.size w wr) (fun i _ => 16 - (intOf i).toNat))
  |(go_loopw [5] (fun i wr => ∃ k : Nat, k <= 16 /\ i = .int .i64 k /\ Blk wr b 97 (wcs (fillU M 0 16)) /\ Blk wr (b + 1) 97 (wcs (fillU M k 16)) /\ Below w.heap.size w wr) (fun i _ => 16 - (intOf i).toNat))
 case atStart => exact ⟨0, by omega, rfl, N0.out, N1.out, N4.out⟩
 case round =>
  clear N0 N1 N4;obtain ⟨k, hk, rfl, x0, x1, x4⟩ := hrel;have N0 := zH x0; have N1 := zH x1; have N4 := zH x4; clear x0 x1 x4
  by_cases hlt : k < 16
  ·first
    |(guard_expr zA=zA;have hl := load64_any A c 128 (8 * k) w.heap.size x wr HX.out (by omega) (HR.below N4.out) (by omega))
    |(have hl := refLoad_any A c 128 (8 * k) 8 w.heap.size x wr HX.out (by omega) (HR.below N4.out) (by omega) (by omega))
   have e8 : ((8 * k : Nat) : Int) = 8 * (k : Int) := by omega
   rw [e8] at hl;obtain ⟨v, hv⟩ : ∃ v, v = word ((x.drop (8 * k)).take 8) := ⟨_, rfl⟩;have hmk : M[k]? = some v := by rw [HM.out, wordsOf_at x 16 k hlt, hv]
   rw [<- hv] at hl;have gc : wr.cell? ⟨b + 1, k, none⟩ = some (wv ((fillU M k 16).getD k 0)) := (N1.cell k).trans (wcs_get _ _ (by rw [fillU_len _ _ _ hk HML.out]; exact hlt));have gf : wr.frozen? ⟨b + 1, k, none⟩ = false := N1.frozen k;generalize wv ((fillU M k 16).getD k 0) = old at gc;have HL := zH hl; have HMK := zH hmk; clear hl hv e8 hmk;have hki : (k : Int) < 16 := by omega
   first
    |(guard_expr zA=zA;go_wp2_with (go_at_call 156; refine HL.mono ?_; rintro e w1 ⟨rfl, rfl⟩))
    |(go_wp2_with (go_at_call 118; refine HL.mono ?_; rintro e w1 ⟨rfl, rfl⟩))
   case roundEnd =>
    have h1 := N1.set_ k (wv v);rw [fillU_put _ k 16 v hlt HMK.out] at h1;exact ⟨⟨k + 1, by omega, by go_num, N0.far (p := ⟨b + 1, k, none⟩) (by simp) _, h1, bput N4.out (p := ⟨b + 1, k, none⟩) (by have := hwb.out; simp; omega) _⟩, by simp [intOf]; omega⟩
  ·obtain rfl : k = 16 := by omega
   clear hlt hk;have x1 := N1.out;rw [fillU_all _ 16 HML.out] at x1;have X1 := zH x1; clear x1 N1
   first
    |(guard_expr zA=zA;go_upto_region 9 with fail)
    |(go_upto_region 8 with fail)
   go_wp2_with (first
    | (refine aZH rfl 97 _ rfl (b + 1) rfl 97 (wcs M) (0, 0) _ X1 hu.out rfl sM.out ?_)
    | (refine aZE rfl 97 _ _ rfl b (wcs M) rfl rfl 97 _ N0 sM.out hoM.out aM.out ?_))
   exact aZB (results_cell_tmp rfl _ _ b _ _ _ rfl (N0.row _) hu.out rfl sM.out) rfl ⟨rfl, brow N4 hwb.out _⟩
 ) : P := h
theorem zS20 {P : Prop} (h : P := by
 have HH := zH hH; have HM := zH hM;have hIl := initOf3_len H (lo32 cnt) (hi32 cnt) last node hH
 first
  |(guard_expr zA=zA;have hI := fun w => begin3_any H cnt last node w hH)
  |(have hI := fun w => r4Begin_any H cnt last node w hH)
 unfold comp32;generalize initOf3 H (lo32 cnt) (hi32 cnt) last node = V at *;have HI := zH hI; have HVl := zH hIl; clear hI hIl hH hM
 first
  |(guard_expr zA=zA;have hu8 := zH Tryz.underlying154; have hu16 := zH Tryz.underlying155)
  |(have hu8 := zH Tryz.underlying154
    have hu16 := zH Tryz.underlying155)
 have s8 := zH (sz8s H HH)
 first
  |(guard_expr zA=zA)
  |(have sM := zH (sz16s M HM))
 have sV := zH (sz16s V HVl);have aV := zH (wc3_all V);have holdV : Hid ((wc3 (zw3 16)).size = (wc3 V).size) := by show _ = _; rw [wc3_size, wc3_size, HVl.out]; rfl
 first
  |(guard_expr zA=zA;go_enter Tryz.func164, Tryz.ntmps164)
  |(go_enter Tryz.func100, Tryz.ntmps100)
 go_upto_region 1 with fail
 first
  |(guard_expr zA=zA
    obtain ⟨w1, hw1⟩ : ∃ w1, w1 = w.alloc (.cells (wc3 H) 154) := ⟨_, rfl⟩;obtain ⟨w3, hw3⟩ : ∃ w3, w3 = w1.alloc (.cells (wc3 M) 155) := ⟨_, rfl⟩;obtain ⟨w4, hw4⟩ : ∃ w4, w4 = w3.alloc (.cells (wc3 (zw3 8)) 154) := ⟨_, rfl⟩;have e4 : ((w.alloc (.cells (wc3 H) 154)).alloc (.cells (wc3 M) 155)).alloc (.cells z8s 154) = w4 := by rw [hw4, hw3, hw1]; rfl
    unfold z8s at e4;rw [e4];have n0 : Blk w4 w.heap.size 154 (wc3 H) := by rw [hw4, hw3, hw1]; exact ((Blk.new _ _ _).alloc _).alloc _
    have n2 : Blk w4 (w.heap.size + 1) 155 (wc3 M) := by
     have : w1.heap.size = w.heap.size + 1 := by rw [hw1]; simp
     rw [<- this, hw4, hw3]; exact (Blk.new _ _ _).alloc _
    have n3 : Blk w4 (w.heap.size + 1 + 1) 154 (wc3 (zw3 8)) := by
     have : w3.heap.size = w.heap.size + 1 + 1 := by rw [hw3, hw1]; simp
     rw [<- this, hw4]; exact Blk.new _ _ _
    have n4 : Below w.heap.size w w4 := by rw [hw4, hw3, hw1]; exact bal (bal (bal (b0 _) _) _) _
    clear hw1 hw3 hw4 e4 w1 w3)
  |(have n0 : Blk (((w.alloc (.cells (wc3 H) 154)).alloc (.cells (wc3 M) 155)).alloc (.cells z8s 154)) w.heap.size 154 (wc3 H) := ((Blk.new _ _ _).alloc _).alloc _
    have n1 : Blk (((w.alloc (.cells (wc3 H) 154)).alloc (.cells (wc3 M) 155)).alloc (.cells z8s 154)) (w.heap.size + 1) 155 (wc3 M) := by
     have := (Blk.new (w.alloc (.cells (wc3 H) 154)) 155 (wc3 M)).alloc (.cells z8s 154); simpa using this
    have n3 : Blk (((w.alloc (.cells (wc3 H) 154)).alloc (.cells (wc3 M) 155)).alloc (.cells z8s 154)) (w.heap.size + 1 + 1) 154 (wc3 (zw3 8)) := by
     have := Blk.new ((w.alloc (.cells (wc3 H) 154)).alloc (.cells (wc3 M) 155)) 154 z8s; show Blk _ _ _ z8s; simpa using this
    have n4 := bal (bal (bal (b0 w) (.cells (wc3 H) 154)) (.cells (wc3 M) 155)) (.cells z8s 154))
 obtain ⟨g0, hg0⟩ : ∃ g, g = w.heap.size := ⟨_, rfl⟩;obtain ⟨g1, hg1⟩ : ∃ g, g = w.heap.size + 1 := ⟨_, rfl⟩;obtain ⟨g3, hg3⟩ : ∃ g, g = w.heap.size + 1 + 1 := ⟨_, rfl⟩
 first
  |(guard_expr zA=zA)
  |(unfold z8s at n0 n1 n3 n4
    rw [<- hg0] at n0; rw [<- hg1] at n1; rw [<- hg3] at n3)
 rw [<- hg3, <- hg1, <- hg0]
 first
  |(guard_expr zA=zA;rw [<- hg0] at n0; rw [<- hg1] at n2; rw [<- hg3] at n3)
  |(generalize ((w.alloc (.cells (wc3 H) 154)).alloc (.cells (wc3 M) 155)).alloc (.cells #[.int .u32 0, .int .u32 0, .int .u32 0, .int .u32 0, .int .u32 0, .int .u32 0, .int .u32 0, .int .u32 0] 154) = w4 at *)
 have l01 : g0 < g1 := by omega
 have l13 : g1 < g3 := by omega
 have l0 : Hid (w.heap.size <= g0) := by show _ <= _; omega
 first
  |(guard_expr zA=zA
    have N0 := zH n0; have N1 := zH n2; have N3 := zH n3; have N4 := zH n4;clear n0 n2 n3 n4 hg0 hg1 hg3)
  |(have N0 := zH n0; have N1 := zH n1; have N3 := zH n3; have N4 := zH n4
    clear n0 n1 n3 n4 hg0 hg1 hg3)
 go_wp2_with (refine aZH rfl 154 _ rfl g0 rfl 154 (wc3 H) (0, 0) _ N0 hu8.out rfl s8.out ?_);refine (HI _).mono ?_;rintro e w6 ⟨rfl, hb6⟩;replace N0 := zH (N0.below hb6 N0.lt); replace N1 := zH (N1.below hb6 N1.lt); replace N3 := zH (N3.below hb6 N3.lt); replace N4 := zH (bcall N4 hb6);have l36 : g3 < w6.heap.size := N3.lt;clear hb6;have n6 : Blk (w6.alloc (.cells z16s 155)) w6.heap.size 155 (wc3 (zw3 16)) := Blk.new _ _ _;have v0 := N0.alloc (.cells z16s 155); have v1 := N1.alloc (.cells z16s 155); have v3 := N3.alloc (.cells z16s 155); have v4 := bal N4 (.cells z16s 155);have l6 := N4.size;obtain ⟨g6, hg6⟩ : ∃ g6, g6 = w6.heap.size := ⟨_, rfl⟩;unfold z16s at n6 v0 v1 v3 v4;have N6 := zH n6; have hw6 : Hid (w.heap.size <= w6.heap.size) := l6; clear n6 l6;go_upto_region 2 with (refine aZE rfl 155 _ _ rfl w6.heap.size (wc3 V) rfl rfl 155 _ N6 sV.out holdV.out aV.out ?_)
 have n6 := N6.row (wc3 V);replace v0 := v0.rowFar (k := w6.heap.size) (by omega) (wc3 V); replace v1 := v1.rowFar (k := w6.heap.size) (by omega) (wc3 V); replace v3 := v3.rowFar (k := w6.heap.size) (by omega) (wc3 V); replace v4 := brow v4 hw6.out (wc3 V);rw [<- hg6] at n6 v0 v1 v3 v4 l36 ⊢;clear N0 N1 N3 N4 N6 sV holdV aV;generalize (w6.alloc (.cells #[.int .u32 0, .int .u32 0, .int .u32 0, .int .u32 0, .int .u32 0, .int .u32 0, .int .u32 0, .int .u32 0, .int .u32 0, .int .u32 0, .int .u32 0, .int .u32 0, .int .u32 0, .int .u32 0, .int .u32 0, .int .u32 0] 155)).setRow g6 (wc3 V) = w7 at *;have hl6 : Hid (w.heap.size <= g6) := by show _ <= _; rw [hg6]; exact hw6.out
 clear hg6 hw6;have N0 := zH v0; have N1 := zH v1; have N3 := zH v3; have N4 := zH v4; have N6 := zH n6; clear v0 v1 v3 v4 n6;go_wp2_with fail
 first
  |(guard_expr zA=zA;go_loopw [18] (fun i wr => ∃ k : Nat, k <= 10 /\ i = .int .i64 k /\ Blk wr g6 155 (wc3 (roundsTo3 M k V)) /\ Blk wr g0 154 (wc3 H) /\ Blk wr g1 155 (wc3 M) /\ Blk wr g3 154 (wc3 (zw3 8)) /\ Below w.heap.size w wr) (fun i _ => 10 - (intOf i).toNat))
  |(go_loopw [12] (fun i wr => ∃ k : Nat, k <= 10 /\ i = .int .i64 k /\ Blk wr g6 155 (wc3 (roundsTo3 M k V)) /\ Blk wr g0 154 (wc3 H) /\ Blk wr g1 155 (wc3 M) /\ Blk wr g3 154 (wc3 (zw3 8)) /\ Below w.heap.size w wr) (fun i _ => 10 - (intOf i).toNat))
 case atStart => exact ⟨0, by omega, rfl, N6.out, N0.out, N1.out, N3.out, N4.out⟩
 case round =>
  clear N0 N1 N3 N4 N6;obtain ⟨k, hk, rfl, x6, x0, x1, x3, x4⟩ := hrel;have N0 := zH x0; have N1 := zH x1; have N3 := zH x3; have N4 := zH x4; have N6 := zH x6; clear x0 x1 x3 x4 x6
  by_cases hlt : k < 10
  ·first
    |(guard_expr zA=zA
      have ht := round3_any g6 g1 k (roundsTo3 M k V) M wr (by omega) (by rw [roundsTo3_len, HVl.out]) HM.out N6.out N1.out;have HT := zH ht; clear ht)
    |(have hRl : (roundsTo3 M k V).length = 16 := by rw [roundsTo3_len, HVl.out]
      have hRl1 : (roundsTo3 M (k + 1) V).length = 16 := by rw [roundsTo3_len, HVl.out]
      have hR := fun W => r4Round_any k (roundsTo3 M k V) M W hlt hRl HM.out
      have e : turn32 M k (roundsTo3 M k V) = roundsTo3 M (k + 1) V := rfl;rw [e] at hR;have HR := zH hR;have sR := zH (sz16s _ hRl);have sS := zH (sz16s _ hRl1);have aS := zH (wc3_all (roundsTo3 M (k + 1) V));have hoS : Hid ((wc3 (roundsTo3 M k V)).size = (wc3 (roundsTo3 M (k + 1) V)).size) := by show _ = _; rw [wc3_size, wc3_size, hRl, hRl1]
      clear hR hRl hRl1 e)
   have hkd : decide ((k : Int) < 10) = true := by simp; omega
   first
    |(guard_expr zA=zA;go_wp2_with (go_at_call 170; refine HT.mono ?_; rintro e w8 ⟨rfl, hz8, hg8⟩; have HZ8 := zH hz8; have HG8 := zH hg8; clear hz8 hg8))
    |(go_wp2_with (first
       | (refine aZH rfl 155 (.tmp 11) rfl g6 rfl 155 (wc3 (roundsTo3 M k V)) (0, 0) _ N6 hu16.out rfl sR.out ?_)
       | (refine aZH rfl 155 (.tmp 6) rfl g1 rfl 155 (wc3 M) (0, 0) _ N1 hu16.out rfl sM.out ?_)
       | (go_at_call 123; refine (HR _).mono ?_; rintro e w8 ⟨rfl, hb8⟩; have M6 := zH (N6.below hb8 N6.lt); have HB8 := zH hb8; clear hb8)
       | (refine aZE rfl 155 _ _ rfl g6 (wc3 (roundsTo3 M (k + 1) V)) rfl rfl 155 _ M6 sS.out hoS.out aS.out ?_)))
   go_roundw
   first
    |(guard_expr zA=zA;case rel => exact ⟨k + 1, by omega, by go_num, HZ8.out, N0.grown HG8.out (by simp; omega), N1.grown HG8.out (by simp; omega), N3.grown HG8.out (by simp; omega), bgr N4.out HG8.out hl6.out⟩)
    |(case rel => exact ⟨k + 1, by omega, by go_num, M6.row _, (N0.below HB8.out N0.lt).rowFar (by omega) _, (N1.below HB8.out N1.lt).rowFar (by omega) _, (N3.below HB8.out N3.lt).rowFar (by omega) _, brow (bcall N4.out HB8.out) hl6.out _⟩)
   case measure => simp [intOf]; omega
  ·obtain rfl : k = 10 := by omega
   first
    |(guard_expr zA=zA;rw [show ((10 : Nat) : Int) = 10 from rfl])
    |(skip)
   clear hlt hk
   first
    |(guard_expr zA=zA
      obtain ⟨R, hR⟩ : ∃ R, R = roundsTo3 M 10 V := ⟨_, rfl⟩;have hRl : R.length = 16 := by rw [hR, roundsTo3_len, HVl.out]
      have x6 := N6.out;rw [<- hR] at x6;have HRl := zH hRl; have HR := zH hR; have X6 := zH x6; clear hRl hR x6 N6;have sR := zH (sz16s R HRl);have hoF : Hid (∀ F : List UInt32, F.length = 8 -> (wc3 (zw3 8)).size = (wc3 F).size) := fun F h => by rw [wc3_size, wc3_size, h]; rfl)
    |(have hRl : (roundsTo3 M 10 V).length = 16 := by rw [roundsTo3_len, HVl.out]
      have hE := fun W => r4End_any H (roundsTo3 M 10 V) W HH hRl
      have hFl := outOf3_len H (roundsTo3 M 10 V);have sR := zH (sz16s _ hRl);obtain ⟨F, hF⟩ : ∃ F, F = outOf3 H (roundsTo3 M 10 V) := ⟨_, rfl⟩;rw [<- hF] at hE hFl;have HE := zH hE; have HF := zH hF;have sF := zH (sz8s F hFl);have aF := zH (wc3_all F);have hoF : Hid ((wc3 (zw3 8)).size = (wc3 F).size) := by show _ = _; rw [wc3_size, wc3_size, hFl]; rfl)
   have hl3 : Hid (w.heap.size <= g3) := by show _ <= _; have := l0.out; omega
   first
    |(guard_expr zA=zA
      have hE := end3_any H R wr HH HRl.out;obtain ⟨F, hF⟩ : ∃ F, F = outOf3 H R := ⟨_, rfl⟩;have hFl : F.length = 8 := by rw [hF, outOf3_len]
      rw [<- hF] at hE;have hff : F = outOf3 H (roundsTo3 M 10 V) := by rw [hF, HR.out]
      have HE := zH hE; have HFl := zH hFl; have HFF := zH hff; clear hE hFl hF hff;have sF := zH (sz8s F HFl);have aF := zH (wc3_all F);go_upto_region 7 with fail
      go_wp2_with (first
       | (refine aZH rfl 154 _ rfl g0 rfl 154 (wc3 H) (0, 0) _ N0 hu8.out rfl s8.out ?_)
       | (refine aZH rfl 155 _ rfl g6 rfl 155 (wc3 R) (0, 0) _ X6 hu16.out rfl sR.out ?_)
       | (go_at_call 171; refine HE.mono ?_; rintro e w9 ⟨rfl, hb9⟩)
       | (refine aZE rfl 154 _ _ rfl g3 (wc3 F) rfl rfl 154 _ (N3.below hb9 N3.lt) sF.out (hoF.out F HFl) aF.out ?_))
      exact aZB (aZZ rfl _ _ g3 _ _ (0, 0) _ rfl ((N3.below hb9 N3.lt).row _) hu8.out rfl sF.out) rfl ⟨by rw [HFF.out], brow (bcall N4.out hb9) hl3.out _⟩)
    |(clear hE hFl hRl hF
      go_upto_region 6 with fail
      go_wp2_with (first
       | (refine aZH rfl 154 (.tmp 5) rfl g0 rfl 154 (wc3 H) (0, 0) _ N0 hu8.out rfl s8.out ?_)
       | (refine aZH rfl 155 (.tmp 11) rfl g6 rfl 155 (wc3 (roundsTo3 M 10 V)) (0, 0) _ N6 hu16.out rfl sR.out ?_)
       | (go_at_call 124; refine (HE _).mono ?_; rintro e w8 ⟨rfl, hb8⟩; have M3 := zH (N3.below hb8 N3.lt); have HB8 := zH hb8; clear hb8)
       | (refine aZE rfl 154 _ _ rfl g3 (wc3 F) rfl rfl 154 _ M3 sF.out hoF.out aF.out ?_))
      rw [<- HF.out];exact aZB (aZZ rfl _ _ g3 _ _ (0, 0) _ rfl (M3.row _) hu8.out rfl sF.out) rfl ⟨rfl, brow (bcall N4 HB8) hl3.out _⟩)
 ) : P := h
theorem zS21 {P : Prop} (h : P := by
 have hnew := fun W hrs hrp hrk => new_any big d p ls lp key Ak nk ck W hc hf hd hls hlp hrs hrp hk hkk hrk
 first
  |(guard_expr zA=zA
    have hsf := startK_full big (encL big p ls lp) key;unfold hashL)
  |(skip)
 generalize startK big (encL big p ls lp) key = e0 at *;generalize encL big p ls lp = X at *;clear hc hkk hf;unfold Pr.v Pr.cs Sl.v at *;rw [hd] at hnew;simp only [hd] at *
 first
  |(guard_expr zA=zA;have hout := fun W (F : List Nat) (q : Nat) h => outN_any q d m big last X key 0 (e0.feed data) F W h hm (by rw [Eng.feed_full]; exact hsf))
  |(have hout := fun W (F : List Nat) (q : Nat) h => outBad_any q d m big last X key 0 (e0.feed data) F W h hm)
 have hmW : ∀ (g k : Nat) (w : World), 0 < k -> Sem.run Tryz.prog (method k e0.T (.pointer (some ⟨g, 0, none⟩)) "quern/node.write") w = .ok (e0.fw, .pointer (some ⟨g, 0, none⟩)) w := fun g k w hk => e0.run_write g k hk w
 have heL : ∀ args w, (callFunc e0.fw args).run Tryz.prog w = .ok (.enter e0.fw args) w := fun args w => e0.enters_w args w
 generalize he2 : e0.feed data = e2 at *
 first
  |(guard_expr zA=zA;have HE2 := zH he2; have HNEW := zH hnew; have HOUT := zH hout; have HRS := zH hrs; have HRP := zH hrp; have HRK := zH hrk; have HRD := zH hrd; have HDL := zH hdl; clear hnew hout hrs hrp hrk hrd hls hlp hk hd hsf hdl he2)
  |(have HE2 := zH he2; have HNEW := zH hnew; have HOUT := zH hout; have HRS := zH hrs; have HRP := zH hrp; have HRK := zH hrk; have HRD := zH hrd; have HDL := zH hdl; clear hnew hout hrs hrp hrk hrd hls hlp hk hd hdl he2 hm)
 generalize hkq : kOf big = kk at *;have HKQ := zH hkq; clear hkq;go_enter Tryz.func67, Tryz.ntmps67;go_upto_if 24 with (go_at_call 60; refine (HNEW.out _ ((HRS.alloc (aZC _) _).more (by simp)) ((HRP.alloc (aZC _) _).more (by simp)) ((HRK.alloc (aZC _) _).more (by simp))).mono ?_; rintro e w1 ⟨q, F, rfl, hN1, hF1, hbw1⟩; (first | refine withN hbw1 ?_ | refine withD hbw1 ?_ | refine with0 hbw1 ?_); intro hcw1 hfw1; have z0w1 : w.heap.size < w1.heap.size := (by have := hbw1.size; (try simp at this); omega))
 have hF1' : ∀ k, k ∈ F -> w.heap.size <= k := fun k hk => by have h := hF1 k hk; simp at h; omega
 have HN1 := zH hN1; have HF1 := zH hF1'; have HB1 := zH (bcall (bal (b0 w) _) hbw1); clear hN1 hF1 hF1' hcw1 hfw1 hbw1;obtain ⟨g0, hb0, -⟩ := HN1.engine;have c4 : w1.cell? ⟨q, 4, none⟩ = some (.bool false) := hb0.cell 4;have hf0 := hb0.frozen 4;have hq1 := hb0.lt;clear hb0;go_upto_region 5 with fail
 have HN2 := zH (HN1.put4 last);have HB2 := zH (HB1.setCell (p := ⟨q, 4, none⟩) (HF1 q HN1.here) (.bool last));have hz2 : w.heap.size <= (w1.setCell ⟨q, 4, none⟩ (.bool last)).heap.size := HB2.size;generalize w1.setCell ⟨q, 4, none⟩ (.bool last) = W2 at *;clear c4 hf0 hq1 HN1 HB1;obtain ⟨g, hbk, hcall⟩ := HN2.engine;have c6 : W2.cell? ⟨q, 6, none⟩ = some (.iface e0.T (.pointer (some ⟨g, 0, none⟩))) := hbk.cell 6;have hq2 := hbk.lt;have HCALL := zH (hcall Ad nd cd data HDL.out hnd hcd ((HRD.below HB2.out).more hz2) (fun h0 a ha h => by have := HF1.out _ h; have := HRD.low h0 a ha; omega));clear hbk hcall;go_wp2_with fail;refine HCALL.mono ?_;rintro r3 w3 ⟨rfl, F3, hN3, hF3, hB3⟩;rw [HE2.out] at hN3;have HN3 := zH hN3; have HB3 := zH (HB2.trans (hB3.toBelow (B := w.heap.size) hz2 HF1)); clear hN3 hB3 hF3 c6 hq2
 first
  |(guard_expr zA=zA
    go_wp2_with (go_at_call 64; refine (HOUT _ F3 q HN3).mono ?_; rintro r4 w4 ⟨A4, c4, rfl, ho4, hb4⟩; have HO4 := zH ho4; have HB4 := zH hb4; clear ho4 hb4);exact aZB (aZG rfl _ _ _) rfl ⟨A4, c4, rfl, HO4.mono HB3.size, bcall HB3 HB4.out⟩)
  |(go_wp2_with (go_at_call 64; refine (HOUT _ F3 q HN3).mono ?_; rintro r4 w4 ⟨rfl, hb4⟩; have HB4 := zH hb4; clear hb4)
    exact bodyPost_ret (results_tmp2 rfl _ _ _) rfl ⟨rfl, bcall HB3 HB4.out⟩)
 ) : P := h
theorem zS22 {P : Prop} (h : P := by
 first
  |(guard_expr zA=zA
    have HH := zH hH; have HVl := zH hR; clear hH hR;have hu8 := zH Tryz.underlying154)
  |(skip)
 obtain ⟨F, hF⟩ : ∃ F, F = outOf3 H R := ⟨_, rfl⟩;have hFl : F.length = 8 := by rw [hF, outOf3_len]
 rw [<- hF]
 first
  |(guard_expr zA=zA
    have HFl := zH hFl; have HF := zH hF; clear hFl hF;go_enter Tryz.func171, Tryz.ntmps171)
  |(have HH := zH hH; have HRl := zH hR; have HFl := zH hFl; have HF := zH hF; clear hH hR hFl hF
    have hu8 := zH Tryz.underlying154;have sF := zH (sz8s F HFl);have aF := zH (wc3_all F);have hoF : Hid ((wc3 (zw3 8)).size = (wc3 F).size) := by show _ = _; rw [wc3_size, wc3_size, HFl.out]; rfl
    go_enter Tryz.func124, Tryz.ntmps124)
 go_upto_region 1 with fail
 first
  |(guard_expr zA=zA
    obtain ⟨w1, hw1⟩ : ∃ w1, w1 = w.alloc (.cells (wc3 H) 154) := ⟨_, rfl⟩;obtain ⟨w3, hw3⟩ : ∃ w3, w3 = w1.alloc (.cells (wc3 R) 155) := ⟨_, rfl⟩;obtain ⟨w4, hw4⟩ : ∃ w4, w4 = w3.alloc (.cells (wc3 (zw3 8)) 154) := ⟨_, rfl⟩;have e4 : ((w.alloc (.cells (wc3 H) 154)).alloc (.cells (wc3 R) 155)).alloc (.cells z8s 154) = w4 := by rw [hw4, hw3, hw1]; rfl
    unfold z8s at e4;rw [e4];have n0 : Blk w4 w.heap.size 154 (wc3 H) := by rw [hw4, hw3, hw1]; exact ((Blk.new _ _ _).alloc _).alloc _
    have n2 : Blk w4 (w.heap.size + 1) 155 (wc3 R) := by
     have : w1.heap.size = w.heap.size + 1 := by rw [hw1]; simp
     rw [<- this, hw4, hw3]; exact (Blk.new _ _ _).alloc _
    have n3 : Blk w4 (w.heap.size + 1 + 1) 154 (wc3 (zw3 8)) := by
     have : w3.heap.size = w.heap.size + 1 + 1 := by rw [hw3, hw1]; simp
     rw [<- this, hw4]; exact Blk.new _ _ _
    have n4 : Below w.heap.size w w4 := by rw [hw4, hw3, hw1]; exact bal (bal (bal (b0 _) _) _) _
    clear hw1 hw3 hw4 e4 w1 w3)
  |(have n0 : Blk (((w.alloc (.cells (wc3 H) 154)).alloc (.cells (wc3 R) 155)).alloc (.cells z8s 154)) w.heap.size 154 (wc3 H) := ((Blk.new _ _ _).alloc _).alloc _
    have n6 : Blk (((w.alloc (.cells (wc3 H) 154)).alloc (.cells (wc3 R) 155)).alloc (.cells z8s 154)) (w.heap.size + 1) 155 (wc3 R) := by
     have := (Blk.new (w.alloc (.cells (wc3 H) 154)) 155 (wc3 R)).alloc (.cells z8s 154); simpa using this
    have n3 : Blk (((w.alloc (.cells (wc3 H) 154)).alloc (.cells (wc3 R) 155)).alloc (.cells z8s 154)) (w.heap.size + 1 + 1) 154 (wc3 (zw3 8)) := by
     have := Blk.new ((w.alloc (.cells (wc3 H) 154)).alloc (.cells (wc3 R) 155)) 154 z8s; show Blk _ _ _ z8s; simpa using this
    have n4 := bal (bal (bal (b0 w) (.cells (wc3 H) 154)) (.cells (wc3 R) 155)) (.cells z8s 154))
 obtain ⟨g0, hg0⟩ : ∃ g, g = w.heap.size := ⟨_, rfl⟩
 first
  |(guard_expr zA=zA;obtain ⟨g1, hg1⟩ : ∃ g, g = w.heap.size + 1 := ⟨_, rfl⟩)
  |(obtain ⟨g6, hg6⟩ : ∃ g, g = w.heap.size + 1 := ⟨_, rfl⟩)
 obtain ⟨g3, hg3⟩ : ∃ g, g = w.heap.size + 1 + 1 := ⟨_, rfl⟩
 first
  |(guard_expr zA=zA
    rw [<- hg3, <- hg1, <- hg0];rw [<- hg0] at n0; rw [<- hg1] at n2; rw [<- hg3] at n3;have l01 : g0 < g1 := by omega
    have l13 : g1 < g3 := by omega)
  |(unfold z8s at n0 n6 n3 n4
    rw [<- hg0] at n0; rw [<- hg6] at n6; rw [<- hg3] at n3;rw [<- hg3, <- hg6, <- hg0];generalize ((w.alloc (.cells (wc3 H) 154)).alloc (.cells (wc3 R) 155)).alloc (.cells #[.int .u32 0, .int .u32 0, .int .u32 0, .int .u32 0, .int .u32 0, .int .u32 0, .int .u32 0, .int .u32 0] 154) = w4 at *;have l06 : g0 < g6 := by omega
    have l63 : g6 < g3 := by omega)
 have l0 : Hid (w.heap.size <= g0) := by show _ <= _; omega
 first
  |(guard_expr zA=zA
    have N0 := zH n0; have N6 := zH n2; have N3 := zH n3; have N4 := zH n4;clear n0 n2 n3 n4 hg0 hg1 hg3)
  |(have N0 := zH n0; have N6 := zH n6; have N3 := zH n3; have N4 := zH n4
    clear n0 n6 n3 n4 hg0 hg6 hg3)
 go_wp2_with fail
 first
  |(guard_expr zA=zA;go_loopw [6] (fun i wr => ∃ k : Nat, k <= 8 /\ i = .int .i64 k /\ Blk wr g0 154 (wc3 (half3 F H k)) /\ Blk wr g1 155 (wc3 R) /\ Blk wr g3 154 (wc3 (zw3 8)) /\ Below w.heap.size w wr) (fun i _ => 8 - (intOf i).toNat))
  |(go_loopw [5] (fun i wr => ∃ k : Nat, k <= 8 /\ i = .int .i64 k /\ Blk wr g0 154 (wc3 (half3 F H k)) /\ Blk wr g6 155 (wc3 R) /\ Blk wr g3 154 (wc3 (zw3 8)) /\ Below w.heap.size w wr) (fun i _ => 8 - (intOf i).toNat))
 case atStart => exact ⟨0, by omega, rfl, by simpa [half3] using N0.out, N6.out, N3.out, N4.out⟩
 case round =>
  clear N0 N3 N4 N6;obtain ⟨k, hk, rfl, x0, x6, x3, x4⟩ := hrel;have N0 := zH x0; have N3 := zH x3; have N4 := zH x4; have N6 := zH x6; clear x0 x3 x4 x6
  by_cases hlt : k < 8
  ·have eF := outOf3_at H R k hlt
   first
    |(guard_expr zA=zA;rw [<- HF.out] at eF)
    |(rw [<- HF.out, <- UInt32.xor_assoc] at eF)
   obtain ⟨k8, hk8⟩ : ∃ k8, k8 = k + 8 := ⟨_, rfl⟩;rw [<- hk8] at eF;have e8 : (k : Int) + 8 = (k8 : Int) := by omega
   have w8' : IntKind.i64.wrap (k8 : Int) = k8 := by simp [aZU, aZR, aZM]; omega
   obtain ⟨p, hp⟩ : ∃ p, p = H.getD k 0 := ⟨_, rfl⟩;obtain ⟨q, hq⟩ : ∃ q, q = R.getD k 0 := ⟨_, rfl⟩;obtain ⟨r, hr⟩ : ∃ r, r = R.getD k8 0 := ⟨_, rfl⟩;have c0 : wr.cell? ⟨g0, k, none⟩ = some (.int .u32 (wr3 p)) := by rw [N0.cell, wc3_at' _ k p (by rw [hp]; exact half3_at F H k (by rw [HH.out]; exact hlt) (by rw [HH.out, HFl.out]))]
   first
    |(guard_expr zA=zA
      have c1 : wr.cell? ⟨g1, k, none⟩ = some (.int .u32 (wr3 q)) := by rw [N6.cell, wc3_at' _ k q (by rw [hq]; exact getD3 R k (by rw [HVl.out]; omega))]
      have c2 : wr.cell? ⟨g1, k8, none⟩ = some (.int .u32 (wr3 r)) := by rw [N6.cell, wc3_at' _ k8 r (by rw [hr]; exact getD3 R k8 (by rw [HVl.out]; omega))])
    |(have c1 : wr.cell? ⟨g6, k, none⟩ = some (.int .u32 (wr3 q)) := by rw [N6.cell, wc3_at' _ k q (by rw [hq]; exact getD3 R k (by rw [HRl.out]; omega))]
      have c2 : wr.cell? ⟨g6, k8, none⟩ = some (.int .u32 (wr3 r)) := by rw [N6.cell, wc3_at' _ k8 r (by rw [hr]; exact getD3 R k8 (by rw [HRl.out]; omega))])
   have cf : wr.frozen? ⟨g0, k, none⟩ = false := N0.frozen k;rw [<- hp, <- hq, <- hr] at eF;have EF := zH eF; clear eF hp hq hr;have h2 := wr3_xor;have hki : (k : Int) < 8 := by omega
   have hk8i : (k8 : Int) < 16 := by omega
   have hk16 : (k : Int) < 16 := by omega
   have hkd : decide ((k : Int) < 8) = true := by simp; omega
   clear hk8;go_wp2
   first
    |(guard_expr zA=zA
      refine wrZ (fun _ => True) (fun _ _ h => h) (Ords.of [(0, 0), (0, 1), (1, 2), (0, 3), (0, 4), (1, 5), (0, 6), (0, 7), (0, 8), (1, 9), (0, 10), (0, 11), (0, 12), (2, 13)] .fin) trivial ?_
      iterate 13 ((first | refine ords_pure rfl (fun K hK => ?_) | refine ords_read rfl (fun K hK => ?_)); go_simp; refine hK _ ?_; clear hK K))
    |(refine wrZ (fun _ => True) (fun _ _ h => h) (Ords.of [(0, 0), (0, 1), (0, 2), (1, 3), (0, 4), (0, 5), (1, 6), (0, 7), (0, 8), (0, 9), (0, 10), (1, 11), (0, 12), (0, 13), (2, 14)] .fin) trivial ?_
      iterate 14 ((first | refine ords_pure rfl (fun K hK => ?_) | refine ords_read rfl (fun K hK => ?_)); go_simp; refine hK _ ?_; clear hK K))
   refine ords_loud rfl (fun n1 => ?_);go_wp2
   first | (refine ⟨trivial, ?_⟩; refine ords_end (fun n2 => ?_)) | (rintro _ ⟨n2, rfl⟩)
   go_wp2_with fail;go_roundw
   case rel =>
    first
     |(guard_expr zA=zA;have h0 := ((N0.drewN n1).set_ k (wv3 (p ^^^ (q ^^^ r)))).drewN n2)
     |(have h0 := ((N0.drewN n1).set_ k (wv3 (p ^^^ q ^^^ r))).drewN n2)
    rw [wc3_set, half3_put F H k _ EF.out (by rw [HH.out, HFl.out])] at h0;exact ⟨k + 1, by omega, by go_num, h0, ((N6.drewN n1).far (p := ⟨g0, k, none⟩) (by simp; omega) _).drewN n2, ((N3.drewN n1).far (p := ⟨g0, k, none⟩) (by simp; omega) _).drewN n2, bdr (bput (bdr N4.out n1) (p := ⟨g0, k, none⟩) l0.out _) n2⟩
   case measure => simp [intOf]; omega
  ·obtain rfl : k = 8 := by omega
   clear hlt hk;have x0 := N0.out;rw [half3_all F H 8 HFl.out HH.out] at x0;have X0 := zH x0; clear x0 N0
   first
    |(guard_expr zA=zA
      have sF := zH (sz8s F HFl);have aF := zH (wc3_all F);have hoF : Hid ((wc3 (zw3 8)).size = (wc3 F).size) := by show _ = _; rw [wc3_size, wc3_size, HFl.out]; rfl)
    |(skip)
   have hl3 : Hid (w.heap.size <= g3) := by show _ <= _; have := l0.out; omega
   first
    |(guard_expr zA=zA;go_upto_region 6 with fail)
    |(go_upto_region 5 with fail)
   go_wp2_with (first
    | (refine aZH rfl 154 _ rfl g0 rfl 154 (wc3 F) (0, 0) _ X0 hu8.out rfl sF.out ?_)
    | (refine aZE rfl 154 _ _ rfl g3 (wc3 F) rfl rfl 154 _ N3 sF.out hoF.out aF.out ?_))
   exact aZB (aZZ rfl _ _ g3 _ _ (0, 0) _ rfl (N3.row _) hu8.out rfl sF.out) rfl ⟨rfl, brow N4 hl3.out _⟩
 ) : P := h
theorem zS23 {P : Prop} (h : P := by
 have hck := fun W => refCheck_any k p W
 first
  |(guard_expr zA=zA
    have t0 : (chk k p != 0) = true := by simpa using hc
    generalize chk k p = E at *)
  |(rw [hc] at hck
    have ha := fun W hr => refTrim_any p.salt.A p.salt.c p.salt.n ls W hls h1 hr
    have hb := fun W hr => refTrim_any p.pers.A p.pers.c p.pers.n lp W hlp h2 hr
    clear hc)
 have hzs := zeroPar.size;have hzo := zeroPar.ones;have hsz : ∀ s t : Sl, (Tryz.prog.info? 81).map (·.size) = some (p.slk s t).cs.size := fun s t => Pr.size _
 have hall : ∀ s t : Sl, (p.slk s t).cs.all (·.oneCell') = true := fun s t => Pr.ones _
 obtain ⟨d, ky, fo, de, le, of, xo, nd, inn, ⟨sA, sn, sc⟩, ⟨pA, pn, pc⟩⟩ := p;unfold zeroPar Sl.nil at *;unfold Pr.v Pr.slk Pr.cs Sl.v at *;dsimp only at *;have HSZ := zH hsz; have HALL := zH hall; have ZS := zH hzs; have ZO := zH hzo;clear hsz hall hzs hzo;have hu := zH Tryz.underlying81
 first
  |(guard_expr zA=zA;have HCK := zH hck; clear hck hc HALL)
  |(have HCK := zH hck; have HA := zH ha; have HBB := zH hb; have HRS := zH hrs; have HRP := zH hrp
    clear hck ha hb hrs hrp hls hlp h1 h2)
 go_enter Tryz.func127, Tryz.ntmps127;go_upto_region 1 with fail
 have n0 : Blk ((w.alloc (.cells #[.int .i64 d, .int .i64 ky, .int .i64 fo, .int .i64 de, .int .u32 le, .int .u64 of, .int .u32 xo, .int .i64 nd, .int .i64 inn, .slice sA sn sc, .slice pA pn pc] 81)).alloc (.cells zcs 81)) w.heap.size 81 #[.int .i64 d, .int .i64 ky, .int .i64 fo, .int .i64 de, .int .u32 le, .int .u64 of, .int .u32 xo, .int .i64 nd, .int .i64 inn, .slice sA sn sc, .slice pA pn pc] := (Blk.new _ _ _).alloc _;have n1 : Blk ((w.alloc (.cells #[.int .i64 d, .int .i64 ky, .int .i64 fo, .int .i64 de, .int .u32 le, .int .u64 of, .int .u32 xo, .int .i64 nd, .int .i64 inn, .slice sA sn sc, .slice pA pn pc] 81)).alloc (.cells zcs 81)) (w.heap.size + 1) 81 zcs := Blk.new2 _ _ _ _;have n4 := bal (bal (b0 w) (.cells #[.int .i64 d, .int .i64 ky, .int .i64 fo, .int .i64 de, .int .u32 le, .int .u64 of, .int .u32 xo, .int .i64 nd, .int .i64 inn, .slice sA sn sc, .slice pA pn pc] 81)) (.cells zcs 81);obtain ⟨g, hg⟩ : ∃ g, g = w.heap.size := ⟨_, rfl⟩;rw [<- hg] at n0 n1 ⊢;have hz : zcs = #[.int .i64 0, .int .i64 0, .int .i64 0, .int .i64 0, .int .u32 0, .int .u64 0, .int .u32 0, .int .i64 0, .int .i64 0, .slice none 0 0, .slice none 0 0] := rfl;rw [<- hz];generalize (w.alloc (.cells #[.int .i64 d, .int .i64 ky, .int .i64 fo, .int .i64 de, .int .u32 le, .int .u64 of, .int .u32 xo, .int .i64 nd, .int .i64 inn, .slice sA sn sc, .slice pA pn pc] 81)).alloc (.cells zcs 81) = u at *;have hwg : Hid (w.heap.size <= g) := by (show _ <= _; omega)
 have HK := zH n0; have HZ := zH n1; have HB := zH n4; clear n0 n1 n4 hg hz;have hs0 := zH (HSZ ⟨sA, sn, sc⟩ ⟨pA, pn, pc⟩)
 first
  |(guard_expr zA=zA
    go_wp2_with (first
     | (refine wpList_load_row rfl 81 _ rfl g rfl 81 _ (0, 0) _ HK hu.out rfl hs0.out ?_)
     | (go_at_call 42; refine (HCK _).mono ?_; rintro e1 u ⟨rfl, hb1⟩; replace HK := zH (HK.below hb1 HK.lt); replace HZ := zH (HZ.below hb1 HZ.lt); replace HB := zH (bcall HB hb1); clear hb1)
     | (refine wpList_store_row rfl 81 _ _ rfl (g + 1) _ rfl rfl 81 _ HZ ZS rfl ZO ?_))
    exact bodyPost_ret (results_cell_tmp rfl _ _ (g + 1) 81 _ _ rfl (HZ.row _) hu.out rfl ZS) rfl ⟨rfl, brow HB (Nat.le_succ_of_le hwg.out) _⟩)
  |(go_upto_region 4 with (first
     | (refine wpList_load_row rfl 81 _ rfl g rfl 81 _ (0, 0) _ HK hu.out rfl hs0.out ?_)
     | (go_at_call 42; refine (HCK _).mono ?_; rintro e1 u ⟨rfl, hb1⟩; replace HK := zH (HK.below hb1 HK.lt); replace HZ := zH (HZ.below hb1 HZ.lt); replace HB := zH (bcall HB hb1); clear hb1))
    have hgo := HK.lt;have dC : u.cell? ⟨g, 9, none⟩ = some (.slice sA sn sc) := HK.cell 9;go_upto_region 5 with (go_at_call 141; refine (HA _ ((HRS.below HB).more HB.size)).mono ?_; rintro e2 u ⟨A1, t1, c1, rfl, hT1, ho1, hb2⟩; clear dC; replace HK := zH (HK.below hb2 HK.lt); replace HZ := zH (HZ.below hb2 HZ.lt); have dC : u.cell? ⟨g, 9, none⟩ = some (.slice sA sn sc) := HK.cell 9; have f9 := HK.frozen 9; have hl9 := HK.lt)
    have HO1 := zH ((ho1.mono HB.size).setFar (p := ⟨g, 9, none⟩) (fun a ha he => by have h1 := (ho1.block_lt a ha).1; have h3 : a.block = g := he; omega) (.slice A1 t1 c1));replace HK := zH (HK.set_ 9 (.slice A1 t1 c1));replace HZ := zH (HZ.far (p := ⟨g, 9, none⟩) (by show g + 1 ≠ g; omega) (.slice A1 t1 c1));replace HB := zH (bput (bcall HB hb2) (p := ⟨g, 9, none⟩) hwg.out (.slice A1 t1 c1));have HT1 := zH hT1;clear hT1 ho1 hb2 hgo dC f9 hl9;generalize u.setCell ⟨g, 9, none⟩ (.slice A1 t1 c1) = u at *;have hgo := HK.lt;have dC : u.cell? ⟨g, 10, none⟩ = some (.slice pA pn pc) := HK.cell 10;go_upto_region 6 with (go_at_call 141; refine (HBB _ ((HRP.below HB).more HB.size)).mono ?_; rintro e2 u ⟨A2, t2, c2, rfl, hT2, ho2, hb2⟩; clear dC; replace HK := zH (HK.below hb2 HK.lt); replace HZ := zH (HZ.below hb2 HZ.lt); have dC : u.cell? ⟨g, 10, none⟩ = some (.slice pA pn pc) := HK.cell 10; have f9 := HK.frozen 10; have hl9 := HK.lt)
    have HO2 := zH ((ho2.mono HB.size).setFar (p := ⟨g, 10, none⟩) (fun a ha he => by have h1 := (ho2.block_lt a ha).1; have h3 : a.block = g := he; omega) (.slice A2 t2 c2));replace HO1 := zH ((HO1.below hb2 (aZC _)).setFar (p := ⟨g, 10, none⟩) (fun a ha he => (HO1.below hb2 (aZC _)).ne_blk HK (by show 5 ≠ 81; decide) a ha he) (.slice A2 t2 c2));replace HK := zH (HK.set_ 10 (.slice A2 t2 c2));replace HZ := zH (HZ.far (p := ⟨g, 10, none⟩) (by show g + 1 ≠ g; omega) (.slice A2 t2 c2));replace HB := zH (bput (bcall HB hb2) (p := ⟨g, 10, none⟩) hwg.out (.slice A2 t2 c2));have HT2 := zH hT2;clear hT2 ho2 hb2 hgo dC f9 hl9;generalize u.setCell ⟨g, 10, none⟩ (.slice A2 t2 c2) = u at *;have hk2 : Blk u g 81 #[.int .i64 d, .int .i64 ky, .int .i64 fo, .int .i64 de, .int .u32 le, .int .u64 of, .int .u32 xo, .int .i64 nd, .int .i64 inn, .slice A1 t1 c1, .slice A2 t2 c2] := HK.out;clear HK hs0;have HK := zH hk2; clear hk2;have hs0 := zH (HSZ ⟨A1, t1, c1⟩ ⟨A2, t2, c2⟩);have ha0 := zH (HALL ⟨A1, t1, c1⟩ ⟨A2, t2, c2⟩);go_wp2_with (first
     | (refine wpList_load_row rfl 81 _ rfl g rfl 81 _ (0, 0) _ HK hu.out rfl hs0.out ?_)
     | (refine wpList_store_row rfl 81 _ _ rfl (g + 1) _ rfl rfl 81 _ HZ hs0.out rfl ha0.out ?_))
    refine bodyPost_ret (results_cell_tmp rfl _ _ (g + 1) 81 _ _ rfl (HZ.row _) hu.out rfl hs0.out) rfl ⟨A1, t1, c1, A2, t2, c2, rfl, HT1.out, HT2.out, ?_, ?_, brow HB (Nat.le_succ_of_le hwg.out) _⟩
    ·exact HO1.of_block (fun a ha => setRow_other u _ _ _ (HO1.ne_blk HZ (by show 5 ≠ 81; decide) a ha))
    ·exact HO2.of_block (fun a ha => setRow_other u _ _ _ (HO2.ne_blk HZ (by show 5 ≠ 81; decide) a ha)))
 ) : P := h
theorem zS24 {P : Prop} (h : P := by
 first
  |(guard_expr zA=zA
    have t3 : (0 < n') = True := by simp [h0]
    have t4 : (m.T <= fr0) = False := by simp; omega)
  |(have t3 : (0 < n') = False := by simp [h0])
 clear hv h1 h2 h3 h4 h5 h6 hn he h0 hd hnd hcd hfr;go_enter Tryz.func72, Tryz.ntmps72;go_wp2_with fail;refine HNW.mono ?_;rintro e1 w1 ⟨g, F, rfl, hX, hF, hb⟩;have HX := zH hX; have HF := zH hF; have HB := zH hb;have d3 : w1.cell? ⟨g, 3, none⟩ = some (.int .u64 m.T) := hX.total HM.out;have hgl : g < w1.heap.size := hX.lt _ hX.here;clear hX hF hb;have hwr := xWrite Ad nd cd data w1 HX HD HND HCD ((HRD.below HB).more HB.size) (fun _ a h1 h2 => by
   obtain ⟨ad, e, h3, -⟩ := HRD.out.2 (by rcases data with _ | ⟨x, l⟩; · exact absurd rfl ‹_›
                                          · exact Nat.succ_pos _)
   rw [h1] at e; cases e;exact Nat.lt_irrefl _ (Nat.lt_of_lt_of_le h3 (HF _ h2)))
 have HWR := zH hwr; clear hwr;go_wp2_with fail;refine HWR.mono ?_;rintro e2 w2 ⟨rfl, F2, hX2, hF2, hb2⟩;have HB2 := zH (HB.trans (hb2.toBelow HB.size HF)); have HF2 := zH (fun k hk => (hF2 k hk).elim (fun h => HF k h) (fun h => Nat.le_trans HB.size h));have hsk := hX2.skip HM fr0 HFR.out;rw [List.nil_append] at hsk;have HG2 := zH hX2.here; have HSK := zH hsk; clear hX2 hF2 hb2 hsk d3 hgl HWR HX;go_wp2_with fail;refine HSK.mono ?_;rintro e3 w3 ⟨rfl, F3, hX3, hF3, hb3⟩;have HB3 := zH (HB2.trans (hb3.toBelow HB2.size (fun k hk => by rw [List.mem_singleton.1 hk]; exact HF2.out _ HG2.out)));have hrd3 := hX3.read HM hX3.posle n' HN.out;rw [HRK.out] at hrd3;have HRD3 := zH hrd3; clear hX3 hF3 hb3 hrd3 HSK;go_wp2_with fail;refine HRD3.mono ?_;rintro e4 w4 ⟨A, j, cc, rfl, hl, hcc, ho, F4, hX4, hF4, hb4, -⟩;have HB4 := zH (HB3.trans (hb4.toBelow HB3.size (fun k hk => by rw [List.mem_singleton.1 hk]; exact HF2.out _ HG2.out))); have HL4 := zH hl; have HC4 := zH hcc; have HO4 := zH (ho.mono (show w.heap.size <= w3.heap.size from HB3.size)); clear hl hcc ho hX4 hF4 hb4;go_wp2_with fail;exact aZB (aZG rfl _ _ _) rfl ⟨A, j, cc, rfl, HL4.out, HC4.out, HO4.out, HB4.out⟩
 ) : P := h
theorem zS25 {P : Prop} (h : P := by
 first
  |(guard_expr zA=zA
    obtain rfl : V = 2 := hV;have hfu := fun W => refFull_any true W
    change ∀ W, Calls Tryz.prog _ #[.int .i64 1] W (fun e w' => e = .returned (.int .i64 64) /\ W = w') at hfu)
  |(obtain rfl : V = 3 := hV
    have hfu := fun W => refFull_any false W
    change ∀ W, Calls Tryz.prog _ #[.int .i64 2] W (fun e w' => e = .returned (.int .i64 32) /\ W = w') at hfu)
 have HFU := zH hfu;clear hfu
 by_cases h1 : size < 1
 ·have d1 : decide (size < 1) = true := by simpa using h1
  have HRR2 : Hid (R = ([], 1)) := zH (by rw [HR.out]; exact nmS_size (by decide) (.inl h1));clear h1;go_wp2_with (go_at_call 33; refine (HFU _).mono ?_; rintro e2 w2 ⟨rfl, rfl⟩);exact aZB (aZG rfl _ _ _) rfl ⟨none, 0, 0, 0, by rw [HRR2.out]; rfl, by rw [HRR2.out]; rfl, by rw [HRR2.out]; exact OS.nil _ _ 0 rfl, HBW.out⟩
 ·have d1 : decide (size < 1) = false := by simpa using h1
  first
   |(guard_expr zA=zA;by_cases h2 : 64 < size)
   |(by_cases h2 : 32 < size)
  ·first
    |(guard_expr zA=zA
      have d2 : decide (size > 64) = true := by simpa using h2
      have d3 : decide (64 < size) = true := d2)
    |(have d2 : decide (size > 32) = true := by simpa using h2
      have d3 : decide (32 < size) = true := d2)
   have HRR2 : Hid (R = ([], 1)) := zH (by rw [HR.out]; exact nmS_size (by decide) (.inr h2));clear h1 h2;go_wp2_with (go_at_call 33; refine (HFU _).mono ?_; rintro e2 w2 ⟨rfl, rfl⟩);exact aZB (aZG rfl _ _ _) rfl ⟨none, 0, 0, 0, by rw [HRR2.out]; rfl, by rw [HRR2.out]; rfl, by rw [HRR2.out]; exact OS.nil _ _ 0 rfl, HBW.out⟩
  ·first
    |(guard_expr zA=zA
      have d2 : decide (size > 64) = false := by simpa using h2
      have d3 : decide (64 < size) = false := d2;have hsz : ¬ (size < 1 \/ (nmMost 2 : Int) < size) := fun h => h.elim h1 h2
      by_cases h3 : 64 < nk)
    |(have d2 : decide (size > 32) = false := by simpa using h2
      have d3 : decide (32 < size) = false := d2;have hsz : ¬ (size < 1 \/ (nmMost 3 : Int) < size) := fun h => h.elim h1 h2
      by_cases h3 : 32 < nk)
   ·first
     |(guard_expr zA=zA
       have d4 : decide ((nk : Int) > 64) = true := by simp; omega
       have d5 : (64 < nk) = True := eq_true h3)
     |(have d4 : decide ((nk : Int) > 32) = true := by simp; omega
       have d5 : (32 < nk) = True := eq_true h3)
    have HRR2 : Hid (R = ([], 8)) := zH (by rw [HR.out]; exact nmS_key (by decide) hsz (by rw [HK.out]; exact h3));clear h1 h2 h3 hsz;go_wp2_with (go_at_call 33; refine (HFU _).mono ?_; rintro e2 w2 ⟨rfl, rfl⟩);exact aZB (aZG rfl _ _ _) rfl ⟨none, 0, 0, 0, by rw [HRR2.out]; rfl, by rw [HRR2.out]; rfl, by rw [HRR2.out]; exact OS.nil _ _ 0 rfl, HBW.out⟩
   ·first
     |(guard_expr zA=zA
       have d4 : decide ((nk : Int) > 64) = false := by simp; omega
       have d5 : (64 < nk) = False := eq_false h3;have hRh : R = nmHash 2 size key data := by rw [HR.out]; exact nmS_ok (by decide) hsz (by rw [HK.out]; exact h3))
     |(have d4 : decide ((nk : Int) > 32) = false := by simp; omega
       have d5 : (32 < nk) = False := eq_false h3;have hRh : R = nmHash 3 size key data := by rw [HR.out]; exact nmS_ok (by decide) hsz (by rw [HK.out]; exact h3))
    obtain ⟨sn, hsn⟩ : ∃ sn : Nat, size = (sn : Int) := ⟨size.toNat, by omega⟩;subst hsn
    first
     |(guard_expr zA=zA
       have hR3 : R = ((LP.mk true (sn : Int) key [] [] data).dig, 0) := by rw [hRh]; rfl
       have hle := LP.err_plain true sn key data ⟨by omega, by show sn <= 64; omega⟩ (by rw [HK.out]; show nk <= 64; omega);have hlen : ((LP.mk true (sn : Int) key [] [] data).dig).length = sn := Int.ofNat.inj (LP.dig_len (LP.mk true (sn : Int) key [] [] data) hle);have hcl : ∀ W, Below w.heap.size w W -> Calls Tryz.prog 35 #[.int .i64 1, .int .i64 sn, .slice Ak nk ck, .slice none 0 0, .slice none 0 0, .slice Ad nd cd] W (fun r w' => ∃ A' j c' cc, r = .returned (.tuple #[.slice A' j cc, .int .i64 0]) /\ sn = j /\ OS cB w' W.heap.size A' c' ((LP.mk true (sn : Int) key [] [] data).dig) /\ Below W.heap.size W w') :=
        fun W hb => (refDigest_any (LP.mk true (sn : Int) key [] [] data) hle ⟨Ak, nk, ck⟩ ⟨none, 0, 0⟩ ⟨none, 0, 0⟩ ⟨Ad, nd, cd⟩ W ⟨HK.out, rfl, rfl, HDL.out, by show nk <= _; omega, by decide, by decide, HN2.out, ⟨HND.out, HCD.out⟩, (HRK.below hb).more hb.size, RS.nil _, RS.nil _, (HRD.below hb).more hb.size⟩).mono fun r w' ⟨A', j, c', cc, h1, h2, _, h3, h4⟩ => ⟨A', j, c', cc, h1, by rw [<- h2]; exact hlen.symm, h3, h4⟩
       generalize (LP.mk true (sn : Int) key [] [] data).dig = LL at *)
     |(have hR3 : R = ((LP.mk false (sn : Int) key [] [] data).dig, 0) := by rw [hRh]; rfl
       have hle := LP.err_plain false sn key data ⟨by omega, by show sn <= 32; omega⟩ (by rw [HK.out]; show nk <= 32; omega);have hlen : ((LP.mk false (sn : Int) key [] [] data).dig).length = sn := Int.ofNat.inj (LP.dig_len (LP.mk false (sn : Int) key [] [] data) hle);have hcl : ∀ W, Below w.heap.size w W -> Calls Tryz.prog 35 #[.int .i64 2, .int .i64 sn, .slice Ak nk ck, .slice none 0 0, .slice none 0 0, .slice Ad nd cd] W (fun r w' => ∃ A' j c' cc, r = .returned (.tuple #[.slice A' j cc, .int .i64 0]) /\ sn = j /\ OS cB w' W.heap.size A' c' ((LP.mk false (sn : Int) key [] [] data).dig) /\ Below W.heap.size W w') :=
        fun W hb => (refDigest_any (LP.mk false (sn : Int) key [] [] data) hle ⟨Ak, nk, ck⟩ ⟨none, 0, 0⟩ ⟨none, 0, 0⟩ ⟨Ad, nd, cd⟩ W ⟨HK.out, rfl, rfl, HDL.out, by show nk <= _; omega, by decide, by decide, HN2.out, ⟨HND.out, HCD.out⟩, (HRK.below hb).more hb.size, RS.nil _, RS.nil _, (HRD.below hb).more hb.size⟩).mono fun r w' ⟨A', j, c', cc, h1, h2, _, h3, h4⟩ => ⟨A', j, c', cc, h1, by rw [<- h2]; exact hlen.symm, h3, h4⟩
       generalize (LP.mk false (sn : Int) key [] [] data).dig = LL at *)
    have HR3 := zH hR3; have HCL := zH hcl; have HLN := zH hlen;clear h1 h2 h3 hsz hRh hR3 hcl hlen hle;go_wp2_with first
     | (go_at_call 33; refine (HFU _).mono ?_; rintro e2 w2 ⟨rfl, rfl⟩)
     | (go_at_call 35; refine (HCL wr HBW).mono ?_; rintro e3 w3 ⟨A3, j3, c3, x3, rfl, hj3, ho3, hb3⟩; have HO3 := zH ho3; have HB3 := zH hb3; have HJ3 := zH hj3; clear ho3 hb3 hj3)
    exact aZB (aZG rfl _ _ _) rfl ⟨A3, j3, c3, x3, by rw [HR3.out]; rfl, by rw [HR3.out, <- HJ3.out]; exact HLN.out, by rw [HR3.out]; exact HO3.mono HBW.size, bcall HBW.out HB3.out⟩
 ) : P := h
theorem zS26 {P : Prop} (h : P := by
 first
  |(guard_expr zA=zA
    have t0 : (([98, 108, 97, 107, 101, 50, 98] : List UInt8) == n.toList) = true := by rw [hn]; decide +kernel
    have HIK : Hid (i = 0) := zH (HI1.out.1 hn))
  |(have t0 : (([98, 108, 97, 107, 101, 50, 98, 112] : List UInt8) == n.toList) = true := by rw [hn]; decide +kernel
    have HIK : Hid (i = 2) := zH (HI1.out.2.2.1 hn))
 clear hn
 by_cases h1 : size < 1
 ·have d1 : decide (size < 1) = true := by simpa using h1
  have HRR2 : Hid (R = ([], 1)) := zH (by rw [HR.out, HIK.out]; exact nmS_size (by decide) (.inl h1));clear h1
  first
   |(guard_expr zA=zA;go_wp2_with (refine aZX rfl 78 (.tmp 16) rfl g 0 rfl _ _ HRR Tryz.underlying78 rfl (by kernel_rfl) ?_))
   |(go_wp2_with (refine aZX rfl 78 (.tmp 16) rfl g 10 rfl _ _ HRR Tryz.underlying78 rfl (by kernel_rfl) ?_))
  exact aZB (aZG rfl _ _ _) rfl ⟨none, 0, 0, 0, by rw [HRR2.out]; rfl, by rw [HRR2.out]; rfl, by rw [HRR2.out]; exact OS.nil _ _ 0 rfl, bal HBW.out _⟩
 ·have d1 : decide (size < 1) = false := by simpa using h1
  by_cases h2 : 64 < size
  ·have d2 : decide (size > 64) = true := by simpa using h2
   have d3 : decide (64 < size) = true := d2;have HRR2 : Hid (R = ([], 1)) := zH (by rw [HR.out, HIK.out]; exact nmS_size (by decide) (.inr h2));clear h1 h2
   first
    |(guard_expr zA=zA;go_wp2_with (refine aZX rfl 78 (.tmp 16) rfl g 0 rfl _ _ HRR Tryz.underlying78 rfl (by kernel_rfl) ?_))
    |(go_wp2_with (refine aZX rfl 78 (.tmp 16) rfl g 10 rfl _ _ HRR Tryz.underlying78 rfl (by kernel_rfl) ?_))
   exact aZB (aZG rfl _ _ _) rfl ⟨none, 0, 0, 0, by rw [HRR2.out]; rfl, by rw [HRR2.out]; rfl, by rw [HRR2.out]; exact OS.nil _ _ 0 rfl, bal HBW.out _⟩
  ·have d2 : decide (size > 64) = false := by simpa using h2
   have d3 : decide (64 < size) = false := d2
   first
    |(guard_expr zA=zA;have hsz : ¬ (size < 1 \/ (nmMost 0 : Int) < size) := fun h => h.elim h1 h2)
    |(have hsz : ¬ (size < 1 \/ (nmMost 2 : Int) < size) := fun h => h.elim h1 h2)
   by_cases h3 : 64 < nk
   ·have d4 : decide ((nk : Int) > 64) = true := by simp; omega
    have d5 : (64 < nk) = True := eq_true h3;have HRR2 : Hid (R = ([], 8)) := zH (by rw [HR.out, HIK.out]; exact nmS_key (by decide) hsz (by rw [HK.out]; exact h3));clear h1 h2 h3 hsz
    first
     |(guard_expr zA=zA;go_wp2_with (refine aZX rfl 78 (.tmp 16) rfl g 0 rfl _ _ HRR Tryz.underlying78 rfl (by kernel_rfl) ?_))
     |(go_wp2_with (refine aZX rfl 78 (.tmp 16) rfl g 10 rfl _ _ HRR Tryz.underlying78 rfl (by kernel_rfl) ?_))
    exact aZB (aZG rfl _ _ _) rfl ⟨none, 0, 0, 0, by rw [HRR2.out]; rfl, by rw [HRR2.out]; rfl, by rw [HRR2.out]; exact OS.nil _ _ 0 rfl, bal HBW.out _⟩
   ·have d4 : decide ((nk : Int) > 64) = false := by simp; omega
    have d5 : (64 < nk) = False := eq_false h3
    first
     |(guard_expr zA=zA;have hRh : R = nmHash 0 size key data := by rw [HR.out, HIK.out]; exact nmS_ok (by decide) hsz (by rw [HK.out]; exact h3))
     |(have hRh : R = nmHash 2 size key data := by rw [HR.out, HIK.out]; exact nmS_ok (by decide) hsz (by rw [HK.out]; exact h3))
    obtain ⟨sn, hsn⟩ : ∃ sn : Nat, size = (sn : Int) := ⟨size.toNat, by omega⟩;subst hsn
    first
     |(guard_expr zA=zA
       have hR3 : R = ((hashL true (plainP sn nk) [] [] key false data).take sn, 0) := by rw [hRh, <- HK.out]; rfl
       have hcl : ∀ W, Below w.heap.size w W -> Calls Tryz.prog 49 #[.int .i64 1, .int .i64 sn, .slice Ak nk ck, .slice Ad nd cd] W (fun r w' => ∃ A' c', r = .returned (.tuple #[.slice A' sn sn, .int .i64 0]) /\ OS cB w' W.heap.size A' c' ((hashL true (plainP sn nk) [] [] key false data).take sn) /\ Below W.heap.size W w') :=
        fun W hb => plainN_any true sn key data Ak Ad nk ck nd cd W ⟨by omega, by show sn <= 64; omega⟩ HK.out (by show nk <= 64; omega) ((HRK.below hb).more hb.size) HDL.out HND.out HCD.out ((HRD.below hb).more hb.size)
       have hlen : ((hashL true (plainP sn nk) [] [] key false data).take sn).length = sn := by
        unfold hashL; rw [List.length_take, Eng.out_len, Eng.feed_full, startK_full]; show min sn 64 = sn; omega
       generalize (hashL true (plainP sn nk) [] [] key false data).take sn = LL at *)
     |(have hR3 : R = ((LP.mk true (sn : Int) key [] [] data).dig, 0) := by rw [hRh]; rfl
       have hcl : ∀ W, Below w.heap.size w W -> Calls Tryz.prog 50 #[.int .i64 1, .int .i64 sn, .slice Ak nk ck, .slice Ad nd cd] W (fun r w' => ∃ A' c', r = .returned (.tuple #[.slice A' sn sn, .int .i64 0]) /\ OS cB w' W.heap.size A' c' ((LP.mk true (sn : Int) key [] [] data).dig) /\ Below W.heap.size W w') :=
        fun W hb => laneN_any true sn key data Ak Ad nk ck nd cd W ⟨by omega, by show sn <= 64; omega⟩ HK.out (by show nk <= 64; omega) ((HRK.below hb).more hb.size) HDL.out HND.out HCD.out HN2.out ((HRD.below hb).more hb.size)
       have hlen : ((LP.mk true (sn : Int) key [] [] data).dig).length = sn := by
        exact Int.ofNat.inj (LP.dig_len (LP.mk true (sn : Int) key [] [] data) (LP.err_plain true sn key data ⟨by omega, by show sn <= 64; omega⟩ (by rw [HK.out]; show nk <= 64; omega)))
       generalize (LP.mk true (sn : Int) key [] [] data).dig = LL at *)
    have HR3 := zH hR3; have HCL := zH hcl; have HLN := zH hlen;clear h1 h2 h3 hsz hRh hR3 hcl hlen
    first
     |(guard_expr zA=zA
       go_wp2_with (first
        | (refine aZX rfl 78 (.tmp 16) rfl g 0 rfl _ _ HRR Tryz.underlying78 rfl (by kernel_rfl) ?_)
        | (go_at_call 49; refine (HCL _ (bal HBW _)).mono ?_; rintro e3 w3 ⟨A3, c3, rfl, ho3, hb3⟩; have HO3 := zH ho3; have HB3 := zH hb3; clear ho3 hb3)))
     |(go_wp2_with (first
        | (refine aZX rfl 78 (.tmp 16) rfl g 10 rfl _ _ HRR Tryz.underlying78 rfl (by kernel_rfl) ?_)
        | (go_at_call 50; refine (HCL _ (bal HBW _)).mono ?_; rintro e3 w3 ⟨A3, c3, rfl, ho3, hb3⟩; have HO3 := zH ho3; have HB3 := zH hb3; clear ho3 hb3)))
    exact aZB (aZG rfl _ _ _) rfl ⟨A3, sn, c3, sn, by rw [HR3.out]; rfl, by rw [HR3.out]; exact HLN.out, by rw [HR3.out]; exact HO3.mono (bal HBW.out _).size, bcall (bal HBW.out _) HB3.out⟩
 ) : P := h
theorem zS27 {P : Prop} (h : P := by
 first
  |(guard_expr zA=zA
    have t0 : (([98, 108, 97, 107, 101, 50, 115] : List UInt8) == n.toList) = true := by rw [hn]; decide +kernel
    have HIK : Hid (i = 1) := zH (HI1.out.2.1 hn))
  |(have t0 : (([98, 108, 97, 107, 101, 50, 115, 112] : List UInt8) == n.toList) = true := by rw [hn]; decide +kernel
    have HIK : Hid (i = 3) := zH (HI1.out.2.2.2.1 hn))
 clear hn
 by_cases h1 : size < 1
 ·have d1 : decide (size < 1) = true := by simpa using h1
  have HRR2 : Hid (R = ([], 1)) := zH (by rw [HR.out, HIK.out]; exact nmS_size (by decide) (.inl h1));clear h1
  first
   |(guard_expr zA=zA;go_wp2_with (refine aZX rfl 78 (.tmp 16) rfl g 5 rfl _ _ HRR Tryz.underlying78 rfl (by kernel_rfl) ?_))
   |(go_wp2_with (refine aZX rfl 78 (.tmp 16) rfl g 15 rfl _ _ HRR Tryz.underlying78 rfl (by kernel_rfl) ?_))
  exact aZB (aZG rfl _ _ _) rfl ⟨none, 0, 0, 0, by rw [HRR2.out]; rfl, by rw [HRR2.out]; rfl, by rw [HRR2.out]; exact OS.nil _ _ 0 rfl, bal HBW.out _⟩
 ·have d1 : decide (size < 1) = false := by simpa using h1
  by_cases h2 : 32 < size
  ·have d2 : decide (size > 32) = true := by simpa using h2
   have d3 : decide (32 < size) = true := d2;have HRR2 : Hid (R = ([], 1)) := zH (by rw [HR.out, HIK.out]; exact nmS_size (by decide) (.inr h2));clear h1 h2
   first
    |(guard_expr zA=zA;go_wp2_with (refine aZX rfl 78 (.tmp 16) rfl g 5 rfl _ _ HRR Tryz.underlying78 rfl (by kernel_rfl) ?_))
    |(go_wp2_with (refine aZX rfl 78 (.tmp 16) rfl g 15 rfl _ _ HRR Tryz.underlying78 rfl (by kernel_rfl) ?_))
   exact aZB (aZG rfl _ _ _) rfl ⟨none, 0, 0, 0, by rw [HRR2.out]; rfl, by rw [HRR2.out]; rfl, by rw [HRR2.out]; exact OS.nil _ _ 0 rfl, bal HBW.out _⟩
  ·have d2 : decide (size > 32) = false := by simpa using h2
   have d3 : decide (32 < size) = false := d2
   first
    |(guard_expr zA=zA;have hsz : ¬ (size < 1 \/ (nmMost 1 : Int) < size) := fun h => h.elim h1 h2)
    |(have hsz : ¬ (size < 1 \/ (nmMost 3 : Int) < size) := fun h => h.elim h1 h2)
   by_cases h3 : 32 < nk
   ·have d4 : decide ((nk : Int) > 32) = true := by simp; omega
    have d5 : (32 < nk) = True := eq_true h3;have HRR2 : Hid (R = ([], 8)) := zH (by rw [HR.out, HIK.out]; exact nmS_key (by decide) hsz (by rw [HK.out]; exact h3));clear h1 h2 h3 hsz
    first
     |(guard_expr zA=zA;go_wp2_with (refine aZX rfl 78 (.tmp 16) rfl g 5 rfl _ _ HRR Tryz.underlying78 rfl (by kernel_rfl) ?_))
     |(go_wp2_with (refine aZX rfl 78 (.tmp 16) rfl g 15 rfl _ _ HRR Tryz.underlying78 rfl (by kernel_rfl) ?_))
    exact aZB (aZG rfl _ _ _) rfl ⟨none, 0, 0, 0, by rw [HRR2.out]; rfl, by rw [HRR2.out]; rfl, by rw [HRR2.out]; exact OS.nil _ _ 0 rfl, bal HBW.out _⟩
   ·have d4 : decide ((nk : Int) > 32) = false := by simp; omega
    have d5 : (32 < nk) = False := eq_false h3
    first
     |(guard_expr zA=zA;have hRh : R = nmHash 1 size key data := by rw [HR.out, HIK.out]; exact nmS_ok (by decide) hsz (by rw [HK.out]; exact h3))
     |(have hRh : R = nmHash 3 size key data := by rw [HR.out, HIK.out]; exact nmS_ok (by decide) hsz (by rw [HK.out]; exact h3))
    obtain ⟨sn, hsn⟩ : ∃ sn : Nat, size = (sn : Int) := ⟨size.toNat, by omega⟩;subst hsn
    first
     |(guard_expr zA=zA
       have hR3 : R = ((hashL false (plainP sn nk) [] [] key false data).take sn, 0) := by rw [hRh, <- HK.out]; rfl
       have hcl : ∀ W, Below w.heap.size w W -> Calls Tryz.prog 49 #[.int .i64 2, .int .i64 sn, .slice Ak nk ck, .slice Ad nd cd] W (fun r w' => ∃ A' c', r = .returned (.tuple #[.slice A' sn sn, .int .i64 0]) /\ OS cB w' W.heap.size A' c' ((hashL false (plainP sn nk) [] [] key false data).take sn) /\ Below W.heap.size W w') :=
        fun W hb => plainN_any false sn key data Ak Ad nk ck nd cd W ⟨by omega, by show sn <= 32; omega⟩ HK.out (by show nk <= 32; omega) ((HRK.below hb).more hb.size) HDL.out HND.out HCD.out ((HRD.below hb).more hb.size)
       have hlen : ((hashL false (plainP sn nk) [] [] key false data).take sn).length = sn := by
        unfold hashL; rw [List.length_take, Eng.out_len, Eng.feed_full, startK_full]; show min sn 32 = sn; omega
       generalize (hashL false (plainP sn nk) [] [] key false data).take sn = LL at *)
     |(have hR3 : R = ((LP.mk false (sn : Int) key [] [] data).dig, 0) := by rw [hRh]; rfl
       have hcl : ∀ W, Below w.heap.size w W -> Calls Tryz.prog 50 #[.int .i64 2, .int .i64 sn, .slice Ak nk ck, .slice Ad nd cd] W (fun r w' => ∃ A' c', r = .returned (.tuple #[.slice A' sn sn, .int .i64 0]) /\ OS cB w' W.heap.size A' c' ((LP.mk false (sn : Int) key [] [] data).dig) /\ Below W.heap.size W w') :=
        fun W hb => laneN_any false sn key data Ak Ad nk ck nd cd W ⟨by omega, by show sn <= 32; omega⟩ HK.out (by show nk <= 32; omega) ((HRK.below hb).more hb.size) HDL.out HND.out HCD.out HN2.out ((HRD.below hb).more hb.size)
       have hlen : ((LP.mk false (sn : Int) key [] [] data).dig).length = sn := by
        exact Int.ofNat.inj (LP.dig_len (LP.mk false (sn : Int) key [] [] data) (LP.err_plain false sn key data ⟨by omega, by show sn <= 32; omega⟩ (by rw [HK.out]; show nk <= 32; omega)))
       generalize (LP.mk false (sn : Int) key [] [] data).dig = LL at *)
    have HR3 := zH hR3; have HCL := zH hcl; have HLN := zH hlen;clear h1 h2 h3 hsz hRh hR3 hcl hlen
    first
     |(guard_expr zA=zA
       go_wp2_with (first
        | (refine aZX rfl 78 (.tmp 16) rfl g 5 rfl _ _ HRR Tryz.underlying78 rfl (by kernel_rfl) ?_)
        | (go_at_call 49; refine (HCL _ (bal HBW _)).mono ?_; rintro e3 w3 ⟨A3, c3, rfl, ho3, hb3⟩; have HO3 := zH ho3; have HB3 := zH hb3; clear ho3 hb3)))
     |(go_wp2_with (first
        | (refine aZX rfl 78 (.tmp 16) rfl g 15 rfl _ _ HRR Tryz.underlying78 rfl (by kernel_rfl) ?_)
        | (go_at_call 50; refine (HCL _ (bal HBW _)).mono ?_; rintro e3 w3 ⟨A3, c3, rfl, ho3, hb3⟩; have HO3 := zH ho3; have HB3 := zH hb3; clear ho3 hb3)))
    exact aZB (aZG rfl _ _ _) rfl ⟨A3, sn, c3, sn, by rw [HR3.out]; rfl, by rw [HR3.out]; exact HLN.out, by rw [HR3.out]; exact HO3.mono (bal HBW.out _).size, bcall (bal HBW.out _) HB3.out⟩
 ) : P := h
theorem zS28 {P : Prop} (h : P := by
 first
  |(guard_expr zA=zA
    subst h0;clear hkk)
  |(have h1 : (nk : Int) = p.key := hkk.resolve_left h0
    have t0 : ((nk : Int) == 0) = false := by simp; omega
    have t1 : ((nk : Int) == p.key) = true := by simpa using h1
    have t2 : ((nk : Int) != p.key) = false := by simpa using h1
    have t3 : ((nk : Int) != 0) = true := by simp; omega
    clear hkk h1)
 go_enter Tryz.func52, Tryz.ntmps52;go_wp2_with (go_at_call 42; refine (HCK.out _).mono ?_; rintro e w1 ⟨rfl, hbw1⟩; (first | refine withN hbw1 ?_ | refine withD hbw1 ?_ | refine with0 hbw1 ?_); intro hcw1 hfw1; have z0w1 : w.heap.size < w1.heap.size := (by have := hbw1.size; (try simp at this); omega));have hW1 := bcall (bal (b0 w) _) hbw1
 first
  |(guard_expr zA=zA
    have hq := Blk.new w1 99 (rnCells big p (.slice Ak 0 ck) false (.slice none 0 0) 0);have hW2 := bal hW1 (.cells (rnCells big p (.slice Ak 0 ck) false (.slice none 0 0) 0) 99))
  |(have hq := Blk.new w1 99 (rnCells big p (.slice Ak nk ck) false (.slice none 0 0) 0)
    have hW2 := bal hW1 (.cells (rnCells big p (.slice Ak nk ck) false (.slice none 0 0) 0) 99))
 have e0 : wrd 0 = 0 := rfl;have hqs : Hid (w.heap.size <= w1.heap.size) := hW1.size;unfold rnCells at hq hW2;rw [e0] at hq hW2;obtain ⟨q, hqe⟩ : ∃ q, q = w1.heap.size := ⟨_, rfl⟩;have hqs2 : Hid (w.heap.size <= q) := by (show _ <= _; rw [hqe]; exact hqs.out)
 rw [<- hqe] at hq ⊢;rw [hkk2] at hq hW2;generalize w1.alloc _ = w2 at *;have HQ := zH hq; have HW2 := zH hW2; clear hq hW2 hW1 hbw1 hcw1 hfw1 hqe hqs z0w1 e0;go_wp2_with fail;refine (HKD _ ((HRK.below HW2).more HW2.size)).mono ?_;rintro e3 w3 ⟨A3, m3, c3, rfl, hlen3, ho3, hb3⟩;have hq3 := HQ.below hb3 HQ.lt;have hql := HQ.lt;have g33 := hq3.cell 33;change w3.cell? ⟨q, 33, none⟩ = some (.slice none 0 0) at g33;have f33 := hq3.frozen 33;have HQ3 := zH hq3; have HO3 := zH ho3; have HL3 := zH hlen3; have HB3 := zH hb3; have HKE := zH hkk2; clear hq3 ho3 hlen3 hb3 hkk2;go_wp2_with fail;have hb := HQ3.set_ 33 (.slice A3 m3 c3);have hW := bput (bcall HW2 HB3) (p := ⟨q, 33, none⟩) hqs2.out (.slice A3 m3 c3);have hfar : ∀ a, A3 = some a -> a.block ≠ q := fun a ha he => by have h := (HO3.block_lt a ha).1; omega
 refine aZB (aZG rfl _ _ _) rfl ⟨q, A3, m3, c3, rfl, ⟨?_, hqs2.out, HRS.below hW, HRP.below hW, HRK.below hW, (HO3.setFar (p := ⟨q, 33, none⟩) hfar _).mono HW2.size, HL3.out, hfar⟩, hW⟩;rw [<- HKE.out] at hb;exact hb
 ) : P := h
theorem zS29 {P : Prop} (h : P := by
 first
  |(guard_expr zA=zA
    obtain rfl : V = 4 := hV;have hfu := fun W => refFull_any true W
    change ∀ W, Calls Tryz.prog _ #[.int .i64 1] W (fun e w' => e = .returned (.int .i64 64) /\ W = w') at hfu)
  |(obtain rfl : V = 5 := hV
    have hfu := fun W => refFull_any false W
    change ∀ W, Calls Tryz.prog _ #[.int .i64 2] W (fun e w' => e = .returned (.int .i64 32) /\ W = w') at hfu)
 have HFU := zH hfu;clear hfu
 by_cases h1 : size < 1
 ·have d1 : decide (size < 1) = true := by simpa using h1
  have HRR2 : Hid (R = ([], 1)) := zH (by rw [HR.out]; exact nmS_size (by decide) (.inl h1));clear h1;go_wp2_with (go_at_call 33; refine (HFU _).mono ?_; rintro e2 w2 ⟨rfl, rfl⟩);exact aZB (aZG rfl _ _ _) rfl ⟨none, 0, 0, 0, by rw [HRR2.out]; rfl, by rw [HRR2.out]; rfl, by rw [HRR2.out]; exact OS.nil _ _ 0 rfl, HBW.out⟩
 ·have d1 : decide (size < 1) = false := by simpa using h1
  first
   |(guard_expr zA=zA;by_cases h2 : 65536 < size)
   |(by_cases h2 : 65534 < size)
  ·first
    |(guard_expr zA=zA
      have d2 : decide (size > 65536) = true := by simpa using h2
      have d3 : decide (65536 < size) = true := d2)
    |(have d2 : decide (size > 65534) = true := by simpa using h2
      have d3 : decide (65534 < size) = true := d2)
   have HRR2 : Hid (R = ([], 1)) := zH (by rw [HR.out]; exact nmS_size (by decide) (.inr h2));clear h1 h2;go_wp2_with (go_at_call 33; refine (HFU _).mono ?_; rintro e2 w2 ⟨rfl, rfl⟩);exact aZB (aZG rfl _ _ _) rfl ⟨none, 0, 0, 0, by rw [HRR2.out]; rfl, by rw [HRR2.out]; rfl, by rw [HRR2.out]; exact OS.nil _ _ 0 rfl, HBW.out⟩
  ·first
    |(guard_expr zA=zA
      have d2 : decide (size > 65536) = false := by simpa using h2
      have d3 : decide (65536 < size) = false := d2;have hsz : ¬ (size < 1 \/ (nmMost 4 : Int) < size) := fun h => h.elim h1 h2
      by_cases h3 : 64 < nk)
    |(have d2 : decide (size > 65534) = false := by simpa using h2
      have d3 : decide (65534 < size) = false := d2;have hsz : ¬ (size < 1 \/ (nmMost 5 : Int) < size) := fun h => h.elim h1 h2
      by_cases h3 : 32 < nk)
   ·first
     |(guard_expr zA=zA
       have d4 : decide ((nk : Int) > 64) = true := by simp; omega
       have d5 : (64 < nk) = True := eq_true h3)
     |(have d4 : decide ((nk : Int) > 32) = true := by simp; omega
       have d5 : (32 < nk) = True := eq_true h3)
    have HRR2 : Hid (R = ([], 8)) := zH (by rw [HR.out]; exact nmS_key (by decide) hsz (by rw [HK.out]; exact h3));clear h1 h2 h3 hsz;go_wp2_with (go_at_call 33; refine (HFU _).mono ?_; rintro e2 w2 ⟨rfl, rfl⟩);exact aZB (aZG rfl _ _ _) rfl ⟨none, 0, 0, 0, by rw [HRR2.out]; rfl, by rw [HRR2.out]; rfl, by rw [HRR2.out]; exact OS.nil _ _ 0 rfl, HBW.out⟩
   ·first
     |(guard_expr zA=zA
       have d4 : decide ((nk : Int) > 64) = false := by simp; omega
       have d5 : (64 < nk) = False := eq_false h3;have hRh : R = nmHash 4 size key data := by rw [HR.out]; exact nmS_ok (by decide) hsz (by rw [HK.out]; exact h3)
       have hR3 : R = takeS 1 size key data 0 size := by rw [hRh]; rfl
       have hcl : ∀ W, Below w.heap.size w W -> Calls Tryz.prog 36 #[.int .i64 1, .int .i64 size, .slice Ak nk ck, .slice Ad nd cd, .int .u64 0, .int .i64 size] W (fun r w' => ∃ A j cc, r = .returned (.tuple #[.slice A j cc, .int .i64 R.2]) /\ R.1.length = j /\ OS cB w' W.heap.size A cc R.1 /\ Below W.heap.size W w') :=
        fun W hb => by rw [hR3]; exact refTake_any 1 size key data Ak Ad nk ck nd cd 0 size W HK.out ((HRK.below hb).more hb.size) HDL.out (by have := HN2.out; omega) ((HRD.below hb).more hb.size))
     |(have d4 : decide ((nk : Int) > 32) = false := by simp; omega
       have d5 : (32 < nk) = False := eq_false h3;have hRh : R = nmHash 5 size key data := by rw [HR.out]; exact nmS_ok (by decide) hsz (by rw [HK.out]; exact h3)
       have hR3 : R = takeS 2 size key data 0 size := by rw [hRh]; rfl
       have hcl : ∀ W, Below w.heap.size w W -> Calls Tryz.prog 36 #[.int .i64 2, .int .i64 size, .slice Ak nk ck, .slice Ad nd cd, .int .u64 0, .int .i64 size] W (fun r w' => ∃ A j cc, r = .returned (.tuple #[.slice A j cc, .int .i64 R.2]) /\ R.1.length = j /\ OS cB w' W.heap.size A cc R.1 /\ Below W.heap.size W w') :=
        fun W hb => by rw [hR3]; exact refTake_any 2 size key data Ak Ad nk ck nd cd 0 size W HK.out ((HRK.below hb).more hb.size) HDL.out (by have := HN2.out; omega) ((HRD.below hb).more hb.size))
    have HCL := zH hcl;clear h1 h2 h3 hsz hRh hR3 hcl;go_wp2_with first
     | (go_at_call 33; refine (HFU _).mono ?_; rintro e2 w2 ⟨rfl, rfl⟩)
     | (go_at_call 36; refine (HCL wr HBW).mono ?_; rintro e3 w3 ⟨A3, j3, c3, rfl, hl3, ho3, hb3⟩; have HO3 := zH ho3; have HB3 := zH hb3; have HL3 := zH hl3; clear ho3 hb3 hl3)
    exact aZB (aZG rfl _ _ _) rfl ⟨A3, j3, c3, c3, rfl, HL3.out, HO3.mono HBW.size, bcall HBW HB3.out⟩
 ) : P := h
theorem zS30 {P : Prop} (h : P := by
 first
  |(guard_expr zA=zA)
  |(have hm2 : m <= e.full := by omega
    have hbo := fun (W : World) => blockOf_any big W
    have hq : ((2 * bOf big : Nat) : Int).tdiv 2 = bOf big := by cases big <;> rfl
    have hq2 : ((2 * bOf big : Nat) : Int) / 2 = bOf big := by cases big <;> rfl
    have hb64 : bOf big <= 64 := by cases big <;> decide
    obtain ⟨hm0, hm1⟩ := hm;have t1 : decide ((m : Int) < 1) = false := by simp; omega
    have t2 : decide ((bOf big : Int) < m) = false := by simp; omega
    generalize 2 * bOf big = bb at *;clear hfull)
 obtain ⟨Ax, Ak, nx, nk, cx, ck, g, A, c, hNN, rfl⟩ := hN;have hb := hNN.blk;have hno := fun (T : TypeId) (v : Value) h6 => noneSame_any p T v _ w hb h6
 have hno2 := hno e.T (.pointer (some ⟨g, 0, none⟩)) rfl;have c0 : w.cell? ⟨p, 0, none⟩ = some (.int .i64 (kOf big)) := hb.cell 0;have c1 : w.cell? ⟨p, 1, none⟩ = some (.int .i64 d) := hb.cell 1;have c4 : w.cell? ⟨p, 4, none⟩ = some (.bool last) := hb.cell 4;have c5 : w.cell? ⟨p, 5, none⟩ = some (.int .u64 (wrd wr)) := hb.cell 5;have c6 : w.cell? ⟨p, 6, none⟩ = some (.iface e.T (.pointer (some ⟨g, 0, none⟩))) := hb.cell 6;have hf := hb.frozen;have hlt := hb.lt;have hmW : ∀ (g k : Nat) (w : World), 0 < k -> Sem.run Tryz.prog (method k e.T (.pointer (some ⟨g, 0, none⟩)) "quern/node.out") w = .ok (e.fo, .pointer (some ⟨g, 0, none⟩)) w := fun g k w hk => e.run_out g k hk w
 have heL : ∀ args w, (callFunc e.fo args).run Tryz.prog w = .ok (.enter e.fo args) w := fun args w => e.enters_o args w
 have heo := fun W hE => eng_out e g 0 A c last W hE
 have hol := e.out_len last;generalize e.full = n at *
 first
  |(guard_expr zA=zA;have HN := zH hNN; have HNO := zH hno2; have HEO := zH heo; have HOL := zH hol; clear hNN hb hno hno2 heo hol)
  |(have HN := zH hNN; have HNO := zH hno2; have HEO := zH heo; have HOL := zH hol; have HBO := zH hbo; clear hNN hb hno hno2 heo hol hbo)
 generalize e.out last = o at *
 first
  |(guard_expr zA=zA
    go_enter Tryz.func133, Tryz.ntmps133;go_wp2_with (go_at_call 66; refine HNO.mono ?_; rintro e0 w0 ⟨rfl, rfl⟩);refine wp_region_B (Ords.of [(0, 0), (0, 1), (0, 2), (0, 3), (0, 4), (0, 5), (0, 6), (0, 7), (0, 8), (0, 9), (0, 11), (0, 12), (0, 13), (0, 14), (0, 15), (0, 16), (0, 17), (0, 18), (2, 10), (0, 19), (0, 20)] .fin) (by kernel_rfl) rfl (by kernel_rfl) (by kernel_rfl) (fun c a d v w h => by cases d <;> exact h) ?_)
  |(generalize hk : kOf big = kk at *
    clear hk;go_enter Tryz.func64, Tryz.ntmps64;go_wp2_with (first | (go_at_call 66; refine HNO.mono ?_; rintro e0 w0 ⟨rfl, rfl⟩) | (go_at_call 90; refine (HBO _).mono ?_; rintro e0 w0 ⟨rfl, rfl⟩));refine wp_region_B (Ords.of [(0, 0), (0, 1), (0, 2), (0, 3), (0, 4), (0, 5), (0, 6), (0, 7), (0, 8), (0, 9), (0, 11), (0, 12), (2, 10), (0, 13), (0, 14), (0, 15)] .fin) (by kernel_rfl) rfl (by kernel_rfl) (by kernel_rfl) (fun c a d v w h => by cases d <;> exact h) ?_)
 iterate 2 (refine ords_pure rfl (fun K hK => ?_); go_simp; refine hK _ ?_; clear hK K; refine ords_pure rfl (fun K hK => ?_); go_simp; refine hK _ ?_; clear hK K; refine ords_pure rfl (fun K hK => ?_); go_simp; refine hK _ ?_; clear hK K; refine ords_heldK rfl (fun K K2 hK hK2 => ?_); go_simp; refine ⟨hK2 _ (fun w9 hS => ?_), hK _ ?_⟩; (clear hK hK2 K K2; (first | refine withN hS ?_ | refine withD hS ?_ | refine with0 hS ?_); intro hcS hfS; go_simp); (clear hK hK2 K K2))
 first
  |(guard_expr zA=zA
    iterate 5 (refine ords_pure rfl (fun K hK => ?_); go_simp; refine hK _ ?_; clear hK K)
    refine ords_heldK rfl (fun K K2 hK hK2 => ?_); go_simp; refine ⟨hK2 _ (fun w9 hS => ?_), hK _ ?_⟩; (clear hK hK2 K K2; (first | refine withN hS ?_ | refine withD hS ?_ | refine with0 hS ?_); intro hcS hfS; go_simp); (clear hK hK2 K K2))
  |(iterate 4 (refine ords_pure rfl (fun K hK => ?_); go_simp; refine hK _ ?_; clear hK K)
    refine ords_loud rfl (fun n1 => ?_);go_wp2_with fail; (refine (HEO _ (Eng.inn_drewN HN.eng n1)).mono ?_; rintro e1 w1 ⟨A1, cc1, rfl, ho1, hb1⟩); have hcc : m <= cc1 := Nat.le_trans hm2 (Nat.le_trans (Nat.le_of_eq HOL.symm) ho1.len_le.1); have HO1 := zH ho1; have HB1 := zH (bcall (bdr (b0 w) _) hb1); clear ho1 hb1; go_wp2_with fail; refine ⟨HB1.out, ?_⟩)
 iterate 3 (refine ords_pure rfl (fun K hK => ?_); go_simp; refine hK _ ?_; clear hK K)
 first
  |(guard_expr zA=zA
    refine ords_heldK rfl (fun K K2 hK hK2 => ?_); go_simp; refine ⟨hK2 _ (fun w9 hS => ?_), hK _ ?_⟩; (clear hK hK2 K K2; (first | refine withN hS ?_ | refine withD hS ?_ | refine with0 hS ?_); intro hcS hfS; go_simp); (clear hK hK2 K K2);refine ords_loud rfl (fun n1 => ?_);go_wp2_with fail; (refine (HEO _ (Eng.inn_drewN HN.eng n1)).mono ?_; rintro e1 w1 ⟨A1, cc1, rfl, ho1, hb1⟩); have hcc : d <= cc1 := Nat.le_trans hd (Nat.le_trans (Nat.le_of_eq HOL.symm) ho1.len_le.1); have HO1 := zH ho1; have HB1 := zH (bcall (bdr (b0 w) _) hb1); clear ho1 hb1; go_wp2_with fail; refine ⟨HB1.out, ?_⟩
    iterate 2 (refine ords_pure rfl (fun K hK => ?_); go_simp; refine hK _ ?_; clear hK K))
  |(skip)
 refine ords_end (fun n2 => ?_);go_wp2
 first
  |(guard_expr zA=zA;exact aZB (aZK rfl _ _ _) rfl ⟨A1, cc1, rfl, (HO1.take d (by rw [HOL.out]; exact hd)).drewN n2, bdr HB1.out _⟩)
  |(exact aZB (results_tmp2 rfl _ _ _) rfl ⟨A1, cc1, rfl, (HO1.take m (by rw [HOL.out]; exact hm2)).drewN n2, bdr HB1.out _⟩)
 ) : P := h
end Go.Proofs.YtmapfcdffklopaaGreat

/-
  Z42: contracts and lemmas alone; no statement is claimed here.
-/
import Derived.Test.YtmapfcdffklopaaGreatZx
import Derived.Test.YtmapfcdffklopaaGreatZxc
import Derived.Test.YtmapfcdffklopaaGreatZ24
import Derived.Test.YtmapfcdffklopaaGreatZ40
import Derived.Test.YtmapfcdffklopaaGreatZ19
import Derived.Test.YtmapfcdffklopaaGreatZ15
namespace Go.Proofs.YtmapfcdffklopaaGreat
open _root_.Nat renaming le_refl → aZC
open Lib renaming hid -> zH
open Go.RowKit
attribute [local go_sem] pureUpon Ords.of
theorem meas9 (n k : Nat) (h : k < n) : n - (intOf (.int .i64 ((k : Int) + 1))).toNat < n - (intOf (.int .i64 (k : Int))).toNat := by simp [intOf]; omega
theorem rcount_of (big : Bool) (w : World) : Calls Tryz.prog 80 #[.int .i64 (kOf big)] w fun e w' => e = .returned (.int .i64 (lnOf big)) /\ w = w' := by
 cases big with
 | true => exact count_big w
 | false => exact count_small w
theorem rblock_of (big : Bool) (w : World) : Calls Tryz.prog 104 #[.int .i64 (kOf big)] w fun e w' => e = .returned (.int .i64 (blOf big)) /\ w = w' := by
 cases big with
 | true => exact block_big w
 | false => exact block_small w
theorem refCallC_any (k : Int) (x : CC) (c : CP) (w : World) (h : CIn w k x c) (hd : x.data.n <= 140737488355200) :
  Calls Tryz.prog 56 #[.agg x.cs] w fun r w' => ∃ A n c2 cc, r = .returned (.tuple #[.slice A n cc, .int .i64 (c.out k).2]) /\ (c.out k).1.length = n /\ n <= cc /\ OS cB w' w.heap.size A c2 (c.out k).1 /\ Below w.heap.size w w' := by
 obtain ⟨kd, hl, hm, hin⟩ := h;have h2 := refCallS_any k c.last c.m x.b x.key x.data c.b c.key c.data w hin hd;unfold CC.cs CP.out;rw [kd, hl, hm];exact h2
theorem rpar_any (P : LP) (i : Nat) (hi : i <= lnOf P.big) (a b : Sl) (w : World) :
  Calls Tryz.prog 82 #[.int .i64 (kOf P.big), .int .i64 P.digest, .int .i64 P.key.length, .int .i64 i, .slice a.A a.n a.c, .slice b.A b.n b.c] w fun e w' => e = .returned (P.par i a b).v /\ Below w.heap.size w w' :=
 refparams_any (kOf P.big) (lnOf P.big) (bOf P.big) P.digest P.key.length i a b (by omega) (by omega) (by have := lnOf_pos P.big; omega) (zH (rcount_of P.big)) (zH (refMost_any P.big)) w
set_option maxRecDepth 1000000 in
theorem zS73b {P : Prop} (h : P := by
 first
  |(guard_expr zA=zA
    have HKN := zH hlt;have hkn : Hid (k <= n) := Nat.le_of_lt hlt;have d2 : decide ((k : Int) < (n : Int)) = true := by simp; omega)
  |(obtain rfl : k = n := by omega
    have hkn : Hid (k <= k) := aZC k;have d2 : decide ((k : Int) < (k : Int)) = false := by simp)
 have HBR := zH (b0 wr); have HW := HBW;go_wp2_with (go_at_call 82; refine (HPA k hkn.out _).mono ?_; rintro e3 u ⟨rfl, hb3⟩; replace HBR := zH (bcall HBR hb3); replace HW := zH (HBW.trans (HBR.mono (bsz HH HBW))); clear hb3);refine (HEN k hkn.out u ((HRB.below HW).more (bsz HH HW)) ((HRC.below HW).more (bsz HH HW))).mono ?_;rintro e4 u ⟨A4, c4, rfl, ho4, hb4⟩;have HE := zH (ho4.mono (show wr.heap.size <= _ from HBR.size));replace HBR := zH (bcall HBR hb4); replace HW := zH (HBW.trans (HBR.mono (bsz HH HBW)));clear ho4 hb4
 first
  |(guard_expr zA=zA
    go_upto_region 14 with fail
    obtain ⟨g9, s, e9, -, -, hsk, hsc, -⟩ := HT.row.at_ (k := k) (by rw [HLEN.out]; exact hlt);injection e9 with e9
    injection e9 with e9
    subst e9;have HSK := zH hsk;have HTC : Hid (u2.cell? ⟨gT, k, none⟩ = some (.slice s.A s.l.length s.c)) := hsc;have HSO := zH (HT.parts.own k s hsk);have HSR := zH (show RS cB u2 H s.A s.l by rw [HH.out]; exact HSO.reads);clear hsk hsc;have zT : u.cell? ⟨gT, k, none⟩ = some (.slice s.A s.l.length s.c) := (HW.cell (p := ⟨gT, k, none⟩) HTL).trans HTC.out;refine wrZ (fun w' => w'.cell? ⟨gT, k, none⟩ = some (.slice s.A s.l.length s.c)) (fun _ n h => h) (Ords.of [(0, 0), (0, 1), (0, 2), (0, 3), (0, 4), (0, 5), (0, 6), (0, 7), (0, 9), (0, 10), (0, 11), (0, 12)] (.two 8 14 (Ords.of [(0, 13), (2, 14), (2, 15)] .fin) (Ords.of [(2, 8), (0, 13), (2, 15)] .fin))) zT ?_
    iterate 11 (refine ords_pure rfl (fun K hK => ?_); go_simp; refine hK _ ?_; clear hK K)
    refine ords_heldK rfl (fun K K2 hK hK2 => ?_); go_simp; refine ⟨hK2 _ (fun w9 hS => ?_), hK _ ?_⟩; (clear hK hK2 K K2; have qT := hS; clear hS; go_simp); (clear hK hK2 K K2);refine ords_two rfl rfl (fun n1 => ?_) (fun n1 => ?_)
    focus
     (try clear zT)
     replace HBR := zH (bdr HBR n1); replace HW := zH (HBW.trans (HBR.mono (bsz HH HBW))); replace HE := zH (HE.drewN n1); (try replace HC := zH (HC.drewN n1)); generalize u.drewN n1 = u at *;go_wp2_with (go_at_call 62; refine (HMO _).mono ?_; rintro e5 w5 ⟨rfl, rfl⟩);refine ⟨(HW.cell (p := ⟨gT, k, none⟩) HTL).trans HTC.out, ?_⟩;go_simp;refine ords_pure rfl (fun K hK => ?_); go_simp; refine hK _ ?_; clear hK K;refine ords_loud rfl (fun n2 => ?_)
     (try clear zT)
     replace HBR := zH (bdr HBR n2); replace HW := zH (HBW.trans (HBR.mono (bsz HH HBW))); replace HE := zH (HE.drewN n2); (try replace HC := zH (HC.drewN n2)); generalize u.drewN n2 = u at *;go_wp2_with fail;have HC := zH (Blk.new u 107 #[.int .i64 0, .slice none 0 0, .slice none 0 0, .bool false, .int .i64 0, .slice none 0 0]);have hba := bal (b0 u) (.cells #[.int .i64 0, .slice none 0 0, .slice none 0 0, .bool false, .int .i64 0, .slice none 0 0] 107);replace HE := zH (HE.below hba (aZC _));obtain ⟨gc, hgc⟩ : ∃ g, g = u.heap.size := ⟨_, rfl⟩;have HGC := zH (show wr.heap.size <= gc by rw [hgc]; exact HBR.size);replace HBR := zH (bcall HBR hba); replace HW := zH (HBW.trans (HBR.mono (bsz HH HBW)));rw [<- hgc] at HC ⊢;clear hba hgc;generalize u.alloc (.cells #[.int .i64 0, .slice none 0 0, .slice none 0 0, .bool false, .int .i64 0, .slice none 0 0] 107) = u at *;refine ⟨(HW.cell (p := ⟨gT, k, none⟩) HTL).trans HTC.out, ?_⟩;go_simp;refine ords_loud rfl (fun n3 => ?_);replace HBR := zH (bdr HBR n3); replace HW := zH (HBW.trans (HBR.mono (bsz HH HBW))); replace HE := zH (HE.drewN n3); (try replace HC := zH (HC.drewN n3)); generalize u.drewN n3 = u at *;go_wp2_with (refine wpList_store_row rfl 107 _ _ rfl gc (#[Value.int .i64 kk, .slice A4 most c4, .slice sk.A sk.n sk.c, .bool ((k : Int) == (n : Int) - 1), .int .i64 most, .slice s.A s.l.length s.c]) rfl rfl 107 _ HC.out (callC_size ⟨kk, ⟨A4, most, c4⟩, ⟨sk.A, sk.n, sk.c⟩, ⟨s.A, s.l.length, s.c⟩, (k : Int) == (n : Int) - 1, most⟩) rfl (by simp [Value.oneCell']) ?_);replace HE := zH (HE.of_block (fun a ha => setRow_other _ _ _ _ (HE.ne_blk HC (by show 5 ≠ 107; decide) a ha)) : OS cB (u.setRow gc (#[Value.int .i64 kk, .slice A4 most c4, .slice sk.A sk.n sk.c, .bool ((k : Int) == (n : Int) - 1), .int .i64 most, .slice s.A s.l.length s.c])) wr.heap.size _ _ _);replace HC := zH (HC.row (#[Value.int .i64 kk, .slice A4 most c4, .slice sk.A sk.n sk.c, .bool ((k : Int) == (n : Int) - 1), .int .i64 most, .slice s.A s.l.length s.c]));replace HBR := zH (brow HBR HGC (#[Value.int .i64 kk, .slice A4 most c4, .slice sk.A sk.n sk.c, .bool ((k : Int) == (n : Int) - 1), .int .i64 most, .slice s.A s.l.length s.c])); replace HW := zH (HBW.trans (HBR.mono (bsz HH HBW)));generalize u.setRow gc (#[Value.int .i64 kk, .slice A4 most c4, .slice sk.A sk.n sk.c, .bool ((k : Int) == (n : Int) - 1), .int .i64 most, .slice s.A s.l.length s.c]) = u at *;refine ⟨(HW.cell (p := ⟨gT, k, none⟩) HTL).trans HTC.out, ?_⟩;go_simp;refine ords_end (fun n4 => ?_);replace HBR := zH (bdr HBR n4); replace HW := zH (HBW.trans (HBR.mono (bsz HH HBW))); replace HE := zH (HE.drewN n4); (try replace HC := zH (HC.drewN n4)); generalize u.drewN n4 = u at *
    rotate_left 1
    focus
     (try clear zT)
     replace HBR := zH (bdr HBR n1); replace HW := zH (HBW.trans (HBR.mono (bsz HH HBW))); replace HE := zH (HE.drewN n1); (try replace HC := zH (HC.drewN n1)); generalize u.drewN n1 = u at *;go_wp2_with fail;have HC := zH (Blk.new u 107 #[.int .i64 0, .slice none 0 0, .slice none 0 0, .bool false, .int .i64 0, .slice none 0 0]);have hba := bal (b0 u) (.cells #[.int .i64 0, .slice none 0 0, .slice none 0 0, .bool false, .int .i64 0, .slice none 0 0] 107);replace HE := zH (HE.below hba (aZC _));obtain ⟨gc, hgc⟩ : ∃ g, g = u.heap.size := ⟨_, rfl⟩;have HGC := zH (show wr.heap.size <= gc by rw [hgc]; exact HBR.size);replace HBR := zH (bcall HBR hba); replace HW := zH (HBW.trans (HBR.mono (bsz HH HBW)));rw [<- hgc] at HC ⊢;clear hba hgc;generalize u.alloc (.cells #[.int .i64 0, .slice none 0 0, .slice none 0 0, .bool false, .int .i64 0, .slice none 0 0] 107) = u at *;refine ⟨(HW.cell (p := ⟨gT, k, none⟩) HTL).trans HTC.out, ?_⟩;go_simp;refine ords_loud rfl (fun n2 => ?_)
     (try clear zT)
     replace HBR := zH (bdr HBR n2); replace HW := zH (HBW.trans (HBR.mono (bsz HH HBW))); replace HE := zH (HE.drewN n2); (try replace HC := zH (HC.drewN n2)); generalize u.drewN n2 = u at *;go_wp2_with (go_at_call 62; refine (HMO _).mono ?_; rintro e5 w5 ⟨rfl, rfl⟩);refine ⟨(HW.cell (p := ⟨gT, k, none⟩) HTL).trans HTC.out, ?_⟩;go_simp;refine ords_pure rfl (fun K hK => ?_); go_simp; refine hK _ ?_; clear hK K;refine ords_loud rfl (fun n3 => ?_);replace HBR := zH (bdr HBR n3); replace HW := zH (HBW.trans (HBR.mono (bsz HH HBW))); replace HE := zH (HE.drewN n3); (try replace HC := zH (HC.drewN n3)); generalize u.drewN n3 = u at *;go_wp2_with (refine wpList_store_row rfl 107 _ _ rfl gc (#[Value.int .i64 kk, .slice A4 most c4, .slice sk.A sk.n sk.c, .bool ((k : Int) == (n : Int) - 1), .int .i64 most, .slice s.A s.l.length s.c]) rfl rfl 107 _ HC.out (callC_size ⟨kk, ⟨A4, most, c4⟩, ⟨sk.A, sk.n, sk.c⟩, ⟨s.A, s.l.length, s.c⟩, (k : Int) == (n : Int) - 1, most⟩) rfl (by simp [Value.oneCell']) ?_);replace HE := zH (HE.of_block (fun a ha => setRow_other _ _ _ _ (HE.ne_blk HC (by show 5 ≠ 107; decide) a ha)) : OS cB (u.setRow gc (#[Value.int .i64 kk, .slice A4 most c4, .slice sk.A sk.n sk.c, .bool ((k : Int) == (n : Int) - 1), .int .i64 most, .slice s.A s.l.length s.c])) wr.heap.size _ _ _);replace HC := zH (HC.row (#[Value.int .i64 kk, .slice A4 most c4, .slice sk.A sk.n sk.c, .bool ((k : Int) == (n : Int) - 1), .int .i64 most, .slice s.A s.l.length s.c]));replace HBR := zH (brow HBR HGC (#[Value.int .i64 kk, .slice A4 most c4, .slice sk.A sk.n sk.c, .bool ((k : Int) == (n : Int) - 1), .int .i64 most, .slice s.A s.l.length s.c])); replace HW := zH (HBW.trans (HBR.mono (bsz HH HBW)));generalize u.setRow gc (#[Value.int .i64 kk, .slice A4 most c4, .slice sk.A sk.n sk.c, .bool ((k : Int) == (n : Int) - 1), .int .i64 most, .slice s.A s.l.length s.c]) = u at *;refine ⟨(HW.cell (p := ⟨gT, k, none⟩) HTL).trans HTC.out, ?_⟩;go_simp;refine ords_end (fun n4 => ?_);replace HBR := zH (bdr HBR n4); replace HW := zH (HBW.trans (HBR.mono (bsz HH HBW))); replace HE := zH (HE.drewN n4); (try replace HC := zH (HC.drewN n4)); generalize u.drewN n4 = u at *
    all_goals
     obtain ⟨lst, hls⟩ : ∃ x : Bool, x = ((k : Int) == (n : Int) - 1) := ⟨_, rfl⟩;have HLS := zH hls;rw [<- hls] at HC;clear hls;obtain ⟨y, hyy⟩ : ∃ y : CC, y = ⟨kk, ⟨A4, most, c4⟩, ⟨sk.A, sk.n, sk.c⟩, ⟨s.A, s.l.length, s.c⟩, lst, most⟩ := ⟨_, rfl⟩;have hycs : y.cs = (#[Value.int .i64 kk, .slice A4 most c4, .slice sk.A sk.n sk.c, .bool lst, .int .i64 most, .slice s.A s.l.length s.c]) := by rw [hyy]; rfl
     have hlane : s.l = laneB n blk k P.data := HLANE k s HSK.out;have hyd : y.data.n <= 140737488355200 := by
      rw [hyy]
      show s.l.length <= _
      have h1 := laneB_le n blk k P.data;rw [<- hlane, HIN.hd] at h1;have h2 := HIN.nd;exact Nat.le_trans h1 (Nat.le_trans h2 (by decide))
     have hy : CIn u kk y (P.lane k) := by
      rw [hyy];refine ⟨rfl, ?_, ?_, ?_, ⟨?_, ?_⟩, ?_, HIN.hk, ?_, ?_, ⟨?_, ?_⟩, ?_⟩
      ·show lst = decide (lnOf P.big - 1 <= k)
       rw [HLS.out, <- HN.out];have h := HKN.out;rw [Bool.eq_iff_iff];simp;omega
      ·show (most : Int) = (bOf P.big : Int)
       rw [HM.out]
      ·exact HBL k
      ·show most <= c4
       rw [<- HBL.out k]; exact HE.len_le.1
      ·show c4 <= _
       have h := HE.len_le.2; unfold maxLen at h; exact h
      ·exact HE.reads
      ·exact (HRA.below HW).more (bsz HH HW)
      ·show (laneB (lnOf P.big) (blOf P.big) k P.data).length = s.l.length
       rw [hlane, HN.out, HBLK.out]
      ·exact HSO.len_le.1
      ·have h := HSO.len_le.2; unfold maxLen at h; exact h
      ·show RS cB u u.heap.size s.A (laneB (lnOf P.big) (blOf P.big) k P.data)
       rw [<- HN.out, <- HBLK.out, <- hlane];exact (HSR.below HW).more (bsz HH HW)
     have hap : ∀ R : Option Nat, (∀ g, R = some g -> H <= g /\ g < wr.heap.size) -> y.apart R := fun R hR => by
      rw [hyy];exact ⟨apart_fresh (fun a ha => (HE.block_lt a ha).1) (fun g hg => (hR g hg).2), apart_old HRA HIN.hk (fun g hg => (hR g hg).1), apart_old HSR rfl (fun g hg => (hR g hg).1)⟩
     have HYY := zH hycs; have HY := zH hy; have HYD := zH hyd;have HAPL := zH (hap _ (crow_ge HCR.row)); have HAPO := zH (hap _ (row_ge HCR.out.out));have HGA := zH (show some gc ≠ Al.map (·.block) from fun e => Nat.lt_irrefl _ (Nat.lt_of_lt_of_le (crow_ge HCR.row gc e.symm).2 HGC));have HK8 : Hid (k <= 1000) := by (show k <= 1000; have := hkn.out; omega)
     have HCR5 := zH (HCR.below HBR);clear hyy hycs hlane hy hap hyd HE;go_upto_region 16 with (first
      | (refine wpList_load_row rfl 107 _ rfl gc rfl 107 (#[Value.int .i64 kk, .slice A4 most c4, .slice sk.A sk.n sk.c, .bool lst, .int .i64 most, .slice s.A s.l.length s.c]) (0, 0) _ HC.out hcu.out rfl (by rw [<- HYY.out]; exact callC_size y) ?_)
      | (at_builtin; refine wpList_appC _ rfl (.tmp 87) (.tmp 89) rfl (HCR5.row.alloc _) rfl HCR5.len (y := y) (by rw [HYY.out]; exact Blk.new _ _ _) rfl HK8.out (size_new (bsz HH.out HW.out)) ?_; intro A8 c8 u8 ho8 hg8 hA8))
     have HY8 := zH ((HY.below (bal (b0 u) _)).kept hg8 HAPL);have HCR8 := zH ((HCR5.below (bal (b0 u) _)).snoc (by rw [<- HN.out]; exact hkn.out) ((show CIn u (kOf P.big) y (P.call k) from by rw [P.call_lt (by rw [<- HN.out]; exact HKN.out), <- HKK.out]; exact HY.out).below (bal (b0 u) _)) HAPL.out (fun _ => HAPO.out) ho8 hg8 hA8);have HC8 := zH ((HC.alloc _).grown hg8 HGA);have HW8 := zH (below_appC (HW.alloc (bsz HH HW) _) (HCR5.row.alloc _) hg8 (aZC _) (size_new (bsz HH HW)));clear ho8 hg8 hA8 HC HY HCR5;go_wp2_with (refine wpList_load_row rfl 107 _ rfl gc rfl 107 (#[Value.int .i64 kk, .slice A4 most c4, .slice sk.A sk.n sk.c, .bool lst, .int .i64 most, .slice s.A s.l.length s.c]) (0, 0) _ HC8.out hcu.out rfl (by rw [<- HYY.out]; exact callC_size y) ?_);rw [<- HYY.out];refine (HCA y (P.lane k) u8 HY8 HYD).mono ?_;rintro e6 u9 ⟨A6, n6, c6, cc6, rfl, hl6, -, ho6, hb6⟩;have HO6 := zH ho6; have HL6 := zH hl6;have HCR9 := zH (HCR8.below hb6);have HW9 := zH (HW8.trans (hb6.mono (bsz HH HW8)));clear ho6 hl6 hb6 HC8 HY8 HCR8;have hn6 : n6 <= 64 := by rw [<- HL6.out]; exact callS_le _ _ _ _ _ _
     have hol : olen <= 1000 := by rw [<- HOL.out]; have := P.outs_le k; have := hkn.out; omega
     go_wp2_with (at_builtin; refine wpList_appB _ rfl (.tmp 96) (.tmp 97) rfl HCR9.out.out rfl HOL.out HO6.reads rfl HL6.out (by omega) (bsz HH.out HW9.out) ?_; intro A7 c7 u7 ho7 hg7 hA7);have ho7b : OS cB u7 H A7 c7 (P.outs (k + 1)) := by rw [HKK.out] at ho7; exact ho7
     have HCR10 := zH (HCR9.outs (by rw [<- HN.out]; exact HKN.out) ho7b hg7 hA7);have HW10 := zH (below_app HW9.out HCR9.out.out hg7 (aZC _) (bsz HH HW9));go_roundw
     case rel =>
      refine ⟨k + 1, olen + n6, A8, c8, L ++ [y], A7, c7, HKN.out, num8 k, rfl, rfl, ?_, HCR10.out, HW10.out⟩
      show (P.outs k ++ ((P.lane k).out (kOf P.big)).1).length = _
      rw [List.length_append, HOL.out, <- HKK.out, HL6.out]
     case measure => exact meas9 n k HKN.out)
  |(obtain ⟨y, hyy⟩ : ∃ y : CC, y = ⟨kk, ⟨A4, most, c4⟩, Sl.nil, ⟨Ao, olen, co⟩, true, P.digest⟩ := ⟨_, rfl⟩
    have hycs : y.cs = (#[Value.int .i64 kk, .slice A4 most c4, .slice none 0 0, .bool true, .int .i64 P.digest, .slice Ao olen co]) := by rw [hyy]; rfl
    have HCR6 := zH (HCR.below HBR);have hkl : k = lnOf P.big := HN.out;have hy : CIn u kk y P.root := by
     rw [hyy];refine ⟨rfl, rfl, rfl, ?_, ⟨?_, ?_⟩, ?_, rfl, RS.nil _, ?_, ⟨?_, ?_⟩, ?_⟩
     ·exact HBL _
     ·show most <= c4
      rw [<- HBL.out k]; exact HE.len_le.1
     ·show c4 <= _
      have h := HE.len_le.2; unfold maxLen at h; exact h
     ·show RS cB u u.heap.size A4 (P.blk (lnOf P.big))
      rw [<- hkl]; exact HE.reads
     ·show (P.outs (lnOf P.big)).length = olen
      rw [<- hkl]; exact HOL.out
     ·show olen <= co
      rw [<- HOL.out]; exact HCR6.out.out.len_le.1
     ·show co <= _
      have h := HCR6.out.out.len_le.2; unfold maxLen at h; exact h
     ·show RS cB u u.heap.size Ao (P.outs (lnOf P.big))
      rw [<- hkl]; exact HCR6.out.out.reads
    have hap : y.apart (Al.map (·.block)) := by
     rw [hyy];refine ⟨apart_fresh (fun a ha => (HE.block_lt a ha).1) (fun g hg => (crow_ge HCR.row g hg).2), fun h => absurd h (Nat.lt_irrefl 0), fun _ a ha e => ?_⟩
     cases hAl : Al with
     | none => rw [hAl] at e; cases e
     | some b => rw [hAl] at e; exact HCR6.out.row.ne_os HCR6.out.out b a hAl ha (Option.some.inj e)
    have HYY := zH hycs; have HY := zH hy; have HAPL := zH hap; have HKL := zH hkl;have HK8 : Hid (k <= 1000) := by (show k <= 1000; omega)
    clear hyy hycs hy hap HE hkl;go_wp2_with (at_builtin; refine wpList_appC _ rfl (.tmp 112) (.tmp 118) rfl (HCR6.row.alloc _) rfl HCR6.len (y := y) (by rw [HYY.out]; exact Blk.new _ _ _) rfl HK8.out (size_new (bsz HH.out HW.out)) ?_; intro A8 c8 u8 ho8 hg8 hA8);have HCR8 := zH ((HCR6.below (bal (b0 u) _)).snoc (by rw [<- HN.out]; exact hkn.out) ((show CIn u (kOf P.big) y (P.call k) from by rw [HKL.out, P.call_root, <- HKK.out]; exact HY.out).below (bal (b0 u) _)) HAPL.out (fun h => absurd HKL.out (Nat.ne_of_lt h)) ho8 hg8 hA8);have HW8 := zH (below_appC (HW.alloc (bsz HH HW) _) (HCR6.row.alloc _) hg8 (aZC _) (size_new (bsz HH HW)));exact bodyPost_ret (results_tmp2 rfl _ _ _) rfl ⟨A8, c8, rfl, L ++ [y], HCR8.row.mono (by rw [HH.out]; exact HB.size), HCR8.len, fun i x hx => by rw [HKK.out]; exact HCR8.inn i x hx, HB.trans (HW8.mono (by rw [HH.out]; exact HB.size))⟩)
 ) : P := h
set_option maxRecDepth 20000 in
set_option maxHeartbeats 8000000 in
theorem rcalls_any (P : LP) (sk ss sp sd : Sl) (w : World) (h : LIn w P sk ss sp sd) (he : P.err = 0) :
  Calls Tryz.prog 55 #[.int .i64 (kOf P.big), .int .i64 P.digest, .slice sk.A sk.n sk.c, .slice ss.A ss.n ss.c, .slice sp.A sp.n sp.c, .slice sd.A sd.n sd.c] w fun e w' => ∃ A c l, e = .returned (.tuple #[.slice A (lnOf P.big + 1 : Nat) c, .int .i64 0]) /\ CO w' w.heap.size A c l /\ l.length = lnOf P.big + 1 /\ (∀ (i : Nat) (x : CC), l[i]? = some x -> CIn w' (kOf P.big) x (P.call i)) /\ Below w.heap.size w w' := by
 have h8 := lnOf_pos P.big;have hb8 : 0 < blOf P.big := by cases P.big <;> decide
 have hco := rcount_of P.big;have hmo := refMost_any P.big;have hpa := fun (i : Nat) (hi : i <= lnOf P.big) W => rpar_any P i hi ss sp W
 rw [h.hk] at hpa;have hen := fun (i : Nat) (hi : i <= lnOf P.big) W r1 r2 => refEncode_any P.big (P.par i ss sp) P.ls P.lp W (by rw [P.chk_eq i hi ss sp h.hs h.hp]; exact he) (P.fit i hi ss sp) h.hs h.hp r1 r2
 simp only [P.blk_eq] at hen;have hsp := fun W hr => refSplit_any (kOf P.big) (lnOf P.big) (blOf P.big) (by omega) h8.2 hb8 (zH (rcount_of P.big)) (zH (rblock_of P.big)) sd.A sd.c sd.n P.data W h.hd (by have := h.nd; omega) hr
 have hca := fun (x : CC) (c : CP) W (hx : CIn W (kOf P.big) x c) hd => refCallC_any (kOf P.big) x c W hx hd
 have hbl := fun i => P.blk_len he i
 obtain ⟨n, hn⟩ : ∃ n, n = lnOf P.big := ⟨_, rfl⟩;obtain ⟨kk, hkk⟩ : ∃ k, k = kOf P.big := ⟨_, rfl⟩;obtain ⟨blk, hblk⟩ : ∃ k, k = blOf P.big := ⟨_, rfl⟩;obtain ⟨most, hmost⟩ : ∃ k, k = bOf P.big := ⟨_, rfl⟩;rw [<- hkk] at hco hmo hpa hen hsp hca ⊢;rw [<- hn] at hco hpa hen hsp h8 ⊢;rw [<- hblk] at hsp;rw [<- hmost] at hmo hen;simp only [<- hmost] at hbl;have HCO := zH hco; have HMO := zH hmo; have HPA := zH hpa; have HEN := zH hen; have HCA := zH hca; have HIN := zH h; have HSP := zH hsp; have HBL := zH hbl;have HN := zH hn; have HKK := zH hkk; have HM := zH hmost; have HBLK := zH hblk;clear hco hmo hpa hen hca h hsp hbl he hb8 hn hkk hblk hmost;have tn : ((n : Int) == 0) = false := by simp; omega
 have hcu := zH Tryz.underlying107;go_enter Tryz.func55, Tryz.ntmps55;go_wp2_with (first
  | (go_at_call 80; refine (HCO _).mono ?_; rintro e w1 ⟨rfl, rfl⟩)
  | (go_at_call 82; refine (HPA n (aZC _) _).mono ?_; rintro e1 w1 ⟨rfl, hb1⟩; have HB1 := zH hb1; clear hb1))
 refine (HEN n (aZC _) _ ((HIN.rs.below HB1).more HB1.size) ((HIN.rp.below HB1).more HB1.size)).mono ?_;rintro e2 w2 ⟨A0, c0, rfl, -, hb2⟩;have HB2 := zH (bcall HB1 hb2);clear hb2;go_wp2_with fail;refine (HSP _ ((HIN.rd.below HB2).more HB2.size)).mono ?_;rintro e3 u2 ⟨gT, svs, rfl, htab, hlen, hlane, hb3⟩;have HT := zH htab; have HLEN := zH hlen; have HLANE := zH hlane;have HB := zH (bcall HB2 hb3);clear htab hlen hlane hb3 HB1 HB2 HSP;go_wp2_with fail;obtain ⟨H, hH⟩ : ∃ H, H = u2.heap.size := ⟨_, rfl⟩;have HH := zH hH;have HRA := zH (show RS cB u2 H sk.A P.key by rw [HH.out]; exact (HIN.rk.below HB.out).more HB.size);have HRB := zH (show RS cB u2 H ss.A P.ls by rw [HH.out]; exact (HIN.rs.below HB.out).more HB.size);have HRC := zH (show RS cB u2 H sp.A P.lp by rw [HH.out]; exact (HIN.rp.below HB.out).more HB.size);have HTL := zH (show gT < H by rw [HH.out]; obtain ⟨g, s, e, -, h, -⟩ := HT.row.at_ (k := 0) (by rw [HLEN.out]; omega); injection e with e; injection e with e; rw [e]; exact h);clear hH;go_loopw [19, 20, 21, 22, 23, 24, 25, 26] (fun lv ov ix i2 i3 i4 i5 i6 wr => ∃ (k olen : Nat) (Al : Option Addr) (cl : Nat) (L : List CC) (Ao : Option Addr) (co : Nat), k <= n /\ ix = .int .i64 k /\ lv = .slice Al k cl /\ ov = .slice Ao olen co /\ (P.outs k).length = olen /\ CRel wr H P k k Al cl L Ao co /\ Below H u2 wr) (fun _ _ ix _ _ _ _ _ _ => n - (intOf ix).toNat)
 case atStart => exact ⟨0, 0, none, 0, [], none, 0, Nat.zero_le _, rfl, rfl, rfl, rfl, CRel.start _ _ _, by rw [HH.out]; exact Below.refl _ _⟩
 case round =>
  obtain ⟨k, olen, Al, cl, L, Ao, co, hk, rfl, rfl, rfl, hol, hcr, hbw⟩ := hrel;have HOL := zH hol; have HCR := zH hcr; have HBW := zH hbw; clear hol hcr hbw
  by_cases hlt : k < n
  ·open kA in exact zS73b
  ·exact zS73b
theorem CO.whole {w : World} {base c : Nat} {A : Option Addr} {l : List CC} (h : CO w base A c l) (hl : 0 < l.length) : ∃ g, A = some ⟨g, 0, none⟩ := by
 rcases h.form with ⟨_, _, h0⟩ | ⟨g, hg, _⟩
 ·rw [h0] at hl; exact absurd hl (Nat.lt_irrefl _)
 ·exact ⟨g, hg⟩
end Go.Proofs.YtmapfcdffklopaaGreat

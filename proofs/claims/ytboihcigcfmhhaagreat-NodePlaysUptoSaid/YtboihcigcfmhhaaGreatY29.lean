/-
  Y29: contracts and lemmas alone; no statement is claimed here.
-/
import Derived.Test.YtboihcigcfmhhaaGreatY25
namespace Go.Proofs.YtboihcigcfmhhaaGreat
open _root_.Nat renaming ne_of_lt → bZJ
open _root_.Nat renaming le_of_eq → bZF
open _root_.Nat renaming lt_of_lt_of_le → aZO
open _root_.Nat renaming le_trans → aZL
open Go renaming wpList_load_row → aZH
open Go renaming wpList_store_row → aZE
open _root_.Nat renaming le_refl → aZC
open Go renaming bodyPost_ret → aZB
open Lib renaming hid -> zH
open Go.RowKit
attribute [local go_sem] pureUpon Ords.of
theorem cell_fld {w : World} {B at_ : Nat} {ad : Addr} {b : List UInt8} (hr : RS cB w B (some ad) b) (h : at_ < b.length) : w.cell? (ad.add at_) = some (.int .u8 (fld b at_ 1 : Nat)) := by
 obtain ⟨ad', x, e, -, e2, g⟩ := hr.at_ h;injection e with e
 subst e;rw [fld_one e2];exact g
theorem RS.some_of {w : World} {B : Nat} {A : Option Addr} {b : List UInt8} (hr : RS cB w B A b) (h : 0 < b.length) : ∃ ad : Addr, A = some ad /\ ad.block < B := by
 obtain ⟨ad, x, e, h2, -⟩ := hr.at_ h;exact ⟨ad, e, h2⟩
theorem decLen_any (big ext : Bool) (A : Option Addr) (n c : Nat) (w : World) (hn : n ≠ bOf big) :
  Calls Tryz.prog 70 #[.int .i64 (kOf big), .slice A n c, .bool ext] w fun r w' => ∃ e : Int, r = .returned (.tuple #[zeroPar.v, .int .i64 e]) /\ e ≠ 0 /\ Below w.heap.size w w' := by
 have hr := fun W => rightLen_any big A n c W
 obtain ⟨e, he⟩ : ∃ e : Int, e = if n < bOf big then 3 else if bOf big < n then 2 else 0 := ⟨_, rfl⟩
 have he0 : e ≠ 0 := by
  rw [he]
  split
  ·decide
  ·split
   ·decide
   ·omega
 rw [<- he] at hr;have t0 : (e != 0) = true := by simpa using he0
 have hzs := zeroPar.size;have hzo := zeroPar.ones;unfold zeroPar Pr.v Pr.cs Sl.v Sl.nil at *;dsimp only at *;have HR := zH hr; have HE := zH he0; have ZS := zH hzs; have ZO := zH hzo;clear hr he he0 hn hzs hzo;generalize kOf big = k at *;go_enter Tryz.func70, Tryz.ntmps70;go_wp2_with (first
  | (go_at_call 89; refine (HR _).mono ?_; rintro e1 w1 ⟨rfl, rfl⟩)
  | (refine aZE rfl 26 _ _ rfl w.heap.size _ rfl rfl 26 zcs (Blk.new _ _ _) ZS rfl ZO ?_))
 exact aZB (results_cell_tmp rfl _ _ w.heap.size 26 zcs _ rfl (Blk.row (Blk.new _ _ _) _) Tryz.underlying26 rfl ZS) rfl ⟨e, rfl, HE.out, brow (bal (b0 _) _) (aZC _) _⟩
def DecAns (big ext : Bool) (b : List UInt8) (w : World) (r : Ending) (w' : World) : Prop :=
  ∃ (p : Pr) (e : Int), r = .returned (.tuple #[p.v, .int .i64 e]) /\ ((e = 0 /\ decOk big ext b /\ p.digest = (fld b 0 1 : Nat) /\ p.key = (fld b 1 1 : Nat)) \/ (e ≠ 0 /\ ¬ decOk big ext b)) /\ Below w.heap.size w w'
theorem cell_far {w : World} {B at_ : Nat} {ad : Addr} {b : List UInt8} (hr : RS cB w B (some ad) b) (h : at_ < b.length) (h0 : 0 < at_) : w.cell? ⟨ad.block, ad.off + at_, none⟩ = some (.int .u8 (fld b at_ 1 : Nat)) := by
 have h1 := cell_fld hr h;unfold Addr.add at h1;rw [if_neg (by omega)] at h1;exact h1
theorem cell_zero {w : World} {B : Nat} {ad : Addr} {b : List UInt8} (hr : RS cB w B (some ad) b) (h : 0 < b.length) : w.cell? ad = some (.int .u8 (fld b 0 1 : Nat)) := cell_fld hr h
theorem cell_byte {w : World} {B at_ : Nat} {ad : Addr} {b : List UInt8} (hr : RS cB w B (some ad) b) (h : at_ < b.length) (h0 : 0 < at_) : ∃ x, b[at_]? = some x /\ w.cell? ⟨ad.block, ad.off + at_, none⟩ = some (.int .u8 (byt x)) := by
 obtain ⟨ad', x, e, -, e2, g⟩ := hr.at_ h;injection e with e
 subst e;unfold Addr.add at g;rw [if_neg (by omega)] at g;exact ⟨x, e2, g⟩
theorem RS.mid {w : World} {B k : Nat} {ad : Addr} {b : List UInt8} (hr : RS cB w B (some ad) b) (h : k <= b.length) (h0 : 0 < k) (n : Nat) : RS cB w B (some ⟨ad.block, ad.off + k, none⟩) ((b.drop k).take n) := by
 refine RS.take ?_ n;have h1 := hr.cut (k := k) (cap := b.length + k + 1) h (by omega);rw [if_neg (by omega)] at h1;have e : (some ad).map (·.add k) = some (⟨ad.block, ad.off + k, none⟩ : Addr) := by
  show some (ad.add k) = _
  unfold Addr.add;rw [if_neg (by omega)]
 rwa [e] at h1
theorem dec_mid {b : List UInt8} {k n m : Nat} (hb : b.length = m) (h : k + n <= m) : ((b.drop k).take n).length = n := by rw [List.length_take, List.length_drop, hb]; omega
set_option maxRecDepth 20000 in
set_option maxHeartbeats 8000000 in
theorem decBig_any (ext : Bool) (A : Option Addr) (c : Nat) (b : List UInt8) (w : World) (hb : b.length = 64) (hc : 64 <= c) (hcm : c <= 9223372036854775807) (hr : RS cB w w.heap.size A b) :
  Calls Tryz.prog 70 #[.int .i64 1, .slice A 64 c, .bool ext] w (DecAns true ext b w) := by
 obtain ⟨ad, rfl, hab⟩ := hr.some_of (by omega);have hrt := fun W => rightLen_any true (some ad) 64 c W
 change ∀ W, Calls _ _ #[.int .i64 1, .slice (some ad) 64 c] W fun e w' => e = .returned (.int .i64 0) /\ W = w' at hrt
 have hsi := fun W => sizes_big W
 have hro := fun W => rowsBig_any W
 obtain ⟨d0, e0⟩ : ∃ d, d = fld b 0 1 := ⟨_, rfl⟩;obtain ⟨d1, e1⟩ : ∃ d, d = fld b 1 1 := ⟨_, rfl⟩;obtain ⟨d2, e2⟩ : ∃ d, d = fld b 2 1 := ⟨_, rfl⟩;obtain ⟨d3, e3⟩ : ∃ d, d = fld b 3 1 := ⟨_, rfl⟩;obtain ⟨d4, e4⟩ : ∃ d, d = fld b 4 4 := ⟨_, rfl⟩;obtain ⟨d7, e7⟩ : ∃ d, d = fld b 16 1 := ⟨_, rfl⟩;obtain ⟨d8, e8⟩ : ∃ d, d = fld b 17 1 := ⟨_, rfl⟩;obtain ⟨o8, eo8⟩ : ∃ d, d = fld b 8 8 := ⟨_, rfl⟩;obtain ⟨o4, eo4⟩ : ∃ d, d = fld b 8 4 := ⟨_, rfl⟩;obtain ⟨x4, ex⟩ : ∃ d, d = fld b 12 4 := ⟨_, rfl⟩;have L0 := zH (show d0 < 256 from by rw [e0]; exact fld_lt b _ 1);have L1 := zH (show d1 < 256 from by rw [e1]; exact fld_lt b _ 1);have L2 := zH (show d2 < 256 from by rw [e2]; exact fld_lt b _ 1);have L3 := zH (show d3 < 256 from by rw [e3]; exact fld_lt b _ 1);have L7 := zH (show d7 < 256 from by rw [e7]; exact fld_lt b _ 1);have L8 := zH (show d8 < 256 from by rw [e8]; exact fld_lt b _ 1);have W4 := zH (show IntKind.u32.wrap (d4 : Int) = (d4 : Int) from by have h := fld_lt b 4 4; rw [<- e4] at h; simp [IntKind.wrap, IntKind.bits, IntKind.signed]; omega);have HXW := zH (show IntKind.u32.wrap (x4 : Int) = (x4 : Int) from by have h := fld_lt b 12 4; rw [<- ex] at h; simp [IntKind.wrap, IntKind.bits, IntKind.signed]; omega);have hg44 := fun W hr => get_any (some ad) c 64 4 4 W.heap.size b W hb (by decide) hr (by decide) (by decide)
 have hg8o := fun W hr => get_any (some ad) c 64 8 8 W.heap.size b W hb (by decide) hr (by decide) (by decide)
 have hg84 := fun W hr => get_any (some ad) c 64 8 4 W.heap.size b W hb (by decide) hr (by decide) (by decide)
 have hg12 := fun W hr => get_any (some ad) c 64 12 4 W.heap.size b W hb (by decide) hr (by decide) (by decide)
 simp only [<- e4] at hg44;simp only [<- eo8] at hg8o;simp only [<- eo4] at hg84;simp only [<- ex] at hg12;have hPR : ∀ s q, decPr true ext b s q = ⟨d0, d1, d2, d3, d4, (if ext then o4 else o8 : Nat), if ext then (x4 : Int) else 0, d7, d8, s, q⟩ := fun s q => by
  rw [e0, e1, e2, e3, e4, e7, e8, eo8, eo4, ex]
  cases ext <;> rfl
 obtain ⟨E, hE⟩ : ∃ E, E = chk (kOf true) (decPr true ext b (sl4 true) (sl4 true)) := ⟨_, rfl⟩;have hck : ∀ (A1 : Option Addr) (c1 : Nat) (A2 : Option Addr) (c2 : Nat) (W : World), Calls Tryz.prog 48 #[.int .i64 1, (decPr true ext b ⟨A1, 16, c1⟩ ⟨A2, 16, c2⟩).v] W fun e w' => e = .returned (.int .i64 E) /\ Below W.heap.size W w' := fun A1 c1 A2 c2 W => by
  have h1 := check_any 1 (decPr true ext b ⟨A1, 16, c1⟩ ⟨A2, 16, c2⟩) W;have h2 : chk 1 (decPr true ext b ⟨A1, 16, c1⟩ ⟨A2, 16, c2⟩) = E := by
   rw [hE];exact chk_sl true _ _ _ _ _ _ _ _ _ _ _ (by show 4 * 16 <= 64; decide) (by show 4 * 16 <= 64; decide)
  rwa [h2] at h1
 have hnm : ∀ (W : World), RS cB W W.heap.size (some ad) b -> Calls Tryz.prog 91 #[(decPr true ext b ⟨some ⟨ad.block, ad.off + 32, none⟩, 16, c - 32⟩ ⟨some ⟨ad.block, ad.off + 48, none⟩, 16, c - 48⟩).v] W fun r w' => ∃ (A1 : Option Addr) (t1 c1 : Nat) (A2 : Option Addr) (t2 c2 : Nat), r = .returned (decPr true ext b ⟨A1, t1, c1⟩ ⟨A2, t2, c2⟩).v /\ Below W.heap.size W w' := fun W hr => by
  refine (normal_any (decPr true ext b ⟨some ⟨ad.block, ad.off + 32, none⟩, 16, c - 32⟩ ⟨some ⟨ad.block, ad.off + 48, none⟩, 16, c - 48⟩) ((b.drop 32).take 16) ((b.drop 48).take 16) W (dec_mid hb (by decide)) (dec_mid hb (by decide)) (by show 16 <= 1024; decide) (by show 16 <= 1024; decide) ⟨by show 16 <= c - 32; omega, by show c - 32 <= _; omega⟩ ⟨by show 16 <= c - 48; omega, by show c - 48 <= _; omega⟩ (hr.mid (by omega) (by decide) _) (hr.mid (by omega) (by decide) _)).mono ?_;rintro r w' ⟨⟨A1, t1, c1⟩, ⟨A2, t2, c2⟩, rfl, h⟩;exact ⟨A1, t1, c1, A2, t2, c2, rfl, h⟩
 simp only [hPR] at hck hnm;unfold Pr.v Pr.cs Sl.v at hck hnm;dsimp only at hck hnm;have hzs := zeroPar.size;have hzo := zeroPar.ones;have PS0 : Hid ((Tryz.prog.info? 26).map (·.size) = some (#[Value.int .i64 d0, .int .i64 d1, .int .i64 d2, .int .i64 d3, .int .u32 d4, .int .u64 (0), .int .u32 (0), .int .i64 d7, .int .i64 d8, .slice none 0 0, .slice none 0 0]).size) := Pr.size (⟨d0, d1, d2, d3, d4, 0, 0, d7, d8, Sl.nil, Sl.nil⟩ : Pr);have PO0 : Hid ((#[Value.int .i64 d0, .int .i64 d1, .int .i64 d2, .int .i64 d3, .int .u32 d4, .int .u64 (0), .int .u32 (0), .int .i64 d7, .int .i64 d8, .slice none 0 0, .slice none 0 0]).all (·.oneCell') = true) := Pr.ones (⟨d0, d1, d2, d3, d4, 0, 0, d7, d8, Sl.nil, Sl.nil⟩ : Pr);have HRT := zH hrt; have HSI := zH hsi; have HRO := zH hro; have HRB := zH hr; have HLB := zH hb; have ZS := zH hzs; have ZO := zH hzo; have H44 := zH hg44; have H8O := zH hg8o; have H84 := zH hg84; have HX := zH hg12; have HCK := zH hck; have HNM := zH hnm; have HEE := zH hE; have E0 := zH e0; have E1 := zH e1; have E2 := zH e2; have E3 := zH e3; have E7 := zH e7; have E8 := zH e8; have EX := zH ex;clear hrt hsi hro hr hb hzs hzo hg44 hg8o hg84 hg12 hck hnm hE e0 e1 e2 e3 e4 e7 e8 eo8 eo4 ex hPR;unfold DecAns
 cases ext
 ·simp only [Bool.false_eq_true, if_false] at HCK HNM
  go_enter Tryz.func70, Tryz.ntmps70;go_wp2_with (first
   | (go_at_call 89; refine (HRT _).mono ?_; rintro e1 w1 ⟨rfl, rfl⟩))
  refine (HSI _).mono ?_;rintro e1 w1 ⟨rfl, rfl⟩;go_wp2;go_loop [13, 35] (fun _ i => ∃ k : Nat, k <= 14 /\ i = .int .i64 k /\ ∀ j, j < k -> b[18 + j]? = some 0) (fun _ i => 14 - (intOf i).toNat)
  case atStart => exact ⟨0, by omega, rfl, fun j h => absurd h (Nat.not_lt_zero _)⟩
  case round =>
   obtain ⟨k, hk, rfl, hz⟩ := hrel;have HZF := zH hz; clear hz
   by_cases hlt : k < 14
   ·obtain ⟨x, ex, gx⟩ := cell_byte HRB.out (at_ := 18 + k) (by rw [HLB.out]; omega) (by omega)
    rw [<- Nat.add_assoc] at gx;have EXX := zH ex; clear ex
    by_cases hx : x = 0
    ·subst hx
     go_wp2
     case roundEnd =>
      exact ⟨⟨k + 1, by omega, by go_num, fun j hj => by
       by_cases h : j < k
       ·exact HZF j h
       ·obtain rfl : j = k := by omega
        exact EXX.out⟩, by simp [intOf]; omega⟩
    ·have tb : (byt x != 0) = true := by
      rw [bne_iff_ne];intro h;exact hx (UInt8.toNat_inj.1 (Int.ofNat.inj h))
     have HNO := zH (show ¬ decOk true false b from fun h => hx (by
      have h1 := h.2.1 rfl (18 + k) (by omega) (by omega);rw [EXX.out] at h1;exact Option.some.inj h1))
     clear hx;generalize byt x = y at *;go_wp2_with (refine aZE rfl 26 _ _ rfl w.heap.size _ rfl rfl 26 zcs (Blk.new _ _ _) ZS rfl ZO ?_);exact aZB (results_cell_tmp rfl _ _ w.heap.size 26 zcs _ rfl (Blk.row (Blk.new _ _ _) _) Tryz.underlying26 rfl ZS) rfl ⟨zeroPar, 4, rfl, .inr ⟨by decide, HNO.out⟩, brow (bal (b0 _) _) (aZC _) _⟩
   ·obtain rfl : k = 14 := by omega
    have HFIL : Hid (∀ i, 18 <= i -> i < 32 -> b[i]? = some 0) := fun i h1 h2 => by
     have h3 := HZF.out (i - 18) (by omega)
     rwa [show 18 + (i - 18) = i by omega] at h3
    clear HZF hk hlt;go_upto_region 13 with fail
    refine (HRO _).mono ?_;rintro e2 v ⟨gr, rfl, hgr, hkr, hb2⟩;have HK6 := zH ((Blk.new w 26 zcs).below hb2 (by simp));have HB := zH (bcall (bal (b0 w) (.cells zcs 26)) hb2);have HKR := zH hkr;have HWG := zH (show w.heap.size < gr from aZO (by simp) hgr);clear hgr hkr hb2;have HRV := zH (HRB.below HB);have g0 := cell_zero HRV.out (by rw [HLB.out]; decide);have g1 := cell_far HRV.out (at_ := 1) (by rw [HLB.out]; decide) (by decide);have g2 := cell_far HRV.out (at_ := 2) (by rw [HLB.out]; decide) (by decide);have g3 := cell_far HRV.out (at_ := 3) (by rw [HLB.out]; decide) (by decide);have g7 := cell_far HRV.out (at_ := 16) (by rw [HLB.out]; decide) (by decide);have g8 := cell_far HRV.out (at_ := 17) (by rw [HLB.out]; decide) (by decide);rw [<- E0.out] at g0;rw [<- E1.out] at g1;rw [<- E2.out] at g2;rw [<- E3.out] at g3;rw [<- E7.out] at g7;rw [<- E8.out] at g8;have r36 : v.cell? ⟨gr, 36, none⟩ = some (.int .i64 16) := (HKR.cell 36).trans (by kernel_rfl);have r41 : v.cell? ⟨gr, 41, none⟩ = some (.int .i64 17) := (HKR.cell 41).trans (by kernel_rfl);have hlr := HKR.lt;have hla : ad.block < v.heap.size := aZO hab HB.size;have l0 := L0.out; have l1 := L1.out; have l2 := L2.out; have l3 := L3.out; have l7 := L7.out; have l8 := L8.out;have w4 : IntKind.u32.wrap (d4 : Int) = (d4 : Int) := W4.out;go_upto_region 13 with fail
    have HS := zH (b0 v);refine wrZ (fun w' => Below v.heap.size v w') (fun _ n h => bdr h n) (Ords.of [(0, 0), (0, 1), (0, 2), (0, 3), (0, 4), (0, 5), (0, 6), (0, 7), (0, 8), (0, 9), (0, 10), (0, 11), (0, 12), (0, 13), (0, 14), (0, 15), (0, 16), (0, 19), (0, 20), (0, 21), (0, 22), (0, 23), (0, 24), (0, 25), (0, 26), (0, 27), (0, 28), (0, 29), (0, 30), (0, 31), (0, 32), (0, 33), (0, 34)] (.two 17 36 (Ords.of [(0, 18), (0, 35), (2, 36), (2, 37)] .fin) (Ords.of [(2, 17), (0, 18), (0, 35), (2, 37)] .fin))) (b0 v) ?_
    iterate 4 (refine ords_pure rfl (fun K hK => ?_); go_simp; refine hK _ ?_; clear hK K; refine ords_pure rfl (fun K hK => ?_); go_simp; refine hK _ ?_; clear hK K; refine ords_heldK rfl (fun K K2 hK hK2 => ?_); go_simp; refine ⟨hK2 _ (fun w9 hS => ?_), hK _ ?_⟩; (clear hK hK2 K K2; have q0 := (hS.cell hla).trans g0; have q1 := (hS.cell (p := ⟨ad.block, ad.off + 1, none⟩) hla).trans g1; have q2 := (hS.cell (p := ⟨ad.block, ad.off + 2, none⟩) hla).trans g2; have q3 := (hS.cell (p := ⟨ad.block, ad.off + 3, none⟩) hla).trans g3; have q7 := (hS.cell (p := ⟨ad.block, ad.off + 16, none⟩) hla).trans g7; have q8 := (hS.cell (p := ⟨ad.block, ad.off + 17, none⟩) hla).trans g8; have q36 := (hS.cell (p := ⟨gr, 36, none⟩) hlr).trans r36; have q41 := (hS.cell (p := ⟨gr, 41, none⟩) hlr).trans r41; clear hS; go_simp); (clear hK hK2 K K2); refine ords_pure rfl (fun K hK => ?_); go_simp; refine hK _ ?_; clear hK K)
    iterate 2 (refine ords_pure rfl (fun K hK => ?_); go_simp; refine hK _ ?_; clear hK K; refine ords_pure rfl (fun K hK => ?_); go_simp; refine hK _ ?_; clear hK K; refine ords_pure rfl (fun K hK => ?_); go_simp; refine hK _ ?_; clear hK K; refine ords_pure rfl (fun K hK => ?_); go_simp; refine hK _ ?_; clear hK K; refine ords_pure rfl (fun K hK => ?_); go_simp; refine hK _ ?_; clear hK K; refine ords_heldK rfl (fun K K2 hK hK2 => ?_); go_simp; refine ⟨hK2 _ (fun w9 hS => ?_), hK _ ?_⟩; (clear hK hK2 K K2; have q0 := (hS.cell hla).trans g0; have q1 := (hS.cell (p := ⟨ad.block, ad.off + 1, none⟩) hla).trans g1; have q2 := (hS.cell (p := ⟨ad.block, ad.off + 2, none⟩) hla).trans g2; have q3 := (hS.cell (p := ⟨ad.block, ad.off + 3, none⟩) hla).trans g3; have q7 := (hS.cell (p := ⟨ad.block, ad.off + 16, none⟩) hla).trans g7; have q8 := (hS.cell (p := ⟨ad.block, ad.off + 17, none⟩) hla).trans g8; have q36 := (hS.cell (p := ⟨gr, 36, none⟩) hlr).trans r36; have q41 := (hS.cell (p := ⟨gr, 41, none⟩) hlr).trans r41; clear hS; go_simp); (clear hK hK2 K K2); refine ords_pure rfl (fun K hK => ?_); go_simp; refine hK _ ?_; clear hK K; refine ords_heldK rfl (fun K K2 hK hK2 => ?_); go_simp; refine ⟨hK2 _ (fun w9 hS => ?_), hK _ ?_⟩; (clear hK hK2 K K2; have q0 := (hS.cell hla).trans g0; have q1 := (hS.cell (p := ⟨ad.block, ad.off + 1, none⟩) hla).trans g1; have q2 := (hS.cell (p := ⟨ad.block, ad.off + 2, none⟩) hla).trans g2; have q3 := (hS.cell (p := ⟨ad.block, ad.off + 3, none⟩) hla).trans g3; have q7 := (hS.cell (p := ⟨ad.block, ad.off + 16, none⟩) hla).trans g7; have q8 := (hS.cell (p := ⟨ad.block, ad.off + 17, none⟩) hla).trans g8; have q36 := (hS.cell (p := ⟨gr, 36, none⟩) hlr).trans r36; have q41 := (hS.cell (p := ⟨gr, 41, none⟩) hlr).trans r41; clear hS; go_simp); (clear hK hK2 K K2))
    refine ords_pure rfl (fun K hK => ?_); go_simp; refine hK _ ?_; clear hK K;refine ords_two rfl rfl (fun n1 => ?_) (fun n1 => ?_)
    focus
     replace HS := zH (bdr HS n1)
     (try replace HK15 := zH (HK15.drewN n1))
     generalize v.drewN n1 = v at *;go_wp2_with (go_at_call 90; refine (H44 _ ((HRV.below (HS.mono HB.size)).more (aZL HB.size HS.size))).mono ?_; rintro e3 w3 ⟨rfl, rfl⟩);refine ⟨HS.out, ?_⟩
     iterate 2 (refine ords_pure rfl (fun K hK => ?_); go_simp; refine hK _ ?_; clear hK K)
     refine ords_loud rfl (fun n2 => ?_);replace HS := zH (bdr HS n2)
     (try replace HK15 := zH (HK15.drewN n2))
     generalize v.drewN n2 = v at *;go_wp2_with fail;have hz : zcs = #[.int .i64 0, .int .i64 0, .int .i64 0, .int .i64 0, .int .u32 0, .int .u64 0, .int .u32 0, .int .i64 0, .int .i64 0, .slice none 0 0, .slice none 0 0] := rfl;rw [<- hz];clear hz;have HK15 := zH (Blk.new v 26 zcs);obtain ⟨g, hg⟩ : ∃ g, g = v.heap.size := ⟨_, rfl⟩;have HGL := zH (show _ <= g from aZL HS.size (bZF hg.symm));have HG0 : Hid (w.heap.size <= g) := aZL HB.size HGL.out;have HNR : Hid (gr ≠ g) := bZJ (aZO hlr HGL);have HNE : Hid (w.heap.size ≠ g) := bZJ (Nat.lt_trans HWG (aZO hlr HGL));rw [<- hg] at HK15 ⊢;clear hg;replace HS := zH (bal HS (.cells zcs 26));generalize v.alloc (.cells zcs 26) = v at *;refine ⟨HS.out, ?_⟩;refine ords_loud rfl (fun n3 => ?_);replace HS := zH (bdr HS n3)
     (try replace HK15 := zH (HK15.drewN n3))
     generalize v.drewN n3 = v at *;go_wp2_with (refine aZE rfl 26 _ _ rfl g _ rfl rfl 26 zcs HK15 PS0 rfl PO0 ?_);replace HK15 := zH (HK15.row #[Value.int .i64 d0, .int .i64 d1, .int .i64 d2, .int .i64 d3, .int .u32 d4, .int .u64 (0), .int .u32 (0), .int .i64 d7, .int .i64 d8, .slice none 0 0, .slice none 0 0]);replace HS := zH (brow HS HGL #[Value.int .i64 d0, .int .i64 d1, .int .i64 d2, .int .i64 d3, .int .u32 d4, .int .u64 (0), .int .u32 (0), .int .i64 d7, .int .i64 d8, .slice none 0 0, .slice none 0 0]);generalize v.setRow g #[Value.int .i64 d0, .int .i64 d1, .int .i64 d2, .int .i64 d3, .int .u32 d4, .int .u64 (0), .int .u32 (0), .int .i64 d7, .int .i64 d8, .slice none 0 0, .slice none 0 0] = v at *;refine ⟨HS.out, ?_⟩;refine ords_end (fun n4 => ?_);replace HS := zH (bdr HS n4)
     (try replace HK15 := zH (HK15.drewN n4))
     generalize v.drewN n4 = v at *;replace HK6 := zH (HK6.below HS HK6.lt);replace HKR := zH (HKR.below HS HKR.lt);replace HB := zH (bcall HB HS);clear HS g0 g1 g2 g3 g7 g8 r36 r41 hlr hla HRV HWG HGL
    rotate_left 1
    focus
     replace HS := zH (bdr HS n1)
     (try replace HK15 := zH (HK15.drewN n1))
     generalize v.drewN n1 = v at *;go_wp2_with fail;have hz : zcs = #[.int .i64 0, .int .i64 0, .int .i64 0, .int .i64 0, .int .u32 0, .int .u64 0, .int .u32 0, .int .i64 0, .int .i64 0, .slice none 0 0, .slice none 0 0] := rfl;rw [<- hz];clear hz;have HK15 := zH (Blk.new v 26 zcs);obtain ⟨g, hg⟩ : ∃ g, g = v.heap.size := ⟨_, rfl⟩;have HGL := zH (show _ <= g from aZL HS.size (bZF hg.symm));have HG0 : Hid (w.heap.size <= g) := aZL HB.size HGL.out;have HNR : Hid (gr ≠ g) := bZJ (aZO hlr HGL);have HNE : Hid (w.heap.size ≠ g) := bZJ (Nat.lt_trans HWG (aZO hlr HGL));rw [<- hg] at HK15 ⊢;clear hg;replace HS := zH (bal HS (.cells zcs 26));generalize v.alloc (.cells zcs 26) = v at *;refine ⟨HS.out, ?_⟩;refine ords_loud rfl (fun n2 => ?_);replace HS := zH (bdr HS n2)
     (try replace HK15 := zH (HK15.drewN n2))
     generalize v.drewN n2 = v at *;go_wp2_with (go_at_call 90; refine (H44 _ ((HRV.below (HS.mono HB.size)).more (aZL HB.size HS.size))).mono ?_; rintro e3 w3 ⟨rfl, rfl⟩);refine ⟨HS.out, ?_⟩
     iterate 2 (refine ords_pure rfl (fun K hK => ?_); go_simp; refine hK _ ?_; clear hK K)
     refine ords_loud rfl (fun n3 => ?_);replace HS := zH (bdr HS n3)
     (try replace HK15 := zH (HK15.drewN n3))
     generalize v.drewN n3 = v at *;go_wp2_with (refine aZE rfl 26 _ _ rfl g _ rfl rfl 26 zcs HK15 PS0 rfl PO0 ?_);replace HK15 := zH (HK15.row #[Value.int .i64 d0, .int .i64 d1, .int .i64 d2, .int .i64 d3, .int .u32 d4, .int .u64 (0), .int .u32 (0), .int .i64 d7, .int .i64 d8, .slice none 0 0, .slice none 0 0]);replace HS := zH (brow HS HGL #[Value.int .i64 d0, .int .i64 d1, .int .i64 d2, .int .i64 d3, .int .u32 d4, .int .u64 (0), .int .u32 (0), .int .i64 d7, .int .i64 d8, .slice none 0 0, .slice none 0 0]);generalize v.setRow g #[Value.int .i64 d0, .int .i64 d1, .int .i64 d2, .int .i64 d3, .int .u32 d4, .int .u64 (0), .int .u32 (0), .int .i64 d7, .int .i64 d8, .slice none 0 0, .slice none 0 0] = v at *;refine ⟨HS.out, ?_⟩;refine ords_end (fun n4 => ?_);replace HS := zH (bdr HS n4)
     (try replace HK15 := zH (HK15.drewN n4))
     generalize v.drewN n4 = v at *;replace HK6 := zH (HK6.below HS HK6.lt);replace HKR := zH (HKR.below HS HKR.lt);replace HB := zH (bcall HB HS);clear HS g0 g1 g2 g3 g7 g8 r36 r41 hlr hla HRV HWG HGL
    all_goals
     have r27 : v.cell? ⟨gr, 27, none⟩ = some (.int .i64 8) := (HKR.cell 27).trans (by kernel_rfl);have f9 := HK15.frozen 5;have hl9 := HK15.lt;have dC : v.cell? ⟨g, 5, none⟩ = some (.int .u64 0) := HK15.cell 5;go_upto_region 15 with (go_at_call 90; refine (H8O _ ((HRB.below HB).more HB.size)).mono ?_; rintro e4 w4 ⟨rfl, rfl⟩)
     replace HK15 := zH (HK15.set_ 5 (.int .u64 o8));replace HK6 := zH (HK6.far (p := ⟨g, 5, none⟩) HNE (.int .u64 o8));replace HKR := zH (HKR.far (p := ⟨g, 5, none⟩) HNR (.int .u64 o8));replace HB := zH (bput HB (p := ⟨g, 5, none⟩) HG0 (.int .u64 o8));clear f9 hl9 dC;generalize v.setCell ⟨g, 5, none⟩ (.int .u64 o8) = v at *;clear r27;have xd : True := trivial;go_upto_region 20 with fail
     clear xd;have s1 : IntKind.i64.wrap 32 = 32 := by kernel_rfl
     have s2 : IntKind.i64.wrap 48 = 48 := by kernel_rfl
     have s3 : (32 : Int).toNat = 32 := rfl;have s4 : (48 : Int).toNat = 48 := rfl;have s5 : (64 : Int).toNat = 64 := rfl;have s6 : (c = 32) = False := by simp only [eq_iff_iff, iff_false]; omega
     have s7 : (c = 48) = False := by simp only [eq_iff_iff, iff_false]; omega
     have s8 : (32 : Int) <= (c : Int) := by omega
     have s9 : (48 : Int) <= (c : Int) := by omega
     have s0 : (64 : Int) <= (c : Int) := by omega
     have a1 : ad.add 32 = ⟨ad.block, ad.off + 32, none⟩ := by unfold Addr.add; rw [if_neg (by decide)]
     have a2 : ad.add 48 = ⟨ad.block, ad.off + 48, none⟩ := by unfold Addr.add; rw [if_neg (by decide)]
     refine wrZ (fun _ => True) (fun _ _ h => h) (Ords.of [(0, 0), (0, 1), (0, 2), (0, 3), (0, 4), (0, 5), (0, 6), (0, 7), (0, 8), (0, 9), (0, 10), (0, 11), (0, 12), (0, 13), (0, 14), (2, 15), (0, 16), (2, 17)] .fin) trivial ?_
     iterate 15 (refine ords_pure rfl (fun K hK => ?_); go_simp; refine hK _ ?_; clear hK K)
     refine ords_loud rfl (fun n1 => ?_);replace HK15 := zH (HK15.drewN n1);replace HK6 := zH (HK6.drewN n1);replace HKR := zH (HKR.drewN n1);replace HB := zH (bdr HB n1);generalize v.drewN n1 = v at *;have f9 := HK15.frozen 9;have hl9 := HK15.lt;have dC : v.cell? ⟨g, 9, none⟩ = some (.slice none 0 0) := HK15.cell 9;go_wp2_with fail;replace HK15 := zH (HK15.set_ 9 (.slice (some ⟨ad.block, ad.off + 32, none⟩) 16 (c - 32)));replace HK6 := zH (HK6.far (p := ⟨g, 9, none⟩) HNE (.slice (some ⟨ad.block, ad.off + 32, none⟩) 16 (c - 32)));replace HKR := zH (HKR.far (p := ⟨g, 9, none⟩) HNR (.slice (some ⟨ad.block, ad.off + 32, none⟩) 16 (c - 32)));replace HB := zH (bput HB (p := ⟨g, 9, none⟩) HG0 (.slice (some ⟨ad.block, ad.off + 32, none⟩) 16 (c - 32)));clear f9 hl9 dC;generalize v.setCell ⟨g, 9, none⟩ (.slice (some ⟨ad.block, ad.off + 32, none⟩) 16 (c - 32)) = v at *;refine ⟨trivial, ?_⟩;refine ords_pure rfl (fun K hK => ?_); go_simp; refine hK _ ?_; clear hK K;refine ords_loud rfl (fun n2 => ?_);replace HK15 := zH (HK15.drewN n2);replace HK6 := zH (HK6.drewN n2);replace HKR := zH (HKR.drewN n2);replace HB := zH (bdr HB n2);generalize v.drewN n2 = v at *;have f9 := HK15.frozen 10;have hl9 := HK15.lt;have dC : v.cell? ⟨g, 10, none⟩ = some (.slice none 0 0) := HK15.cell 10;go_wp2_with fail;replace HK15 := zH (HK15.set_ 10 (.slice (some ⟨ad.block, ad.off + 48, none⟩) 16 (c - 48)));replace HK6 := zH (HK6.far (p := ⟨g, 10, none⟩) HNE (.slice (some ⟨ad.block, ad.off + 48, none⟩) 16 (c - 48)));replace HKR := zH (HKR.far (p := ⟨g, 10, none⟩) HNR (.slice (some ⟨ad.block, ad.off + 48, none⟩) 16 (c - 48)));replace HB := zH (bput HB (p := ⟨g, 10, none⟩) HG0 (.slice (some ⟨ad.block, ad.off + 48, none⟩) 16 (c - 48)));clear f9 hl9 dC;generalize v.setCell ⟨g, 10, none⟩ (.slice (some ⟨ad.block, ad.off + 48, none⟩) 16 (c - 48)) = v at *
     first | (refine ⟨trivial, ?_⟩; refine ords_end (fun n3 => ?_)) | (rintro _ ⟨n3, rfl⟩)
     replace HK15 := zH (HK15.drewN n3);replace HK6 := zH (HK6.drewN n3);replace HKR := zH (HKR.drewN n3);replace HB := zH (bdr HB n3);generalize v.drewN n3 = v at *;clear s1 s2 s3 s4 s5 s6 s7 s8 s9 s0 a1 a2;have hk15 : Blk v g 26 #[Value.int .i64 d0, .int .i64 d1, .int .i64 d2, .int .i64 d3, .int .u32 d4, .int .u64 (o8), .int .u32 (0), .int .i64 d7, .int .i64 d8, .slice (some ⟨ad.block, ad.off + 32, none⟩) 16 (c - 32), .slice (some ⟨ad.block, ad.off + 48, none⟩) 16 (c - 48)] := HK15.out;clear HK15;have HK15 := zH hk15; clear hk15;have PS : Hid ((Tryz.prog.info? 26).map (·.size) = some (#[Value.int .i64 d0, .int .i64 d1, .int .i64 d2, .int .i64 d3, .int .u32 d4, .int .u64 (o8), .int .u32 (0), .int .i64 d7, .int .i64 d8, .slice (some ⟨ad.block, ad.off + 32, none⟩) 16 (c - 32), .slice (some ⟨ad.block, ad.off + 48, none⟩) 16 (c - 48)]).size) := Pr.size (⟨d0, d1, d2, d3, d4, o8, 0, d7, d8, ⟨some ⟨ad.block, ad.off + 32, none⟩, 16, c - 32⟩, ⟨some ⟨ad.block, ad.off + 48, none⟩, 16, c - 48⟩⟩ : Pr);have hu := zH Tryz.underlying26
     by_cases hE0 : E = 0
     ·have t0 : (E != 0) = false := by rw [hE0]; rfl
      have HOK : Hid (decOk true false b) := ⟨HLB.out, (fun _ => HFIL.out), (fun h => nomatch h), by rw [<- HEE.out]; exact hE0⟩;clear hE0;go_wp2_with (first
       | (refine aZH rfl 26 _ rfl g rfl 26 _ (0, 0) _ HK15 hu.out rfl PS ?_)
       | (go_at_call 48; refine (HCK _ _ _ _ _).mono ?_; rintro e7 v ⟨rfl, hb7⟩; replace HK15 := zH (HK15.below hb7 HK15.lt); replace HK6 := zH (HK6.below hb7 HK6.lt); replace HB := zH (bcall HB hb7); clear hb7)
       | (go_at_call 91; refine (HNM _ ((HRB.below HB).more HB.size)).mono ?_; rintro e8 v ⟨A1, t1, c1, A2, t2, c2, rfl, hb8⟩; replace HK6 := zH (HK6.below hb8 HK6.lt); replace HB := zH (bcall HB hb8); have PS2 : Hid ((Tryz.prog.info? 26).map (·.size) = some (#[Value.int .i64 d0, .int .i64 d1, .int .i64 d2, .int .i64 d3, .int .u32 d4, .int .u64 (o8), .int .u32 (0), .int .i64 d7, .int .i64 d8, .slice A1 t1 c1, .slice A2 t2 c2]).size) := Pr.size (⟨d0, d1, d2, d3, d4, o8, 0, d7, d8, ⟨A1, t1, c1⟩, ⟨A2, t2, c2⟩⟩ : Pr); have PO2 : Hid ((#[Value.int .i64 d0, .int .i64 d1, .int .i64 d2, .int .i64 d3, .int .u32 d4, .int .u64 (o8), .int .u32 (0), .int .i64 d7, .int .i64 d8, .slice A1 t1 c1, .slice A2 t2 c2]).all (·.oneCell') = true) := Pr.ones (⟨d0, d1, d2, d3, d4, o8, 0, d7, d8, ⟨A1, t1, c1⟩, ⟨A2, t2, c2⟩⟩ : Pr); clear hb8)
       | (refine aZE rfl 26 _ _ rfl w.heap.size _ rfl rfl 26 zcs HK6 PS2 rfl PO2 ?_))
      exact aZB (results_cell_tmp rfl _ _ w.heap.size 26 _ _ rfl (Blk.row HK6.out _) Tryz.underlying26 rfl PS2.out) rfl ⟨(⟨d0, d1, d2, d3, d4, o8, 0, d7, d8, ⟨A1, t1, c1⟩, ⟨A2, t2, c2⟩⟩ : Pr), 0, rfl, .inl ⟨rfl, HOK.out, by rw [<- E0.out], by rw [<- E1.out]⟩, brow HB.out (aZC _) _⟩
     ·have t0 : (E != 0) = true := by simpa using hE0
      have HNO3 : Hid (¬ decOk true false b) := fun h => hE0 (by rw [HEE.out]; exact h.2.2.2)
      have HE0 := zH hE0; clear hE0;go_wp2_with (first
       | (refine aZH rfl 26 _ rfl g rfl 26 _ (0, 0) _ HK15 hu.out rfl PS ?_)
       | (go_at_call 48; refine (HCK _ _ _ _ _).mono ?_; rintro e7 v ⟨rfl, hb7⟩; replace HK15 := zH (HK15.below hb7 HK15.lt); replace HK6 := zH (HK6.below hb7 HK6.lt); replace HB := zH (bcall HB hb7); clear hb7)
       | (refine aZE rfl 26 _ _ rfl w.heap.size _ rfl rfl 26 zcs HK6 ZS rfl ZO ?_))
      exact aZB (results_cell_tmp rfl _ _ w.heap.size 26 zcs _ rfl (Blk.row HK6 _) Tryz.underlying26 rfl ZS) rfl ⟨zeroPar, E, rfl, .inr ⟨HE0.out, HNO3.out⟩, brow HB (aZC _) _⟩
 ·simp only [if_true] at HCK HNM
  go_enter Tryz.func70, Tryz.ntmps70;go_wp2_with (first
   | (go_at_call 89; refine (HRT _).mono ?_; rintro e1 w1 ⟨rfl, rfl⟩))
  refine (HSI _).mono ?_;rintro e1 w1 ⟨rfl, rfl⟩;go_wp2;go_loop [13, 35] (fun _ i => ∃ k : Nat, k <= 14 /\ i = .int .i64 k /\ ∀ j, j < k -> b[18 + j]? = some 0) (fun _ i => 14 - (intOf i).toNat)
  case atStart => exact ⟨0, by omega, rfl, fun j h => absurd h (Nat.not_lt_zero _)⟩
  case round =>
   obtain ⟨k, hk, rfl, hz⟩ := hrel;have HZF := zH hz; clear hz
   by_cases hlt : k < 14
   ·obtain ⟨x, ex, gx⟩ := cell_byte HRB.out (at_ := 18 + k) (by rw [HLB.out]; omega) (by omega)
    rw [<- Nat.add_assoc] at gx;have EXX := zH ex; clear ex
    by_cases hx : x = 0
    ·subst hx
     go_wp2
     case roundEnd =>
      exact ⟨⟨k + 1, by omega, by go_num, fun j hj => by
       by_cases h : j < k
       ·exact HZF j h
       ·obtain rfl : j = k := by omega
        exact EXX.out⟩, by simp [intOf]; omega⟩
    ·have tb : (byt x != 0) = true := by
      rw [bne_iff_ne];intro h;exact hx (UInt8.toNat_inj.1 (Int.ofNat.inj h))
     have HNO := zH (show ¬ decOk true true b from fun h => hx (by
      have h1 := h.2.1 rfl (18 + k) (by omega) (by omega);rw [EXX.out] at h1;exact Option.some.inj h1))
     clear hx;generalize byt x = y at *;go_wp2_with (refine aZE rfl 26 _ _ rfl w.heap.size _ rfl rfl 26 zcs (Blk.new _ _ _) ZS rfl ZO ?_);exact aZB (results_cell_tmp rfl _ _ w.heap.size 26 zcs _ rfl (Blk.row (Blk.new _ _ _) _) Tryz.underlying26 rfl ZS) rfl ⟨zeroPar, 4, rfl, .inr ⟨by decide, HNO.out⟩, brow (bal (b0 _) _) (aZC _) _⟩
   ·obtain rfl : k = 14 := by omega
    have HFIL : Hid (∀ i, 18 <= i -> i < 32 -> b[i]? = some 0) := fun i h1 h2 => by
     have h3 := HZF.out (i - 18) (by omega)
     rwa [show 18 + (i - 18) = i by omega] at h3
    clear HZF hk hlt;go_upto_region 13 with fail
    refine (HRO _).mono ?_;rintro e2 v ⟨gr, rfl, hgr, hkr, hb2⟩;have HK6 := zH ((Blk.new w 26 zcs).below hb2 (by simp));have HB := zH (bcall (bal (b0 w) (.cells zcs 26)) hb2);have HKR := zH hkr;have HWG := zH (show w.heap.size < gr from aZO (by simp) hgr);clear hgr hkr hb2;have HRV := zH (HRB.below HB);have g0 := cell_zero HRV.out (by rw [HLB.out]; decide);have g1 := cell_far HRV.out (at_ := 1) (by rw [HLB.out]; decide) (by decide);have g2 := cell_far HRV.out (at_ := 2) (by rw [HLB.out]; decide) (by decide);have g3 := cell_far HRV.out (at_ := 3) (by rw [HLB.out]; decide) (by decide);have g7 := cell_far HRV.out (at_ := 16) (by rw [HLB.out]; decide) (by decide);have g8 := cell_far HRV.out (at_ := 17) (by rw [HLB.out]; decide) (by decide);rw [<- E0.out] at g0;rw [<- E1.out] at g1;rw [<- E2.out] at g2;rw [<- E3.out] at g3;rw [<- E7.out] at g7;rw [<- E8.out] at g8;have r36 : v.cell? ⟨gr, 36, none⟩ = some (.int .i64 16) := (HKR.cell 36).trans (by kernel_rfl);have r41 : v.cell? ⟨gr, 41, none⟩ = some (.int .i64 17) := (HKR.cell 41).trans (by kernel_rfl);have hlr := HKR.lt;have hla : ad.block < v.heap.size := aZO hab HB.size;have l0 := L0.out; have l1 := L1.out; have l2 := L2.out; have l3 := L3.out; have l7 := L7.out; have l8 := L8.out;have w4 : IntKind.u32.wrap (d4 : Int) = (d4 : Int) := W4.out;go_upto_region 13 with fail
    have HS := zH (b0 v);refine wrZ (fun w' => Below v.heap.size v w') (fun _ n h => bdr h n) (Ords.of [(0, 0), (0, 1), (0, 2), (0, 3), (0, 4), (0, 5), (0, 6), (0, 7), (0, 8), (0, 9), (0, 10), (0, 11), (0, 12), (0, 13), (0, 14), (0, 15), (0, 16), (0, 19), (0, 20), (0, 21), (0, 22), (0, 23), (0, 24), (0, 25), (0, 26), (0, 27), (0, 28), (0, 29), (0, 30), (0, 31), (0, 32), (0, 33), (0, 34)] (.two 17 36 (Ords.of [(0, 18), (0, 35), (2, 36), (2, 37)] .fin) (Ords.of [(2, 17), (0, 18), (0, 35), (2, 37)] .fin))) (b0 v) ?_
    iterate 4 (refine ords_pure rfl (fun K hK => ?_); go_simp; refine hK _ ?_; clear hK K; refine ords_pure rfl (fun K hK => ?_); go_simp; refine hK _ ?_; clear hK K; refine ords_heldK rfl (fun K K2 hK hK2 => ?_); go_simp; refine ⟨hK2 _ (fun w9 hS => ?_), hK _ ?_⟩; (clear hK hK2 K K2; have q0 := (hS.cell hla).trans g0; have q1 := (hS.cell (p := ⟨ad.block, ad.off + 1, none⟩) hla).trans g1; have q2 := (hS.cell (p := ⟨ad.block, ad.off + 2, none⟩) hla).trans g2; have q3 := (hS.cell (p := ⟨ad.block, ad.off + 3, none⟩) hla).trans g3; have q7 := (hS.cell (p := ⟨ad.block, ad.off + 16, none⟩) hla).trans g7; have q8 := (hS.cell (p := ⟨ad.block, ad.off + 17, none⟩) hla).trans g8; have q36 := (hS.cell (p := ⟨gr, 36, none⟩) hlr).trans r36; have q41 := (hS.cell (p := ⟨gr, 41, none⟩) hlr).trans r41; clear hS; go_simp); (clear hK hK2 K K2); refine ords_pure rfl (fun K hK => ?_); go_simp; refine hK _ ?_; clear hK K)
    iterate 2 (refine ords_pure rfl (fun K hK => ?_); go_simp; refine hK _ ?_; clear hK K; refine ords_pure rfl (fun K hK => ?_); go_simp; refine hK _ ?_; clear hK K; refine ords_pure rfl (fun K hK => ?_); go_simp; refine hK _ ?_; clear hK K; refine ords_pure rfl (fun K hK => ?_); go_simp; refine hK _ ?_; clear hK K; refine ords_pure rfl (fun K hK => ?_); go_simp; refine hK _ ?_; clear hK K; refine ords_heldK rfl (fun K K2 hK hK2 => ?_); go_simp; refine ⟨hK2 _ (fun w9 hS => ?_), hK _ ?_⟩; (clear hK hK2 K K2; have q0 := (hS.cell hla).trans g0; have q1 := (hS.cell (p := ⟨ad.block, ad.off + 1, none⟩) hla).trans g1; have q2 := (hS.cell (p := ⟨ad.block, ad.off + 2, none⟩) hla).trans g2; have q3 := (hS.cell (p := ⟨ad.block, ad.off + 3, none⟩) hla).trans g3; have q7 := (hS.cell (p := ⟨ad.block, ad.off + 16, none⟩) hla).trans g7; have q8 := (hS.cell (p := ⟨ad.block, ad.off + 17, none⟩) hla).trans g8; have q36 := (hS.cell (p := ⟨gr, 36, none⟩) hlr).trans r36; have q41 := (hS.cell (p := ⟨gr, 41, none⟩) hlr).trans r41; clear hS; go_simp); (clear hK hK2 K K2); refine ords_pure rfl (fun K hK => ?_); go_simp; refine hK _ ?_; clear hK K; refine ords_heldK rfl (fun K K2 hK hK2 => ?_); go_simp; refine ⟨hK2 _ (fun w9 hS => ?_), hK _ ?_⟩; (clear hK hK2 K K2; have q0 := (hS.cell hla).trans g0; have q1 := (hS.cell (p := ⟨ad.block, ad.off + 1, none⟩) hla).trans g1; have q2 := (hS.cell (p := ⟨ad.block, ad.off + 2, none⟩) hla).trans g2; have q3 := (hS.cell (p := ⟨ad.block, ad.off + 3, none⟩) hla).trans g3; have q7 := (hS.cell (p := ⟨ad.block, ad.off + 16, none⟩) hla).trans g7; have q8 := (hS.cell (p := ⟨ad.block, ad.off + 17, none⟩) hla).trans g8; have q36 := (hS.cell (p := ⟨gr, 36, none⟩) hlr).trans r36; have q41 := (hS.cell (p := ⟨gr, 41, none⟩) hlr).trans r41; clear hS; go_simp); (clear hK hK2 K K2))
    refine ords_pure rfl (fun K hK => ?_); go_simp; refine hK _ ?_; clear hK K;refine ords_two rfl rfl (fun n1 => ?_) (fun n1 => ?_)
    focus
     replace HS := zH (bdr HS n1)
     (try replace HK15 := zH (HK15.drewN n1))
     generalize v.drewN n1 = v at *;go_wp2_with (go_at_call 90; refine (H44 _ ((HRV.below (HS.mono HB.size)).more (aZL HB.size HS.size))).mono ?_; rintro e3 w3 ⟨rfl, rfl⟩);refine ⟨HS.out, ?_⟩
     iterate 2 (refine ords_pure rfl (fun K hK => ?_); go_simp; refine hK _ ?_; clear hK K)
     refine ords_loud rfl (fun n2 => ?_);replace HS := zH (bdr HS n2)
     (try replace HK15 := zH (HK15.drewN n2))
     generalize v.drewN n2 = v at *;go_wp2_with fail;have hz : zcs = #[.int .i64 0, .int .i64 0, .int .i64 0, .int .i64 0, .int .u32 0, .int .u64 0, .int .u32 0, .int .i64 0, .int .i64 0, .slice none 0 0, .slice none 0 0] := rfl;rw [<- hz];clear hz;have HK15 := zH (Blk.new v 26 zcs);obtain ⟨g, hg⟩ : ∃ g, g = v.heap.size := ⟨_, rfl⟩;have HGL := zH (show _ <= g from aZL HS.size (bZF hg.symm));have HG0 : Hid (w.heap.size <= g) := aZL HB.size HGL.out;have HNR : Hid (gr ≠ g) := bZJ (aZO hlr HGL);have HNE : Hid (w.heap.size ≠ g) := bZJ (Nat.lt_trans HWG (aZO hlr HGL));rw [<- hg] at HK15 ⊢;clear hg;replace HS := zH (bal HS (.cells zcs 26));generalize v.alloc (.cells zcs 26) = v at *;refine ⟨HS.out, ?_⟩;refine ords_loud rfl (fun n3 => ?_);replace HS := zH (bdr HS n3)
     (try replace HK15 := zH (HK15.drewN n3))
     generalize v.drewN n3 = v at *;go_wp2_with (refine aZE rfl 26 _ _ rfl g _ rfl rfl 26 zcs HK15 PS0 rfl PO0 ?_);replace HK15 := zH (HK15.row #[Value.int .i64 d0, .int .i64 d1, .int .i64 d2, .int .i64 d3, .int .u32 d4, .int .u64 (0), .int .u32 (0), .int .i64 d7, .int .i64 d8, .slice none 0 0, .slice none 0 0]);replace HS := zH (brow HS HGL #[Value.int .i64 d0, .int .i64 d1, .int .i64 d2, .int .i64 d3, .int .u32 d4, .int .u64 (0), .int .u32 (0), .int .i64 d7, .int .i64 d8, .slice none 0 0, .slice none 0 0]);generalize v.setRow g #[Value.int .i64 d0, .int .i64 d1, .int .i64 d2, .int .i64 d3, .int .u32 d4, .int .u64 (0), .int .u32 (0), .int .i64 d7, .int .i64 d8, .slice none 0 0, .slice none 0 0] = v at *;refine ⟨HS.out, ?_⟩;refine ords_end (fun n4 => ?_);replace HS := zH (bdr HS n4)
     (try replace HK15 := zH (HK15.drewN n4))
     generalize v.drewN n4 = v at *;replace HK6 := zH (HK6.below HS HK6.lt);replace HKR := zH (HKR.below HS HKR.lt);replace HB := zH (bcall HB HS);clear HS g0 g1 g2 g3 g7 g8 r36 r41 hlr hla HRV HWG HGL
    rotate_left 1
    focus
     replace HS := zH (bdr HS n1)
     (try replace HK15 := zH (HK15.drewN n1))
     generalize v.drewN n1 = v at *;go_wp2_with fail;have hz : zcs = #[.int .i64 0, .int .i64 0, .int .i64 0, .int .i64 0, .int .u32 0, .int .u64 0, .int .u32 0, .int .i64 0, .int .i64 0, .slice none 0 0, .slice none 0 0] := rfl;rw [<- hz];clear hz;have HK15 := zH (Blk.new v 26 zcs);obtain ⟨g, hg⟩ : ∃ g, g = v.heap.size := ⟨_, rfl⟩;have HGL := zH (show _ <= g from aZL HS.size (bZF hg.symm));have HG0 : Hid (w.heap.size <= g) := aZL HB.size HGL.out;have HNR : Hid (gr ≠ g) := bZJ (aZO hlr HGL);have HNE : Hid (w.heap.size ≠ g) := bZJ (Nat.lt_trans HWG (aZO hlr HGL));rw [<- hg] at HK15 ⊢;clear hg;replace HS := zH (bal HS (.cells zcs 26));generalize v.alloc (.cells zcs 26) = v at *;refine ⟨HS.out, ?_⟩;refine ords_loud rfl (fun n2 => ?_);replace HS := zH (bdr HS n2)
     (try replace HK15 := zH (HK15.drewN n2))
     generalize v.drewN n2 = v at *;go_wp2_with (go_at_call 90; refine (H44 _ ((HRV.below (HS.mono HB.size)).more (aZL HB.size HS.size))).mono ?_; rintro e3 w3 ⟨rfl, rfl⟩);refine ⟨HS.out, ?_⟩
     iterate 2 (refine ords_pure rfl (fun K hK => ?_); go_simp; refine hK _ ?_; clear hK K)
     refine ords_loud rfl (fun n3 => ?_);replace HS := zH (bdr HS n3)
     (try replace HK15 := zH (HK15.drewN n3))
     generalize v.drewN n3 = v at *;go_wp2_with (refine aZE rfl 26 _ _ rfl g _ rfl rfl 26 zcs HK15 PS0 rfl PO0 ?_);replace HK15 := zH (HK15.row #[Value.int .i64 d0, .int .i64 d1, .int .i64 d2, .int .i64 d3, .int .u32 d4, .int .u64 (0), .int .u32 (0), .int .i64 d7, .int .i64 d8, .slice none 0 0, .slice none 0 0]);replace HS := zH (brow HS HGL #[Value.int .i64 d0, .int .i64 d1, .int .i64 d2, .int .i64 d3, .int .u32 d4, .int .u64 (0), .int .u32 (0), .int .i64 d7, .int .i64 d8, .slice none 0 0, .slice none 0 0]);generalize v.setRow g #[Value.int .i64 d0, .int .i64 d1, .int .i64 d2, .int .i64 d3, .int .u32 d4, .int .u64 (0), .int .u32 (0), .int .i64 d7, .int .i64 d8, .slice none 0 0, .slice none 0 0] = v at *;refine ⟨HS.out, ?_⟩;refine ords_end (fun n4 => ?_);replace HS := zH (bdr HS n4)
     (try replace HK15 := zH (HK15.drewN n4))
     generalize v.drewN n4 = v at *;replace HK6 := zH (HK6.below HS HK6.lt);replace HKR := zH (HKR.below HS HKR.lt);replace HB := zH (bcall HB HS);clear HS g0 g1 g2 g3 g7 g8 r36 r41 hlr hla HRV HWG HGL
    all_goals
     have r27 : v.cell? ⟨gr, 27, none⟩ = some (.int .i64 8) := (HKR.cell 27).trans (by kernel_rfl);have f9 := HK15.frozen 5;have hl9 := HK15.lt;have dC : v.cell? ⟨g, 5, none⟩ = some (.int .u64 0) := HK15.cell 5;go_upto_region 15 with (go_at_call 90; refine (H8O _ ((HRB.below HB).more HB.size)).mono ?_; rintro e4 w4 ⟨rfl, rfl⟩)
     replace HK15 := zH (HK15.set_ 5 (.int .u64 o8));replace HK6 := zH (HK6.far (p := ⟨g, 5, none⟩) HNE (.int .u64 o8));replace HKR := zH (HKR.far (p := ⟨g, 5, none⟩) HNR (.int .u64 o8));replace HB := zH (bput HB (p := ⟨g, 5, none⟩) HG0 (.int .u64 o8));clear f9 hl9 dC;generalize v.setCell ⟨g, 5, none⟩ (.int .u64 o8) = v at *;clear r27;have f9 := HK15.frozen 5;have hl9 := HK15.lt;have dC : v.cell? ⟨g, 5, none⟩ = some (.int .u64 o8) := HK15.cell 5;go_upto_region 17 with (go_at_call 90; refine (H84 _ ((HRB.below HB).more HB.size)).mono ?_; rintro e5 w5 ⟨rfl, rfl⟩)
     replace HK15 := zH (HK15.set_ 5 (.int .u64 o4));replace HK6 := zH (HK6.far (p := ⟨g, 5, none⟩) HNE (.int .u64 o4));replace HKR := zH (HKR.far (p := ⟨g, 5, none⟩) HNR (.int .u64 o4));replace HB := zH (bput HB (p := ⟨g, 5, none⟩) HG0 (.int .u64 o4));clear f9 hl9 dC;generalize v.setCell ⟨g, 5, none⟩ (.int .u64 o4) = v at *;have r31 : v.cell? ⟨gr, 31, none⟩ = some (.int .i64 12) := (HKR.cell 31).trans (by kernel_rfl);have r32 : v.cell? ⟨gr, 32, none⟩ = some (.int .i64 4) := (HKR.cell 32).trans (by kernel_rfl);refine wrZ (fun _ => True) (fun _ _ h => h) (Ords.of [(0, 0), (0, 1), (0, 2), (0, 3), (1, 4), (0, 5), (0, 6), (0, 7), (1, 8), (2, 9), (0, 10), (0, 11), (2, 12)] .fin) trivial ?_
     iterate 9 ((first | refine ords_pure rfl (fun K hK => ?_) | refine ords_read rfl (fun K hK => ?_)); go_simp; refine hK _ ?_; clear hK K)
     refine ords_loud rfl (fun n1 => ?_);replace HK15 := zH (HK15.drewN n1);replace HK6 := zH (HK6.drewN n1);replace HKR := zH (HKR.drewN n1);replace HB := zH (bdr HB n1);generalize v.drewN n1 = v at *;go_wp2_with (go_at_call 90; refine (HX _ ((HRB.below HB).more HB.size)).mono ?_; rintro e6 w6 ⟨rfl, rfl⟩);refine ⟨trivial, ?_⟩
     iterate 2 (refine ords_pure rfl (fun K hK => ?_); go_simp; refine hK _ ?_; clear hK K)
     refine ords_loud rfl (fun n2 => ?_);replace HK15 := zH (HK15.drewN n2);replace HK6 := zH (HK6.drewN n2);replace HKR := zH (HKR.drewN n2);replace HB := zH (bdr HB n2);generalize v.drewN n2 = v at *;have f9 := HK15.frozen 6;have hl9 := HK15.lt;have dC : v.cell? ⟨g, 6, none⟩ = some (.int .u32 0) := HK15.cell 6;have xw : IntKind.u32.wrap (x4 : Int) = (x4 : Int) := HXW.out;go_wp2_with fail;replace HK15 := zH (HK15.set_ 6 (.int .u32 x4));replace HK6 := zH (HK6.far (p := ⟨g, 6, none⟩) HNE (.int .u32 x4));replace HKR := zH (HKR.far (p := ⟨g, 6, none⟩) HNR (.int .u32 x4));replace HB := zH (bput HB (p := ⟨g, 6, none⟩) HG0 (.int .u32 x4));clear f9 hl9 dC;generalize v.setCell ⟨g, 6, none⟩ (.int .u32 x4) = v at *;clear xw
     first | (refine ⟨trivial, ?_⟩; refine ords_end (fun n3 => ?_)) | (rintro _ ⟨n3, rfl⟩)
     replace HK15 := zH (HK15.drewN n3);replace HK6 := zH (HK6.drewN n3);replace HKR := zH (HKR.drewN n3);replace HB := zH (bdr HB n3);generalize v.drewN n3 = v at *;have d6 : v.cell? ⟨g, 6, none⟩ = some (.int .u32 x4) := HK15.cell 6
     by_cases hx0 : x4 = 0
     ·have t6 : ((x4 : Int) == 0) = true := by rw [hx0]; rfl
      have HNO2 : Hid (¬ decOk true true b) := fun h => h.2.2.1 rfl (by have h1 := EX.out; rw [hx0] at h1; exact h1.symm)
      clear hx0;go_wp2_with (refine aZE rfl 26 _ _ rfl w.heap.size _ rfl rfl 26 zcs HK6 ZS rfl ZO ?_);exact aZB (results_cell_tmp rfl _ _ w.heap.size 26 zcs _ rfl (Blk.row HK6 _) Tryz.underlying26 rfl ZS) rfl ⟨zeroPar, 24, rfl, .inr ⟨by decide, HNO2.out⟩, brow HB (aZC _) _⟩
     have t6 : ((x4 : Int) == 0) = false := by simpa using hx0
     have HX0 := zH hx0; clear hx0;go_upto_region 20 with fail
     clear d6 t6;have s1 : IntKind.i64.wrap 32 = 32 := by kernel_rfl
     have s2 : IntKind.i64.wrap 48 = 48 := by kernel_rfl
     have s3 : (32 : Int).toNat = 32 := rfl;have s4 : (48 : Int).toNat = 48 := rfl;have s5 : (64 : Int).toNat = 64 := rfl;have s6 : (c = 32) = False := by simp only [eq_iff_iff, iff_false]; omega
     have s7 : (c = 48) = False := by simp only [eq_iff_iff, iff_false]; omega
     have s8 : (32 : Int) <= (c : Int) := by omega
     have s9 : (48 : Int) <= (c : Int) := by omega
     have s0 : (64 : Int) <= (c : Int) := by omega
     have a1 : ad.add 32 = ⟨ad.block, ad.off + 32, none⟩ := by unfold Addr.add; rw [if_neg (by decide)]
     have a2 : ad.add 48 = ⟨ad.block, ad.off + 48, none⟩ := by unfold Addr.add; rw [if_neg (by decide)]
     refine wrZ (fun _ => True) (fun _ _ h => h) (Ords.of [(0, 0), (0, 1), (0, 2), (0, 3), (0, 4), (0, 5), (0, 6), (0, 7), (0, 8), (0, 9), (0, 10), (0, 11), (0, 12), (0, 13), (0, 14), (2, 15), (0, 16), (2, 17)] .fin) trivial ?_
     iterate 15 (refine ords_pure rfl (fun K hK => ?_); go_simp; refine hK _ ?_; clear hK K)
     refine ords_loud rfl (fun n1 => ?_);replace HK15 := zH (HK15.drewN n1);replace HK6 := zH (HK6.drewN n1);replace HKR := zH (HKR.drewN n1);replace HB := zH (bdr HB n1);generalize v.drewN n1 = v at *;have f9 := HK15.frozen 9;have hl9 := HK15.lt;have dC : v.cell? ⟨g, 9, none⟩ = some (.slice none 0 0) := HK15.cell 9;go_wp2_with fail;replace HK15 := zH (HK15.set_ 9 (.slice (some ⟨ad.block, ad.off + 32, none⟩) 16 (c - 32)));replace HK6 := zH (HK6.far (p := ⟨g, 9, none⟩) HNE (.slice (some ⟨ad.block, ad.off + 32, none⟩) 16 (c - 32)));replace HKR := zH (HKR.far (p := ⟨g, 9, none⟩) HNR (.slice (some ⟨ad.block, ad.off + 32, none⟩) 16 (c - 32)));replace HB := zH (bput HB (p := ⟨g, 9, none⟩) HG0 (.slice (some ⟨ad.block, ad.off + 32, none⟩) 16 (c - 32)));clear f9 hl9 dC;generalize v.setCell ⟨g, 9, none⟩ (.slice (some ⟨ad.block, ad.off + 32, none⟩) 16 (c - 32)) = v at *;refine ⟨trivial, ?_⟩;refine ords_pure rfl (fun K hK => ?_); go_simp; refine hK _ ?_; clear hK K;refine ords_loud rfl (fun n2 => ?_);replace HK15 := zH (HK15.drewN n2);replace HK6 := zH (HK6.drewN n2);replace HKR := zH (HKR.drewN n2);replace HB := zH (bdr HB n2);generalize v.drewN n2 = v at *;have f9 := HK15.frozen 10;have hl9 := HK15.lt;have dC : v.cell? ⟨g, 10, none⟩ = some (.slice none 0 0) := HK15.cell 10;go_wp2_with fail;replace HK15 := zH (HK15.set_ 10 (.slice (some ⟨ad.block, ad.off + 48, none⟩) 16 (c - 48)));replace HK6 := zH (HK6.far (p := ⟨g, 10, none⟩) HNE (.slice (some ⟨ad.block, ad.off + 48, none⟩) 16 (c - 48)));replace HKR := zH (HKR.far (p := ⟨g, 10, none⟩) HNR (.slice (some ⟨ad.block, ad.off + 48, none⟩) 16 (c - 48)));replace HB := zH (bput HB (p := ⟨g, 10, none⟩) HG0 (.slice (some ⟨ad.block, ad.off + 48, none⟩) 16 (c - 48)));clear f9 hl9 dC;generalize v.setCell ⟨g, 10, none⟩ (.slice (some ⟨ad.block, ad.off + 48, none⟩) 16 (c - 48)) = v at *
     first | (refine ⟨trivial, ?_⟩; refine ords_end (fun n3 => ?_)) | (rintro _ ⟨n3, rfl⟩)
     replace HK15 := zH (HK15.drewN n3);replace HK6 := zH (HK6.drewN n3);replace HKR := zH (HKR.drewN n3);replace HB := zH (bdr HB n3);generalize v.drewN n3 = v at *;clear s1 s2 s3 s4 s5 s6 s7 s8 s9 s0 a1 a2;have hk15 : Blk v g 26 #[Value.int .i64 d0, .int .i64 d1, .int .i64 d2, .int .i64 d3, .int .u32 d4, .int .u64 (o4), .int .u32 (x4), .int .i64 d7, .int .i64 d8, .slice (some ⟨ad.block, ad.off + 32, none⟩) 16 (c - 32), .slice (some ⟨ad.block, ad.off + 48, none⟩) 16 (c - 48)] := HK15.out;clear HK15;have HK15 := zH hk15; clear hk15;have PS : Hid ((Tryz.prog.info? 26).map (·.size) = some (#[Value.int .i64 d0, .int .i64 d1, .int .i64 d2, .int .i64 d3, .int .u32 d4, .int .u64 (o4), .int .u32 (x4), .int .i64 d7, .int .i64 d8, .slice (some ⟨ad.block, ad.off + 32, none⟩) 16 (c - 32), .slice (some ⟨ad.block, ad.off + 48, none⟩) 16 (c - 48)]).size) := Pr.size (⟨d0, d1, d2, d3, d4, o4, x4, d7, d8, ⟨some ⟨ad.block, ad.off + 32, none⟩, 16, c - 32⟩, ⟨some ⟨ad.block, ad.off + 48, none⟩, 16, c - 48⟩⟩ : Pr);have hu := zH Tryz.underlying26
     by_cases hE0 : E = 0
     ·have t0 : (E != 0) = false := by rw [hE0]; rfl
      have HOK : Hid (decOk true true b) := ⟨HLB.out, (fun _ => HFIL.out), (fun _ h => HX0.out (EX.trans h)), by rw [<- HEE.out]; exact hE0⟩;clear hE0;go_wp2_with (first
       | (refine aZH rfl 26 _ rfl g rfl 26 _ (0, 0) _ HK15 hu.out rfl PS ?_)
       | (go_at_call 48; refine (HCK _ _ _ _ _).mono ?_; rintro e7 v ⟨rfl, hb7⟩; replace HK15 := zH (HK15.below hb7 HK15.lt); replace HK6 := zH (HK6.below hb7 HK6.lt); replace HB := zH (bcall HB hb7); clear hb7)
       | (go_at_call 91; refine (HNM _ ((HRB.below HB).more HB.size)).mono ?_; rintro e8 v ⟨A1, t1, c1, A2, t2, c2, rfl, hb8⟩; replace HK6 := zH (HK6.below hb8 HK6.lt); replace HB := zH (bcall HB hb8); have PS2 : Hid ((Tryz.prog.info? 26).map (·.size) = some (#[Value.int .i64 d0, .int .i64 d1, .int .i64 d2, .int .i64 d3, .int .u32 d4, .int .u64 (o4), .int .u32 (x4), .int .i64 d7, .int .i64 d8, .slice A1 t1 c1, .slice A2 t2 c2]).size) := Pr.size (⟨d0, d1, d2, d3, d4, o4, x4, d7, d8, ⟨A1, t1, c1⟩, ⟨A2, t2, c2⟩⟩ : Pr); have PO2 : Hid ((#[Value.int .i64 d0, .int .i64 d1, .int .i64 d2, .int .i64 d3, .int .u32 d4, .int .u64 (o4), .int .u32 (x4), .int .i64 d7, .int .i64 d8, .slice A1 t1 c1, .slice A2 t2 c2]).all (·.oneCell') = true) := Pr.ones (⟨d0, d1, d2, d3, d4, o4, x4, d7, d8, ⟨A1, t1, c1⟩, ⟨A2, t2, c2⟩⟩ : Pr); clear hb8)
       | (refine aZE rfl 26 _ _ rfl w.heap.size _ rfl rfl 26 zcs HK6 PS2 rfl PO2 ?_))
      exact aZB (results_cell_tmp rfl _ _ w.heap.size 26 _ _ rfl (Blk.row HK6.out _) Tryz.underlying26 rfl PS2.out) rfl ⟨(⟨d0, d1, d2, d3, d4, o4, x4, d7, d8, ⟨A1, t1, c1⟩, ⟨A2, t2, c2⟩⟩ : Pr), 0, rfl, .inl ⟨rfl, HOK.out, by rw [<- E0.out], by rw [<- E1.out]⟩, brow HB.out (aZC _) _⟩
     ·have t0 : (E != 0) = true := by simpa using hE0
      have HNO3 : Hid (¬ decOk true true b) := fun h => hE0 (by rw [HEE.out]; exact h.2.2.2)
      have HE0 := zH hE0; clear hE0;go_wp2_with (first
       | (refine aZH rfl 26 _ rfl g rfl 26 _ (0, 0) _ HK15 hu.out rfl PS ?_)
       | (go_at_call 48; refine (HCK _ _ _ _ _).mono ?_; rintro e7 v ⟨rfl, hb7⟩; replace HK15 := zH (HK15.below hb7 HK15.lt); replace HK6 := zH (HK6.below hb7 HK6.lt); replace HB := zH (bcall HB hb7); clear hb7)
       | (refine aZE rfl 26 _ _ rfl w.heap.size _ rfl rfl 26 zcs HK6 ZS rfl ZO ?_))
      exact aZB (results_cell_tmp rfl _ _ w.heap.size 26 zcs _ rfl (Blk.row HK6 _) Tryz.underlying26 rfl ZS) rfl ⟨zeroPar, E, rfl, .inr ⟨HE0.out, HNO3.out⟩, brow HB (aZC _) _⟩
end Go.Proofs.YtboihcigcfmhhaaGreat

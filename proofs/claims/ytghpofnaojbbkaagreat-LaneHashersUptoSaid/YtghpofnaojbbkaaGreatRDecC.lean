/-
  Decode, by the reference. Contracts alone; no statement is claimed here.
-/
import Derived.Test.YtghpofnaojbbkaaGreatRDecB
namespace Go.Proofs.YtghpofnaojbbkaaGreat
open Go.RowKit
attribute [local go_sem] pureUpon Ords.of

theorem OS.litN {α : Type} {cd : Cod α} (w : World) (l : List α) (cs : Array Value) (n : Nat) (hcs : cs = (l.map cd.enc).toArray) (hn : l.length = n) (hm : n ≤ maxLen) : OS cd (w.alloc (.cells cs cd.e)) w.heap.size (some ⟨w.heap.size, 0, none⟩) n l := by
 subst hcs; subst hn
 exact ⟨by simp, .inr ⟨w.heap.size, l.length, _, rfl, Nat.le_refl _, heap_alloc_new w _, Nat.le_refl _, hm, by simp, by rw [Nat.mul_one]; exact List.take_of_length_le (by simp)⟩⟩
theorem OS.cellN {w : World} {base g c k x : Nat} {L : List Nat} (h : OS cN w base (some ⟨g, 0, none⟩) c L) (hx : L[k]? = some x) : w.cell? ⟨g, k, none⟩ = some (.int .u64 x) := by
 obtain ⟨g', y, e, -, -, e2, h3, -⟩ := h.at_ (List.getElem?_eq_some_iff.1 hx).1
 injection e with e; injection e with e
 subst e
 rw [hx] at e2
 rw [Option.some.inj e2]
 exact h3
theorem OS.cellF {w : World} {base g c k x : Nat} {L : List Nat} (h : OS cN w base (some ⟨g, 0, none⟩) c L) (hx : L[k]? = some x) : w.frozen? ⟨g, k, none⟩ = false := by
 obtain ⟨g', y, e, -, -, e2, -, h3⟩ := h.at_ (List.getElem?_eq_some_iff.1 hx).1
 injection e with e; injection e with e
 subst e
 exact h3
def dvAt (big ext : Bool) (b : List UInt8) (k : Nat) : Nat := fld b ((rowTab big).getD k (0, 0, 0)).2.1 (if k = 5 ∧ ext = true then 4 else ((rowTab big).getD k (0, 0, 0)).2.2)
def dvL (big ext : Bool) (b : List UInt8) : List Nat := 0 :: (List.range 9).map (dvAt big ext b)
theorem dvL_next (big ext : Bool) (b : List UInt8) (k : Nat) (hk : k < 9) : (dvL big ext b).take (k + 1 + 1) = (dvL big ext b).take (k + 1) ++ [dvAt big ext b k] := by
 have h : (dvL big ext b)[k + 1]? = some (dvAt big ext b k) := by
  show ((List.range 9).map (dvAt big ext b))[k]? = _
  rw [List.getElem?_map, List.getElem?_range hk]; rfl
 rw [List.take_add_one, h]
 rfl
theorem dvL_len (big ext : Bool) (b : List UInt8) : (dvL big ext b).length = 10 := by simp [dvL]
def RDecAns (big ext : Bool) (b : List UInt8) (w : World) (r : Ending) (w' : World) : Prop :=
  (decOk big ext b ∧ ∃ (A1 : Option Addr) (t1 c1 : Nat) (A2 : Option Addr) (t2 c2 : Nat), r = .returned (.tuple #[(decPr big ext b ⟨A1, t1, c1⟩ ⟨A2, t2, c2⟩).v, .int .i64 0]) ∧ Trim ((b.drop (bOf big / 2)).take (bOf big / 4)) t1 ∧ Trim ((b.drop (3 * (bOf big / 4))).take (bOf big / 4)) t2 ∧
    OS cB w' w.heap.size A1 c1 (((b.drop (bOf big / 2)).take (bOf big / 4)).take t1) ∧ OS cB w' w.heap.size A2 c2 (((b.drop (3 * (bOf big / 4))).take (bOf big / 4)).take t2) ∧ Below w.heap.size w w') ∨
  (¬ decOk big ext b ∧ ∃ e : Int, r = .returned (.tuple #[zeroPar.v, .int .i64 e]) ∧ e ≠ 0 ∧ Below w.heap.size w w')
theorem rdecLen_any (big ext : Bool) (A : Option Addr) (n c : Nat) (w : World) (hn : n ≠ bOf big) :
  Calls Tryz.prog 49 #[.int .i64 (kOf big), .slice A n c, .bool ext] w fun r w' => ∃ e : Int, r = .returned (.tuple #[zeroPar.v, .int .i64 e]) ∧ e ≠ 0 ∧ Below w.heap.size w w' := by
 have hr := fun W => refSized_any big A n c W
 obtain ⟨e, he⟩ : ∃ e : Int, e = if n < bOf big then 3 else if bOf big < n then 2 else 0 := ⟨_, rfl⟩
 have he0 : e ≠ 0 := by
  rw [he]
  split
  ·decide
  ·split
   ·decide
   ·omega
 rw [← he] at hr
 have t0 : (e != 0) = true := by simpa using he0
 have hzs := zeroPar.size
 have hzo := zeroPar.ones
 unfold zeroPar Pr.v Pr.cs Sl.v Sl.nil at *
 dsimp only at *
 have HR := Lib.hid hr; have HE := Lib.hid he0; have ZS := Lib.hid hzs; have ZO := Lib.hid hzo
 clear hr he he0 hn hzs hzo
 generalize kOf big = k at *
 go_enter Tryz.func49, Tryz.ntmps49
 go_wp2_with (first
  | (go_at_call 56; refine (HR.out _).mono ?_; rintro e1 w1 ⟨rfl, rfl⟩)
  | (refine wpList_store_row rfl 77 _ _ rfl w.heap.size _ rfl rfl 77 zcs (Blk.new _ _ _) ZS.out rfl ZO.out ?_))
 exact bodyPost_ret (results_cell_tmp rfl _ _ w.heap.size 77 zcs _ rfl (Blk.row (Blk.new _ _ _) _) Tryz.underlying77 rfl ZS.out) rfl ⟨e, rfl, HE.out, brow (bal (b0 _) _) (Nat.le_refl _) _⟩
set_option maxRecDepth 20000 in
set_option maxHeartbeats 8000000 in
theorem rdecBig_any (ext : Bool) (A : Option Addr) (c : Nat) (b : List UInt8) (w : World) (hb : b.length = 64) (hc : 64 ≤ c) (hr : RS cB w w.heap.size A b) :
  Calls Tryz.prog 49 #[.int .i64 1, .slice A 64 c, .bool ext] w (RDecAns true ext b w) := by
 obtain ⟨ad, rfl, hab⟩ := hr.some_of (by omega)
 have hrt := fun W => refSized_any true (some ad) 64 c W
 change ∀ W, Calls _ _ #[.int .i64 1, .slice (some ad) 64 c] W fun e w' => e = .returned (.int .i64 0) ∧ W = w' at hrt
 have hmo := fun W => refMost_any true W
 change ∀ W, Calls _ _ #[.int .i64 1] W fun e w' => e = .returned (.int .i64 64) ∧ W = w' at hmo
 have hpl := fun f k hf hk => refFieldAt_any true f k hf hk
 have hrd := fun (at_ sz : Nat) (W : World) hr h1 h2 => refRead_any (some ad) c 64 at_ sz W.heap.size b W hb (by decide) hr h1 h2
 obtain ⟨d0, e0⟩ : ∃ d, d = fld b 0 1 := ⟨_, rfl⟩
 obtain ⟨d1, e1⟩ : ∃ d, d = fld b 1 1 := ⟨_, rfl⟩
 obtain ⟨d2, e2⟩ : ∃ d, d = fld b 2 1 := ⟨_, rfl⟩
 obtain ⟨d3, e3⟩ : ∃ d, d = fld b 3 1 := ⟨_, rfl⟩
 obtain ⟨d4, e4⟩ : ∃ d, d = fld b 4 4 := ⟨_, rfl⟩
 obtain ⟨d7, e7⟩ : ∃ d, d = fld b 16 1 := ⟨_, rfl⟩
 obtain ⟨d8, e8⟩ : ∃ d, d = fld b 17 1 := ⟨_, rfl⟩
 obtain ⟨o6, eo6⟩ : ∃ d, d = fld b 8 (if ext then 4 else 8) := ⟨_, rfl⟩
 obtain ⟨x4, ex⟩ : ∃ d, d = fld b 12 4 := ⟨_, rfl⟩
 have L0 := Lib.hid (show d0 < 256 from by rw [e0]; exact fld_lt b _ 1)
 have L1 := Lib.hid (show d1 < 256 from by rw [e1]; exact fld_lt b _ 1)
 have L2 := Lib.hid (show d2 < 256 from by rw [e2]; exact fld_lt b _ 1)
 have L3 := Lib.hid (show d3 < 256 from by rw [e3]; exact fld_lt b _ 1)
 have L7 := Lib.hid (show d7 < 256 from by rw [e7]; exact fld_lt b _ 1)
 have L8 := Lib.hid (show d8 < 256 from by rw [e8]; exact fld_lt b _ 1)
 have W4 := Lib.hid (show IntKind.u32.wrap (d4 : Int) = (d4 : Int) from by have h := fld_lt b 4 4; rw [← e4] at h; simp [IntKind.wrap, IntKind.bits, IntKind.signed]; omega)
 have HXW := Lib.hid (show IntKind.u32.wrap (x4 : Int) = (x4 : Int) from by have h := fld_lt b 12 4; rw [← ex] at h; simp [IntKind.wrap, IntKind.bits, IntKind.signed]; omega)
 have hDV : dvL true ext b = [0, d0, d1, d2, d3, d4, o6, x4, d7, d8] := by
  rw [e0, e1, e2, e3, e4, e7, e8, eo6, ex]
  cases ext <;> kernel_rfl
 have hPR : ∀ s q, decPr true ext b s q = ⟨d0, d1, d2, d3, d4, (o6 : Nat), if ext then (x4 : Int) else 0, d7, d8, s, q⟩ := fun s q => by
  rw [e0, e1, e2, e3, e4, e7, e8, eo6, ex]
  cases ext <;> rfl
 have hsl : chk 1 (decPr true ext b ⟨some ⟨ad.block, ad.off + 32, none⟩, 16, c - 32⟩ ⟨some ⟨ad.block, ad.off + 48, none⟩, 16, c - 48⟩) = chk (kOf true) (decPr true ext b (sl4 true) (sl4 true)) := chk_sl true _ _ _ _ _ _ _ _ _ _ _ (by show 4 * 16 ≤ 64; decide) (by show 4 * 16 ≤ 64; decide)
 have hnn := fun (W : World) hc => refNormalNo_any 1 (decPr true ext b ⟨some ⟨ad.block, ad.off + 32, none⟩, 16, c - 32⟩ ⟨some ⟨ad.block, ad.off + 48, none⟩, 16, c - 48⟩) W hc
 have hny := fun (W : World) hc (hr : RS cB W W.heap.size (some ad) b) => refNormal_any 1 (decPr true ext b ⟨some ⟨ad.block, ad.off + 32, none⟩, 16, c - 32⟩ ⟨some ⟨ad.block, ad.off + 48, none⟩, 16, c - 48⟩) ((b.drop 32).take 16) ((b.drop 48).take 16) W hc (dec_mid hb (by decide)) (dec_mid hb (by decide)) (by show 16 ≤ 1024; decide) (by show 16 ≤ 1024; decide) (hr.mid (by omega) (by decide) _) (hr.mid (by omega) (by decide) _)
 rw [hsl] at hnn hny
 obtain ⟨E, hE⟩ : ∃ E, E = chk (kOf true) (decPr true ext b (sl4 true) (sl4 true)) := ⟨_, rfl⟩
 rw [← hE] at hnn hny
 simp only [hPR] at hnn hny
 unfold Pr.slk at hny
 unfold Pr.v Pr.cs Sl.v at hnn hny
 unfold zeroPar Sl.nil at hnn
 dsimp only at hnn hny
 have hzs := zeroPar.size
 have hzo := zeroPar.ones
 have HRT := Lib.hid hrt; have HMO := Lib.hid hmo; have HPL := Lib.hid hpl; have HRD := Lib.hid hrd; have HRB := Lib.hid hr; have HLB := Lib.hid hb; have ZS := Lib.hid hzs; have ZO := Lib.hid hzo; have HNZ := Lib.hid hnn; have HNY := Lib.hid hny; have HEE := Lib.hid hE; have EX := Lib.hid ex; have HDV := Lib.hid hDV; have HPR := Lib.hid hPR
 clear hrt hmo hpl hrd hr hb hzs hzo hnn hny hE e0 e1 e2 e3 e4 e7 e8 eo6 ex hDV hPR hsl
 unfold RDecAns
 go_enter Tryz.func49, Tryz.ntmps49
 go_wp2_with (go_at_call 56; refine (HRT.out _).mono ?_; rintro e1 w1 ⟨rfl, rfl⟩)
 go_loop [9] (fun i => ∃ k f : Nat, k ≤ 14 ∧ f = 18 + k ∧ i = .int .i64 f ∧ ∀ j, j < k → b[18 + j]? = some 0) (fun i => 32 - (intOf i).toNat)
 case atStart => exact ⟨0, 18, by omega, rfl, rfl, fun j h => absurd h (Nat.not_lt_zero _)⟩
 case round =>
  obtain ⟨k, f, hk, hf, rfl, hz⟩ := hrel
  have HZF := Lib.hid hz; clear hz
  by_cases hlt : k < 14
  ·obtain ⟨ad', x, ea, -, ex, gx⟩ := (HRB.out.alloc (Nat.le_refl _) (.cells #[Value.int .i64 0, .int .i64 0, .int .i64 0, .int .i64 0, .int .u32 0, .int .u64 0, .int .u32 0, .int .i64 0, .int .i64 0, .slice none 0 0, .slice none 0 0] 77)).at_ (k := f) (by rw [HLB.out]; omega)
   injection ea with ea
   rw [← ea] at gx
   clear ea ad'
   change (w.alloc _).cell? (ad.add f) = some (.int .u8 (byt x)) at gx
   rw [hf] at ex
   have EXX := Lib.hid ex; clear ex
   have hf32 : f < 32 := by omega
   have hfi : (f : Int) < 64 := by omega
   have HF := Lib.hid hf; have HLT := Lib.hid hlt; clear hf hlt hk
   by_cases hx : x = 0
   ·subst hx
    go_wp2
    case roundEnd =>
     exact ⟨⟨k + 1, f + 1, HLT.out, by have := HF.out; omega, by go_num, fun j hj => by
      by_cases h : j < k
      ·exact HZF.out j h
      ·obtain rfl : j = k := by omega
       exact EXX.out⟩, by simp [intOf]; omega⟩
   ·have tb : (byt x != 0) = true := by
     rw [bne_iff_ne]
     intro h
     exact hx (UInt8.toNat_inj.1 (Int.ofNat.inj h))
    have HNO := Lib.hid (show ¬ decOk true ext b from fun h => hx (by
     have h1 := h.2.1 rfl (18 + k) (by omega) (by have := HLT.out; omega)
     rw [EXX.out] at h1
     exact Option.some.inj h1))
    clear hx
    generalize byt x = y at *
    go_wp2_with (refine wpList_store_row rfl 77 _ _ rfl w.heap.size _ rfl rfl 77 zcs (Blk.new _ _ _) ZS.out rfl ZO.out ?_)
    exact bodyPost_ret (results_cell_tmp rfl _ _ w.heap.size 77 zcs _ rfl (Blk.row (Blk.new _ _ _) _) Tryz.underlying77 rfl ZS.out) rfl (Or.inr ⟨HNO.out, 4, rfl, (by decide), brow (bal (b0 _) _) (Nat.le_refl _) _⟩)
  ·obtain rfl : k = 14 := by omega
   obtain rfl : f = 32 := hf
   have HFIL : Hid (∀ i, 18 ≤ i → i < 32 → b[i]? = some 0) := fun i h1 h2 => by
    have h3 := HZF.out (i - 18) (by omega)
    rwa [show 18 + (i - 18) = i by omega] at h3
   clear HZF hk hlt
   rw [show ((32 : Nat) : Int) = 32 from rfl]
   go_wp2_with fail
   go_loopw [10, 11, 12, 13] (fun v f _ _ wr => ∃ (k fN : Nat) (A : Option Addr) (c' : Nat), k ≤ 9 ∧ fN = k + 1 ∧ f = .int .i64 fN ∧ v = .slice A (k + 1) c' ∧ OS cN wr w.heap.size A c' ((dvL true ext b).take (k + 1)) ∧ Blk wr w.heap.size 77 zcs ∧ Below w.heap.size w wr) (fun _ f _ _ _ => 10 - (intOf f).toNat)
   case atStart => exact ⟨0, 1, _, 1, Nat.zero_le _, rfl, rfl, rfl, (by have h := OS.litN (cd := cN) (w.alloc (.cells zcs 77)) [0] #[.int .u64 0] 1 rfl rfl (by decide); rw [show (w.alloc (.cells zcs 77)).heap.size = w.heap.size + 1 by simp] at h; exact h.mono (Nat.le_succ _)), (Blk.new w 77 zcs).alloc _, bal (bal (b0 w) _) _⟩
   case round =>
    obtain ⟨k, fN, A, c', hk, hfk, rfl, rfl, hos, hk6, hbw⟩ := hrel
    have HO := Lib.hid hos; have HK6 := Lib.hid hk6; have HBW := Lib.hid hbw; clear hos hk6 hbw
    by_cases hlt : k < 9
    ·obtain ⟨at_, size, hrow, hfit, hs8, hpc⟩ := HPL.out fN k hfk hlt
     have HPC := Lib.hid hpc; clear hpc
     have HLT := Lib.hid hlt
     have hfd : decide ((fN : Int) ≤ 9) = true := by simp; omega
     have hf9 : fN ≤ 9 := by omega
     by_cases h5 : k = 5
     ·have h70 : ((fN : Int) == 6) = true := by simp; omega
      cases ext
      ·have HFK := Lib.hid hfk; have HSZ := Lib.hid hs8; have HFT := Lib.hid hfit; have HDA := Lib.hid (show fld b at_ size = dvAt true false b k from (by unfold dvAt; rw [hrow, if_neg (fun h => by cases h.2)]))
       have hz1 := Lib.hid (show (k + 1 + 1) * 8 ≤ 140737488355328 by omega); have hz2 := Lib.hid (show k + 1 + 1 ≤ 140737488355328 by omega)
       have hlen := Lib.hid (show ((dvL true false b).take (k + 1)).length = k + 1 by rw [List.length_take, dvL_len]; omega)
       have hrw := Lib.hid ((HRB.out.below HBW.out).more HBW.out.size)
       clear hfk hrow hfit hs8 hk hlt h5
       go_wp2_with (first
        | (go_at_call 47; refine (HPC.out _).mono ?_; rintro e3 w3 ⟨rfl, rfl⟩)
        | (go_at_call 57; refine (HRD.out at_ size _ hrw.out HFT.out HSZ.out).mono ?_; rintro e4 w4 ⟨rfl, rfl⟩)
        | (at_builtin; refine wpList_appS _ cN_ok rfl (.tmp 53) (.tmp 58) rfl (HO.out.alloc _) rfl hlen.out (RS.one' (cd := cN) (x := fld b at_ size) (cnew _ _ _ rfl)) rfl rfl hz1.out hz2.out (Nat.le_trans HBW.out.size (by simp)) ?_; intro A3 c3 w5 hown3 hgrow hat; have hw5 := bapp (bal HBW.out _) (HO.out.alloc _) hgrow; have HK7 := Lib.hid ((HK6.out.alloc _).grown hgrow (HO.out.ne_row HK6.out (by show 41 ≠ 77; decide))); have HO5 := Lib.hid hown3; have HW5 := Lib.hid hw5; clear hown3 hgrow hat hw5))
       case roundEnd => exact ⟨⟨k + 1, fN + 1, A3, c3, HLT.out, by have := HFK.out; omega, by go_num, rfl, by rw [dvL_next _ _ _ k HLT.out]; have h := HO5.out; rw [HDA.out] at h; exact h, HK7.out, HW5.out⟩, by have := HFK.out; have := HLT.out; simp [intOf]; omega⟩
      ·have HFK := Lib.hid hfk; have HSZ := Lib.hid (show 4 ≤ 8 by decide); have HFT := Lib.hid (show at_ + 4 ≤ 64 by have h := hrow; rw [h5] at h; have h2 := congrArg (fun x : Nat × Nat × Nat => x.2.1) h; change 8 = at_ at h2; omega); have HDA := Lib.hid (show fld b at_ 4 = dvAt true true b k from (by unfold dvAt; rw [hrow, if_pos ⟨h5, rfl⟩]))
       have hz1 := Lib.hid (show (k + 1 + 1) * 8 ≤ 140737488355328 by omega); have hz2 := Lib.hid (show k + 1 + 1 ≤ 140737488355328 by omega)
       have hlen := Lib.hid (show ((dvL true true b).take (k + 1)).length = k + 1 by rw [List.length_take, dvL_len]; omega)
       have hrw := Lib.hid ((HRB.out.below HBW.out).more HBW.out.size)
       clear hfk hrow hfit hs8 hk hlt h5
       go_wp2_with (first
        | (go_at_call 47; refine (HPC.out _).mono ?_; rintro e3 w3 ⟨rfl, rfl⟩)
        | (go_at_call 57; refine (HRD.out at_ 4 _ hrw.out HFT.out HSZ.out).mono ?_; rintro e4 w4 ⟨rfl, rfl⟩)
        | (at_builtin; refine wpList_appS _ cN_ok rfl (.tmp 53) (.tmp 58) rfl (HO.out.alloc _) rfl hlen.out (RS.one' (cd := cN) (x := fld b at_ 4) (cnew _ _ _ rfl)) rfl rfl hz1.out hz2.out (Nat.le_trans HBW.out.size (by simp)) ?_; intro A3 c3 w5 hown3 hgrow hat; have hw5 := bapp (bal HBW.out _) (HO.out.alloc _) hgrow; have HK7 := Lib.hid ((HK6.out.alloc _).grown hgrow (HO.out.ne_row HK6.out (by show 41 ≠ 77; decide))); have HO5 := Lib.hid hown3; have HW5 := Lib.hid hw5; clear hown3 hgrow hat hw5))
       case roundEnd => exact ⟨⟨k + 1, fN + 1, A3, c3, HLT.out, by have := HFK.out; omega, by go_num, rfl, by rw [dvL_next _ _ _ k HLT.out]; have h := HO5.out; rw [HDA.out] at h; exact h, HK7.out, HW5.out⟩, by have := HFK.out; have := HLT.out; simp [intOf]; omega⟩
     ·have h70 : ((fN : Int) == 6) = false := by simp; omega
      have HFK := Lib.hid hfk; have HSZ := Lib.hid hs8; have HFT := Lib.hid hfit; have HDA := Lib.hid (show fld b at_ size = dvAt true ext b k from (by unfold dvAt; rw [hrow, if_neg (fun h => h5 h.1)]))
      have hz1 := Lib.hid (show (k + 1 + 1) * 8 ≤ 140737488355328 by omega); have hz2 := Lib.hid (show k + 1 + 1 ≤ 140737488355328 by omega)
      have hlen := Lib.hid (show ((dvL true ext b).take (k + 1)).length = k + 1 by rw [List.length_take, dvL_len]; omega)
      have hrw := Lib.hid ((HRB.out.below HBW.out).more HBW.out.size)
      clear hfk hrow hfit hs8 hk hlt h5
      go_wp2_with (first
       | (go_at_call 47; refine (HPC.out _).mono ?_; rintro e3 w3 ⟨rfl, rfl⟩)
       | (go_at_call 57; refine (HRD.out at_ size _ hrw.out HFT.out HSZ.out).mono ?_; rintro e4 w4 ⟨rfl, rfl⟩)
       | (at_builtin; refine wpList_appS _ cN_ok rfl (.tmp 53) (.tmp 58) rfl (HO.out.alloc _) rfl hlen.out (RS.one' (cd := cN) (x := fld b at_ size) (cnew _ _ _ rfl)) rfl rfl hz1.out hz2.out (Nat.le_trans HBW.out.size (by simp)) ?_; intro A3 c3 w5 hown3 hgrow hat; have hw5 := bapp (bal HBW.out _) (HO.out.alloc _) hgrow; have HK7 := Lib.hid ((HK6.out.alloc _).grown hgrow (HO.out.ne_row HK6.out (by show 41 ≠ 77; decide))); have HO5 := Lib.hid hown3; have HW5 := Lib.hid hw5; clear hown3 hgrow hat hw5))
      case roundEnd => exact ⟨⟨k + 1, fN + 1, A3, c3, HLT.out, by have := HFK.out; omega, by go_num, rfl, by rw [dvL_next _ _ _ k HLT.out]; have h := HO5.out; rw [HDA.out] at h; exact h, HK7.out, HW5.out⟩, by have := HFK.out; have := HLT.out; simp [intOf]; omega⟩
    ·obtain rfl : k = 9 := by omega
     obtain rfl : fN = 10 := hfk
     rw [show ((10 : Nat) : Int) = 10 from rfl]
     have hv : OS cN wr w.heap.size A c' [0, d0, d1, d2, d3, d4, o6, x4, d7, d8] := by
      rw [← HDV.out]
      have h := HO.out
      rwa [List.take_of_length_le (by rw [dvL_len]; exact Nat.le_refl _)] at h
     obtain ⟨gv, rfl, hg1, hg2⟩ : ∃ gv, A = some ⟨gv, 0, none⟩ ∧ w.heap.size ≤ gv ∧ gv < wr.heap.size := by
      rcases hv.form with ⟨-, -, h⟩ | ⟨gv, h1, h2, h3, -⟩
      ·cases h
      ·exact ⟨gv, h1, h2, h3⟩
     have HNE : Hid (w.heap.size ≠ gv) := fun h => hv.ne_blk HK6.out (by show 41 ≠ 77; decide) ⟨gv, 0, none⟩ rfl h.symm
     have HG1 := Lib.hid hg1
     have HV := Lib.hid hv
     have HB := HBW
     clear HO hv hg1 hlt hk HPL HRD HBW
     cases ext
     ·have c7 := HV.out.cellN (k := 7) rfl
      have f7 := HV.out.cellF (k := 7) rfl
      go_upto_region 21 with fail
      have hv2 : OS cN (wr.setCell ⟨gv, 7, none⟩ (.int .u64 0)) w.heap.size (some ⟨gv, 0, none⟩) c' [0, d0, d1, d2, d3, d4, o6, 0, d7, d8] := HV.out.set 7 0
      clear HV c7 f7 hg2
      have HV := Lib.hid hv2
      replace HK6 := Lib.hid (HK6.out.far (p := ⟨gv, 7, none⟩) HNE.out (.int .u64 0))
      replace HB := Lib.hid (bput HB.out (p := ⟨gv, 7, none⟩) HG1.out (.int .u64 0))
      clear hv2
      generalize wr.setCell ⟨gv, 7, none⟩ (.int .u64 0) = v at *
      simp only [Bool.false_eq_true, if_false] at HNZ HNY HPR
      go_upto_region 22 with (go_at_call 35; refine (HMO.out _).mono ?_; rintro e1 w1 ⟨rfl, rfl⟩)
      have c1 := HV.out.cellN (k := 1) rfl; have c2 := HV.out.cellN (k := 2) rfl; have c3 := HV.out.cellN (k := 3) rfl; have c4 := HV.out.cellN (k := 4) rfl; have c5 := HV.out.cellN (k := 5) rfl; have c6 := HV.out.cellN (k := 6) rfl; have c7 := HV.out.cellN (k := 7) rfl; have c8 := HV.out.cellN (k := 8) rfl; have c9 := HV.out.cellN (k := 9) rfl
      have hgl : gv < v.heap.size := (HV.out.block_lt _ rfl).2
      have l0 := L0.out; have l1 := L1.out; have l2 := L2.out; have l3 := L3.out; have l7 := L7.out; have l8 := L8.out
      have w4 : IntKind.u32.wrap (d4 : Int) = (d4 : Int) := W4.out
      have wx : IntKind.u32.wrap (x4 : Int) = (x4 : Int) := HXW.out
      have s1 : IntKind.i64.wrap 32 = 32 := by kernel_rfl
      have s2 : IntKind.i64.wrap 48 = 48 := by kernel_rfl
      have s3 : (32 : Int).toNat = 32 := rfl
      have s4 : (48 : Int).toNat = 48 := rfl
      have s5 : (64 : Int).toNat = 64 := rfl
      have s6 : (c = 32) = False := by simp only [eq_iff_iff, iff_false]; omega
      have s7 : (c = 48) = False := by simp only [eq_iff_iff, iff_false]; omega
      have s8 : (32 : Int) ≤ (c : Int) := by omega
      have s9 : (48 : Int) ≤ (c : Int) := by omega
      have s0 : (64 : Int) ≤ (c : Int) := by omega
      have sn : IntKind.i64.wrap 64 = 64 := by kernel_rfl
      have sq : IntKind.i64.wrap 16 = 16 := by kernel_rfl
      have a1 : ad.add 32 = ⟨ad.block, ad.off + 32, none⟩ := by unfold Addr.add; rw [if_neg (by decide)]
      have a2 : ad.add 48 = ⟨ad.block, ad.off + 48, none⟩ := by unfold Addr.add; rw [if_neg (by decide)]
      have PS : Hid ((Tryz.prog.info? 77).map (·.size) = some (#[Value.int .i64 d0, .int .i64 d1, .int .i64 d2, .int .i64 d3, .int .u32 d4, .int .u64 (o6), .int .u32 (0), .int .i64 d7, .int .i64 d8, .slice (some ⟨ad.block, ad.off + 32, none⟩) 16 (c - 32), .slice (some ⟨ad.block, ad.off + 48, none⟩) 16 (c - 48)]).size) := Pr.size (⟨d0, d1, d2, d3, d4, o6, 0, d7, d8, ⟨some ⟨ad.block, ad.off + 32, none⟩, 16, c - 32⟩, ⟨some ⟨ad.block, ad.off + 48, none⟩, 16, c - 48⟩⟩ : Pr)
      have PO : Hid ((#[Value.int .i64 d0, .int .i64 d1, .int .i64 d2, .int .i64 d3, .int .u32 d4, .int .u64 (o6), .int .u32 (0), .int .i64 d7, .int .i64 d8, .slice (some ⟨ad.block, ad.off + 32, none⟩) 16 (c - 32), .slice (some ⟨ad.block, ad.off + 48, none⟩) 16 (c - 48)]).all (·.oneCell') = true) := Pr.ones (⟨d0, d1, d2, d3, d4, o6, 0, d7, d8, ⟨some ⟨ad.block, ad.off + 32, none⟩, 16, c - 32⟩, ⟨some ⟨ad.block, ad.off + 48, none⟩, 16, c - 48⟩⟩ : Pr)
      have hu := Lib.hid Tryz.underlying77
      have HS := Lib.hid (b0 v)
      refine wp_region_ords (fun w' => Below v.heap.size v w') (fun _ n h => bdr h n) (Ords.of [(0, 0), (0, 1), (0, 2), (0, 3), (0, 4), (0, 5), (0, 6), (0, 7), (0, 8), (0, 9), (0, 10), (0, 11), (0, 12), (0, 13), (0, 14), (0, 15), (0, 16), (0, 17), (0, 18), (0, 19), (0, 20), (0, 21), (0, 22), (0, 23), (0, 24), (0, 25), (0, 26), (0, 27), (0, 28), (0, 29), (0, 30), (0, 31), (0, 32), (0, 33), (0, 34), (0, 35), (0, 36), (0, 37), (0, 38), (0, 39), (0, 40), (0, 41), (0, 42), (0, 43), (0, 44), (0, 45), (0, 46), (0, 47), (2, 48), (2, 49)] .fin) (by kernel_rfl) rfl (by kernel_rfl) (by kernel_rfl) (fun c a d v w h => by cases d <;> exact h) (b0 v) ?_
      iterate 6 (refine ords_pure rfl (fun K hK => ?_); go_simp; refine hK _ ?_; clear hK K; refine ords_pure rfl (fun K hK => ?_); go_simp; refine hK _ ?_; clear hK K; refine ords_heldK rfl (fun K K2 hK hK2 => ?_); go_simp; refine ⟨hK2 _ (fun w9 hS => ?_), hK _ ?_⟩; (clear hK hK2 K K2; have q1 := (hS.cell (p := ⟨gv, 1, none⟩) hgl).trans c1; have q2 := (hS.cell (p := ⟨gv, 2, none⟩) hgl).trans c2; have q3 := (hS.cell (p := ⟨gv, 3, none⟩) hgl).trans c3; have q4 := (hS.cell (p := ⟨gv, 4, none⟩) hgl).trans c4; have q5 := (hS.cell (p := ⟨gv, 5, none⟩) hgl).trans c5; have q6 := (hS.cell (p := ⟨gv, 6, none⟩) hgl).trans c6; have q7 := (hS.cell (p := ⟨gv, 7, none⟩) hgl).trans c7; have q8 := (hS.cell (p := ⟨gv, 8, none⟩) hgl).trans c8; have q9 := (hS.cell (p := ⟨gv, 9, none⟩) hgl).trans c9; clear hS; go_simp); (clear hK hK2 K K2); refine ords_pure rfl (fun K hK => ?_); go_simp; refine hK _ ?_; clear hK K)
      iterate 3 (refine ords_pure rfl (fun K hK => ?_); go_simp; refine hK _ ?_; clear hK K; refine ords_heldK rfl (fun K K2 hK hK2 => ?_); go_simp; refine ⟨hK2 _ (fun w9 hS => ?_), hK _ ?_⟩; (clear hK hK2 K K2; have q1 := (hS.cell (p := ⟨gv, 1, none⟩) hgl).trans c1; have q2 := (hS.cell (p := ⟨gv, 2, none⟩) hgl).trans c2; have q3 := (hS.cell (p := ⟨gv, 3, none⟩) hgl).trans c3; have q4 := (hS.cell (p := ⟨gv, 4, none⟩) hgl).trans c4; have q5 := (hS.cell (p := ⟨gv, 5, none⟩) hgl).trans c5; have q6 := (hS.cell (p := ⟨gv, 6, none⟩) hgl).trans c6; have q7 := (hS.cell (p := ⟨gv, 7, none⟩) hgl).trans c7; have q8 := (hS.cell (p := ⟨gv, 8, none⟩) hgl).trans c8; have q9 := (hS.cell (p := ⟨gv, 9, none⟩) hgl).trans c9; clear hS; go_simp); (clear hK hK2 K K2); refine ords_pure rfl (fun K hK => ?_); go_simp; refine hK _ ?_; clear hK K; refine ords_pure rfl (fun K hK => ?_); go_simp; refine hK _ ?_; clear hK K)
      iterate 12 (refine ords_pure rfl (fun K hK => ?_); go_simp; refine hK _ ?_; clear hK K)
      refine ords_loud rfl (fun n1 => ?_)
      replace HS := Lib.hid (bdr HS.out n1)
      (try replace HK15 := Lib.hid (HK15.out.drewN n1))
      generalize v.drewN n1 = v at *
      go_wp2_with fail
      have hz : zcs = #[.int .i64 0, .int .i64 0, .int .i64 0, .int .i64 0, .int .u32 0, .int .u64 0, .int .u32 0, .int .i64 0, .int .i64 0, .slice none 0 0, .slice none 0 0] := rfl
      rw [← hz]
      clear hz
      have HK15 := Lib.hid (Blk.new v 77 zcs)
      obtain ⟨g, hg⟩ : ∃ g, g = v.heap.size := ⟨_, rfl⟩
      have HGL := Lib.hid (show _ ≤ g from Nat.le_trans HS.out.size (Nat.le_of_eq hg.symm))
      have HNE6 : Hid (w.heap.size ≠ g) := Nat.ne_of_lt (Nat.lt_of_lt_of_le HK6.out.lt HGL.out)
      rw [← hg] at HK15 ⊢
      clear hg
      replace HS := Lib.hid (bal HS.out (.cells zcs 77))
      generalize v.alloc (.cells zcs 77) = v at *
      refine ⟨HS.out, ?_⟩
      refine ords_loud rfl (fun n2 => ?_)
      replace HS := Lib.hid (bdr HS.out n2)
      (try replace HK15 := Lib.hid (HK15.out.drewN n2))
      generalize v.drewN n2 = v at *
      go_wp2_with (refine wpList_store_row rfl 77 _ _ rfl g _ rfl rfl 77 zcs HK15.out PS.out rfl PO.out ?_)
      replace HK15 := Lib.hid (HK15.out.row #[Value.int .i64 d0, .int .i64 d1, .int .i64 d2, .int .i64 d3, .int .u32 d4, .int .u64 (o6), .int .u32 (0), .int .i64 d7, .int .i64 d8, .slice (some ⟨ad.block, ad.off + 32, none⟩) 16 (c - 32), .slice (some ⟨ad.block, ad.off + 48, none⟩) 16 (c - 48)])
      replace HS := Lib.hid (brow HS.out HGL.out #[Value.int .i64 d0, .int .i64 d1, .int .i64 d2, .int .i64 d3, .int .u32 d4, .int .u64 (o6), .int .u32 (0), .int .i64 d7, .int .i64 d8, .slice (some ⟨ad.block, ad.off + 32, none⟩) 16 (c - 32), .slice (some ⟨ad.block, ad.off + 48, none⟩) 16 (c - 48)])
      generalize v.setRow g #[Value.int .i64 d0, .int .i64 d1, .int .i64 d2, .int .i64 d3, .int .u32 d4, .int .u64 (o6), .int .u32 (0), .int .i64 d7, .int .i64 d8, .slice (some ⟨ad.block, ad.off + 32, none⟩) 16 (c - 32), .slice (some ⟨ad.block, ad.off + 48, none⟩) 16 (c - 48)] = v at *
      refine ⟨HS.out, ?_⟩
      refine ords_end (fun n3 => ?_)
      replace HS := Lib.hid (bdr HS.out n3)
      (try replace HK15 := Lib.hid (HK15.out.drewN n3))
      generalize v.drewN n3 = v at *
      replace HK6 := Lib.hid (HK6.out.below HS.out HK6.out.lt)
      replace HB := Lib.hid (bcall HB.out HS.out)
      clear HS c1 c2 c3 c4 c5 c6 c7 c8 c9 hgl HV s1 s2 s3 s4 s5 s6 s7 s8 s9 s0 sn sq a1 a2
      by_cases hE0 : E = 0
      ·have HOK : Hid (decOk true false b) := ⟨HLB.out, (fun _ => HFIL.out), (fun h => nomatch h), by rw [← HEE.out]; exact hE0⟩
       have HE0 := Lib.hid hE0; clear hE0
       go_wp2_with (first
        | (refine wpList_load_row rfl 77 _ rfl g rfl 77 _ (0, 0) _ HK15.out hu.out rfl PS.out ?_)
        | (go_at_call 58; refine (HNY.out _ HE0.out ((HRB.out.below HB.out).more HB.out.size)).mono ?_; rintro e8 v ⟨A1, t1, c1, A2, t2, c2, rfl, hT1, hT2, ho1, ho2, hb8⟩; have HT1 := Lib.hid hT1; have HT2 := Lib.hid hT2; have HO1 := Lib.hid (ho1.mono HB.out.size); have HO2 := Lib.hid (ho2.mono HB.out.size); replace HK6 := Lib.hid (HK6.out.below hb8 HK6.out.lt); replace HB := Lib.hid (bcall HB.out hb8); have PS2 : Hid ((Tryz.prog.info? 77).map (·.size) = some (#[Value.int .i64 d0, .int .i64 d1, .int .i64 d2, .int .i64 d3, .int .u32 d4, .int .u64 (o6), .int .u32 (0), .int .i64 d7, .int .i64 d8, .slice A1 t1 c1, .slice A2 t2 c2]).size) := Pr.size (⟨d0, d1, d2, d3, d4, o6, 0, d7, d8, ⟨A1, t1, c1⟩, ⟨A2, t2, c2⟩⟩ : Pr); have PO2 : Hid ((#[Value.int .i64 d0, .int .i64 d1, .int .i64 d2, .int .i64 d3, .int .u32 d4, .int .u64 (o6), .int .u32 (0), .int .i64 d7, .int .i64 d8, .slice A1 t1 c1, .slice A2 t2 c2]).all (·.oneCell') = true) := Pr.ones (⟨d0, d1, d2, d3, d4, o6, 0, d7, d8, ⟨A1, t1, c1⟩, ⟨A2, t2, c2⟩⟩ : Pr); clear hb8 hT1 hT2 ho1 ho2)
        | (refine wpList_store_row rfl 77 _ _ rfl w.heap.size _ rfl rfl 77 zcs HK6.out PS2.out rfl PO2.out ?_))
       refine bodyPost_ret (results_cell_tmp rfl _ _ w.heap.size 77 _ _ rfl (Blk.row HK6.out _) Tryz.underlying77 rfl PS2.out) rfl (Or.inl ⟨HOK.out, A1, t1, c1, A2, t2, c2, by rw [HPR.out]; rfl, HT1.out, HT2.out, ?_, ?_, brow HB.out (Nat.le_refl _) _⟩)
       ·exact HO1.out.of_block (fun a ha => setRow_other v _ _ _ (HO1.out.ne_blk HK6.out (by show 5 ≠ 77; decide) a ha))
       ·exact HO2.out.of_block (fun a ha => setRow_other v _ _ _ (HO2.out.ne_blk HK6.out (by show 5 ≠ 77; decide) a ha))
      ·have HNO3 : Hid (¬ decOk true false b) := fun h => hE0 (by rw [HEE.out]; exact h.2.2.2)
       have HE0 := Lib.hid hE0; clear hE0
       go_wp2_with (first
        | (refine wpList_load_row rfl 77 _ rfl g rfl 77 _ (0, 0) _ HK15.out hu.out rfl PS.out ?_)
        | (go_at_call 58; refine (HNZ.out _ HE0.out).mono ?_; rintro e7 v ⟨rfl, hb7⟩; replace HK6 := Lib.hid (HK6.out.below hb7 HK6.out.lt); replace HB := Lib.hid (bcall HB.out hb7); clear hb7)
        | (refine wpList_store_row rfl 77 _ _ rfl w.heap.size _ rfl rfl 77 zcs HK6.out ZS.out rfl ZO.out ?_))
       exact bodyPost_ret (results_cell_tmp rfl _ _ w.heap.size 77 zcs _ rfl (Blk.row HK6.out _) Tryz.underlying77 rfl ZS.out) rfl (Or.inr ⟨HNO3.out, E, rfl, HE0.out, brow HB.out (Nat.le_refl _) _⟩)
     ·simp only [if_true] at HNZ HNY HPR
      have c7 := HV.out.cellN (k := 7) rfl
      by_cases hx0 : x4 = 0
      ·have t6 : ((x4 : Int) == 0) = true := by rw [hx0]; rfl
       have HNO2 : Hid (¬ decOk true true b) := fun h => h.2.2.1 rfl (by have h1 := EX.out; rw [hx0] at h1; exact h1.symm)
       clear hx0
       go_wp2_with (refine wpList_store_row rfl 77 _ _ rfl w.heap.size _ rfl rfl 77 zcs HK6.out ZS.out rfl ZO.out ?_)
       exact bodyPost_ret (results_cell_tmp rfl _ _ w.heap.size 77 zcs _ rfl (Blk.row HK6.out _) Tryz.underlying77 rfl ZS.out) rfl (Or.inr ⟨HNO2.out, 24, rfl, (by decide), brow HB.out (Nat.le_refl _) _⟩)
      ·have t6 : ((x4 : Int) == 0) = false := by simpa using hx0
       have HX0 := Lib.hid hx0; clear hx0
       go_upto_region 21 with fail
       clear c7 t6 hg2
       generalize hvw : wr = v at *
       clear hvw
       go_upto_region 22 with (go_at_call 35; refine (HMO.out _).mono ?_; rintro e1 w1 ⟨rfl, rfl⟩)
       have c1 := HV.out.cellN (k := 1) rfl; have c2 := HV.out.cellN (k := 2) rfl; have c3 := HV.out.cellN (k := 3) rfl; have c4 := HV.out.cellN (k := 4) rfl; have c5 := HV.out.cellN (k := 5) rfl; have c6 := HV.out.cellN (k := 6) rfl; have c7 := HV.out.cellN (k := 7) rfl; have c8 := HV.out.cellN (k := 8) rfl; have c9 := HV.out.cellN (k := 9) rfl
       have hgl : gv < v.heap.size := (HV.out.block_lt _ rfl).2
       have l0 := L0.out; have l1 := L1.out; have l2 := L2.out; have l3 := L3.out; have l7 := L7.out; have l8 := L8.out
       have w4 : IntKind.u32.wrap (d4 : Int) = (d4 : Int) := W4.out
       have wx : IntKind.u32.wrap (x4 : Int) = (x4 : Int) := HXW.out
       have s1 : IntKind.i64.wrap 32 = 32 := by kernel_rfl
       have s2 : IntKind.i64.wrap 48 = 48 := by kernel_rfl
       have s3 : (32 : Int).toNat = 32 := rfl
       have s4 : (48 : Int).toNat = 48 := rfl
       have s5 : (64 : Int).toNat = 64 := rfl
       have s6 : (c = 32) = False := by simp only [eq_iff_iff, iff_false]; omega
       have s7 : (c = 48) = False := by simp only [eq_iff_iff, iff_false]; omega
       have s8 : (32 : Int) ≤ (c : Int) := by omega
       have s9 : (48 : Int) ≤ (c : Int) := by omega
       have s0 : (64 : Int) ≤ (c : Int) := by omega
       have sn : IntKind.i64.wrap 64 = 64 := by kernel_rfl
       have sq : IntKind.i64.wrap 16 = 16 := by kernel_rfl
       have a1 : ad.add 32 = ⟨ad.block, ad.off + 32, none⟩ := by unfold Addr.add; rw [if_neg (by decide)]
       have a2 : ad.add 48 = ⟨ad.block, ad.off + 48, none⟩ := by unfold Addr.add; rw [if_neg (by decide)]
       have PS : Hid ((Tryz.prog.info? 77).map (·.size) = some (#[Value.int .i64 d0, .int .i64 d1, .int .i64 d2, .int .i64 d3, .int .u32 d4, .int .u64 (o6), .int .u32 (x4), .int .i64 d7, .int .i64 d8, .slice (some ⟨ad.block, ad.off + 32, none⟩) 16 (c - 32), .slice (some ⟨ad.block, ad.off + 48, none⟩) 16 (c - 48)]).size) := Pr.size (⟨d0, d1, d2, d3, d4, o6, x4, d7, d8, ⟨some ⟨ad.block, ad.off + 32, none⟩, 16, c - 32⟩, ⟨some ⟨ad.block, ad.off + 48, none⟩, 16, c - 48⟩⟩ : Pr)
       have PO : Hid ((#[Value.int .i64 d0, .int .i64 d1, .int .i64 d2, .int .i64 d3, .int .u32 d4, .int .u64 (o6), .int .u32 (x4), .int .i64 d7, .int .i64 d8, .slice (some ⟨ad.block, ad.off + 32, none⟩) 16 (c - 32), .slice (some ⟨ad.block, ad.off + 48, none⟩) 16 (c - 48)]).all (·.oneCell') = true) := Pr.ones (⟨d0, d1, d2, d3, d4, o6, x4, d7, d8, ⟨some ⟨ad.block, ad.off + 32, none⟩, 16, c - 32⟩, ⟨some ⟨ad.block, ad.off + 48, none⟩, 16, c - 48⟩⟩ : Pr)
       have hu := Lib.hid Tryz.underlying77
       have HS := Lib.hid (b0 v)
       refine wp_region_ords (fun w' => Below v.heap.size v w') (fun _ n h => bdr h n) (Ords.of [(0, 0), (0, 1), (0, 2), (0, 3), (0, 4), (0, 5), (0, 6), (0, 7), (0, 8), (0, 9), (0, 10), (0, 11), (0, 12), (0, 13), (0, 14), (0, 15), (0, 16), (0, 17), (0, 18), (0, 19), (0, 20), (0, 21), (0, 22), (0, 23), (0, 24), (0, 25), (0, 26), (0, 27), (0, 28), (0, 29), (0, 30), (0, 31), (0, 32), (0, 33), (0, 34), (0, 35), (0, 36), (0, 37), (0, 38), (0, 39), (0, 40), (0, 41), (0, 42), (0, 43), (0, 44), (0, 45), (0, 46), (0, 47), (2, 48), (2, 49)] .fin) (by kernel_rfl) rfl (by kernel_rfl) (by kernel_rfl) (fun c a d v w h => by cases d <;> exact h) (b0 v) ?_
       iterate 6 (refine ords_pure rfl (fun K hK => ?_); go_simp; refine hK _ ?_; clear hK K; refine ords_pure rfl (fun K hK => ?_); go_simp; refine hK _ ?_; clear hK K; refine ords_heldK rfl (fun K K2 hK hK2 => ?_); go_simp; refine ⟨hK2 _ (fun w9 hS => ?_), hK _ ?_⟩; (clear hK hK2 K K2; have q1 := (hS.cell (p := ⟨gv, 1, none⟩) hgl).trans c1; have q2 := (hS.cell (p := ⟨gv, 2, none⟩) hgl).trans c2; have q3 := (hS.cell (p := ⟨gv, 3, none⟩) hgl).trans c3; have q4 := (hS.cell (p := ⟨gv, 4, none⟩) hgl).trans c4; have q5 := (hS.cell (p := ⟨gv, 5, none⟩) hgl).trans c5; have q6 := (hS.cell (p := ⟨gv, 6, none⟩) hgl).trans c6; have q7 := (hS.cell (p := ⟨gv, 7, none⟩) hgl).trans c7; have q8 := (hS.cell (p := ⟨gv, 8, none⟩) hgl).trans c8; have q9 := (hS.cell (p := ⟨gv, 9, none⟩) hgl).trans c9; clear hS; go_simp); (clear hK hK2 K K2); refine ords_pure rfl (fun K hK => ?_); go_simp; refine hK _ ?_; clear hK K)
       iterate 3 (refine ords_pure rfl (fun K hK => ?_); go_simp; refine hK _ ?_; clear hK K; refine ords_heldK rfl (fun K K2 hK hK2 => ?_); go_simp; refine ⟨hK2 _ (fun w9 hS => ?_), hK _ ?_⟩; (clear hK hK2 K K2; have q1 := (hS.cell (p := ⟨gv, 1, none⟩) hgl).trans c1; have q2 := (hS.cell (p := ⟨gv, 2, none⟩) hgl).trans c2; have q3 := (hS.cell (p := ⟨gv, 3, none⟩) hgl).trans c3; have q4 := (hS.cell (p := ⟨gv, 4, none⟩) hgl).trans c4; have q5 := (hS.cell (p := ⟨gv, 5, none⟩) hgl).trans c5; have q6 := (hS.cell (p := ⟨gv, 6, none⟩) hgl).trans c6; have q7 := (hS.cell (p := ⟨gv, 7, none⟩) hgl).trans c7; have q8 := (hS.cell (p := ⟨gv, 8, none⟩) hgl).trans c8; have q9 := (hS.cell (p := ⟨gv, 9, none⟩) hgl).trans c9; clear hS; go_simp); (clear hK hK2 K K2); refine ords_pure rfl (fun K hK => ?_); go_simp; refine hK _ ?_; clear hK K; refine ords_pure rfl (fun K hK => ?_); go_simp; refine hK _ ?_; clear hK K)
       iterate 12 (refine ords_pure rfl (fun K hK => ?_); go_simp; refine hK _ ?_; clear hK K)
       refine ords_loud rfl (fun n1 => ?_)
       replace HS := Lib.hid (bdr HS.out n1)
       (try replace HK15 := Lib.hid (HK15.out.drewN n1))
       generalize v.drewN n1 = v at *
       go_wp2_with fail
       have hz : zcs = #[.int .i64 0, .int .i64 0, .int .i64 0, .int .i64 0, .int .u32 0, .int .u64 0, .int .u32 0, .int .i64 0, .int .i64 0, .slice none 0 0, .slice none 0 0] := rfl
       rw [← hz]
       clear hz
       have HK15 := Lib.hid (Blk.new v 77 zcs)
       obtain ⟨g, hg⟩ : ∃ g, g = v.heap.size := ⟨_, rfl⟩
       have HGL := Lib.hid (show _ ≤ g from Nat.le_trans HS.out.size (Nat.le_of_eq hg.symm))
       have HNE6 : Hid (w.heap.size ≠ g) := Nat.ne_of_lt (Nat.lt_of_lt_of_le HK6.out.lt HGL.out)
       rw [← hg] at HK15 ⊢
       clear hg
       replace HS := Lib.hid (bal HS.out (.cells zcs 77))
       generalize v.alloc (.cells zcs 77) = v at *
       refine ⟨HS.out, ?_⟩
       refine ords_loud rfl (fun n2 => ?_)
       replace HS := Lib.hid (bdr HS.out n2)
       (try replace HK15 := Lib.hid (HK15.out.drewN n2))
       generalize v.drewN n2 = v at *
       go_wp2_with (refine wpList_store_row rfl 77 _ _ rfl g _ rfl rfl 77 zcs HK15.out PS.out rfl PO.out ?_)
       replace HK15 := Lib.hid (HK15.out.row #[Value.int .i64 d0, .int .i64 d1, .int .i64 d2, .int .i64 d3, .int .u32 d4, .int .u64 (o6), .int .u32 (x4), .int .i64 d7, .int .i64 d8, .slice (some ⟨ad.block, ad.off + 32, none⟩) 16 (c - 32), .slice (some ⟨ad.block, ad.off + 48, none⟩) 16 (c - 48)])
       replace HS := Lib.hid (brow HS.out HGL.out #[Value.int .i64 d0, .int .i64 d1, .int .i64 d2, .int .i64 d3, .int .u32 d4, .int .u64 (o6), .int .u32 (x4), .int .i64 d7, .int .i64 d8, .slice (some ⟨ad.block, ad.off + 32, none⟩) 16 (c - 32), .slice (some ⟨ad.block, ad.off + 48, none⟩) 16 (c - 48)])
       generalize v.setRow g #[Value.int .i64 d0, .int .i64 d1, .int .i64 d2, .int .i64 d3, .int .u32 d4, .int .u64 (o6), .int .u32 (x4), .int .i64 d7, .int .i64 d8, .slice (some ⟨ad.block, ad.off + 32, none⟩) 16 (c - 32), .slice (some ⟨ad.block, ad.off + 48, none⟩) 16 (c - 48)] = v at *
       refine ⟨HS.out, ?_⟩
       refine ords_end (fun n3 => ?_)
       replace HS := Lib.hid (bdr HS.out n3)
       (try replace HK15 := Lib.hid (HK15.out.drewN n3))
       generalize v.drewN n3 = v at *
       replace HK6 := Lib.hid (HK6.out.below HS.out HK6.out.lt)
       replace HB := Lib.hid (bcall HB.out HS.out)
       clear HS c1 c2 c3 c4 c5 c6 c7 c8 c9 hgl HV s1 s2 s3 s4 s5 s6 s7 s8 s9 s0 sn sq a1 a2
       by_cases hE0 : E = 0
       ·have HOK : Hid (decOk true true b) := ⟨HLB.out, (fun _ => HFIL.out), (fun _ h => HX0.out (EX.out.trans h)), by rw [← HEE.out]; exact hE0⟩
        have HE0 := Lib.hid hE0; clear hE0
        go_wp2_with (first
         | (refine wpList_load_row rfl 77 _ rfl g rfl 77 _ (0, 0) _ HK15.out hu.out rfl PS.out ?_)
         | (go_at_call 58; refine (HNY.out _ HE0.out ((HRB.out.below HB.out).more HB.out.size)).mono ?_; rintro e8 v ⟨A1, t1, c1, A2, t2, c2, rfl, hT1, hT2, ho1, ho2, hb8⟩; have HT1 := Lib.hid hT1; have HT2 := Lib.hid hT2; have HO1 := Lib.hid (ho1.mono HB.out.size); have HO2 := Lib.hid (ho2.mono HB.out.size); replace HK6 := Lib.hid (HK6.out.below hb8 HK6.out.lt); replace HB := Lib.hid (bcall HB.out hb8); have PS2 : Hid ((Tryz.prog.info? 77).map (·.size) = some (#[Value.int .i64 d0, .int .i64 d1, .int .i64 d2, .int .i64 d3, .int .u32 d4, .int .u64 (o6), .int .u32 (x4), .int .i64 d7, .int .i64 d8, .slice A1 t1 c1, .slice A2 t2 c2]).size) := Pr.size (⟨d0, d1, d2, d3, d4, o6, x4, d7, d8, ⟨A1, t1, c1⟩, ⟨A2, t2, c2⟩⟩ : Pr); have PO2 : Hid ((#[Value.int .i64 d0, .int .i64 d1, .int .i64 d2, .int .i64 d3, .int .u32 d4, .int .u64 (o6), .int .u32 (x4), .int .i64 d7, .int .i64 d8, .slice A1 t1 c1, .slice A2 t2 c2]).all (·.oneCell') = true) := Pr.ones (⟨d0, d1, d2, d3, d4, o6, x4, d7, d8, ⟨A1, t1, c1⟩, ⟨A2, t2, c2⟩⟩ : Pr); clear hb8 hT1 hT2 ho1 ho2)
         | (refine wpList_store_row rfl 77 _ _ rfl w.heap.size _ rfl rfl 77 zcs HK6.out PS2.out rfl PO2.out ?_))
        refine bodyPost_ret (results_cell_tmp rfl _ _ w.heap.size 77 _ _ rfl (Blk.row HK6.out _) Tryz.underlying77 rfl PS2.out) rfl (Or.inl ⟨HOK.out, A1, t1, c1, A2, t2, c2, by rw [HPR.out]; rfl, HT1.out, HT2.out, ?_, ?_, brow HB.out (Nat.le_refl _) _⟩)
        ·exact HO1.out.of_block (fun a ha => setRow_other v _ _ _ (HO1.out.ne_blk HK6.out (by show 5 ≠ 77; decide) a ha))
        ·exact HO2.out.of_block (fun a ha => setRow_other v _ _ _ (HO2.out.ne_blk HK6.out (by show 5 ≠ 77; decide) a ha))
       ·have HNO3 : Hid (¬ decOk true true b) := fun h => hE0 (by rw [HEE.out]; exact h.2.2.2)
        have HE0 := Lib.hid hE0; clear hE0
        go_wp2_with (first
         | (refine wpList_load_row rfl 77 _ rfl g rfl 77 _ (0, 0) _ HK15.out hu.out rfl PS.out ?_)
         | (go_at_call 58; refine (HNZ.out _ HE0.out).mono ?_; rintro e7 v ⟨rfl, hb7⟩; replace HK6 := Lib.hid (HK6.out.below hb7 HK6.out.lt); replace HB := Lib.hid (bcall HB.out hb7); clear hb7)
         | (refine wpList_store_row rfl 77 _ _ rfl w.heap.size _ rfl rfl 77 zcs HK6.out ZS.out rfl ZO.out ?_))
        exact bodyPost_ret (results_cell_tmp rfl _ _ w.heap.size 77 zcs _ rfl (Blk.row HK6.out _) Tryz.underlying77 rfl ZS.out) rfl (Or.inr ⟨HNO3.out, E, rfl, HE0.out, brow HB.out (Nat.le_refl _) _⟩)
end Go.Proofs.YtghpofnaojbbkaaGreat

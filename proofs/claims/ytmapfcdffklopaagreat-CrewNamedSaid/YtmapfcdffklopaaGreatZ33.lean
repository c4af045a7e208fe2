/-
  Z33: contracts and lemmas alone; no statement is claimed here.
-/
import Derived.Test.YtmapfcdffklopaaGreatZx
import Derived.Test.YtmapfcdffklopaaGreatZ31
namespace Go.Proofs.YtmapfcdffklopaaGreat
open Go renaming setRow_other → bZC
open _root_.Nat renaming le_trans → aZL
open _root_.List renaming length_take → aZJ
open Go renaming wpList_load_row → aZH
open Go renaming wpList_store_row → aZE
open _root_.Nat renaming le_refl → aZC
open Go renaming bodyPost_ret → aZB
open Lib renaming hid -> zH
open Go.RowKit
attribute [local go_sem] pureUpon Ords.of
theorem OS.litN {α : Type} {cd : Cod α} (w : World) (l : List α) (cs : Array Value) (n : Nat) (hcs : cs = (l.map cd.enc).toArray) (hn : l.length = n) (hm : n <= maxLen) : OS cd (w.alloc (.cells cs cd.e)) w.heap.size (some ⟨w.heap.size, 0, none⟩) n l := by
 subst hcs; subst hn;exact ⟨by simp, .inr ⟨w.heap.size, l.length, _, rfl, aZC _, heap_alloc_new w _, aZC _, hm, by simp, by rw [Nat.mul_one]; exact List.take_of_length_le (by simp)⟩⟩
theorem OS.cellN {w : World} {base g c k x : Nat} {L : List Nat} (h : OS cN w base (some ⟨g, 0, none⟩) c L) (hx : L[k]? = some x) : w.cell? ⟨g, k, none⟩ = some (.int .u64 x) := by
 obtain ⟨g', y, e, -, -, e2, h3, -⟩ := h.at_ (List.getElem?_eq_some_iff.1 hx).1;injection e with e; injection e with e
 subst e;rw [hx] at e2;rw [Option.some.inj e2];exact h3
theorem OS.cellF {w : World} {base g c k x : Nat} {L : List Nat} (h : OS cN w base (some ⟨g, 0, none⟩) c L) (hx : L[k]? = some x) : w.frozen? ⟨g, k, none⟩ = false := by
 obtain ⟨g', y, e, -, -, e2, -, h3⟩ := h.at_ (List.getElem?_eq_some_iff.1 hx).1;injection e with e; injection e with e
 subst e;exact h3
def dvAt (big ext : Bool) (b : List UInt8) (k : Nat) : Nat := fld b ((rowTab big).getD k (0, 0, 0)).2.1 (if k = 5 /\ ext = true then 4 else ((rowTab big).getD k (0, 0, 0)).2.2)
def dvL (big ext : Bool) (b : List UInt8) : List Nat := 0 :: (List.range 9).map (dvAt big ext b)
theorem dvL_next (big ext : Bool) (b : List UInt8) (k : Nat) (hk : k < 9) : (dvL big ext b).take (k + 1 + 1) = (dvL big ext b).take (k + 1) ++ [dvAt big ext b k] := by
 have h : (dvL big ext b)[k + 1]? = some (dvAt big ext b k) := by
  show ((List.range 9).map (dvAt big ext b))[k]? = _
  rw [List.getElem?_map, List.getElem?_range hk]; rfl
 rw [List.take_add_one, h]
 rfl
theorem dvL_len (big ext : Bool) (b : List UInt8) : (dvL big ext b).length = 10 := by simp [dvL]
def RDecAns (big ext : Bool) (b : List UInt8) (w : World) (r : Ending) (w' : World) : Prop :=
  (decOk big ext b /\ ∃ (A1 : Option Addr) (t1 c1 : Nat) (A2 : Option Addr) (t2 c2 : Nat), r = .returned (.tuple #[(decPr big ext b ⟨A1, t1, c1⟩ ⟨A2, t2, c2⟩).v, .int .i64 0]) /\ Trim ((b.drop (bOf big / 2)).take (bOf big / 4)) t1 /\ Trim ((b.drop (3 * (bOf big / 4))).take (bOf big / 4)) t2 /\
    OS cB w' w.heap.size A1 c1 (((b.drop (bOf big / 2)).take (bOf big / 4)).take t1) /\ OS cB w' w.heap.size A2 c2 (((b.drop (3 * (bOf big / 4))).take (bOf big / 4)).take t2) /\ Below w.heap.size w w') \/
  (¬ decOk big ext b /\ ∃ e : Int, r = .returned (.tuple #[zeroPar.v, .int .i64 e]) /\ e ≠ 0 /\ Below w.heap.size w w')
theorem rdecLen_any (big ext : Bool) (A : Option Addr) (n c : Nat) (w : World) (hn : n ≠ bOf big) :
  Calls Tryz.prog 105 #[.int .i64 (kOf big), .slice A n c, .bool ext] w fun r w' => ∃ e : Int, r = .returned (.tuple #[zeroPar.v, .int .i64 e]) /\ e ≠ 0 /\ Below w.heap.size w w' := by
 have hr := fun W => refSized_any big A n c W
 obtain ⟨e, he⟩ : ∃ e : Int, e = if n < bOf big then 3 else if bOf big < n then 2 else 0 := ⟨_, rfl⟩
 have he0 : e ≠ 0 := by
  rw [he]
  split
  ·decide
  ·split
   ·decide
   ·omega
 rw [<- he] at hr;have t0 : (e != 0) = true := by simpa using he0
 have hzs := zeroPar.size;have hzo := zeroPar.ones;unfold zeroPar Pr.v Pr.cs Sl.v Sl.nil at *;dsimp only at *;have HR := zH hr; have HE := zH he0; have ZS := zH hzs; have ZO := zH hzo;clear hr he he0 hn hzs hzo;generalize kOf big = k at *;go_enter Tryz.func105, Tryz.ntmps105;go_wp2_with (first
  | (go_at_call 125; refine (HR _).mono ?_; rintro e1 w1 ⟨rfl, rfl⟩)
  | (refine aZE rfl 81 _ _ rfl w.heap.size _ rfl rfl 81 zcs (Blk.new _ _ _) ZS rfl ZO ?_))
 exact aZB (results_cell_tmp rfl _ _ w.heap.size 81 zcs _ rfl (Blk.row (Blk.new _ _ _) _) Tryz.underlying81 rfl ZS) rfl ⟨e, rfl, HE.out, brow (bal (b0 _) _) (aZC _) _⟩
set_option maxRecDepth 20000 in
set_option maxHeartbeats 8000000 in
theorem rdecBig_any (ext : Bool) (A : Option Addr) (c : Nat) (b : List UInt8) (w : World) (hb : b.length = 64) (hc : 64 <= c) (hr : RS cB w w.heap.size A b) :
  Calls Tryz.prog 105 #[.int .i64 1, .slice A 64 c, .bool ext] w (RDecAns true ext b w) := by
 obtain ⟨ad, rfl, hab⟩ := hr.some_of (by omega);have hrt := fun W => refSized_any true (some ad) 64 c W
 change ∀ W, Calls _ _ #[.int .i64 1, .slice (some ad) 64 c] W fun e w' => e = .returned (.int .i64 0) /\ W = w' at hrt
 have hmo := fun W => refMost_any true W
 change ∀ W, Calls _ _ #[.int .i64 1] W fun e w' => e = .returned (.int .i64 64) /\ W = w' at hmo
 have hpl := fun f k hf hk => refFieldAt_any true f k hf hk
 have hrd := fun (at_ sz : Nat) (W : World) hr h1 h2 => refRead_any (some ad) c 64 at_ sz W.heap.size b W hb (by decide) hr h1 h2
 obtain ⟨d0, e0⟩ : ∃ d, d = fld b 0 1 := ⟨_, rfl⟩;obtain ⟨d1, e1⟩ : ∃ d, d = fld b 1 1 := ⟨_, rfl⟩;obtain ⟨d2, e2⟩ : ∃ d, d = fld b 2 1 := ⟨_, rfl⟩;obtain ⟨d3, e3⟩ : ∃ d, d = fld b 3 1 := ⟨_, rfl⟩;obtain ⟨d4, e4⟩ : ∃ d, d = fld b 4 4 := ⟨_, rfl⟩;obtain ⟨d7, e7⟩ : ∃ d, d = fld b 16 1 := ⟨_, rfl⟩;obtain ⟨d8, e8⟩ : ∃ d, d = fld b 17 1 := ⟨_, rfl⟩;obtain ⟨o6, eo6⟩ : ∃ d, d = fld b 8 (if ext then 4 else 8) := ⟨_, rfl⟩;obtain ⟨x4, ex⟩ : ∃ d, d = fld b 12 4 := ⟨_, rfl⟩;have L0 := zH (show d0 < 256 from by rw [e0]; exact fld_lt b _ 1);have L1 := zH (show d1 < 256 from by rw [e1]; exact fld_lt b _ 1);have L2 := zH (show d2 < 256 from by rw [e2]; exact fld_lt b _ 1);have L3 := zH (show d3 < 256 from by rw [e3]; exact fld_lt b _ 1);have L7 := zH (show d7 < 256 from by rw [e7]; exact fld_lt b _ 1);have L8 := zH (show d8 < 256 from by rw [e8]; exact fld_lt b _ 1);have W4 := zH (show IntKind.u32.wrap (d4 : Int) = (d4 : Int) from by have h := fld_lt b 4 4; rw [<- e4] at h; simp [IntKind.wrap, IntKind.bits, IntKind.signed]; omega);have HXW := zH (show IntKind.u32.wrap (x4 : Int) = (x4 : Int) from by have h := fld_lt b 12 4; rw [<- ex] at h; simp [IntKind.wrap, IntKind.bits, IntKind.signed]; omega);have hDV : dvL true ext b = [0, d0, d1, d2, d3, d4, o6, x4, d7, d8] := by
  rw [e0, e1, e2, e3, e4, e7, e8, eo6, ex]
  cases ext <;> kernel_rfl
 have hPR : ∀ s q, decPr true ext b s q = ⟨d0, d1, d2, d3, d4, (o6 : Nat), if ext then (x4 : Int) else 0, d7, d8, s, q⟩ := fun s q => by
  rw [e0, e1, e2, e3, e4, e7, e8, eo6, ex]
  cases ext <;> rfl
 have hsl : chk 1 (decPr true ext b ⟨some ⟨ad.block, ad.off + 32, none⟩, 16, c - 32⟩ ⟨some ⟨ad.block, ad.off + 48, none⟩, 16, c - 48⟩) = chk (kOf true) (decPr true ext b (sl4 true) (sl4 true)) := chk_sl true _ _ _ _ _ _ _ _ _ _ _ (by show 4 * 16 <= 64; decide) (by show 4 * 16 <= 64; decide);have hnn := fun (W : World) hc => refNormalNo_any 1 (decPr true ext b ⟨some ⟨ad.block, ad.off + 32, none⟩, 16, c - 32⟩ ⟨some ⟨ad.block, ad.off + 48, none⟩, 16, c - 48⟩) W hc
 have hny := fun (W : World) hc (hr : RS cB W W.heap.size (some ad) b) => refNormal_any 1 (decPr true ext b ⟨some ⟨ad.block, ad.off + 32, none⟩, 16, c - 32⟩ ⟨some ⟨ad.block, ad.off + 48, none⟩, 16, c - 48⟩) ((b.drop 32).take 16) ((b.drop 48).take 16) W hc (dec_mid hb (by decide)) (dec_mid hb (by decide)) (by show 16 <= 1024; decide) (by show 16 <= 1024; decide) (hr.mid (by omega) (by decide) _) (hr.mid (by omega) (by decide) _)
 rw [hsl] at hnn hny;obtain ⟨E, hE⟩ : ∃ E, E = chk (kOf true) (decPr true ext b (sl4 true) (sl4 true)) := ⟨_, rfl⟩;rw [<- hE] at hnn hny;simp only [hPR] at hnn hny;unfold Pr.slk at hny;unfold Pr.v Pr.cs Sl.v at hnn hny;unfold zeroPar Sl.nil at hnn;dsimp only at hnn hny;have hzs := zeroPar.size;have hzo := zeroPar.ones;have HRT := zH hrt; have HMO := zH hmo; have HPL := zH hpl; have HRD := zH hrd; have HRB := zH hr; have HLB := zH hb; have ZS := zH hzs; have ZO := zH hzo; have HNZ := zH hnn; have HNY := zH hny; have HEE := zH hE; have EX := zH ex; have HDV := zH hDV; have HPR := zH hPR;clear hrt hmo hpl hrd hr hb hzs hzo hnn hny hE e0 e1 e2 e3 e4 e7 e8 eo6 ex hDV hPR hsl;unfold RDecAns;go_enter Tryz.func105, Tryz.ntmps105;go_wp2_with (go_at_call 125; refine (HRT _).mono ?_; rintro e1 w1 ⟨rfl, rfl⟩);go_loop [9] (fun i => ∃ k f : Nat, k <= 14 /\ f = 18 + k /\ i = .int .i64 f /\ ∀ j, j < k -> b[18 + j]? = some 0) (fun i => 32 - (intOf i).toNat)
 case atStart => exact ⟨0, 18, by omega, rfl, rfl, fun j h => absurd h (Nat.not_lt_zero _)⟩
 case round =>
  obtain ⟨k, f, hk, hf, rfl, hz⟩ := hrel;have HZF := zH hz; clear hz
  by_cases hlt : k < 14
  ·obtain ⟨ad', x, ea, -, ex, gx⟩ := (HRB.alloc (aZC _) (.cells #[Value.int .i64 0, .int .i64 0, .int .i64 0, .int .i64 0, .int .u32 0, .int .u64 0, .int .u32 0, .int .i64 0, .int .i64 0, .slice none 0 0, .slice none 0 0] 81)).at_ (k := f) (by rw [HLB.out]; omega)
   injection ea with ea
   rw [<- ea] at gx;clear ea ad';change (w.alloc _).cell? (ad.add f) = some (.int .u8 (byt x)) at gx;rw [hf] at ex;have EXX := zH ex; clear ex;have hf32 : f < 32 := by omega
   have hfi : (f : Int) < 64 := by omega
   have HF := zH hf; have HLT := zH hlt; clear hf hlt hk
   by_cases hx : x = 0
   ·subst hx
    go_wp2
    case roundEnd =>
     exact ⟨⟨k + 1, f + 1, HLT.out, by have := HF.out; omega, by go_num, fun j hj => by
      by_cases h : j < k
      ·exact HZF j h
      ·obtain rfl : j = k := by omega
       exact EXX.out⟩, by simp [intOf]; omega⟩
   ·have tb : (byt x != 0) = true := by
     rw [bne_iff_ne];intro h;exact hx (UInt8.toNat_inj.1 (Int.ofNat.inj h))
    have HNO := zH (show ¬ decOk true ext b from fun h => hx (by
     have h1 := h.2.1 rfl (18 + k) (by omega) (by have := HLT.out; omega);rw [EXX.out] at h1;exact Option.some.inj h1))
    clear hx;generalize byt x = y at *;go_wp2_with (refine aZE rfl 81 _ _ rfl w.heap.size _ rfl rfl 81 zcs (Blk.new _ _ _) ZS rfl ZO ?_);exact aZB (results_cell_tmp rfl _ _ w.heap.size 81 zcs _ rfl (Blk.row (Blk.new _ _ _) _) Tryz.underlying81 rfl ZS) rfl (Or.inr ⟨HNO.out, 4, rfl, (by decide), brow (bal (b0 _) _) (aZC _) _⟩)
  ·open kA in exact zS0
end Go.Proofs.YtmapfcdffklopaaGreat

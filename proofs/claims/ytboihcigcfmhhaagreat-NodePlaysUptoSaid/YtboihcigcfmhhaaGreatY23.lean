/-
  Y23: contracts and lemmas alone; no statement is claimed here.
-/
import Derived.Test.YtboihcigcfmhhaaGreatY20
import Derived.Test.YtboihcigcfmhhaaGreatY19
set_option maxHeartbeats 4000000
set_option maxRecDepth 20000
namespace Go.Proofs.YtboihcigcfmhhaaGreat
open _root_.List renaming length_append → aZN
open Lib renaming hid -> zH
open Go.RowKit
attribute [local go_sem] pureUpon Ords.of
namespace Eng
def fs : Eng -> FuncId
  | .big _ => 152
  | .small _ => 158
def lo : Eng -> UInt64
  | .big s => s.lo
  | .small s => s.lo
def hi : Eng -> UInt64
  | .big s => s.hi
  | .small s => s.hi
def held : Eng -> List UInt8
  | .big s => s.held
  | .small s => s.held
def stateL : Eng -> List UInt8
  | .big s => flat s.H
  | .small s => flat3 s.H
theorem run_state (e : Eng) (g k : Nat) (hk : 0 < k) (w : World) : Sem.run Tryz.prog (method k e.T (.pointer (some ⟨g, 0, none⟩)) "quern/node.state") w = .ok (e.fs, .pointer (some ⟨g, 0, none⟩)) w := by
 obtain ⟨n, rfl⟩ : ∃ n, k = n + 1 := ⟨k - 1, by omega⟩;clear hk
 cases e <;> (show _ = _; kernel_rfl)
theorem enters_s (e : Eng) (args : Array Value) (w : World) : (callFunc e.fs args).run Tryz.prog w = .ok (.enter e.fs args) w := by
 cases e <;> (show _ = _; kernel_rfl)
end Eng
theorem eng_state (e : Eng) (g base : Nat) (A : Option Addr) (c : Nat) (w : World) (hE : e.inn w base g A c) :
  Calls Tryz.prog e.fs #[.pointer (some ⟨g, 0, none⟩)] w fun r w' => ∃ A1 c1 A2 c2, r = .returned (.tuple #[.slice A1 e.full c1, .agg #[.int .u64 (wrd e.lo), .int .u64 (wrd e.hi)], .slice A2 e.held.length c2]) /\ OS cB w' w.heap.size A1 c1 e.stateL /\ OS cB w' w.heap.size A2 c2 e.held /\ Below w.heap.size w w' := by
 cases e with
 | big s => exact state64_any g base s A c w hE
 | small s => exact state32_any g base s A c w hE
theorem Eng.state_len {w : World} {base g c : Nat} {A : Option Addr} (e : Eng) (h : e.inn w base g A c) : e.stateL.length = e.full /\ e.held.length <= 2 * e.full := by
 cases e with
 | big s => exact ⟨by show (flat _).length = 64; rw [flat_len, (E64.ok h).H], (E64.ok h).held⟩
 | small s => exact ⟨by show (flat3 _).length = 32; rw [flat3_len, (E32.ok h).H], (E32.ok h).held⟩
def countL (big : Bool) (lo hi : UInt64) : List UInt8 := if big then storeN lo.toNat 8 ++ storeN hi.toNat 8 else storeN lo.toNat 8
def saveL (big : Bool) (x key : List UInt8) (last : Bool) (e : Eng) : List UInt8 :=
  ([78, (if big then 1 else 2), (if last then 1 else 0), UInt8.ofNat key.length] ++ x ++ key ++ e.stateL ++ countL big e.lo e.hi ++ [UInt8.ofNat e.held.length]) ++ e.held
theorem counter_any (big : Bool) (lo hi : UInt64) (w : World) :
  Calls Tryz.prog 36 #[.int .i64 (kOf big), .agg #[.int .u64 (wrd lo), .int .u64 (wrd hi)]] w fun r w' => ∃ A c, r = .returned (.slice A (if big then 16 else 8) c) /\ OS cB w' w.heap.size A c (countL big lo hi) /\ Below w.heap.size w w' := by
 cases big with
 | false =>
  show Calls _ _ #[.int .i64 2, _] w _
  go_enter Tryz.func36, Tryz.ntmps36;go_wp2_with (go_at_call 57; refine (store64_any _ _).mono ?_; rintro e w1 ⟨A1, c1, rfl, ho1, hbw1⟩; (first | refine withN hbw1 ?_ | refine withD hbw1 ?_ | refine with0 hbw1 ?_); intro hcw1 hfw1; have z0w1 : w.heap.size < w1.heap.size := (by have := hbw1.size; (try simp at this); omega));exact bodyPost_ret (results_tmp rfl _ _ _) rfl ⟨A1, c1, rfl, ho1.mono (by simp), bcall (bal (b0 w) _) hbw1⟩
 | true =>
  show Calls _ _ #[.int .i64 1, _] w _
  go_enter Tryz.func36, Tryz.ntmps36;go_wp2_with fail;refine (store64_any lo _).mono ?_;rintro e1 w1 ⟨A1, c1, rfl, ho1, hb1⟩;have hc1 : w1.cell? ⟨w.heap.size, 1, none⟩ = some (.int .u64 (wrd hi)) := (hb1.cell (p := ⟨w.heap.size, 1, none⟩) (by simp)).trans ((Blk.new w _ _).cell 1);have HO1 := zH (ho1.mono (show w.heap.size <= _ by simp)); have HB1 := zH (bcall (bal (b0 w) _) hb1); clear ho1 hb1;go_wp2_with fail;refine (store64_any hi _).mono ?_;rintro e2 w2 ⟨A2, c2, rfl, ho2, hb2⟩;have hO1 := HO1.below hb2 (Nat.le_refl _);have HO1' := zH hO1; have HO2 := zH ho2; have HB2 := zH (bcall HB1 hb2); clear hO1 ho2 hb2 hc1;go_wp2_with (at_builtin; refine wpList_appB _ rfl (.tmp 11) (.tmp 14) rfl HO1'.out rfl (storeN_len _ _) HO2.reads rfl (storeN_len _ _) (by omega) HB2.size ?_; intro A3 c3 w3 ho3 hg3 hA3; have HO3 := zH ho3; have HB3 := zH (bapp HB2.out HO1'.out hg3); clear ho3 hg3 hA3);exact bodyPost_ret (results_tmp rfl _ _ _) rfl ⟨A3, c3, rfl, HO3.out, HB3.out⟩
theorem countL_len (big : Bool) (lo hi : UInt64) : (countL big lo hi).length = if big then 16 else 8 := by
 cases big
 ·exact storeN_len _ _
 ·show (storeN lo.toNat 8 ++ storeN hi.toNat 8).length = 16
  rw [aZN, storeN_len, storeN_len]
theorem save_any (p d : Nat) (big last : Bool) (x key : List UInt8) (wr : UInt64) (e : Eng) (F : List Nat) (w : World) (hN : Nd w p big d x key last wr e F) (hx : x.length <= 64) (hk : key.length <= 128) :
  Calls Tryz.prog 23 #[.pointer (some ⟨p, 0, none⟩)] w fun r w' => ∃ A' n' c', r = .returned (.slice A' n' c') /\ n' <= 1024 /\ (saveL big x key last e).length = n' /\ OS cB w' w.heap.size A' c' (saveL big x key last e) /\ Below w.heap.size w w' := by
 obtain ⟨Ax, Ak, nx, nk, cx, ck, g, A, c, hNN, rfl⟩ := hN;have hb := hNN.blk;have hno := fun (T : TypeId) (v : Value) h6 => noneSame_any p T v _ w hb h6
 have hno2 := hno e.T (.pointer (some ⟨g, 0, none⟩)) rfl;have c0 : w.cell? ⟨p, 0, none⟩ = some (.int .i64 (kOf big)) := hb.cell 0;have c2 : w.cell? ⟨p, 2, none⟩ = some (.slice Ax nx cx) := hb.cell 2;have c3 : w.cell? ⟨p, 3, none⟩ = some (.slice Ak nk ck) := hb.cell 3;have c4 : w.cell? ⟨p, 4, none⟩ = some (.bool last) := hb.cell 4;have c6 : w.cell? ⟨p, 6, none⟩ = some (.iface e.T (.pointer (some ⟨g, 0, none⟩))) := hb.cell 6;have hf := hb.frozen;have hlt := hb.lt;have hlx := hNN.lx;have hlk := hNN.lk;have hrx := hNN.ox.reads;have hrk := hNN.ok.reads;have hmW : ∀ (g k : Nat) (w : World), 0 < k -> Sem.run Tryz.prog (method k e.T (.pointer (some ⟨g, 0, none⟩)) "quern/node.state") w = .ok (e.fs, .pointer (some ⟨g, 0, none⟩)) w := fun g k w hk => e.run_state g k hk w
 have heL : ∀ args w, (callFunc e.fs args).run Tryz.prog w = .ok (.enter e.fs args) w := fun args w => e.enters_s args w
 have hst := eng_state e g 0 A c w hNN.eng;have hsl := e.state_len hNN.eng;have hfl : e.full <= 64 := by (cases e; exact Nat.le_refl _; exact (by decide : (32 : Nat) <= 64))
 have hct := fun W => counter_any big e.lo e.hi W
 have hcl := countL_len big e.lo e.hi;have hu8k : IntKind.u8.wrap (kOf big) = byt (if big then 1 else 2) := by cases big <;> rfl
 have hu8n : IntKind.u8.wrap (nk : Int) = byt (UInt8.ofNat nk) := by unfold byt; rw [UInt8.toNat_ofNat']; simp [IntKind.wrap, IntKind.bits, IntKind.signed]
 have hu8h : IntKind.u8.wrap (e.held.length : Int) = byt (UInt8.ofNat e.held.length) := by unfold byt; rw [UInt8.toNat_ofNat']; simp [IntKind.wrap, IntKind.bits, IntKind.signed]
 obtain ⟨SV, hSV⟩ : ∃ SV, saveL big x key last e = SV := ⟨_, rfl⟩;rw [hSV];unfold saveL at hSV;rw [hlx] at hx;rw [hlk] at hk hSV;obtain ⟨hsl1, hsl2⟩ := hsl;have hn64 : (if big then 16 else 8 : Nat) <= 16 := by cases big <;> decide
 generalize (if big then 16 else 8 : Nat) = ncn at *;generalize countL big e.lo e.hi = CL at *;generalize e.lo = lo at *;generalize e.hi = hi at *;generalize e.held = hd at *;generalize e.stateL = SL at *;generalize e.full = nf at *;generalize kOf big = kk at *;generalize (if big then 1 else 2 : UInt8) = kb at *;generalize UInt8.ofNat hd.length = h8 at *;generalize UInt8.ofNat nk = k8 at *;have HST := zH hst; have HCT := zH hct; have HCL := zH hcl; have HNO := zH hno2; have HLX := zH hlx; have HLK := zH hlk; have HRX := zH hrx; have HRK := zH hrk; have HSL := zH hsl1;clear hst hct hcl hno hno2 hlx hlk hrx hrk hsl1 hb hNN;have hu := zH Tryz.underlying75
 cases last
 ·have HSV : Hid ([78, kb, 0, k8] ++ x ++ key ++ SL ++ CL ++ [h8] ++ hd = SV) := hSV
  clear hSV;go_enter Tryz.func23, Tryz.ntmps23;go_wp2_with (go_at_call 27; refine HNO.mono ?_; rintro e0 w0 ⟨rfl, rfl⟩);refine HST.mono ?_;rintro e1 w1 ⟨A1, c1, A2, c2', rfl, ho1, ho2, hb1⟩;have HO1 := zH (ho1.reads); have HO2 := zH ho2.reads; have HB1 := zH hb1;have hlt1 : p < w1.heap.size := Nat.lt_of_lt_of_le hlt hb1.size;have d0 : w1.cell? ⟨p, 0, none⟩ = some (.int .i64 kk) := (hb1.cell (p := ⟨p, 0, none⟩) hlt).trans c0;have d2 : w1.cell? ⟨p, 2, none⟩ = some (.slice Ax nx cx) := (hb1.cell (p := ⟨p, 2, none⟩) hlt).trans c2;have d3 : w1.cell? ⟨p, 3, none⟩ = some (.slice Ak nk ck) := (hb1.cell (p := ⟨p, 3, none⟩) hlt).trans c3;clear ho1 ho2 hb1 c0 c2 c3 c4 c6 hf;go_wp2_with fail;have hBC := Blk.new w1 75 #[.int .u64 (wrd lo), .int .u64 (wrd hi)];have hBW := bal (b0 w1) (.cells #[.int .u64 (wrd lo), .int .u64 (wrd hi)] 75);have e0 : (w1.alloc (.cells #[.int .u64 (wrd lo), .int .u64 (wrd hi)] 75)).cell? ⟨p, 0, none⟩ = some (.int .i64 kk) := (hBW.cell (p := ⟨p, 0, none⟩) hlt1).trans d0;have e3 : (w1.alloc (.cells #[.int .u64 (wrd lo), .int .u64 (wrd hi)] 75)).cell? ⟨p, 3, none⟩ = some (.slice Ak nk ck) := (hBW.cell (p := ⟨p, 3, none⟩) hlt1).trans d3;have hW2 : w1.heap.size < (w1.alloc (.cells #[.int .u64 (wrd lo), .int .u64 (wrd hi)] 75)).heap.size := by simp
  have HBC := zH hBC; have HBW := zH hBW; clear hBC hBW;generalize w1.alloc (.cells #[.int .u64 (wrd lo), .int .u64 (wrd hi)] 75) = W2 at *;have hltB : p < W2.heap.size := by omega
  have RX := zH (((HRX.below HB1).more HB1.size).below HBW |>.more HBW.size);have RK := zH (((HRK.below HB1).more HB1.size).below HBW |>.more HBW.size);have RS1 := zH ((HO1.below HBW).more HBW.size);have RH := zH ((HO2.below HBW).more HBW.size);have e2 : W2.cell? ⟨p, 2, none⟩ = some (.slice Ax nx cx) := (HBW.cell (p := ⟨p, 2, none⟩) hlt1).trans d2;clear d0 d2 d3;have e2' := e2;refine wrZ (fun _ => True) (fun _ _ h => h) (Ords.of [(0, 0), (0, 1), (0, 2), (1, 3), (0, 4), (0, 5), (0, 6), (0, 7), (0, 8), (1, 9), (0, 10), (0, 11), (2, 12), (0, 13)] .fin) trivial ?_
  iterate 12 ((first | refine ords_pure rfl (fun K hK => ?_) | refine ords_read rfl (fun K hK => ?_)); go_simp; refine hK _ ?_; clear hK K)
  refine ords_loud rfl (fun n1 => ?_);go_wp2;refine ⟨trivial, ?_⟩;refine ords_pure rfl (fun K hK => ?_); go_simp; refine hK _ ?_; clear hK K;refine ords_end (fun n2 => ?_);have hob := (OS.lit (cd := cB) (W2.drewN n1) [78, kb, 0, k8] #[.int .u8 78, .int .u8 (byt kb), .int .u8 0, .int .u8 (byt k8)] 4 rfl rfl (by decide)).drewN n2;change OS cB (((W2.drewN n1).alloc (.cells #[.int .u8 78, .int .u8 (byt kb), .int .u8 0, .int .u8 (byt k8)] 5)).drewN n2) W2.heap.size (some ⟨W2.heap.size, 0, none⟩) 4 _ at hob;have hb3 := bdr (bal (bdr (b0 W2) n1) (.cells #[.int .u8 78, .int .u8 (byt kb), .int .u8 0, .int .u8 (byt k8)] 5)) n2;generalize ((W2.drewN n1).alloc (.cells #[.int .u8 78, .int .u8 (byt kb), .int .u8 0, .int .u8 (byt k8)] 5)).drewN n2 = W3 at *;have HOb := zH hob; have HB3 := zH hb3;have g2 : W3.cell? ⟨p, 2, none⟩ = some (.slice Ax nx cx) := (hb3.cell (p := ⟨p, 2, none⟩) hltB).trans e2;clear hob hb3;go_wp2_with (first
   | (at_builtin; refine wpList_appB _ rfl (.tmp 36) (.tmp 40) rfl HOb.out rfl rfl (RX.below HB3.out) rfl HLX.out (by omega) HB3.size ?_; intro A4 c4 w4 ho4 hg4 hA4; have HO4 := zH ho4; have HB4 := zH (bapp HB3.out HOb.out hg4); have HL4 := zH (show ([78, kb, 0, k8] ++ x).length = 4 + nx by rw [aZN, HLX.out]; rfl); have g3 : w4.cell? ⟨p, 3, none⟩ = some (.slice Ak nk ck) := (HB4.cell (p := ⟨p, 3, none⟩) hltB).trans e3; clear ho4 hg4 hA4)
   | (at_builtin; refine wpList_appB _ rfl (.tmp 42) (.tmp 46) rfl HO4.out rfl HL4.out (RK.below HB4.out) rfl HLK.out (by omega) HB4.size ?_; intro A5 c5 w5 ho5 hg5 hA5; have HO5 := zH ho5; have HB5 := zH (bapp HB4.out HO4.out hg5); have HL5 := zH (show ([78, kb, 0, k8] ++ x ++ key).length = 4 + nx + nk by rw [aZN, HL4.out, HLK.out]); clear ho5 hg5 hA5)
   | (at_builtin; refine wpList_appB _ rfl (.tmp 48) (.tmp 49) rfl HO5.out rfl HL5.out (RS1.below HB5.out) rfl HSL.out (by omega) HB5.size ?_; intro A6 c6 w6 ho6 hg6 hA6; have HO6 := zH ho6; have HB6 := zH (bapp HB5.out HO5.out hg6); have HL6 := zH (show ([78, kb, 0, k8] ++ x ++ key ++ SL).length = 4 + nx + nk + nf by rw [aZN, HL5.out, HSL.out]); have g0 : w6.cell? ⟨p, 0, none⟩ = some (.int .i64 kk) := (HB6.cell (p := ⟨p, 0, none⟩) hltB).trans e0; clear ho6 hg6 hA6))
  have HBC6 := zH (HBC.below HB6 hW2);refine wrZ (fun _ => True) (fun _ _ h => h) (Ords.of [(0, 0), (0, 1), (0, 2), (0, 3), (1, 4), (1, 5), (2, 6), (2, 7), (0, 8)] .fin) trivial ?_
  iterate 5 ((first | refine ords_pure rfl (fun K hK => ?_) | refine ords_read rfl (fun K hK => ?_)); go_simp; refine hK _ ?_; clear hK K)
  refine ords_readV (v := Value.agg [.int .u64 (wrd lo), .int .u64 (wrd hi)].toArray) rfl rfl (fun m9 => pure_load_mid 75 (.tmp 5) rfl w1.heap.size 0 rfl _ _ (HBC6.drewN m9).whole hu.out rfl (by kernel_rfl)) ?_; go_simp;refine ords_loud rfl (fun n1 => ?_);go_wp2_with (go_at_call 36; refine (HCT _).mono ?_; rintro e7 w7 ⟨A7, c7, rfl, ho7, hb7⟩; have HO7 := zH ho7; have HB7 := zH (bcall (bdr HB6 n1) hb7); have HO67 := zH ((HO6.drewN n1).below hb7 (Nat.le_refl _)); clear ho7 hb7)
  try (refine ⟨trivial, ?_⟩)
  refine ords_loud rfl (fun n2 => ?_)
  (refine wpList_appB _ rfl (.tmp 51) (.tmp 57) rfl (HO67.drewN n2) rfl HL6.out (HO7.reads.drewN n2) rfl HCL.out (by omega) HB7.size ?_; intro A8 c8 w8 ho8 hg8 hA8; have HO8 := zH ho8; have HB8 := zH (bapp (bdr HB7.out n2) (HO67.drewN n2) hg8); have HL8 := zH (show ([78, kb, 0, k8] ++ x ++ key ++ SL ++ CL).length = 4 + nx + nk + nf + ncn by rw [aZN, HL6.out, HCL.out]); clear ho8 hg8 hA8; go_wp2)
  try (refine ⟨trivial, ?_⟩)
  refine ords_pure rfl (fun K hK => ?_); go_simp; refine hK _ ?_; clear hK K;refine ords_end (fun n3 => ?_);have hO9 := HO8.drewN n3;have hB9 := bdr HB8 n3;generalize w8.drewN n3 = w9 at *;have HO9 := zH hO9; have HB9 := zH hB9; clear hO9 hB9;go_wp2_with (first
   | (at_builtin; refine wpList_appB1 _ rfl (.tmp 59) (.tmp 63) rfl (HO9.alloc _) rfl HL8.out rfl (cell_new w9 _ _) h8 rfl (by omega) (Nat.le_trans HB9.size (by simp)) ?_; intro A10 c10 w10 ho10 hg10 hA10; have HO10 := zH ho10; have HB10 := zH (bapp (bal HB9.out _) (HO9.alloc _) hg10); have HL10 := zH (show ([78, kb, 0, k8] ++ x ++ key ++ SL ++ CL ++ [h8]).length = 4 + nx + nk + nf + ncn + 1 by rw [aZN, HL8.out]; rfl); clear ho10 hg10 hA10)
   | (at_builtin; refine wpList_appB _ rfl (.tmp 65) (.tmp 66) rfl HO10.out rfl HL10.out (RH.below HB10.out) rfl rfl (by omega) HB10.size ?_; intro A11 c11 w11 ho11 hg11 hA11; have HO11 := zH ho11; have HB11 := zH (bapp HB10.out HO10.out hg11); clear ho11 hg11 hA11))
  have hww : Below w.heap.size w W2 := bcall HB1 HBW.out;have hsv := HO11.out;rw [HSV.out] at hsv;have hln : SV.length = 4 + nx + nk + nf + ncn + 1 + hd.length := by rw [<- HSV.out, aZN, show ([78, kb, 0, k8] ++ x ++ key ++ SL ++ CL ++ [h8]).length = _ from HL10.out]
  exact bodyPost_ret (results_tmp rfl _ _ _) rfl ⟨A11, _, c11, rfl, by omega, hln, hsv.mono hww.size, hww.trans (HB11.mono hww.size)⟩
 ·have HSV : Hid ([78, kb, 1, k8] ++ x ++ key ++ SL ++ CL ++ [h8] ++ hd = SV) := hSV
  clear hSV;go_enter Tryz.func23, Tryz.ntmps23;go_wp2_with (go_at_call 27; refine HNO.mono ?_; rintro e0 w0 ⟨rfl, rfl⟩);refine HST.mono ?_;rintro e1 w1 ⟨A1, c1, A2, c2', rfl, ho1, ho2, hb1⟩;have HO1 := zH (ho1.reads); have HO2 := zH ho2.reads; have HB1 := zH hb1;have hlt1 : p < w1.heap.size := Nat.lt_of_lt_of_le hlt hb1.size;have d0 : w1.cell? ⟨p, 0, none⟩ = some (.int .i64 kk) := (hb1.cell (p := ⟨p, 0, none⟩) hlt).trans c0;have d2 : w1.cell? ⟨p, 2, none⟩ = some (.slice Ax nx cx) := (hb1.cell (p := ⟨p, 2, none⟩) hlt).trans c2;have d3 : w1.cell? ⟨p, 3, none⟩ = some (.slice Ak nk ck) := (hb1.cell (p := ⟨p, 3, none⟩) hlt).trans c3;clear ho1 ho2 hb1 c0 c2 c3 c4 c6 hf;go_wp2_with fail;have hBC := Blk.new w1 75 #[.int .u64 (wrd lo), .int .u64 (wrd hi)];have hBW := bal (b0 w1) (.cells #[.int .u64 (wrd lo), .int .u64 (wrd hi)] 75);have e0 : (w1.alloc (.cells #[.int .u64 (wrd lo), .int .u64 (wrd hi)] 75)).cell? ⟨p, 0, none⟩ = some (.int .i64 kk) := (hBW.cell (p := ⟨p, 0, none⟩) hlt1).trans d0;have e3 : (w1.alloc (.cells #[.int .u64 (wrd lo), .int .u64 (wrd hi)] 75)).cell? ⟨p, 3, none⟩ = some (.slice Ak nk ck) := (hBW.cell (p := ⟨p, 3, none⟩) hlt1).trans d3;have hW2 : w1.heap.size < (w1.alloc (.cells #[.int .u64 (wrd lo), .int .u64 (wrd hi)] 75)).heap.size := by simp
  have HBC := zH hBC; have HBW := zH hBW; clear hBC hBW;generalize w1.alloc (.cells #[.int .u64 (wrd lo), .int .u64 (wrd hi)] 75) = W2 at *;have hltB : p < W2.heap.size := by omega
  have RX := zH (((HRX.below HB1).more HB1.size).below HBW |>.more HBW.size);have RK := zH (((HRK.below HB1).more HB1.size).below HBW |>.more HBW.size);have RS1 := zH ((HO1.below HBW).more HBW.size);have RH := zH ((HO2.below HBW).more HBW.size);have e2 : W2.cell? ⟨p, 2, none⟩ = some (.slice Ax nx cx) := (HBW.cell (p := ⟨p, 2, none⟩) hlt1).trans d2;clear d0 d2 d3;have e2' := e2;refine wrZ (fun _ => True) (fun _ _ h => h) (Ords.of [(0, 0), (0, 1), (0, 2), (1, 3), (0, 4), (0, 5), (0, 6), (0, 7), (0, 8), (1, 9), (0, 10), (0, 11), (2, 12), (0, 13)] .fin) trivial ?_
  iterate 12 ((first | refine ords_pure rfl (fun K hK => ?_) | refine ords_read rfl (fun K hK => ?_)); go_simp; refine hK _ ?_; clear hK K)
  refine ords_loud rfl (fun n1 => ?_);go_wp2;refine ⟨trivial, ?_⟩;refine ords_pure rfl (fun K hK => ?_); go_simp; refine hK _ ?_; clear hK K;refine ords_end (fun n2 => ?_);have hob := (OS.lit (cd := cB) (W2.drewN n1) [78, kb, 1, k8] #[.int .u8 78, .int .u8 (byt kb), .int .u8 1, .int .u8 (byt k8)] 4 rfl rfl (by decide)).drewN n2;change OS cB (((W2.drewN n1).alloc (.cells #[.int .u8 78, .int .u8 (byt kb), .int .u8 1, .int .u8 (byt k8)] 5)).drewN n2) W2.heap.size (some ⟨W2.heap.size, 0, none⟩) 4 _ at hob;have hb3 := bdr (bal (bdr (b0 W2) n1) (.cells #[.int .u8 78, .int .u8 (byt kb), .int .u8 1, .int .u8 (byt k8)] 5)) n2;generalize ((W2.drewN n1).alloc (.cells #[.int .u8 78, .int .u8 (byt kb), .int .u8 1, .int .u8 (byt k8)] 5)).drewN n2 = W3 at *;have HOb := zH hob; have HB3 := zH hb3;have g2 : W3.cell? ⟨p, 2, none⟩ = some (.slice Ax nx cx) := (hb3.cell (p := ⟨p, 2, none⟩) hltB).trans e2;clear hob hb3;go_wp2_with (first
   | (at_builtin; refine wpList_appB _ rfl (.tmp 36) (.tmp 40) rfl HOb.out rfl rfl (RX.below HB3.out) rfl HLX.out (by omega) HB3.size ?_; intro A4 c4 w4 ho4 hg4 hA4; have HO4 := zH ho4; have HB4 := zH (bapp HB3.out HOb.out hg4); have HL4 := zH (show ([78, kb, 1, k8] ++ x).length = 4 + nx by rw [aZN, HLX.out]; rfl); have g3 : w4.cell? ⟨p, 3, none⟩ = some (.slice Ak nk ck) := (HB4.cell (p := ⟨p, 3, none⟩) hltB).trans e3; clear ho4 hg4 hA4)
   | (at_builtin; refine wpList_appB _ rfl (.tmp 42) (.tmp 46) rfl HO4.out rfl HL4.out (RK.below HB4.out) rfl HLK.out (by omega) HB4.size ?_; intro A5 c5 w5 ho5 hg5 hA5; have HO5 := zH ho5; have HB5 := zH (bapp HB4.out HO4.out hg5); have HL5 := zH (show ([78, kb, 1, k8] ++ x ++ key).length = 4 + nx + nk by rw [aZN, HL4.out, HLK.out]); clear ho5 hg5 hA5)
   | (at_builtin; refine wpList_appB _ rfl (.tmp 48) (.tmp 49) rfl HO5.out rfl HL5.out (RS1.below HB5.out) rfl HSL.out (by omega) HB5.size ?_; intro A6 c6 w6 ho6 hg6 hA6; have HO6 := zH ho6; have HB6 := zH (bapp HB5.out HO5.out hg6); have HL6 := zH (show ([78, kb, 1, k8] ++ x ++ key ++ SL).length = 4 + nx + nk + nf by rw [aZN, HL5.out, HSL.out]); have g0 : w6.cell? ⟨p, 0, none⟩ = some (.int .i64 kk) := (HB6.cell (p := ⟨p, 0, none⟩) hltB).trans e0; clear ho6 hg6 hA6))
  have HBC6 := zH (HBC.below HB6 hW2);refine wrZ (fun _ => True) (fun _ _ h => h) (Ords.of [(0, 0), (0, 1), (0, 2), (0, 3), (1, 4), (1, 5), (2, 6), (2, 7), (0, 8)] .fin) trivial ?_
  iterate 5 ((first | refine ords_pure rfl (fun K hK => ?_) | refine ords_read rfl (fun K hK => ?_)); go_simp; refine hK _ ?_; clear hK K)
  refine ords_readV (v := Value.agg [.int .u64 (wrd lo), .int .u64 (wrd hi)].toArray) rfl rfl (fun m9 => pure_load_mid 75 (.tmp 5) rfl w1.heap.size 0 rfl _ _ (HBC6.drewN m9).whole hu.out rfl (by kernel_rfl)) ?_; go_simp;refine ords_loud rfl (fun n1 => ?_);go_wp2_with (go_at_call 36; refine (HCT _).mono ?_; rintro e7 w7 ⟨A7, c7, rfl, ho7, hb7⟩; have HO7 := zH ho7; have HB7 := zH (bcall (bdr HB6 n1) hb7); have HO67 := zH ((HO6.drewN n1).below hb7 (Nat.le_refl _)); clear ho7 hb7)
  try (refine ⟨trivial, ?_⟩)
  refine ords_loud rfl (fun n2 => ?_)
  (refine wpList_appB _ rfl (.tmp 51) (.tmp 57) rfl (HO67.drewN n2) rfl HL6.out (HO7.reads.drewN n2) rfl HCL.out (by omega) HB7.size ?_; intro A8 c8 w8 ho8 hg8 hA8; have HO8 := zH ho8; have HB8 := zH (bapp (bdr HB7.out n2) (HO67.drewN n2) hg8); have HL8 := zH (show ([78, kb, 1, k8] ++ x ++ key ++ SL ++ CL).length = 4 + nx + nk + nf + ncn by rw [aZN, HL6.out, HCL.out]); clear ho8 hg8 hA8; go_wp2)
  try (refine ⟨trivial, ?_⟩)
  refine ords_pure rfl (fun K hK => ?_); go_simp; refine hK _ ?_; clear hK K;refine ords_end (fun n3 => ?_);have hO9 := HO8.drewN n3;have hB9 := bdr HB8 n3;generalize w8.drewN n3 = w9 at *;have HO9 := zH hO9; have HB9 := zH hB9; clear hO9 hB9;go_wp2_with (first
   | (at_builtin; refine wpList_appB1 _ rfl (.tmp 59) (.tmp 63) rfl (HO9.alloc _) rfl HL8.out rfl (cell_new w9 _ _) h8 rfl (by omega) (Nat.le_trans HB9.size (by simp)) ?_; intro A10 c10 w10 ho10 hg10 hA10; have HO10 := zH ho10; have HB10 := zH (bapp (bal HB9.out _) (HO9.alloc _) hg10); have HL10 := zH (show ([78, kb, 1, k8] ++ x ++ key ++ SL ++ CL ++ [h8]).length = 4 + nx + nk + nf + ncn + 1 by rw [aZN, HL8.out]; rfl); clear ho10 hg10 hA10)
   | (at_builtin; refine wpList_appB _ rfl (.tmp 65) (.tmp 66) rfl HO10.out rfl HL10.out (RH.below HB10.out) rfl rfl (by omega) HB10.size ?_; intro A11 c11 w11 ho11 hg11 hA11; have HO11 := zH ho11; have HB11 := zH (bapp HB10.out HO10.out hg11); clear ho11 hg11 hA11))
  have hww : Below w.heap.size w W2 := bcall HB1 HBW.out;have hsv := HO11.out;rw [HSV.out] at hsv;have hln : SV.length = 4 + nx + nk + nf + ncn + 1 + hd.length := by rw [<- HSV.out, aZN, show ([78, kb, 1, k8] ++ x ++ key ++ SL ++ CL ++ [h8]).length = _ from HL10.out]
  exact bodyPost_ret (results_tmp rfl _ _ _) rfl ⟨A11, _, c11, rfl, by omega, hln, hsv.mono hww.size, hww.trans (HB11.mono hww.size)⟩
end Go.Proofs.YtboihcigcfmhhaaGreat

/-
  Z35: contracts and lemmas alone; no statement is claimed here.
-/
import Derived.Test.YtmapfcdffklopaaGreatZx
import Derived.Test.YtmapfcdffklopaaGreatZ33
namespace Go.Proofs.YtmapfcdffklopaaGreat
open Go renaming setRow_other → bZC
open _root_.Nat renaming le_trans → aZL
open _root_.List renaming length_take → aZJ
open Go renaming wpList_load_row → aZH
open Go renaming wpList_store_row → aZE
open _root_.Nat renaming le_refl → aZC
open Go renaming bodyPost_ret → aZB
open Lib renaming hid -> zH
open Go.RowKit
attribute [local go_sem] pureUpon Ords.of
set_option maxRecDepth 20000 in
set_option maxHeartbeats 8000000 in
theorem rdecSmall_any (ext : Bool) (A : Option Addr) (c : Nat) (b : List UInt8) (w : World) (hb : b.length = 32) (hc : 32 <= c) (hr : RS cB w w.heap.size A b) :
  Calls Tryz.prog 105 #[.int .i64 2, .slice A 32 c, .bool ext] w (RDecAns false ext b w) := by
 obtain ⟨ad, rfl, hab⟩ := hr.some_of (by omega);have hrt := fun W => refSized_any false (some ad) 32 c W
 change ∀ W, Calls _ _ #[.int .i64 2, .slice (some ad) 32 c] W fun e w' => e = .returned (.int .i64 0) /\ W = w' at hrt
 have hmo := fun W => refMost_any false W
 change ∀ W, Calls _ _ #[.int .i64 2] W fun e w' => e = .returned (.int .i64 32) /\ W = w' at hmo
 have hpl := fun f k hf hk => refFieldAt_any false f k hf hk
 have hrd := fun (at_ sz : Nat) (W : World) hr h1 h2 => refRead_any (some ad) c 32 at_ sz W.heap.size b W hb (by decide) hr h1 h2
 obtain ⟨d0, e0⟩ : ∃ d, d = fld b 0 1 := ⟨_, rfl⟩;obtain ⟨d1, e1⟩ : ∃ d, d = fld b 1 1 := ⟨_, rfl⟩;obtain ⟨d2, e2⟩ : ∃ d, d = fld b 2 1 := ⟨_, rfl⟩;obtain ⟨d3, e3⟩ : ∃ d, d = fld b 3 1 := ⟨_, rfl⟩;obtain ⟨d4, e4⟩ : ∃ d, d = fld b 4 4 := ⟨_, rfl⟩;obtain ⟨d7, e7⟩ : ∃ d, d = fld b 14 1 := ⟨_, rfl⟩;obtain ⟨d8, e8⟩ : ∃ d, d = fld b 15 1 := ⟨_, rfl⟩;obtain ⟨o6, eo6⟩ : ∃ d, d = fld b 8 (if ext then 4 else 6) := ⟨_, rfl⟩;obtain ⟨x4, ex⟩ : ∃ d, d = fld b 12 2 := ⟨_, rfl⟩;have L0 := zH (show d0 < 256 from by rw [e0]; exact fld_lt b _ 1);have L1 := zH (show d1 < 256 from by rw [e1]; exact fld_lt b _ 1);have L2 := zH (show d2 < 256 from by rw [e2]; exact fld_lt b _ 1);have L3 := zH (show d3 < 256 from by rw [e3]; exact fld_lt b _ 1);have L7 := zH (show d7 < 256 from by rw [e7]; exact fld_lt b _ 1);have L8 := zH (show d8 < 256 from by rw [e8]; exact fld_lt b _ 1);have W4 := zH (show IntKind.u32.wrap (d4 : Int) = (d4 : Int) from by have h := fld_lt b 4 4; rw [<- e4] at h; simp [IntKind.wrap, IntKind.bits, IntKind.signed]; omega);have HXW := zH (show IntKind.u32.wrap (x4 : Int) = (x4 : Int) from by have h := fld_lt b 12 2; rw [<- ex] at h; simp [IntKind.wrap, IntKind.bits, IntKind.signed]; omega);have hDV : dvL false ext b = [0, d0, d1, d2, d3, d4, o6, x4, d7, d8] := by
  rw [e0, e1, e2, e3, e4, e7, e8, eo6, ex]
  cases ext <;> kernel_rfl
 have hPR : ∀ s q, decPr false ext b s q = ⟨d0, d1, d2, d3, d4, (o6 : Nat), if ext then (x4 : Int) else 0, d7, d8, s, q⟩ := fun s q => by
  rw [e0, e1, e2, e3, e4, e7, e8, eo6, ex]
  cases ext <;> rfl
 have hsl : chk 2 (decPr false ext b ⟨some ⟨ad.block, ad.off + 16, none⟩, 8, c - 16⟩ ⟨some ⟨ad.block, ad.off + 24, none⟩, 8, c - 24⟩) = chk (kOf false) (decPr false ext b (sl4 false) (sl4 false)) := chk_sl false _ _ _ _ _ _ _ _ _ _ _ (by show 4 * 8 <= 32; decide) (by show 4 * 8 <= 32; decide);have hnn := fun (W : World) hc => refNormalNo_any 2 (decPr false ext b ⟨some ⟨ad.block, ad.off + 16, none⟩, 8, c - 16⟩ ⟨some ⟨ad.block, ad.off + 24, none⟩, 8, c - 24⟩) W hc
 have hny := fun (W : World) hc (hr : RS cB W W.heap.size (some ad) b) => refNormal_any 2 (decPr false ext b ⟨some ⟨ad.block, ad.off + 16, none⟩, 8, c - 16⟩ ⟨some ⟨ad.block, ad.off + 24, none⟩, 8, c - 24⟩) ((b.drop 16).take 8) ((b.drop 24).take 8) W hc (dec_mid hb (by decide)) (dec_mid hb (by decide)) (by show 8 <= 1024; decide) (by show 8 <= 1024; decide) (hr.mid (by omega) (by decide) _) (hr.mid (by omega) (by decide) _)
 rw [hsl] at hnn hny;obtain ⟨E, hE⟩ : ∃ E, E = chk (kOf false) (decPr false ext b (sl4 false) (sl4 false)) := ⟨_, rfl⟩;rw [<- hE] at hnn hny;simp only [hPR] at hnn hny;unfold Pr.slk at hny;unfold Pr.v Pr.cs Sl.v at hnn hny;unfold zeroPar Sl.nil at hnn;dsimp only at hnn hny;have hzs := zeroPar.size;have hzo := zeroPar.ones;have HRT := zH hrt; have HMO := zH hmo; have HPL := zH hpl; have HRD := zH hrd; have HRB := zH hr; have HLB := zH hb; have ZS := zH hzs; have ZO := zH hzo; have HNZ := zH hnn; have HNY := zH hny; have HEE := zH hE; have EX := zH ex; have HDV := zH hDV; have HPR := zH hPR;clear hrt hmo hpl hrd hr hb hzs hzo hnn hny hE e0 e1 e2 e3 e4 e7 e8 eo6 ex hDV hPR hsl;unfold RDecAns;go_enter Tryz.func105, Tryz.ntmps105;go_wp2_with (go_at_call 125; refine (HRT _).mono ?_; rintro e1 w1 ⟨rfl, rfl⟩);go_loop [9] (fun i => i = .int .i64 18) (fun _ => 0)
 case atStart => rfl
 case round =>
  exact zS0
end Go.Proofs.YtmapfcdffklopaaGreat

/-
  Save of the program. Contracts alone; no statement is claimed here.
-/
import Derived.Test.YtboihcigcfmhhaaState3
import Derived.Test.YtboihcigcfmhhaaHex
namespace Go.Proofs.Ytboihcigcfmhhaa
open Go.RowKit
attribute [local go_sem] pureUpon Ords.of

namespace Eng
def fs : Eng → FuncId
  | .big _ => 99
  | .small _ => 105
def lo : Eng → UInt64
  | .big s => s.lo
  | .small s => s.lo
def hi : Eng → UInt64
  | .big s => s.hi
  | .small s => s.hi
def held : Eng → List UInt8
  | .big s => s.held
  | .small s => s.held
def stateL : Eng → List UInt8
  | .big s => flat s.H
  | .small s => flat3 s.H
theorem run_state (e : Eng) (g k : Nat) (hk : 0 < k) (w : World) : Sem.run Try.prog (method k e.T (.pointer (some ⟨g, 0, none⟩)) "quern/node.state") w = .ok (e.fs, .pointer (some ⟨g, 0, none⟩)) w := by
  obtain ⟨n, rfl⟩ : ∃ n, k = n + 1 := ⟨k - 1, by omega⟩
  clear hk
  cases e <;> (show _ = _; kernel_rfl)
theorem enters_s (e : Eng) (args : Array Value) (w : World) : (callFunc e.fs args).run Try.prog w = .ok (.enter e.fs args) w := by
  cases e <;> (show _ = _; kernel_rfl)
end Eng
theorem eng_state (e : Eng) (g base : Nat) (A : Option Addr) (c : Nat) (w : World) (hE : e.inn w base g A c) :
    Calls Try.prog e.fs #[.pointer (some ⟨g, 0, none⟩)] w fun r w' => ∃ A1 c1 A2 c2, r = .returned (.tuple #[.slice A1 e.full c1, .agg #[.int .u64 (wrd e.lo), .int .u64 (wrd e.hi)], .slice A2 e.held.length c2]) ∧ OS cB w' w.heap.size A1 c1 e.stateL ∧ OS cB w' w.heap.size A2 c2 e.held ∧ Below w.heap.size w w' := by
  cases e with
  | big s => exact state64_any g base s A c w hE
  | small s => exact state32_any g base s A c w hE
theorem Eng.state_len {w : World} {base g c : Nat} {A : Option Addr} (e : Eng) (h : e.inn w base g A c) : e.stateL.length = e.full ∧ e.held.length ≤ 2 * e.full := by
  cases e with
  | big s => exact ⟨by show (flat _).length = 64; rw [flat_len, (E64.ok h).H], (E64.ok h).held⟩
  | small s => exact ⟨by show (flat3 _).length = 32; rw [flat3_len, (E32.ok h).H], (E32.ok h).held⟩
def countL (big : Bool) (lo hi : UInt64) : List UInt8 := if big then storeN lo.toNat 8 ++ storeN hi.toNat 8 else storeN lo.toNat 8
def saveL (big : Bool) (x key : List UInt8) (last : Bool) (e : Eng) : List UInt8 :=
  ([78, (if big then 1 else 2), (if last then 1 else 0), UInt8.ofNat key.length] ++ x ++ key ++ e.stateL ++ countL big e.lo e.hi ++ [UInt8.ofNat e.held.length]) ++ e.held
set_option maxRecDepth 20000 in
set_option maxHeartbeats 1000000 in
theorem counter_any (big : Bool) (lo hi : UInt64) (w : World) :
    Calls Try.prog 21 #[.int .i64 (kOf big), .agg #[.int .u64 (wrd lo), .int .u64 (wrd hi)]] w fun r w' => ∃ A c, r = .returned (.slice A (if big then 16 else 8) c) ∧ OS cB w' w.heap.size A c (countL big lo hi) ∧ Below w.heap.size w w' := by
  cases big with
  | false =>
    show Calls _ _ #[.int .i64 2, _] w _
    go_enter Try.func21, Try.ntmps21
    go_wp2_with (go_at_call 42; refine (store64_any _ _).mono ?_; rintro e w1 ⟨A1, c1, rfl, ho1, hbw1⟩; (first | refine withN hbw1 ?_ | refine withD hbw1 ?_ | refine with0 hbw1 ?_); intro hcw1 hfw1; have z0w1 : w.heap.size < w1.heap.size := (by have := hbw1.size; (try simp at this); omega))
    exact bodyPost_ret (results_tmp rfl _ _ _) rfl ⟨A1, c1, rfl, ho1.mono (by simp), bcall (bal (b0 w) _) hbw1⟩
  | true =>
    show Calls _ _ #[.int .i64 1, _] w _
    go_enter Try.func21, Try.ntmps21
    go_wp2_with fail
    refine (store64_any lo _).mono ?_
    rintro e1 w1 ⟨A1, c1, rfl, ho1, hb1⟩
    have hc1 : w1.cell? ⟨w.heap.size, 1, none⟩ = some (.int .u64 (wrd hi)) := (hb1.cell (p := ⟨w.heap.size, 1, none⟩) (by simp)).trans ((Blk.new w _ _).cell 1)
    have HO1 := Lib.hid (ho1.mono (show w.heap.size ≤ _ by simp)); have HB1 := Lib.hid (bcall (bal (b0 w) _) hb1); clear ho1 hb1
    go_wp2_with fail
    refine (store64_any hi _).mono ?_
    rintro e2 w2 ⟨A2, c2, rfl, ho2, hb2⟩
    have hO1 := HO1.out.below hb2 (Nat.le_refl _)
    have HO1' := Lib.hid hO1; have HO2 := Lib.hid ho2; have HB2 := Lib.hid (bcall HB1.out hb2); clear hO1 ho2 hb2 hc1
    go_wp2_with (at_builtin; refine wpList_appB _ rfl (.tmp 11) (.tmp 14) rfl HO1'.out rfl (storeN_len _ _) HO2.out.reads rfl (storeN_len _ _) (by omega) HB2.out.size ?_; intro A3 c3 w3 ho3 hg3 hA3; have HO3 := Lib.hid ho3; have HB3 := Lib.hid (bapp HB2.out HO1'.out hg3); clear ho3 hg3 hA3)
    exact bodyPost_ret (results_tmp rfl _ _ _) rfl ⟨A3, c3, rfl, HO3.out, HB3.out⟩
theorem countL_len (big : Bool) (lo hi : UInt64) : (countL big lo hi).length = if big then 16 else 8 := by
  cases big
  · exact storeN_len _ _
  · show (storeN lo.toNat 8 ++ storeN hi.toNat 8).length = 16
    rw [List.length_append, storeN_len, storeN_len]
set_option maxRecDepth 20000 in
set_option maxHeartbeats 4000000 in
theorem save_any (p d : Nat) (big last : Bool) (x key : List UInt8) (wr : UInt64) (e : Eng) (F : List Nat) (w : World) (hN : Nd w p big d x key last wr e F) (hx : x.length ≤ 64) (hk : key.length ≤ 128) :
    Calls Try.prog 9 #[.pointer (some ⟨p, 0, none⟩)] w fun r w' => ∃ A' n' c', r = .returned (.slice A' n' c') ∧ n' ≤ 1024 ∧ (saveL big x key last e).length = n' ∧ OS cB w' w.heap.size A' c' (saveL big x key last e) ∧ Below w.heap.size w w' := by
  obtain ⟨Ax, Ak, nx, nk, cx, ck, g, A, c, hNN, rfl⟩ := hN
  have hb := hNN.blk
  have hno := fun (T : TypeId) (v : Value) h6 => noneSame_any p T v _ w hb h6
  have hno2 := hno e.T (.pointer (some ⟨g, 0, none⟩)) rfl
  have c0 : w.cell? ⟨p, 0, none⟩ = some (.int .i64 (kOf big)) := hb.cell 0
  have c2 : w.cell? ⟨p, 2, none⟩ = some (.slice Ax nx cx) := hb.cell 2
  have c3 : w.cell? ⟨p, 3, none⟩ = some (.slice Ak nk ck) := hb.cell 3
  have c4 : w.cell? ⟨p, 4, none⟩ = some (.bool last) := hb.cell 4
  have c6 : w.cell? ⟨p, 6, none⟩ = some (.iface e.T (.pointer (some ⟨g, 0, none⟩))) := hb.cell 6
  have hf := hb.frozen
  have hlt := hb.lt
  have hlx := hNN.lx
  have hlk := hNN.lk
  have hrx := hNN.ox.reads
  have hrk := hNN.ok.reads
  have hmW : ∀ (g k : Nat) (w : World), 0 < k → Sem.run Try.prog (method k e.T (.pointer (some ⟨g, 0, none⟩)) "quern/node.state") w = .ok (e.fs, .pointer (some ⟨g, 0, none⟩)) w := fun g k w hk => e.run_state g k hk w
  have heL : ∀ args w, (callFunc e.fs args).run Try.prog w = .ok (.enter e.fs args) w := fun args w => e.enters_s args w
  have hst := eng_state e g 0 A c w hNN.eng
  have hsl := e.state_len hNN.eng
  have hfl : e.full ≤ 64 := by (cases e; exact Nat.le_refl _; exact (by decide : (32 : Nat) ≤ 64))
  have hct := fun W => counter_any big e.lo e.hi W
  have hcl := countL_len big e.lo e.hi
  have hu8k : IntKind.u8.wrap (kOf big) = byt (if big then 1 else 2) := by cases big <;> rfl
  have hu8n : IntKind.u8.wrap (nk : Int) = byt (UInt8.ofNat nk) := by unfold byt; rw [UInt8.toNat_ofNat']; simp [IntKind.wrap, IntKind.bits, IntKind.signed]
  have hu8h : IntKind.u8.wrap (e.held.length : Int) = byt (UInt8.ofNat e.held.length) := by unfold byt; rw [UInt8.toNat_ofNat']; simp [IntKind.wrap, IntKind.bits, IntKind.signed]
  obtain ⟨SV, hSV⟩ : ∃ SV, saveL big x key last e = SV := ⟨_, rfl⟩
  rw [hSV]
  unfold saveL at hSV
  rw [hlx] at hx
  rw [hlk] at hk hSV
  obtain ⟨hsl1, hsl2⟩ := hsl
  have hn64 : (if big then 16 else 8 : Nat) ≤ 16 := by cases big <;> decide
  generalize (if big then 16 else 8 : Nat) = ncn at *
  generalize countL big e.lo e.hi = CL at *
  generalize e.lo = lo at *
  generalize e.hi = hi at *
  generalize e.held = hd at *
  generalize e.stateL = SL at *
  generalize e.full = nf at *
  generalize kOf big = kk at *
  generalize (if big then 1 else 2 : UInt8) = kb at *
  generalize UInt8.ofNat hd.length = h8 at *
  generalize UInt8.ofNat nk = k8 at *
  have HST := Lib.hid hst; have HCT := Lib.hid hct; have HCL := Lib.hid hcl; have HNO := Lib.hid hno2; have HLX := Lib.hid hlx; have HLK := Lib.hid hlk; have HRX := Lib.hid hrx; have HRK := Lib.hid hrk; have HSL := Lib.hid hsl1
  clear hst hct hcl hno hno2 hlx hlk hrx hrk hsl1 hb hNN
  have hu := Lib.hid Try.underlying56
  cases last
  · have HSV : Hid ([78, kb, 0, k8] ++ x ++ key ++ SL ++ CL ++ [h8] ++ hd = SV) := hSV
    clear hSV
    go_enter Try.func9, Try.ntmps9
    go_wp2_with (go_at_call 17; refine HNO.out.mono ?_; rintro e0 w0 ⟨rfl, rfl⟩)
    refine HST.out.mono ?_
    rintro e1 w1 ⟨A1, c1, A2, c2', rfl, ho1, ho2, hb1⟩
    have HO1 := Lib.hid (ho1.reads); have HO2 := Lib.hid ho2.reads; have HB1 := Lib.hid hb1
    have hlt1 : p < w1.heap.size := Nat.lt_of_lt_of_le hlt hb1.size
    have d0 : w1.cell? ⟨p, 0, none⟩ = some (.int .i64 kk) := (hb1.cell (p := ⟨p, 0, none⟩) hlt).trans c0
    have d2 : w1.cell? ⟨p, 2, none⟩ = some (.slice Ax nx cx) := (hb1.cell (p := ⟨p, 2, none⟩) hlt).trans c2
    have d3 : w1.cell? ⟨p, 3, none⟩ = some (.slice Ak nk ck) := (hb1.cell (p := ⟨p, 3, none⟩) hlt).trans c3
    clear ho1 ho2 hb1 c0 c2 c3 c4 c6 hf
    go_wp2_with fail
    have hBC := Blk.new w1 56 #[.int .u64 (wrd lo), .int .u64 (wrd hi)]
    have hBW := bal (b0 w1) (.cells #[.int .u64 (wrd lo), .int .u64 (wrd hi)] 56)
    have e0 : (w1.alloc (.cells #[.int .u64 (wrd lo), .int .u64 (wrd hi)] 56)).cell? ⟨p, 0, none⟩ = some (.int .i64 kk) := (hBW.cell (p := ⟨p, 0, none⟩) hlt1).trans d0
    have e3 : (w1.alloc (.cells #[.int .u64 (wrd lo), .int .u64 (wrd hi)] 56)).cell? ⟨p, 3, none⟩ = some (.slice Ak nk ck) := (hBW.cell (p := ⟨p, 3, none⟩) hlt1).trans d3
    have hW2 : w1.heap.size < (w1.alloc (.cells #[.int .u64 (wrd lo), .int .u64 (wrd hi)] 56)).heap.size := by simp
    have HBC := Lib.hid hBC; have HBW := Lib.hid hBW; clear hBC hBW
    generalize w1.alloc (.cells #[.int .u64 (wrd lo), .int .u64 (wrd hi)] 56) = W2 at *
    have hltB : p < W2.heap.size := by omega
    have RX := Lib.hid (((HRX.out.below HB1.out).more HB1.out.size).below HBW.out |>.more HBW.out.size)
    have RK := Lib.hid (((HRK.out.below HB1.out).more HB1.out.size).below HBW.out |>.more HBW.out.size)
    have RS1 := Lib.hid ((HO1.out.below HBW.out).more HBW.out.size)
    have RH := Lib.hid ((HO2.out.below HBW.out).more HBW.out.size)
    have e2 : W2.cell? ⟨p, 2, none⟩ = some (.slice Ax nx cx) := (HBW.out.cell (p := ⟨p, 2, none⟩) hlt1).trans d2
    clear d0 d2 d3
    have e2' := e2
    refine wp_region_ords (fun _ => True) (fun _ _ h => h) (Ords.of [(0, 0), (0, 1), (0, 2), (1, 3), (0, 4), (0, 5), (0, 6), (0, 7), (0, 8), (1, 9), (0, 10), (0, 11), (2, 12), (0, 13)] .fin) (by kernel_rfl) rfl (by kernel_rfl) (by kernel_rfl) (fun c a d v w h => by cases d <;> exact h) trivial ?_
    iterate 2 (refine ords_pure rfl (fun K hK => ?_); go_simp; refine hK _ ?_; clear hK K; refine ords_pure rfl (fun K hK => ?_); go_simp; refine hK _ ?_; clear hK K; refine ords_pure rfl (fun K hK => ?_); go_simp; refine hK _ ?_; clear hK K; refine ords_read rfl (fun K hK => ?_); go_simp; refine hK _ ?_; clear hK K; refine ords_pure rfl (fun K hK => ?_); go_simp; refine hK _ ?_; clear hK K; refine ords_pure rfl (fun K hK => ?_); go_simp; refine hK _ ?_; clear hK K)
    refine ords_loud rfl (fun n1 => ?_)
    go_wp2
    refine ⟨trivial, ?_⟩
    refine ords_pure rfl (fun K hK => ?_); go_simp; refine hK _ ?_; clear hK K
    refine ords_end (fun n2 => ?_)
    have hob := (OS.lit (cd := cB) (W2.drewN n1) [78, kb, 0, k8] #[.int .u8 78, .int .u8 (byt kb), .int .u8 0, .int .u8 (byt k8)] 4 rfl rfl (by decide)).drewN n2
    change OS cB (((W2.drewN n1).alloc (.cells #[.int .u8 78, .int .u8 (byt kb), .int .u8 0, .int .u8 (byt k8)] 5)).drewN n2) W2.heap.size (some ⟨W2.heap.size, 0, none⟩) 4 _ at hob
    have hb3 := bdr (bal (bdr (b0 W2) n1) (.cells #[.int .u8 78, .int .u8 (byt kb), .int .u8 0, .int .u8 (byt k8)] 5)) n2
    generalize ((W2.drewN n1).alloc (.cells #[.int .u8 78, .int .u8 (byt kb), .int .u8 0, .int .u8 (byt k8)] 5)).drewN n2 = W3 at *
    have HOb := Lib.hid hob; have HB3 := Lib.hid hb3
    have g2 : W3.cell? ⟨p, 2, none⟩ = some (.slice Ax nx cx) := (hb3.cell (p := ⟨p, 2, none⟩) hltB).trans e2
    clear hob hb3
    go_wp2_with (first
      | (at_builtin; refine wpList_appB _ rfl (.tmp 36) (.tmp 40) rfl HOb.out rfl rfl (RX.out.below HB3.out) rfl HLX.out (by omega) HB3.out.size ?_; intro A4 c4 w4 ho4 hg4 hA4; have HO4 := Lib.hid ho4; have HB4 := Lib.hid (bapp HB3.out HOb.out hg4); have HL4 := Lib.hid (show ([78, kb, 0, k8] ++ x).length = 4 + nx by rw [List.length_append, HLX.out]; rfl); have g3 : w4.cell? ⟨p, 3, none⟩ = some (.slice Ak nk ck) := (HB4.out.cell (p := ⟨p, 3, none⟩) hltB).trans e3; clear ho4 hg4 hA4)
      | (at_builtin; refine wpList_appB _ rfl (.tmp 42) (.tmp 46) rfl HO4.out rfl HL4.out (RK.out.below HB4.out) rfl HLK.out (by omega) HB4.out.size ?_; intro A5 c5 w5 ho5 hg5 hA5; have HO5 := Lib.hid ho5; have HB5 := Lib.hid (bapp HB4.out HO4.out hg5); have HL5 := Lib.hid (show ([78, kb, 0, k8] ++ x ++ key).length = 4 + nx + nk by rw [List.length_append, HL4.out, HLK.out]); clear ho5 hg5 hA5)
      | (at_builtin; refine wpList_appB _ rfl (.tmp 48) (.tmp 49) rfl HO5.out rfl HL5.out (RS1.out.below HB5.out) rfl HSL.out (by omega) HB5.out.size ?_; intro A6 c6 w6 ho6 hg6 hA6; have HO6 := Lib.hid ho6; have HB6 := Lib.hid (bapp HB5.out HO5.out hg6); have HL6 := Lib.hid (show ([78, kb, 0, k8] ++ x ++ key ++ SL).length = 4 + nx + nk + nf by rw [List.length_append, HL5.out, HSL.out]); have g0 : w6.cell? ⟨p, 0, none⟩ = some (.int .i64 kk) := (HB6.out.cell (p := ⟨p, 0, none⟩) hltB).trans e0; clear ho6 hg6 hA6))
    have HBC6 := Lib.hid (HBC.out.below HB6.out hW2)
    refine wp_region_ords (fun _ => True) (fun _ _ h => h) (Ords.of [(0, 0), (0, 1), (0, 2), (0, 3), (1, 4), (1, 5), (2, 6), (2, 7), (0, 8)] .fin) (by kernel_rfl) rfl (by kernel_rfl) (by kernel_rfl) (fun c a d v w h => by cases d <;> exact h) trivial ?_
    iterate 4 (refine ords_pure rfl (fun K hK => ?_); go_simp; refine hK _ ?_; clear hK K)
    refine ords_read rfl (fun K hK => ?_); go_simp; refine hK _ ?_; clear hK K
    refine ords_readV (v := Value.agg [.int .u64 (wrd lo), .int .u64 (wrd hi)].toArray) rfl rfl (fun m9 => pure_load_mid 56 (.tmp 5) rfl w1.heap.size 0 rfl _ _ (HBC6.out.drewN m9).whole hu.out rfl (by kernel_rfl)) ?_; go_simp
    refine ords_loud rfl (fun n1 => ?_)
    go_wp2_with (go_at_call 21; refine (HCT.out _).mono ?_; rintro e7 w7 ⟨A7, c7, rfl, ho7, hb7⟩; have HO7 := Lib.hid ho7; have HB7 := Lib.hid (bcall (bdr HB6.out n1) hb7); have HO67 := Lib.hid ((HO6.out.drewN n1).below hb7 (Nat.le_refl _)); clear ho7 hb7)
    try (refine ⟨trivial, ?_⟩)
    refine ords_loud rfl (fun n2 => ?_)
    (refine wpList_appB _ rfl (.tmp 51) (.tmp 57) rfl (HO67.out.drewN n2) rfl HL6.out (HO7.out.reads.drewN n2) rfl HCL.out (by omega) HB7.out.size ?_; intro A8 c8 w8 ho8 hg8 hA8; have HO8 := Lib.hid ho8; have HB8 := Lib.hid (bapp (bdr HB7.out n2) (HO67.out.drewN n2) hg8); have HL8 := Lib.hid (show ([78, kb, 0, k8] ++ x ++ key ++ SL ++ CL).length = 4 + nx + nk + nf + ncn by rw [List.length_append, HL6.out, HCL.out]); clear ho8 hg8 hA8; go_wp2)
    try (refine ⟨trivial, ?_⟩)
    refine ords_pure rfl (fun K hK => ?_); go_simp; refine hK _ ?_; clear hK K
    refine ords_end (fun n3 => ?_)
    have hO9 := HO8.out.drewN n3
    have hB9 := bdr HB8.out n3
    generalize w8.drewN n3 = w9 at *
    have HO9 := Lib.hid hO9; have HB9 := Lib.hid hB9; clear hO9 hB9
    go_wp2_with (first
      | (at_builtin; refine wpList_appB1 _ rfl (.tmp 59) (.tmp 63) rfl (HO9.out.alloc _) rfl HL8.out rfl (cell_new w9 _ _) h8 rfl (by omega) (Nat.le_trans HB9.out.size (by simp)) ?_; intro A10 c10 w10 ho10 hg10 hA10; have HO10 := Lib.hid ho10; have HB10 := Lib.hid (bapp (bal HB9.out _) (HO9.out.alloc _) hg10); have HL10 := Lib.hid (show ([78, kb, 0, k8] ++ x ++ key ++ SL ++ CL ++ [h8]).length = 4 + nx + nk + nf + ncn + 1 by rw [List.length_append, HL8.out]; rfl); clear ho10 hg10 hA10)
      | (at_builtin; refine wpList_appB _ rfl (.tmp 65) (.tmp 66) rfl HO10.out rfl HL10.out (RH.out.below HB10.out) rfl rfl (by omega) HB10.out.size ?_; intro A11 c11 w11 ho11 hg11 hA11; have HO11 := Lib.hid ho11; have HB11 := Lib.hid (bapp HB10.out HO10.out hg11); clear ho11 hg11 hA11))
    have hww : Below w.heap.size w W2 := bcall HB1.out HBW.out
    have hsv := HO11.out
    rw [HSV.out] at hsv
    have hln : SV.length = 4 + nx + nk + nf + ncn + 1 + hd.length := by rw [← HSV.out, List.length_append, show ([78, kb, 0, k8] ++ x ++ key ++ SL ++ CL ++ [h8]).length = _ from HL10.out]
    exact bodyPost_ret (results_tmp rfl _ _ _) rfl ⟨A11, _, c11, rfl, by omega, hln, hsv.mono hww.size, hww.trans (HB11.out.mono hww.size)⟩
  · have HSV : Hid ([78, kb, 1, k8] ++ x ++ key ++ SL ++ CL ++ [h8] ++ hd = SV) := hSV
    clear hSV
    go_enter Try.func9, Try.ntmps9
    go_wp2_with (go_at_call 17; refine HNO.out.mono ?_; rintro e0 w0 ⟨rfl, rfl⟩)
    refine HST.out.mono ?_
    rintro e1 w1 ⟨A1, c1, A2, c2', rfl, ho1, ho2, hb1⟩
    have HO1 := Lib.hid (ho1.reads); have HO2 := Lib.hid ho2.reads; have HB1 := Lib.hid hb1
    have hlt1 : p < w1.heap.size := Nat.lt_of_lt_of_le hlt hb1.size
    have d0 : w1.cell? ⟨p, 0, none⟩ = some (.int .i64 kk) := (hb1.cell (p := ⟨p, 0, none⟩) hlt).trans c0
    have d2 : w1.cell? ⟨p, 2, none⟩ = some (.slice Ax nx cx) := (hb1.cell (p := ⟨p, 2, none⟩) hlt).trans c2
    have d3 : w1.cell? ⟨p, 3, none⟩ = some (.slice Ak nk ck) := (hb1.cell (p := ⟨p, 3, none⟩) hlt).trans c3
    clear ho1 ho2 hb1 c0 c2 c3 c4 c6 hf
    go_wp2_with fail
    have hBC := Blk.new w1 56 #[.int .u64 (wrd lo), .int .u64 (wrd hi)]
    have hBW := bal (b0 w1) (.cells #[.int .u64 (wrd lo), .int .u64 (wrd hi)] 56)
    have e0 : (w1.alloc (.cells #[.int .u64 (wrd lo), .int .u64 (wrd hi)] 56)).cell? ⟨p, 0, none⟩ = some (.int .i64 kk) := (hBW.cell (p := ⟨p, 0, none⟩) hlt1).trans d0
    have e3 : (w1.alloc (.cells #[.int .u64 (wrd lo), .int .u64 (wrd hi)] 56)).cell? ⟨p, 3, none⟩ = some (.slice Ak nk ck) := (hBW.cell (p := ⟨p, 3, none⟩) hlt1).trans d3
    have hW2 : w1.heap.size < (w1.alloc (.cells #[.int .u64 (wrd lo), .int .u64 (wrd hi)] 56)).heap.size := by simp
    have HBC := Lib.hid hBC; have HBW := Lib.hid hBW; clear hBC hBW
    generalize w1.alloc (.cells #[.int .u64 (wrd lo), .int .u64 (wrd hi)] 56) = W2 at *
    have hltB : p < W2.heap.size := by omega
    have RX := Lib.hid (((HRX.out.below HB1.out).more HB1.out.size).below HBW.out |>.more HBW.out.size)
    have RK := Lib.hid (((HRK.out.below HB1.out).more HB1.out.size).below HBW.out |>.more HBW.out.size)
    have RS1 := Lib.hid ((HO1.out.below HBW.out).more HBW.out.size)
    have RH := Lib.hid ((HO2.out.below HBW.out).more HBW.out.size)
    have e2 : W2.cell? ⟨p, 2, none⟩ = some (.slice Ax nx cx) := (HBW.out.cell (p := ⟨p, 2, none⟩) hlt1).trans d2
    clear d0 d2 d3
    have e2' := e2
    refine wp_region_ords (fun _ => True) (fun _ _ h => h) (Ords.of [(0, 0), (0, 1), (0, 2), (1, 3), (0, 4), (0, 5), (0, 6), (0, 7), (0, 8), (1, 9), (0, 10), (0, 11), (2, 12), (0, 13)] .fin) (by kernel_rfl) rfl (by kernel_rfl) (by kernel_rfl) (fun c a d v w h => by cases d <;> exact h) trivial ?_
    iterate 2 (refine ords_pure rfl (fun K hK => ?_); go_simp; refine hK _ ?_; clear hK K; refine ords_pure rfl (fun K hK => ?_); go_simp; refine hK _ ?_; clear hK K; refine ords_pure rfl (fun K hK => ?_); go_simp; refine hK _ ?_; clear hK K; refine ords_read rfl (fun K hK => ?_); go_simp; refine hK _ ?_; clear hK K; refine ords_pure rfl (fun K hK => ?_); go_simp; refine hK _ ?_; clear hK K; refine ords_pure rfl (fun K hK => ?_); go_simp; refine hK _ ?_; clear hK K)
    refine ords_loud rfl (fun n1 => ?_)
    go_wp2
    refine ⟨trivial, ?_⟩
    refine ords_pure rfl (fun K hK => ?_); go_simp; refine hK _ ?_; clear hK K
    refine ords_end (fun n2 => ?_)
    have hob := (OS.lit (cd := cB) (W2.drewN n1) [78, kb, 1, k8] #[.int .u8 78, .int .u8 (byt kb), .int .u8 1, .int .u8 (byt k8)] 4 rfl rfl (by decide)).drewN n2
    change OS cB (((W2.drewN n1).alloc (.cells #[.int .u8 78, .int .u8 (byt kb), .int .u8 1, .int .u8 (byt k8)] 5)).drewN n2) W2.heap.size (some ⟨W2.heap.size, 0, none⟩) 4 _ at hob
    have hb3 := bdr (bal (bdr (b0 W2) n1) (.cells #[.int .u8 78, .int .u8 (byt kb), .int .u8 1, .int .u8 (byt k8)] 5)) n2
    generalize ((W2.drewN n1).alloc (.cells #[.int .u8 78, .int .u8 (byt kb), .int .u8 1, .int .u8 (byt k8)] 5)).drewN n2 = W3 at *
    have HOb := Lib.hid hob; have HB3 := Lib.hid hb3
    have g2 : W3.cell? ⟨p, 2, none⟩ = some (.slice Ax nx cx) := (hb3.cell (p := ⟨p, 2, none⟩) hltB).trans e2
    clear hob hb3
    go_wp2_with (first
      | (at_builtin; refine wpList_appB _ rfl (.tmp 36) (.tmp 40) rfl HOb.out rfl rfl (RX.out.below HB3.out) rfl HLX.out (by omega) HB3.out.size ?_; intro A4 c4 w4 ho4 hg4 hA4; have HO4 := Lib.hid ho4; have HB4 := Lib.hid (bapp HB3.out HOb.out hg4); have HL4 := Lib.hid (show ([78, kb, 1, k8] ++ x).length = 4 + nx by rw [List.length_append, HLX.out]; rfl); have g3 : w4.cell? ⟨p, 3, none⟩ = some (.slice Ak nk ck) := (HB4.out.cell (p := ⟨p, 3, none⟩) hltB).trans e3; clear ho4 hg4 hA4)
      | (at_builtin; refine wpList_appB _ rfl (.tmp 42) (.tmp 46) rfl HO4.out rfl HL4.out (RK.out.below HB4.out) rfl HLK.out (by omega) HB4.out.size ?_; intro A5 c5 w5 ho5 hg5 hA5; have HO5 := Lib.hid ho5; have HB5 := Lib.hid (bapp HB4.out HO4.out hg5); have HL5 := Lib.hid (show ([78, kb, 1, k8] ++ x ++ key).length = 4 + nx + nk by rw [List.length_append, HL4.out, HLK.out]); clear ho5 hg5 hA5)
      | (at_builtin; refine wpList_appB _ rfl (.tmp 48) (.tmp 49) rfl HO5.out rfl HL5.out (RS1.out.below HB5.out) rfl HSL.out (by omega) HB5.out.size ?_; intro A6 c6 w6 ho6 hg6 hA6; have HO6 := Lib.hid ho6; have HB6 := Lib.hid (bapp HB5.out HO5.out hg6); have HL6 := Lib.hid (show ([78, kb, 1, k8] ++ x ++ key ++ SL).length = 4 + nx + nk + nf by rw [List.length_append, HL5.out, HSL.out]); have g0 : w6.cell? ⟨p, 0, none⟩ = some (.int .i64 kk) := (HB6.out.cell (p := ⟨p, 0, none⟩) hltB).trans e0; clear ho6 hg6 hA6))
    have HBC6 := Lib.hid (HBC.out.below HB6.out hW2)
    refine wp_region_ords (fun _ => True) (fun _ _ h => h) (Ords.of [(0, 0), (0, 1), (0, 2), (0, 3), (1, 4), (1, 5), (2, 6), (2, 7), (0, 8)] .fin) (by kernel_rfl) rfl (by kernel_rfl) (by kernel_rfl) (fun c a d v w h => by cases d <;> exact h) trivial ?_
    iterate 4 (refine ords_pure rfl (fun K hK => ?_); go_simp; refine hK _ ?_; clear hK K)
    refine ords_read rfl (fun K hK => ?_); go_simp; refine hK _ ?_; clear hK K
    refine ords_readV (v := Value.agg [.int .u64 (wrd lo), .int .u64 (wrd hi)].toArray) rfl rfl (fun m9 => pure_load_mid 56 (.tmp 5) rfl w1.heap.size 0 rfl _ _ (HBC6.out.drewN m9).whole hu.out rfl (by kernel_rfl)) ?_; go_simp
    refine ords_loud rfl (fun n1 => ?_)
    go_wp2_with (go_at_call 21; refine (HCT.out _).mono ?_; rintro e7 w7 ⟨A7, c7, rfl, ho7, hb7⟩; have HO7 := Lib.hid ho7; have HB7 := Lib.hid (bcall (bdr HB6.out n1) hb7); have HO67 := Lib.hid ((HO6.out.drewN n1).below hb7 (Nat.le_refl _)); clear ho7 hb7)
    try (refine ⟨trivial, ?_⟩)
    refine ords_loud rfl (fun n2 => ?_)
    (refine wpList_appB _ rfl (.tmp 51) (.tmp 57) rfl (HO67.out.drewN n2) rfl HL6.out (HO7.out.reads.drewN n2) rfl HCL.out (by omega) HB7.out.size ?_; intro A8 c8 w8 ho8 hg8 hA8; have HO8 := Lib.hid ho8; have HB8 := Lib.hid (bapp (bdr HB7.out n2) (HO67.out.drewN n2) hg8); have HL8 := Lib.hid (show ([78, kb, 1, k8] ++ x ++ key ++ SL ++ CL).length = 4 + nx + nk + nf + ncn by rw [List.length_append, HL6.out, HCL.out]); clear ho8 hg8 hA8; go_wp2)
    try (refine ⟨trivial, ?_⟩)
    refine ords_pure rfl (fun K hK => ?_); go_simp; refine hK _ ?_; clear hK K
    refine ords_end (fun n3 => ?_)
    have hO9 := HO8.out.drewN n3
    have hB9 := bdr HB8.out n3
    generalize w8.drewN n3 = w9 at *
    have HO9 := Lib.hid hO9; have HB9 := Lib.hid hB9; clear hO9 hB9
    go_wp2_with (first
      | (at_builtin; refine wpList_appB1 _ rfl (.tmp 59) (.tmp 63) rfl (HO9.out.alloc _) rfl HL8.out rfl (cell_new w9 _ _) h8 rfl (by omega) (Nat.le_trans HB9.out.size (by simp)) ?_; intro A10 c10 w10 ho10 hg10 hA10; have HO10 := Lib.hid ho10; have HB10 := Lib.hid (bapp (bal HB9.out _) (HO9.out.alloc _) hg10); have HL10 := Lib.hid (show ([78, kb, 1, k8] ++ x ++ key ++ SL ++ CL ++ [h8]).length = 4 + nx + nk + nf + ncn + 1 by rw [List.length_append, HL8.out]; rfl); clear ho10 hg10 hA10)
      | (at_builtin; refine wpList_appB _ rfl (.tmp 65) (.tmp 66) rfl HO10.out rfl HL10.out (RH.out.below HB10.out) rfl rfl (by omega) HB10.out.size ?_; intro A11 c11 w11 ho11 hg11 hA11; have HO11 := Lib.hid ho11; have HB11 := Lib.hid (bapp HB10.out HO10.out hg11); clear ho11 hg11 hA11))
    have hww : Below w.heap.size w W2 := bcall HB1.out HBW.out
    have hsv := HO11.out
    rw [HSV.out] at hsv
    have hln : SV.length = 4 + nx + nk + nf + ncn + 1 + hd.length := by rw [← HSV.out, List.length_append, show ([78, kb, 1, k8] ++ x ++ key ++ SL ++ CL ++ [h8]).length = _ from HL10.out]
    exact bodyPost_ret (results_tmp rfl _ _ _) rfl ⟨A11, _, c11, rfl, by omega, hln, hsv.mono hww.size, hww.trans (HB11.out.mono hww.size)⟩
end Go.Proofs.Ytboihcigcfmhhaa

/-
  awake of layer 7, XofRoots' law. Contracts alone; no statement is claimed here.
-/
import Derived.Test.YtgephdbicbmpeaaGreatXofN
import Derived.Test.YtgephdbicbmpeaaGreatXofR
import Derived.Test.YtgephdbicbmpeaaGreatLaw7
import Derived.Test.YtgephdbicbmpeaaGreatOpenX
namespace Go.Proofs.YtgephdbicbmpeaaGreat
open Go.RowKit
attribute [local go_sem] pureUpon Ords.of

set_option maxRecDepth 20000 in
theorem xnone_any (p : Nat) (cs : Array Value) (w : World) (hb : Blk w p 185 cs) (f : Fn) (xs ys : Array Value) (h : cs[76]? = some (.func f xs ys)) :
    Calls Tryz.prog 128 #[.pointer (some ⟨p, 0, none⟩)] w fun r w' => r = .returned (.bool false) ∧ w = w' := by
  have c76 : w.cell? ⟨p, 76, none⟩ = some (.func f xs ys) := (hb.cell 76).trans h
  have hbo : ∀ W, Sem.run Tryz.prog (Go.binOp .eql 105 (.func f xs ys) .nilFunc) W = .ok (.bool false) W := by intro W; rfl
  clear hb h
  go_enter Tryz.func128, Tryz.ntmps128
  go_wp2_with fail
  exact bodyPost_ret (results_tmp rfl _ _ _) rfl ⟨rfl, rfl⟩
set_option maxRecDepth 20000 in
set_option maxHeartbeats 1000000 in
theorem xleft_any (p : Nat) (k f c t : Int) (kn : Bool) (kv sv pv nv rv : Value) (pos hv : Int) (fn : Fn) (xs ys : Array Value) (now : List UInt8) (cs : Array Value) (w : World) (hb : Blk w p 185 cs) (hx : XC cs k f c t kn kv sv pv nv rv pos hv (.func fn xs ys) now) (h0 : 0 ≤ t - pos ∧ t - pos < 18446744073709551616) :
    Calls Tryz.prog 54 #[.pointer (some ⟨p, 0, none⟩)] w fun r w' => r = .returned (.int .u64 (t - pos)) ∧ Below w.heap.size w w' := by
  have hno := fun W hb => xnone_any p cs W hb fn xs ys hx.c76
  have hw : IntKind.u64.wrap (t - pos) = t - pos := by rw [wrap_u64]; omega
  have hpl := hb.lt
  have d3 : w.cell? ⟨p, 3, none⟩ = some (.int .u64 t) := (hb.cell 3).trans hx.c3
  have d10 : w.cell? ⟨p, 10, none⟩ = some (.int .u64 pos) := (hb.cell 10).trans hx.c10
  have HNO := Lib.hid hno; have HB := Lib.hid hb; clear hno hb hx h0
  go_enter Tryz.func54, Tryz.ntmps54
  go_wp2_with (go_at_call 128; refine (HNO.out _ HB.out).mono ?_; rintro e1 w1 ⟨rfl, rfl⟩)
  refine wp_region_B (Ords.of [(0, 0), (0, 1), (0, 2), (0, 3), (0, 4), (0, 5), (0, 6), (0, 7), (0, 8), (0, 9), (0, 10)] .fin) (by kernel_rfl) rfl (by kernel_rfl) (by kernel_rfl) (fun c a d v w h => by cases d <;> exact h) ?_
  refine ords_pure rfl (fun K hK => ?_); go_simp; refine hK _ ?_; clear hK K
  refine ords_pure rfl (fun K hK => ?_); go_simp; refine hK _ ?_; clear hK K
  refine ords_pure rfl (fun K hK => ?_); go_simp; refine hK _ ?_; clear hK K
  refine ords_pure rfl (fun K hK => ?_); go_simp; refine hK _ ?_; clear hK K
  refine ords_heldK rfl (fun K K2 hK hK2 => ?_); go_simp; refine ⟨hK2 _ (fun w9 hS => ?_), hK _ ?_⟩; (clear hK hK2 K K2; (first | refine withN hS ?_ | refine withD hS ?_ | refine with0 hS ?_); intro hcS hfS; go_simp); (clear hK hK2 K K2)
  refine ords_pure rfl (fun K hK => ?_); go_simp; refine hK _ ?_; clear hK K
  refine ords_pure rfl (fun K hK => ?_); go_simp; refine hK _ ?_; clear hK K
  refine ords_pure rfl (fun K hK => ?_); go_simp; refine hK _ ?_; clear hK K
  refine ords_heldK rfl (fun K K2 hK hK2 => ?_); go_simp; refine ⟨hK2 _ (fun w9 hS => ?_), hK _ ?_⟩; (clear hK hK2 K K2; (first | refine withN hS ?_ | refine withD hS ?_ | refine with0 hS ?_); intro hcS hfS; go_simp); (clear hK hK2 K K2)
  refine ords_pure rfl (fun K hK => ?_); go_simp; refine hK _ ?_; clear hK K
  refine ords_pure rfl (fun K hK => ?_); go_simp; refine hK _ ?_; clear hK K
  refine ords_end (fun n1 => ?_)
  go_wp2_with fail
  exact bodyPost_ret (results_tmp rfl _ _ _) rfl ⟨rfl, bdr (b0 w) _⟩
/-- awake of layer 7 -/
theorem awake7_any (w : World) : Calls Tryz.prog 42 #[] w fun e w' => e = .returned (.bool true) ∧ Below w.heap.size w w' := by
  have hnew := fun W => xnew_any true (-1) [] [] [] none 0 0 ⟨none, 0, 0⟩ ⟨none, 0, 0⟩ W (by decide) rfl rfl (RS.nil _) (RS.nil _) rfl (RS.nil _)
  change ∀ W, Calls Tryz.prog _ #[.int .i64 1, .int .i64 (-1), .slice none 0 0, .slice none 0 0, .slice none 0 0] W _ at hnew
  have HNEW := Lib.hid hnew; clear hnew
  go_enter Tryz.func42, Tryz.ntmps42
  go_wp2_with fail
  refine (HNEW.out _).mono ?_
  rintro e1 w1 ⟨g, cs, Ak2, ck2, s2, p2, q, F, rfl, hX1, hb1⟩
  obtain ⟨now, -, hx⟩ := hX1.xc
  have HL := Lib.hid (fun W hb => xleft_any g _ _ _ _ _ _ _ _ _ _ _ _ _ _ _ _ cs W hb hx (by decide)); have HBK := Lib.hid hX1.blk; have HB1 := Lib.hid hb1; clear hX1 hb1 hx
  go_wp2_with (go_at_call 54; refine (HL.out _ HBK.out).mono ?_; rintro e2 w2 ⟨rfl, hb2⟩; have HB2 := Lib.hid (bcall HB1.out hb2); clear hb2; rw [show xTotal (kOf true) (-1) - 0 = 274877906944 from rfl])
  exact bodyPost_ret (results_tmp rfl _ _ _) rfl ⟨rfl, HB2.out⟩
theorem rootS_len (k len : Int) (nk : Nat) (s t : Sl) (ls lp key data : List UInt8) : (rootS k len nk s t ls lp key data).1.length ≤ 64 := by
  unfold rootS
  split
  · exact Nat.zero_le _
  · refine hash_ways (P := fun R => R.1.length ≤ 64) k _ ls lp key false _ data (fun _ => Nat.zero_le _) (fun _ _ _ _ _ => Nat.zero_le _) (fun _ _ _ _ _ => Nat.zero_le _) (fun big _ _ _ n _ hn => ?_)
    rw [List.length_take]
    have := bOf_le big
    omega
set_option maxRecDepth 20000 in
set_option maxHeartbeats 2000000 in
theorem xofRoots_law (k len : Int) (key ls lp data : List UInt8) (Ak Ad : Option Addr) (nk ck nd cd : Nat) (s t : Sl) (w : World) (hkk : key.length = nk ∧ nk ≤ ck ∧ ck ≤ 140737488351232 ∧ RS cB w w.heap.size Ak key) (hss : ls.length = s.n ∧ s.n ≤ s.c ∧ s.c ≤ 140737488351232 ∧ RS cB w w.heap.size s.A ls) (htt : lp.length = t.n ∧ t.n ≤ t.c ∧ t.c ≤ 140737488351232 ∧ RS cB w w.heap.size t.A lp)
    (hdl : data.length = nd) (hnd : nd ≤ cd) (hcd : cd ≤ 9223372036854775807) (hn47 : nd ≤ 140737488351232) (hrd : RS cB w w.heap.size Ad data) :
    Calls Tryz.prog 8 #[sxV k len Ak nk ck s t, .slice Ad nd cd] w fun e w' => e = .returned (.bool true) ∧ Below w.heap.size w w' := by
  have h1 := fun W hrs hrp hrk hrd => xroot_any k len ls lp key data Ak Ad nk ck nd cd s t W hss.1 htt.1 hrs hrp hkk.1 hrk hdl hnd hcd hrd
  have h2 := fun W hrs hrp hrk hrd => refRoot_any k len ls lp key data Ak Ad nk ck nd cd s t W hss.1 htt.1 hrs hrp hkk.1 hrk hdl (by omega) hrd
  have hln := rootS_len k len nk s t ls lp key data
  obtain ⟨-, -, -, hrk⟩ := hkk
  obtain ⟨-, -, -, hrs⟩ := hss
  obtain ⟨-, -, -, hrp⟩ := htt
  have hsame := fun (A1 A2 : Option Addr) (c1 c2 n1 n2 : Nat) (l1 l2 : List UInt8) W h1 h2 hm r1 r2 => same7_any A1 A2 c1 c2 l1 l2 n1 n2 W h1 h2 hm r1 r2
  have haw := fun W => awake7_any W
  generalize rootS k len nk s t ls lp key data = R at *
  obtain ⟨OUT, ERR⟩ := R
  dsimp only at h1 h2 hln
  have H1 := Lib.hid h1; have H2 := Lib.hid h2; have HLN := Lib.hid hln; have HRK := Lib.hid hrk; have HRS := Lib.hid hrs; have HRP := Lib.hid hrp; have HRD := Lib.hid hrd; have HSM := Lib.hid hsame; have HAW := Lib.hid haw
  clear h1 h2 hln hrk hrs hrp hrd hsame haw hdl hnd hcd
  unfold sxV
  unfold Sl.v at *
  go_enter Tryz.func8, Tryz.ntmps8
  have hB0 := Lib.hid (Blk.new w 65 #[.int .i64 k, .int .i64 len, .slice Ak nk ck, .slice s.A s.n s.c, .slice t.A t.n t.c])
  have hW0 := Lib.hid (bal (b0 w) (.cells #[.int .i64 k, .int .i64 len, .slice Ak nk ck, .slice s.A s.n s.c, .slice t.A t.n t.c] 65))
  go_upto_region 1 with fail
  obtain ⟨g, hg⟩ : ∃ g, g = w.heap.size := ⟨_, rfl⟩
  have hb := hB0.out
  rw [← hg] at hb ⊢
  clear hg hB0
  generalize w.alloc _ = w0 at *
  have d0 : w0.cell? ⟨g, 0, none⟩ = some (.int .i64 k) := hb.cell 0
  have d1 : w0.cell? ⟨g, 1, none⟩ = some (.int .i64 len) := hb.cell 1
  have d2 : w0.cell? ⟨g, 2, none⟩ = some (.slice Ak nk ck) := hb.cell 2
  have d3 : w0.cell? ⟨g, 3, none⟩ = some (.slice s.A s.n s.c) := hb.cell 3
  have d4 : w0.cell? ⟨g, 4, none⟩ = some (.slice t.A t.n t.c) := hb.cell 4
  have HB := Lib.hid hb; clear hb
  go_wp2_with fail
  refine (H1.out _ ((HRS.out.below hW0.out).more hW0.out.size) ((HRP.out.below hW0.out).more hW0.out.size) ((HRK.out.below hW0.out).more hW0.out.size) ((HRD.out.below hW0.out).more hW0.out.size)).mono ?_
  rintro e1 w1 ⟨A1, n1, c1, cc1, rfl, hl1, -, ho1, hb1⟩
  have hb := HB.out.below hb1 HB.out.lt
  have HW1 := Lib.hid (bcall hW0.out hb1); have HO1 := Lib.hid ho1; have HL1 := Lib.hid hl1; clear hb1 ho1 hl1 d0 d1 d2 d3 d4
  have d0 : w1.cell? ⟨g, 0, none⟩ = some (.int .i64 k) := hb.cell 0
  have d1 : w1.cell? ⟨g, 1, none⟩ = some (.int .i64 len) := hb.cell 1
  have d2 : w1.cell? ⟨g, 2, none⟩ = some (.slice Ak nk ck) := hb.cell 2
  have d3 : w1.cell? ⟨g, 3, none⟩ = some (.slice s.A s.n s.c) := hb.cell 3
  have d4 : w1.cell? ⟨g, 4, none⟩ = some (.slice t.A t.n t.c) := hb.cell 4
  clear hb
  go_wp2_with (first
    | (go_at_call 40; refine (H2.out _ ((HRS.out.below HW1.out).more HW1.out.size) ((HRP.out.below HW1.out).more HW1.out.size) ((HRK.out.below HW1.out).more HW1.out.size) ((HRD.out.below HW1.out).more HW1.out.size)).mono ?_; rintro e2 w2 ⟨A2, n2, c2, cc2, rfl, hl2, -, ho2, hb2⟩; have HW2 := Lib.hid (bcall HW1.out hb2); have HO2 := Lib.hid ho2; have HL2 := Lib.hid hl2; have HO12 := Lib.hid (HO1.out.below hb2 (Nat.le_refl _)); clear hb2 ho2 hl2)
    | (go_at_call 41; refine (HSM.out A1 A2 cc1 cc2 n1 n2 OUT OUT _ HL1.out HL2.out (by have h1 := HL1.out; have h2 := HLN.out; omega) HO12.out.reads HO2.out.reads).mono ?_; rintro e7 w7 ⟨rfl, hb7⟩; rw [decide_eq_true (rfl : OUT = OUT)]; have HB7 := Lib.hid (bcall HW2.out hb7); clear hb7)
    | (go_at_call 42; refine (HAW.out _).mono ?_; rintro e9 w9 ⟨rfl, hb9⟩; have HB9 := Lib.hid (bcall HB7.out hb9); clear hb9))
  exact bodyPost_ret (results_tmp rfl _ _ _) rfl ⟨rfl, HB9.out⟩
end Go.Proofs.YtgephdbicbmpeaaGreat

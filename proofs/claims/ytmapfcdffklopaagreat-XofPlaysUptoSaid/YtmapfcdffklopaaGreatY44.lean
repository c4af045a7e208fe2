/-
  Y44: contracts and lemmas alone; no statement is claimed here.
-/
import Derived.Test.YtmapfcdffklopaaGreatY43
namespace Go.Proofs.YtmapfcdffklopaaGreat
open Go.RowKit
attribute [local go_sem] pureUpon Ords.of

def opC (what : Int) (Ad : Option Addr) (nd cd : Nat) (n : Int) (b : Nat) : Array Value := #[.int .i64 what, .slice Ad nd cd, .int .i64 n, .int .u64 b]
theorem skipS_le (T pos n : Nat) (h : pos ≤ T) : pos + (skipS T pos n).1 ≤ T := by
 unfold skipS
 split
 ·exact h
 ·show pos + min n (T - pos) ≤ T
  omega
section
variable {H : Nat} {w0 w : World} {p q : Nat} {m : Xm} {t : XSt} {F : List Nat} {Ak : Option Addr} {ck : Nat} {s tt : Sl} {Am : Option Addr} {nm cm : Nat}
set_option maxRecDepth 20000 in
theorem step7_read (h : PS H w0 w p q m t t F Ak ck s tt Am nm cm) (hm : m.Ok) (hnm : nm ≤ 140737488355200) (Ad : Option Addr) (nd cd : Nat) (n : Int) (b : Nat) :
  Calls Tryz.prog 7 #[.pointer (some ⟨p, 0, none⟩), .pointer (some ⟨q, 0, none⟩), .agg (opC 1 Ad nd cd n b)] w fun r w' => ∃ p' t' F' Am' nm' cm', r = .returned (.tuple #[.pointer (some ⟨p', 0, none⟩), .bool true]) ∧ PS H w0 w' p' q m t' t' F' Ak ck s tt Am' nm' cm' ∧ nm' ≤ nm + nd := by
 have hbe := bal (b0 w) (.cells (opC 1 Ad nd cd n b) 33)
 have HP := Lib.hid (h.below hbe); have HK := Lib.hid (Blk.new w 33 (opC 1 Ad nd cd n b)); have HB0 := Lib.hid hbe; have HGF := Lib.hid (h.fresh (Nat.le_refl w.heap.size)); have HX := Lib.hid h
 clear hbe h
 go_enter Tryz.func7, Tryz.ntmps7
 go_upto_region 1 with fail
 obtain ⟨g, hg⟩ : ∃ g, g = w.heap.size := ⟨_, rfl⟩
 rw [← hg] at HK HGF ⊢
 have HGE := Lib.hid hg
 clear hg
 unfold opC
 unfold opC at HP HK HB0
 generalize w.alloc (.cells #[.int .i64 1, .slice Ad nd cd, .int .i64 n, .int .u64 b] 33) = u at *
 have k0 : u.cell? ⟨g, 0, none⟩ = some (.int .i64 1) := HK.out.cell 0
 have k2 : u.cell? ⟨g, 2, none⟩ = some (.int .i64 n) := HK.out.cell 2
 have HRD := Lib.hid (read7_any HP.out hm hnm n)
 go_wp2_with (go_at_call 11; refine HRD.out.mono ?_; rintro e1 w1 ⟨rfl, t', F', hp1⟩)
 exact bodyPost_ret (results_tmp2 rfl _ _ _) rfl ⟨p, t', F', Am, nm, cm, rfl, hp1, Nat.le_add_right _ _⟩
set_option maxRecDepth 20000 in
theorem step7_skip (h : PS H w0 w p q m t t F Ak ck s tt Am nm cm) (hm : m.Ok) (Ad : Option Addr) (nd cd : Nat) (n : Int) (b : Nat) (hb : b < 18446744073709551616) :
  Calls Tryz.prog 7 #[.pointer (some ⟨p, 0, none⟩), .pointer (some ⟨q, 0, none⟩), .agg (opC 2 Ad nd cd n b)] w fun r w' => ∃ p' t' F' Am' nm' cm', r = .returned (.tuple #[.pointer (some ⟨p', 0, none⟩), .bool true]) ∧ PS H w0 w' p' q m t' t' F' Ak ck s tt Am' nm' cm' ∧ nm' ≤ nm + nd := by
 have hbe := bal (b0 w) (.cells (opC 2 Ad nd cd n b) 33)
 have HP := Lib.hid (h.below hbe); have HK := Lib.hid (Blk.new w 33 (opC 2 Ad nd cd n b)); have HB0 := Lib.hid hbe; have HGF := Lib.hid (h.fresh (Nat.le_refl w.heap.size)); have HX := Lib.hid h
 clear hbe h
 go_enter Tryz.func7, Tryz.ntmps7
 go_upto_region 1 with fail
 obtain ⟨g, hg⟩ : ∃ g, g = w.heap.size := ⟨_, rfl⟩
 rw [← hg] at HK HGF ⊢
 have HGE := Lib.hid hg
 clear hg
 unfold opC
 unfold opC at HP HK HB0
 generalize w.alloc (.cells #[.int .i64 2, .slice Ad nd cd, .int .i64 n, .int .u64 b] 33) = u at *
 have k0 : u.cell? ⟨g, 0, none⟩ = some (.int .i64 2) := HK.out.cell 0
 have k3 : u.cell? ⟨g, 3, none⟩ = some (.int .u64 b) := HK.out.cell 3
 have HSK := Lib.hid (HP.out.x.skip hm HP.out.pos b hb)
 go_wp2_with fail
 refine HSK.out.mono ?_
 rintro e1 w1 ⟨rfl, F1, h1, h2, h3⟩
 have hP1 := HP.out.ref h1 (skipS_le m.T t.pos b HP.out.pos) h2 h3 (fun k hk => by rw [List.mem_singleton.1 hk]; exact .inl HP.out.x.here)
 have k3' : w1.cell? ⟨g, 3, none⟩ = some (.int .u64 b) := (HK.out.but h3 (fun hm2 => HGF.out.2.1 (by rw [List.mem_singleton.1 hm2]; exact HX.out.x.here))).cell 3
 have HSY := Lib.hid (rxSkip_any H q m hm t Ak ck s tt Am nm cm w1 hP1.r HP.out.pos b hb)
 have HP1 := Lib.hid hP1
 clear h1 h2 h3 hP1 k0 k3
 generalize skipS m.T t.pos b = K at *
 obtain ⟨K1, K2⟩ := K
 dsimp only at HSY HP1
 dsimp only
 go_wp2_with fail
 refine HSY.out.mono ?_
 rintro e2 w2 ⟨rfl, hr2, hb2⟩
 have HP2 := Lib.hid (HP1.out.went hr2 hb2 (fun k hk => .inl (List.mem_singleton.1 hk)) (fun b hb => .inl (mem_obl.2 ⟨b, hb, rfl⟩)))
 clear hr2 hb2 k3'
 have e1 : ((K1 : Int) == (K1 : Int)) = true := by simp
 have e2 : (K2 == K2) = true := by simp
 go_wp2_with fail
 exact bodyPost_ret (results_tmp2 rfl _ _ _) rfl ⟨p, _, _, Am, nm, cm, rfl, HP2.out, Nat.le_add_right _ _⟩
set_option maxRecDepth 20000 in
set_option maxHeartbeats 2000000 in
theorem step7_at (h : PS H w0 w p q m t t F Ak ck s tt Am nm cm) (hm : m.Ok) (Ad : Option Addr) (nd cd : Nat) (n : Int) (b : Nat) :
  Calls Tryz.prog 7 #[.pointer (some ⟨p, 0, none⟩), .pointer (some ⟨q, 0, none⟩), .agg (opC 3 Ad nd cd n b)] w fun r w' => ∃ p' t' F' Am' nm' cm', r = .returned (.tuple #[.pointer (some ⟨p', 0, none⟩), .bool true]) ∧ PS H w0 w' p' q m t' t' F' Ak ck s tt Am' nm' cm' ∧ nm' ≤ nm + nd := by
 have hbe := bal (b0 w) (.cells (opC 3 Ad nd cd n b) 33)
 have HP := Lib.hid (h.below hbe); have HK := Lib.hid (Blk.new w 33 (opC 3 Ad nd cd n b)); have HB0 := Lib.hid hbe; have HGF := Lib.hid (h.fresh (Nat.le_refl w.heap.size)); have HX := Lib.hid h
 clear hbe h
 go_enter Tryz.func7, Tryz.ntmps7
 go_upto_region 1 with fail
 obtain ⟨g, hg⟩ : ∃ g, g = w.heap.size := ⟨_, rfl⟩
 rw [← hg] at HK HGF ⊢
 have HGE := Lib.hid hg
 clear hg
 unfold opC
 unfold opC at HP HK HB0
 generalize w.alloc (.cells #[.int .i64 3, .slice Ad nd cd, .int .i64 n, .int .u64 b] 33) = u at *
 have k0 : u.cell? ⟨g, 0, none⟩ = some (.int .i64 3) := HK.out.cell 0
 have HAT := Lib.hid (fun W (hb : Below u.heap.size u W) => (HP.out.below hb).x.atq)
 have HLX := Lib.hid (fun W (hb : Below u.heap.size u W) => (HP.out.below hb).x.leftq hm)
 have HLY := Lib.hid (fun W (hb : Below u.heap.size u W) => rxLeft_any H q m hm t Ak ck s tt Am nm cm W (HP.out.below hb).r HP.out.pos)
 have q7 : u.cell? ⟨q, 7, none⟩ = some (.int .u64 t.pos) := HP.out.r.cell 7
 have ql := HP.out.r.blk.lt
 obtain ⟨d, hd⟩ : ∃ d, d = m.T - t.pos := ⟨_, rfl⟩
 rw [← hd] at HLX HLY
 have e1 : ((t.pos : Int) == (t.pos : Int)) = true := by simp
 have e2 : ((d : Int) == (d : Int)) = true := by simp
 clear hd
 go_wp2_with fail
 clear k0
 refine wp_region_B (Ords.of [(0, 0), (0, 1), (0, 3), (0, 4), (0, 5), (0, 6), (2, 2), (0, 7), (0, 8), (0, 9), (0, 11), (2, 10), (2, 12), (0, 13), (0, 14), (0, 15), (0, 16)] .fin) (by kernel_rfl) rfl (by kernel_rfl) (by kernel_rfl) (fun c a d v w h => by cases d <;> exact h) ?_
 iterate 5 (refine ords_pure rfl (fun K hK => ?_); go_simp; refine hK _ ?_; clear hK K)
 refine ords_heldK rfl (fun K K2 hK hK2 => ?_); go_simp; refine ⟨hK2 _ (fun w9 hS => ?_), hK _ ?_⟩; (clear hK hK2 K K2; (first | refine withN hS ?_ | refine withD hS ?_ | refine with0 hS ?_); intro hcS hfS; go_simp); (clear hK hK2 K K2)
 refine ords_loud rfl (fun n1 => ?_)
 go_wp2_with (go_at_call 8; refine (HAT.out _ (bdr (b0 u) _)).mono ?_; rintro e1 w1 ⟨rfl, rfl⟩)
 refine ⟨bdr (b0 u) _, ?_⟩
 go_simp
 iterate 4 (refine ords_pure rfl (fun K hK => ?_); go_simp; refine hK _ ?_; clear hK K)
 refine ords_loud rfl (fun n2 => ?_)
 go_wp2_with (go_at_call 9; refine (HLX.out _ (bdr (b0 u) _)).mono ?_; rintro e2 w2 ⟨rfl, hb2⟩)
 have HB2 := Lib.hid (bcall (bdr (b0 u) _) hb2)
 clear hb2
 refine ⟨HB2.out, ?_⟩
 go_simp
 refine ords_loud rfl (fun n3 => ?_)
 go_wp2_with (go_at_call 10; refine (HLY.out _ (bdr HB2.out _)).mono ?_; rintro e3 w3 ⟨rfl, n5, rfl⟩)
 refine ⟨by first | exact bdr HB2.out _ | exact bdr (bdr HB2.out _) _, ?_⟩
 go_simp
 iterate 4 (refine ords_pure rfl (fun K hK => ?_); go_simp; refine hK _ ?_; clear hK K)
 refine ords_end (fun n4 => ?_)
 go_wp2_with fail
 exact bodyPost_ret (results_tmp2 rfl _ _ _) rfl ⟨p, t, F, Am, nm, cm, rfl, HP.out.below (by first | exact bdr HB2.out _ | exact bdr (bdr HB2.out _) _ | exact bdr (bdr (bdr HB2.out _) _) _), Nat.le_add_right _ _⟩
set_option maxRecDepth 20000 in
theorem step7_copy (h : PS H w0 w p q m t t F Ak ck s tt Am nm cm) (hm : m.Ok) (Ad : Option Addr) (nd cd : Nat) (n : Int) (b : Nat) :
  Calls Tryz.prog 7 #[.pointer (some ⟨p, 0, none⟩), .pointer (some ⟨q, 0, none⟩), .agg (opC 4 Ad nd cd n b)] w fun r w' => ∃ p' t' F' Am' nm' cm', r = .returned (.tuple #[.pointer (some ⟨p', 0, none⟩), .bool true]) ∧ PS H w0 w' p' q m t' t' F' Ak ck s tt Am' nm' cm' ∧ nm' ≤ nm + nd := by
 have hbe := bal (b0 w) (.cells (opC 4 Ad nd cd n b) 33)
 have HP := Lib.hid (h.below hbe); have HK := Lib.hid (Blk.new w 33 (opC 4 Ad nd cd n b)); have HB0 := Lib.hid hbe; have HGF := Lib.hid (h.fresh (Nat.le_refl w.heap.size)); have HX := Lib.hid h
 clear hbe h
 go_enter Tryz.func7, Tryz.ntmps7
 go_upto_region 1 with fail
 obtain ⟨g, hg⟩ : ∃ g, g = w.heap.size := ⟨_, rfl⟩
 rw [← hg] at HK HGF ⊢
 have HGE := Lib.hid hg
 clear hg
 unfold opC
 unfold opC at HP HK HB0
 generalize w.alloc (.cells #[.int .i64 4, .slice Ad nd cd, .int .i64 n, .int .u64 b] 33) = u at *
 have k0 : u.cell? ⟨g, 0, none⟩ = some (.int .i64 4) := HK.out.cell 0
 have HCO := Lib.hid HP.out.x.copy
 go_wp2_with (go_at_call 25; refine HCO.out.mono ?_; rintro e1 w1 ⟨gc, F1, rfl, hge, hx1, hpF, hf1, hb1⟩)
 have HRD := Lib.hid ((HP.out.below hb1).x.read hm HP.out.pos 3 (by decide))
 have H1 := Lib.hid hx1; have H2 := Lib.hid hpF; have H3 := Lib.hid hf1; have H4 := Lib.hid hb1
 clear hx1 hpF hf1 hb1 hge k0
 refine HRD.out.mono ?_
 rintro e2 w2 ⟨A, k, cc, rfl, -, -, F2, -, -, hb2, -⟩
 have HP2 := Lib.hid (HP.out.ref (H1.out.but hb2 (fun k hk hm2 => H2.out (by rw [← List.mem_singleton.1 hm2]; exact hk))) HP.out.pos H3.out ((But.of H4.out [p]).trans hb2 (fun k hk => .inl hk)) (fun k hk => by rw [List.mem_singleton.1 hk]; exact .inl HP.out.x.here))
 clear hb2
 go_wp2_with fail
 exact bodyPost_ret (results_tmp2 rfl _ _ _) rfl ⟨gc, t, F1, Am, nm, cm, rfl, HP2.out, Nat.le_add_right _ _⟩
set_option maxRecDepth 20000 in
theorem step7_reset (h : PS H w0 w p q m t t F Ak ck s tt Am nm cm) (hm : m.Ok) (Ad : Option Addr) (nd cd : Nat) (n : Int) (b : Nat) :
  Calls Tryz.prog 7 #[.pointer (some ⟨p, 0, none⟩), .pointer (some ⟨q, 0, none⟩), .agg (opC 5 Ad nd cd n b)] w fun r w' => ∃ p' t' F' Am' nm' cm', r = .returned (.tuple #[.pointer (some ⟨p', 0, none⟩), .bool true]) ∧ PS H w0 w' p' q m t' t' F' Ak ck s tt Am' nm' cm' ∧ nm' ≤ nm + nd := by
 have hbe := bal (b0 w) (.cells (opC 5 Ad nd cd n b) 33)
 have HP := Lib.hid (h.below hbe); have HK := Lib.hid (Blk.new w 33 (opC 5 Ad nd cd n b)); have HB0 := Lib.hid hbe; have HGF := Lib.hid (h.fresh (Nat.le_refl w.heap.size)); have HX := Lib.hid h
 clear hbe h
 go_enter Tryz.func7, Tryz.ntmps7
 go_upto_region 1 with fail
 obtain ⟨g, hg⟩ : ∃ g, g = w.heap.size := ⟨_, rfl⟩
 rw [← hg] at HK HGF ⊢
 have HGE := Lib.hid hg
 clear hg
 unfold opC
 unfold opC at HP HK HB0
 generalize w.alloc (.cells #[.int .i64 5, .slice Ad nd cd, .int .i64 n, .int .u64 b] 33) = u at *
 have k0 : u.cell? ⟨g, 0, none⟩ = some (.int .i64 5) := HK.out.cell 0
 have HYR := Lib.hid (rxReset_any H q m t Ak ck s tt Am nm cm u HP.out.r)
 go_wp2_with fail
 refine HYR.out.mono ?_
 rintro e1 w1 ⟨rfl, hr1, hb1⟩
 have hP1 := HP.out.went hr1 hb1 (fun k hk => .inl (List.mem_singleton.1 hk)) (fun b hb => by cases hb)
 have HXR := Lib.hid (hP1.x.reset hm)
 have HP1 := Lib.hid hP1
 clear hr1 hb1 hP1 k0
 go_wp2_with (go_at_call 28; refine HXR.out.mono ?_; rintro e2 w2 ⟨rfl, F2, h1, h2, h3⟩)
 have HP2 := Lib.hid (HP1.out.ref h1 (Nat.zero_le _) h2 h3 (fun k hk => by rw [List.mem_singleton.1 hk]; exact .inl HP1.out.x.here))
 exact bodyPost_ret (results_tmp2 rfl _ _ _) rfl ⟨p, _, F2, none, 0, 0, rfl, HP2.out, Nat.zero_le _⟩
set_option maxRecDepth 20000 in
theorem step7_else (h : PS H w0 w p q m t t F Ak ck s tt Am nm cm) (what : Int) (hw : what ≠ 0 ∧ what ≠ 1 ∧ what ≠ 2 ∧ what ≠ 3 ∧ what ≠ 4 ∧ what ≠ 5) (Ad : Option Addr) (nd cd : Nat) (n : Int) (b : Nat) :
  Calls Tryz.prog 7 #[.pointer (some ⟨p, 0, none⟩), .pointer (some ⟨q, 0, none⟩), .agg (opC what Ad nd cd n b)] w fun r w' => ∃ p' t' F' Am' nm' cm', r = .returned (.tuple #[.pointer (some ⟨p', 0, none⟩), .bool true]) ∧ PS H w0 w' p' q m t' t' F' Ak ck s tt Am' nm' cm' ∧ nm' ≤ nm + nd := by
 have t0 : (what == 0) = false := by simpa using hw.1
 have t1 : (what == 1) = false := by simpa using hw.2.1
 have t2 : (what == 2) = false := by simpa using hw.2.2.1
 have t3 : (what == 3) = false := by simpa using hw.2.2.2.1
 have t4 : (what == 4) = false := by simpa using hw.2.2.2.2.1
 have t5 : (what == 5) = false := by simpa using hw.2.2.2.2.2
 clear hw
 have hbe := bal (b0 w) (.cells (opC what Ad nd cd n b) 33)
 have HP := Lib.hid (h.below hbe); have HK := Lib.hid (Blk.new w 33 (opC what Ad nd cd n b)); have HB0 := Lib.hid hbe; have HGF := Lib.hid (h.fresh (Nat.le_refl w.heap.size)); have HX := Lib.hid h
 clear hbe h
 go_enter Tryz.func7, Tryz.ntmps7
 go_upto_region 1 with fail
 obtain ⟨g, hg⟩ : ∃ g, g = w.heap.size := ⟨_, rfl⟩
 rw [← hg] at HK HGF ⊢
 have HGE := Lib.hid hg
 clear hg
 unfold opC
 unfold opC at HP HK HB0
 generalize w.alloc (.cells #[.int .i64 what, .slice Ad nd cd, .int .i64 n, .int .u64 b] 33) = u at *
 have k0 : u.cell? ⟨g, 0, none⟩ = some (.int .i64 what) := HK.out.cell 0
 go_wp2_with fail
 exact bodyPost_ret (results_tmp2 rfl _ _ _) rfl ⟨p, t, F, Am, nm, cm, rfl, HP.out, Nat.le_add_right _ _⟩
end
end Go.Proofs.YtmapfcdffklopaaGreat

/-
  Alike: are two calls the same? Contracts alone; no statement is claimed here.
-/
import Derived.Test.YteeacbkhmofbeaaGreatLCalP
import Derived.Test.YteeacbkhmofbeaaGreatSame
namespace Go.Proofs.YteeacbkhmofbeaaGreat
open Go.RowKit
attribute [local go_sem] pureUpon Ords.of

set_option maxRecDepth 20000 in
set_option maxHeartbeats 4000000 in
/-- two calls that are the same but for their data -/
theorem alike_any (k : Int) (x y : CC) (c d : CP) (w : World) (hx : CIn w k x c) (hy : CIn w k y d) (hb : c.b = d.b) (hk : c.key = d.key) (hl : c.last = d.last) (hm : c.m = d.m) (h2 : x.key.n ≤ 9223372036854775807) :
  Calls Tryz.prog 9 #[.agg x.cs, .agg y.cs] w fun e w' => e = .returned (.bool (decide (c.data = d.data))) ∧ Below w.heap.size w w' := by
 obtain ⟨kx, ⟨bA, bn, bc⟩, ⟨kA, kn, kc⟩, ⟨dA, dn, dc⟩, lx, mx⟩ := x
 obtain ⟨ky, ⟨bA2, bn2, bc2⟩, ⟨kA2, kn2, kc2⟩, ⟨dA2, dn2, dc2⟩, ly, my⟩ := y
 obtain ⟨xk, xl, xm, xi⟩ := hx
 obtain ⟨yk, yl, ym, yi⟩ := hy
 dsimp only at *
 subst xk
 rw [← yl] at hl
 rw [← xl] at hl
 rw [← ym] at hm
 rw [← xm] at hm
 subst yk hl hm
 have s1 : ∀ W, Below w.heap.size w W → Calls Tryz.prog 43 #[.slice bA bn bc, .slice bA2 bn2 bc2] W (fun e w' => e = .returned (.bool true) ∧ ∃ n, w' = W.drewN n) := fun W hW =>
  (sameR_any bA bA2 bc bc2 c.b d.b W.heap.size W.heap.size bn bn2 W xi.bl yi.bl (Nat.le_trans xi.bc.1 xi.bc.2) ((xi.br.below hW).more hW.size) ((yi.br.below hW).more hW.size)).mono fun _ _ ⟨q1, q2⟩ => ⟨q1.trans (by rw [decide_eq_true hb]), q2⟩
 have s2 : ∀ W, Below w.heap.size w W → Calls Tryz.prog 43 #[.slice kA kn kc, .slice kA2 kn2 kc2] W (fun e w' => e = .returned (.bool true) ∧ ∃ n, w' = W.drewN n) := fun W hW =>
  (sameR_any kA kA2 kc kc2 c.key d.key W.heap.size W.heap.size kn kn2 W xi.kl yi.kl h2 ((xi.kr.below hW).more hW.size) ((yi.kr.below hW).more hW.size)).mono fun _ _ ⟨q1, q2⟩ => ⟨q1.trans (by rw [decide_eq_true hk]), q2⟩
 have s3 : ∀ W, Below w.heap.size w W → Calls Tryz.prog 43 #[.slice dA dn dc, .slice dA2 dn2 dc2] W (fun e w' => e = .returned (.bool (decide (c.data = d.data))) ∧ ∃ n, w' = W.drewN n) := fun W hW =>
  sameR_any dA dA2 dc dc2 c.data d.data W.heap.size W.heap.size dn dn2 W xi.dl yi.dl (Nat.le_trans xi.dc.1 xi.dc.2) ((xi.dr.below hW).more hW.size) ((yi.dr.below hW).more hW.size)
 generalize decide (c.data = d.data) = r at *
 have S1 := Lib.hid s1; have S2 := Lib.hid s2; have S3 := Lib.hid s3
 have tk : (ky == ky) = true := by simp
 have tl : (lx == lx) = true := by simp
 have tm : (mx == mx) = true := by simp
 clear s1 s2 s3 xi yi hb hk xl xm yl ym h2
 unfold CC.cs callV
 go_enter Tryz.func9, Tryz.ntmps9
 have HB := Lib.hid (bal (bal (b0 w) (.cells #[.int .i64 ky, .slice bA bn bc, .slice kA kn kc, .bool lx, .int .i64 mx, .slice dA dn dc] 35)) (.cells #[.int .i64 ky, .slice bA2 bn2 bc2, .slice kA2 kn2 kc2, .bool lx, .int .i64 mx, .slice dA2 dn2 dc2] 35))
 go_wp2_with fail
 have Z1 := Lib.hid ((Blk.new w 35 #[.int .i64 ky, .slice bA bn bc, .slice kA kn kc, .bool lx, .int .i64 mx, .slice dA dn dc]).alloc (.cells #[.int .i64 ky, .slice bA2 bn2 bc2, .slice kA2 kn2 kc2, .bool lx, .int .i64 mx, .slice dA2 dn2 dc2] 35))
 have Z2 := Lib.hid (Blk.new2 w (.cells #[.int .i64 ky, .slice bA bn bc, .slice kA kn kc, .bool lx, .int .i64 mx, .slice dA dn dc] 35) 35 #[.int .i64 ky, .slice bA2 bn2 bc2, .slice kA2 kn2 kc2, .bool lx, .int .i64 mx, .slice dA2 dn2 dc2])
 generalize (w.alloc (.cells #[.int .i64 ky, .slice bA bn bc, .slice kA kn kc, .bool lx, .int .i64 mx, .slice dA dn dc] 35)).alloc (.cells #[.int .i64 ky, .slice bA2 bn2 bc2, .slice kA2 kn2 kc2, .bool lx, .int .i64 mx, .slice dA2 dn2 dc2] 35) = u at *
 refine (S1.out _ HB.out).mono ?_
 rintro e1 w1 ⟨rfl, k1, rfl⟩
 replace HB := Lib.hid (bdr HB.out k1); replace Z1 := Lib.hid (Z1.out.drewN k1); replace Z2 := Lib.hid (Z2.out.drewN k1)
 generalize u.drewN k1 = u at *
 have p2 : u.cell? ⟨w.heap.size, 2, none⟩ = some (.slice kA kn kc) := Z1.out.cell 2
 have r2 : u.cell? ⟨w.heap.size + 1, 2, none⟩ = some (.slice kA2 kn2 kc2) := Z2.out.cell 2
 have z1 := Z1.out.lt
 have z2 := Z2.out.lt
 go_wp2_with fail
 clear p2 r2 z1 z2
 refine (S2.out _ HB.out).mono ?_
 rintro e1 w1 ⟨rfl, k1, rfl⟩
 replace HB := Lib.hid (bdr HB.out k1); replace Z1 := Lib.hid (Z1.out.drewN k1); replace Z2 := Lib.hid (Z2.out.drewN k1)
 generalize u.drewN k1 = u at *
 have p2 : u.cell? ⟨w.heap.size, 5, none⟩ = some (.slice dA dn dc) := Z1.out.cell 5
 have r2 : u.cell? ⟨w.heap.size + 1, 5, none⟩ = some (.slice dA2 dn2 dc2) := Z2.out.cell 5
 have z1 := Z1.out.lt
 have z2 := Z2.out.lt
 go_wp2_with fail
 clear p2 r2 z1 z2
 refine (S3.out _ HB.out).mono ?_
 rintro e1 w1 ⟨rfl, k1, rfl⟩
 replace HB := Lib.hid (bdr HB.out k1); replace Z1 := Lib.hid (Z1.out.drewN k1); replace Z2 := Lib.hid (Z2.out.drewN k1)
 generalize u.drewN k1 = u at *
 go_wp2_with fail
 exact bodyPost_ret (results_tmp rfl _ _ _) rfl ⟨rfl, HB.out⟩
set_option maxHeartbeats 1000000 in
theorem copied08_any (A : Option Addr) (c n : Nat) (l : List UInt8) (w : World) (hn : l.length = n) (hm : n ≤ 140737488355328) (hr : RS cB w w.heap.size A l) :
  Calls Tryz.prog 7 #[.slice A n c] w fun e w' => ∃ A' c', e = .returned (.slice A' n c') ∧ OS cB w' w.heap.size A' c' l ∧ Below w.heap.size w w' := by
 have HN := Lib.hid hn; have HR := Lib.hid hr; have HN3 := Lib.hid (OS.nil (cd := cB) w w.heap.size 0 rfl); clear hn hr
 go_enter Tryz.func7, Tryz.ntmps7
 go_wp2_with (at_builtin; refine wpList_appB _ rfl (.tmp 4) (.tmp 5) rfl HN3.out rfl rfl HR.out rfl HN.out (by omega) (Nat.le_refl _) ?_; intro A3 c3 w3 ho3 hg3 hA3; have hb3 := bapp (b0 w) HN3.out hg3; rw [List.nil_append] at ho3)
 exact bodyPost_ret (results_tmp rfl _ _ _) rfl ⟨A3, c3, rfl, ho3, hb3⟩
end Go.Proofs.YteeacbkhmofbeaaGreat

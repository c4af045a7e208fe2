/-
  ArgonStarts, the law. Contracts alone; no statement is claimed here.
-/
import Derived.Test.YteeacbkhmofbeaaGreatStartR
import Derived.Test.YteeacbkhmofbeaaGreatLaw20
import Derived.Test.YteeacbkhmofbeaaGreatOpenL
namespace Go.Proofs.YteeacbkhmofbeaaGreat
open Go.RowKit
attribute [local go_sem] pureUpon Ords.of

def startO (a : Ar) (pass salt secret extra : List UInt8) : List UInt8 := if startE a pass.length salt.length secret.length extra.length = 0 then plainL 64 (startL a pass salt secret extra) else []
theorem startO_le (a : Ar) (pass salt secret extra : List UInt8) : (startO a pass salt secret extra).length ≤ 64 := by
  unfold startO
  split
  · rw [plainL_len _ _ (Nat.le_refl _)]; exact Nat.le_refl _
  · exact Nat.zero_le _
theorem aStartS_any (a : Ar) (Ap As Ax Ae : Option Addr) (np cp ns cs nx cx ne ce : Nat) (pass salt secret extra : List UInt8) (w : World)
    (lp : pass.length = np) (ls : salt.length = ns) (lx : secret.length = nx) (le_ : extra.length = ne) (rp : RS cB w w.heap.size Ap pass) (rs : RS cB w w.heap.size As salt) (rx : RS cB w w.heap.size Ax secret) (re : RS cB w w.heap.size Ae extra) :
    Calls Tryz.prog 16 #[a.v, .slice Ap np cp, .slice As ns cs, .slice Ax nx cx, .slice Ae ne ce] w fun e w' => ∃ A' n c' cc, e = .returned (.tuple #[.slice A' n cc, .int .i64 (startE a pass.length salt.length secret.length extra.length)]) ∧ (startO a pass salt secret extra).length = n ∧ OS cB w' w.heap.size A' c' (startO a pass salt secret extra) ∧ Below w.heap.size w w' := by
  unfold startO
  rw [lp, ls, lx, le_]
  by_cases h : startE a np ns nx ne = 0
  · rw [if_pos h, h]
    exact (aStart_any a Ap As Ax Ae np cp ns cs nx cx ne ce pass salt secret extra w h lp ls lx le_ rp rs rx re).mono fun _ _ ⟨A', c', h1, h2, h3⟩ => ⟨A', 64, c', 64, h1, plainL_len _ _ (Nat.le_refl _), h2, h3⟩
  · rw [if_neg h]
    exact (startNo_any a Ap As Ax Ae np cp ns cs nx cx ne ce w h).mono fun _ _ ⟨h1, h3⟩ => ⟨none, 0, 0, 0, h1, rfl, OS.nil _ _ _ rfl, h3⟩
theorem rStartS_any (a : Ar) (Ap As Ax Ae : Option Addr) (np cp ns cs nx cx ne ce : Nat) (pass salt secret extra : List UInt8) (w : World)
    (lp : pass.length = np) (ls : salt.length = ns) (lx : secret.length = nx) (le_ : extra.length = ne) (rp : RS cB w w.heap.size Ap pass) (rs : RS cB w w.heap.size As salt) (rx : RS cB w w.heap.size Ax secret) (re : RS cB w w.heap.size Ae extra) :
    Calls Tryz.prog 17 #[a.v, .slice Ap np cp, .slice As ns cs, .slice Ax nx cx, .slice Ae ne ce] w fun e w' => ∃ A' n c' cc, e = .returned (.tuple #[.slice A' n cc, .int .i64 (startE a pass.length salt.length secret.length extra.length)]) ∧ (startO a pass salt secret extra).length = n ∧ OS cB w' w.heap.size A' c' (startO a pass salt secret extra) ∧ Below w.heap.size w w' := by
  unfold startO
  rw [lp, ls, lx, le_]
  by_cases h : startE a np ns nx ne = 0
  · rw [if_pos h, h]
    exact (rstart_any a Ap As Ax Ae np cp ns cs nx cx ne ce pass salt secret extra w h lp ls lx le_ rp rs rx re).mono fun _ _ ⟨A', c', cc, h1, _, h2, h3⟩ => ⟨A', 64, c', cc, h1, plainL_len _ _ (Nat.le_refl _), h2, h3⟩
  · rw [if_neg h]
    exact (rstartNo_any a Ap As Ax Ae np cp ns cs nx cx ne ce w h).mono fun _ _ ⟨h1, h3⟩ => ⟨none, 0, 0, 0, h1, rfl, OS.nil _ _ _ rfl, h3⟩
set_option maxRecDepth 20000 in
set_option maxHeartbeats 8000000 in
theorem starts_law (a : Ar) (p s x e tg : Sl) (lp ls lx le_ : List UInt8) (w : World) (hp : SlIn w p lp) (hs : SlIn w s ls) (hx : SlIn w x lx) (he : SlIn w e le_) :
    Calls Tryz.prog 4 #[.agg (askC a p s x e tg)] w fun r w' => r = .returned (.bool true) ∧ Below w.heap.size w w' := by
  have hck := fun A c W => check20_any a A s.n c W
  have hrk := fun A c W => refCheck20_any a A s.n c W
  have hco := fun W => cols_any a W
  have hrc := fun W => refColumns_any a W
  have hst := fun Ap As Ax Ae cp cs cx ce W h1 h2 h3 h4 => aStartS_any a Ap As Ax Ae p.n cp s.n cs x.n cx e.n ce lp ls lx le_ W hp.len hs.len hx.len he.len h1 h2 h3 h4
  have hrs := fun W h1 h2 h3 h4 => rStartS_any a p.A s.A x.A e.A p.n p.c s.n s.c x.n x.c e.n e.c lp ls lx le_ W hp.len hs.len hx.len he.len h1 h2 h3 h4
  have hle := startO_le a lp ls lx le_
  have hsm : ∀ (A1 A2 : Option Addr) (c1 c2 n1 n2 : Nat) (W : World), (startO a lp ls lx le_).length = n1 → (startO a lp ls lx le_).length = n2 → n1 ≤ 9223372036854775807 → RS cB W W.heap.size A1 (startO a lp ls lx le_) → RS cB W W.heap.size A2 (startO a lp ls lx le_) →
      Calls Tryz.prog 18 #[.slice A1 n1 c1, .slice A2 n2 c2] W (fun e w' => e = .returned (.bool true) ∧ ∃ n, w' = W.drewN n) := fun A1 A2 c1 c2 n1 n2 W h1 h2 hm r1 r2 =>
    (same20_any A1 A2 c1 c2 (startO a lp ls lx le_) (startO a lp ls lx le_) W.heap.size W.heap.size n1 n2 W h1 h2 hm r1 r2).mono fun _ _ ⟨h1, h2⟩ => ⟨h1.trans (by rw [decide_eq_true rfl]), h2⟩
  generalize startO a lp ls lx le_ = OUT at *
  generalize startE a lp.length ls.length lx.length le_.length = ER at *
  generalize checkE a s.n = z at *
  generalize (if a.ok then 4 * a.seg else 0) = N at *
  generalize (if a.ok then (0 : Int) else 200) = E0 at *
  have hcp := fun (y : Sl) (l : List UInt8) W (h : SlIn W y l) => copied20_any y.A y.c y.n l W h.len (by have := h.cap; omega) h.reads
  have hwd := fun (y : Sl) (l : List UInt8) W (h : SlIn W y l) (hm : y.n ≤ 140737488355000) => wide20_any y.A y.c y.n l W h.len hm h.reads
  have hz : (z != z) = false := by simp
  have hN : (N != N) = false := by simp
  have hE0 : (E0 != E0) = false := by simp
  have hER : (ER == ER) = true := by simp
  obtain ⟨kk, m, pp, ll, t⟩ := a
  unfold Ar.v at *
  dsimp only at *
  have HCK := Lib.hid hck; have HRK := Lib.hid hrk; have HCO := Lib.hid hco; have HRC := Lib.hid hrc; have HST := Lib.hid hst; have HRS := Lib.hid hrs; have HLE := Lib.hid hle; have HSM := Lib.hid hsm; have HCP := Lib.hid hcp; have HWD := Lib.hid hwd
  have HP := Lib.hid hp; have HS := Lib.hid hs; have HX := Lib.hid hx; have HE := Lib.hid he
  have hcap : p.n ≤ 140737488355000 ∧ s.n ≤ 140737488355000 := by have := hp.cap; have := hs.cap; omega
  have HCAP := Lib.hid hcap
  clear hck hrk hco hrc hst hrs hle hsm hcp hwd hp hs hx he hcap
  have hua := Lib.hid Tryz.underlying38
  go_enter Tryz.func4, Tryz.ntmps4
  go_upto_region 1 with fail
  have HBK := Lib.hid (Blk.new w 40 (askC ⟨kk, m, pp, ll, t⟩ p s x e tg))
  have HB := Lib.hid (bal (b0 w) (.cells (askC ⟨kk, m, pp, ll, t⟩ p s x e tg) 40))
  obtain ⟨g, hg⟩ : ∃ g, g = w.heap.size := ⟨_, rfl⟩
  rw [← hg] at HBK ⊢
  have HG := Lib.hid hg
  clear hg
  generalize w.alloc (.cells (askC ⟨kk, m, pp, ll, t⟩ p s x e tg) 40) = u at *
  have q5 : u.cell? ⟨g, 5, none⟩ = some (.slice p.A p.n p.c) := HBK.out.cell 5; have q6 : u.cell? ⟨g, 6, none⟩ = some (.slice s.A s.n s.c) := HBK.out.cell 6; have q7 : u.cell? ⟨g, 7, none⟩ = some (.slice x.A x.n x.c) := HBK.out.cell 7; have q8 : u.cell? ⟨g, 8, none⟩ = some (.slice e.A e.n e.c) := HBK.out.cell 8
  refine wp_region_ords (fun w' => Blk w' g 40 (askC ⟨kk, m, pp, ll, t⟩ p s x e tg)) (fun _ n h => h.drewN n) (Ords.of [(0, 0), (0, 1), (0, 2), (0, 3), (0, 6), (0, 7), (0, 8), (0, 9), (2, 4), (2, 5), (2, 10), (0, 11)] .fin) (by kernel_rfl) rfl (by kernel_rfl) (by kernel_rfl) (fun c a d v w h => by cases d <;> exact h) HBK.out ?_
  refine ords_pure rfl (fun K hK => ?_); go_simp; refine hK _ ?_; clear hK K
  refine ords_held (v := Value.agg ([Value.int .i64 kk, .int .i64 m, .int .i64 pp, .int .i64 ll, .int .i64 t]).toArray) rfl rfl (fun w9 hS => pure_load_mid 38 (.tmp 11) rfl g 0 rfl ([Value.int .i64 kk, .int .i64 m, .int .i64 pp, .int .i64 ll, .int .i64 t]) _ (hS.range 0 5) hua.out rfl (by kernel_rfl)) ?_; go_simp
  refine ords_pure rfl (fun K hK => ?_); go_simp; refine hK _ ?_; clear hK K
  refine ords_heldK rfl (fun K K2 hK hK2 => ?_); go_simp; refine ⟨hK2 _ (fun w9 hS => ?_), hK _ ?_⟩; (clear hK hK2 K K2; have q5 : w9.cell? ⟨g, 5, none⟩ = some (.slice p.A p.n p.c) := hS.cell 5; have q6 : w9.cell? ⟨g, 6, none⟩ = some (.slice s.A s.n s.c) := hS.cell 6; have q7 : w9.cell? ⟨g, 7, none⟩ = some (.slice x.A x.n x.c) := hS.cell 7; have q8 : w9.cell? ⟨g, 8, none⟩ = some (.slice e.A e.n e.c) := hS.cell 8; clear hS; go_simp); (clear hK hK2 K K2)
  refine ords_pure rfl (fun K hK => ?_); go_simp; refine hK _ ?_; clear hK K
  refine ords_held (v := Value.agg ([Value.int .i64 kk, .int .i64 m, .int .i64 pp, .int .i64 ll, .int .i64 t]).toArray) rfl rfl (fun w9 hS => pure_load_mid 38 (.tmp 17) rfl g 0 rfl ([Value.int .i64 kk, .int .i64 m, .int .i64 pp, .int .i64 ll, .int .i64 t]) _ (hS.range 0 5) hua.out rfl (by kernel_rfl)) ?_; go_simp
  refine ords_pure rfl (fun K hK => ?_); go_simp; refine hK _ ?_; clear hK K
  refine ords_heldK rfl (fun K K2 hK hK2 => ?_); go_simp; refine ⟨hK2 _ (fun w9 hS => ?_), hK _ ?_⟩; (clear hK hK2 K K2; have q5 : w9.cell? ⟨g, 5, none⟩ = some (.slice p.A p.n p.c) := hS.cell 5; have q6 : w9.cell? ⟨g, 6, none⟩ = some (.slice s.A s.n s.c) := hS.cell 6; have q7 : w9.cell? ⟨g, 7, none⟩ = some (.slice x.A x.n x.c) := hS.cell 7; have q8 : w9.cell? ⟨g, 8, none⟩ = some (.slice e.A e.n e.c) := hS.cell 8; clear hS; go_simp); (clear hK hK2 K K2)
  refine ords_loud rfl (fun n1 => ?_)
  clear q5 q6 q7 q8
  replace HB := Lib.hid (bdr HB.out n1); replace HBK := Lib.hid (HBK.out.drewN n1); (try replace O1 := Lib.hid (O1.out.drewN n1)); (try replace OWP := Lib.hid (OWP.out.drewN n1)); (try replace OWS := Lib.hid (OWS.out.drewN n1)); (try replace OX := Lib.hid (OX.out.drewN n1)); (try replace OE := Lib.hid (OE.out.drewN n1)); (try replace OZ := Lib.hid (OZ.out.drewN n1)); generalize u.drewN n1 = u at *
  go_wp2_with (go_at_call 11; refine (HCP.out s ls _ (HS.out.below HB.out)).mono ?_; rintro e1 u ⟨A1, c1, rfl, ho1, hb1⟩)
  replace HB := Lib.hid (bcall HB.out hb1); replace HBK := Lib.hid (HBK.out.below hb1 HBK.out.lt); (try replace O1 := Lib.hid (O1.out.below hb1 (Nat.le_refl _))); (try replace OWP := Lib.hid (OWP.out.below hb1 (Nat.le_refl _))); (try replace OWS := Lib.hid (OWS.out.below hb1 (Nat.le_refl _))); (try replace OX := Lib.hid (OX.out.below hb1 (Nat.le_refl _))); (try replace OE := Lib.hid (OE.out.below hb1 (Nat.le_refl _))); (try replace OZ := Lib.hid (OZ.out.below hb1 (Nat.le_refl _)))
  clear ho1 hb1
  refine ⟨HBK.out, ?_⟩
  go_simp
  refine ords_loud rfl (fun n2 => ?_)
  replace HB := Lib.hid (bdr HB.out n2); replace HBK := Lib.hid (HBK.out.drewN n2); (try replace O1 := Lib.hid (O1.out.drewN n2)); (try replace OWP := Lib.hid (OWP.out.drewN n2)); (try replace OWS := Lib.hid (OWS.out.drewN n2)); (try replace OX := Lib.hid (OX.out.drewN n2)); (try replace OE := Lib.hid (OE.out.drewN n2)); (try replace OZ := Lib.hid (OZ.out.drewN n2)); generalize u.drewN n2 = u at *
  go_wp2_with (go_at_call 10; refine (HCK.out A1 c1 _).mono ?_; rintro e2 u ⟨rfl, hb2⟩)
  replace HB := Lib.hid (bcall HB.out hb2); replace HBK := Lib.hid (HBK.out.below hb2 HBK.out.lt); (try replace O1 := Lib.hid (O1.out.below hb2 (Nat.le_refl _))); (try replace OWP := Lib.hid (OWP.out.below hb2 (Nat.le_refl _))); (try replace OWS := Lib.hid (OWS.out.below hb2 (Nat.le_refl _))); (try replace OX := Lib.hid (OX.out.below hb2 (Nat.le_refl _))); (try replace OE := Lib.hid (OE.out.below hb2 (Nat.le_refl _))); (try replace OZ := Lib.hid (OZ.out.below hb2 (Nat.le_refl _)))
  clear hb2
  refine ⟨HBK.out, ?_⟩
  go_simp
  refine ords_loud rfl (fun n3 => ?_)
  replace HB := Lib.hid (bdr HB.out n3); replace HBK := Lib.hid (HBK.out.drewN n3); (try replace O1 := Lib.hid (O1.out.drewN n3)); (try replace OWP := Lib.hid (OWP.out.drewN n3)); (try replace OWS := Lib.hid (OWS.out.drewN n3)); (try replace OX := Lib.hid (OX.out.drewN n3)); (try replace OE := Lib.hid (OE.out.drewN n3)); (try replace OZ := Lib.hid (OZ.out.drewN n3)); generalize u.drewN n3 = u at *
  go_wp2_with (go_at_call 12; refine (HRK.out s.A s.c _).mono ?_; rintro e3 u ⟨rfl, hb3⟩)
  replace HB := Lib.hid (bcall HB.out hb3); replace HBK := Lib.hid (HBK.out.below hb3 HBK.out.lt); (try replace O1 := Lib.hid (O1.out.below hb3 (Nat.le_refl _))); (try replace OWP := Lib.hid (OWP.out.below hb3 (Nat.le_refl _))); (try replace OWS := Lib.hid (OWS.out.below hb3 (Nat.le_refl _))); (try replace OX := Lib.hid (OX.out.below hb3 (Nat.le_refl _))); (try replace OE := Lib.hid (OE.out.below hb3 (Nat.le_refl _))); (try replace OZ := Lib.hid (OZ.out.below hb3 (Nat.le_refl _)))
  clear hb3
  refine ⟨HBK.out, ?_⟩
  go_simp
  refine ords_pure rfl (fun K hK => ?_); go_simp; refine hK _ ?_; clear hK K
  refine ords_end (fun n4 => ?_)
  replace HB := Lib.hid (bdr HB.out n4); replace HBK := Lib.hid (HBK.out.drewN n4); (try replace O1 := Lib.hid (O1.out.drewN n4)); (try replace OWP := Lib.hid (OWP.out.drewN n4)); (try replace OWS := Lib.hid (OWS.out.drewN n4)); (try replace OX := Lib.hid (OX.out.drewN n4)); (try replace OE := Lib.hid (OE.out.drewN n4)); (try replace OZ := Lib.hid (OZ.out.drewN n4)); generalize u.drewN n4 = u at *
  have ZR := Lib.hid (show u.rangeAt g 0 [Value.int .i64 kk, .int .i64 m, .int .i64 pp, .int .i64 ll, .int .i64 t] from HBK.out.range 0 5)
  go_wp2_with (refine wpList_load_mid rfl 38 (.tmp 24) rfl g 0 rfl _ _ ZR.out hua.out rfl (by kernel_rfl) ?_)
  refine (HCO.out u).mono ?_
  rintro e4 u ⟨rfl, hb4⟩
  replace HB := Lib.hid (bcall HB.out hb4); replace HBK := Lib.hid (HBK.out.below hb4 HBK.out.lt); (try replace O1 := Lib.hid (O1.out.below hb4 (Nat.le_refl _))); (try replace OWP := Lib.hid (OWP.out.below hb4 (Nat.le_refl _))); (try replace OWS := Lib.hid (OWS.out.below hb4 (Nat.le_refl _))); (try replace OX := Lib.hid (OX.out.below hb4 (Nat.le_refl _))); (try replace OE := Lib.hid (OE.out.below hb4 (Nat.le_refl _))); (try replace OZ := Lib.hid (OZ.out.below hb4 (Nat.le_refl _)))
  clear hb4 ZR
  have ZR := Lib.hid (show u.rangeAt g 0 [Value.int .i64 kk, .int .i64 m, .int .i64 pp, .int .i64 ll, .int .i64 t] from HBK.out.range 0 5)
  go_wp2_with (refine wpList_load_mid rfl 38 (.tmp 30) rfl g 0 rfl _ _ ZR.out hua.out rfl (by kernel_rfl) ?_)
  refine (HRC.out u).mono ?_
  rintro e5 u ⟨rfl, hb5⟩
  replace HB := Lib.hid (bcall HB.out hb5); replace HBK := Lib.hid (HBK.out.below hb5 HBK.out.lt); (try replace O1 := Lib.hid (O1.out.below hb5 (Nat.le_refl _))); (try replace OWP := Lib.hid (OWP.out.below hb5 (Nat.le_refl _))); (try replace OWS := Lib.hid (OWS.out.below hb5 (Nat.le_refl _))); (try replace OX := Lib.hid (OX.out.below hb5 (Nat.le_refl _))); (try replace OE := Lib.hid (OE.out.below hb5 (Nat.le_refl _))); (try replace OZ := Lib.hid (OZ.out.below hb5 (Nat.le_refl _)))
  clear hb5 ZR
  go_upto_region 7 with fail
  have q5 : u.cell? ⟨g, 5, none⟩ = some (.slice p.A p.n p.c) := HBK.out.cell 5; have q6 : u.cell? ⟨g, 6, none⟩ = some (.slice s.A s.n s.c) := HBK.out.cell 6; have q7 : u.cell? ⟨g, 7, none⟩ = some (.slice x.A x.n x.c) := HBK.out.cell 7; have q8 : u.cell? ⟨g, 8, none⟩ = some (.slice e.A e.n e.c) := HBK.out.cell 8
  refine wp_region_ords (fun w' => Blk w' g 40 (askC ⟨kk, m, pp, ll, t⟩ p s x e tg)) (fun _ n h => h.drewN n) (Ords.of [(0, 0), (0, 1), (0, 3), (0, 4), (2, 2), (2, 5), (0, 6), (0, 7)] .fin) (by kernel_rfl) rfl (by kernel_rfl) (by kernel_rfl) (fun c a d v w h => by cases d <;> exact h) HBK.out ?_
  iterate 2 (refine ords_pure rfl (fun K hK => ?_); go_simp; refine hK _ ?_; clear hK K; refine ords_heldK rfl (fun K K2 hK hK2 => ?_); go_simp; refine ⟨hK2 _ (fun w9 hS => ?_), hK _ ?_⟩; (clear hK hK2 K K2; have q5 : w9.cell? ⟨g, 5, none⟩ = some (.slice p.A p.n p.c) := hS.cell 5; have q6 : w9.cell? ⟨g, 6, none⟩ = some (.slice s.A s.n s.c) := hS.cell 6; have q7 : w9.cell? ⟨g, 7, none⟩ = some (.slice x.A x.n x.c) := hS.cell 7; have q8 : w9.cell? ⟨g, 8, none⟩ = some (.slice e.A e.n e.c) := hS.cell 8; clear hS; go_simp); (clear hK hK2 K K2))
  refine ords_loud rfl (fun n1 => ?_)
  clear q5 q6 q7 q8
  replace HB := Lib.hid (bdr HB.out n1); replace HBK := Lib.hid (HBK.out.drewN n1); (try replace O1 := Lib.hid (O1.out.drewN n1)); (try replace OWP := Lib.hid (OWP.out.drewN n1)); (try replace OWS := Lib.hid (OWS.out.drewN n1)); (try replace OX := Lib.hid (OX.out.drewN n1)); (try replace OE := Lib.hid (OE.out.drewN n1)); (try replace OZ := Lib.hid (OZ.out.drewN n1)); generalize u.drewN n1 = u at *
  go_wp2_with (go_at_call 15; refine (HWD.out p lp _ (HP.out.below HB.out) HCAP.out.1).mono ?_; rintro e6 u ⟨A6, c6, rfl, ho6, hb6⟩)
  have OWP := Lib.hid (ho6.mono (show w.heap.size ≤ _ from HB.out.size))
  replace HB := Lib.hid (bcall HB.out hb6); replace HBK := Lib.hid (HBK.out.below hb6 HBK.out.lt)
  clear ho6 hb6
  refine ⟨HBK.out, ?_⟩
  go_simp
  refine ords_loud rfl (fun n2 => ?_)
  replace HB := Lib.hid (bdr HB.out n2); replace HBK := Lib.hid (HBK.out.drewN n2); (try replace O1 := Lib.hid (O1.out.drewN n2)); (try replace OWP := Lib.hid (OWP.out.drewN n2)); (try replace OWS := Lib.hid (OWS.out.drewN n2)); (try replace OX := Lib.hid (OX.out.drewN n2)); (try replace OE := Lib.hid (OE.out.drewN n2)); (try replace OZ := Lib.hid (OZ.out.drewN n2)); generalize u.drewN n2 = u at *
  go_wp2_with (go_at_call 15; refine (HWD.out s ls _ (HS.out.below HB.out) HCAP.out.2).mono ?_; rintro e7 u ⟨A7, c7, rfl, ho7, hb7⟩)
  have OWS := Lib.hid (ho7.mono (show w.heap.size ≤ _ from HB.out.size))
  replace HB := Lib.hid (bcall HB.out hb7); replace HBK := Lib.hid (HBK.out.below hb7 HBK.out.lt); replace OWP := Lib.hid (OWP.out.below hb7 (Nat.le_refl _))
  clear ho7 hb7
  refine ⟨HBK.out, ?_⟩
  go_simp
  iterate 2 (refine ords_pure rfl (fun K hK => ?_); go_simp; refine hK _ ?_; clear hK K)
  refine ords_end (fun n3 => ?_)
  replace HB := Lib.hid (bdr HB.out n3); replace HBK := Lib.hid (HBK.out.drewN n3); (try replace O1 := Lib.hid (O1.out.drewN n3)); (try replace OWP := Lib.hid (OWP.out.drewN n3)); (try replace OWS := Lib.hid (OWS.out.drewN n3)); (try replace OX := Lib.hid (OX.out.drewN n3)); (try replace OE := Lib.hid (OE.out.drewN n3)); (try replace OZ := Lib.hid (OZ.out.drewN n3)); generalize u.drewN n3 = u at *
  have l6 : (p.n : Int) ≤ (c6 : Int) := by have h := OWP.out.len_le.1; rw [List.length_append, marks_len, HP.out.len] at h; omega
  have l7 : (s.n : Int) ≤ (c7 : Int) := by have h := OWS.out.len_le.1; rw [List.length_append, marks_len, HS.out.len] at h; omega
  go_upto_region 8 with fail
  have hop : RS cB u u.heap.size A6 lp := by
    have h := OWP.out.reads.take lp.length
    rw [List.take_left] at h
    exact h
  have hos : RS cB u u.heap.size A7 ls := by
    have h := OWS.out.reads.take ls.length
    rw [List.take_left] at h
    exact h
  clear hop hos
  have q5 : u.cell? ⟨g, 5, none⟩ = some (.slice p.A p.n p.c) := HBK.out.cell 5; have q6 : u.cell? ⟨g, 6, none⟩ = some (.slice s.A s.n s.c) := HBK.out.cell 6; have q7 : u.cell? ⟨g, 7, none⟩ = some (.slice x.A x.n x.c) := HBK.out.cell 7; have q8 : u.cell? ⟨g, 8, none⟩ = some (.slice e.A e.n e.c) := HBK.out.cell 8
  refine wp_region_ords (fun w' => Blk w' g 40 (askC ⟨kk, m, pp, ll, t⟩ p s x e tg)) (fun _ n h => h.drewN n) (Ords.of [(0, 0), (0, 1), (0, 2), (0, 3), (0, 4), (0, 5), (0, 6), (0, 7), (0, 8), (0, 9), (0, 10), (0, 11), (0, 12), (0, 13), (0, 15), (0, 16), (2, 14), (2, 17), (2, 18), (0, 19), (0, 20), (0, 21), (0, 22), (0, 23)] .fin) (by kernel_rfl) rfl (by kernel_rfl) (by kernel_rfl) (fun c a d v w h => by cases d <;> exact h) HBK.out ?_
  refine ords_pure rfl (fun K hK => ?_); go_simp; refine hK _ ?_; clear hK K
  refine ords_held (v := Value.agg ([Value.int .i64 kk, .int .i64 m, .int .i64 pp, .int .i64 ll, .int .i64 t]).toArray) rfl rfl (fun w9 hS => pure_load_mid 38 (.tmp 50) rfl g 0 rfl ([Value.int .i64 kk, .int .i64 m, .int .i64 pp, .int .i64 ll, .int .i64 t]) _ (hS.range 0 5) hua.out rfl (by kernel_rfl)) ?_; go_simp
  iterate 2 (refine ords_pure rfl (fun K hK => ?_); go_simp; refine hK _ ?_; clear hK K; refine ords_pure rfl (fun K hK => ?_); go_simp; refine hK _ ?_; clear hK K; refine ords_heldK rfl (fun K K2 hK hK2 => ?_); go_simp; refine ⟨hK2 _ (fun w9 hS => ?_), hK _ ?_⟩; (clear hK hK2 K K2; have q5 : w9.cell? ⟨g, 5, none⟩ = some (.slice p.A p.n p.c) := hS.cell 5; have q6 : w9.cell? ⟨g, 6, none⟩ = some (.slice s.A s.n s.c) := hS.cell 6; have q7 : w9.cell? ⟨g, 7, none⟩ = some (.slice x.A x.n x.c) := hS.cell 7; have q8 : w9.cell? ⟨g, 8, none⟩ = some (.slice e.A e.n e.c) := hS.cell 8; clear hS; go_simp); (clear hK hK2 K K2); refine ords_pure rfl (fun K hK => ?_); go_simp; refine hK _ ?_; clear hK K; refine ords_pure rfl (fun K hK => ?_); go_simp; refine hK _ ?_; clear hK K)
  iterate 2 (refine ords_pure rfl (fun K hK => ?_); go_simp; refine hK _ ?_; clear hK K; refine ords_heldK rfl (fun K K2 hK hK2 => ?_); go_simp; refine ⟨hK2 _ (fun w9 hS => ?_), hK _ ?_⟩; (clear hK hK2 K K2; have q5 : w9.cell? ⟨g, 5, none⟩ = some (.slice p.A p.n p.c) := hS.cell 5; have q6 : w9.cell? ⟨g, 6, none⟩ = some (.slice s.A s.n s.c) := hS.cell 6; have q7 : w9.cell? ⟨g, 7, none⟩ = some (.slice x.A x.n x.c) := hS.cell 7; have q8 : w9.cell? ⟨g, 8, none⟩ = some (.slice e.A e.n e.c) := hS.cell 8; clear hS; go_simp); (clear hK hK2 K K2))
  refine ords_loud rfl (fun n1 => ?_)
  clear q5 q6 q7 q8
  replace HB := Lib.hid (bdr HB.out n1); replace HBK := Lib.hid (HBK.out.drewN n1); (try replace O1 := Lib.hid (O1.out.drewN n1)); (try replace OWP := Lib.hid (OWP.out.drewN n1)); (try replace OWS := Lib.hid (OWS.out.drewN n1)); (try replace OX := Lib.hid (OX.out.drewN n1)); (try replace OE := Lib.hid (OE.out.drewN n1)); (try replace OZ := Lib.hid (OZ.out.drewN n1)); generalize u.drewN n1 = u at *
  go_wp2_with (go_at_call 11; refine (HCP.out x lx _ (HX.out.below HB.out)).mono ?_; rintro e1 u ⟨A11, c11, rfl, ho1, hb1⟩)
  replace HB := Lib.hid (bcall HB.out hb1); replace HBK := Lib.hid (HBK.out.below hb1 HBK.out.lt); (try replace O1 := Lib.hid (O1.out.below hb1 (Nat.le_refl _))); (try replace OWP := Lib.hid (OWP.out.below hb1 (Nat.le_refl _))); (try replace OWS := Lib.hid (OWS.out.below hb1 (Nat.le_refl _))); (try replace OX := Lib.hid (OX.out.below hb1 (Nat.le_refl _))); (try replace OE := Lib.hid (OE.out.below hb1 (Nat.le_refl _))); (try replace OZ := Lib.hid (OZ.out.below hb1 (Nat.le_refl _)))
  have OX := Lib.hid ho1
  clear ho1 hb1
  refine ⟨HBK.out, ?_⟩
  go_simp
  refine ords_loud rfl (fun n2 => ?_)
  replace HB := Lib.hid (bdr HB.out n2); replace HBK := Lib.hid (HBK.out.drewN n2); (try replace O1 := Lib.hid (O1.out.drewN n2)); (try replace OWP := Lib.hid (OWP.out.drewN n2)); (try replace OWS := Lib.hid (OWS.out.drewN n2)); (try replace OX := Lib.hid (OX.out.drewN n2)); (try replace OE := Lib.hid (OE.out.drewN n2)); (try replace OZ := Lib.hid (OZ.out.drewN n2)); generalize u.drewN n2 = u at *
  have hz0 := Lib.hid HB.out.size
  go_wp2_with (go_at_call 11; refine (HCP.out e le_ _ (HE.out.below HB.out)).mono ?_; rintro e2 u ⟨A12, c12, rfl, ho2, hb2⟩)
  replace HB := Lib.hid (bcall HB.out hb2); replace HBK := Lib.hid (HBK.out.below hb2 HBK.out.lt); (try replace O1 := Lib.hid (O1.out.below hb2 (Nat.le_refl _))); (try replace OWP := Lib.hid (OWP.out.below hb2 (Nat.le_refl _))); (try replace OWS := Lib.hid (OWS.out.below hb2 (Nat.le_refl _))); (try replace OX := Lib.hid (OX.out.below hb2 (Nat.le_refl _))); (try replace OE := Lib.hid (OE.out.below hb2 (Nat.le_refl _))); (try replace OZ := Lib.hid (OZ.out.below hb2 (Nat.le_refl _)))
  have OE := Lib.hid ho2
  clear ho2 hb2 hz0
  refine ⟨HBK.out, ?_⟩
  go_simp
  refine ords_loud rfl (fun n3 => ?_)
  replace HB := Lib.hid (bdr HB.out n3); replace HBK := Lib.hid (HBK.out.drewN n3); (try replace O1 := Lib.hid (O1.out.drewN n3)); (try replace OWP := Lib.hid (OWP.out.drewN n3)); (try replace OWS := Lib.hid (OWS.out.drewN n3)); (try replace OX := Lib.hid (OX.out.drewN n3)); (try replace OE := Lib.hid (OE.out.drewN n3)); (try replace OZ := Lib.hid (OZ.out.drewN n3)); generalize u.drewN n3 = u at *
  have hop : Hid (RS cB u u.heap.size A6 lp) := by
    have h := OWP.out.reads.take lp.length
    rw [List.take_left] at h
    exact h
  have hos : Hid (RS cB u u.heap.size A7 ls) := by
    have h := OWS.out.reads.take ls.length
    rw [List.take_left] at h
    exact h
  have hz0 := Lib.hid HB.out.size
  go_wp2_with (go_at_call 16; refine (HST.out A6 A7 A11 A12 c6 c7 c11 c12 _ hop.out hos.out OX.out.reads OE.out.reads).mono ?_; rintro e3 u ⟨A13, n13, x13, c13, rfl, hl13, ho3, hb3⟩)
  replace HB := Lib.hid (bcall HB.out hb3); replace HBK := Lib.hid (HBK.out.below hb3 HBK.out.lt); (try replace O1 := Lib.hid (O1.out.below hb3 (Nat.le_refl _))); (try replace OWP := Lib.hid (OWP.out.below hb3 (Nat.le_refl _))); (try replace OWS := Lib.hid (OWS.out.below hb3 (Nat.le_refl _))); (try replace OX := Lib.hid (OX.out.below hb3 (Nat.le_refl _))); (try replace OE := Lib.hid (OE.out.below hb3 (Nat.le_refl _))); (try replace OZ := Lib.hid (OZ.out.below hb3 (Nat.le_refl _)))
  have OZ := Lib.hid (ho3.mono hz0.out)
  have HL13 := Lib.hid hl13
  clear ho3 hb3 hz0 hop hos hl13
  refine ⟨HBK.out, ?_⟩
  go_simp
  iterate 5 (refine ords_pure rfl (fun K hK => ?_); go_simp; refine hK _ ?_; clear hK K)
  refine ords_end (fun n4 => ?_)
  replace HB := Lib.hid (bdr HB.out n4); replace HBK := Lib.hid (HBK.out.drewN n4); (try replace O1 := Lib.hid (O1.out.drewN n4)); (try replace OWP := Lib.hid (OWP.out.drewN n4)); (try replace OWS := Lib.hid (OWS.out.drewN n4)); (try replace OX := Lib.hid (OX.out.drewN n4)); (try replace OE := Lib.hid (OE.out.drewN n4)); (try replace OZ := Lib.hid (OZ.out.drewN n4)); generalize u.drewN n4 = u at *
  go_upto_region 9 with fail
  clear l6 l7 OX OE
  have ZR := Lib.hid (show u.rangeAt g 0 [Value.int .i64 kk, .int .i64 m, .int .i64 pp, .int .i64 ll, .int .i64 t] from HBK.out.range 0 5)
  have q5 : u.cell? ⟨g, 5, none⟩ = some (.slice p.A p.n p.c) := HBK.out.cell 5; have q6 : u.cell? ⟨g, 6, none⟩ = some (.slice s.A s.n s.c) := HBK.out.cell 6; have q7 : u.cell? ⟨g, 7, none⟩ = some (.slice x.A x.n x.c) := HBK.out.cell 7; have q8 : u.cell? ⟨g, 8, none⟩ = some (.slice e.A e.n e.c) := HBK.out.cell 8
  go_wp2_with (refine wpList_load_mid rfl 38 (.tmp 72) rfl g 0 rfl _ _ ZR.out hua.out rfl (by kernel_rfl) ?_)
  refine (HRS.out u ((HP.out.below HB.out).reads) ((HS.out.below HB.out).reads) ((HX.out.below HB.out).reads) ((HE.out.below HB.out).reads)).mono ?_
  rintro e8 u ⟨A14, n14, x14, c14, rfl, hl14, ho8, hb8⟩
  have OR := Lib.hid ho8
  have HL14 := Lib.hid hl14
  clear q5 q6 q7 q8 ZR
  replace HB := Lib.hid (bcall HB.out hb8); replace HBK := Lib.hid (HBK.out.below hb8 HBK.out.lt); (try replace O1 := Lib.hid (O1.out.below hb8 (Nat.le_refl _))); (try replace OWP := Lib.hid (OWP.out.below hb8 (Nat.le_refl _))); (try replace OWS := Lib.hid (OWS.out.below hb8 (Nat.le_refl _))); (try replace OX := Lib.hid (OX.out.below hb8 (Nat.le_refl _))); (try replace OE := Lib.hid (OE.out.below hb8 (Nat.le_refl _))); (try replace OZ := Lib.hid (OZ.out.below hb8 (Nat.le_refl _)))
  clear ho8 hb8 hl14
  have q5 : u.cell? ⟨g, 5, none⟩ = some (.slice p.A p.n p.c) := HBK.out.cell 5; have q6 : u.cell? ⟨g, 6, none⟩ = some (.slice s.A s.n s.c) := HBK.out.cell 6; have q7 : u.cell? ⟨g, 7, none⟩ = some (.slice x.A x.n x.c) := HBK.out.cell 7; have q8 : u.cell? ⟨g, 8, none⟩ = some (.slice e.A e.n e.c) := HBK.out.cell 8
  have hn13 : n13 ≤ 9223372036854775807 := by rw [← HL13.out]; exact Nat.le_trans HLE.out (by decide)
  have HN13 := Lib.hid hn13
  clear hn13
  go_wp2_with (first
    | (go_at_call 18; (refine (HSM.out A13 A14 c13 c14 n13 n14 _ HL13.out HL14.out HN13.out OZ.out.reads OR.out.reads).mono ?_); rintro e9 w9 ⟨rfl, k9, rfl⟩; have HB9 := Lib.hid (bdr HB.out k9); have OWP9 := Lib.hid (OWP.out.drewN k9); have OWS9 := Lib.hid (OWS.out.drewN k9); (have q5 : (u.drewN k9).cell? ⟨g, 5, none⟩ = some (.slice p.A p.n p.c) := HBK.out.cell 5; have q6 : (u.drewN k9).cell? ⟨g, 6, none⟩ = some (.slice s.A s.n s.c) := HBK.out.cell 6; have q7 : (u.drewN k9).cell? ⟨g, 7, none⟩ = some (.slice x.A x.n x.c) := HBK.out.cell 7; have q8 : (u.drewN k9).cell? ⟨g, 8, none⟩ = some (.slice e.A e.n e.c) := HBK.out.cell 8))
    | (go_at_call 19; refine (kept20_any A6 p.A c6 p.c p.n lp _ _ HP.out.len HCAP.out.1 OWP9.out.reads (HP.out.below HB9.out).reads (Nat.le_refl _)).mono ?_; rintro e10 w10 ⟨rfl, hb10⟩; have HB10 := Lib.hid (bcall HB9.out hb10); have OWS10 := Lib.hid (OWS9.out.below hb10 (Nat.le_refl _)); (have q5 : w10.cell? ⟨g, 5, none⟩ = some (.slice p.A p.n p.c) := ((HBK.out.drewN k9).below hb10 (HBK.out.drewN k9).lt).cell 5; have q6 : w10.cell? ⟨g, 6, none⟩ = some (.slice s.A s.n s.c) := ((HBK.out.drewN k9).below hb10 (HBK.out.drewN k9).lt).cell 6; have q7 : w10.cell? ⟨g, 7, none⟩ = some (.slice x.A x.n x.c) := ((HBK.out.drewN k9).below hb10 (HBK.out.drewN k9).lt).cell 7; have q8 : w10.cell? ⟨g, 8, none⟩ = some (.slice e.A e.n e.c) := ((HBK.out.drewN k9).below hb10 (HBK.out.drewN k9).lt).cell 8); clear hb10)
    | (go_at_call 19; refine (kept20_any A7 s.A c7 s.c s.n ls _ _ HS.out.len HCAP.out.2 OWS10.out.reads (HS.out.below HB10.out).reads (Nat.le_refl _)).mono ?_; rintro e11 w11 ⟨rfl, hb11⟩; have HB11 := Lib.hid (bcall HB10.out hb11); clear hb11))
  exact bodyPost_ret (results_tmp rfl _ _ _) rfl ⟨rfl, HB11.out⟩
end Go.Proofs.YteeacbkhmofbeaaGreat

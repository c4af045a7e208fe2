/-
  A segment of Argon's memory filled by the reference. Contracts alone; no statement is claimed here.
-/
import Derived.Test.YtbghkdhkahkfnaaGreatAFilC
import Derived.Test.YtbghkdhkahkfnaaGreatAFilI
import Derived.Test.YtbghkdhkahkfnaaGreatMx
namespace Go.Proofs.YtbghkdhkahkfnaaGreat
open Go.RowKit
attribute [local go_sem] pureUpon Ords.of

structure RFn (w wr : World) (H gm cap ga : Nat) (a : Ar) (hd : List SV) (F : AMem) (S : Nat → Nat → Prop) : Prop where
  mem : RIn wr H gm cap hd a F S
  arg : Blk wr ga 23 (argC a)
  new : w.heap.size ≤ ga
  low : gm < w.heap.size
  but : But [gm] w wr
section
variable {w wr w' : World} {H gm cap ga : Nat} {a : Ar} {hd : List SV} {F : AMem} {S S' : Nat → Nat → Prop}
theorem RFn.below (h : RFn w wr H gm cap ga a hd F S) (hb : Below wr.heap.size wr w') : RFn w w' H gm cap ga a hd F S := ⟨h.mem.below hb, h.arg.below hb h.arg.lt, h.new, h.low, h.but.below hb⟩
theorem RFn.put (h : RFn w wr H gm cap ga a hd F S) {l c k k' : Nat} {A : Option Addr} {b : List UInt8} (hl : l < a.ln) (hc : c < a.cl) (ho : OS cB wr H A k' b) (hA : ∀ x, A = some x → x.block ≠ gm) (hS : ∀ l' c', l' < a.ln → c' < a.cl → S' l' c' → S l' c' ∨ (l' = l ∧ c' = c)) :
  RFn w (wr.setCell ⟨gm, l * a.cl + c, none⟩ (SV.v ⟨A, k, b⟩)) H gm cap ga a (hd.set (l * a.cl + c) ⟨A, k, b⟩) (putM F l c b) S' :=
 ⟨h.mem.put hl hc ho hA hS, h.arg.far (p := ⟨gm, l * a.cl + c, none⟩) (by show ga ≠ gm; have h1 := h.new; have h2 := h.low; omega) _, h.new, h.low, h.but.setCell (.inl (by simp)) _⟩
theorem RIn.slot (h : RIn wr H gm cap hd a F S) {l c q : Nat} (hl : l < a.ln) (hc : c < a.cl) (hq : q = l * a.cl + c) : (∃ v, wr.cell? ⟨gm, q, none⟩ = some v) ∧ wr.frozen? ⟨gm, q, none⟩ = false ∧ gm < wr.heap.size := by
 have hlt : l * a.cl + c < hd.length := by rw [h.len]; exact at_lt hl hc
 obtain ⟨g, x, e, -, h1, -, h2, h3⟩ := h.row.at_ hlt
 injection e with e
 injection e with e
 subst e; subst hq
 exact ⟨⟨_, h2⟩, h3, h1⟩
theorem RIn.entry (h : RIn wr H gm cap hd a F S) (hF : ∀ l c, (F l c).length = 1024) {l c q : Nat} (hl : l < a.ln) (hc : c < a.cl) (hq : q = l * a.cl + c) (hs : S l c) : ∃ A k, wr.cell? ⟨gm, q, none⟩ = some (.slice A 1024 k) ∧ RS cB wr wr.heap.size A (F l c) := by
 have hlt : l * a.cl + c < hd.length := by rw [h.len]; exact at_lt hl hc
 obtain ⟨g, x, e, -, h1, h4, h2, h3⟩ := h.row.at_ hlt
 injection e with e
 injection e with e
 subst e; subst hq
 obtain ⟨A, k, k', h5, h6, h7⟩ := h.ent l c hl hc hs
 rw [h4] at h5
 obtain rfl := Option.some.inj h5
 refine ⟨A, k, ?_, h6.reads⟩
 rw [h2]
 show some (SV.v ⟨A, k, F l c⟩) = _
 unfold SV.v
 rw [hF]
end
structure RNum (a : Ar) (l c n lm q : Nat) : Prop where
  q_ : q = l * a.cl + c
  m : (l : Int) * (a.cl : Int) = (lm : Int)
  s : (lm : Int) + (c : Int) = (q : Int)
  q4 : q < 4096
  m4 : lm ≤ 4096
  qn : (q : Int) < (n : Int)
theorem rnum {a : Ar} (h : a.ok) {l c n lm : Nat} (hm : lm = l * a.cl) (hn : n = a.ln * a.cl) (hl : l < a.ln) (hc : c < a.cl) : ∃ q, RNum a l c n lm q := by
 have hN := Ar.n h
 have h1 := at_lt hl hc
 have h2 := hN.lc
 subst hm
 exact ⟨l * a.cl + c, rfl, by push_cast; rfl, by push_cast; rfl, by omega, by omega, by rw [hn]; exact Int.ofNat_lt.2 h1⟩
theorem Stood.ahead {a : Ar} {p s l x : Nat} (h : SpotOk a p s l x) : Stood a p s l x l (aheadC a s x) := by
 have h1 := h.ahead.2
 unfold Stood
 by_cases hp : p = 0
 ·have := h1 hp
  exact .inr (.inr (.inr (.inr ⟨rfl, by omega⟩)))
 ·exact .inl hp
theorem Stood.skip {a : Ar} {p s l x l' c' : Nat} (hk : p = 0 ∧ s = 0 ∧ x < 2) (h : Stood a p s l (x + 1) l' c') : Stood a p s l x l' c' := by
 rcases h.step with h | ⟨-, h2⟩
 ·exact h
 ·obtain ⟨-, hs, hx⟩ := hk
  unfold Stood
  rw [hs] at h2
  exact .inr (.inl (by omega))
set_option maxRecDepth 20000 in
set_option maxHeartbeats 8000000 in
theorem fillR_any (a : Ar) (h : a.ok) (p s l : Nat) (hp : (p : Int) < a.passes) (hs : s < 4) (hl : l < a.ln) (H gm cap : Nat) (hd : List SV) (F : AMem) (hF : ∀ l c, (F l c).length = 1024) (w : World) (n : Nat) (hn : n = a.ln * a.cl) (hm : RIn w H gm cap hd a F (Stood a p s l 0)) (hH : H ≤ w.heap.size) :
  Calls Tryz.prog 20 #[a.v, .slice (some ⟨gm, 0, none⟩) n cap, .int .i64 p, .int .i64 s, .int .i64 l, .int .i64 a.cl] w fun r w' => ∃ hd', r = .returned (.slice (some ⟨gm, 0, none⟩) n cap) ∧ RIn w' H gm cap hd' a (segM a p s l F a.sg) (Stood a p s l a.sg) ∧ But [gm] w w' := by
 have hN := Ar.n h
 have hau := Lib.hid Tryz.underlying23
 have hcl : (a.cl : Int) / 4 = (a.sg : Int) := by unfold Ar.cl; omega
 have hcq : (a.cl : Int).tdiv 4 = (a.sg : Int) := by rw [Int.tdiv_eq_ediv_of_nonneg (by omega)]; exact hcl
 have hwsg : IntKind.i64.wrap (a.sg : Int) = (a.sg : Int) := by have := hN.s3; rw [IntKind.wrap_i64]; omega
 have HBX := Lib.hid (Blk.new w 23 (argC a))
 have hba := bal (b0 w) (.cells (argC a) 23)
 have lgm := (hm.row.block_lt _ rfl).2
 have HM := Lib.hid (hm.below hba); have HBA := Lib.hid hba; have HFL := Lib.hid hF; have HH := Lib.hid hH
 have HG := Lib.hid lgm
 have HNN := Lib.hid hn
 have hbu := Lib.hid (But.of hba [gm])
 clear hm hba hF lgm hn hH
 obtain ⟨pI, hpI⟩ : ∃ z : Int, z = (p : Int) := ⟨_, rfl⟩
 obtain ⟨sI, hsI⟩ : ∃ z : Int, z = (s : Int) := ⟨_, rfl⟩
 rw [← hpI, ← hsI]
 have HPI := Lib.hid hpI; have HSI := Lib.hid hsI
 clear hpI hsI
 go_enter Tryz.func20, Tryz.ntmps20
 unfold Ar.v
 go_upto_region 2 with fail
 rw [show #[Value.int .i64 a.kind, .int .i64 a.mem, .int .i64 a.passes, .int .i64 a.lanes, .int .i64 a.tag] = argC a from rfl]
 obtain ⟨ga, hga⟩ : ∃ g, g = w.heap.size := ⟨_, rfl⟩
 rw [← hga] at HBX ⊢
 have HGA := Lib.hid hga
 clear hga
 generalize w.alloc (.cells (argC a) 23) = u at *
 have HI : Hid (RFn w u H gm cap ga a hd F (Stood a p s l 0)) := Lib.hid ⟨HM.out, HBX.out, by rw [HGA.out]; exact Nat.le_refl _, HG.out, hbu.out⟩
 clear HM HBX HGA hbu HBA HG
 have hk : 0 ≤ a.kind ∧ a.kind ≤ 2 := by unfold Ar.ok at h; exact ⟨h.1, h.2.1⟩
 have q0 : u.cell? ⟨ga, 0, none⟩ = some (.int .i64 a.kind) := HI.out.arg.cell 0
 have la := HI.out.arg.lt
 obtain ⟨D, hD⟩ : ∃ D, D = drawnB a p s := ⟨_, rfl⟩
 have HD := Lib.hid hD
 clear hD
 go_cut [14] from 25 to 40 (fun v wx => v = .bool (!D) ∧ wx = u)
 case first =>
  obtain ⟨S1, hS1⟩ : ∃ b : Bool, b = decide (s < 2) := ⟨_, rfl⟩
  have hD : Hid (D = (decide (a.kind = 1) || (decide (a.kind = 2) && decide (p = 0) && S1))) := Lib.hid (by rw [hS1]; exact HD.out)
  have t5 : decide (sI > 1) = !S1 := by rw [hS1, HSI.out, Bool.eq_iff_iff]; simp; omega
  have t6 : decide (1 < sI) = !S1 := t5
  clear hS1 HD
  by_cases k0 : a.kind = 0
  ·have t0 : (a.kind == 0) = true := by simp [k0]
   have K0 := Lib.hid k0
   clear k0
   go_wp2_with fail
   go_meet
   exact ⟨by rw [hD.out, K0.out]; rfl, rfl⟩
  ·have t0 : (a.kind == 0) = false := by simp [k0]
   by_cases k2 : a.kind = 2
   ·have t2 : (a.kind == 2) = true := by simp [k2]
    have K2 := Lib.hid k2
    clear k2 k0
    by_cases k3 : p = 0
    ·have t3 : decide (pI > 0) = false := by rw [HPI.out, k3]; rfl
     have t4 : decide (0 < pI) = false := t3
     have K3 := Lib.hid k3
     clear k3
     go_wp2_with fail
     go_meet
     exact ⟨by rw [hD.out, K2.out, decide_eq_true K3.out]; cases S1 <;> rfl, rfl⟩
    ·have t3 : decide (pI > 0) = true := by rw [HPI.out]; simp; omega
     have t4 : decide (0 < pI) = true := t3
     have K3 := Lib.hid k3
     clear k3
     go_wp2_with fail
     go_meet
     exact ⟨by rw [hD.out, K2.out, decide_eq_false K3.out]; rfl, rfl⟩
   ·have t2 : (a.kind == 2) = false := by simp [k2]
    have k1 : a.kind = 1 := by omega
    have K1 := Lib.hid k1
    clear k1 k2 k0
    go_wp2_with fail
    go_meet
    exact ⟨by rw [hD.out, K1.out]; rfl, rfl⟩
 case rest =>
  obtain ⟨rfl, rfl⟩ := hcut
  clear q0 la
  obtain ⟨u, hu⟩ : ∃ x, x = wc := ⟨_, rfl⟩
  rw [← hu] at HI ⊢
  clear hu
  have hadr : ∀ W, Calls Tryz.prog 36 #[a.v, .int .i64 pI, .int .i64 sI, .int .i64 l] W fun e w' => ∃ A c, e = .returned (.tuple #[.slice A a.seg.toNat c, .int .i64 0]) ∧ OS cW w' W.heap.size A c (adrs a p s l) ∧ Below W.heap.size W w' := by
   rw [HPI.out, HSI.out]
   exact fun W => addressesR_yes a h p s l (adr_ok h hp hs hl) W
  have HAD := Lib.hid hadr; clear hadr
  have HLU := Lib.hid HI.out.but.size
  go_upto_if 42 with fail
  go_cut [13] from 43 to 50 (fun v wx => ∃ A n c, v = .slice A n c ∧ Hid (Drw w wx a p s l D A n c) ∧ Hid (Below u.heap.size u wx))
  case first =>
   cases D
   ·go_wp2_with fail
    go_meet
    exact ⟨none, 0, 0, rfl, Lib.hid ⟨fun e => (nomatch e), fun _ => ⟨rfl, rfl, rfl⟩⟩, Lib.hid (b0 u)⟩
   ·go_wp2_with first
     | (refine wpList_load_row rfl 23 _ rfl ga rfl 23 (argC a) (0, 0) _ HI.out.arg hau.out rfl (argC_size a) ?_)
     | (go_at_call 36; refine (HAD.out u).mono ?_; rintro e3 w3 ⟨A3, c3, rfl, ho3, hb3⟩)
    go_meet
    exact ⟨A3, _, c3, rfl, Lib.hid ⟨fun _ => ⟨rfl, _, HLU.out, ho3⟩, fun e => (nomatch e)⟩, Lib.hid hb3⟩
  case rest =>
   obtain ⟨Ad, nd, cd, rfl, HDR, HBX⟩ := hcut
   replace HI := Lib.hid (HI.out.below HBX.out)
   clear HAD HLU HBX
   clear u
   obtain ⟨u, hu⟩ : ∃ x, x = wc := ⟨_, rfl⟩; rw [← hu] at HI HDR ⊢; clear hu
   go_upto_region 7 with fail
   go_loopg [16] a.sg (fun k ix wr => ∃ (x : Nat) (hd' : List SV), x ≤ a.sg ∧ a.sg - x ≤ k ∧ ix = .int .i64 (x : Nat) ∧ RFn w wr H gm cap ga a hd' (segM a p s l F x) (Stood a p s l x) ∧ Drw w wr a p s l D Ad nd cd)
   case atStart => exact ⟨0, hd, Nat.zero_le _, by omega, rfl, HI.out, HDR.out⟩
   case round =>
    clear HI HDR
    clear u
    clear hd
    obtain ⟨x, hd, hx, hxk, rfl, hI, hD2⟩ := hrel
    have HI := Lib.hid hI; have HDR := Lib.hid hD2
    clear hI hD2
    by_cases hlt : x < a.sg
    ·obtain ⟨Fx, hFx⟩ : ∃ Fx, Fx = segM a p s l F x := ⟨_, rfl⟩
     have hSx : segM a p s l F (x + 1) = stepM a p s l x Fx := by rw [hFx]; rfl
     have hFl : ∀ l c, (Fx l c).length = 1024 := by rw [hFx]; exact segM_len a p s l F HFL.out x
     rw [← hFx] at HI
     have HSX := Lib.hid hSx; have HFX := Lib.hid hFl
     clear hSx hFl hFx
     have d1 : decide ((x : Int) < (a.sg : Int)) = true := by simp; omega
     obtain ⟨m, c, ac, N⟩ := fnum h hs hlt
     obtain ⟨lm, hlm⟩ : ∃ lm, lm = l * a.cl := ⟨_, rfl⟩
     obtain ⟨qa, NA⟩ := rnum h hlm HNN.out hl N.al
     obtain ⟨qc, NC⟩ := rnum h hlm HNN.out hl N.cl
     have HLM := Lib.hid hlm
     clear hlm
     have hmw : sI * (a.sg : Int) = (m : Int) := by rw [HSI.out]; exact N.mw
     have hcw := N.cw; have hcl2 := N.cl; have hal := N.al; have hc4 := N.c4; have hm4 := N.m4
     have hat := N.at_
     have HN := Lib.hid N; have HNA := Lib.hid NA; have HNC := Lib.hid NC
     have HLT := Lib.hid (show x < a.seg.toNat from hlt)
     clear N NA NC
     go_upto_region 9 with fail
     obtain ⟨E, hE⟩ : ∃ E, E = (decide (p = 0) && decide (s = 0) && decide (x < 2)) := ⟨_, rfl⟩
     have HE := Lib.hid hE
     clear hE
     obtain ⟨u, hu⟩ : ∃ x, x = wr := ⟨_, rfl⟩; rw [← hu] at HI HDR ⊢; clear hu
     go_cut [67] from 53 to 142 (fun v wx => v = .bool E ∧ wx = u)
     case first =>
      obtain ⟨X2, hX2⟩ : ∃ b : Bool, b = decide (x < 2) := ⟨_, rfl⟩
      have hE2 : Hid (E = (decide (p = 0) && decide (s = 0) && X2)) := Lib.hid (by rw [hX2]; exact HE.out)
      have tx : decide ((x : Int) < 2) = X2 := by rw [hX2, Bool.eq_iff_iff]; simp; omega
      clear hX2 HE
      by_cases k3 : p = 0
      ·have t3 : (pI == 0) = true := by rw [HPI.out, k3]; rfl
       have K3 := Lib.hid k3
       clear k3
       by_cases k4 : s = 0
       ·have t4 : (sI == 0) = true := by rw [HSI.out, k4]; rfl
        have K4 := Lib.hid k4
        clear k4
        go_wp2_with fail
        go_meet
        exact ⟨by rw [hE2.out, decide_eq_true K3.out, decide_eq_true K4.out]; cases X2 <;> rfl, rfl⟩
       ·have t4 : (sI == 0) = false := by rw [HSI.out]; simpa using k4
        have K4 := Lib.hid k4
        clear k4
        go_wp2_with fail
        go_meet
        exact ⟨by rw [hE2.out, decide_eq_true K3.out, decide_eq_false K4.out]; rfl, rfl⟩
      ·have t3 : (pI == 0) = false := by rw [HPI.out]; simpa using k3
       have K3 := Lib.hid k3
       clear k3
       go_wp2_with fail
       go_meet
       exact ⟨by rw [hE2.out, decide_eq_false K3.out]; rfl, rfl⟩
     case rest =>
      obtain ⟨rfl, rfl⟩ := hcut
      obtain ⟨u, hu⟩ : ∃ x, x = wc := ⟨_, rfl⟩; rw [← hu] at HI HDR ⊢; clear hu
      cases E
      ·have hsp : SpotOk a p s l x := ⟨h, hp, hs, hl, hlt, fun ⟨e1, e2, e3⟩ => by
        have h1 := HE.out
        rw [decide_eq_true e1, decide_eq_true e2, decide_eq_true e3] at h1
        cases h1⟩
       have HSP := Lib.hid hsp
       clear hsp
       obtain ⟨Aa, ka, za, hra⟩ := HI.out.mem.entry HFX.out hl hal HNA.out.q_ (by rw [HN.out.ac_]; exact Stood.ahead HSP.out)
       have HRA := Lib.hid hra
       have lg := (HI.out.mem.row.block_lt _ rfl).2
       have nm := HNA.out.m; have ns := HNA.out.s; have n4 := HNA.out.q4; have nm4 := HNA.out.m4; have nn := HNA.out.qn
       clear hra
       go_upto_region 13 with fail
       clear za ns nn n4
       obtain ⟨j, hj⟩ : ∃ j, j = jOf a p s l x (Fx l (aheadC a s x)) := ⟨_, rfl⟩
       have HJ := Lib.hid hj
       clear hj
       go_upto_if 86 with fail
       go_cut [19] from 86 to 95 (fun v wx => v = .int .u64 (wrd j) ∧ wx = u)
       case first =>
        have hj := HJ.out
        subst hj
        cases D
        ·have hl8 := refLoad_any Aa ka 1024 0 8 u.heap.size (Fx l ac) u (HFX.out _ _) (by omega) HRA.out (by omega) (by omega)
         rw [show ((Fx l ac).drop 0).take 8 = (Fx l ac).take 8 by rw [List.drop_zero]] at hl8
         have HL8 := Lib.hid hl8
         clear hl8
         go_wp2_with first
          | (go_at_call 37; refine HL8.out.mono ?_; rintro e3 w3 ⟨rfl, rfl⟩)
         go_meet
         exact ⟨by unfold jOf; rw [← HD.out, HN.out.ac_]; rfl, rfl⟩
        ·obtain ⟨rfl, hb, -, ho⟩ := HDR.out.yes rfl
         have hsi := HLT.out
         obtain ⟨gd, y, rfl, -, ld, e2, zd, -⟩ := ho.at_ (k := x) (by rw [adrs_len]; exact hsi)
         rw [adrs_at a p s l x hsi] at e2
         obtain rfl := Option.some.inj e2
         clear ho e2 hb hsi
         go_wp2_with fail
         go_meet
         exact ⟨by unfold jOf; rw [← HD.out]; rfl, rfl⟩
       case rest =>
       obtain ⟨rfl, rfl⟩ := hcut
       obtain ⟨u, hu⟩ : ∃ x, x = wc := ⟨_, rfl⟩
       rw [← hu] at HI HDR HRA ⊢
       clear hu
       have R1 := HSP.out.ref j
       have hrf : ∀ W, Calls Tryz.prog 38 #[a.v, .int .i64 pI, .int .i64 sI, .int .i64 l, .int .i64 x, .int .u64 (wrd j)] W fun e w' => e = .returned (.tuple #[.int .i64 (refL a p s l j), .int .i64 (refZ a p s l x j), .int .i64 0]) ∧ Below W.heap.size W w' := by
        rw [HPI.out, HSI.out]
        have hb := HSP.out.bad
        intro W
        have h1 := referR_any a p s l x j W
        unfold ansL ansZ ansE at h1
        simp only [h, hb, if_true, if_false, not_false_eq_true, and_self] at h1
        exact h1
       obtain ⟨rl, hrl⟩ : ∃ n, n = (refL a p s l j).toNat := ⟨_, rfl⟩
       obtain ⟨rc, hrc⟩ : ∃ n, n = (refZ a p s l x j).toNat := ⟨_, rfl⟩
       rw [← hrl, ← hrc] at R1
       simp only [R1.l_, R1.z_] at hrf
       have hnw : newB a p s l x Fx = if p = 0 then mixB (Fx l ac) (Fx rl rc) else xorB (mixB (Fx l ac) (Fx rl rc)) (Fx l c) := by
        unfold newB aRef
        dsimp only
        rw [← HJ.out, ← hrl, ← hrc, ← HN.out.ac_, ← HN.out.c_]
       have HNW := Lib.hid hnw; have HRF := Lib.hid hrf
       have hrll := R1.ll; have hrcc := R1.cc
       have HST := Lib.hid R1.st
       have HN0 := Lib.hid HSP.out.n0
       clear hnw hrf R1 hrl hrc HJ
       go_upto_region 17 with first
        | (refine wpList_load_row rfl 23 _ rfl ga rfl 23 (argC a) (0, 0) _ HI.out.arg hau.out rfl (argC_size a) ?_)
        | (go_at_call 38; refine (HRF.out u).mono ?_; rintro e3 w3 ⟨rfl, hb3⟩)
       replace HI := Lib.hid (HI.out.below hb3)
       replace HDR := Lib.hid (HDR.out.below hb3)
       have hra := HRA.out.below hb3
       replace HRA := Lib.hid (hra.more hb3.size)
       clear hra HRF hb3 lg
       clear u
       obtain ⟨u, hu⟩ : ∃ x, x = w3 := ⟨_, rfl⟩
       rw [← hu] at HI HDR HRA ⊢
       clear hu
       obtain ⟨lr, hlr⟩ : ∃ lr, lr = rl * a.cl := ⟨_, rfl⟩
       obtain ⟨qr, NR⟩ := rnum h hlr HNN.out hrll hrcc
       obtain ⟨Ar, kr, zr, hrr⟩ := HI.out.mem.entry HFX.out hrll hrcc NR.q_ HST.out
       have nr := NR.m; have nrs := NR.s; have nr4 := NR.q4; have nrm := NR.m4; have nrn := NR.qn
       have lg := (HI.out.mem.row.block_lt _ rfl).2
       have HRR := Lib.hid hrr
       clear hrr NR hlr
       have HUS := Lib.hid HI.out.but.size
       have hmx := mixR_yes Aa Ar ka kr (Fx l ac) (Fx rl rc) u (HFX.out _ _) (HFX.out _ _) HRA.out HRR.out
       have HMX := Lib.hid hmx; clear hmx
       obtain ⟨PB, hPB⟩ : ∃ b : Bool, b = decide (pI > 0) := ⟨_, rfl⟩
       have tpb : decide (pI > 0) = PB := hPB.symm
       have tpc : decide (0 < pI) = PB := hPB.symm
       have HPB : Hid (PB = !decide (p = 0)) := Lib.hid (by rw [hPB, HPI.out, Bool.eq_iff_iff]; simp; omega)
       clear hPB
       go_upto_if 121 with first
        | (go_at_call 39; refine HMX.out.mono ?_; rintro e4 w4 ⟨A4, c4, rfl, ho4, hb4⟩)
       have HO4 := Lib.hid ho4
       replace HI := Lib.hid (HI.out.below hb4)
       replace HDR := Lib.hid (HDR.out.below hb4)
       obtain ⟨B0, hB0⟩ : ∃ b, b = u.heap.size := ⟨_, rfl⟩
       rw [← hB0] at HO4
       have HB0 : Hid (B0 ≤ w4.heap.size ∧ gm < B0 ∧ H ≤ B0) := Lib.hid ⟨by rw [hB0]; exact hb4.size, by rw [hB0]; exact lg, by have h1 := HH.out; have h2 := HUS.out; rw [hB0]; omega⟩
       clear HMX ho4 hb4 hB0 zr nr nrs nr4 nrm nrn lg HRA HRR HUS
       clear u
       obtain ⟨u, hu⟩ : ∃ x, x = w4 := ⟨_, rfl⟩
       rw [← hu] at HI HDR HO4 HB0 ⊢
       clear hu
       go_cut [23] from 122 to 134 (fun v wx => ∃ A3 c3, v = .slice A3 1024 c3 ∧ Hid (OS cB wx B0 A3 c3 (newB a p s l x Fx)) ∧ Hid (Below u.heap.size u wx))
       case first =>
        cases PB
        ·have K3 : Hid (p = 0) := Lib.hid (by have h1 := HPB.out; by_cases e : p = 0; exact e; rw [decide_eq_false e] at h1; cases h1)
         go_wp2_with fail
         go_meet
         exact ⟨A4, c4, rfl, Lib.hid (by rw [HNW.out, if_pos K3.out]; exact HO4.out), Lib.hid (b0 _)⟩
        ·have K3 : Hid (p ≠ 0) := Lib.hid (fun e => by have h1 := HPB.out; rw [decide_eq_true e] at h1; cases h1)
         obtain ⟨Ac, kc, zc, hrc⟩ := HI.out.mem.entry HFX.out hl hcl2 HNC.out.q_ (.inl K3.out)
         have nc := HNC.out.m; have ncs := HNC.out.s; have nc4 := HNC.out.q4; have ncm := HNC.out.m4; have ncn := HNC.out.qn
         have lg := (HI.out.mem.row.block_lt _ rfl).2
         have hxo := xorR_yes A4 Ac c4 kc (mixB (Fx l ac) (Fx rl rc)) (Fx l c) u (mixB_len _ _) (HFX.out _ _) HO4.out.reads hrc
         have HXO := Lib.hid hxo
         clear hxo hrc
         go_wp2_with first
          | (go_at_call 40; refine HXO.out.mono ?_; rintro e5 w5 ⟨A5, c5, rfl, ho5, hb5⟩)
         go_meet
         exact ⟨A5, c5, rfl, Lib.hid (by rw [HNW.out, if_neg K3.out]; exact ho5.mono HB0.out.1), Lib.hid hb5⟩
       case rest =>
       obtain ⟨A3, c3, rfl, HO3, HB3⟩ := hcut
       obtain ⟨fb, hfb⟩ : ∃ fb, fb = newB a p s l x Fx := ⟨_, rfl⟩
       have hfl : fb.length = 1024 := by rw [hfb]; exact newB_len a p s l x Fx HFX.out
       rw [← hfb] at HO3
       have HFL2 := Lib.hid hfl; have HFB := Lib.hid hfb
       clear hfl hfb
       replace HI := Lib.hid (HI.out.below HB3.out)
       replace HDR := Lib.hid (HDR.out.below HB3.out)
       have HB0 := Lib.hid HB0.out.2
       clear HB3
       obtain ⟨⟨vc, zc⟩, fc, lg⟩ := HI.out.mem.slot hl hcl2 HNC.out.q_
       have nc := HNC.out.m; have ncs := HNC.out.s; have nc4 := HNC.out.q4; have ncm := HNC.out.m4; have ncn := HNC.out.qn
       go_wp2_with fail
       have hput := HI.out.put (A := A3) (k := c3) (k' := c3) (b := fb) (S' := Stood a p s l (x + 1)) hl hcl2 (HO3.out.mono HB0.out.2) (fun y hy => by have h1 := (HO3.out.block_lt y hy).1; have h2 := HB0.out.1; omega) (fun l' c' _ _ hs' => by rw [HN.out.c_]; exact hs'.step)
       have hv : SV.v ⟨A3, c3, fb⟩ = .slice A3 1024 c3 := by show Value.slice A3 fb.length c3 = _; rw [HFL2.out]
       rw [hv, ← HNC.out.q_] at hput
       have hst : stepM a p s l x Fx = putM Fx l c fb := by unfold stepM; rw [if_neg HN0.out, ← HN.out.c_, ← HFB.out]
       have hdp : Drw w (wc.setCell ⟨gm, qc, none⟩ (.slice A3 1024 c3)) a p s l D Ad nd cd := HDR.out.put (vs := [.slice A3 1024 c3]) HI.out.low
       go_roundg (a.sg - (x + 1))
       case measure => omega
       case rel => exact ⟨x + 1, _, hlt, Nat.le_refl _, numF x, by rw [HSX.out, hst]; exact hput, hdp⟩
      ·have hk : p = 0 ∧ s = 0 ∧ x < 2 := by
        have h1 := HE.out.symm
        simp only [Bool.and_eq_true, decide_eq_true_eq] at h1
        exact ⟨h1.1.1, h1.1.2, h1.2⟩
       have HK := Lib.hid hk
       clear hk
       go_wp2_with fail
       go_roundg (a.sg - (x + 1))
       case measure => omega
       case rel => exact ⟨x + 1, hd, hlt, Nat.le_refl _, numF x, by rw [HSX.out]; unfold stepM; rw [if_pos HK.out]; exact ⟨HI.out.mem.less (fun l' c' _ _ hs' => Stood.skip HK.out hs'), HI.out.arg, HI.out.new, HI.out.low, HI.out.but⟩, HDR.out⟩
    ·obtain rfl : x = a.sg := by omega
     have d1 : decide ((a.sg : Int) < (a.sg : Int)) = false := by simp
     go_wp2_with fail
     exact bodyPost_ret (results_tmp rfl _ _ _) rfl ⟨hd, rfl, HI.out.mem, HI.out.but⟩
end Go.Proofs.YtbghkdhkahkfnaaGreat

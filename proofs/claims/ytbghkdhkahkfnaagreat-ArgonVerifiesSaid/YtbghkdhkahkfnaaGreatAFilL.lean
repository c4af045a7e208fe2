/-
  Argon's tag and Verify by the reference. Contracts alone; no statement is claimed here.
-/
import Derived.Test.YtbghkdhkahkfnaaGreatAFilK
import Derived.Test.YtbghkdhkahkfnaaGreatAFilH
import Derived.Test.YtbghkdhkahkfnaaGreatHs
import Derived.Test.YtbghkdhkahkfnaaGreatLw
namespace Go.Proofs.YtbghkdhkahkfnaaGreat
open Go.RowKit
attribute [local go_sem] pureUpon Ords.of

theorem RIn.mono {w : World} {H H' gm cap : Nat} {hs : List SV} {a : Ar} {F : AMem} {S : Nat → Nat → Prop} (h : RIn w H gm cap hs a F S) (hH : H' ≤ H) : RIn w H' gm cap hs a F S :=
 ⟨h.row.mono hH, h.len, fun l c hl hc hs => by
  obtain ⟨A, k, k', h1, h2, h3⟩ := h.ent l c hl hc hs
  exact ⟨A, k, k', h1, h2.mono hH, h3⟩⟩
set_option maxRecDepth 20000 in
set_option maxHeartbeats 4000000 in
theorem hashR_any (a : Ar) (Ap As Ax Ae : Option Addr) (np cp ns cs nx cx ne ce : Nat) (pass salt secret extra : List UInt8) (w : World)
  (lp : pass.length = np) (ls : salt.length = ns) (lx : secret.length = nx) (le_ : extra.length = ne) (rp : RS cB w w.heap.size Ap pass) (rs : RS cB w w.heap.size As salt) (rx : RS cB w w.heap.size Ax secret) (re : RS cB w w.heap.size Ae extra) :
  Calls Tryz.prog 25 #[a.v, .slice Ap np cp, .slice As ns cs, .slice Ax nx cx, .slice Ae ne ce] w fun e w' => ∃ A' n c' cc, e = .returned (.tuple #[.slice A' n cc, .int .i64 (startE a pass.length salt.length secret.length extra.length)]) ∧ (tagO a pass salt secret extra).length = n ∧ OS cB w' w.heap.size A' c' (tagO a pass salt secret extra) ∧ Below w.heap.size w w' := by
 have hba := bal (b0 w) (.cells (argC a) 23)
 have hst := rStartS_any a Ap As Ax Ae np cp ns cs nx cx ne ce pass salt secret extra (w.alloc (.cells (argC a) 23)) lp ls lx le_ ((rp.below hba).more hba.size) ((rs.below hba).more hba.size) ((rx.below hba).more hba.size) ((re.below hba).more hba.size)
 obtain ⟨q, hq, hq2⟩ := startE_i64 a pass.length salt.length secret.length extra.length
 have hto : tagO a pass salt secret extra = if startE a pass.length salt.length secret.length extra.length = 0 then longL a.tag.toNat (tagX a (fullM a (startO a pass salt secret extra)) a.ln) else [] := rfl
 have hok : q = 0 → a.ok := fun e => startE_ok (by rw [hq, e]; rfl)
 have hs64 : q = 0 → (startO a pass salt secret extra).length = 64 := by
  intro e
  unfold startO
  rw [if_pos (by rw [hq, e]; rfl), plainL_len _ _ (Nat.le_refl _)]
 rw [hq] at hst hto ⊢
 have HST := Lib.hid hst; have HTO := Lib.hid hto; have HOK := Lib.hid hok; have HS64 := Lib.hid hs64; have HBA := Lib.hid hba
 have HBX := Lib.hid (Blk.new w 23 (argC a))
 have hau := Lib.hid Tryz.underlying23
 clear hst hto hok hba hq hs64 rp rs rx re lp ls lx le_
 generalize tagO a pass salt secret extra = TT at *
 generalize startO a pass salt secret extra = ST at *
 go_enter Tryz.func25, Tryz.ntmps25
 unfold Ar.v
 go_upto_region 1 with fail
 rw [show #[Value.int .i64 a.kind, .int .i64 a.mem, .int .i64 a.passes, .int .i64 a.lanes, .int .i64 a.tag] = argC a from rfl]
 obtain ⟨ga, hga⟩ : ∃ g, g = w.heap.size := ⟨_, rfl⟩
 rw [← hga] at HBX ⊢
 have HGA := Lib.hid hga
 clear hga
 generalize w.alloc (.cells (argC a) 23) = u at *
 go_upto_region 2 with first
  | (refine wpList_load_row rfl 23 _ rfl ga rfl 23 (argC a) (0, 0) _ HBX.out hau.out rfl (argC_size a) ?_)
  | (go_at_call 45; refine HST.out.mono ?_; rintro e3 w3 ⟨A3, n3, c3, cc3, rfl, hl3, ho3, hb3⟩)
 have HB3 := Lib.hid (HBA.out.trans (hb3.mono HBA.out.size)); have HO3 := Lib.hid ho3; have HL3 := Lib.hid hl3
 have HBY := Lib.hid (HBX.out.below hb3 HBX.out.lt)
 have HLA := Lib.hid (Nat.lt_of_lt_of_le HBX.out.lt hb3.size)
 clear hb3 ho3 hl3 HST HBA HBX
 by_cases hq0 : q = 0
 ·have hok := HOK.out hq0
  have hto := HTO.out
  rw [if_pos (show (q : Int) = 0 by omega)] at hto
  have h64 := HS64.out hq0
  have hn3 : n3 = 64 := by have := HL3.out; omega
  subst hn3
  have hfi := fillA_any a hok A3 cc3 ST w3 h64 HO3.out.reads
  have HFI := Lib.hid hfi; have HTT := Lib.hid hto; have HOKK := Lib.hid hok
  have hN := Ar.n hok
  have hcl : 4 * a.seg = (a.cl : Int) := by rw [hN.sg]; unfold Ar.cl; push_cast; rfl
  have hco := fun W => refColumns_any a W
  simp only [if_pos hok] at hco
  rw [hcl] at hco
  have hcl1 : 1 ≤ a.cl ∧ a.cl ≤ 4096 := by have := hN.s2; have := hN.s3; unfold Ar.cl; omega
  have HCO := Lib.hid hco; have HCL := Lib.hid hcl1
  have h8 := hN.l8
  have HLN := Lib.hid hN.ln
  have HTG : Hid (a.tag = (a.tag.toNat : Int) ∧ 1 ≤ a.tag.toNat ∧ a.tag.toNat ≤ 1048576) := Lib.hid (by unfold Ar.ok at hok; omega)
  have HFM := Lib.hid (show ∀ l c, (fullM a ST l c).length = 1024 from allM_len a _ (startM_len ST) a.passes.toNat)
  clear hfi hto hok HOK HTO h64 HS64 hcl hco hcl1 HL3
  subst hq0
  generalize fullM a ST = FM at *
  go_upto_region 5 with first
   | (refine wpList_load_row rfl 23 _ rfl ga rfl 23 (argC a) (0, 0) _ HBY.out hau.out rfl (argC_size a) ?_)
   | (go_at_call 7; refine HFI.out.mono ?_; rintro e4 w4 ⟨gm, cap, hd, rfl, hm4, hb4⟩)
  have HI : Hid (RFl w w4 gm cap ga a hd FM (fun _ _ => True)) := Lib.hid ⟨hm4.mono HB3.out.size, HBY.out.below hb4 HBY.out.lt, by have h1 := (hm4.row.block_lt _ rfl).1; have h2 := HLA.out; intro e; rw [e] at h2; exact absurd h1 (Nat.not_le.2 h2), Nat.le_trans HB3.out.size (hm4.row.block_lt _ rfl).1, HB3.out.trans (hb4.mono HB3.out.size)⟩
  clear hm4 hb4 HFI HB3 HO3 HBY HLA
  clear w3
  go_upto_region 6 with first
   | (refine wpList_load_row rfl 23 _ rfl ga rfl 23 (argC a) (0, 0) _ HI.out.arg hau.out rfl (argC_size a) ?_)
   | (go_at_call 17; refine (HCO.out w4).mono ?_; rintro e5 w5 ⟨rfl, hb5⟩)
  replace HI := Lib.hid (HI.out.below hb5)
  clear hb5 HCO
  clear w4
  have hmk : ∀ (W : World), (Instr.makeSlice 24 (.int .i64 1024) (.int .i64 1024)).run Tryz.prog W = .ok (.slice (some ⟨W.heap.size, 0, none⟩) 1024 1024) (W.alloc (.cells (madeCells #[cB.zero] 1024) 5)) := fun (W : World) => run_makeS cB_ok .i64 .i64 1024 1024 (Nat.le_refl _) (by show 1 * 1024 ≤ _; decide) (by decide) W
  go_upto_region 7 with fail
  have HZ := Lib.hid (OS.madeAt (cd := cB) (base := w.heap.size) w5 1024 1024 0 rfl (Nat.le_refl _) (by unfold maxLen; omega) HI.out.bel.size rfl)
  replace HI := Lib.hid (HI.out.below (bal (b0 w5) (.cells (madeCells #[cB.zero] 1024) 5)))
  clear hmk
  change Hid (OS cB (w5.alloc (.cells (madeCells #[cB.zero] 1024) 5)) w.heap.size (some ⟨w5.heap.size, 0, none⟩) 1024 zeroB) at HZ
  generalize hv5 : w5.alloc (.cells (madeCells #[cB.zero] 1024) 5) = v at *
  generalize w5.heap.size = gz at *
  clear hv5
  clear w5
  go_wp2_with fail
  go_loopw [19, 18] (fun ix v18 wr => ∃ (l : Nat) (A : Option Addr) (k k' : Nat), l ≤ a.ln ∧ ix = .int .i64 l ∧ v18 = .slice A 1024 k ∧ OS cB wr w.heap.size A k' (tagX a FM l) ∧ RFl w wr gm cap ga a hd FM (fun _ _ => True)) (fun ix _ _ => a.ln - (intOf ix).toNat)
  case atStart => exact ⟨0, _, _, _, Nat.zero_le _, rfl, rfl, HZ.out, HI.out⟩
  case round =>
   clear HI HZ
   clear v
   obtain ⟨l, A, k, k', hl, rfl, rfl, hz, hI⟩ := hrel
   have HI := Lib.hid hI; have HZ := Lib.hid hz
   clear hI hz
   have q3 : wr.cell? ⟨ga, 3, none⟩ = some (.int .i64 a.ln) := by rw [← HLN.out]; exact HI.out.arg.cell 3
   have la := HI.out.arg.lt
   by_cases hlt : l < a.ln
   ·have d1 : decide ((l : Int) < (a.ln : Int)) = true := by simp; omega
    have HLL := Lib.hid hlt
    obtain ⟨lm, hlm⟩ : ∃ lm, lm = l * a.cl := ⟨_, rfl⟩
    have hca : a.cl - 1 < a.cl := by have := HCL.out; omega
    obtain ⟨qq, NQ⟩ := rnum HOKK.out hlm rfl hlt hca
    obtain ⟨Ae, ke, ze, hre⟩ := HI.out.mem.entry HFM.out hlt hca NQ.q_ trivial
    have HRE := Lib.hid hre
    have lg := (HI.out.mem.row.block_lt _ rfl).2
    have nm := NQ.m; have n4 := NQ.q4; have nm4 := NQ.m4; have nn := NQ.qn
    obtain ⟨z, hz⟩ : ∃ z, z = lm + a.cl := ⟨_, rfl⟩
    have hz1 : (lm : Int) + (a.cl : Int) = (z : Int) := by rw [hz]; push_cast; rfl
    have hzq : z = qq + 1 := by have h1 := NQ.q_; have h2 := HCL.out; omega
    have hz2 : (z : Int) - 1 = (qq : Int) := by omega
    have hz4 : z ≤ 8192 := by omega
    have hxo := xorR_yes A Ae k ke (tagX a FM l) (FM l (a.cl - 1)) wr (tagX_len a FM HFM.out l) (HFM.out _ _) HZ.out.reads hre
    have HXO := Lib.hid hxo
    clear hxo hre NQ hlm hz hzq
    go_wp2_with (go_at_call 40; refine HXO.out.mono ?_; rintro e6 w6 ⟨A6, c6, rfl, ho6, hb6⟩)
    exact ⟨⟨l + 1, A6, _, c6, HLL.out, numF l, rfl, ho6.mono HI.out.bel.size, HI.out.below hb6⟩, measF a.ln l HLL.out⟩
   ·obtain rfl : l = a.ln := by omega
    have d1 : decide ((a.ln : Int) < (a.ln : Int)) = false := by simp
    have q4 : wr.cell? ⟨ga, 4, none⟩ = some (.int .i64 a.tag.toNat) := by rw [← HTG.out.1]; exact HI.out.arg.cell 4
    have hlo := refLong_any a.tag.toNat A 1024 k (tagX a FM a.ln) wr HTG.out.2 (tagX_len a FM HFM.out a.ln) (by decide) HZ.out.reads
    have HLO := Lib.hid hlo
    have HTL : Hid (TT.length = a.tag.toNat) := Lib.hid (by rw [HTT.out]; exact longL_len _ _)
    rw [← HTT.out] at HLO
    clear hlo hlt hl
    generalize a.tag.toNat = tn at *
    go_wp2_with (go_at_call 19; refine HLO.out.mono ?_; rintro e7 w7 ⟨A7, k7, c7, rfl, ho7, hb7⟩)
    exact bodyPost_ret (results_tmp2 rfl _ _ _) rfl ⟨A7, _, _, _, rfl, HTL.out, ho7.mono HI.out.bel.size, HI.out.bel.trans (hb7.mono HI.out.bel.size)⟩
 ·have t1 : ((q : Int) == 0) = false := by simp; omega
  have hto := HTO.out
  rw [if_neg (by omega)] at hto
  have HTT := Lib.hid hto
  clear hto HTO HOK hq0
  go_wp2_with fail
  exact bodyPost_ret (results_tmp2 rfl _ _ _) rfl ⟨none, 0, 0, 0, rfl, by rw [HTT.out]; rfl, by rw [HTT.out]; exact OS.nil _ _ 0 rfl, HB3.out⟩
set_option maxRecDepth 20000 in
set_option maxHeartbeats 4000000 in
theorem verifyR_any (a : Ar) (At Ap As Ax Ae : Option Addr) (nt ct np cp ns cs nx cx ne ce : Nat) (tag pass salt secret extra : List UInt8) (w : World)
  (lt : tag.length = nt) (lp : pass.length = np) (ls : salt.length = ns) (lx : secret.length = nx) (le_ : extra.length = ne) (rt : RS cB w w.heap.size At tag) (rp : RS cB w w.heap.size Ap pass) (rs : RS cB w w.heap.size As salt) (rx : RS cB w w.heap.size Ax secret) (re : RS cB w w.heap.size Ae extra) :
  Calls Tryz.prog 12 #[a.v, .slice At nt ct, .slice Ap np cp, .slice As ns cs, .slice Ax nx cx, .slice Ae ne ce] w fun e w' => e = .returned (.tuple #[.bool (verO a tag pass salt secret extra).1, .int .i64 (verO a tag pass salt secret extra).2]) ∧ Below w.heap.size w w' := by
 have hba := bal (b0 w) (.cells (argC a) 23)
 have hst := inputs_any a Ap As Ax Ae np cp ns cs nx cx ne ce (w.alloc (.cells (argC a) 23))
 have hha := fun (W : World) (hb : Below w.heap.size w W) => hashR_any a Ap As Ax Ae np cp ns cs nx cx ne ce pass salt secret extra W lp ls lx le_ ((rp.below hb).more hb.size) ((rs.below hb).more hb.size) ((rx.below hb).more hb.size) ((re.below hb).more hb.size)
 have hv : verO a tag pass salt secret extra = if startE a pass.length salt.length secret.length extra.length ≠ 0 then (false, startE a pass.length salt.length secret.length extra.length) else if (nt : Int) ≠ a.tag then (false, 60) else (decide (tagO a pass salt secret extra = tag), 0) := by unfold verO; rw [lt]
 have hE : startE a np ns nx ne = startE a pass.length salt.length secret.length extra.length := by rw [lp, ls, lx, le_]
 rw [hE] at hst
 obtain ⟨q, hq, hq2⟩ := startE_i64 a pass.length salt.length secret.length extra.length
 have hto : (tagO a pass salt secret extra).length ≤ 9223372036854775807 := by
  unfold tagO
  by_cases h0 : startE a pass.length salt.length secret.length extra.length = 0
  ·have hok := startE_ok h0
   rw [if_pos h0, longL_len]
   unfold Ar.ok at hok
   omega
  ·rw [if_neg h0]; exact Nat.zero_le _
 rw [hq] at hst hha hv
 obtain ⟨V, hV⟩ : ∃ V, V = verO a tag pass salt secret extra := ⟨_, rfl⟩
 rw [← hV] at hv ⊢
 clear hV
 have HST := Lib.hid hst; have HHA := Lib.hid hha; have HV := Lib.hid hv; have HBA := Lib.hid hba; have HRT := Lib.hid rt; have HLT := Lib.hid lt; have HTO := Lib.hid hto
 have HBX := Lib.hid (Blk.new w 23 (argC a))
 have hau := Lib.hid Tryz.underlying23
 clear hst hha hv hba hq rt lt rp rs rx re lp ls lx le_ hto hE
 generalize tagO a pass salt secret extra = TT at *
 go_enter Tryz.func12, Tryz.ntmps12
 go_upto_region 2 with first
  | (refine wpList_load_row rfl 23 _ rfl w.heap.size rfl 23 (argC a) (0, 0) _ HBX.out hau.out rfl (argC_size a) ?_)
  | (go_at_call 24; refine HST.out.mono ?_; rintro e3 w3 ⟨rfl, hb3⟩)
 have HB3 := Lib.hid (HBA.out.trans (hb3.mono HBA.out.size))
 have HBY := Lib.hid (HBX.out.below hb3 HBX.out.lt)
 clear hb3 HST HBA HBX
 by_cases hq0 : q = 0
 ·have hv := HV.out
  rw [if_neg (show ¬ ((q : Int) ≠ 0) by omega)] at hv
  have HV2 := Lib.hid hv
  subst hq0
  clear hv HV
  have qt : w3.cell? ⟨w.heap.size, 4, none⟩ = some (.int .i64 a.tag) := HBY.out.cell 4
  have lb := HBY.out.lt
  by_cases ht : (nt : Int) = a.tag
  ·have hv := HV2.out
   rw [if_neg (show ¬ ((nt : Int) ≠ a.tag) by omega)] at hv
   subst hv
   have t2 : ((nt : Int) == a.tag) = true := by simp [ht]
   clear HV2 ht
   have hh := HHA.out w3 HB3.out
   have HH := Lib.hid hh
   clear hh HHA
   go_wp2_with first
    | (refine wpList_load_row rfl 23 _ rfl w.heap.size rfl 23 (argC a) (0, 0) _ HBY.out hau.out rfl (argC_size a) ?_)
    | (go_at_call 25; refine HH.out.mono ?_; rintro e4 w4 ⟨A4, n4, c4, cc4, rfl, hl4, ho4, hb4⟩; have HB4 := Lib.hid (HB3.out.trans (hb4.mono HB3.out.size)); have HO4 := Lib.hid ho4; have HL4 := Lib.hid hl4; clear hb4 ho4 hl4)
    | (go_at_call 26; refine (sameR_any A4 At cc4 ct TT tag w4.heap.size w4.heap.size n4 nt w4 HL4.out HLT.out (by rw [← HL4.out]; exact HTO.out) HO4.out.reads ((HRT.out.below HB4.out).more HB4.out.size)).mono ?_; rintro e5 w5 ⟨rfl, k5, rfl⟩)
   exact bodyPost_ret (results_tmp2 rfl _ _ _) rfl ⟨rfl, bdr HB4.out k5⟩
  ·have hv := HV2.out
   rw [if_pos ht] at hv
   subst hv
   have t2 : ((nt : Int) == a.tag) = false := by simp [ht]
   clear HV2
   go_wp2_with fail
   exact bodyPost_ret (results_tmp2 rfl _ _ _) rfl ⟨rfl, HB3.out⟩
 ·have hv := HV.out
  rw [if_pos (show (q : Int) ≠ 0 by omega)] at hv
  subst hv
  have t1 : ((q : Int) == 0) = false := by simp; omega
  clear HV hq0
  go_wp2_with fail
  exact bodyPost_ret (results_tmp2 rfl _ _ _) rfl ⟨rfl, HB3.out⟩
end Go.Proofs.YtbghkdhkahkfnaaGreat

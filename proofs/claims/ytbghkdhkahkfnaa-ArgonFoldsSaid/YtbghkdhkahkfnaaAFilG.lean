/-
  Argon's tag by the program, one lane behind the other. Contracts alone; no statement is claimed here.
-/
import Derived.Test.YtbghkdhkahkfnaaFp
import Derived.Test.YtbghkdhkahkfnaaStartO
namespace Go.Proofs.Ytbghkdhkahkfnaa
open Go.RowKit
attribute [local go_sem] pureUpon Ords.of

def fullM (a : Ar) (st : List UInt8) : AMem := allM a (startM st) a.passes.toNat
def tagO (a : Ar) (pass salt secret extra : List UInt8) : List UInt8 :=
  if startE a pass.length salt.length secret.length extra.length = 0 then longL a.tag.toNat (tagX a (fullM a (startO a pass salt secret extra)) a.ln) else []
theorem startE_ok {a : Ar} {np ns nx ne : Nat} (h : startE a np ns nx ne = 0) : a.ok := by
 rcases startE_ways a np ns nx ne with ⟨h1, e⟩ | ⟨h1, h2, e⟩ | ⟨h1, h2, h3, e⟩ | ⟨h1, h2, h3, h4, e⟩ | ⟨h1, h2, h3, h4, h5, e⟩ | ⟨h1, h2, h3, h4, h5, e⟩
 iterate 5 (exact absurd (h.symm.trans e) (by decide))
 exact h1
theorem startE_i64 (a : Ar) (np ns nx ne : Nat) : ∃ q : Nat, startE a np ns nx ne = (q : Int) ∧ q ≤ 201 := by
 unfold startE
 split
 ·exact ⟨200, rfl, by decide⟩
 ·split
  ·exact ⟨2, rfl, by decide⟩
  ·split
   ·exact ⟨201, rfl, by decide⟩
   ·split
    ·exact ⟨2, rfl, by decide⟩
    ·exact ⟨0, rfl, by decide⟩
set_option maxRecDepth 20000 in
set_option maxHeartbeats 4000000 in
theorem hashA_any (a : Ar) (Ap As Ax Ae : Option Addr) (np cp ns cs nx cx ne ce : Nat) (pass salt secret extra : List UInt8) (w : World)
  (lp : pass.length = np) (ls : salt.length = ns) (lx : secret.length = nx) (le_ : extra.length = ne) (rp : RS cB w w.heap.size Ap pass) (rs : RS cB w w.heap.size As salt) (rx : RS cB w w.heap.size Ax secret) (re : RS cB w w.heap.size Ae extra) :
  Calls Try.prog 14 #[a.v, .slice Ap np cp, .slice As ns cs, .slice Ax nx cx, .slice Ae ne ce, .func (.func 15) #[] #[]] w fun e w' => ∃ A' n c' cc, e = .returned (.tuple #[.slice A' n cc, .int .i64 (startE a pass.length salt.length secret.length extra.length)]) ∧ (tagO a pass salt secret extra).length = n ∧ OS cB w' w.heap.size A' c' (tagO a pass salt secret extra) ∧ Below w.heap.size w w' := by
 have hba := bal (b0 w) (.cells (argC a) 23)
 have hst := aStartS_any a Ap As Ax Ae np cp ns cs nx cx ne ce pass salt secret extra (w.alloc (.cells (argC a) 23)) lp ls lx le_ ((rp.below hba).more hba.size) ((rs.below hba).more hba.size) ((rx.below hba).more hba.size) ((re.below hba).more hba.size)
 obtain ⟨q, hq, hq2⟩ := startE_i64 a pass.length salt.length secret.length extra.length
 have hto : tagO a pass salt secret extra = if startE a pass.length salt.length secret.length extra.length = 0 then longL a.tag.toNat (tagX a (fullM a (startO a pass salt secret extra)) a.ln) else [] := rfl
 have hok : q = 0 → a.ok := fun e => startE_ok (by rw [hq, e]; rfl)
 have hs64 : (startO a pass salt secret extra).length ≤ 64 := by
  unfold startO
  split
  ·rw [plainL_len _ _ (Nat.le_refl _)]; exact Nat.le_refl _
  ·exact Nat.zero_le _
 rw [hq] at hst hto ⊢
 have HST := Lib.hid hst; have HTO := Lib.hid hto; have HOK := Lib.hid hok; have HS64 := Lib.hid hs64; have HBA := Lib.hid hba
 have HBX := Lib.hid (Blk.new w 23 (argC a))
 have hau := Lib.hid Try.underlying23
 clear hst hto hok hba hq hs64 rp rs rx re lp ls lx le_
 generalize tagO a pass salt secret extra = TT at *
 generalize startO a pass salt secret extra = ST at *
 go_enter Try.func14, Try.ntmps14
 go_upto_region 2 with first
  | (refine wpList_load_row rfl 23 _ rfl w.heap.size rfl 23 (argC a) (0, 0) _ HBX.out hau.out rfl (argC_size a) ?_)
  | (go_at_call 6; refine HST.out.mono ?_; rintro e3 w3 ⟨A3, n3, c3, cc3, rfl, hl3, ho3, hb3⟩)
 have HB3 := Lib.hid (HBA.out.trans (hb3.mono HBA.out.size)); have HO3 := Lib.hid ho3; have HL3 := Lib.hid hl3
 have HBY := Lib.hid (HBX.out.below hb3 HBX.out.lt)
 clear hb3 ho3 hl3 HST HBA HBX
 by_cases hq0 : q = 0
 ·have hok := HOK.out hq0
  have hto := HTO.out
  rw [if_pos (show (q : Int) = 0 by omega)] at hto
  have hbe := abegin_any a hok A3 n3 cc3 ST w3 HL3.out (by have := HL3.out; have := HS64.out; omega) HO3.out.reads
  have HBE := Lib.hid hbe; have HTT := Lib.hid hto; have HOKK := Lib.hid hok
  clear hbe hto hok HOK HTO
  have hb0 := HBY.out
  obtain ⟨bx, hbx⟩ : ∃ b, b = w.heap.size := ⟨_, rfl⟩
  have HBB : Hid (w.heap.size ≤ bx) := Lib.hid (by rw [hbx]; exact Nat.le_refl _)
  subst hq0
  go_upto_region 5 with first
   | (refine wpList_load_row rfl 23 _ rfl w.heap.size rfl 23 (argC a) (0, 0) _ HBY.out hau.out rfl (argC_size a) ?_)
   | (go_at_call 20; refine HBE.out.mono ?_; rintro e4 w4 ⟨gm, gl, cap, gs, rfl, hm4, hp4, hg1, hg2, hg3, hb4⟩)
  have hal := all_any a HOKK.out _ gm gl cap gs (startM ST) (startM_len ST) w4 ⟨hm4, hp4, hg3⟩
  have HAL := Lib.hid hal; have HB4 := Lib.hid hb4; have HLW := Lib.hid hp4.low
  clear hal hm4 hp4 hg1 hg2 hg3 hb4
  go_upto_region 6 with (go_at_call 21; refine HAL.out.mono ?_; rintro e5 w5 ⟨rfl, hm5, hb5⟩)
  have hta := tag_any a HOKK.out _ gm gl cap gs _ (allM_len a _ (startM_len ST) a.passes.toNat) w5 hm5
  have HTA := Lib.hid hta
  have HB5 := Lib.hid (HB3.out.trans ((HB4.out.trans (hb5.toBelow HB4.out.size HLW.out)).mono HB3.out.size))
  clear hta hm5 hb5
  go_wp2_with (go_at_call 27; refine HTA.out.mono ?_; rintro e6 w6 ⟨A6, c6, cc6, rfl, ho6, hb6⟩)
  exact bodyPost_ret (results_tmp2 rfl _ _ _) rfl ⟨A6, _, c6, cc6, rfl, by rw [HTT.out]; exact longL_len _ _, by rw [HTT.out]; exact ho6.mono HB5.out.size, HB5.out.trans (hb6.mono HB5.out.size)⟩
 ·have t1 : ((q : Int) == 0) = false := by simp; omega
  have hto := HTO.out
  rw [if_neg (by omega)] at hto
  have HTT := Lib.hid hto
  clear hto HTO HOK hq0
  go_wp2_with fail
  exact bodyPost_ret (results_tmp2 rfl _ _ _) rfl ⟨none, 0, 0, 0, rfl, by rw [HTT.out]; rfl, by rw [HTT.out]; exact OS.nil _ _ 0 rfl, HB3.out⟩
set_option maxRecDepth 20000 in
set_option maxHeartbeats 4000000 in
theorem hashP_any (a : Ar) (Ap As Ax Ae : Option Addr) (np cp ns cs nx cx ne ce : Nat) (pass salt secret extra : List UInt8) (w : World)
  (lp : pass.length = np) (ls : salt.length = ns) (lx : secret.length = nx) (le_ : extra.length = ne) (rp : RS cB w w.heap.size Ap pass) (rs : RS cB w w.heap.size As salt) (rx : RS cB w w.heap.size Ax secret) (re : RS cB w w.heap.size Ae extra) :
  Calls Try.prog 5 #[a.v, .slice Ap np cp, .slice As ns cs, .slice Ax nx cx, .slice Ae ne ce] w fun e w' => ∃ A' n c' cc, e = .returned (.tuple #[.slice A' n cc, .int .i64 (startE a pass.length salt.length secret.length extra.length)]) ∧ (tagO a pass salt secret extra).length = n ∧ OS cB w' w.heap.size A' c' (tagO a pass salt secret extra) ∧ Below w.heap.size w w' := by
 have hba := bal (b0 w) (.cells (argC a) 23)
 have hst := hashA_any a Ap As Ax Ae np cp ns cs nx cx ne ce pass salt secret extra (w.alloc (.cells (argC a) 23)) lp ls lx le_ ((rp.below hba).more hba.size) ((rs.below hba).more hba.size) ((rx.below hba).more hba.size) ((re.below hba).more hba.size)
 obtain ⟨q, hq, hq2⟩ := startE_i64 a pass.length salt.length secret.length extra.length
 rw [hq] at hst ⊢
 have HST := Lib.hid hst; have HBA := Lib.hid hba
 have HBX := Lib.hid (Blk.new w 23 (argC a))
 have hau := Lib.hid Try.underlying23
 clear hst hba hq rp rs rx re lp ls lx le_
 generalize tagO a pass salt secret extra = TT at *
 go_enter Try.func5, Try.ntmps5
 go_wp2_with first
  | (refine wpList_load_row rfl 23 _ rfl w.heap.size rfl 23 (argC a) (0, 0) _ HBX.out hau.out rfl (argC_size a) ?_)
  | (go_at_call 14; refine HST.out.mono ?_; rintro e3 w3 ⟨A3, n3, c3, cc3, rfl, hl3, ho3, hb3⟩)
 exact bodyPost_ret (results_tmp2 rfl _ _ _) rfl ⟨A3, n3, c3, cc3, rfl, hl3, ho3.mono HBA.out.size, HBA.out.trans (hb3.mono HBA.out.size)⟩
end Go.Proofs.Ytbghkdhkahkfnaa

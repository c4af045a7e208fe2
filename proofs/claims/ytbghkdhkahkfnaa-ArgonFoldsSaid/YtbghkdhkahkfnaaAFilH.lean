/-
  Argon's Verify by the program. Contracts alone; no statement is claimed here.
-/
import Derived.Test.YtbghkdhkahkfnaaAFilG
import Derived.Test.YtbghkdhkahkfnaaHx
namespace Go.Proofs.Ytbghkdhkahkfnaa
open Go.RowKit
attribute [local go_sem] pureUpon Ords.of

theorem wsame_any (A1 A2 : Option Addr) (n1 c1 n2 c2 : Nat) (x y : List UInt8) (w : World) (hx : x.length = n1) (hy : y.length = n2) (h1 : RS cB w w.heap.size A1 x) (h2 : RS cB w w.heap.size A2 y) :
  Calls Try.prog 26 #[.slice A1 n1 c1, .slice A2 n2 c2] w fun e w' => e = .returned (.bool (decide (x = y))) ∧ w' = w := by
 have hc1 := run_string (c := c1) h1 hx
 have hc2 := run_string (c := c2) h2 hy
 go_enter Try.func26, Try.ntmps26
 go_wp2_with fail
 have e : (x == y) = decide (x = y) := by rw [Bool.eq_iff_iff]; simp
 exact bodyPost_ret (results_tmp rfl _ _ _) rfl ⟨by rw [← e]; rfl, rfl⟩
def verO (a : Ar) (tag pass salt secret extra : List UInt8) : Bool × Int :=
  if startE a pass.length salt.length secret.length extra.length ≠ 0 then (false, startE a pass.length salt.length secret.length extra.length) else if (tag.length : Int) ≠ a.tag then (false, 60) else (decide (tagO a pass salt secret extra = tag), 0)
set_option maxRecDepth 20000 in
set_option maxHeartbeats 4000000 in
theorem verifyP_any (a : Ar) (At Ap As Ax Ae : Option Addr) (nt ct np cp ns cs nx cx ne ce : Nat) (tag pass salt secret extra : List UInt8) (w : World)
  (lt : tag.length = nt) (lp : pass.length = np) (ls : salt.length = ns) (lx : secret.length = nx) (le_ : extra.length = ne) (rt : RS cB w w.heap.size At tag) (rp : RS cB w w.heap.size Ap pass) (rs : RS cB w w.heap.size As salt) (rx : RS cB w w.heap.size Ax secret) (re : RS cB w w.heap.size Ae extra) :
  Calls Try.prog 12 #[a.v, .slice At nt ct, .slice Ap np cp, .slice As ns cs, .slice Ax nx cx, .slice Ae ne ce] w fun e w' => e = .returned (.tuple #[.bool (verO a tag pass salt secret extra).1, .int .i64 (verO a tag pass salt secret extra).2]) ∧ Below w.heap.size w w' := by
 have hba := bal (b0 w) (.cells (argC a) 23)
 have hst := aStartS_any a Ap As Ax Ae np cp ns cs nx cx ne ce pass salt secret extra (w.alloc (.cells (argC a) 23)) lp ls lx le_ ((rp.below hba).more hba.size) ((rs.below hba).more hba.size) ((rx.below hba).more hba.size) ((re.below hba).more hba.size)
 have hha := fun (W : World) (hb : Below w.heap.size w W) => hashP_any a Ap As Ax Ae np cp ns cs nx cx ne ce pass salt secret extra W lp ls lx le_ ((rp.below hb).more hb.size) ((rs.below hb).more hb.size) ((rx.below hb).more hb.size) ((re.below hb).more hb.size)
 have hv : verO a tag pass salt secret extra = if startE a pass.length salt.length secret.length extra.length ≠ 0 then (false, startE a pass.length salt.length secret.length extra.length) else if (nt : Int) ≠ a.tag then (false, 60) else (decide (tagO a pass salt secret extra = tag), 0) := by unfold verO; rw [lt]
 obtain ⟨q, hq, hq2⟩ := startE_i64 a pass.length salt.length secret.length extra.length
 have hok : q = 0 → a.ok := fun e => startE_ok (by rw [hq, e]; rfl)
 rw [hq] at hst hha hv
 obtain ⟨V, hV⟩ : ∃ V, V = verO a tag pass salt secret extra := ⟨_, rfl⟩
 rw [← hV] at hv ⊢
 clear hV
 have HST := Lib.hid hst; have HHA := Lib.hid hha; have HV := Lib.hid hv; have HBA := Lib.hid hba; have HRT := Lib.hid rt; have HLT := Lib.hid lt
 have HBX := Lib.hid (Blk.new w 23 (argC a))
 have hau := Lib.hid Try.underlying23
 clear hst hha hv hba hq hok rt lt rp rs rx re lp ls lx le_
 generalize tagO a pass salt secret extra = TT at *
 generalize startO a pass salt secret extra = ST at *
 go_enter Try.func12, Try.ntmps12
 go_upto_region 2 with first
  | (refine wpList_load_row rfl 23 _ rfl w.heap.size rfl 23 (argC a) (0, 0) _ HBX.out hau.out rfl (argC_size a) ?_)
  | (go_at_call 6; refine HST.out.mono ?_; rintro e3 w3 ⟨A3, n3, c3, cc3, rfl, hl3, ho3, hb3⟩)
 have HB3 := Lib.hid (HBA.out.trans (hb3.mono HBA.out.size))
 have HBY := Lib.hid (HBX.out.below hb3 HBX.out.lt)
 clear hb3 ho3 hl3 HST HBA HBX
 by_cases hq0 : q = 0
 ·have hv := HV.out
  rw [if_neg (show ¬ ((q : Int) ≠ 0) by omega)] at hv
  have HV2 := Lib.hid hv
  subst hq0
  clear hv HV
  have qt : w3.cell? ⟨w.heap.size, 4, none⟩ = some (.int .i64 a.tag) := HBY.out.cell 4
  have lb := HBY.out.lt
  by_cases ht : (nt : Int) = a.tag
  ·have hv := HV2.out
   rw [if_neg (show ¬ ((nt : Int) ≠ a.tag) by omega)] at hv
   subst hv
   have t2 : ((nt : Int) == a.tag) = true := by simp [ht]
   have HT := Lib.hid ht
   clear HV2 ht
   have hh := HHA.out w3 HB3.out
   have HH := Lib.hid hh
   clear hh HHA
   go_wp2_with first
    | (refine wpList_load_row rfl 23 _ rfl w.heap.size rfl 23 (argC a) (0, 0) _ HBY.out hau.out rfl (argC_size a) ?_)
    | (go_at_call 5; refine HH.out.mono ?_; rintro e4 w4 ⟨A4, n4, c4, cc4, rfl, hl4, ho4, hb4⟩; have HB4 := Lib.hid (HB3.out.trans (hb4.mono HB3.out.size)); have HO4 := Lib.hid ho4; have HL4 := Lib.hid hl4; clear hb4 ho4 hl4)
    | (go_at_call 26; refine (wsame_any A4 At n4 cc4 nt ct TT tag w4 HL4.out HLT.out HO4.out.reads ((HRT.out.below HB4.out).more HB4.out.size)).mono ?_; rintro e5 w5 ⟨rfl, rfl⟩)
   exact bodyPost_ret (results_tmp2 rfl _ _ _) rfl ⟨rfl, HB4.out⟩
  ·have hv := HV2.out
   rw [if_pos ht] at hv
   subst hv
   have t2 : ((nt : Int) == a.tag) = false := by simp [ht]
   clear HV2
   go_wp2_with fail
   exact bodyPost_ret (results_tmp2 rfl _ _ _) rfl ⟨rfl, HB3.out⟩
 ·have hv := HV.out
  rw [if_pos (show (q : Int) ≠ 0 by omega)] at hv
  subst hv
  have t1 : ((q : Int) == 0) = false := by simp; omega
  clear HV hq0
  go_wp2_with fail
  exact bodyPost_ret (results_tmp2 rfl _ _ _) rfl ⟨rfl, HB3.out⟩
end Go.Proofs.Ytbghkdhkahkfnaa

/-
  Refer, of the program. Contracts alone; no statement is claimed here.
-/
import Derived.Test.YtnkngaicegcejaaArgonD
namespace Go.Proofs.Ytnkngaicegcejaa
open Go.RowKit

instance (a : Ar) (p s l x : Int) : Decidable (spotBad a p s l x) := by unfold spotBad; infer_instance
def ansE (a : Ar) (p s l x : Int) : Int := if a.ok then (if spotBad a p s l x then 1 else 0) else 200
def ansL (a : Ar) (p s l x : Int) (j : UInt64) : Int := if a.ok ∧ ¬ spotBad a p s l x then refL a p s l j else 0
def ansZ (a : Ar) (p s l x : Int) (j : UInt64) : Int := if a.ok ∧ ¬ spotBad a p s l x then refZ a p s l x j else 0

set_option maxRecDepth 10000 in
set_option maxHeartbeats 4000000 in
theorem referP_any (a : Ar) (p s l x : Int) (j : UInt64) (w : World) :
    Calls Try.prog 27 #[a.v, .int .i64 p, .int .i64 s, .int .i64 l, .int .i64 x, .int .u64 (wrd j)] w fun e w' => e = .returned (.tuple #[.int .i64 (ansL a p s l x j), .int .i64 (ansZ a p s l x j), .int .i64 (ansE a p s l x)]) ∧ Below w.heap.size w w' := by
  have hm := fun w => may_any a w
  have hsg := fun (h : a.ok) w => segment_any h w
  have hrf := fun (h : a.ok) (hb : ¬ spotBad a p s l x) w => refer_any h j hb w
  obtain ⟨rL, hL⟩ : ∃ r, r = ansL a p s l x j := ⟨_, rfl⟩
  obtain ⟨rZ, hZ⟩ : ∃ r, r = ansZ a p s l x j := ⟨_, rfl⟩
  obtain ⟨rE, hE⟩ : ∃ r, r = ansE a p s l x := ⟨_, rfl⟩
  rw [← hL, ← hZ, ← hE]
  unfold ansL at hL
  unfold ansZ at hZ
  unfold ansE at hE
  obtain ⟨H, hH⟩ : ∃ H, H = w.heap.size := ⟨_, rfl⟩
  rw [← hH]
  by_cases h : a.ok
  · rw [decide_eq_true h] at hm
    have hsg := hsg h
    have hrf := hrf h
    simp only [h, true_and, if_true] at hL hZ hE
    obtain ⟨B, hB⟩ : ∃ B, B = decide (spotBad a p s l x) := ⟨_, rfl⟩
    have HBB := Lib.hid hB
    have bad : spotBad a p s l x ↔ (p < 0 ∨ a.passes ≤ p ∨ s < 0 ∨ 3 < s ∨ l < 0 ∨ a.lanes ≤ l ∨ x < 0 ∨ a.seg ≤ x ∨ (p = 0 ∧ s = 0 ∧ x < 2)) := Iff.rfl
    obtain ⟨g, hg⟩ : ∃ g, g = a.seg := ⟨_, rfl⟩
    rw [← hg] at bad hsg
    clear h hg
    obtain ⟨kk, m, pp, ll, t⟩ := a
    unfold Ar.v at *
    dsimp only at bad
    have HM := Lib.hid hm; have HS := Lib.hid hsg; have HR := Lib.hid hrf; have HL := Lib.hid hL; have HZ := Lib.hid hZ; have HE := Lib.hid hE; have BAD := Lib.hid bad
    clear hm hsg hrf hL hZ hE bad hB
    go_enter Try.func27, Try.ntmps27
    go_upto_region 1 with fail
    have HX : Blk (w.alloc (.cells #[.int .i64 kk, .int .i64 m, .int .i64 pp, .int .i64 ll, .int .i64 t] 49)) H 49 #[.int .i64 kk, .int .i64 m, .int .i64 pp, .int .i64 ll, .int .i64 t] := by rw [hH]; exact Blk.new _ _ _
    have hbw : Below H w (w.alloc (.cells #[.int .i64 kk, .int .i64 m, .int .i64 pp, .int .i64 ll, .int .i64 t] 49)) := (Below.refl _ _).alloc (by omega) _
    rw [← hH]
    have HH := Lib.hid hH; clear hH
    generalize w.alloc (.cells #[.int .i64 kk, .int .i64 m, .int .i64 pp, .int .i64 ll, .int .i64 t] 49) = w0 at *
    have HX := Lib.hid HX
    have c0 : w0.cell? ⟨H, 0, none⟩ = some (.int .i64 kk) := HX.out.cell 0
    have c1 : w0.cell? ⟨H, 1, none⟩ = some (.int .i64 m) := HX.out.cell 1
    have c2 : w0.cell? ⟨H, 2, none⟩ = some (.int .i64 pp) := HX.out.cell 2
    have c3 : w0.cell? ⟨H, 3, none⟩ = some (.int .i64 ll) := HX.out.cell 3
    have c4 : w0.cell? ⟨H, 4, none⟩ = some (.int .i64 t) := HX.out.cell 4
    go_upto_region 3 with (go_at_call 54; refine (HM.out _).mono ?_; rintro e w1 ⟨rfl, hb1⟩; have HY := HX.out.below hb1 HX.out.lt; have hbw1 := hbw.trans (hb1.mono (Nat.le_of_lt HX.out.lt)); have d0 : w1.cell? ⟨H, 0, none⟩ = some (.int .i64 kk) := HY.cell 0; have d1 : w1.cell? ⟨H, 1, none⟩ = some (.int .i64 m) := HY.cell 1; have d2 : w1.cell? ⟨H, 2, none⟩ = some (.int .i64 pp) := HY.cell 2; have d3 : w1.cell? ⟨H, 3, none⟩ = some (.int .i64 ll) := HY.cell 3; have d4 : w1.cell? ⟨H, 4, none⟩ = some (.int .i64 t) := HY.cell 4; have HY := Lib.hid HY; clear hb1)
    go_cut [1, 2, 67] from 20 to 67 (fun b1 b2 u wx => b1 = .int .i64 p ∧ b2 = .int .i64 s ∧ u = .bool B ∧ Blk wx H 49 #[.int .i64 kk, .int .i64 m, .int .i64 pp, .int .i64 ll, .int .i64 t] ∧ Below H w wx)
    case first =>
      go_wp2_with (go_at_call 55; refine (HS.out _).mono ?_; rintro e w2 ⟨rfl, hb2⟩)
      all_goals go_meet
      all_goals refine ⟨by first | rfl | exact congrArg _ (by omega), by first | rfl | exact congrArg _ (by omega), ?_, ?_, ?_⟩
      all_goals first
        | exact HY.out
        | exact HY.out.below hb2 HY.out.lt
        | exact hbw1
        | exact hbw1.trans (hb2.mono (Nat.le_of_lt HY.out.lt))
        | (have hbd := BAD.out
           rw [HBB.out]
           refine congrArg Value.bool ?_
           rw [Bool.eq_iff_iff]
           simp only [Bool.or_eq_true, decide_eq_true_eq]
           rw [hbd]
           omega)
        | (have hbd := BAD.out
           rw [HBB.out]
           exact congrArg Value.bool (decide_eq_true (hbd.2 (by omega))).symm)
    case rest =>
      obtain ⟨rfl, rfl, rfl, HZ1, hbw2⟩ := hcut
      have HY := Lib.hid HZ1; clear HZ1
      by_cases hbad : spotBad ⟨kk, m, pp, ll, t⟩ p s l x
      · have hB : B = true := by rw [HBB.out]; exact decide_eq_true hbad
        subst hB
        go_wp2
        refine bodyPost_ret (results_tmp3 rfl _ _ _) rfl ⟨?_, hbw2⟩
        have hL := HL.out; have hZ := HZ.out; have hE := HE.out
        rw [if_neg (by simpa using hbad)] at hL hZ
        rw [if_pos hbad] at hE
        rw [hL, hZ, hE]; rfl
      · have hB : B = false := by rw [HBB.out]; exact decide_eq_false hbad
        subst hB
        have HNB := Lib.hid hbad; clear hbad
        have z0 : wc.cell? ⟨H, 0, none⟩ = some (.int .i64 kk) := HY.out.cell 0
        have z1 : wc.cell? ⟨H, 1, none⟩ = some (.int .i64 m) := HY.out.cell 1
        have z2 : wc.cell? ⟨H, 2, none⟩ = some (.int .i64 pp) := HY.out.cell 2
        have z3 : wc.cell? ⟨H, 3, none⟩ = some (.int .i64 ll) := HY.out.cell 3
        have z4 : wc.cell? ⟨H, 4, none⟩ = some (.int .i64 t) := HY.out.cell 4
        go_wp2_with (go_at_call 56; refine (HR.out HNB.out _).mono ?_; rintro e w2 ⟨rfl, hb2⟩)
        refine bodyPost_ret (results_tmp3 rfl _ _ _) rfl ⟨?_, hbw2.trans (hb2.mono (Nat.le_of_lt HY.out.lt))⟩
        have hL := HL.out; have hZ := HZ.out; have hE := HE.out
        rw [if_pos HNB.out] at hL hZ
        rw [if_neg HNB.out] at hE
        rw [hL, hZ, hE]; rfl
  · have hm' := hm
    rw [decide_eq_false h] at hm
    obtain ⟨kk, m, pp, ll, t⟩ := a
    unfold Ar.v at *
    have HM := Lib.hid hm
    have HL := Lib.hid hL; have HZ := Lib.hid hZ; have HE := Lib.hid hE; have HN := Lib.hid h
    clear hm hm' hsg hrf hL hZ hE h
    go_enter Try.func27, Try.ntmps27
    go_wp2_with (go_at_call 54; refine (HM.out _).mono ?_; rintro e w1 ⟨rfl, hb1⟩)
    refine bodyPost_ret (results_tmp3 rfl _ _ _) rfl ⟨?_, ?_⟩
    · have hL := HL.out; have hZ := HZ.out; have hE := HE.out
      rw [if_neg (fun h => HN.out h.1)] at hL hZ
      rw [if_neg HN.out] at hE
      rw [hL, hZ, hE]; rfl
    · rw [hH]
      exact ((Below.refl _ _).alloc (Nat.le_refl _) _).trans (hb1.mono (by simp))
end Go.Proofs.Ytnkngaicegcejaa

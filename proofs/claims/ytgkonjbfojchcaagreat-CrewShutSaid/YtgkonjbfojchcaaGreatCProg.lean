/-
  A crew that is made, written to, closed. Contracts alone; no statement is claimed here.
-/
import Derived.Test.YtgkonjbfojchcaaGreatCValid
import Derived.Test.YtgkonjbfojchcaaGreatAwk17
namespace Go.Proofs.YtgkonjbfojchcaaGreat
open Go.RowKit
attribute [local go_sem] pureUpon Ords.of

theorem Tr.size (t : Tr) : (Tryz.prog.info? 28).map (·.size) = some t.cs.size := by unfold Tr.cs; kernel_rfl
theorem refValid17_any (t : Tr) (a b : Int) (w : World) : Calls Tryz.prog 13 #[.agg t.cs, .agg #[.int .i64 a, .int .i64 b]] w fun e w' => e = .returned (.int .i64 (if treeE t ≠ 0 then treeE t else poolE a b)) ∧ Below w.heap.size w w' := by
  have ht := fun W => refTree_any t W
  have hp := fun W => refPool_any a b W
  generalize treeE t = E at *
  generalize poolE a b = E2 at *
  have HT := Lib.hid ht; have HP := Lib.hid hp; have HSZ := Lib.hid (Tr.size t); clear ht hp
  have hu := Lib.hid Tryz.underlying28
  have hup := Lib.hid Tryz.underlying30
  have hps : Hid ((Tryz.prog.info? 30).map (·.size) = some (#[Value.int .i64 a, .int .i64 b]).size) := by show _ = _; kernel_rfl
  by_cases hE : E = 0
  · have t0 : (E != 0) = false := by rw [hE]; rfl
    rw [if_neg (fun h => h hE)]
    clear hE
    go_enter Tryz.func13, Tryz.ntmps13
    go_upto_region 1 with fail
    have HK := Lib.hid ((Blk.new w 28 t.cs).alloc (.cells #[.int .i64 a, .int .i64 b] 30))
    have HL := Lib.hid (Blk.new2 w (.cells t.cs 28) 30 #[.int .i64 a, .int .i64 b])
    have HB := Lib.hid (bal (bal (b0 w) (.cells t.cs 28)) (.cells #[.int .i64 a, .int .i64 b] 30))
    generalize (w.alloc (.cells t.cs 28)).alloc (.cells #[.int .i64 a, .int .i64 b] 30) = u at *
    go_wp2_with (first
      | (refine wpList_load_row rfl 28 _ rfl w.heap.size rfl 28 t.cs (0, 0) _ HK.out hu.out rfl HSZ.out ?_)
      | (refine wpList_load_row rfl 30 _ rfl (w.heap.size + 1) rfl 30 _ (0, 0) _ HL.out hup.out rfl hps.out ?_)
      | (go_at_call 20; refine (HT.out _).mono ?_; rintro e1 u ⟨rfl, hb1⟩; replace HL := Lib.hid (HL.out.below hb1 HL.out.lt); replace HB := Lib.hid (bcall HB.out hb1); clear hb1)
      | (go_at_call 21; refine (HP.out _).mono ?_; rintro e2 u ⟨rfl, hb1⟩; replace HB := Lib.hid (bcall HB.out hb1); clear hb1))
    exact bodyPost_ret (results_tmp rfl _ _ _) rfl ⟨rfl, HB.out⟩
  · have t0 : (E != 0) = true := by simpa using hE
    rw [if_pos hE]
    clear hE
    go_enter Tryz.func13, Tryz.ntmps13
    go_upto_region 1 with fail
    have HK := Lib.hid ((Blk.new w 28 t.cs).alloc (.cells #[.int .i64 a, .int .i64 b] 30))
    have HL := Lib.hid (Blk.new2 w (.cells t.cs 28) 30 #[.int .i64 a, .int .i64 b])
    have HB := Lib.hid (bal (bal (b0 w) (.cells t.cs 28)) (.cells #[.int .i64 a, .int .i64 b] 30))
    generalize (w.alloc (.cells t.cs 28)).alloc (.cells #[.int .i64 a, .int .i64 b] 30) = u at *
    go_wp2_with (first
      | (refine wpList_load_row rfl 28 _ rfl w.heap.size rfl 28 t.cs (0, 0) _ HK.out hu.out rfl HSZ.out ?_)
      | (refine wpList_load_row rfl 30 _ rfl (w.heap.size + 1) rfl 30 _ (0, 0) _ HL.out hup.out rfl hps.out ?_)
      | (go_at_call 20; refine (HT.out _).mono ?_; rintro e1 u ⟨rfl, hb1⟩; replace HL := Lib.hid (HL.out.below hb1 HL.out.lt); replace HB := Lib.hid (bcall HB.out hb1); clear hb1)
      | (go_at_call 21; refine (HP.out _).mono ?_; rintro e2 u ⟨rfl, hb1⟩; replace HB := Lib.hid (bcall HB.out hb1); clear hb1))
    exact bodyPost_ret (results_tmp rfl _ _ _) rfl ⟨rfl, HB.out⟩
theorem mostP_big (w : World) : Calls Tryz.prog 51 #[.int .i64 1] w fun e w' => e = .returned (.tuple #[.int .i64 64, .int .i64 0]) ∧ w = w' := by
      have hs := fun W => sizes_big W
      have HS := Lib.hid hs; clear hs
      go_enter Tryz.func51, Tryz.ntmps51
      go_wp2_with fail
      refine (HS.out _).mono ?_
      rintro e1 w1 ⟨rfl, rfl⟩
      go_wp2_with fail
      exact bodyPost_ret (results_tmp2 rfl _ _ _) rfl ⟨rfl, rfl⟩
theorem mostP_small (w : World) : Calls Tryz.prog 51 #[.int .i64 2] w fun e w' => e = .returned (.tuple #[.int .i64 32, .int .i64 0]) ∧ w = w' := by
        have hs := fun W => sizes_small W
        have HS := Lib.hid hs; clear hs
        go_enter Tryz.func51, Tryz.ntmps51
        go_wp2_with fail
        refine (HS.out _).mono ?_
        rintro e1 w1 ⟨rfl, rfl⟩
        go_wp2_with fail
        exact bodyPost_ret (results_tmp2 rfl _ _ _) rfl ⟨rfl, rfl⟩
theorem side_big (A : Option Addr) (n c p : Nat) (w : World) (hc : w.cell? ⟨p, 0, none⟩ = some (.int .i64 64)) (h : n = 0 ∨ n = 16) : Calls Tryz.prog 52 #[.slice A n c, .pointer (some ⟨p, 0, none⟩)] w fun e w' => e = .returned (.bool true) ∧ w = w' := by
          rcases h with rfl | rfl
          · go_enter Tryz.func52, Tryz.ntmps52
            go_wp2
            exact bodyPost_ret (results_tmp rfl _ _ _) rfl ⟨rfl, rfl⟩
          · go_enter Tryz.func52, Tryz.ntmps52
            go_wp2
            exact bodyPost_ret (results_tmp rfl _ _ _) rfl ⟨rfl, rfl⟩
theorem side_small (A : Option Addr) (n c p : Nat) (w : World) (hc : w.cell? ⟨p, 0, none⟩ = some (.int .i64 32)) (h : n = 0 ∨ n = 8) : Calls Tryz.prog 52 #[.slice A n c, .pointer (some ⟨p, 0, none⟩)] w fun e w' => e = .returned (.bool true) ∧ w = w' := by
              rcases h with rfl | rfl
              · go_enter Tryz.func52, Tryz.ntmps52
                go_wp2
                exact bodyPost_ret (results_tmp rfl _ _ _) rfl ⟨rfl, rfl⟩
              · go_enter Tryz.func52, Tryz.ntmps52
                go_wp2
                exact bodyPost_ret (results_tmp rfl _ _ _) rfl ⟨rfl, rfl⟩
set_option maxRecDepth 20000 in
set_option maxHeartbeats 4000000 in
theorem shapeOk_any (t : Tr) (h : treeE t = 0) (w : World) : Calls Tryz.prog 33 #[.agg t.cs] w fun e w' => e = .returned (.int .i64 0) ∧ Below w.heap.size w w' := by
  obtain ⟨k, di, fa, de, le, inn, ⟨kA, kn, kc⟩, ⟨sA, sn, sc⟩, ⟨pA, pn, pc⟩⟩ := t
  unfold treeE at h
  unfold Tr.cs
  dsimp only at h ⊢
  have hmf : ∀ (fn : Fn) (first cap : Array Value) (w : World), (Instr.makeFunc fn first cap).run Tryz.prog w = .ok (.func fn first cap) w := fun _ _ _ _ => rfl
  split at h
  · exact absurd h (by decide)
  split at h
  · exact absurd h (by decide)
  split at h
  · exact absurd h (by decide)
  split at h
  · exact absurd h (by decide)
  split at h
  · exact absurd h (by decide)
  rename_i h1 h2 h3 h4 h5
  have y3 : decide (inn < 1) = false := by simp; omega
  have y1 : decide (di < 1) = false := by simp; omega
  have z2 : decide (de < 2) = false := by simp; omega
  have z3 : decide (255 < de) = false := by simp; omega
  have z4 : (le == 0) = false := by simp; omega
  have zf : (fa != 0) = false ∨ ((fa != 0) = true ∧ decide (fa < 2) = false ∧ decide (255 < fa) = false) := by
    by_cases hf : fa = 0
    · exact .inl (by simpa using hf)
    · exact .inr ⟨by simpa using hf, by simp; omega, by simp; omega⟩
  have hk : k = 1 ∨ k = 2 := by
    unfold mostOf at h1
    by_cases e1 : k = 1
    · exact .inl e1
    · by_cases e2 : k = 2
      · exact .inr e2
      · rw [if_neg e1, if_neg e2] at h1; exact absurd rfl h1
  rcases hk with rfl | rfl
  · have y2 : decide (64 < di) = false := by have h2 : ¬ (di < 1 ∨ 64 < di ∨ inn < 1 ∨ 64 < inn ∨ le = 0) := h2; simp; omega
    have y4 : decide (64 < inn) = false := by have h2 : ¬ (di < 1 ∨ 64 < di ∨ inn < 1 ∨ 64 < inn ∨ le = 0) := h2; simp; omega
    have y5 : decide ((64 : Int) < (kn : Int)) = false := by have h4 : ¬ ((64 : Int) < (kn : Int)) := h4; simp; omega
    have S5 : Hid (sn = 0 ∨ sn = 16) := by have h5 : ¬ (((sn : Int) ≠ 0 ∧ 4 * (sn : Int) ≠ 64) ∨ ((pn : Int) ≠ 0 ∧ 4 * (pn : Int) ≠ 64)) := h5; show _ ∨ _; omega
    have P5 : Hid (pn = 0 ∨ pn = 16) := by have h5 : ¬ (((sn : Int) ≠ 0 ∧ 4 * (sn : Int) ≠ 64) ∨ ((pn : Int) ≠ 0 ∧ 4 * (pn : Int) ≠ 64)) := h5; show _ ∨ _; omega
    clear h h1 h2 h3 h4 h5
    rcases zf with x1 | ⟨x1, x2, x3⟩
    · go_enter Tryz.func33, Tryz.ntmps33
      go_wp2_with fail
      refine (mostP_big _).mono ?_
      rintro e w1 ⟨rfl, rfl⟩
      go_upto_region 11 with fail
      go_wp2_with fail
      refine (side_big sA sn sc (w.heap.size + 1) _ (by simp) S5.out).mono ?_
      rintro e2 w2 ⟨rfl, rfl⟩
      go_wp2_with fail
      refine (side_big pA pn pc (w.heap.size + 1) _ (by simp) P5.out).mono ?_
      rintro e2 w2 ⟨rfl, rfl⟩
      go_wp2_with fail
      exact bodyPost_ret (results_tmp rfl _ _ _) rfl ⟨rfl, bal (bal (b0 _) _) _⟩
    · go_enter Tryz.func33, Tryz.ntmps33
      go_wp2_with fail
      refine (mostP_big _).mono ?_
      rintro e w1 ⟨rfl, rfl⟩
      go_upto_region 11 with fail
      go_wp2_with fail
      refine (side_big sA sn sc (w.heap.size + 1) _ (by simp) S5.out).mono ?_
      rintro e2 w2 ⟨rfl, rfl⟩
      go_wp2_with fail
      refine (side_big pA pn pc (w.heap.size + 1) _ (by simp) P5.out).mono ?_
      rintro e2 w2 ⟨rfl, rfl⟩
      go_wp2_with fail
      exact bodyPost_ret (results_tmp rfl _ _ _) rfl ⟨rfl, bal (bal (b0 _) _) _⟩
  · have y2 : decide (32 < di) = false := by have h2 : ¬ (di < 1 ∨ 32 < di ∨ inn < 1 ∨ 32 < inn ∨ le = 0) := h2; simp; omega
    have y4 : decide (32 < inn) = false := by have h2 : ¬ (di < 1 ∨ 32 < di ∨ inn < 1 ∨ 32 < inn ∨ le = 0) := h2; simp; omega
    have y5 : decide ((32 : Int) < (kn : Int)) = false := by have h4 : ¬ ((32 : Int) < (kn : Int)) := h4; simp; omega
    have S5 : Hid (sn = 0 ∨ sn = 8) := by have h5 : ¬ (((sn : Int) ≠ 0 ∧ 4 * (sn : Int) ≠ 32) ∨ ((pn : Int) ≠ 0 ∧ 4 * (pn : Int) ≠ 32)) := h5; show _ ∨ _; omega
    have P5 : Hid (pn = 0 ∨ pn = 8) := by have h5 : ¬ (((sn : Int) ≠ 0 ∧ 4 * (sn : Int) ≠ 32) ∨ ((pn : Int) ≠ 0 ∧ 4 * (pn : Int) ≠ 32)) := h5; show _ ∨ _; omega
    clear h h1 h2 h3 h4 h5
    rcases zf with x1 | ⟨x1, x2, x3⟩
    · go_enter Tryz.func33, Tryz.ntmps33
      go_wp2_with fail
      refine (mostP_small _).mono ?_
      rintro e w1 ⟨rfl, rfl⟩
      go_upto_region 11 with fail
      go_wp2_with fail
      refine (side_small sA sn sc (w.heap.size + 1) _ (by simp) S5.out).mono ?_
      rintro e2 w2 ⟨rfl, rfl⟩
      go_wp2_with fail
      refine (side_small pA pn pc (w.heap.size + 1) _ (by simp) P5.out).mono ?_
      rintro e2 w2 ⟨rfl, rfl⟩
      go_wp2_with fail
      exact bodyPost_ret (results_tmp rfl _ _ _) rfl ⟨rfl, bal (bal (b0 _) _) _⟩
    · go_enter Tryz.func33, Tryz.ntmps33
      go_wp2_with fail
      refine (mostP_small _).mono ?_
      rintro e w1 ⟨rfl, rfl⟩
      go_upto_region 11 with fail
      go_wp2_with fail
      refine (side_small sA sn sc (w.heap.size + 1) _ (by simp) S5.out).mono ?_
      rintro e2 w2 ⟨rfl, rfl⟩
      go_wp2_with fail
      refine (side_small pA pn pc (w.heap.size + 1) _ (by simp) P5.out).mono ?_
      rintro e2 w2 ⟨rfl, rfl⟩
      go_wp2_with fail
      exact bodyPost_ret (results_tmp rfl _ _ _) rfl ⟨rfl, bal (bal (b0 _) _) _⟩
set_option maxRecDepth 20000 in
theorem validOk_any (t : Tr) (a b : Int) (h : treeE t = 0) (h2 : poolE a b = 0) (w : World) : Calls Tryz.prog 22 #[.agg t.cs, .agg #[.int .i64 a, .int .i64 b]] w fun e w' => e = .returned (.int .i64 0) ∧ Below w.heap.size w w' := by
  have ht := fun W => shapeOk_any t h W
  have hp := fun W => pool_any a b h2 W
  have HT := Lib.hid ht; have HP := Lib.hid hp; have HSZ := Lib.hid (Tr.size t); clear ht hp h h2
  have hu := Lib.hid Tryz.underlying28
  have hup := Lib.hid Tryz.underlying30
  have hps : Hid ((Tryz.prog.info? 30).map (·.size) = some (#[Value.int .i64 a, .int .i64 b]).size) := by show _ = _; kernel_rfl
  go_enter Tryz.func22, Tryz.ntmps22
  go_upto_region 1 with fail
  have HK := Lib.hid ((Blk.new w 28 t.cs).alloc (.cells #[.int .i64 a, .int .i64 b] 30))
  have HL := Lib.hid (Blk.new2 w (.cells t.cs 28) 30 #[.int .i64 a, .int .i64 b])
  have HB := Lib.hid (bal (bal (b0 w) (.cells t.cs 28)) (.cells #[.int .i64 a, .int .i64 b] 30))
  generalize (w.alloc (.cells t.cs 28)).alloc (.cells #[.int .i64 a, .int .i64 b] 30) = u at *
  go_wp2_with (first
    | (refine wpList_load_row rfl 28 _ rfl w.heap.size rfl 28 t.cs (0, 0) _ HK.out hu.out rfl HSZ.out ?_)
    | (refine wpList_load_row rfl 30 _ rfl (w.heap.size + 1) rfl 30 _ (0, 0) _ HL.out hup.out rfl hps.out ?_)
    | (go_at_call 33; refine (HT.out _).mono ?_; rintro e1 u ⟨rfl, hb1⟩; replace HL := Lib.hid (HL.out.below hb1 HL.out.lt); replace HB := Lib.hid (bcall HB.out hb1); clear hb1)
    | (go_at_call 34; refine (HP.out _).mono ?_; rintro e2 u ⟨rfl, hb1⟩; replace HB := Lib.hid (bcall HB.out hb1); clear hb1))
  exact bodyPost_ret (results_tmp rfl _ _ _) rfl ⟨rfl, HB.out⟩
end Go.Proofs.YtgkonjbfojchcaaGreat

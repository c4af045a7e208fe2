/-
  The parameters of a lane's node, by the reference. Contracts alone; no statement is claimed here.
-/
import Derived.Test.YtnkngaicegcejaaLanA
namespace Go.Proofs.Ytnkngaicegcejaa
open Go.RowKit


theorem refparams_any (k n most digest key at_ : Int) (salt pers : Sl) (h0 : 0 ≤ at_) (h1 : at_ ≤ n) (h8 : n ≤ 8)
    (hC : Hid (∀ w : World, Calls Try.prog 44 #[.int .i64 k] w fun e w' => e = .returned (.int .i64 n) ∧ w = w'))
    (hM : Hid (∀ w : World, Calls Try.prog 76 #[.int .i64 k] w fun e w' => e = .returned (.int .i64 most) ∧ w = w')) (w : World) :
    Calls Try.prog 81 #[.int .i64 k, .int .i64 digest, .int .i64 key, .int .i64 at_, salt.v, pers.v] w fun e w' => e = .returned (lanePar n most digest key at_ salt pers).v ∧ Below w.heap.size w w' := by
  obtain ⟨sA, sn, sc⟩ := salt
  obtain ⟨pA, pn, pc⟩ := pers
  unfold lanePar Pr.v Pr.cs Sl.v
  dsimp only
  have hw : IntKind.u64.wrap at_ = at_ := by simp [IntKind.wrap, IntKind.bits, IntKind.signed]; omega
  by_cases hn : at_ = n
  · subst hn
    simp only [if_true]
    go_enter Try.func81, Try.ntmps81
    go_wp2_with (first | (go_at_call 44; refine (hC.out _).mono ?_; rintro e w1 ⟨rfl, rfl⟩) | (go_at_call 76; refine (hM.out _).mono ?_; rintro e w1 ⟨rfl, rfl⟩))
    exact bodyPost_ret (v := .agg #[.int .i64 digest, .int .i64 key, .int .i64 at_, .int .i64 2, .int .u32 0, .int .u64 0, .int .u32 0, .int .i64 1, .int .i64 most, .slice sA sn sc, .slice pA pn pc]) (by simp [results, Try.results81, go_sem]) rfl ⟨rfl, bal (bal (b0 _) _) _⟩
  · simp only [if_neg hn]
    go_enter Try.func81, Try.ntmps81
    go_wp2_with (first | (go_at_call 44; refine (hC.out _).mono ?_; rintro e w1 ⟨rfl, rfl⟩) | (go_at_call 76; refine (hM.out _).mono ?_; rintro e w1 ⟨rfl, rfl⟩))
    exact bodyPost_ret (v := .agg #[.int .i64 digest, .int .i64 key, .int .i64 n, .int .i64 2, .int .u32 0, .int .u64 at_, .int .u32 0, .int .i64 0, .int .i64 most, .slice sA sn sc, .slice pA pn pc]) (by simp [results, Try.results81, go_sem]) rfl ⟨rfl, bal (bal (b0 _) _) _⟩

set_option maxRecDepth 20000 in
set_option maxHeartbeats 2000000 in
theorem refParams_kind (k n most digest key at_ : Int) (hn : 0 < n) (h8 : n ≤ 8)
    (hC : Hid (∀ w : World, Calls Try.prog 44 #[.int .i64 k] w fun e w' => e = .returned (.int .i64 n) ∧ w = w'))
    (hM : Hid (∀ w : World, Calls Try.prog 76 #[.int .i64 k] w fun e w' => e = .returned (.int .i64 most) ∧ w = w')) (w : World) :
    Calls Try.prog 62 #[.int .i64 k, .int .i64 digest, .int .i64 key, .int .i64 at_] w fun e w' => e = .returned (.tuple #[(parP k n most digest key at_).v, .int .i64 (parE k n most digest key at_)]) ∧ Below w.heap.size w w' := by
  have hn0 : (n == 0) = false := by simp; omega
  by_cases hr : at_ < 0 ∨ n < at_
  · have hE : parE k n most digest key at_ = 1 := by unfold parE; rw [if_pos hr]
    have hP : parP k n most digest key at_ = zeroPar := by unfold parP; rw [hE, if_neg (by omega)]
    rw [hE, hP]
    have ZS := zeroPar.size
    have ZS := Lib.hid ZS
    unfold zeroPar Pr.v Pr.cs Sl.v Sl.nil
    dsimp only
    clear hE hP
    by_cases h0 : at_ < 0
    · go_enter Try.func62, Try.ntmps62
      go_wp2_with (first | (go_at_call 44; refine (hC.out _).mono ?_; rintro e w1 ⟨rfl, rfl⟩))
      exact bodyPost_ret (results_cell_tmp rfl _ _ w.heap.size 94 zcs _ rfl (Blk.new _ _ _) Try.underlying94 rfl ZS.out) rfl ⟨rfl, bal (b0 _) _⟩
    · have h1 : n < at_ := by omega
      go_enter Try.func62, Try.ntmps62
      go_wp2_with (first | (go_at_call 44; refine (hC.out _).mono ?_; rintro e w1 ⟨rfl, rfl⟩))
      exact bodyPost_ret (results_cell_tmp rfl _ _ w.heap.size 94 zcs _ rfl (Blk.new _ _ _) Try.underlying94 rfl ZS.out) rfl ⟨rfl, bal (b0 _) _⟩
  · have h0 : 0 ≤ at_ := by omega
    have h1 : at_ ≤ n := by omega
    have hnn : ¬ n < at_ := by omega
    have hE : parE k n most digest key at_ = chk k (lanePar n most digest key at_ Sl.nil Sl.nil) := by unfold parE; rw [if_neg hr]
    have hP : parP k n most digest key at_ = if chk k (lanePar n most digest key at_ Sl.nil Sl.nil) = 0 then lanePar n most digest key at_ Sl.nil Sl.nil else zeroPar := by unfold parP; rw [hE]
    rw [hE, hP]
    have hc := refCheck_any k (lanePar n most digest key at_ Sl.nil Sl.nil)
    have hs := refparams_any k n most digest key at_ Sl.nil Sl.nil h0 h1 h8 hC hM
    generalize chk k (lanePar n most digest key at_ Sl.nil Sl.nil) = E at *
    have PS := (lanePar n most digest key at_ Sl.nil Sl.nil).size
    have PO := (lanePar n most digest key at_ Sl.nil Sl.nil).ones
    have ZS := zeroPar.size
    have ZO := zeroPar.ones
    have ZS := Lib.hid ZS; have ZO := Lib.hid ZO; have PS := Lib.hid PS; have PO := Lib.hid PO
    unfold lanePar at *
    generalize (if at_ = n then (0 : Int) else at_) = off at *
    generalize (if at_ = n then (1 : Int) else 0) = nd at *
    clear hE hP hr
    unfold Pr.v Pr.cs Sl.v Sl.nil at *
    dsimp only at *
    have HC := Lib.hid hc; have HS := Lib.hid hs; clear hc hs
    by_cases hz : E = 0
    · subst hz
      simp only [if_true]
      go_enter Try.func62, Try.ntmps62
      go_wp2_with (first
        | (go_at_call 44; refine (hC.out _).mono ?_; rintro e w1 ⟨rfl, rfl⟩)
        | (go_at_call 81; refine (HS.out _).mono ?_; rintro e w2 ⟨rfl, hbw2⟩; have B2 := (Blk.new w 94 zcs).below hbw2 (by simp); have B2 := Lib.hid B2; refine with0 hbw2 ?_; intro hc2 hf2)
        | (go_at_call 82; refine (HC.out _).mono ?_; rintro e w3 ⟨rfl, hbw3⟩; (first | refine withN hbw3 ?_ | refine withD hbw3 ?_ | refine with0 hbw3 ?_); intro hcw3 hfw3)
        | (refine wpList_store_row rfl 94 _ _ rfl w.heap.size #[.int .i64 digest, .int .i64 key, .int .i64 n, .int .i64 2, .int .u32 0, .int .u64 off, .int .u32 0, .int .i64 nd, .int .i64 most, .slice none 0 0, .slice none 0 0] rfl rfl 94 zcs ((B2.out.alloc _).below hbw3 (by have := B2.out.lt; simp; omega)) PS.out rfl PO.out ?_))
      exact bodyPost_ret (results_cell_tmp rfl _ _ w.heap.size 94 _ _ rfl (Blk.row ((B2.out.alloc _).below hbw3 (by have := B2.out.lt; simp; omega)) _) Try.underlying94 rfl PS.out) rfl ⟨rfl, brow (bcall (bal (bcall (bal (b0 _) _) hbw2) _) hbw3) (Nat.le_refl _) _⟩
    · simp only [if_neg hz]
      unfold zeroPar Sl.nil
      dsimp only
      go_enter Try.func62, Try.ntmps62
      go_wp2_with (first
        | (go_at_call 44; refine (hC.out _).mono ?_; rintro e w1 ⟨rfl, rfl⟩)
        | (go_at_call 81; refine (HS.out _).mono ?_; rintro e w2 ⟨rfl, hbw2⟩; have B2 := (Blk.new w 94 zcs).below hbw2 (by simp); have B2 := Lib.hid B2; refine with0 hbw2 ?_; intro hc2 hf2)
        | (go_at_call 82; refine (HC.out _).mono ?_; rintro e w3 ⟨rfl, hbw3⟩; (first | refine withN hbw3 ?_ | refine withD hbw3 ?_ | refine with0 hbw3 ?_); intro hcw3 hfw3)
        | (refine wpList_store_row rfl 94 _ _ rfl w.heap.size zcs rfl rfl 94 zcs ((B2.out.alloc _).below hbw3 (by have := B2.out.lt; simp; omega)) ZS.out rfl ZO.out ?_))
      exact bodyPost_ret (results_cell_tmp rfl _ _ w.heap.size 94 _ _ rfl (Blk.row ((B2.out.alloc _).below hbw3 (by have := B2.out.lt; simp; omega)) _) Try.underlying94 rfl ZS.out) rfl ⟨rfl, brow (bcall (bal (bcall (bal (b0 _) _) hbw2) _) hbw3) (Nat.le_refl _) _⟩

theorem lparams_none (k digest key at_ : Int) (h1 : k ≠ 1) (h2 : k ≠ 2) (w : World) :
    Calls Try.prog 61 #[.int .i64 k, .int .i64 digest, .int .i64 key, .int .i64 at_] w fun e w' => e = .returned (.tuple #[zeroPar.v, .int .i64 1]) ∧ Below w.heap.size w w' := by
  have ZS := zeroPar.size
  have ZO := zeroPar.ones
  have ZS := Lib.hid ZS; have ZO := Lib.hid ZO
  unfold zeroPar Pr.v Pr.cs Sl.v Sl.nil
  dsimp only
  go_enter Try.func61, Try.ntmps61
  go_wp2_with (first | (go_at_call 46; refine (of_none k h1 h2 _).mono ?_; rintro e w1 ⟨rfl, hbw1⟩; have B1 := (Blk.new w 94 zcs).below hbw1 (by simp); have B1 := Lib.hid B1) | (refine wpList_store_row rfl 94 _ _ rfl w.heap.size zcs rfl rfl 94 zcs (B1.out.alloc _) ZS.out rfl ZO.out ?_))
  exact bodyPost_ret (results_cell_tmp rfl _ _ w.heap.size 94 _ _ rfl (Blk.row (B1.out.alloc _) _) Try.underlying94 rfl ZS.out) rfl ⟨rfl, brow (bal (bcall (bal (b0 _) _) hbw1) _) (Nat.le_refl _) _⟩
theorem refParams_none (k digest key at_ : Int) (h1 : k ≠ 1) (h2 : k ≠ 2) (w : World) :
    Calls Try.prog 62 #[.int .i64 k, .int .i64 digest, .int .i64 key, .int .i64 at_] w fun e w' => e = .returned (.tuple #[zeroPar.v, .int .i64 1]) ∧ Below w.heap.size w w' := by
  have ZS := zeroPar.size
  have ZS := Lib.hid ZS
  unfold zeroPar Pr.v Pr.cs Sl.v Sl.nil
  dsimp only
  go_enter Try.func62, Try.ntmps62
  go_wp2_with (go_at_call 44; refine (count_none k h1 h2 _).mono ?_; rintro e w1 ⟨rfl, rfl⟩)
  exact bodyPost_ret (results_cell_tmp rfl _ _ w.heap.size 94 zcs _ rfl (Blk.new _ _ _) Try.underlying94 rfl ZS.out) rfl ⟨rfl, bal (b0 _) _⟩
end Go.Proofs.Ytnkngaicegcejaa

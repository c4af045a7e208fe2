/-
  The parameters of a lane's node, by the program and by the reference. Contracts alone; no statement is claimed here.
-/
import Derived.Test.YtnkngaicegcejaaParB
import Derived.Test.YtnkngaicegcejaaBackL
import Derived.Test.YtnkngaicegcejaaStore
namespace Go.Proofs.Ytnkngaicegcejaa
open Go.RowKit

def lanePar (n most digest key at_ : Int) (salt pers : Sl) : Pr := ⟨digest, key, n, 2, 0, if at_ = n then 0 else at_, 0, if at_ = n then 1 else 0, most, salt, pers⟩
def setV (n blk most k digest : Int) (key salt pers : Sl) : Value := .agg #[.int .i64 n, .int .i64 blk, .int .i64 most, .int .i64 k, .int .i64 digest, key.v, salt.v, pers.v]

theorem setParams_any (n blk most k digest at_ : Int) (key salt pers : Sl) (h0 : 0 ≤ at_) (h1 : at_ ≤ n) (h8 : n ≤ 8) (w : World) :
    Calls Try.prog 79 #[setV n blk most k digest key salt pers, .int .i64 at_] w fun e w' => e = .returned (lanePar n most digest key.n at_ salt pers).v ∧ Below w.heap.size w w' := by
  obtain ⟨kA, kn, kc⟩ := key
  obtain ⟨sA, sn, sc⟩ := salt
  obtain ⟨pA, pn, pc⟩ := pers
  unfold setV Sl.v lanePar Pr.v Pr.cs Sl.v
  dsimp only
  have hw : IntKind.u64.wrap at_ = at_ := by simp [IntKind.wrap, IntKind.bits, IntKind.signed]; omega
  by_cases hn : at_ = n
  · subst hn
    simp only [if_true]
    go_enter Try.func79, Try.ntmps79
    go_wp2
    exact bodyPost_ret (v := .agg #[.int .i64 digest, .int .i64 kn, .int .i64 at_, .int .i64 2, .int .u32 0, .int .u64 0, .int .u32 0, .int .i64 1, .int .i64 most, .slice sA sn sc, .slice pA pn pc]) (by simp [results, Try.results79, go_sem]) rfl ⟨rfl, bal (bal (bal (b0 _) _) _) _⟩
  · simp only [if_neg hn]
    go_enter Try.func79, Try.ntmps79
    go_wp2
    exact bodyPost_ret (v := .agg #[.int .i64 digest, .int .i64 kn, .int .i64 n, .int .i64 2, .int .u32 0, .int .u64 at_, .int .u32 0, .int .i64 0, .int .i64 most, .slice sA sn sc, .slice pA pn pc]) (by simp [results, Try.results79, go_sem]) rfl ⟨rfl, bal (bal (bal (b0 _) _) _) _⟩

def zeroPar : Pr := ⟨0, 0, 0, 0, 0, 0, 0, 0, 0, Sl.nil, Sl.nil⟩
def parE (k n most digest key at_ : Int) : Int := if at_ < 0 ∨ n < at_ then 1 else chk k (lanePar n most digest key at_ Sl.nil Sl.nil)
def parP (k n most digest key at_ : Int) : Pr := if parE k n most digest key at_ = 0 then lanePar n most digest key at_ Sl.nil Sl.nil else zeroPar
def zcs : Array Value := #[.int .i64 0, .int .i64 0, .int .i64 0, .int .i64 0, .int .u32 0, .int .u64 0, .int .u32 0, .int .i64 0, .int .i64 0, .slice none 0 0, .slice none 0 0]
theorem Pr.size (p : Pr) : (Try.prog.info? 94).map (·.size) = some p.cs.size := by unfold Pr.cs; kernel_rfl
theorem Pr.ones (p : Pr) : p.cs.all (·.oneCell') = true := by unfold Pr.cs Sl.v; simp [Value.oneCell']

set_option maxRecDepth 20000 in
set_option maxHeartbeats 2000000 in
theorem lparams_kind (k n blk most digest key at_ : Int) (h8 : n ≤ 8)
    (hof : Hid (∀ w : World, Calls Try.prog 46 #[.int .i64 k] w fun e w' => e = .returned (.tuple #[.agg #[.int .i64 n, .int .i64 blk, .int .i64 most], .bool true]) ∧ Below w.heap.size w w')) (w : World) :
    Calls Try.prog 61 #[.int .i64 k, .int .i64 digest, .int .i64 key, .int .i64 at_] w fun e w' => e = .returned (.tuple #[(parP k n most digest key at_).v, .int .i64 (parE k n most digest key at_)]) ∧ Below w.heap.size w w' := by
  by_cases hr : at_ < 0 ∨ n < at_
  · have hE : parE k n most digest key at_ = 1 := by unfold parE; rw [if_pos hr]
    have hP : parP k n most digest key at_ = zeroPar := by unfold parP; rw [hE, if_neg (by omega)]
    rw [hE, hP]
    unfold zeroPar Pr.v Pr.cs Sl.v Sl.nil
    dsimp only
    clear hE hP
    have ZS := zeroPar.size
    have ZO := zeroPar.ones
    have ZS := Lib.hid ZS; have ZO := Lib.hid ZO
    by_cases h0 : at_ < 0
    · go_enter Try.func61, Try.ntmps61
      go_wp2_with (first | (go_at_call 46; refine (hof.out _).mono ?_; rintro e w1 ⟨rfl, hbw1⟩; have B1 := (Blk.new w 94 zcs).below hbw1 (by simp); have B1 := Lib.hid B1) | (refine wpList_store_row rfl 94 _ _ rfl w.heap.size zcs rfl rfl 94 zcs (B1.out.alloc _) ZS.out rfl ZO.out ?_))
      exact bodyPost_ret (results_cell_tmp rfl _ _ w.heap.size 94 _ _ rfl (Blk.row (B1.out.alloc _) _) Try.underlying94 rfl ZS.out) rfl ⟨rfl, brow (bal (bcall (bal (b0 _) _) hbw1) _) (Nat.le_refl _) _⟩
    · have h1 : n < at_ := by omega
      go_enter Try.func61, Try.ntmps61
      go_wp2_with (first | (go_at_call 46; refine (hof.out _).mono ?_; rintro e w1 ⟨rfl, hbw1⟩; have B1 := (Blk.new w 94 zcs).below hbw1 (by simp); have B1 := Lib.hid B1) | (refine wpList_store_row rfl 94 _ _ rfl w.heap.size zcs rfl rfl 94 zcs (B1.out.alloc _) ZS.out rfl ZO.out ?_))
      exact bodyPost_ret (results_cell_tmp rfl _ _ w.heap.size 94 _ _ rfl (Blk.row (B1.out.alloc _) _) Try.underlying94 rfl ZS.out) rfl ⟨rfl, brow (bal (bcall (bal (b0 _) _) hbw1) _) (Nat.le_refl _) _⟩
  · have h0 : 0 ≤ at_ := by omega
    have h1 : at_ ≤ n := by omega
    have hnn : ¬ n < at_ := by omega
    have hE : parE k n most digest key at_ = chk k (lanePar n most digest key at_ Sl.nil Sl.nil) := by unfold parE; rw [if_neg hr]
    have hP : parP k n most digest key at_ = if chk k (lanePar n most digest key at_ Sl.nil Sl.nil) = 0 then lanePar n most digest key at_ Sl.nil Sl.nil else zeroPar := by unfold parP; rw [hE]
    rw [hE, hP]
    have hc := check_any k (lanePar n most digest key at_ Sl.nil Sl.nil)
    have hs := setParams_any n blk most k digest at_ Sl.nil Sl.nil Sl.nil h0 h1 h8
    generalize chk k (lanePar n most digest key at_ Sl.nil Sl.nil) = E at *
    have PS := (lanePar n most digest key at_ Sl.nil Sl.nil).size
    have PO := (lanePar n most digest key at_ Sl.nil Sl.nil).ones
    have ZS := zeroPar.size
    have ZO := zeroPar.ones
    have ZS := Lib.hid ZS; have ZO := Lib.hid ZO; have PS := Lib.hid PS; have PO := Lib.hid PO
    unfold lanePar at *
    generalize (if at_ = n then (0 : Int) else at_) = off at *
    generalize (if at_ = n then (1 : Int) else 0) = nd at *
    clear hE hP hr
    unfold setV Pr.v Pr.cs Sl.v Sl.nil at *
    dsimp only at *
    have HC := Lib.hid hc; have HS := Lib.hid hs; clear hc hs
    by_cases hz : E = 0
    · subst hz
      simp only [if_true]
      go_enter Try.func61, Try.ntmps61
      go_wp2_with (first
        | (go_at_call 46; refine (hof.out _).mono ?_; rintro e w1 ⟨rfl, hbw1⟩; have B1 := (Blk.new w 94 zcs).below hbw1 (by simp); have B1 := Lib.hid B1)
        | (go_at_call 79; refine (HS.out _).mono ?_; rintro e w2 ⟨rfl, hbw2⟩; (first | refine withN hbw2 ?_ | refine withD hbw2 ?_ | refine with0 hbw2 ?_); intro hcw2 hfw2)
        | (go_at_call 80; refine (HC.out _).mono ?_; rintro e w3 ⟨rfl, hbw3⟩; (first | refine withN hbw3 ?_ | refine withD hbw3 ?_ | refine with0 hbw3 ?_); intro hcw3 hfw3)
        | (refine wpList_store_row rfl 94 _ _ rfl w.heap.size #[.int .i64 digest, .int .i64 key, .int .i64 n, .int .i64 2, .int .u32 0, .int .u64 off, .int .u32 0, .int .i64 nd, .int .i64 most, .slice none 0 0, .slice none 0 0] rfl rfl 94 zcs (((B1.out.alloc _).below hbw2 (by have := B1.out.lt; simp; omega) |>.alloc _).below hbw3 (by have h1 := B1.out.lt; have h2 := hbw2.size; simp at h2; simp; omega)) PS.out rfl PO.out ?_))
      exact bodyPost_ret (results_cell_tmp rfl _ _ w.heap.size 94 _ _ rfl (Blk.row (((B1.out.alloc _).below hbw2 (by have := B1.out.lt; simp; omega) |>.alloc _).below hbw3 (by have h1 := B1.out.lt; have h2 := hbw2.size; simp at h2; simp; omega)) _) Try.underlying94 rfl PS.out) rfl ⟨rfl, brow (bcall (bal (bcall (bal (bcall (bal (b0 _) _) hbw1) _) hbw2) _) hbw3) (Nat.le_refl _) _⟩
    · simp only [if_neg hz]
      unfold zeroPar Sl.nil
      dsimp only
      go_enter Try.func61, Try.ntmps61
      go_wp2_with (first
        | (go_at_call 46; refine (hof.out _).mono ?_; rintro e w1 ⟨rfl, hbw1⟩; have B1 := (Blk.new w 94 zcs).below hbw1 (by simp); have B1 := Lib.hid B1)
        | (go_at_call 79; refine (HS.out _).mono ?_; rintro e w2 ⟨rfl, hbw2⟩; (first | refine withN hbw2 ?_ | refine withD hbw2 ?_ | refine with0 hbw2 ?_); intro hcw2 hfw2)
        | (go_at_call 80; refine (HC.out _).mono ?_; rintro e w3 ⟨rfl, hbw3⟩; (first | refine withN hbw3 ?_ | refine withD hbw3 ?_ | refine with0 hbw3 ?_); intro hcw3 hfw3)
        | (refine wpList_store_row rfl 94 _ _ rfl w.heap.size zcs rfl rfl 94 zcs (((B1.out.alloc _).below hbw2 (by have := B1.out.lt; simp; omega) |>.alloc _).below hbw3 (by have h1 := B1.out.lt; have h2 := hbw2.size; simp at h2; simp; omega)) ZS.out rfl ZO.out ?_))
      exact bodyPost_ret (results_cell_tmp rfl _ _ w.heap.size 94 _ _ rfl (Blk.row (((B1.out.alloc _).below hbw2 (by have := B1.out.lt; simp; omega) |>.alloc _).below hbw3 (by have h1 := B1.out.lt; have h2 := hbw2.size; simp at h2; simp; omega)) _) Try.underlying94 rfl ZS.out) rfl ⟨rfl, brow (bcall (bal (bcall (bal (bcall (bal (b0 _) _) hbw1) _) hbw2) _) hbw3) (Nat.le_refl _) _⟩
end Go.Proofs.Ytnkngaicegcejaa

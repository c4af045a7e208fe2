/-
  The parameters of a lane's node: the struct, and 'params' of the program and of the reference. Contracts alone; no statement is claimed here.
-/
import Derived.Test.YtghpofnaojbbkaaGreatBu2
import Derived.Test.YtghpofnaojbbkaaGreatParC
namespace Go.Proofs.YtghpofnaojbbkaaGreat
open Go.RowKit

def lanePar (n most digest key at_ : Int) (salt pers : Sl) : Pr := ⟨digest, key, n, 2, 0, if at_ = n then 0 else at_, 0, if at_ = n then 1 else 0, most, salt, pers⟩
def setV (n blk most k digest : Int) (key salt pers : Sl) : Value := .agg #[.int .i64 n, .int .i64 blk, .int .i64 most, .int .i64 k, .int .i64 digest, key.v, salt.v, pers.v]

theorem setParams_any (n blk most k digest at_ : Int) (key salt pers : Sl) (h0 : 0 ≤ at_) (h1 : at_ ≤ n) (h8 : n ≤ 8) (w : World) :
  Calls Tryz.prog 31 #[setV n blk most k digest key salt pers, .int .i64 at_] w fun e w' => e = .returned (lanePar n most digest key.n at_ salt pers).v ∧ Below w.heap.size w w' := by
 obtain ⟨kA, kn, kc⟩ := key
 obtain ⟨sA, sn, sc⟩ := salt
 obtain ⟨pA, pn, pc⟩ := pers
 unfold setV Sl.v lanePar Pr.v Pr.cs Sl.v
 dsimp only
 have hw : IntKind.u64.wrap at_ = at_ := by simp [IntKind.wrap, IntKind.bits, IntKind.signed]; omega
 by_cases hn : at_ = n
 ·subst hn
  simp only [if_true]
  go_enter Tryz.func31, Tryz.ntmps31
  go_wp2
  exact bodyPost_ret (v := .agg #[.int .i64 digest, .int .i64 kn, .int .i64 at_, .int .i64 2, .int .u32 0, .int .u64 0, .int .u32 0, .int .i64 1, .int .i64 most, .slice sA sn sc, .slice pA pn pc]) (by simp [results, Tryz.results31, go_sem]) rfl ⟨rfl, bal (bal (bal (b0 _) _) _) _⟩
 ·simp only [if_neg hn]
  go_enter Tryz.func31, Tryz.ntmps31
  go_wp2
  exact bodyPost_ret (v := .agg #[.int .i64 digest, .int .i64 kn, .int .i64 n, .int .i64 2, .int .u32 0, .int .u64 at_, .int .u32 0, .int .i64 0, .int .i64 most, .slice sA sn sc, .slice pA pn pc]) (by simp [results, Tryz.results31, go_sem]) rfl ⟨rfl, bal (bal (bal (b0 _) _) _) _⟩

theorem refparams_any (k n most digest key at_ : Int) (salt pers : Sl) (h0 : 0 ≤ at_) (h1 : at_ ≤ n) (h8 : n ≤ 8)
  (hC : Hid (∀ w : World, Calls Tryz.prog 27 #[.int .i64 k] w fun e w' => e = .returned (.int .i64 n) ∧ w = w'))
  (hM : Hid (∀ w : World, Calls Tryz.prog 35 #[.int .i64 k] w fun e w' => e = .returned (.int .i64 most) ∧ w = w')) (w : World) :
  Calls Tryz.prog 33 #[.int .i64 k, .int .i64 digest, .int .i64 key, .int .i64 at_, salt.v, pers.v] w fun e w' => e = .returned (lanePar n most digest key at_ salt pers).v ∧ Below w.heap.size w w' := by
 obtain ⟨sA, sn, sc⟩ := salt
 obtain ⟨pA, pn, pc⟩ := pers
 unfold lanePar Pr.v Pr.cs Sl.v
 dsimp only
 have hw : IntKind.u64.wrap at_ = at_ := by simp [IntKind.wrap, IntKind.bits, IntKind.signed]; omega
 by_cases hn : at_ = n
 ·subst hn
  simp only [if_true]
  go_enter Tryz.func33, Tryz.ntmps33
  go_wp2_with (first | (go_at_call 27; refine (hC.out _).mono ?_; rintro e w1 ⟨rfl, rfl⟩) | (go_at_call 35; refine (hM.out _).mono ?_; rintro e w1 ⟨rfl, rfl⟩))
  exact bodyPost_ret (v := .agg #[.int .i64 digest, .int .i64 key, .int .i64 at_, .int .i64 2, .int .u32 0, .int .u64 0, .int .u32 0, .int .i64 1, .int .i64 most, .slice sA sn sc, .slice pA pn pc]) (by simp [results, Tryz.results33, go_sem]) rfl ⟨rfl, bal (bal (b0 _) _) _⟩
 ·simp only [if_neg hn]
  go_enter Tryz.func33, Tryz.ntmps33
  go_wp2_with (first | (go_at_call 27; refine (hC.out _).mono ?_; rintro e w1 ⟨rfl, rfl⟩) | (go_at_call 35; refine (hM.out _).mono ?_; rintro e w1 ⟨rfl, rfl⟩))
  exact bodyPost_ret (v := .agg #[.int .i64 digest, .int .i64 key, .int .i64 n, .int .i64 2, .int .u32 0, .int .u64 at_, .int .u32 0, .int .i64 0, .int .i64 most, .slice sA sn sc, .slice pA pn pc]) (by simp [results, Tryz.results33, go_sem]) rfl ⟨rfl, bal (bal (b0 _) _) _⟩

end Go.Proofs.YtghpofnaojbbkaaGreat

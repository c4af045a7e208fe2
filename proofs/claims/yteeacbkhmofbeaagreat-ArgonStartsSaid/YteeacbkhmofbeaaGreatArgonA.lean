/-
  A setting of Argon2: which may be, its segments and columns, by the program and by the reference. Contracts alone; no statement is claimed here.
-/
import Derived.Test.YteeacbkhmofbeaaGreatCoreA
namespace Go.Proofs.YteeacbkhmofbeaaGreat
open Go.RowKit

structure Ar where
  kind : Int
  mem : Int
  passes : Int
  lanes : Int
  tag : Int
def Ar.v (a : Ar) : Value := .agg #[.int .i64 a.kind, .int .i64 a.mem, .int .i64 a.passes, .int .i64 a.lanes, .int .i64 a.tag]
def Ar.ok (a : Ar) : Prop := 0 ≤ a.kind ∧ a.kind ≤ 2 ∧ 1 ≤ a.lanes ∧ a.lanes ≤ 8 ∧ 8 * a.lanes ≤ a.mem ∧ a.mem ≤ 4096 ∧ 1 ≤ a.passes ∧ a.passes ≤ 16 ∧ 4 ≤ a.tag ∧ a.tag ≤ 1024
instance (a : Ar) : Decidable a.ok := by unfold Ar.ok; infer_instance
def Ar.seg (a : Ar) : Int := a.mem / (4 * a.lanes)

def bcells (a : Ar) : Array Value := #[.int .i64 a.kind, .int .i64 0, .int .i64 2, .int .i64 a.lanes, .int .i64 1, .int .i64 8, .int .i64 a.passes, .int .i64 1, .int .i64 16, .int .i64 a.tag, .int .i64 4, .int .i64 1024, .int .i64 a.mem, .int .i64 8, .int .i64 4096]

set_option maxHeartbeats 1000000 in
theorem bounds_any (a : Ar) (w : World) : Calls Tryz.prog 74 #[a.v] w fun e w' => ∃ g, e = .returned (.slice (some ⟨g, 0, none⟩) 5 5) ∧ Blk w' g 137 (bcells a) ∧ w.heap.size ≤ g ∧ Below w.heap.size w w' := by
  obtain ⟨k, m, p, l, t⟩ := a
  unfold Ar.v
  dsimp only
  go_enter Tryz.func74, Tryz.ntmps74
  go_wp2
  refine bodyPost_ret (results_tmp rfl _ _ _) rfl ⟨_, rfl, ?_, by omega, ((Below.refl _ _).alloc (Nat.le_refl _) _).alloc (by simp) _⟩
  have := Blk.new (w.alloc (.cells #[.int .i64 k, .int .i64 m, .int .i64 p, .int .i64 l, .int .i64 t] 38)) 137 (bcells ⟨k, m, p, l, t⟩)
  unfold bcells at this ⊢
  simpa using this

set_option maxHeartbeats 1000000 in
theorem valid_any (a : Ar) (w : World) : Calls Tryz.prog 45 #[a.v] w fun e w' => e = .returned (.int .i64 (if a.ok then 0 else 200)) ∧ Below w.heap.size w w' := by
  obtain ⟨k, m, p, l, t⟩ := a
  unfold Ar.v
  dsimp only
  obtain ⟨r, hr⟩ : ∃ r : Int, r = if (Ar.mk k m p l t).ok then 0 else 200 := ⟨_, rfl⟩
  rw [← hr]
  have HR := Lib.hid hr; clear hr
  go_enter Tryz.func45, Tryz.ntmps45
  go_wp2
  all_goals rename_i hx
  all_goals refine bodyPost_ret (results_tmp rfl _ _ _) rfl ⟨?_, (Below.refl _ _).alloc (Nat.le_refl _) _⟩
  all_goals have hr := HR.out
  all_goals first
    | (rw [if_neg (by unfold Ar.ok; dsimp only; omega)] at hr; rw [hr]; rfl)
    | (rw [if_pos (by unfold Ar.ok; dsimp only; omega)] at hr; rw [hr]; rfl)

/-- the first k bounds hold -/
def Ar.upTo (a : Ar) (k : Nat) : Prop := (1 ≤ k → 0 ≤ a.kind ∧ a.kind ≤ 2) ∧ (2 ≤ k → 1 ≤ a.lanes ∧ a.lanes ≤ 8) ∧ (3 ≤ k → 1 ≤ a.passes ∧ a.passes ≤ 16) ∧ (4 ≤ k → 4 ≤ a.tag ∧ a.tag ≤ 1024) ∧ (5 ≤ k → 8 ≤ a.mem ∧ a.mem ≤ 4096)

theorem bound_at (a : Ar) (n : Nat) (hn : n < 5) : ∃ b lo hi : Int, (bcells a)[n * 3]? = some (.int .i64 b) ∧ (bcells a)[n * 3 + 1]? = some (.int .i64 lo) ∧ (bcells a)[n * 3 + 2]? = some (.int .i64 hi) ∧
    (a.upTo n → lo ≤ b → b ≤ hi → a.upTo (n + 1)) ∧ (b < lo ∨ hi < b → ¬ a.ok) := by
  have h : n = 0 ∨ n = 1 ∨ n = 2 ∨ n = 3 ∨ n = 4 := by omega
  unfold Ar.upTo Ar.ok
  rcases h with rfl | rfl | rfl | rfl | rfl <;> exact ⟨_, _, _, rfl, rfl, rfl, by omega, by omega⟩

set_option maxHeartbeats 4000000 in
theorem may_any (a : Ar) (w : World) : Calls Tryz.prog 44 #[a.v] w fun e w' => e = .returned (.bool (decide a.ok)) ∧ Below w.heap.size w w' := by
  obtain ⟨r, hr⟩ : ∃ r : Bool, r = decide a.ok := ⟨_, rfl⟩
  rw [← hr]
  have HR := Lib.hid hr; clear hr
  obtain ⟨H, hH⟩ : ∃ H, H = w.heap.size := ⟨_, rfl⟩
  have hb := bounds_any a
  obtain ⟨k, m, p, l, t⟩ := a
  unfold Ar.v at *
  dsimp only at *
  have HB := Lib.hid hb; clear hb
  rw [← hH]
  go_enter Tryz.func44, Tryz.ntmps44
  go_wp2_with (go_at_call 74; refine (HB.out _).mono ?_; rintro e w1 ⟨g, rfl, hg, hle, hb1⟩)
  have hbw : Below H w w1 := (((Below.refl _ _).alloc (by omega) _).trans (hb1.mono (by simp; omega)))
  have hcell : Blk w1 w.heap.size 38 #[.int .i64 k, .int .i64 m, .int .i64 p, .int .i64 l, .int .i64 t] := (Blk.new w 38 _).below hb1 (by simp)
  rw [← hH] at *
  have HG := Lib.hid hg; have HC := Lib.hid hcell; have HH := Lib.hid hH; clear hg hcell hH hle hb1
  go_loopw [4, 8] (fun c i wr => ∃ n : Nat, n ≤ 5 ∧ i = .int .i64 n ∧ (Ar.mk k m p l t).upTo n ∧ Blk wr g 137 (bcells ⟨k, m, p, l, t⟩) ∧ Blk wr H 38 #[.int .i64 k, .int .i64 m, .int .i64 p, .int .i64 l, .int .i64 t] ∧ Below H w wr) (fun _ i _ => 5 - (intOf i).toNat)
  case atStart => exact ⟨0, by omega, rfl, by unfold Ar.upTo; omega, HG.out, HC.out, hbw⟩
  case round =>
    obtain ⟨n, hn, rfl, hu, hg, hc, hB⟩ := hrel
    have hB1 := hB; clear hB
    have c0 : wr.cell? ⟨H, 1, none⟩ = some (.int .i64 m) := hc.cell 1
    have c1 : wr.cell? ⟨H, 3, none⟩ = some (.int .i64 l) := hc.cell 3
    by_cases hlt : n < 5
    · obtain ⟨b, lo, hi, a0, a1, a2, hup, hno⟩ := bound_at ⟨k, m, p, l, t⟩ n hlt
      have s0 := (hg.cell _).trans a0
      have s1 := (hg.cell _).trans a1
      have s2 := (hg.cell _).trans a2
      have hgs := hg.lt
      have HC := Lib.hid hc; have HG := Lib.hid hg; have HU := Lib.hid hu; clear hc hg hu a0 a1 a2
      have HUP := Lib.hid hup; have HNO := Lib.hid hno; clear hup hno
      go_wp2
      · rename_i hx
        have hr := HR.out
        rw [decide_eq_false (HNO.out (by omega))] at hr
        exact bodyPost_ret (results_tmp rfl _ _ _) rfl ⟨by rw [hr]; rfl, hB1.alloc (Nat.le_of_lt HC.out.lt) _⟩
      · rename_i hx
        exact ⟨⟨n + 1, by omega, rfl, HUP.out HU.out hx.1 hx.2, HG.out.alloc _, HC.out.alloc _, hB1.alloc (Nat.le_of_lt HC.out.lt) _⟩, by simp only [intOf]; omega⟩
      · rename_i hx
        have hr := HR.out
        rw [decide_eq_false (HNO.out (by omega))] at hr
        exact bodyPost_ret (results_tmp rfl _ _ _) rfl ⟨by rw [hr]; rfl, hB1.alloc (Nat.le_of_lt HC.out.lt) _⟩
    · obtain rfl : n = 5 := by omega
      unfold Ar.upTo at hu
      dsimp only at hu
      obtain ⟨hk, hl, hp, ht, hm⟩ := hu
      have hk := hk (by omega); have hl := hl (by omega); have hp := hp (by omega); have ht := ht (by omega); have hm := hm (by omega)
      have hr : r = decide (8 * l ≤ m) := by
        rw [HR.out]
        refine decide_eq_decide.2 ?_
        unfold Ar.ok
        dsimp only
        omega
      have HR := Lib.hid hr; clear hr
      obtain ⟨hl1, hl2⟩ := hl
      have HC := Lib.hid hc; clear hc hg hk hp ht hm
      go_wp2
      exact bodyPost_ret (results_tmp rfl _ _ _) rfl ⟨by rw [HR.out]; simp [go_sem], hB1⟩

/-- a setting that may be -/
theorem seg_range {a : Ar} (h : a.ok) : 2 ≤ a.seg ∧ a.seg ≤ 1024 ∧ IntKind.i64.wrap (4 * a.lanes) = 4 * a.lanes ∧ a.mem.tdiv (4 * a.lanes) = a.seg ∧ IntKind.i64.wrap a.seg = a.seg := by
  unfold Ar.ok at h
  unfold Ar.seg
  obtain ⟨h1, h2, h3, h4, h5, h6, _⟩ := h
  have e1 : a.mem / (4 * a.lanes) ≤ 1024 := by
    have : a.lanes = 1 ∨ a.lanes = 2 ∨ a.lanes = 3 ∨ a.lanes = 4 ∨ a.lanes = 5 ∨ a.lanes = 6 ∨ a.lanes = 7 ∨ a.lanes = 8 := by omega
    rcases this with h | h | h | h | h | h | h | h <;> rw [h] <;> omega
  have e2 : 2 ≤ a.mem / (4 * a.lanes) := by
    rw [Int.le_ediv_iff_mul_le (by omega)]; omega
  have w : ∀ n : Int, 0 ≤ n → n ≤ 100000 → IntKind.i64.wrap n = n := fun n h0 h1 => by
    simp [IntKind.wrap, IntKind.bits, IntKind.signed]; omega
  exact ⟨e2, e1, w _ (by omega) (by omega), Int.tdiv_eq_ediv_of_nonneg (by omega), w _ (by omega) (by omega)⟩
end Go.Proofs.YteeacbkhmofbeaaGreat

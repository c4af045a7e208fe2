/-
  Words of 64 bits as the walk has them, and the mixing of words: contracts of the small word functions (product, rotations, Blend), for the program and for the reference. No statement is claimed here.
-/
import Derived.Test.YtnkngaicegcejaaMem
namespace Go.Proofs.Ytnkngaicegcejaa
open Go.RowKit

def rotr (x : UInt64) (k : Nat) : UInt64 := UInt64.ofNat (x.toNat / 2 ^ k + x.toNat % 2 ^ k * 2 ^ (64 - k))
def mulLo (x y : UInt64) : UInt64 := UInt64.ofNat (2 * (x.toNat % 4294967296) * (y.toNat % 4294967296))
structure Q4 where
  a : UInt64
  b : UInt64
  c : UInt64
  d : UInt64
def blend1 (k l : Nat) (q : Q4) : Q4 :=
  let a := q.a + (q.b + mulLo q.a q.b)
  let d := rotr (q.d ^^^ a) k
  let c := q.c + (d + mulLo q.c d)
  let b := rotr (q.b ^^^ c) l
  ⟨a, b, c, d⟩
def blend (q : Q4) : Q4 := blend1 16 63 (blend1 32 24 q)

theorem wrd_lt (x : UInt64) : x.toNat < 18446744073709551616 := x.toNat_lt
theorem wrd_add (x y : UInt64) : IntKind.u64.wrap (wrd x + wrd y) = wrd (x + y) := by
  unfold wrd
  rw [UInt64.toNat_add]
  simp only [IntKind.wrap, IntKind.bits, IntKind.signed]
  simp
theorem wrd_xor (x y : UInt64) : bits .xor .u64 (wrd x) (wrd y) = wrd (x ^^^ y) := by
  unfold wrd
  rw [u64_xor_nat _ _ (wrd_lt x) (wrd_lt y), UInt64.toNat_xor]
theorem wrd_ofNat (n : Nat) : wrd (UInt64.ofNat n) = ((n % 18446744073709551616 : Nat) : Int) := by
  unfold wrd; rw [UInt64.toNat_ofNat']
theorem wrap_u64 (n : Int) : IntKind.u64.wrap n = n % 18446744073709551616 := by simp [IntKind.wrap, IntKind.bits, IntKind.signed]
def lo (x : UInt64) : Int := ((x.toNat % 4294967296 : Nat) : Int)
theorem and_lo (x : UInt64) : bits .and .u64 (wrd x) 4294967295 = lo x := by
  unfold wrd lo
  have := u64_and_nat x.toNat 4294967295 (wrd_lt x) (by omega)
  rw [show ((4294967295 : Nat) : Int) = 4294967295 from rfl] at this
  rw [this, show (4294967295 : Nat) = 2 ^ 32 - 1 from rfl, Nat.and_two_pow_sub_one_eq_mod]
theorem mod_lo (x : UInt64) : (wrd x).tmod 4294967296 = lo x := by
  unfold wrd lo
  rw [Int.tmod_eq_emod_of_nonneg (by omega)]; rfl
theorem mul_lo (x y : UInt64) : IntKind.u64.wrap (IntKind.u64.wrap (2 * lo x) * lo y) = wrd (mulLo x y) := by
  unfold mulLo lo
  rw [wrd_ofNat, wrap_u64, wrap_u64]
  have h1 : (2 * ((x.toNat % 4294967296 : Nat) : Int)) % 18446744073709551616 = ((2 * (x.toNat % 4294967296) : Nat) : Int) := by omega
  rw [h1, ← Int.natCast_mul]
  rfl

theorem rot_parts (x : UInt64) (k : Nat) (hk : k ≤ 64) : ∃ a b : Nat, IntKind.u64.wrap (wrd x * ((2 ^ (64 - k) : Nat) : Int)) = (a : Int) ∧ wrd x / ((2 ^ k : Nat) : Int) = (b : Int) ∧ a < 18446744073709551616 ∧ b < 18446744073709551616 ∧
    ((a ||| b : Nat) : Int) = wrd (rotr x k) := by
  unfold rotr
  rw [wrd_ofNat, wrap_u64]
  unfold wrd
  have hx := wrd_lt x
  generalize x.toNat = n at *
  have hpow : 2 ^ k * 2 ^ (64 - k) = 18446744073709551616 := by
    rw [← Nat.pow_add, show k + (64 - k) = 64 by omega]
  have h1 : ((n : Int) * ((2 ^ (64 - k) : Nat) : Int)) % 18446744073709551616 = ((n % 2 ^ k * 2 ^ (64 - k) : Nat) : Int) := by
    rw [← Int.natCast_mul, show (18446744073709551616 : Int) = ((18446744073709551616 : Nat) : Int) from rfl, ← Int.natCast_emod, ← hpow, Nat.mul_mod_mul_right]
  have h2 : (n : Int) / ((2 ^ k : Nat) : Int) = ((n / 2 ^ k : Nat) : Int) := by rw [← Int.natCast_ediv]
  have hlt : n / 2 ^ k < 2 ^ (64 - k) := by
    rw [Nat.div_lt_iff_lt_mul (Nat.two_pow_pos k), Nat.mul_comm, hpow]; exact hx
  have hmod : n % 2 ^ k < 2 ^ k := Nat.mod_lt _ (Nat.two_pow_pos k)
  have hsum : n % 2 ^ k * 2 ^ (64 - k) + n / 2 ^ k < 18446744073709551616 := by
    calc n % 2 ^ k * 2 ^ (64 - k) + n / 2 ^ k < n % 2 ^ k * 2 ^ (64 - k) + 2 ^ (64 - k) := Nat.add_lt_add_left hlt _
      _ = (n % 2 ^ k + 1) * 2 ^ (64 - k) := by rw [Nat.succ_mul]
      _ ≤ 2 ^ k * 2 ^ (64 - k) := Nat.mul_le_mul_right _ hmod
      _ = 18446744073709551616 := hpow
  have hj := nat_join (64 - k) (n % 2 ^ k * 2 ^ (64 - k)) (n / 2 ^ k) (Nat.mul_mod_left _ _) hlt
  generalize n % 2 ^ k * 2 ^ (64 - k) = a at *
  generalize n / 2 ^ k = b at *
  refine ⟨a, b, h1, h2, by omega, by omega, ?_⟩
  rw [hj, Nat.add_comm b a, Nat.mod_eq_of_lt hsum]
theorem rot_form (x : UInt64) (k : Nat) (hk : k ≤ 64) : bits .or .u64 (IntKind.u64.wrap (wrd x * ((2 ^ (64 - k) : Nat) : Int))) (wrd x / ((2 ^ k : Nat) : Int)) = wrd (rotr x k) := by
  obtain ⟨a, b, h1, h2, ha, hb, h3⟩ := rot_parts x k hk
  rw [h1, h2, u64_or_nat _ _ ha hb, h3]
theorem rot_form' (x : UInt64) (k : Nat) (hk : k ≤ 64) : bits .or .u64 (wrd x / ((2 ^ k : Nat) : Int)) (IntKind.u64.wrap (wrd x * ((2 ^ (64 - k) : Nat) : Int))) = wrd (rotr x k) := by
  obtain ⟨a, b, h1, h2, ha, hb, h3⟩ := rot_parts x k hk
  rw [h1, h2, u64_or_nat _ _ hb ha, Nat.or_comm, h3]

set_option maxHeartbeats 400000 in
theorem product_any (x y : UInt64) (w : World) :
    Calls Try.prog 48 #[.int .u64 (wrd x), .int .u64 (wrd y)] w fun e w' => e = .returned (.int .u64 (wrd (mulLo x y))) ∧ w = w' := by
  have h1 := and_lo x
  have h2 := and_lo y
  have h3 := mul_lo x y
  go_enter Try.func48, Try.ntmps48
  go_wp2
  go_ret
  exact ⟨rfl, rfl⟩
theorem low_any (x y : UInt64) (w : World) :
    Calls Try.prog 50 #[.int .u64 (wrd x), .int .u64 (wrd y)] w fun e w' => e = .returned (.int .u64 (wrd (mulLo x y))) ∧ w = w' := by
  have h1 := mod_lo x
  have h2 := mod_lo y
  have h3 := mul_lo x y
  go_enter Try.func50, Try.ntmps50
  go_wp2
  go_ret
  exact ⟨rfl, rfl⟩
theorem rotl_32 (x : UInt64) (w : World) :
    Calls Try.prog 49 #[.int .u64 (wrd x), .int .i64 (-32)] w fun e w' => e = .returned (.int .u64 (wrd (rotr x 32))) ∧ w = w' := by
  have h1 : bits .and .u64 (IntKind.u64.wrap (-32)) 63 = 32 := by decide
  have h2 := rot_form x 32 (by omega)
  go_enter Try.func49, Try.ntmps49
  go_wp2
  go_ret
  exact ⟨congrArg (fun n => Ending.returned (Value.int .u64 n)) h2, rfl⟩
theorem turn_32 (x : UInt64) (w : World) :
    Calls Try.prog 51 #[.int .u64 (wrd x), .int .i64 32] w fun e w' => e = .returned (.int .u64 (wrd (rotr x 32))) ∧ ∃ n, w' = w.drewN n := by
  have h2 := rot_form' x 32 (by omega)
  go_enter Try.func51, Try.ntmps51
  go_wp2
  go_quiet (fail)
  go_wp2
  go_ret
  exact ⟨congrArg (fun n => Ending.returned (Value.int .u64 n)) h2, _, rfl⟩
theorem rotl_24 (x : UInt64) (w : World) :
    Calls Try.prog 49 #[.int .u64 (wrd x), .int .i64 (-24)] w fun e w' => e = .returned (.int .u64 (wrd (rotr x 24))) ∧ w = w' := by
  have h1 : bits .and .u64 (IntKind.u64.wrap (-24)) 63 = 40 := by decide
  have h2 := rot_form x 24 (by omega)
  go_enter Try.func49, Try.ntmps49
  go_wp2
  go_ret
  exact ⟨congrArg (fun n => Ending.returned (Value.int .u64 n)) h2, rfl⟩
theorem turn_24 (x : UInt64) (w : World) :
    Calls Try.prog 51 #[.int .u64 (wrd x), .int .i64 24] w fun e w' => e = .returned (.int .u64 (wrd (rotr x 24))) ∧ ∃ n, w' = w.drewN n := by
  have h2 := rot_form' x 24 (by omega)
  go_enter Try.func51, Try.ntmps51
  go_wp2
  go_quiet (fail)
  go_wp2
  go_ret
  exact ⟨congrArg (fun n => Ending.returned (Value.int .u64 n)) h2, _, rfl⟩
theorem rotl_16 (x : UInt64) (w : World) :
    Calls Try.prog 49 #[.int .u64 (wrd x), .int .i64 (-16)] w fun e w' => e = .returned (.int .u64 (wrd (rotr x 16))) ∧ w = w' := by
  have h1 : bits .and .u64 (IntKind.u64.wrap (-16)) 63 = 48 := by decide
  have h2 := rot_form x 16 (by omega)
  go_enter Try.func49, Try.ntmps49
  go_wp2
  go_ret
  exact ⟨congrArg (fun n => Ending.returned (Value.int .u64 n)) h2, rfl⟩
theorem turn_16 (x : UInt64) (w : World) :
    Calls Try.prog 51 #[.int .u64 (wrd x), .int .i64 16] w fun e w' => e = .returned (.int .u64 (wrd (rotr x 16))) ∧ ∃ n, w' = w.drewN n := by
  have h2 := rot_form' x 16 (by omega)
  go_enter Try.func51, Try.ntmps51
  go_wp2
  go_quiet (fail)
  go_wp2
  go_ret
  exact ⟨congrArg (fun n => Ending.returned (Value.int .u64 n)) h2, _, rfl⟩
theorem rotl_63 (x : UInt64) (w : World) :
    Calls Try.prog 49 #[.int .u64 (wrd x), .int .i64 (-63)] w fun e w' => e = .returned (.int .u64 (wrd (rotr x 63))) ∧ w = w' := by
  have h1 : bits .and .u64 (IntKind.u64.wrap (-63)) 63 = 1 := by decide
  have h2 := rot_form x 63 (by omega)
  go_enter Try.func49, Try.ntmps49
  go_wp2
  go_ret
  exact ⟨congrArg (fun n => Ending.returned (Value.int .u64 n)) h2, rfl⟩
theorem turn_63 (x : UInt64) (w : World) :
    Calls Try.prog 51 #[.int .u64 (wrd x), .int .i64 63] w fun e w' => e = .returned (.int .u64 (wrd (rotr x 63))) ∧ ∃ n, w' = w.drewN n := by
  have h2 := rot_form' x 63 (by omega)
  go_enter Try.func51, Try.ntmps51
  go_wp2
  go_quiet (fail)
  go_wp2
  go_ret
  exact ⟨congrArg (fun n => Ending.returned (Value.int .u64 n)) h2, _, rfl⟩

theorem results4 {fn : Func} {t u v x : Tmp} (h : fn.results = #[.tmp t, .tmp u, .tmp v, .tmp x]) (tmps : Array Value) (P : Program) (w : World) :
    (results fn tmps).run P w = .ok (.tuple #[tmps.getD t undef, tmps.getD u undef, tmps.getD v undef, tmps.getD x undef]) w := by simp [results, h]

set_option maxHeartbeats 400000 in
theorem blend_any (q : Q4) (w : World) :
    Calls Try.prog 20 #[.int .u64 (wrd q.a), .int .u64 (wrd q.b), .int .u64 (wrd q.c), .int .u64 (wrd q.d)] w fun e w' => e = .returned (.tuple #[.int .u64 (wrd (blend q).a), .int .u64 (wrd (blend q).b), .int .u64 (wrd (blend q).c), .int .u64 (wrd (blend q).d)]) ∧ w = w' := by
  obtain ⟨a, b, c, d⟩ := q
  dsimp only
  have e0 := wrd_add
  have e1 := wrd_xor
  go_enter Try.func20, Try.ntmps20
  go_wp2_with fail
  refine (product_any _ _ _).mono ?_
  rintro e w1 ⟨rfl, rfl⟩
  go_wp2_with fail
  refine (rotl_32 _ _).mono ?_
  rintro e w1 ⟨rfl, rfl⟩
  go_wp2_with fail
  refine (product_any _ _ _).mono ?_
  rintro e w1 ⟨rfl, rfl⟩
  go_wp2_with fail
  refine (rotl_24 _ _).mono ?_
  rintro e w1 ⟨rfl, rfl⟩
  go_wp2_with fail
  refine (product_any _ _ _).mono ?_
  rintro e w1 ⟨rfl, rfl⟩
  go_wp2_with fail
  refine (rotl_16 _ _).mono ?_
  rintro e w1 ⟨rfl, rfl⟩
  go_wp2_with fail
  refine (product_any _ _ _).mono ?_
  rintro e w1 ⟨rfl, rfl⟩
  go_wp2_with fail
  refine (rotl_63 _ _).mono ?_
  rintro e w1 ⟨rfl, rfl⟩
  go_wp2
  refine bodyPost_ret (results4 rfl _ _ _) rfl ?_
  exact ⟨rfl, rfl⟩

set_option maxHeartbeats 400000 in
theorem refBlend_any (q : Q4) (w : World) :
    Calls Try.prog 21 #[.int .u64 (wrd q.a), .int .u64 (wrd q.b), .int .u64 (wrd q.c), .int .u64 (wrd q.d)] w fun e w' => e = .returned (.agg #[.int .u64 (wrd (blend q).a), .int .u64 (wrd (blend q).b), .int .u64 (wrd (blend q).c), .int .u64 (wrd (blend q).d)]) ∧ Below w.heap.size w w' := by
  obtain ⟨a, b, c, d⟩ := q
  dsimp only
  have e0 : ∀ x y : UInt64, IntKind.u64.wrap (wrd x + wrd y) = wrd (x + y) := wrd_add
  have e1 := wrd_xor
  have e2 : ∀ x y : UInt64, x + y + mulLo x y = x + (y + mulLo x y) := fun x y => UInt64.add_assoc _ _ _
  go_enter Try.func21, Try.ntmps21
  go_wp2_with fail
  refine (low_any _ _ _).mono ?_
  rintro e w1 ⟨rfl, rfl⟩
  go_wp2_with fail
  refine (turn_32 _ _).mono ?_
  rintro e w1 ⟨rfl, n1, rfl⟩
  go_wp2_with fail
  refine (low_any _ _ _).mono ?_
  rintro e w1 ⟨rfl, rfl⟩
  go_wp2_with fail
  refine (turn_24 _ _).mono ?_
  rintro e w1 ⟨rfl, n2, rfl⟩
  go_wp2_with fail
  refine (low_any _ _ _).mono ?_
  rintro e w1 ⟨rfl, rfl⟩
  go_wp2_with fail
  refine (turn_16 _ _).mono ?_
  rintro e w1 ⟨rfl, n3, rfl⟩
  go_wp2_with fail
  refine (low_any _ _ _).mono ?_
  rintro e w1 ⟨rfl, rfl⟩
  go_wp2_with fail
  refine (turn_63 _ _).mono ?_
  rintro e w1 ⟨rfl, n4, rfl⟩
  go_wp2
  refine bodyPost_ret (v := .agg #[.int .u64 (wrd (blend ⟨a, b, c, d⟩).a), .int .u64 (wrd (blend ⟨a, b, c, d⟩).b), .int .u64 (wrd (blend ⟨a, b, c, d⟩).c), .int .u64 (wrd (blend ⟨a, b, c, d⟩).d)]) (by simp [results, Try.results21, go_sem]; exact ⟨rfl, rfl, rfl, rfl⟩) rfl ⟨rfl, ?_⟩
  exact below_put (below_put (below_put (below_put (below_drewN ((Below.refl _ _).alloc (Nat.le_refl _) _) _) (Nat.le_refl _)) (Nat.le_refl _)) (Nat.le_refl _)) (Nat.le_refl _)
end Go.Proofs.Ytnkngaicegcejaa

/-
  Words of 64 bits as the walk has them, and the mixing of words: contracts of the small word functions (product, rotations, Blend), for the program and for the reference. No statement is claimed here.
-/
import Derived.Test.YtgephdbicbmpeaaGreatTurn
namespace Go.Proofs.YtgephdbicbmpeaaGreat
open Go.RowKit

def mulLo (x y : UInt64) : UInt64 := UInt64.ofNat (2 * (x.toNat % 4294967296) * (y.toNat % 4294967296))
structure Q4 where
  a : UInt64
  b : UInt64
  c : UInt64
  d : UInt64
def blend1 (k l : Nat) (q : Q4) : Q4 :=
  let a := q.a + (q.b + mulLo q.a q.b)
  let d := rotr (q.d ^^^ a) k
  let c := q.c + (d + mulLo q.c d)
  let b := rotr (q.b ^^^ c) l
  ⟨a, b, c, d⟩
def blend (q : Q4) : Q4 := blend1 16 63 (blend1 32 24 q)

def lo (x : UInt64) : Int := ((x.toNat % 4294967296 : Nat) : Int)
theorem and_lo (x : UInt64) : bits .and .u64 (wrd x) 4294967295 = lo x := by
  unfold wrd lo
  have := u64_and_nat x.toNat 4294967295 (wrd_lt x) (by omega)
  rw [show ((4294967295 : Nat) : Int) = 4294967295 from rfl] at this
  rw [this, show (4294967295 : Nat) = 2 ^ 32 - 1 from rfl, Nat.and_two_pow_sub_one_eq_mod]
theorem mod_lo (x : UInt64) : (wrd x).tmod 4294967296 = lo x := by
  unfold wrd lo
  rw [Int.tmod_eq_emod_of_nonneg (by omega)]; rfl
theorem mul_lo (x y : UInt64) : IntKind.u64.wrap (IntKind.u64.wrap (2 * lo x) * lo y) = wrd (mulLo x y) := by
  unfold mulLo lo
  rw [wrd_ofNat, wrap_u64, wrap_u64]
  have h1 : (2 * ((x.toNat % 4294967296 : Nat) : Int)) % 18446744073709551616 = ((2 * (x.toNat % 4294967296) : Nat) : Int) := by omega
  rw [h1, ← Int.natCast_mul]
  rfl

set_option maxHeartbeats 400000 in
theorem product_any (x y : UInt64) (w : World) :
    Calls Tryz.prog 161 #[.int .u64 (wrd x), .int .u64 (wrd y)] w fun e w' => e = .returned (.int .u64 (wrd (mulLo x y))) ∧ w = w' := by
  have h1 := and_lo x
  have h2 := and_lo y
  have h3 := mul_lo x y
  go_enter Tryz.func161, Tryz.ntmps161
  go_wp2
  go_ret
  exact ⟨rfl, rfl⟩
theorem low_any (x y : UInt64) (w : World) :
    Calls Tryz.prog 163 #[.int .u64 (wrd x), .int .u64 (wrd y)] w fun e w' => e = .returned (.int .u64 (wrd (mulLo x y))) ∧ w = w' := by
  have h1 := mod_lo x
  have h2 := mod_lo y
  have h3 := mul_lo x y
  go_enter Tryz.func163, Tryz.ntmps163
  go_wp2
  go_ret
  exact ⟨rfl, rfl⟩
theorem results4 {fn : Func} {t u v x : Tmp} (h : fn.results = #[.tmp t, .tmp u, .tmp v, .tmp x]) (tmps : Array Value) (P : Program) (w : World) :
    (results fn tmps).run P w = .ok (.tuple #[tmps.getD t undef, tmps.getD u undef, tmps.getD v undef, tmps.getD x undef]) w := by simp [results, h]

set_option maxHeartbeats 400000 in
theorem blend_any (q : Q4) (w : World) :
    Calls Tryz.prog 89 #[.int .u64 (wrd q.a), .int .u64 (wrd q.b), .int .u64 (wrd q.c), .int .u64 (wrd q.d)] w fun e w' => e = .returned (.tuple #[.int .u64 (wrd (blend q).a), .int .u64 (wrd (blend q).b), .int .u64 (wrd (blend q).c), .int .u64 (wrd (blend q).d)]) ∧ w = w' := by
  obtain ⟨a, b, c, d⟩ := q
  dsimp only
  have e0 := wrd_add
  have e1 := wrd_xor
  go_enter Tryz.func89, Tryz.ntmps89
  go_wp2_with fail
  refine (product_any _ _ _).mono ?_
  rintro e w1 ⟨rfl, rfl⟩
  go_wp2_with fail
  refine (rotl_32 _ _).mono ?_
  rintro e w1 ⟨rfl, rfl⟩
  go_wp2_with fail
  refine (product_any _ _ _).mono ?_
  rintro e w1 ⟨rfl, rfl⟩
  go_wp2_with fail
  refine (rotl_24 _ _).mono ?_
  rintro e w1 ⟨rfl, rfl⟩
  go_wp2_with fail
  refine (product_any _ _ _).mono ?_
  rintro e w1 ⟨rfl, rfl⟩
  go_wp2_with fail
  refine (rotl_16 _ _).mono ?_
  rintro e w1 ⟨rfl, rfl⟩
  go_wp2_with fail
  refine (product_any _ _ _).mono ?_
  rintro e w1 ⟨rfl, rfl⟩
  go_wp2_with fail
  refine (rotl_63 _ _).mono ?_
  rintro e w1 ⟨rfl, rfl⟩
  go_wp2
  refine bodyPost_ret (results4 rfl _ _ _) rfl ?_
  exact ⟨rfl, rfl⟩

set_option maxHeartbeats 400000 in
theorem refBlend_any (q : Q4) (w : World) :
    Calls Tryz.prog 90 #[.int .u64 (wrd q.a), .int .u64 (wrd q.b), .int .u64 (wrd q.c), .int .u64 (wrd q.d)] w fun e w' => e = .returned (.agg #[.int .u64 (wrd (blend q).a), .int .u64 (wrd (blend q).b), .int .u64 (wrd (blend q).c), .int .u64 (wrd (blend q).d)]) ∧ Below w.heap.size w w' := by
  obtain ⟨a, b, c, d⟩ := q
  dsimp only
  have e0 : ∀ x y : UInt64, IntKind.u64.wrap (wrd x + wrd y) = wrd (x + y) := wrd_add
  have e1 := wrd_xor
  have e2 : ∀ x y : UInt64, x + y + mulLo x y = x + (y + mulLo x y) := fun x y => UInt64.add_assoc _ _ _
  go_enter Tryz.func90, Tryz.ntmps90
  go_wp2_with fail
  refine (low_any _ _ _).mono ?_
  rintro e w1 ⟨rfl, rfl⟩
  go_wp2_with fail
  refine (turn_32 _ _).mono ?_
  rintro e w1 ⟨rfl, n1, rfl⟩
  go_wp2_with fail
  refine (low_any _ _ _).mono ?_
  rintro e w1 ⟨rfl, rfl⟩
  go_wp2_with fail
  refine (turn_24 _ _).mono ?_
  rintro e w1 ⟨rfl, n2, rfl⟩
  go_wp2_with fail
  refine (low_any _ _ _).mono ?_
  rintro e w1 ⟨rfl, rfl⟩
  go_wp2_with fail
  refine (turn_16 _ _).mono ?_
  rintro e w1 ⟨rfl, n3, rfl⟩
  go_wp2_with fail
  refine (low_any _ _ _).mono ?_
  rintro e w1 ⟨rfl, rfl⟩
  go_wp2_with fail
  refine (turn_63 _ _).mono ?_
  rintro e w1 ⟨rfl, n4, rfl⟩
  go_wp2
  refine bodyPost_ret (v := .agg #[.int .u64 (wrd (blend ⟨a, b, c, d⟩).a), .int .u64 (wrd (blend ⟨a, b, c, d⟩).b), .int .u64 (wrd (blend ⟨a, b, c, d⟩).c), .int .u64 (wrd (blend ⟨a, b, c, d⟩).d)]) (by simp [results, Tryz.results90, go_sem]; exact ⟨rfl, rfl, rfl, rfl⟩) rfl ⟨rfl, ?_⟩
  exact below_put (below_put (below_put (below_put (below_drewN ((Below.refl _ _).alloc (Nat.le_refl _) _) _) (Nat.le_refl _)) (Nat.le_refl _)) (Nat.le_refl _)) (Nat.le_refl _)
end Go.Proofs.YtgephdbicbmpeaaGreat

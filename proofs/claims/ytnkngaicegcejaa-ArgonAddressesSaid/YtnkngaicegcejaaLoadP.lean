/-
  Words out of bytes, in plain Lean. Lemmas alone; no statement is claimed here.
-/
import Derived.Test.YtnkngaicegcejaaBlendP
namespace Go.Proofs.Ytnkngaicegcejaa

def le : List UInt8 → Nat
  | [] => 0
  | b :: l => b.toNat + 256 * le l
theorem le_lt : ∀ l : List UInt8, le l < 256 ^ l.length
  | [] => by simp [le]
  | b :: l => by
    have h1 := le_lt l
    have h2 : b.toNat < 256 := b.toNat_lt
    simp only [le, List.length_cons, Nat.pow_succ]
    omega
theorem le_snoc (l : List UInt8) (b : UInt8) : le (l ++ [b]) = le l + 256 ^ l.length * b.toNat := by
  induction l with
  | nil => simp [le]
  | cons c l ih => simp only [List.cons_append, le, ih, List.length_cons, Nat.pow_succ, Nat.mul_add]; rw [← Nat.mul_assoc, Nat.mul_comm 256, Nat.mul_comm (256 ^ l.length)]; omega
theorem le_bound (l : List UInt8) (h : l.length ≤ 8) : le l < 18446744073709551616 := by
  have h1 := le_lt l
  have h2 : 256 ^ l.length ≤ 256 ^ 8 := Nat.pow_le_pow_right (by omega) h
  omega
/-- the word of bytes -/
def word (l : List UInt8) : UInt64 := UInt64.ofNat (le l)
theorem wrd_word (l : List UInt8) (h : l.length ≤ 8) : wrd (word l) = (le l : Int) := by
  unfold wrd word
  rw [UInt64.toNat_ofNat', Nat.mod_eq_of_lt (le_bound l h)]
open Go.RowKit
theorem pow8 (k : Nat) : (2 : Int) ^ (8 * k) = ((256 ^ k : Nat) : Int) := by
  rw [Int.pow_mul, Int.natCast_pow]; rfl
theorem pow256 (k : Nat) (h : k ≤ 8) : 256 ^ k ≤ 18446744073709551616 := by
  have : 256 ^ k ≤ 256 ^ 8 := Nat.pow_le_pow_right (by omega) h
  omega
theorem mul256 (k b : Nat) (hk : k < 8) (hb : b < 256) : b * 256 ^ k < 18446744073709551616 := by
  have h1 : b * 256 ^ k ≤ 255 * 256 ^ k := Nat.mul_le_mul_right _ (by omega)
  have h2 := pow256 (k + 1) (by omega)
  rw [Nat.pow_succ] at h2
  have h3 : 0 < 256 ^ k := Nat.pow_pos (by omega)
  omega
theorem ld_step (x k : Nat) (b : UInt8) (hk : k < 8) (hx : x < 256 ^ k) : bits .or .u64 (x : Int) (IntKind.u64.wrap (byt b * 2 ^ (8 * k))) = ((x + 256 ^ k * b.toNat : Nat) : Int) := by
  have hb : b.toNat < 256 := b.toNat_lt
  have h1 := mul256 k b.toNat hk hb
  have e : IntKind.u64.wrap (byt b * 2 ^ (8 * k)) = ((b.toNat * 256 ^ k : Nat) : Int) := by
    rw [pow8, wrap_u64]
    unfold byt
    rw [← Int.natCast_mul]
    omega
  rw [e, u64_or_nat _ _ (by have := pow256 k (by omega); omega) h1]
  congr 1
  have h2 : 256 ^ k = 2 ^ (8 * k) := by rw [Nat.pow_mul]
  rw [h2] at hx ⊢
  rw [Nat.mul_comm (b.toNat), Nat.or_comm, ← Nat.two_pow_add_eq_or_of_lt hx]
  omega
theorem ld_back (x j : Nat) (b : UInt8) (hj : j < 8) (hx : x < 256 ^ j) : IntKind.u64.wrap (IntKind.u64.wrap ((x : Int) * 256) + byt b) = ((b.toNat + 256 * x : Nat) : Int) := by
  have hb : b.toNat < 256 := b.toNat_lt
  have h2 := pow256 (j + 1) (by omega)
  rw [Nat.pow_succ] at h2
  rw [wrap_u64, wrap_u64]
  unfold byt
  omega
/-- the bytes of a word, the lowest first -/
def storeN (x : Nat) (n : Nat) : List UInt8 := (List.range n).map fun i => UInt8.ofNat (x / 256 ^ i % 256)
theorem storeN_len (x n : Nat) : (storeN x n).length = n := by simp [storeN]
theorem storeN_succ (x n : Nat) : storeN x (n + 1) = storeN x n ++ [UInt8.ofNat (x / 256 ^ n % 256)] := by simp [storeN, List.range_succ]
theorem byt_ofNat (n : Nat) (h : n < 256) : byt (UInt8.ofNat n) = (n : Int) := by unfold byt; rw [UInt8.toNat_ofNat', Nat.mod_eq_of_lt h]
theorem le_storeN (x : Nat) : ∀ n, le (storeN x n) = x % 256 ^ n
  | 0 => by simp [storeN, le, Nat.mod_one]
  | n + 1 => by
    rw [storeN_succ, le_snoc, le_storeN x n, storeN_len, UInt8.toNat_ofNat', Nat.mod_mod, Nat.pow_succ, Nat.mod_mul]
theorem word_storeN (x : UInt64) : word (storeN x.toNat 8) = x := by
  unfold word
  rw [le_storeN, Nat.mod_eq_of_lt (by have := x.toNat_lt; omega)]
  simp
theorem storeN_put (y k n : Nat) (hk : k < n) : (storeN y k ++ List.replicate (n - k) 0).set k (UInt8.ofNat (y / 256 ^ k % 256)) = storeN y (k + 1) ++ List.replicate (n - (k + 1)) 0 := by
  obtain ⟨m, hm⟩ : ∃ m, n - k = m + 1 := ⟨n - k - 1, by omega⟩
  have hm2 : n - (k + 1) = m := by omega
  rw [hm, hm2, storeN_succ, List.replicate_succ, List.set_append, if_neg (by rw [storeN_len]; omega), storeN_len, Nat.sub_self, List.set_cons_zero, List.append_assoc]
  rfl
theorem storeN_byte (y k : Nat) : (y : Int) / 2 ^ (8 * k) % 256 = byt (UInt8.ofNat (y / 256 ^ k % 256)) := by
  rw [byt_ofNat _ (Nat.mod_lt _ (by omega)), pow8]
  rfl
end Go.Proofs.Ytnkngaicegcejaa

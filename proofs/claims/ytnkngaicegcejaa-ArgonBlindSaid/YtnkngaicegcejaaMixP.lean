/-
  Blocks as words, in plain Lean. Lemmas alone; no statement is claimed here.
-/
import Derived.Test.YtnkngaicegcejaaLoadP
import Derived.Test.YtnkngaicegcejaaXor
import Derived.Test.YtnkngaicegcejaaPerm
namespace Go.Proofs.Ytnkngaicegcejaa

theorem storeN_xor (a b n : Nat) : storeN (a ^^^ b) n = xorB (storeN a n) (storeN b n) := by
  apply List.ext_getElem
  · simp [storeN, xorB]
  · intro i h1 h2
    simp only [storeN, xorB, List.getElem_map, List.getElem_range, List.getElem_zipWith]
    apply UInt8.toNat_inj.1
    rw [UInt8.toNat_xor, UInt8.toNat_ofNat', UInt8.toNat_ofNat', UInt8.toNat_ofNat', Nat.mod_mod, Nat.mod_mod, Nat.mod_mod]
    have e : 256 ^ i = 2 ^ (8 * i) := by rw [Nat.pow_mul]
    rw [e, Nat.xor_div_two_pow]
    exact Nat.xor_mod_two_pow (n := 8)
theorem le_inj : ∀ (a b : List UInt8), a.length = b.length → le a = le b → a = b
  | [], [], _, _ => rfl
  | x :: a, y :: b, h, e => by
    have hx := x.toNat_lt; have hy := y.toNat_lt
    simp only [le] at e
    simp only [List.length_cons] at h
    have e1 : x.toNat = y.toNat := by omega
    have e2 : le a = le b := by omega
    rw [UInt8.toNat_inj.1 e1, le_inj a b (by omega) e2]
theorem storeN_word (l : List UInt8) (h : l.length = 8) : storeN (word l).toNat 8 = l := by
  apply le_inj
  · rw [storeN_len, h]
  · rw [le_storeN]
    unfold word
    have := le_bound l (by omega)
    rw [UInt64.toNat_ofNat', Nat.mod_eq_of_lt this]
    omega
theorem word_xor (a b : List UInt8) (ha : a.length = 8) (hb : b.length = 8) : word (xorB a b) = word a ^^^ word b := by
  have h1 := storeN_xor (word a).toNat (word b).toNat 8
  rw [storeN_word a ha, storeN_word b hb, ← UInt64.toNat_xor] at h1
  rw [← h1, word_storeN]

/-- the words of bytes -/
def wordsOf (b : List UInt8) (n : Nat) : List UInt64 := (List.range n).map fun i => word ((b.drop (8 * i)).take 8)
theorem wordsOf_len (b : List UInt8) (n : Nat) : (wordsOf b n).length = n := by simp [wordsOf]
theorem wordsOf_at (b : List UInt8) (n i : Nat) (h : i < n) : (wordsOf b n)[i]? = some (word ((b.drop (8 * i)).take 8)) := by simp [wordsOf, h]
theorem wordsOf_succ (b : List UInt8) (n : Nat) : wordsOf b (n + 1) = wordsOf b n ++ [word ((b.drop (8 * n)).take 8)] := by simp [wordsOf, List.range_succ]
def xorW (a b : List UInt64) : List UInt64 := List.zipWith (· ^^^ ·) a b
theorem xorW_len (a b : List UInt64) (h : b.length = a.length) : (xorW a b).length = a.length := by simp [xorW, h]
theorem xorW_at (x y : List UInt64) (k : Nat) (a b : UInt64) (ha : x[k]? = some a) (hb : y[k]? = some b) : (xorW x y)[k]? = some (a ^^^ b) := by
  unfold xorW
  rw [List.getElem?_zipWith, ha, hb]
theorem xorW_comm (a b : List UInt64) : xorW a b = xorW b a := by
  unfold xorW
  rw [List.zipWith_comm]
  congr 1
  funext x y
  first | exact UInt64.xor_comm x y | exact UInt64.xor_comm y x
theorem wordsOf_xor (x y : List UInt8) (n : Nat) (hx : x.length = 8 * n) (hy : y.length = 8 * n) : wordsOf (xorB x y) n = xorW (wordsOf x n) (wordsOf y n) := by
  apply List.ext_getElem
  · simp [wordsOf, xorW]
  · intro i h1 h2
    have hi : i < n := by simpa [wordsOf] using h1
    simp only [wordsOf, xorW, List.getElem_map, List.getElem_range, List.getElem_zipWith]
    rw [← word_xor _ _ (by simp; omega) (by simp; omega)]
    congr 1
    unfold xorB
    rw [List.drop_zipWith, List.take_zipWith]
def flat (z : List UInt64) : List UInt8 := z.flatMap fun w => storeN w.toNat 8
theorem flat_len (z : List UInt64) : (flat z).length = 8 * z.length := by
  induction z with
  | nil => rfl
  | cons a z ih => simp only [flat, List.flatMap_cons, List.length_append, storeN_len, List.length_cons] at ih ⊢; omega
theorem flat_snoc (z : List UInt64) (a : UInt64) : flat (z ++ [a]) = flat z ++ storeN a.toNat 8 := by simp [flat]
theorem flat_wordsOf (x : List UInt8) : ∀ n, 8 * n ≤ x.length → flat (wordsOf x n) = x.take (8 * n)
  | 0, _ => by simp [wordsOf, flat]
  | n + 1, h => by
    rw [wordsOf_succ, flat_snoc, flat_wordsOf x n (by omega), storeN_word _ (by simp; omega)]
    rw [show 8 * (n + 1) = 8 * n + 8 by omega, List.take_add]
theorem flat_xor : ∀ (a b : List UInt64), a.length = b.length → flat (xorW a b) = xorB (flat a) (flat b)
  | [], [], _ => rfl
  | x :: a, y :: b, h => by
    have ih := flat_xor a b (by simpa using h)
    simp only [flat, xorW, List.zipWith_cons_cons, List.flatMap_cons] at ih ⊢
    rw [ih, UInt64.toNat_xor, storeN_xor]
    unfold xorB
    rw [List.zipWith_append (by simp [storeN_len])]

/-- sixteen words at their places go through the permutation -/
def gather (z : List UInt64) (p : Nat → Nat) : List UInt64 := (List.range 16).map fun k => z.getD (p k) 0
def scatter (p : Nat → Nat) (v : List UInt64) : Nat → List UInt64 → List UInt64
  | 0, z => z
  | k + 1, z => (scatter p v k z).set (p k) (v.getD k 0)
def putAt (p : Nat → Nat) (z : List UInt64) : List UInt64 := scatter p (perm (gather z p)) 16 z
theorem scatter_len (p : Nat → Nat) (v : List UInt64) (k : Nat) (z : List UInt64) : (scatter p v k z).length = z.length := by
  induction k with
  | zero => rfl
  | succ k ih => simp [scatter, ih]
theorem putAt_len (p : Nat → Nat) (z : List UInt64) : (putAt p z).length = z.length := scatter_len _ _ _ _
def rowAt (i k : Nat) : Nat := 16 * i + k
def colAt (i k : Nat) : Nat := 2 * i + 16 * (k / 2) + k % 2
def rowsTo (z : List UInt64) : Nat → List UInt64
  | 0 => z
  | i + 1 => putAt (rowAt i) (rowsTo z i)
def colsTo (z : List UInt64) : Nat → List UInt64
  | 0 => z
  | i + 1 => putAt (colAt i) (colsTo z i)
theorem rowsTo_len (z : List UInt64) (i : Nat) : (rowsTo z i).length = z.length := by
  induction i with
  | zero => rfl
  | succ i ih => simp only [rowsTo, putAt_len, ih]
theorem colsTo_len (z : List UInt64) (i : Nat) : (colsTo z i).length = z.length := by
  induction i with
  | zero => rfl
  | succ i ih => simp only [colsTo, putAt_len, ih]
def mixZ (z : List UInt64) : List UInt64 := colsTo (rowsTo z 8) 8
theorem mixZ_len (z : List UInt64) : (mixZ z).length = z.length := by unfold mixZ; rw [colsTo_len, rowsTo_len]
/-- two blocks mixed -/
def mixB (x y : List UInt8) : List UInt8 := flat (xorW (mixZ (wordsOf (xorB x y) 128)) (wordsOf (xorB x y) 128))
theorem mixB_len (x y : List UInt8) : (mixB x y).length = 1024 := by
  unfold mixB
  rw [flat_len, xorW_len _ _ (by rw [mixZ_len]), mixZ_len, wordsOf_len]
theorem mixB_ref (x y : List UInt8) (hx : x.length = 1024) (hy : y.length = 1024) : xorB (xorB x y) (flat (mixZ (wordsOf (xorB x y) 128))) = mixB x y := by
  have hr : (xorB x y).length = 1024 := by rw [xorB_len x y (hy.trans hx.symm), hx]
  have h1 := flat_wordsOf (xorB x y) 128 (by omega)
  rw [List.take_of_length_le (by omega)] at h1
  unfold mixB
  rw [xorW_comm, flat_xor _ _ (by rw [mixZ_len]), h1]
end Go.Proofs.Ytnkngaicegcejaa

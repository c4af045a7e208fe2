/-
  The long digest of the program. Contracts alone; no statement is claimed here.
-/
import Derived.Test.YteeacbkhmofbeaaGreatHashC
import Derived.Test.YteeacbkhmofbeaaGreatHex
import Derived.Test.YteeacbkhmofbeaaGreatPlainP
namespace Go.Proofs.YteeacbkhmofbeaaGreat
open Go.RowKit
attribute [local go_sem] pureUpon Ords.of

theorem store32_any (x : Nat) (hx : x < 4294967296) (w : World) :
    Calls Tryz.prog 76 #[.int .u32 x] w fun e w' => ∃ A, e = .returned (.slice A 4 4) ∧ OS cB w' w.heap.size A 4 (storeN x 4) ∧ Below w.heap.size w w' := by
  go_enter Tryz.func76, Tryz.ntmps76
  go_wp2
  refine bodyPost_ret (results_tmp rfl _ _ _) rfl ⟨_, rfl, OS.lit w _ _ 4 ?_ rfl (by decide), bal (b0 w) _⟩
  have e : storeN x 4 = [UInt8.ofNat (x / 256 ^ 0 % 256), UInt8.ofNat (x / 256 ^ 1 % 256), UInt8.ofNat (x / 256 ^ 2 % 256), UInt8.ofNat (x / 256 ^ 3 % 256)] := rfl
  rw [e]
  have g : ∀ (a b : Int), a = b → Value.int .u8 a = .int .u8 b := fun a b h => by rw [h]
  show #[_, _, _, _] = #[_, _, _, _]
  congr 1
  refine List.cons_eq_cons.2 ⟨g _ _ ?_, List.cons_eq_cons.2 ⟨g _ _ ?_, List.cons_eq_cons.2 ⟨g _ _ ?_, List.cons_eq_cons.2 ⟨g _ _ ?_, rfl⟩⟩⟩⟩ <;> (rw [byt_ofNat _ (Nat.mod_lt _ (by decide))]; omega)

def plainL (n : Nat) (l : List UInt8) : List UInt8 := (hashL true (plainP n 0) [] [] [] false l).take n
theorem plainL_len (n : Nat) (l : List UInt8) (h : n ≤ 64) : (plainL n l).length = n := by unfold plainL; rw [List.length_take, hashL_len]; show min n 64 = n; omega
/-- the k-th digest behind v, and the halves of the first k -/
def chainL (v : List UInt8) : Nat → List UInt8
  | 0 => v
  | k + 1 => plainL 64 (chainL v k)
def halvesL (v : List UInt8) : Nat → List UInt8
  | 0 => []
  | k + 1 => halvesL v k ++ (chainL v k).take 32
def longL (size : Nat) (data : List UInt8) : List UInt8 :=
  let f := storeN size 4 ++ data
  if size ≤ 64 then plainL size f else halvesL (plainL 64 f) ((size + 31) / 32 - 2) ++ plainL (size - 32 * ((size + 31) / 32 - 2)) (chainL (plainL 64 f) ((size + 31) / 32 - 2 - 1))
theorem chainL_len (v : List UInt8) (h : v.length = 64) : ∀ k, (chainL v k).length = 64
  | 0 => h
  | _ + 1 => plainL_len 64 _ (Nat.le_refl _)
theorem halvesL_len (v : List UInt8) (h : v.length = 64) : ∀ k, (halvesL v k).length = 32 * k
  | 0 => rfl
  | k + 1 => by
    show (halvesL v k ++ (chainL v k).take 32).length = _
    rw [List.length_append, halvesL_len v h k, List.length_take, chainL_len v h]
    omega
theorem longL_len (size : Nat) (data : List UInt8) : (longL size data).length = size := by
  unfold longL
  dsimp only
  split
  · exact plainL_len _ _ (by assumption)
  · rw [List.length_append, halvesL_len _ (plainL_len _ _ (Nat.le_refl _)), plainL_len _ _ (by omega)]
    omega

end Go.Proofs.YteeacbkhmofbeaaGreat

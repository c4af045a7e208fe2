/-
  The known digests of abc. Contracts alone; no statement is claimed here.
-/
import Derived.Test.YtboihcigcfmhhaaHashC
import Derived.Test.YtboihcigcfmhhaaHex
import Derived.Test.YtboihcigcfmhhaaPlainP
import Derived.Lib.SlBytesConst
namespace Go.Proofs.Ytboihcigcfmhhaa
open Go.RowKit
attribute [local go_sem] pureUpon Ords.of

def abc : List UInt8 := [97, 98, 99]
theorem known_big : hexL ((hashL true (plainP 64 0) [] [] [] false abc).take 64) = [98, 97, 56, 48, 97, 53, 51, 102, 57, 56, 49, 99, 52, 100, 48, 100, 54, 97, 50, 55, 57, 55, 98, 54, 57, 102, 49, 50, 102, 54, 101, 57, 52, 99, 50, 49, 50, 102, 49, 52, 54, 56, 53, 97, 99, 52, 98, 55, 52, 98, 49, 50, 98, 98, 54, 102, 100, 98, 102, 102, 97, 50, 100, 49, 55, 100, 56, 55, 99, 53, 51, 57, 50, 97, 97, 98, 55, 57, 50, 100, 99, 50, 53, 50, 100, 53, 100, 101, 52, 53, 51, 51, 99, 99, 57, 53, 49, 56, 100, 51, 56, 97, 97, 56, 100, 98, 102, 49, 57, 50, 53, 97, 98, 57, 50, 51, 56, 54, 101, 100, 100, 52, 48, 48, 57, 57, 50, 51] := by decide +kernel
theorem known_small : hexL ((hashL false (plainP 32 0) [] [] [] false abc).take 32) = [53, 48, 56, 99, 53, 101, 56, 99, 51, 50, 55, 99, 49, 52, 101, 50, 101, 49, 97, 55, 50, 98, 97, 51, 52, 101, 101, 98, 52, 53, 50, 102, 51, 55, 52, 53, 56, 98, 50, 48, 57, 101, 100, 54, 51, 97, 50, 57, 52, 100, 57, 57, 57, 98, 52, 99, 56, 54, 54, 55, 53, 57, 56, 50] := by decide +kernel

/-- the mark of a literal's bytes -/
theorem run_literal (w : World) (C : Array Value) (n c g : Nat) (h : w.heap.size = g) : (convert 24 24 (.slice (some ⟨g, 0, none⟩) n c)).run Try.prog (w.alloc (.cells C 5)) = .ok (.slice (some ⟨g, 0, none⟩) n c) (w.alloc (.cells C 5 (C.size, C.size + 1))) := by
  subst h
  exact Lib.run_convert_bytes_const w 24 5 C n c Try.underlying24 Try.underlying5
theorem hexAbc_any (big : Bool) (n : Nat) (h : n ≤ bOf big) (A : Option Addr) (c : Nat) (X : List UInt8) (hX : hexL ((hashL big (plainP n 0) [] [] [] false abc).take n) = X) (W : World) (hr : RS cB W W.heap.size A ((hashL big (plainP n 0) [] [] [] false abc).take n)) :
    Calls Try.prog 15 #[.slice A n c] W fun e w' => e = .returned (.string ⟨X.toArray⟩) ∧ Below W.heap.size W w' := by
  subst hX
  exact hex_any A n c _ W (by rw [List.length_take, hashL_len]; exact Nat.min_eq_left h) (Nat.le_trans h (by cases big <;> decide)) hr

end Go.Proofs.Ytboihcigcfmhhaa

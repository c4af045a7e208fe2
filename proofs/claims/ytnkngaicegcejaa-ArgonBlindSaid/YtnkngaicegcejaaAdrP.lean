/-
  Addresses, in plain Lean. Lemmas alone; no statement is claimed here.
-/
import Derived.Test.YtnkngaicegcejaaMixQ
import Derived.Test.YtnkngaicegcejaaArgonC
namespace Go.Proofs.Ytnkngaicegcejaa
open Go.RowKit

def uw (x : Int) : UInt64 := UInt64.ofNat x.toNat
theorem wrd_uw (x : Int) (h0 : 0 ≤ x) (h1 : x ≤ 9223372036854775807) : wrd (uw x) = x := by
  unfold wrd uw
  rw [UInt64.toNat_ofNat', Nat.mod_eq_of_lt (by omega)]
  omega
theorem wrd_wrap (v : UInt64) : IntKind.u64.wrap (wrd v) = wrd v := by
  rw [wrap_u64]; have := wrd_lo v; have := wrd_lt v; unfold wrd at *; omega
def slLen : Value → Nat
  | .slice _ n _ => n
  | _ => 0

def zeroB : List UInt8 := List.replicate 1024 0
theorem zeroB_len : zeroB.length = 1024 := List.length_replicate ..
def adrIn (L : List UInt64) : List UInt8 := flat L ++ List.replicate 968 0
theorem adrIn_len (L : List UInt64) (h : L.length = 7) : (adrIn L).length = 1024 := by
  unfold adrIn
  rw [List.length_append, flat_len, h, List.length_replicate]
def adrB (L : List UInt64) : List UInt8 := mixB zeroB (mixB zeroB (adrIn L))
theorem adrB_len (L : List UInt64) : (adrB L).length = 1024 := mixB_len _ _
def adrL (a : Ar) (p s l : Int) (n : Nat) : List UInt64 := [uw p, uw l, uw s, uw (a.lanes * (4 * a.seg)), uw a.passes, uw a.kind, UInt64.ofNat n]
theorem adrL_len (a : Ar) (p s l : Int) (n : Nat) : (adrL a p s l n).length = 7 := rfl
def adrW (a : Ar) (p s l : Int) (x : Nat) : UInt64 := word (((adrB (adrL a p s l (x / 128 + 1))).drop (8 * (x % 128))).take 8)
def adrs (a : Ar) (p s l : Int) : List UInt64 := (List.range a.seg.toNat).map (adrW a p s l)
theorem adrs_len (a : Ar) (p s l : Int) : (adrs a p s l).length = a.seg.toNat := by simp [adrs]
theorem adrs_at (a : Ar) (p s l : Int) (x : Nat) (h : x < a.seg.toNat) : (adrs a p s l)[x]? = some (adrW a p s l x) := by simp [adrs, h]
def adrBad (a : Ar) (p s l : Int) : Prop := p < 0 ∨ a.passes ≤ p ∨ s < 0 ∨ 3 < s ∨ l < 0 ∨ a.lanes ≤ l
instance (a : Ar) (p s l : Int) : Decidable (adrBad a p s l) := by unfold adrBad; infer_instance

theorem OS.ne_ {α β : Type} {cd : Cod α} {ce : Cod β} {w : World} {base base' c c' : Nat} {A A' : Option Addr} {l : List α} {m : List β} (h : OS cd w base A c l) (h' : OS ce w base' A' c' m) (hne : cd.e ≠ ce.e) :
    ∀ a, A = some a → A'.map (·.block) ≠ some a.block := by
  intro a ha e
  cases A' with
  | none => cases e
  | some b =>
    simp at e
    rcases h.2 with ⟨hv, _⟩ | ⟨g, cap, cur, hv, _, hh, _⟩
    · injection hv with hv; rw [ha] at hv; cases hv
    · rcases h'.2 with ⟨hv', _⟩ | ⟨g', cap', cur', hv', _, hh', _⟩
      · injection hv' with hv'; cases hv'
      · injection hv with hv; injection hv' with hv'
        rw [ha] at hv; injection hv with hv; injection hv' with hv'
        subst hv; subst hv'
        simp at e
        subst e
        rw [hh] at hh'
        injection hh' with hh'
        injection hh' with _ ht
        exact hne ht
end Go.Proofs.Ytnkngaicegcejaa

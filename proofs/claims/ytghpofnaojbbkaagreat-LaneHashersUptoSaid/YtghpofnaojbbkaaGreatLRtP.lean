/-
  What the root's call gives. Lemmas alone; no statement is claimed here.
-/
import Derived.Test.YtghpofnaojbbkaaGreatLWri
import Derived.Test.YtghpofnaojbbkaaGreatDecQ
namespace Go.Proofs.YtghpofnaojbbkaaGreat
open Go.RowKit

theorem callS_ok (big : Bool) (b key : List UInt8) (last : Bool) (m : Int) (data : List UInt8) (hb : blkOk big b) (hk : key.length = 0 ∨ key.length = fld b 1 1) (hm : 1 ≤ m ∧ m ≤ bOf big) :
  callS (kOf big) b key last m data = ((((startK big b key).feed data).out last).take m.toNat, 0) := by
 unfold callS
 have hk0 : ¬ (kOf big ≠ 1 ∧ kOf big ≠ 2) := by cases big <;> decide
 rw [if_neg hk0, kOf_is, mostOf_k, if_neg (fun h => h hb), if_neg (by omega), if_neg (by omega)]
theorem LP.dec (P : LP) (he : P.err = 0) (i : Nat) (hi : i ≤ lnOf P.big) : blkOk P.big (P.blk i) ∧ P.key.length = fld (P.blk i) 1 1 := by
 have hc := P.chk_eq i hi ⟨none, P.ls.length, 0⟩ ⟨none, P.lp.length, 0⟩ rfl rfl
 rw [he] at hc
 have h := dec_enc (big := P.big) (p := P.par i ⟨none, P.ls.length, 0⟩ ⟨none, P.lp.length, 0⟩) (ls := P.ls) (lp := P.lp) hc (P.fit i hi _ _) rfl rfl rfl
 rw [P.blk_eq] at h
 obtain ⟨h1, -, h3⟩ := h
 exact ⟨.inl h1, (Int.ofNat.inj h3).symm⟩
theorem LP.lane_out (P : LP) (he : P.err = 0) (i : Nat) (hi : i < lnOf P.big) : (P.lane i).out (kOf P.big) = (P.outOf (P.engs P.data) i, 0) := by
 obtain ⟨h1, h2⟩ := P.dec he i (Nat.le_of_lt hi)
 have hb := bOf_le P.big
 refine (callS_ok P.big (P.blk i) P.key _ _ _ h1 (.inr h2) (by show (1 : Int) ≤ (bOf P.big : Nat) ∧ ((bOf P.big : Nat) : Int) ≤ _; omega)).trans ?_
 unfold LP.outOf LP.engs LP.eng0
 rw [show P.nkey i = P.key from if_neg (by omega)]
 rfl
theorem LP.outs_eq (P : LP) (he : P.err = 0) : ∀ m, m ≤ lnOf P.big → P.outs m = catTo (P.outOf (P.engs P.data)) m
 | 0, _ => rfl
 | m + 1, h => by
  show P.outs m ++ ((P.lane m).out (kOf P.big)).1 = _
  rw [P.outs_eq he m (by omega), P.lane_out he m (by omega)]
  rfl
theorem LP.root_out (P : LP) (he : P.err = 0) : P.root.out (kOf P.big) = (P.dig, 0) := by
 obtain ⟨h1, h2⟩ := P.dec he (lnOf P.big) (Nat.le_refl _)
 obtain ⟨d, hd, hd1, hd2⟩ := LP.err_dig he
 refine (callS_ok P.big (P.blk (lnOf P.big)) [] _ _ _ h1 (.inl rfl) (by show 1 ≤ P.digest ∧ P.digest ≤ _; omega)).trans ?_
 unfold LP.dig LP.eng0
 rw [show P.nkey (lnOf P.big) = [] from if_pos rfl]
 show ((((startK P.big (P.blk (lnOf P.big)) []).feed (P.outs (lnOf P.big))).out true).take P.digest.toNat, (0 : Int)) = _
 rw [P.outs_eq he _ (Nat.le_refl _)]
end Go.Proofs.YtghpofnaojbbkaaGreat

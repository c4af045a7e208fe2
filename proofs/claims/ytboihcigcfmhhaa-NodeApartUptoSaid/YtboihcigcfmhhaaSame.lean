/-
  Are bytes the same: the reference's Same. Contracts alone; no statement is claimed here.
-/
import Derived.Test.YtboihcigcfmhhaaCoreA
namespace Go.Proofs.Ytboihcigcfmhhaa
open Go.RowKit

set_option maxHeartbeats 400000 in
theorem sameR_any (A1 A2 : Option Addr) (c1 c2 : Nat) (l1 l2 : List UInt8) (B1 B2 n1 n2 : Nat) (w : World) (hn1 : l1.length = n1) (hn2 : l2.length = n2) (hm : n1 ≤ 9223372036854775807)
   (h1 : RS cB w B1 A1 l1) (h2 : RS cB w B2 A2 l2) :
    Calls Try.prog 22 #[.slice A1 n1 c1, .slice A2 n2 c2] w fun e w' => e = .returned (.bool (decide (l1 = l2))) ∧ ∃ n, w' = w.drewN n := by
  by_cases hl : n1 = n2
  · subst hl
    have HN := Lib.hid hn1; have HL := Lib.hid hn2; have H1 := Lib.hid h1; have H2 := Lib.hid h2
    clear hn1 hn2 h1 h2
    have h3 : (!(((n1 : Int)) == ((n1 : Int)))) = false := by simp
    go_enter Try.func22, Try.ntmps22
    go_wp2
    go_loopw [5] (fun i wr => ∃ k n : Nat, k ≤ n1 ∧ i = .int .i64 k ∧ wr = w.drewN n ∧ l1.take k = l2.take k) (fun i _ => n1 - (intOf i).toNat)
    case atStart => exact ⟨0, 0, by omega, rfl, rfl, by simp⟩
    case round =>
      obtain ⟨k, n, hk, rfl, rfl, ht⟩ := hrel
      have HT := Lib.hid ht; clear ht
      by_cases hlt : k < n1
      · obtain ⟨ad1, x1, rfl, -, e1, g1⟩ := H1.out.at_ (k := k) (by rw [HN.out]; exact hlt)
        obtain ⟨ad2, x2, rfl, -, e2, g2⟩ := H2.out.at_ (k := k) (by rw [HL.out]; exact hlt)
        have E1 := Lib.hid e1; have E2 := Lib.hid e2; clear e1 e2
        change w.cell? (ad1.add k) = some (.int .u8 (byt x1)) at g1
        change w.cell? (ad2.add k) = some (.int .u8 (byt x2)) at g2
        have r1 := byt_range x1
        have r2 := byt_range x2
        go_wp2
        go_quiet (fail)
        go_wp2
        · have hne : (byt x1 != byt x2) = true := by assumption
          go_ret
          refine ⟨?_, n + nq, by rw [← World.drewN_drewN]⟩
          have : l1 ≠ l2 := fun e => by
            have := E1.out; rw [e, E2.out] at this
            injection this with this; subst this; simp at hne
          simp [this]
        · have hne : (byt x1 != byt x2) = false := by assumption
          go_roundw
          case rel =>
            refine ⟨k + 1, n + nq, by omega, by go_num, by rw [← World.drewN_drewN], ?_⟩
            have hx : x1 = x2 := byt_inj (by simpa using hne)
            rw [List.take_add_one, List.take_add_one, HT.out, E1.out, E2.out, hx]
          case measure => simp [intOf]; omega
      · go_wp2
        go_ret
        refine ⟨?_, n, rfl⟩
        have : l1 = l2 := by
          have e := HT.out
          rw [List.take_of_length_le (by rw [HN.out]; omega), List.take_of_length_le (by rw [HL.out]; omega)] at e
          exact e
        simp [this]
  · have hn : l1 ≠ l2 := fun e => hl (by rw [← hn1, ← hn2, e])
    have h3 : (((n1 : Int)) != ((n2 : Int))) = true := by simp; omega
    have HH := Lib.hid hn
    clear hn hl h1 h2 hm hn1 hn2
    go_enter Try.func22, Try.ntmps22
    go_wp2
    go_ret
    exact ⟨by simp [HH.out], 0, rfl⟩


end Go.Proofs.Ytboihcigcfmhhaa

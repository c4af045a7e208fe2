/-
  Small helpers of the laws: copied, block. Contracts alone; no statement is claimed here.
-/
import Derived.Test.YtnkngaicegcejaaMixL
namespace Go.Proofs.Ytnkngaicegcejaa
open Go.RowKit
attribute [local go_sem] pureUpon Ords.of

set_option maxHeartbeats 1000000 in
theorem copied19_any (A : Option Addr) (c n : Nat) (l : List UInt8) (w : World) (hn : l.length = n) (hm : n ≤ 140737488355328) (hr : RS cB w w.heap.size A l) :
    Calls Try.prog 41 #[.slice A n c] w fun e w' => ∃ A' c', e = .returned (.slice A' n c') ∧ OS cB w' w.heap.size A' c' l ∧ Below w.heap.size w w' := by
  have HN := Lib.hid hn; have HR := Lib.hid hr; clear hn hr
  go_enter Try.func41, Try.ntmps41
  have ho : OS cB (w.alloc (.cells #[] 5)) w.heap.size (some ⟨w.heap.size, 0, none⟩) 0 [] := by
    have h := OS.madeAt (cd := cB) (base := w.heap.size) w 0 0 0 rfl (Nat.le_refl _) (by unfold maxLen; omega) (Nat.le_refl _) rfl
    rw [show madeCells #[cB.zero] 0 = #[] by simp [madeCells]] at h
    exact h
  have HO := Lib.hid ho; clear ho
  go_wp2_with (at_builtin; refine wpList_appB _ rfl (.tmp 3) (.tmp 4) rfl HO.out rfl rfl (HR.out.alloc (Nat.le_refl _) _) rfl HN.out (by omega) (by simp) ?_; intro A3 c3 w3 hown3 hgrow hat; have hw3 := bapp (bal (b0 w) _) HO.out hgrow; have HO3 := Lib.hid hown3; clear hown3 hgrow hat)
  exact bodyPost_ret (results_tmp rfl _ _ _) rfl ⟨A3, c3, rfl, HO3.out, hw3⟩

/-- a block out of a few bytes -/
def blockC (b : List UInt8) (k : Nat) : UInt8 := if b.length > 0 then UInt8.ofNat (k / 7) ^^^ b.getD (k % b.length) 0 else UInt8.ofNat (k / 7)
def blockB (b : List UInt8) : List UInt8 := (List.range 1024).map (blockC b)
theorem blockB_len (b : List UInt8) : (blockB b).length = 1024 := by simp [blockB]
theorem blockB_at (b : List UInt8) (k : Nat) (h : k < 1024) : (blockB b)[k]? = some (blockC b k) := by simp [blockB, h]

set_option maxHeartbeats 2000000 in
theorem block_any (A : Option Addr) (c n : Nat) (l : List UInt8) (w : World) (hn : l.length = n) (hm : n ≤ 140737488355328) (hr : RS cB w w.heap.size A l) :
    Calls Try.prog 40 #[.slice A n c] w fun e w' => ∃ A' c', e = .returned (.slice A' 1024 c') ∧ OS cB w' w.heap.size A' c' (blockB l) ∧ Below w.heap.size w w' := by
  have HN := Lib.hid hn; have HR := Lib.hid hr; clear hn hr
  have HBL := Lib.hid (blockB_len l)
  go_enter Try.func40, Try.ntmps40
  go_wp2_with fail
  go_loopw [3, 4] (fun o i wr => ∃ (k : Nat) (A : Option Addr) (c : Nat), k ≤ 1024 ∧ i = .int .i64 k ∧ o = .slice A k c ∧ OS cB wr w.heap.size A c ((blockB l).take k) ∧ Below w.heap.size w wr) (fun _ i _ => 1024 - (intOf i).toNat)
  case atStart => exact ⟨0, none, 0, by omega, rfl, rfl, OS.nil _ _ _ rfl, b0 _⟩
  case round =>
    obtain ⟨k, A2, c2, hk, rfl, rfl, hos, hbw⟩ := hrel
    have HO := Lib.hid hos; clear hos
    by_cases hlt : k < 1024
    · obtain ⟨d, hd⟩ : ∃ d, d = UInt8.ofNat (k / 7) := ⟨_, rfl⟩
      have q0 : byt d = ((k / 7 : Nat) : Int) := by rw [hd, byt_ofNat _ (by omega)]
      have q1 : (k : Int).tdiv 7 = byt d := by rw [q0]; rfl
      have q2 : (k : Int) / 7 = byt d := by rw [q0]; rfl
      obtain ⟨r1, r2⟩ := byt_range d
      have hbk := blockB_at l k hlt
      have hlen : Hid (((blockB l).take k).length = k) := by show _ = _; rw [List.length_take, HBL.out]; omega
      have HD := Lib.hid hd; have HBK := Lib.hid hbk; clear q0 hd hbk
      have hkd : decide ((k : Int) < 1024) = true := by simp; omega
      by_cases h0 : 0 < n
      · obtain ⟨r, hr⟩ : ∃ r, r = k % n := ⟨_, rfl⟩
        have hrn : r < n := by rw [hr]; exact Nat.mod_lt _ h0
        have q3 : (k : Int).tmod n = (r : Int) := by rw [hr]; rfl
        have q4 : (k : Int) % n = (r : Int) := by rw [hr]; rfl
        have q5 : (r : Int) < n := by omega
        have q6 : ((0 : Int) < n) = True := by simp; omega
        obtain ⟨ad, x, rfl, -, ex, gx⟩ := (HR.out.below hbw).at_ (k := r) (by rw [HN.out]; exact hrn)
        change wr.cell? (ad.add r) = some (.int .u8 (byt x)) at gx
        have hxor := byt_xor d x
        have hn0 : ¬ (n : Int) = 0 := by omega
        have hx : blockC l k = d ^^^ x := by
          unfold blockC
          rw [if_pos (by rw [HN.out]; exact h0), HN.out, ← hr, ← HD.out, List.getD_eq_getElem?_getD, ex]; rfl
        have HXX := Lib.hid hx; have EX := Lib.hid ex; clear hx ex hr
        go_wp2_with (at_builtin; refine wpList_appB1 _ rfl (.tmp 25) (.tmp 27) rfl (HO.out.alloc _) rfl hlen.out rfl (cnew _ _ _ rfl) (d ^^^ x) rfl (by omega) (by have := hbw.size; simp; omega) ?_; intro A3 c3 w3 hown3 hgrow hat; have hw3 := bapp (bal hbw _) (HO.out.alloc _) hgrow; have HO3 := Lib.hid hown3; clear hown3 hgrow hat)
        go_roundw
        case rel =>
          refine ⟨k + 1, A3, c3, by omega, by go_num, rfl, ?_, hw3⟩
          rw [List.take_add_one, HBK.out, HXX.out]
          exact HO3.out
        case measure => simp [intOf]; omega
      · obtain rfl : n = 0 := by omega
        have hx : blockC l k = d := by
          unfold blockC
          rw [if_neg (by rw [HN.out]; omega), ← HD.out]
        have HXX := Lib.hid hx; clear hx
        go_wp2_with (at_builtin; refine wpList_appB1 _ rfl (.tmp 25) (.tmp 27) rfl (HO.out.alloc _) rfl hlen.out rfl (cnew _ _ _ rfl) d rfl (by omega) (by have := hbw.size; simp; omega) ?_; intro A3 c3 w3 hown3 hgrow hat; have hw3 := bapp (bal hbw _) (HO.out.alloc _) hgrow; have HO3 := Lib.hid hown3; clear hown3 hgrow hat)
        go_roundw
        case rel =>
          refine ⟨k + 1, A3, c3, by omega, by go_num, rfl, ?_, hw3⟩
          rw [List.take_add_one, HBK.out, HXX.out]
          exact HO3.out
        case measure => simp [intOf]; omega
    · obtain rfl : k = 1024 := by omega
      go_wp2_with fail
      have h1 := HO.out
      rw [List.take_of_length_le (Nat.le_of_eq HBL.out)] at h1
      exact bodyPost_ret (results_tmp rfl _ _ _) rfl ⟨_, _, rfl, h1, hbw⟩
end Go.Proofs.Ytnkngaicegcejaa

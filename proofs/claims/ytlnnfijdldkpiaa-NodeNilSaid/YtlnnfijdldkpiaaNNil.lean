/-
  NodeNil's law. Contracts alone; no statement is claimed here.
-/
import Derived.Test.YtlnnfijdldkpiaaAwk5
namespace Go.Proofs.Ytlnnfijdldkpiaa
open Go.RowKit
attribute [local go_sem] pureUpon Ords.of

set_option maxRecDepth 20000 in
set_option maxHeartbeats 2000000 in
theorem nodeNil_law (A : Option Addr) (n c : Nat) (m : Int) (w : World) : Calls Try.prog 7 #[.slice A n c, .int .i64 m] w fun e w' => e = .returned (.bool true) ∧ Below w.heap.size w w' := by
  have ha := awake5_any w
  have HA := Lib.hid ha; clear ha
  go_enter Try.func7, Try.ntmps7
  go_wp2_with (go_at_call 12; refine HA.out.mono ?_; rintro e1 w1 ⟨rfl, hb1⟩; have HB1 := Lib.hid hb1; clear hb1)
  have HB2 := Lib.hid (bal (bal HB1.out (.cells #[.int .i64 0, .int .i64 0, .slice none 0 0, .slice none 0 0, .bool false, .int .u64 0, .nilIface] 51)) (.cells #[.pointer none, .pointer (some ⟨w1.heap.size, 0, none⟩)] 36))
  go_loop [17] (fun i => ∃ k : Nat, k ≤ 2 ∧ i = .int .i64 k) (fun i => 2 - (intOf i).toNat)
  case atStart => exact ⟨0, Nat.zero_le _, rfl⟩
  case round =>
    obtain ⟨k, hk, rfl⟩ := hrel
    have hk2 : k = 0 ∨ k = 1 ∨ k = 2 := by omega
    clear hk
    rcases hk2 with rfl | rfl | rfl
    · have hno := none_nil ((w1.alloc (.cells #[.int .i64 0, .int .i64 0, .slice none 0 0, .slice none 0 0, .bool false, .int .u64 0, .nilIface] 51)).alloc (.cells #[.pointer none, .pointer (some ⟨w1.heap.size, 0, none⟩)] 36))
      have h1 := nilOut (.pointer none) m _ hno
      have h2 := nilSum (.pointer none) _ hno
      have h3 := nilWritten (.pointer none) _ hno
      have h4 := nilCopy (.pointer none) _ hno
      have h5 := nilSave (.pointer none) _ hno
      have h6 := nilWrite (.pointer none) (.slice A n c) _ hno
      have h7 := nilLast (.pointer none) (.bool true) _ hno
      have h8 := nilReset (.pointer none) _ hno
      have H1 := Lib.hid h1; have H2 := Lib.hid h2; have H3 := Lib.hid h3; have H4 := Lib.hid h4; have H5 := Lib.hid h5; have H6 := Lib.hid h6; have H7 := Lib.hid h7; have H8 := Lib.hid h8; clear h1 h2 h3 h4 h5 h6 h7 h8 hno
      go_wp2_with (first
        | (go_at_call 23; refine H1.out.mono ?_; rintro e0 w0 ⟨rfl, rfl⟩)
        | (go_at_call 18; refine H2.out.mono ?_; rintro e0 w0 ⟨rfl, rfl⟩)
        | (go_at_call 19; refine H3.out.mono ?_; rintro e0 w0 ⟨rfl, rfl⟩)
        | (go_at_call 24; refine H4.out.mono ?_; rintro e0 w0 ⟨rfl, rfl⟩)
        | (go_at_call 22; refine H5.out.mono ?_; rintro e0 w0 ⟨rfl, rfl⟩)
        | (go_at_call 25; refine H6.out.mono ?_; rintro e0 w0 ⟨rfl, rfl⟩)
        | (go_at_call 26; refine H7.out.mono ?_; rintro e0 w0 ⟨rfl, rfl⟩)
        | (go_at_call 27; refine H8.out.mono ?_; rintro e0 w0 ⟨rfl, rfl⟩))
      go_round
      case rel => exact ⟨1, by decide, rfl⟩
      case measure => simp [intOf]
    · have hno := none_zero w1.heap.size ((w1.alloc (.cells #[.int .i64 0, .int .i64 0, .slice none 0 0, .slice none 0 0, .bool false, .int .u64 0, .nilIface] 51)).alloc (.cells #[.pointer none, .pointer (some ⟨w1.heap.size, 0, none⟩)] 36)) (by simp)
      have h1 := nilOut (.pointer (some ⟨w1.heap.size, 0, none⟩)) m _ hno
      have h2 := nilSum (.pointer (some ⟨w1.heap.size, 0, none⟩)) _ hno
      have h3 := nilWritten (.pointer (some ⟨w1.heap.size, 0, none⟩)) _ hno
      have h4 := nilCopy (.pointer (some ⟨w1.heap.size, 0, none⟩)) _ hno
      have h5 := nilSave (.pointer (some ⟨w1.heap.size, 0, none⟩)) _ hno
      have h6 := nilWrite (.pointer (some ⟨w1.heap.size, 0, none⟩)) (.slice A n c) _ hno
      have h7 := nilLast (.pointer (some ⟨w1.heap.size, 0, none⟩)) (.bool true) _ hno
      have h8 := nilReset (.pointer (some ⟨w1.heap.size, 0, none⟩)) _ hno
      have H1 := Lib.hid h1; have H2 := Lib.hid h2; have H3 := Lib.hid h3; have H4 := Lib.hid h4; have H5 := Lib.hid h5; have H6 := Lib.hid h6; have H7 := Lib.hid h7; have H8 := Lib.hid h8; clear h1 h2 h3 h4 h5 h6 h7 h8 hno
      go_wp2_with (first
        | (go_at_call 23; refine H1.out.mono ?_; rintro e0 w0 ⟨rfl, rfl⟩)
        | (go_at_call 18; refine H2.out.mono ?_; rintro e0 w0 ⟨rfl, rfl⟩)
        | (go_at_call 19; refine H3.out.mono ?_; rintro e0 w0 ⟨rfl, rfl⟩)
        | (go_at_call 24; refine H4.out.mono ?_; rintro e0 w0 ⟨rfl, rfl⟩)
        | (go_at_call 22; refine H5.out.mono ?_; rintro e0 w0 ⟨rfl, rfl⟩)
        | (go_at_call 25; refine H6.out.mono ?_; rintro e0 w0 ⟨rfl, rfl⟩)
        | (go_at_call 26; refine H7.out.mono ?_; rintro e0 w0 ⟨rfl, rfl⟩)
        | (go_at_call 27; refine H8.out.mono ?_; rintro e0 w0 ⟨rfl, rfl⟩))
      go_round
      case rel => exact ⟨2, by decide, rfl⟩
      case measure => simp [intOf]
    · go_wp2_with fail
      exact bodyPost_ret (results_tmp rfl _ _ _) rfl ⟨rfl, HB2.out⟩
end Go.Proofs.Ytlnnfijdldkpiaa

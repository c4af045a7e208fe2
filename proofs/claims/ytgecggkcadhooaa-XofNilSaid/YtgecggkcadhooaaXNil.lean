/-
  XofNil's law. Contracts alone; no statement is claimed here.
-/
import Derived.Test.YtgecggkcadhooaaXRtA
namespace Go.Proofs.Ytgecggkcadhooaa
open Go.RowKit
attribute [local go_sem] pureUpon Ords.of

set_option maxRecDepth 20000 in
theorem xnone_nil (w : World) : Calls Try.prog 41 #[.pointer none] w fun r w' => r = .returned (.bool true) ∧ w = w' := by
  go_enter Try.func41, Try.ntmps41
  go_wp2_with fail
  exact bodyPost_ret (results_tmp rfl _ _ _) rfl ⟨rfl, rfl⟩
set_option maxRecDepth 20000 in
theorem xnone_zero (g : Nat) (w : World) (h : w.cell? ⟨g, 76, none⟩ = some .nilFunc) : Calls Try.prog 41 #[.pointer (some ⟨g, 0, none⟩)] w fun r w' => r = .returned (.bool true) ∧ w = w' := by
  have hbo : ∀ W, Sem.run Try.prog (Go.binOp .eql 33 .nilFunc .nilFunc) W = .ok (.bool true) W := by intro W; rfl
  go_enter Try.func41, Try.ntmps41
  go_wp2_with fail
  exact bodyPost_ret (results_tmp rfl _ _ _) rfl ⟨rfl, rfl⟩
set_option maxRecDepth 20000 in
  theorem xnilRead (v : Value) (m : Int)(w : World) (hn : Calls Try.prog 41 #[v] w fun r w' => r = .returned (.bool true) ∧ w = w') :
      Calls Try.prog 13 #[v, .int .i64 m] w fun r w' => r = .returned (.tuple #[.slice none 0 0, .int .i64 7]) ∧ w = w' := by
    have HN := Lib.hid hn; clear hn
    go_enter Try.func13, Try.ntmps13
    go_wp2_with (go_at_call 41; refine HN.out.mono ?_; rintro e0 w0 ⟨rfl, rfl⟩)
    first | exact bodyPost_ret (results_tmp rfl _ _ _) rfl ⟨rfl, rfl⟩ | exact bodyPost_ret (results_tmp2 rfl _ _ _) rfl ⟨rfl, rfl⟩
set_option maxRecDepth 20000 in
    theorem xnilSkip (v : Value) (m : Int)(w : World) (hn : Calls Try.prog 41 #[v] w fun r w' => r = .returned (.bool true) ∧ w = w') :
        Calls Try.prog 17 #[v, .int .u64 m] w fun r w' => r = .returned (.tuple #[.int .u64 0, .int .i64 7]) ∧ w = w' := by
      have HN := Lib.hid hn; clear hn
      go_enter Try.func17, Try.ntmps17
      go_wp2_with (go_at_call 41; refine HN.out.mono ?_; rintro e0 w0 ⟨rfl, rfl⟩)
      first | exact bodyPost_ret (results_tmp rfl _ _ _) rfl ⟨rfl, rfl⟩ | exact bodyPost_ret (results_tmp2 rfl _ _ _) rfl ⟨rfl, rfl⟩
set_option maxRecDepth 20000 in
      theorem xnilAt (v : Value) (w : World) (hn : Calls Try.prog 41 #[v] w fun r w' => r = .returned (.bool true) ∧ w = w') :
          Calls Try.prog 16 #[v] w fun r w' => r = .returned (.int .u64 0) ∧ w = w' := by
        have HN := Lib.hid hn; clear hn
        go_enter Try.func16, Try.ntmps16
        go_wp2_with (go_at_call 41; refine HN.out.mono ?_; rintro e0 w0 ⟨rfl, rfl⟩)
        first | exact bodyPost_ret (results_tmp rfl _ _ _) rfl ⟨rfl, rfl⟩ | exact bodyPost_ret (results_tmp2 rfl _ _ _) rfl ⟨rfl, rfl⟩
set_option maxRecDepth 20000 in
        theorem xnilLeft (v : Value) (w : World) (hn : Calls Try.prog 41 #[v] w fun r w' => r = .returned (.bool true) ∧ w = w') :
            Calls Try.prog 15 #[v] w fun r w' => r = .returned (.int .u64 0) ∧ w = w' := by
          have HN := Lib.hid hn; clear hn
          go_enter Try.func15, Try.ntmps15
          go_wp2_with (go_at_call 41; refine HN.out.mono ?_; rintro e0 w0 ⟨rfl, rfl⟩)
          first | exact bodyPost_ret (results_tmp rfl _ _ _) rfl ⟨rfl, rfl⟩ | exact bodyPost_ret (results_tmp2 rfl _ _ _) rfl ⟨rfl, rfl⟩
set_option maxRecDepth 20000 in
          theorem xnilCopy (v : Value) (w : World) (hn : Calls Try.prog 41 #[v] w fun r w' => r = .returned (.bool true) ∧ w = w') :
              Calls Try.prog 18 #[v] w fun r w' => r = .returned (.pointer none) ∧ w = w' := by
            have HN := Lib.hid hn; clear hn
            go_enter Try.func18, Try.ntmps18
            go_wp2_with (go_at_call 41; refine HN.out.mono ?_; rintro e0 w0 ⟨rfl, rfl⟩)
            first | exact bodyPost_ret (results_tmp rfl _ _ _) rfl ⟨rfl, rfl⟩ | exact bodyPost_ret (results_tmp2 rfl _ _ _) rfl ⟨rfl, rfl⟩
set_option maxRecDepth 20000 in
            theorem xnilWrite (v : Value) (b : Value)(w : World) (hn : Calls Try.prog 41 #[v] w fun r w' => r = .returned (.bool true) ∧ w = w') :
                Calls Try.prog 12 #[v, b] w fun r w' => r = .returned (.int .i64 7) ∧ w = w' := by
              have HN := Lib.hid hn; clear hn
              go_enter Try.func12, Try.ntmps12
              go_wp2_with (go_at_call 41; refine HN.out.mono ?_; rintro e0 w0 ⟨rfl, rfl⟩)
              first | exact bodyPost_ret (results_tmp rfl _ _ _) rfl ⟨rfl, rfl⟩ | exact bodyPost_ret (results_tmp2 rfl _ _ _) rfl ⟨rfl, rfl⟩
set_option maxRecDepth 20000 in
              theorem xnilReset (v : Value) (w : World) (hn : Calls Try.prog 41 #[v] w fun r w' => r = .returned (.bool true) ∧ w = w') :
                  Calls Try.prog 19 #[v] w fun r w' => r = .returned (.int .i64 7) ∧ w = w' := by
                have HN := Lib.hid hn; clear hn
                go_enter Try.func19, Try.ntmps19
                go_wp2_with (go_at_call 41; refine HN.out.mono ?_; rintro e0 w0 ⟨rfl, rfl⟩)
                first | exact bodyPost_ret (results_tmp rfl _ _ _) rfl ⟨rfl, rfl⟩ | exact bodyPost_ret (results_tmp2 rfl _ _ _) rfl ⟨rfl, rfl⟩
set_option maxRecDepth 20000 in
set_option maxHeartbeats 2000000 in
theorem xofNil_law (A : Option Addr) (n c : Nat) (m y : Int) (w : World) : Calls Try.prog 5 #[.slice A n c, .int .i64 m, .int .u64 y] w fun e w' => e = .returned (.bool true) ∧ Below w.heap.size w w' := by
  have ha := awake7_any w
  have HA := Lib.hid ha; clear ha
  go_enter Try.func5, Try.ntmps5
  go_wp2_with (go_at_call 9; refine HA.out.mono ?_; rintro e1 w1 ⟨rfl, hb1⟩; have HB1 := Lib.hid hb1; clear hb1)
  have HB2 := Lib.hid (bal (bal HB1.out (.cells Try.zeroCells48 48)) (.cells #[.pointer none, .pointer (some ⟨w1.heap.size, 0, none⟩)] 25))
  go_loop [21] (fun i => ∃ k : Nat, k ≤ 2 ∧ i = .int .i64 k) (fun i => 2 - (intOf i).toNat)
  case atStart => exact ⟨0, Nat.zero_le _, rfl⟩
  case round =>
    obtain ⟨k, hk, rfl⟩ := hrel
    have hk2 : k = 0 ∨ k = 1 ∨ k = 2 := by omega
    clear hk
    rcases hk2 with rfl | rfl | rfl
    · have hno := xnone_nil ((w1.alloc (.cells Try.zeroCells48 48)).alloc (.cells #[.pointer none, .pointer (some ⟨w1.heap.size, 0, none⟩)] 25))
      have h1 := xnilRead (.pointer none) m _ hno
      have h2 := xnilSkip (.pointer none) y _ hno
      have h3 := xnilAt (.pointer none) _ hno
      have h4 := xnilLeft (.pointer none) _ hno
      have h5 := xnilCopy (.pointer none) _ hno
      have h6 := xnilWrite (.pointer none) (.slice A n c) _ hno
      have h7 := xnilReset (.pointer none) _ hno
      have H1 := Lib.hid h1; have H2 := Lib.hid h2; have H3 := Lib.hid h3; have H4 := Lib.hid h4; have H5 := Lib.hid h5; have H6 := Lib.hid h6; have H7 := Lib.hid h7; clear h1 h2 h3 h4 h5 h6 h7 hno
      go_wp2_with (first
        | (go_at_call 13; refine H1.out.mono ?_; rintro e0 w0 ⟨rfl, rfl⟩)
        | (go_at_call 17; refine H2.out.mono ?_; rintro e0 w0 ⟨rfl, rfl⟩)
        | (go_at_call 16; refine H3.out.mono ?_; rintro e0 w0 ⟨rfl, rfl⟩)
        | (go_at_call 15; refine H4.out.mono ?_; rintro e0 w0 ⟨rfl, rfl⟩)
        | (go_at_call 18; refine H5.out.mono ?_; rintro e0 w0 ⟨rfl, rfl⟩)
        | (go_at_call 12; refine H6.out.mono ?_; rintro e0 w0 ⟨rfl, rfl⟩)
        | (go_at_call 19; refine H7.out.mono ?_; rintro e0 w0 ⟨rfl, rfl⟩))
      go_round
      case rel => exact ⟨1, by decide, rfl⟩
      case measure => simp [intOf]
    · have hno := xnone_zero w1.heap.size ((w1.alloc (.cells Try.zeroCells48 48)).alloc (.cells #[.pointer none, .pointer (some ⟨w1.heap.size, 0, none⟩)] 25)) ((((Blk.new w1 _ _).alloc _).cell 76).trans XC.zero.c76)
      have h1 := xnilRead (.pointer (some ⟨w1.heap.size, 0, none⟩)) m _ hno
      have h2 := xnilSkip (.pointer (some ⟨w1.heap.size, 0, none⟩)) y _ hno
      have h3 := xnilAt (.pointer (some ⟨w1.heap.size, 0, none⟩)) _ hno
      have h4 := xnilLeft (.pointer (some ⟨w1.heap.size, 0, none⟩)) _ hno
      have h5 := xnilCopy (.pointer (some ⟨w1.heap.size, 0, none⟩)) _ hno
      have h6 := xnilWrite (.pointer (some ⟨w1.heap.size, 0, none⟩)) (.slice A n c) _ hno
      have h7 := xnilReset (.pointer (some ⟨w1.heap.size, 0, none⟩)) _ hno
      have H1 := Lib.hid h1; have H2 := Lib.hid h2; have H3 := Lib.hid h3; have H4 := Lib.hid h4; have H5 := Lib.hid h5; have H6 := Lib.hid h6; have H7 := Lib.hid h7; clear h1 h2 h3 h4 h5 h6 h7 hno
      go_wp2_with (first
        | (go_at_call 13; refine H1.out.mono ?_; rintro e0 w0 ⟨rfl, rfl⟩)
        | (go_at_call 17; refine H2.out.mono ?_; rintro e0 w0 ⟨rfl, rfl⟩)
        | (go_at_call 16; refine H3.out.mono ?_; rintro e0 w0 ⟨rfl, rfl⟩)
        | (go_at_call 15; refine H4.out.mono ?_; rintro e0 w0 ⟨rfl, rfl⟩)
        | (go_at_call 18; refine H5.out.mono ?_; rintro e0 w0 ⟨rfl, rfl⟩)
        | (go_at_call 12; refine H6.out.mono ?_; rintro e0 w0 ⟨rfl, rfl⟩)
        | (go_at_call 19; refine H7.out.mono ?_; rintro e0 w0 ⟨rfl, rfl⟩))
      go_round
      case rel => exact ⟨2, by decide, rfl⟩
      case measure => simp [intOf]
    · go_wp2_with fail
      exact bodyPost_ret (results_tmp rfl _ _ _) rfl ⟨rfl, HB2.out⟩
end Go.Proofs.Ytgecggkcadhooaa

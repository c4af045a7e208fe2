/-
  LaneZero's law. Contracts alone; no statement is claimed here.
-/
import Derived.Test.YtjhkeaofikckaaaCoreA
namespace Go.Proofs.Ytjhkeaofikckaaa
open Go.RowKit
attribute [local go_sem] pureUpon Ords.of

theorem lnone_nil (w : World) : Calls Try.prog 11 #[.pointer none] w fun r w' => r = .returned (.bool true) ∧ w = w' := by
  go_enter Try.func11, Try.ntmps11
  go_wp2_with fail
  exact bodyPost_ret (results_tmp rfl _ _ _) rfl ⟨rfl, rfl⟩
theorem lnone_zero (g : Nat) (w : World) (h : w.cell? ⟨g, 0, none⟩ = some (.int .i64 0)) : Calls Try.prog 11 #[.pointer (some ⟨g, 0, none⟩)] w fun r w' => r = .returned (.bool true) ∧ w = w' := by
  go_enter Try.func11, Try.ntmps11
  go_wp2_with fail
  exact bodyPost_ret (results_tmp rfl _ _ _) rfl ⟨rfl, rfl⟩
theorem lnilTaken (v : Value) (w : World) (hn : Calls Try.prog 11 #[v] w fun r w' => r = .returned (.bool true) ∧ w = w') :
      Calls Try.prog 5 #[v] w fun r w' => r = .returned (.tuple #[.int .u64 0, .int .i64 0]) ∧ w = w' := by
    have HN := Lib.hid hn; clear hn
    go_enter Try.func5, Try.ntmps5
    go_wp2_with (go_at_call 11; refine HN.out.mono ?_; rintro e0 w0 ⟨rfl, rfl⟩)
    first | exact bodyPost_ret (results_tmp rfl _ _ _) rfl ⟨rfl, rfl⟩ | exact bodyPost_ret (results_tmp2 rfl _ _ _) rfl ⟨rfl, rfl⟩
theorem lnilWrite (v : Value) (b : Value)(w : World) (hn : Calls Try.prog 11 #[v] w fun r w' => r = .returned (.bool true) ∧ w = w') :
        Calls Try.prog 6 #[v, b] w fun r w' => r = .returned (.int .i64 7) ∧ w = w' := by
      have HN := Lib.hid hn; clear hn
      go_enter Try.func6, Try.ntmps6
      go_wp2_with (go_at_call 11; refine HN.out.mono ?_; rintro e0 w0 ⟨rfl, rfl⟩)
      first | exact bodyPost_ret (results_tmp rfl _ _ _) rfl ⟨rfl, rfl⟩ | exact bodyPost_ret (results_tmp2 rfl _ _ _) rfl ⟨rfl, rfl⟩
theorem lnilReset (v : Value) (w : World) (hn : Calls Try.prog 11 #[v] w fun r w' => r = .returned (.bool true) ∧ w = w') :
          Calls Try.prog 7 #[v] w fun r w' => r = .returned (.int .i64 7) ∧ w = w' := by
        have HN := Lib.hid hn; clear hn
        go_enter Try.func7, Try.ntmps7
        go_wp2_with (go_at_call 11; refine HN.out.mono ?_; rintro e0 w0 ⟨rfl, rfl⟩)
        first | exact bodyPost_ret (results_tmp rfl _ _ _) rfl ⟨rfl, rfl⟩ | exact bodyPost_ret (results_tmp2 rfl _ _ _) rfl ⟨rfl, rfl⟩
theorem lnilSum (v : Value) (w : World) (hn : Calls Try.prog 11 #[v] w fun r w' => r = .returned (.bool true) ∧ w = w') :
            Calls Try.prog 8 #[v] w fun r w' => r = .returned (.slice none 0 0) ∧ w = w' := by
          have HN := Lib.hid hn; clear hn
          go_enter Try.func8, Try.ntmps8
          go_wp2_with (go_at_call 11; refine HN.out.mono ?_; rintro e0 w0 ⟨rfl, rfl⟩)
          first | exact bodyPost_ret (results_tmp rfl _ _ _) rfl ⟨rfl, rfl⟩ | exact bodyPost_ret (results_tmp2 rfl _ _ _) rfl ⟨rfl, rfl⟩
theorem lnilFork (v : Value) (w : World) (hn : Calls Try.prog 11 #[v] w fun r w' => r = .returned (.bool true) ∧ w = w') :
              Calls Try.prog 9 #[v] w fun r w' => r = .returned (.pointer none) ∧ w = w' := by
            have HN := Lib.hid hn; clear hn
            go_enter Try.func9, Try.ntmps9
            go_wp2_with (go_at_call 11; refine HN.out.mono ?_; rintro e0 w0 ⟨rfl, rfl⟩)
            first | exact bodyPost_ret (results_tmp rfl _ _ _) rfl ⟨rfl, rfl⟩ | exact bodyPost_ret (results_tmp2 rfl _ _ _) rfl ⟨rfl, rfl⟩
def zeroHasher : Array Value := #[.int .i64 0, .int .i64 0, .int .i64 0, .int .i64 0, .int .i64 0, .slice none 0 0, .slice none 0 0, .slice none 0 0, .slice none 0 0, .int .u64 0]
set_option maxRecDepth 20000 in
set_option maxHeartbeats 2000000 in
theorem laneZero_law (b : Value) (w : World) : Calls Try.prog 3 #[b] w fun e w' => e = .returned (.bool true) ∧ Below w.heap.size w w' := by
  obtain ⟨W, hW⟩ : ∃ W, W = w.alloc (.cells zeroHasher 32) := ⟨_, rfl⟩
  have h0 := lnone_nil W
  have h1 := lnone_zero w.heap.size W (by rw [hW]; exact (Blk.new w 32 zeroHasher).cell 0)
  have a1 := lnilTaken (.pointer none) W h0
  have a2 := lnilTaken (.pointer (some ⟨w.heap.size, 0, none⟩)) W h1
  have b1 := lnilWrite (.pointer none) b W h0
  have b2 := lnilWrite (.pointer (some ⟨w.heap.size, 0, none⟩)) b W h1
  have c1 := lnilReset (.pointer none) W h0
  have c2 := lnilReset (.pointer (some ⟨w.heap.size, 0, none⟩)) W h1
  have d1 := lnilSum (.pointer none) W h0
  have d2 := lnilSum (.pointer (some ⟨w.heap.size, 0, none⟩)) W h1
  have e1 := lnilFork (.pointer none) W h0
  have e2 := lnilFork (.pointer (some ⟨w.heap.size, 0, none⟩)) W h1
  rw [hW] at a1 a2 b1 b2 c1 c2 d1 d2 e1 e2
  unfold zeroHasher at a1 a2 b1 b2 c1 c2 d1 d2 e1 e2
  have A1 := Lib.hid a1; have A2 := Lib.hid a2; have B1 := Lib.hid b1; have B2 := Lib.hid b2; have C1 := Lib.hid c1; have C2 := Lib.hid c2; have D1 := Lib.hid d1; have D2 := Lib.hid d2; have E1 := Lib.hid e1; have E2 := Lib.hid e2
  clear a1 a2 b1 b2 c1 c2 d1 d2 e1 e2 h0 h1 hW
  go_enter Try.func3, Try.ntmps3
  go_wp2_with fail
  refine A1.out.mono ?_; rintro r0 w0 ⟨rfl, rfl⟩
  go_wp2_with fail
  refine A2.out.mono ?_; rintro r0 w0 ⟨rfl, rfl⟩
  go_wp2_with fail
  refine B1.out.mono ?_; rintro r0 w0 ⟨rfl, rfl⟩
  go_wp2_with fail
  refine B2.out.mono ?_; rintro r0 w0 ⟨rfl, rfl⟩
  go_wp2_with fail
  refine C1.out.mono ?_; rintro r0 w0 ⟨rfl, rfl⟩
  go_wp2_with fail
  refine C2.out.mono ?_; rintro r0 w0 ⟨rfl, rfl⟩
  go_wp2_with fail
  refine D1.out.mono ?_; rintro r0 w0 ⟨rfl, rfl⟩
  go_wp2_with fail
  refine D2.out.mono ?_; rintro r0 w0 ⟨rfl, rfl⟩
  go_wp2_with fail
  refine E1.out.mono ?_; rintro r0 w0 ⟨rfl, rfl⟩
  go_wp2_with fail
  refine E2.out.mono ?_; rintro r0 w0 ⟨rfl, rfl⟩
  go_wp2_with fail
  exact bodyPost_ret (results_tmp rfl _ _ _) rfl ⟨rfl, bal (b0 w) _⟩
end Go.Proofs.Ytjhkeaofikckaaa

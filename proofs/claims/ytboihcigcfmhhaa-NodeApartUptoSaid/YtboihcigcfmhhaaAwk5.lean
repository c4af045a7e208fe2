/-
  awake of layer 5. Contracts alone; no statement is claimed here.
-/
import Derived.Test.YtboihcigcfmhhaaKnow
namespace Go.Proofs.Ytboihcigcfmhhaa
open Go.RowKit
attribute [local go_sem] pureUpon Ords.of

set_option maxRecDepth 20000 in
set_option maxHeartbeats 2000000 in
theorem awake5_any (w : World) : Calls Try.prog 4 #[] w fun e w' => e = .returned (.bool true) ∧ Below w.heap.size w w' := by
  have hnew := fun W => new_any false 32 (plainP 32 0) [] [] [] none 0 0 W (plainP_chk false 32 0 ⟨by decide, by decide⟩ (Nat.zero_le _)) (plainP_fit _ _) rfl rfl rfl (RS.nil _) (RS.nil _) rfl (.inl rfl) (RS.nil _)
  change ∀ W, Calls Try.prog _ #[.int .i64 2, .agg #[.int .i64 32, .int .i64 0, .int .i64 1, .int .i64 1, .int .u32 0, .int .u64 0, .int .u32 0, .int .i64 0, .int .i64 0, .slice none 0 0, .slice none 0 0], .slice none 0 0] W _ at hnew
  have hfull : (startK false (encL false (plainP 32 0) [] []) []).full = 32 := startK_full _ _ _
  have hsum := fun q F W h => sumN_any q 32 false false (encL false (plainP 32 0) [] []) [] (0 + UInt64.ofNat 3) ((startK false (encL false (plainP 32 0) [] []) []).feed abc) F W h (by rw [Eng.feed_full, hfull]; exact Nat.le_refl _)
  change ∀ q F W h, Calls Try.prog _ _ W (fun r w' => ∃ A' c', r = .returned (.slice A' 32 32) ∧ OS cB w' W.heap.size A' c' ((hashL false (plainP (32 : Nat) 0) [] [] [] false abc).take 32) ∧ _) at hsum
  have xs := fun A c W hr => hexAbc_any false 32 (by decide) A c _ known_small W hr
  clear hfull
  generalize (hashL false (plainP (32 : Nat) 0) [] [] [] false abc).take 32 = LS at *
  generalize startK false (encL false (plainP 32 0) [] []) [] = e0 at *
  generalize encL false (plainP 32 0) [] [] = X at *
  have HNEW := Lib.hid hnew; have HSUM := Lib.hid hsum; have XS := Lib.hid xs; clear hnew hsum xs
  have kc := run_literal
  go_enter Try.func4, Try.ntmps4
  go_wp2_with fail
  refine (HNEW.out _).mono ?_
  rintro e1 w1 ⟨q, F, rfl, hN1, hF1, hb1⟩
  have HN1 := Lib.hid hN1; have HF1 := Lib.hid hF1; have HB1 := Lib.hid hb1; clear hN1 hF1 hb1
  go_wp2_with fail
  refine (writeN_any q 32 false false X [] 0 e0 F (some ⟨w1.heap.size, 0, none⟩) 3 3 abc _ (HN1.out.below (bal (b0 w1) _)) rfl (by decide) (by decide) (RS.marked w1 abc _ (3, 4) _ rfl rfl) (fun _ a ha h => by cases ha; exact Nat.lt_irrefl _ (HN1.out.lt _ h))).mono ?_
  rintro e2 w2 ⟨rfl, F2, hN2, hF2, hB2⟩
  have hW := bcall HB1.out (bal (b0 w1) (.cells #[.int .u8 97, .int .u8 98, .int .u8 99] 5 (3, 4)))
  have HN2 := Lib.hid hN2; have HB2 := Lib.hid (hW.trans (hB2.toBelow (B := w.heap.size) hW.size HF1.out)); clear hN2 hF2 hB2 hW
  go_wp2_with fail
  refine (HSUM.out q F2 _ HN2.out).mono ?_
  rintro e3 w3 ⟨A3, c3, rfl, ho3, hb3⟩
  have HO3 := Lib.hid ho3; have HB3 := Lib.hid (bcall HB2.out hb3); clear ho3 hb3
  go_wp2_with fail
  refine (XS.out _ _ _ HO3.out.reads).mono ?_
  rintro e4 w4 ⟨rfl, hb4⟩
  have HB4 := Lib.hid (bcall HB3.out hb4); clear hb4
  go_wp2_with fail
  exact bodyPost_ret (results_tmp rfl _ _ _) rfl ⟨rfl, HB4.out⟩

/-- there is no node: what its methods answer -/
theorem none_nil (w : World) : Calls Try.prog 17 #[.pointer none] w fun r w' => r = .returned (.bool true) ∧ w = w' := by
  go_enter Try.func17, Try.ntmps17
  go_wp2_with fail
  exact bodyPost_ret (results_tmp rfl _ _ _) rfl ⟨rfl, rfl⟩
theorem none_zero (g : Nat) (w : World) (h : w.cell? ⟨g, 6, none⟩ = some .nilIface) : Calls Try.prog 17 #[.pointer (some ⟨g, 0, none⟩)] w fun r w' => r = .returned (.bool true) ∧ w = w' := by
  go_enter Try.func17, Try.ntmps17
  go_wp2_with fail
  exact bodyPost_ret (results_tmp rfl _ _ _) rfl ⟨rfl, rfl⟩
theorem nilSum (v : Value) (w : World) (hn : Calls Try.prog 17 #[v] w fun r w' => r = .returned (.bool true) ∧ w = w') :
        Calls Try.prog 13 #[v] w fun r w' => r = .returned (.slice none 0 0) ∧ w = w' := by
      have HN := Lib.hid hn; clear hn
      go_enter Try.func13, Try.ntmps13
      go_wp2_with (go_at_call 17; refine HN.out.mono ?_; rintro e0 w0 ⟨rfl, rfl⟩)
      first | exact bodyPost_ret (results_tmp rfl _ _ _) rfl ⟨rfl, rfl⟩ | exact bodyPost_ret (results_tmp2 rfl _ _ _) rfl ⟨rfl, rfl⟩
theorem nilCopy (v : Value) (w : World) (hn : Calls Try.prog 17 #[v] w fun r w' => r = .returned (.bool true) ∧ w = w') :
            Calls Try.prog 7 #[v] w fun r w' => r = .returned (.pointer none) ∧ w = w' := by
          have HN := Lib.hid hn; clear hn
          go_enter Try.func7, Try.ntmps7
          go_wp2_with (go_at_call 17; refine HN.out.mono ?_; rintro e0 w0 ⟨rfl, rfl⟩)
          first | exact bodyPost_ret (results_tmp rfl _ _ _) rfl ⟨rfl, rfl⟩ | exact bodyPost_ret (results_tmp2 rfl _ _ _) rfl ⟨rfl, rfl⟩
theorem nilSave (v : Value) (w : World) (hn : Calls Try.prog 17 #[v] w fun r w' => r = .returned (.bool true) ∧ w = w') :
              Calls Try.prog 9 #[v] w fun r w' => r = .returned (.slice none 0 0) ∧ w = w' := by
            have HN := Lib.hid hn; clear hn
            go_enter Try.func9, Try.ntmps9
            go_wp2_with (go_at_call 17; refine HN.out.mono ?_; rintro e0 w0 ⟨rfl, rfl⟩)
            first | exact bodyPost_ret (results_tmp rfl _ _ _) rfl ⟨rfl, rfl⟩ | exact bodyPost_ret (results_tmp2 rfl _ _ _) rfl ⟨rfl, rfl⟩
theorem nilWrite (v : Value) (b : Value)(w : World) (hn : Calls Try.prog 17 #[v] w fun r w' => r = .returned (.bool true) ∧ w = w') :
                Calls Try.prog 10 #[v, b] w fun r w' => r = .returned (.int .i64 7) ∧ w = w' := by
              have HN := Lib.hid hn; clear hn
              go_enter Try.func10, Try.ntmps10
              go_wp2_with (go_at_call 17; refine HN.out.mono ?_; rintro e0 w0 ⟨rfl, rfl⟩)
              first | exact bodyPost_ret (results_tmp rfl _ _ _) rfl ⟨rfl, rfl⟩ | exact bodyPost_ret (results_tmp2 rfl _ _ _) rfl ⟨rfl, rfl⟩
end Go.Proofs.Ytboihcigcfmhhaa

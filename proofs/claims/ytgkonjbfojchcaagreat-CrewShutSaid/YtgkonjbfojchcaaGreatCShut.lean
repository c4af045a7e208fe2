/-
  CrewShut's law. Contracts alone; no statement is claimed here.
-/
import Derived.Test.YtgkonjbfojchcaaGreatCProg
namespace Go.Proofs.YtgkonjbfojchcaaGreat
open Go.RowKit
attribute [local go_sem] pureUpon Ords.of

/-- a crew that was made: what it holds, is it closed -/
structure CW (w : World) (g : Nat) (v : Value) (shut : Bool) : Prop where
  ex : ∃ cs, Blk w g 32 cs ∧ cs[11]? = some v ∧ cs[12]? = some (.bool true) ∧ cs[13]? = some (.bool shut)
section
variable {w w' : World} {g : Nat} {v : Value} {shut : Bool}
theorem CW.lt (h : CW w g v shut) : g < w.heap.size := by obtain ⟨cs, h1, -⟩ := h.ex; exact h1.lt
theorem CW.c11 (h : CW w g v shut) : w.cell? ⟨g, 11, none⟩ = some v := by obtain ⟨cs, h1, h2, -⟩ := h.ex; exact (h1.cell 11).trans h2
theorem CW.c12 (h : CW w g v shut) : w.cell? ⟨g, 12, none⟩ = some (.bool true) := by obtain ⟨cs, h1, -, h2, -⟩ := h.ex; exact (h1.cell 12).trans h2
theorem CW.c13 (h : CW w g v shut) : w.cell? ⟨g, 13, none⟩ = some (.bool shut) := by obtain ⟨cs, h1, -, -, h2⟩ := h.ex; exact (h1.cell 13).trans h2
theorem CW.frozen (h : CW w g v shut) (i : Nat) : w.frozen? ⟨g, i, none⟩ = false := by obtain ⟨cs, h1, -⟩ := h.ex; exact h1.frozen i
theorem CW.below (h : CW w g v shut) (hb : Below w.heap.size w w') : CW w' g v shut := by
  obtain ⟨cs, h1, h2⟩ := h.ex
  exact ⟨cs, h1.below hb h1.lt, h2⟩
theorem at_size {cs : Array Value} {i : Nat} {v : Value} (h : cs[i]? = some v) : i < cs.size := (Array.getElem?_eq_some_iff.1 h).1
theorem CW.put11 (h : CW w g v shut) (u : Value) : CW (w.setCell ⟨g, 11, none⟩ u) g u shut := by
  obtain ⟨cs, h1, h2, h3, h4⟩ := h.ex
  refine ⟨_, h1.set_ 11 u, ?_, ?_, ?_⟩
  · rw [Array.getElem?_setIfInBounds, if_pos rfl, if_pos (at_size h2)]
  · rw [Array.getElem?_setIfInBounds, if_neg (by decide)]; exact h3
  · rw [Array.getElem?_setIfInBounds, if_neg (by decide)]; exact h4
theorem CW.put13 (h : CW w g v shut) (b : Bool) : CW (w.setCell ⟨g, 13, none⟩ (.bool b)) g v b := by
  obtain ⟨cs, h1, h2, h3, h4⟩ := h.ex
  refine ⟨_, h1.set_ 13 (.bool b), ?_, ?_, ?_⟩
  · rw [Array.getElem?_setIfInBounds, if_neg (by decide)]; exact h2
  · rw [Array.getElem?_setIfInBounds, if_neg (by decide)]; exact h3
  · rw [Array.getElem?_setIfInBounds, if_pos rfl, if_pos (at_size h4)]
end
theorem cstate_open (g : Nat) (v : Value) (w : World) (h : CW w g v false) : Calls Tryz.prog 17 #[.pointer (some ⟨g, 0, none⟩)] w fun r w' => r = .returned (.int .i64 0) ∧ w = w' := by
  have c12 := h.c12
  have c13 := h.c13
  clear h
  go_enter Tryz.func17, Tryz.ntmps17
  go_wp2_with fail
  exact bodyPost_ret (results_tmp rfl _ _ _) rfl ⟨rfl, rfl⟩
theorem cstate_shut (g : Nat) (v : Value) (w : World) (h : CW w g v true) : Calls Tryz.prog 17 #[.pointer (some ⟨g, 0, none⟩)] w fun r w' => r = .returned (.int .i64 170) ∧ w = w' := by
    have c12 := h.c12
    have c13 := h.c13
    clear h
    go_enter Tryz.func17, Tryz.ntmps17
    go_wp2_with fail
    exact bodyPost_ret (results_tmp rfl _ _ _) rfl ⟨rfl, rfl⟩
theorem cshutSum (v : Value) (w : World) (hn : Calls Tryz.prog 17 #[v] w fun r w' => r = .returned (.int .i64 170) ∧ w = w') :
        Calls Tryz.prog 6 #[v] w fun r w' => r = .returned (.tuple #[.slice none 0 0, .int .i64 170]) ∧ w = w' := by
      have HN := Lib.hid hn; clear hn
      go_enter Tryz.func6, Tryz.ntmps6
      go_wp2_with (go_at_call 17; refine HN.out.mono ?_; rintro e0 w0 ⟨rfl, rfl⟩)
      first | exact bodyPost_ret (results_tmp rfl _ _ _) rfl ⟨rfl, rfl⟩ | exact bodyPost_ret (results_tmp2 rfl _ _ _) rfl ⟨rfl, rfl⟩
theorem cshutWrite (v : Value) (b : Value)(w : World) (hn : Calls Tryz.prog 17 #[v] w fun r w' => r = .returned (.int .i64 170) ∧ w = w') :
          Calls Tryz.prog 7 #[v, b] w fun r w' => r = .returned (.int .i64 170) ∧ w = w' := by
        have HN := Lib.hid hn; clear hn
        go_enter Tryz.func7, Tryz.ntmps7
        go_wp2_with (go_at_call 17; refine HN.out.mono ?_; rintro e0 w0 ⟨rfl, rfl⟩)
        first | exact bodyPost_ret (results_tmp rfl _ _ _) rfl ⟨rfl, rfl⟩ | exact bodyPost_ret (results_tmp2 rfl _ _ _) rfl ⟨rfl, rfl⟩
theorem cshutReset (v : Value) (w : World) (hn : Calls Tryz.prog 17 #[v] w fun r w' => r = .returned (.int .i64 170) ∧ w = w') :
            Calls Tryz.prog 8 #[v] w fun r w' => r = .returned (.int .i64 170) ∧ w = w' := by
          have HN := Lib.hid hn; clear hn
          go_enter Tryz.func8, Tryz.ntmps8
          go_wp2_with (go_at_call 17; refine HN.out.mono ?_; rintro e0 w0 ⟨rfl, rfl⟩)
          first | exact bodyPost_ret (results_tmp rfl _ _ _) rfl ⟨rfl, rfl⟩ | exact bodyPost_ret (results_tmp2 rfl _ _ _) rfl ⟨rfl, rfl⟩
theorem cshutWritten (v : Value) (w : World) (hn : Calls Tryz.prog 17 #[v] w fun r w' => r = .returned (.int .i64 170) ∧ w = w') :
              Calls Tryz.prog 10 #[v] w fun r w' => r = .returned (.int .u64 0) ∧ w = w' := by
            have HN := Lib.hid hn; clear hn
            go_enter Tryz.func10, Tryz.ntmps10
            go_wp2_with (go_at_call 17; refine HN.out.mono ?_; rintro e0 w0 ⟨rfl, rfl⟩)
            first | exact bodyPost_ret (results_tmp rfl _ _ _) rfl ⟨rfl, rfl⟩ | exact bodyPost_ret (results_tmp2 rfl _ _ _) rfl ⟨rfl, rfl⟩
theorem cshutRows (v : Value) (w : World) (hn : Calls Tryz.prog 17 #[v] w fun r w' => r = .returned (.int .i64 170) ∧ w = w') :
                Calls Tryz.prog 11 #[v] w fun r w' => r = .returned (.slice none 0 0) ∧ w = w' := by
              have HN := Lib.hid hn; clear hn
              go_enter Tryz.func11, Tryz.ntmps11
              go_wp2_with (go_at_call 17; refine HN.out.mono ?_; rintro e0 w0 ⟨rfl, rfl⟩)
              first | exact bodyPost_ret (results_tmp rfl _ _ _) rfl ⟨rfl, rfl⟩ | exact bodyPost_ret (results_tmp2 rfl _ _ _) rfl ⟨rfl, rfl⟩
theorem cshutClosed (v : Value) (w : World) (hn : Calls Tryz.prog 17 #[v] w fun r w' => r = .returned (.int .i64 170) ∧ w = w') :
                  Calls Tryz.prog 12 #[v] w fun r w' => r = .returned (.bool true) ∧ w = w' := by
                have HN := Lib.hid hn; clear hn
                go_enter Tryz.func12, Tryz.ntmps12
                go_wp2_with (go_at_call 17; refine HN.out.mono ?_; rintro e0 w0 ⟨rfl, rfl⟩)
                first | exact bodyPost_ret (results_tmp rfl _ _ _) rfl ⟨rfl, rfl⟩ | exact bodyPost_ret (results_tmp2 rfl _ _ _) rfl ⟨rfl, rfl⟩
theorem copenClosed (g : Nat) (v : Value) (w : World) (h : CW w g v false) : Calls Tryz.prog 12 #[.pointer (some ⟨g, 0, none⟩)] w fun r w' => r = .returned (.bool false) ∧ w = w' := by
  have HN := Lib.hid (cstate_open g v w h); clear h
  go_enter Tryz.func12, Tryz.ntmps12
  go_wp2_with (go_at_call 17; refine HN.out.mono ?_; rintro e0 w0 ⟨rfl, rfl⟩)
  exact bodyPost_ret (results_tmp rfl _ _ _) rfl ⟨rfl, rfl⟩
theorem copenWritten (g : Nat) (A : Option Addr) (n c : Nat) (hn : n ≤ 140737488351232) (w : World) (h : CW w g (.slice A n c) false) : Calls Tryz.prog 10 #[.pointer (some ⟨g, 0, none⟩)] w fun r w' => r = .returned (.int .u64 n) ∧ w = w' := by
  have HN := Lib.hid (cstate_open g _ w h)
  have c11 := h.c11
  have wn : IntKind.u64.wrap (n : Int) = (n : Int) := by rw [wrap_u64]; omega
  clear h hn
  go_enter Tryz.func10, Tryz.ntmps10
  go_wp2_with (go_at_call 17; refine HN.out.mono ?_; rintro e0 w0 ⟨rfl, rfl⟩)
  exact bodyPost_ret (results_tmp rfl _ _ _) rfl ⟨rfl, rfl⟩
theorem cclose (g : Nat) (v : Value) (b : Bool) (w : World) (h : CW w g v b) : Calls Tryz.prog 9 #[.pointer (some ⟨g, 0, none⟩)] w fun r w' => r = .returned (.int .i64 0) ∧ w' = w.setCell ⟨g, 13, none⟩ (.bool true) := by
  have c13 := h.c13
  have f13 := h.frozen 13
  have hlt := h.lt
  cases b
  · have HN := Lib.hid (cstate_open g v w h)
    clear h
    go_enter Tryz.func9, Tryz.ntmps9
    go_wp2_with (go_at_call 17; refine HN.out.mono ?_; rintro e0 w0 ⟨rfl, rfl⟩)
    exact bodyPost_ret (results_tmp rfl _ _ _) rfl ⟨rfl, rfl⟩
  · have HN := Lib.hid (cstate_shut g v w h)
    clear h
    go_enter Tryz.func9, Tryz.ntmps9
    go_wp2_with (go_at_call 17; refine HN.out.mono ?_; rintro e0 w0 ⟨rfl, rfl⟩)
    exact bodyPost_ret (results_tmp rfl _ _ _) rfl ⟨rfl, rfl⟩
set_option maxHeartbeats 1000000 in
theorem copenWrite (g : Nat) (A : Option Addr) (n c : Nat) (l : List UInt8) (w : World) (h : CW w g (.slice none 0 0) false) (hl : l.length = n) (hn : n ≤ 140737488351232) (hr : RS cB w w.heap.size A l) :
    Calls Tryz.prog 7 #[.pointer (some ⟨g, 0, none⟩), .slice A n c] w fun r w' => ∃ (A' : Option Addr) (c' : Nat), r = .returned (.int .i64 0) ∧ CW w' g (.slice A' n c') false ∧ ∀ B, B ≤ g → B ≤ w.heap.size → Below B w w' := by
  have HN := Lib.hid (cstate_open g _ w h)
  have c11 := h.c11
  have hlt := h.lt
  have HC := Lib.hid h; have HL := Lib.hid hl; have HR := Lib.hid hr; have HN3 := Lib.hid (OS.nil (cd := cB) w w.heap.size 0 rfl)
  clear h hl hr
  go_enter Tryz.func7, Tryz.ntmps7
  go_upto_region 4 with (go_at_call 17; refine HN.out.mono ?_; rintro e0 w0 ⟨rfl, rfl⟩)
  go_upto_region 5 with (at_builtin; refine wpList_appB _ rfl (.tmp 15) (.tmp 16) rfl HN3.out rfl rfl HR.out rfl HL.out (by omega) (Nat.le_refl _) ?_; intro A3 c3 w3 ho3 hg3 hA3; have hb3 := bapp (b0 w) HN3.out hg3; have HC3 := Lib.hid (HC.out.below hb3); have HB3 := Lib.hid hb3; have d11 := HC3.out.c11; have f11 := HC3.out.frozen 11; have hl3 := HC3.out.lt; clear ho3 hg3 hA3 hb3)
  go_wp2
  exact bodyPost_ret (results_tmp rfl _ _ _) rfl ⟨A3, c3, rfl, (by have h := HC3.out.put11 (.slice A3 n c3); simpa using h), fun B h1 h2 => by have h := (HB3.out.mono h2).setCell (p := ⟨g, 11, none⟩) h1 (.slice A3 n c3); simpa using h⟩
end Go.Proofs.YtgkonjbfojchcaaGreat

/-
  awake of layer 17, and a crew that no call made. Contracts alone; no statement is claimed here.
-/
import Derived.Test.YtgkonjbfojchcaaGreatKnow
import Derived.Test.YtgkonjbfojchcaaGreatPar0
import Derived.Test.YtgkonjbfojchcaaGreatCNames
namespace Go.Proofs.YtgkonjbfojchcaaGreat
open Go.RowKit
attribute [local go_sem] pureUpon Ords.of

theorem size_small (w : World) : Calls Tryz.prog 102 #[.int .i64 2] w fun e w' => e = .returned (.tuple #[.int .i64 32, .int .i64 0]) ∧ w = w' := by
  have hs := fun W => sizes_small W
  have HS := Lib.hid hs; clear hs
  go_enter Tryz.func102, Tryz.ntmps102
  go_wp2_with fail
  refine (HS.out _).mono ?_
  rintro e1 w1 ⟨rfl, rfl⟩
  go_wp2_with fail
  exact bodyPost_ret (results_tmp2 rfl _ _ _) rfl ⟨rfl, rfl⟩
def abcL : List UInt8 := (hashL false (plainP (32 : Nat) 0) [] [] [] false abc).take 32
set_option maxRecDepth 20000 in
set_option maxHeartbeats 2000000 in
theorem digestAbc_any (A : Option Addr) (c : Nat) (w : World) (hc : 3 ≤ c ∧ c ≤ 1024) (hr : RS cB w w.heap.size A abc) :
    Calls Tryz.prog 83 #[.int .i64 2, .int .i64 32, .slice none 0 0, .slice none 0 0, .slice none 0 0, .slice A 3 c] w fun r w' => ∃ A' c', r = .returned (.tuple #[.slice A' 32 32, .int .i64 0]) ∧ OS cB w' w.heap.size A' c' abcL ∧ Below w.heap.size w w' := by
  have hs := fun A W hr => hashAbc_any false 32 ⟨by decide, by decide⟩ A c W hc hr
  change ∀ A W, _ → Calls Tryz.prog _ #[.int .i64 2, .agg #[.int .i64 32, _, _, _, _, _, _, _, _, _, _], _, _, .int .i64 32, _] W (fun r w' => ∃ A' c', _ ∧ OS cB w' W.heap.size A' c' abcL ∧ _) at hs
  have hck := fun W => check_any 2 (plainP 32 0) W
  rw [show chk 2 (plainP 32 0) = 0 from plainP_chk false 32 0 ⟨by decide, by decide⟩ (Nat.zero_le _)] at hck
  have hsz := fun W => size_small W
  generalize abcL = LS at *
  have PS : Hid ((Tryz.prog.info? 94).map (·.size) = some (#[Value.int .i64 32, .int .i64 0, .int .i64 1, .int .i64 1, .int .u32 0, .int .u64 0, .int .u32 0, .int .i64 0, .int .i64 0, .slice none 0 0, .slice none 0 0]).size) := Pr.size (plainP 32 0)
  have PO : Hid ((#[Value.int .i64 32, .int .i64 0, .int .i64 1, .int .i64 1, .int .u32 0, .int .u64 0, .int .u32 0, .int .i64 0, .int .i64 0, .slice none 0 0, .slice none 0 0]).all (·.oneCell') = true) := Pr.ones (plainP 32 0)
  have HS := Lib.hid hs; have HCK := Lib.hid hck; have HSZ := Lib.hid hsz; have HR := Lib.hid hr; clear hs hck hsz hr
  have hu := Lib.hid Tryz.underlying94
  go_enter Tryz.func83, Tryz.ntmps83
  go_wp2_with fail
  refine (HSZ.out _).mono ?_
  rintro e1 w1 ⟨rfl, rfl⟩
  go_upto_region 5 with (refine wpList_store_row rfl 94 _ _ rfl w.heap.size #[Value.int .i64 32, .int .i64 0, .int .i64 1, .int .i64 1, .int .u32 0, .int .u64 0, .int .u32 0, .int .i64 0, .int .i64 0, .slice none 0 0, .slice none 0 0] rfl rfl 94 zcs (Blk.new _ _ _) PS.out rfl PO.out ?_)
  have HG := Lib.hid ((Blk.new w 94 zcs).row #[Value.int .i64 32, .int .i64 0, .int .i64 1, .int .i64 1, .int .u32 0, .int .u64 0, .int .u32 0, .int .i64 0, .int .i64 0, .slice none 0 0, .slice none 0 0])
  have HB := Lib.hid (brow (bal (b0 w) (.cells zcs 94)) (Nat.le_refl _) #[Value.int .i64 32, .int .i64 0, .int .i64 1, .int .i64 1, .int .u32 0, .int .u64 0, .int .u32 0, .int .i64 0, .int .i64 0, .slice none 0 0, .slice none 0 0])
  have hz : zcs = #[.int .i64 0, .int .i64 0, .int .i64 0, .int .i64 0, .int .u32 0, .int .u64 0, .int .u32 0, .int .i64 0, .int .i64 0, .slice none 0 0, .slice none 0 0] := rfl
  (try rw [← hz])
  clear hz
  generalize (w.alloc (.cells zcs 94)).setRow w.heap.size #[Value.int .i64 32, .int .i64 0, .int .i64 1, .int .i64 1, .int .u32 0, .int .u64 0, .int .u32 0, .int .i64 0, .int .i64 0, .slice none 0 0, .slice none 0 0] = u at *
  go_wp2_with (first
    | (refine wpList_load_row rfl 94 _ rfl w.heap.size rfl 94 #[Value.int .i64 32, .int .i64 0, .int .i64 1, .int .i64 1, .int .u32 0, .int .u64 0, .int .u32 0, .int .i64 0, .int .i64 0, .slice none 0 0, .slice none 0 0] (0, 0) _ HG.out hu.out rfl PS.out ?_)
    | (go_at_call 103; refine (HCK.out _).mono ?_; rintro e2 u ⟨rfl, hb2⟩; replace HG := Lib.hid (HG.out.below hb2 HG.out.lt); replace HB := Lib.hid (bcall HB.out hb2); clear hb2)
    | (go_at_call 46; refine (HS.out A _ ((HR.out.below HB.out).more HB.out.size)).mono ?_; rintro e3 w3 ⟨A3, c3, rfl, ho3, hb3⟩; have HO3 := Lib.hid ho3; have HB3 := Lib.hid (bcall HB.out hb3); clear hb3))
  exact bodyPost_ret (results_tmp2 rfl _ _ _) rfl ⟨A3, c3, rfl, HO3.out.mono HB.out.size, HB3.out⟩
theorem plainAbc_any (A : Option Addr) (c : Nat) (w : World) (hc : 3 ≤ c ∧ c ≤ 1024) (hr : RS cB w w.heap.size A abc) :
    Calls Tryz.prog 35 #[.int .i64 2, .int .i64 32, .slice none 0 0, .slice A 3 c] w fun r w' => ∃ A' c', r = .returned (.tuple #[.slice A' 32 32, .int .i64 0]) ∧ OS cB w' w.heap.size A' c' abcL ∧ Below w.heap.size w w' := by
  have hd := digestAbc_any A c w hc hr
  have hm : Calls Tryz.prog 53 #[.int .i64 2, .int .i64 32, .slice none 0 0, .slice none 0 0, .slice none 0 0, .slice A 3 c] w fun r w' => ∃ A' c', r = .returned (.tuple #[.slice A' 32 32, .int .i64 0]) ∧ OS cB w' w.heap.size A' c' abcL ∧ Below w.heap.size w w' := by
    have HD := Lib.hid hd; clear hd hr
    go_enter Tryz.func53, Tryz.ntmps53
    go_wp2_with (go_at_call 83; refine HD.out.mono ?_; rintro e1 w1 ⟨A1, c1, rfl, ho1, hb1⟩)
    exact bodyPost_ret (results_tmp2 rfl _ _ _) rfl ⟨A1, c1, rfl, ho1, hb1⟩
  have HM := Lib.hid hm; clear hm hd hr
  go_enter Tryz.func35, Tryz.ntmps35
  go_wp2_with (go_at_call 53; refine HM.out.mono ?_; rintro e1 w1 ⟨A1, c1, rfl, ho1, hb1⟩)
  exact bodyPost_ret (results_tmp2 rfl _ _ _) rfl ⟨A1, c1, rfl, ho1, hb1⟩
set_option maxRecDepth 20000 in
set_option maxHeartbeats 2000000 in
theorem namedAbc_any (A : Option Addr) (c : Nat) (w : World) (hc : 3 ≤ c ∧ c ≤ 1024) (hr : RS cB w w.heap.size A abc) :
    Calls Tryz.prog 15 #[.string ⟨#[98, 108, 97, 107, 101, 50, 115]⟩, .int .i64 32, .slice none 0 0, .slice A 3 c] w fun r w' => ∃ A' c', r = .returned (.tuple #[.slice A' 32 32, .int .i64 0]) ∧ OS cB w' w.heap.size A' c' abcL ∧ Below w.heap.size w w' := by
  have hp := fun W hr => plainAbc_any A c W hc hr
  have HP := Lib.hid hp; have HR := Lib.hid hr; clear hp hr
  go_enter Tryz.func15, Tryz.ntmps15
  go_wp2_with (go_at_call 24; refine (variants_any _).mono ?_; rintro e1 w1 ⟨g, rfl, hg, hbl, hb1⟩)
  have HB1 := Lib.hid hb1; have HBL1 := Lib.hid hbl; clear hb1 hbl hg
  go_loopw [14] (fun i wr => ∃ k : Nat, k ≤ 1 ∧ i = .int .i64 k ∧ Blk wr g 61 varCells ∧ Below w.heap.size w wr) (fun i _ => 6 - (intOf i).toNat)
  case atStart => exact ⟨0, Nat.zero_le _, rfl, HBL1.out, HB1.out⟩
  case round =>
    obtain ⟨k, hk, rfl, hbl, hbw⟩ := hrel
    have HBL := Lib.hid hbl; have HBW := Lib.hid hbw; clear hbl hbw
    have hk2 : k = 0 ∨ k = 1 := by omega
    rcases hk2 with rfl | rfl
    · have hr : wr.rangeAt g 0 [.string ⟨#[98, 108, 97, 107, 101, 50, 98]⟩, .int .i64 1, .int .i64 64, .int .i64 64, .func (.func 35) #[] #[]] := HBL.out.range 0 5
      have HRR := Lib.hid hr; clear hr
      go_wp2_with (refine wpList_load_mid rfl 61 (.tmp 16) rfl g 0 rfl _ _ HRR.out Tryz.underlying61 rfl (by kernel_rfl) ?_)
      case roundEnd => exact ⟨⟨1, by decide, rfl, HBL.out.alloc _, bal HBW.out _⟩, by simp [intOf]⟩
    · have hr : wr.rangeAt g 5 [.string ⟨#[98, 108, 97, 107, 101, 50, 115]⟩, .int .i64 2, .int .i64 32, .int .i64 32, .func (.func 35) #[] #[]] := HBL.out.range 5 5
      have HRR := Lib.hid hr; clear hr
      go_wp2_with (first
        | (refine wpList_load_mid rfl 61 (.tmp 16) rfl g 5 rfl _ _ HRR.out Tryz.underlying61 rfl (by kernel_rfl) ?_)
        | (go_at_call 35; refine (HP.out _ ((HR.out.below (bal HBW.out _)).more (bal HBW.out (.cells #[.string ⟨#[98, 108, 97, 107, 101, 50, 115]⟩, .int .i64 2, .int .i64 32, .int .i64 32, .func (.func 35) #[] #[]] 61)).size)).mono ?_; rintro e3 w3 ⟨A3, c3, rfl, ho3, hb3⟩; have HO3 := Lib.hid ho3; have HB3 := Lib.hid hb3; clear ho3 hb3))
      exact bodyPost_ret (results_tmp2 rfl _ _ _) rfl ⟨A3, c3, rfl, HO3.out.mono (bal HBW.out _).size, bcall (bal HBW.out _) HB3.out⟩
set_option maxRecDepth 20000 in
set_option maxHeartbeats 2000000 in
theorem awake17_any (w : World) : Calls Tryz.prog 5 #[] w fun e w' => e = .returned (.bool true) ∧ Below w.heap.size w w' := by
  have hn := fun A W hr => namedAbc_any A 3 W ⟨by decide, by decide⟩ hr
  have xs := fun A c W hr => hexAbc_any false 32 (by decide) A c _ known_small W hr
  change ∀ A c W, RS cB W W.heap.size A abcL → _ at xs
  generalize abcL = LS at *
  have HN := Lib.hid hn; have XS := Lib.hid xs; clear hn xs
  have kc := run_literal
  go_enter Tryz.func5, Tryz.ntmps5
  go_wp2_with fail
  refine (HN.out _ _ (RS.marked _ abc _ (3, 4) _ rfl (by simp))).mono ?_
  rintro e1 w1 ⟨A1, c1, rfl, ho1, hb1⟩
  have HO1 := Lib.hid ho1; have HB1 := Lib.hid (bcall (bal (b0 w) _) hb1); clear ho1 hb1
  go_wp2_with (go_at_call 16; refine (XS.out _ _ _ HO1.out.reads).mono ?_; rintro e2 w2 ⟨rfl, hb2⟩; have HB2 := Lib.hid (bcall HB1.out hb2); clear hb2)
  exact bodyPost_ret (results_tmp rfl _ _ _) rfl ⟨rfl, HB2.out⟩

/-- there is no crew: what its methods answer -/
theorem cstate_nil (w : World) : Calls Tryz.prog 17 #[.pointer none] w fun r w' => r = .returned (.int .i64 7) ∧ w = w' := by
  go_enter Tryz.func17, Tryz.ntmps17
  go_wp2_with fail
  exact bodyPost_ret (results_tmp rfl _ _ _) rfl ⟨rfl, rfl⟩
theorem cstate_zero (g : Nat) (w : World) (h : w.cell? ⟨g, 12, none⟩ = some (.bool false)) : Calls Tryz.prog 17 #[.pointer (some ⟨g, 0, none⟩)] w fun r w' => r = .returned (.int .i64 7) ∧ w = w' := by
  go_enter Tryz.func17, Tryz.ntmps17
  go_wp2_with fail
  exact bodyPost_ret (results_tmp rfl _ _ _) rfl ⟨rfl, rfl⟩
theorem cnilSum (v : Value) (w : World) (hn : Calls Tryz.prog 17 #[v] w fun r w' => r = .returned (.int .i64 7) ∧ w = w') :
      Calls Tryz.prog 6 #[v] w fun r w' => r = .returned (.tuple #[.slice none 0 0, .int .i64 7]) ∧ w = w' := by
    have HN := Lib.hid hn; clear hn
    go_enter Tryz.func6, Tryz.ntmps6
    go_wp2_with (go_at_call 17; refine HN.out.mono ?_; rintro e0 w0 ⟨rfl, rfl⟩)
    first | exact bodyPost_ret (results_tmp rfl _ _ _) rfl ⟨rfl, rfl⟩ | exact bodyPost_ret (results_tmp2 rfl _ _ _) rfl ⟨rfl, rfl⟩
theorem cnilWrite (v : Value) (b : Value)(w : World) (hn : Calls Tryz.prog 17 #[v] w fun r w' => r = .returned (.int .i64 7) ∧ w = w') :
        Calls Tryz.prog 7 #[v, b] w fun r w' => r = .returned (.int .i64 7) ∧ w = w' := by
      have HN := Lib.hid hn; clear hn
      go_enter Tryz.func7, Tryz.ntmps7
      go_wp2_with (go_at_call 17; refine HN.out.mono ?_; rintro e0 w0 ⟨rfl, rfl⟩)
      first | exact bodyPost_ret (results_tmp rfl _ _ _) rfl ⟨rfl, rfl⟩ | exact bodyPost_ret (results_tmp2 rfl _ _ _) rfl ⟨rfl, rfl⟩
theorem cnilReset (v : Value) (w : World) (hn : Calls Tryz.prog 17 #[v] w fun r w' => r = .returned (.int .i64 7) ∧ w = w') :
          Calls Tryz.prog 8 #[v] w fun r w' => r = .returned (.int .i64 7) ∧ w = w' := by
        have HN := Lib.hid hn; clear hn
        go_enter Tryz.func8, Tryz.ntmps8
        go_wp2_with (go_at_call 17; refine HN.out.mono ?_; rintro e0 w0 ⟨rfl, rfl⟩)
        first | exact bodyPost_ret (results_tmp rfl _ _ _) rfl ⟨rfl, rfl⟩ | exact bodyPost_ret (results_tmp2 rfl _ _ _) rfl ⟨rfl, rfl⟩
theorem cnilClose (v : Value) (w : World) (hn : Calls Tryz.prog 17 #[v] w fun r w' => r = .returned (.int .i64 7) ∧ w = w') :
            Calls Tryz.prog 9 #[v] w fun r w' => r = .returned (.int .i64 7) ∧ w = w' := by
          have HN := Lib.hid hn; clear hn
          go_enter Tryz.func9, Tryz.ntmps9
          go_wp2_with (go_at_call 17; refine HN.out.mono ?_; rintro e0 w0 ⟨rfl, rfl⟩)
          first | exact bodyPost_ret (results_tmp rfl _ _ _) rfl ⟨rfl, rfl⟩ | exact bodyPost_ret (results_tmp2 rfl _ _ _) rfl ⟨rfl, rfl⟩
theorem cnilWritten (v : Value) (w : World) (hn : Calls Tryz.prog 17 #[v] w fun r w' => r = .returned (.int .i64 7) ∧ w = w') :
              Calls Tryz.prog 10 #[v] w fun r w' => r = .returned (.int .u64 0) ∧ w = w' := by
            have HN := Lib.hid hn; clear hn
            go_enter Tryz.func10, Tryz.ntmps10
            go_wp2_with (go_at_call 17; refine HN.out.mono ?_; rintro e0 w0 ⟨rfl, rfl⟩)
            first | exact bodyPost_ret (results_tmp rfl _ _ _) rfl ⟨rfl, rfl⟩ | exact bodyPost_ret (results_tmp2 rfl _ _ _) rfl ⟨rfl, rfl⟩
theorem cnilRows (v : Value) (w : World) (hn : Calls Tryz.prog 17 #[v] w fun r w' => r = .returned (.int .i64 7) ∧ w = w') :
                Calls Tryz.prog 11 #[v] w fun r w' => r = .returned (.slice none 0 0) ∧ w = w' := by
              have HN := Lib.hid hn; clear hn
              go_enter Tryz.func11, Tryz.ntmps11
              go_wp2_with (go_at_call 17; refine HN.out.mono ?_; rintro e0 w0 ⟨rfl, rfl⟩)
              first | exact bodyPost_ret (results_tmp rfl _ _ _) rfl ⟨rfl, rfl⟩ | exact bodyPost_ret (results_tmp2 rfl _ _ _) rfl ⟨rfl, rfl⟩
theorem cnilClosed (v : Value) (w : World) (hn : Calls Tryz.prog 17 #[v] w fun r w' => r = .returned (.int .i64 7) ∧ w = w') :
                  Calls Tryz.prog 12 #[v] w fun r w' => r = .returned (.bool false) ∧ w = w' := by
                have HN := Lib.hid hn; clear hn
                go_enter Tryz.func12, Tryz.ntmps12
                go_wp2_with (go_at_call 17; refine HN.out.mono ?_; rintro e0 w0 ⟨rfl, rfl⟩)
                first | exact bodyPost_ret (results_tmp rfl _ _ _) rfl ⟨rfl, rfl⟩ | exact bodyPost_ret (results_tmp2 rfl _ _ _) rfl ⟨rfl, rfl⟩
set_option maxRecDepth 20000 in
set_option maxHeartbeats 2000000 in
theorem crewNil_law (A : Option Addr) (n c : Nat) (w : World) : Calls Tryz.prog 3 #[.slice A n c] w fun e w' => e = .returned (.bool true) ∧ Below w.heap.size w w' := by
  have ha := awake17_any w
  have HA := Lib.hid ha; clear ha
  go_enter Tryz.func3, Tryz.ntmps3
  go_wp2_with (go_at_call 5; refine HA.out.mono ?_; rintro e1 w1 ⟨rfl, hb1⟩; have HB1 := Lib.hid hb1; clear hb1)
  have HB2 := Lib.hid (bal (bal HB1.out (.cells #[.int .i64 0, .int .i64 0, .int .i64 0, .int .i64 0, .int .u32 0, .int .i64 0, .slice none 0 0, .slice none 0 0, .slice none 0 0, .int .i64 0, .int .i64 0, .slice none 0 0, .bool false, .bool false] 32)) (.cells #[.pointer none, .pointer (some ⟨w1.heap.size, 0, none⟩)] 24))
  go_loop [15] (fun i => ∃ k : Nat, k ≤ 2 ∧ i = .int .i64 k) (fun i => 2 - (intOf i).toNat)
  case atStart => exact ⟨0, Nat.zero_le _, rfl⟩
  case round =>
    obtain ⟨k, hk, rfl⟩ := hrel
    have hk2 : k = 0 ∨ k = 1 ∨ k = 2 := by omega
    clear hk
    rcases hk2 with rfl | rfl | rfl
    · have hno := cstate_nil ((w1.alloc (.cells #[.int .i64 0, .int .i64 0, .int .i64 0, .int .i64 0, .int .u32 0, .int .i64 0, .slice none 0 0, .slice none 0 0, .slice none 0 0, .int .i64 0, .int .i64 0, .slice none 0 0, .bool false, .bool false] 32)).alloc (.cells #[.pointer none, .pointer (some ⟨w1.heap.size, 0, none⟩)] 24))
      have h1 := cnilSum (.pointer none) _ hno
      have h2 := cnilWrite (.pointer none) (.slice A n c) _ hno
      have h3 := cnilReset (.pointer none) _ hno
      have h4 := cnilClose (.pointer none) _ hno
      have h5 := cnilWritten (.pointer none) _ hno
      have h6 := cnilRows (.pointer none) _ hno
      have h7 := cnilClosed (.pointer none) _ hno
      have H1 := Lib.hid h1; have H2 := Lib.hid h2; have H3 := Lib.hid h3; have H4 := Lib.hid h4; have H5 := Lib.hid h5; have H6 := Lib.hid h6; have H7 := Lib.hid h7; clear h1 h2 h3 h4 h5 h6 h7 hno
      go_wp2_with fail
      refine H1.out.mono ?_
      rintro e0 w0 ⟨rfl, rfl⟩
      go_wp2_with (first
        | (go_at_call 7; refine H2.out.mono ?_; rintro e0 w0 ⟨rfl, rfl⟩)
        | (go_at_call 8; refine H3.out.mono ?_; rintro e0 w0 ⟨rfl, rfl⟩)
        | (go_at_call 9; refine H4.out.mono ?_; rintro e0 w0 ⟨rfl, rfl⟩)
        | (go_at_call 10; refine H5.out.mono ?_; rintro e0 w0 ⟨rfl, rfl⟩)
        | (go_at_call 11; refine H6.out.mono ?_; rintro e0 w0 ⟨rfl, rfl⟩)
        | (go_at_call 12; refine H7.out.mono ?_; rintro e0 w0 ⟨rfl, rfl⟩))
      go_round
      case rel => exact ⟨1, by decide, rfl⟩
      case measure => simp [intOf]
    · have hno := cstate_zero w1.heap.size ((w1.alloc (.cells #[.int .i64 0, .int .i64 0, .int .i64 0, .int .i64 0, .int .u32 0, .int .i64 0, .slice none 0 0, .slice none 0 0, .slice none 0 0, .int .i64 0, .int .i64 0, .slice none 0 0, .bool false, .bool false] 32)).alloc (.cells #[.pointer none, .pointer (some ⟨w1.heap.size, 0, none⟩)] 24)) (by simp)
      have h1 := cnilSum (.pointer (some ⟨w1.heap.size, 0, none⟩)) _ hno
      have h2 := cnilWrite (.pointer (some ⟨w1.heap.size, 0, none⟩)) (.slice A n c) _ hno
      have h3 := cnilReset (.pointer (some ⟨w1.heap.size, 0, none⟩)) _ hno
      have h4 := cnilClose (.pointer (some ⟨w1.heap.size, 0, none⟩)) _ hno
      have h5 := cnilWritten (.pointer (some ⟨w1.heap.size, 0, none⟩)) _ hno
      have h6 := cnilRows (.pointer (some ⟨w1.heap.size, 0, none⟩)) _ hno
      have h7 := cnilClosed (.pointer (some ⟨w1.heap.size, 0, none⟩)) _ hno
      have H1 := Lib.hid h1; have H2 := Lib.hid h2; have H3 := Lib.hid h3; have H4 := Lib.hid h4; have H5 := Lib.hid h5; have H6 := Lib.hid h6; have H7 := Lib.hid h7; clear h1 h2 h3 h4 h5 h6 h7 hno
      go_wp2_with fail
      refine H1.out.mono ?_
      rintro e0 w0 ⟨rfl, rfl⟩
      go_wp2_with (first
        | (go_at_call 7; refine H2.out.mono ?_; rintro e0 w0 ⟨rfl, rfl⟩)
        | (go_at_call 8; refine H3.out.mono ?_; rintro e0 w0 ⟨rfl, rfl⟩)
        | (go_at_call 9; refine H4.out.mono ?_; rintro e0 w0 ⟨rfl, rfl⟩)
        | (go_at_call 10; refine H5.out.mono ?_; rintro e0 w0 ⟨rfl, rfl⟩)
        | (go_at_call 11; refine H6.out.mono ?_; rintro e0 w0 ⟨rfl, rfl⟩)
        | (go_at_call 12; refine H7.out.mono ?_; rintro e0 w0 ⟨rfl, rfl⟩))
      go_round
      case rel => exact ⟨2, by decide, rfl⟩
      case measure => simp [intOf]
    · go_wp2_with fail
      exact bodyPost_ret (results_tmp rfl _ _ _) rfl ⟨rfl, HB2.out⟩
end Go.Proofs.YtgkonjbfojchcaaGreat

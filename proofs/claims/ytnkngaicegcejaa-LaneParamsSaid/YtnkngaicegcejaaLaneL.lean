/-
  lane.Split by contract, and the statement LaneSplits: for every kind and every message the lanes that the program tells are those that the reference tells, and the message is left alone.
-/
import Derived.Test.YtnkngaicegcejaaLaneD
import Derived.Test.YtnkngaicegcejaaLaw8a
namespace Go.Proofs.Ytnkngaicegcejaa
open Go.RowKit

theorem marks_len' : (marks 70).length = 70 := marks_len 70

set_option maxHeartbeats 400000 in
theorem split_any (k : Int) (n blk : Nat) (most : Int) (hn0 : 0 < n) (hn8 : n ≤ 8) (hb0 : 0 < blk) (hb1 : blk ≤ 128)
    (hof : Hid (∀ w : World, Calls Try.prog 46 #[.int .i64 k] w fun e w' => e = .returned (.tuple #[.agg #[.int .i64 n, .int .i64 blk, .int .i64 most], .bool true]) ∧ Below w.heap.size w w'))
    (A : Option Addr) (c N : Nat) (l : List UInt8) (w : World) (hN : l.length = N) (hc : N ≤ c) (hcm : c ≤ 9223372036854775807) (hm : N ≤ 140737488355000) (hr : RS cB w w.heap.size A l) :
    Calls Try.prog 16 #[.int .i64 k, .slice A N c] w fun e w' => ∃ g svs, e = .returned (.tuple #[.slice (some ⟨g, 0, none⟩) n n, .int .i64 0]) ∧ Tab w' w.heap.size g n svs ∧ svs.length = n ∧
      (∀ (j : Nat) (s : SV), svs[j]? = some s → s.l = laneB n blk j l) ∧ Below w.heap.size w w' := by
  have HN := Lib.hid hN; have HR := Lib.hid hr; clear hN hr
  have hmk : ∀ (W : World), (Instr.makeSlice 24 (.int .i64 (n : Int)) (.int .i64 (n : Int))).run Try.prog W = .ok (.slice (some ⟨W.heap.size, 0, none⟩) n n) (W.alloc (.cells (madeCells #[cL.zero] n) 22)) := fun (W : World) => run_makeS cL_ok .i64 .i64 n n (Nat.le_refl _) (by show 24 * n ≤ _; omega) (by omega) W
  go_enter Try.func16, Try.ntmps16
  go_wp2_with fail
  refine (hof.out _).mono ?_
  rintro e w1 ⟨rfl, hbw⟩
  go_wp2_with fail
  refine (deal_any n blk most hn0 hn8 hb0 hb1 A c N w.heap.size _ l _ HN.out hc hcm hm ?_ ?_ (List.replicate n SV.none) ⟨?_, Parts.none_ _ _ _⟩ (by simp) ?_).mono ?_
  · exact ((HR.out.below hbw).alloc hbw.size _).alloc (size_new hbw.size) _
  · exact size_new (size_new hbw.size)
  · exact OS.madeAt (cd := cL) _ n n SV.none rfl (Nat.le_refl _) (by unfold maxLen; omega) (size_new hbw.size) (by simp)
  · intro j s hs
    rw [List.getElem?_replicate] at hs
    split at hs
    · injection hs with hs; subst hs; rfl
    · cases hs
  rintro e w2 ⟨svs, rfl, htab, hlen, hl, hbw2⟩
  have HT := Lib.hid htab; have HLN := Lib.hid hlen; have HL := Lib.hid hl
  have hbw3 := ((hbw.alloc hbw.size _).alloc (size_new hbw.size) _).trans hbw2
  clear htab hlen hl hbw2
  go_wp2
  go_ret2
  exact ⟨_, svs, rfl, HT.out, HLN.out, HL.out, hbw3⟩

set_option maxHeartbeats 1000000 in
theorem laneSplits_kind (k : Int) (n blk : Nat) (most : Int) (hn0 : 0 < n) (hn8 : n ≤ 8) (hb0 : 0 < blk) (hb1 : blk ≤ 128)
    (hC : Hid (∀ w : World, Calls Try.prog 44 #[.int .i64 k] w fun e w' => e = .returned (.int .i64 n) ∧ w = w'))
    (hB : Hid (∀ w : World, Calls Try.prog 45 #[.int .i64 k] w fun e w' => e = .returned (.int .i64 blk) ∧ w = w'))
    (hof : Hid (∀ w : World, Calls Try.prog 46 #[.int .i64 k] w fun e w' => e = .returned (.tuple #[.agg #[.int .i64 n, .int .i64 blk, .int .i64 most], .bool true]) ∧ Below w.heap.size w w'))
    (A : Option Addr) (c N : Nat) (l : List UInt8) (w : World) (hN : l.length = N) (hm : N ≤ 140737488355000) (hr : RS cB w w.heap.size A l) :
    Calls Try.prog 3 #[.int .i64 k, .slice A N c] w fun e w' => e = .returned (.bool true) ∧ Below w.heap.size w w' := by
  have HN := Lib.hid hN; have HR := Lib.hid hr; clear hN hr
  go_enter Try.func3, Try.ntmps3
  go_wp2_with fail
  refine (wide_any A c N l w HN.out hm HR.out).mono ?_
  rintro e w1 ⟨A1, c1, rfl, hfull, hbw1⟩
  have HF := Lib.hid hfull; clear hfull
  go_wp2_with fail
  refine (refSplit_any k n blk hn0 hn8 hb0 hC hB A c N l w1 HN.out hm ((HR.out.below hbw1).more hbw1.size)).mono ?_
  rintro e w2 ⟨gw, want, rfl, hwant, hwlen, hwl, hbw2⟩
  have HW := Lib.hid hwant; have HWN := Lib.hid hwlen; have HWL := Lib.hid hwl; clear hwant hwlen hwl
  have hbw02 := hbw1.trans (hbw2.mono hbw1.size)
  have HF2 : Hid (OS cB w2 w.heap.size A1 c1 (l ++ marks 70)) := HF.out.below hbw2 (Nat.le_refl _)
  clear HF
  go_wp2
  have hc1 : N + 70 ≤ c1 ∧ c1 ≤ 9223372036854775807 := by
    have := HF2.out.len_le
    rw [List.length_append, marks_len', HN.out] at this
    unfold maxLen at this
    exact this
  obtain ⟨hc1a, hc1b⟩ := hc1
  go_loopw [4, 8] (fun v i wr => ∃ t : Nat, t ≤ 3 ∧ i = .int .i64 t ∧ v = .bool false ∧ Below w2.heap.size w2 wr) (fun _ i _ => 3 - (intOf i).toNat)
  case atStart => exact ⟨0, by omega, rfl, rfl, Below.refl _ _⟩
  case round =>
    obtain ⟨t, ht, rfl, rfl, hbr⟩ := hrel
    have hbr0 := hbw02.trans (hbr.mono hbw02.size)
    by_cases hlt : t < 3
    · go_wp2_with fail
      refine (split_any k n blk most hn0 hn8 hb0 hb1 hof A1 c1 N l wr HN.out (by omega) hc1b hm ?_).mono ?_
      · have h1 := ((HF2.out.below hbr (Nat.le_refl _)).take N (by rw [List.length_append, HN.out]; omega)).reads
        rwa [List.take_left' HN.out] at h1
      rintro e w3 ⟨gl, svs, rfl, htab, hlen, hl, hbw3⟩
      have HT := Lib.hid htab; have HLN := Lib.hid hlen; have HL := Lib.hid hl; clear htab hlen hl
      have hb3 := hbr.trans (hbw3.mono hbr.size)
      have hWt : Hid (Tab w3 w1.heap.size gw n want) := HW.out.below hb3 (Nat.le_refl _)
      go_wp2
      go_loopw [4, 11] (fun v i wx => ∃ j m : Nat, j ≤ n ∧ i = .int .i64 j ∧ v = .bool false ∧ wx = w3.drewN m) (fun _ i _ => n - (intOf i).toNat)
      case atStart => exact ⟨0, 0, by omega, rfl, rfl, rfl⟩
      case round =>
        obtain ⟨j, m, hj, rfl, rfl, rfl⟩ := hrel
        by_cases hjl : j < n
        · obtain ⟨g1, s1, e1, -, -, es1, gs1, -⟩ := HT.out.row.at_ (k := j) (by rw [HLN.out]; exact hjl)
          injection e1 with e1; injection e1 with e1; subst e1
          obtain ⟨g2, s2, e2, -, -, es2, gs2, -⟩ := hWt.out.row.at_ (k := j) (by rw [HWN.out]; exact hjl)
          injection e2 with e2; injection e2 with e2; subst e2
          have hl1 := HL.out j s1 es1
          have hl2 := HWL.out j s2 es2
          have ho1 := (HT.out.parts.own j s1 es1).reads
          have ho2 := (hWt.out.parts.own j s2 es2).reads
          change w3.cell? ⟨gl, j, none⟩ = some (.slice s1.A s1.l.length s1.c) at gs1
          change w3.cell? ⟨gw, j, none⟩ = some (.slice s2.A s2.l.length s2.c) at gs2
          obtain ⟨sA1, sc1, sl1⟩ := s1
          obtain ⟨sA2, sc2, sl2⟩ := s2
          dsimp only at gs1 gs2 ho1 ho2 hl1 hl2
          obtain ⟨z1, hz1⟩ : ∃ z, z = sl1.length := ⟨_, rfl⟩
          obtain ⟨z2, hz2⟩ : ∃ z, z = sl2.length := ⟨_, rfl⟩
          have hzz : z1 ≤ N := by rw [hz1, hl1, ← HN.out]; exact laneB_le _ _ _ _
          rw [← hz1] at gs1
          rw [← hz2] at gs2
          have H12 : Hid (sl1 = sl2) := by show sl1 = sl2; rw [hl1, hl2]
          have HZ1 := Lib.hid hz1; have HZ2 := Lib.hid hz2; clear hz1 hz2 hl1 hl2 es1 es2
          have HO1 := Lib.hid ho1; have HO2 := Lib.hid ho2; clear ho1 ho2
          have hsame : ∀ q, Calls Try.prog 17 #[.slice sA1 z1 sc1, .slice sA2 z2 sc2] (w3.drewN q) fun e w' => e = .returned (.bool true) ∧ ∃ r, w' = (w3.drewN q).drewN r := by
            intro q
            refine (same_any sA1 sA2 sc1 sc2 sl1 sl2 _ _ z1 z2 (w3.drewN q) HZ1.out.symm HZ2.out.symm (by omega) (HO1.out.drewN q) (HO2.out.drewN q)).mono ?_
            rintro e w' ⟨rfl, r, rfl⟩
            exact ⟨by simp [H12.out], r, rfl⟩
          have HS := Lib.hid hsame; clear hsame
          go_wp2
          go_quiet ((go_at_call 17; exact quiet_add (HS.out _)))
          go_wp2
          go_roundw
          case rel => exact ⟨j + 1, _, by omega, by go_num, rfl, rfl⟩
          case measure => simp [intOf]; omega
        · go_wp2
          obtain ⟨H, hH⟩ : ∃ H, H = wr.heap.size := ⟨_, rfl⟩
          have HH := Lib.hid hH
          have hbw3m : Below H wr (w3.drewN m) := by rw [hH]; exact below_drewN hbw3 m
          have hrow : OS cL (w3.drewN m) H (some ⟨gl, 0, none⟩) n svs := by rw [hH]; exact HT.out.row.drewN m
          have hown : ∀ (j : Nat) (s : SV), 0 ≤ j → svs[j]? = some s → OS cB (w3.drewN m) H s.A s.c s.l := fun j s _ hs => by rw [hH]; exact (HT.out.parts.own j s hs).drewN m
          have hHs : H ≤ wr.heap.size := Nat.le_of_eq hH
          have HRW := Lib.hid hrow; have HOW := Lib.hid hown
          clear hH hrow hown
          go_loopw [12] (fun i wx => ∃ j : Nat, j ≤ n ∧ i = .int .i64 j ∧ OS cL wx H (some ⟨gl, 0, none⟩) n svs ∧ (∀ (i : Nat) (s : SV), j ≤ i → svs[i]? = some s → OS cB wx H s.A s.c s.l) ∧ Below H wr wx) (fun i _ => n - (intOf i).toNat)
          case atStart => exact ⟨0, by omega, rfl, HRW.out, HOW.out, hbw3m⟩
          case round =>
            clear HRW HOW hbw3m
            obtain ⟨i, hi, rfl, hrow, hown, hbx⟩ := hrel
            have HRW := Lib.hid hrow; have HOW := Lib.hid hown; clear hrow hown
            by_cases hil : i < n
            · obtain ⟨g1, s1, e1, -, -, es1, gs1, -⟩ := HRW.out.at_ (k := i) (by rw [HLN.out]; exact hil)
              injection e1 with e1; injection e1 with e1; subst e1
              have hl1 := HL.out i s1 es1
              have ho1 := HOW.out i s1 (Nat.le_refl _) es1
              change _ = some (Value.slice s1.A s1.l.length s1.c) at gs1
              have ES := Lib.hid es1; clear es1
              obtain ⟨sA1, sc1, sl1⟩ := s1
              dsimp only at gs1 ho1 hl1
              obtain ⟨z1, hz1⟩ : ∃ z, z = sl1.length := ⟨_, rfl⟩
              have hzz : z1 ≤ N := by rw [hz1, hl1, ← HN.out]; exact laneB_le _ _ _ _
              rw [← hz1] at gs1
              have HZ1 := Lib.hid hz1; have HO1 := Lib.hid ho1; clear hz1 hl1 ho1
              go_wp2_with fail
              refine (spoil_any sA1 sc1 z1 H sl1 _ HZ1.out.symm (by omega) HO1.out (Nat.le_trans hHs hbx.size)).mono ?_
              rintro e w5 ⟨rfl, hg5⟩
              have hrow5 := HRW.out.kept hg5 (fun a ha e => by
                injection ha with ha; subst ha
                cases sA1 with
                | none => cases e
                | some b => simp at e; exact os_blk_ne HO1.out HRW.out b rfl e)
              have hown5 : ∀ (k : Nat) (s : SV), i + 1 ≤ k → svs[k]? = some s → OS cB w5 H s.A s.c s.l := fun k s hk hs => (HOW.out k s (by omega) hs).kept hg5 (fun a ha e => by
                cases hA : sA1 with
                | none => rw [hA] at e; cases e
                | some b =>
                  rw [hA] at e
                  simp at e
                  exact HT.out.parts.apart k i s _ (by omega) hs ES.out a b ha hA e.symm)
              have hbx5 := below_app hbx HO1.out hg5 (Nat.le_refl _) (Nat.le_trans hHs hbx.size)
              have HR5 := Lib.hid hrow5; have HO5 := Lib.hid hown5; clear hrow5 hown5 hg5 gs1 hbx
              go_wp2
              go_roundw
              case rel => exact ⟨i + 1, by omega, by go_num, HR5.out, HO5.out, hbx5⟩
              case measure => simp [intOf]; omega
            · go_wp2
              go_roundw
              case rel => exact ⟨t + 1, by omega, by go_num, rfl, hbr.trans (hbx.mono (by rw [HH.out]; exact hbr.size))⟩
              case measure => simp [intOf]; omega
    · go_wp2_with fail
      refine (kept_any A1 A c1 c N l _ wr HN.out hm (HF2.out.below hbr (Nat.le_refl _)).reads ((HR.out.below hbr0).more hbr0.size) (Nat.le_refl _)).mono ?_
      rintro e w4 ⟨rfl, hb4⟩
      have hb5 := hbr0.trans (hb4.mono hbr0.size)
      go_wp2
      go_ret
      exact ⟨rfl, hb5⟩

theorem refSplit_none (k : Int) (h1 : k ≠ 1) (h2 : k ≠ 2) (A : Option Addr) (c N : Nat) (w : World) :
    Calls Try.prog 15 #[.int .i64 k, .slice A N c] w fun e w' => e = .returned (.tuple #[.slice none 0 0, .int .i64 1]) ∧ w = w' := by
  go_enter Try.func15, Try.ntmps15
  go_wp2_with fail
  refine (count_none k h1 h2 _).mono ?_
  rintro e w1 ⟨rfl, rfl⟩
  go_wp2
  go_ret2
  exact ⟨rfl, rfl⟩
theorem split_none (k : Int) (h1 : k ≠ 1) (h2 : k ≠ 2) (A : Option Addr) (c N : Nat) (w : World) :
    Calls Try.prog 16 #[.int .i64 k, .slice A N c] w fun e w' => e = .returned (.tuple #[.slice none 0 0, .int .i64 1]) ∧ Below w.heap.size w w' := by
  go_enter Try.func16, Try.ntmps16
  go_wp2_with fail
  refine (of_none k h1 h2 _).mono ?_
  rintro e w1 ⟨rfl, hbw⟩
  have h3 := hbw.alloc hbw.size (.cells #[.int .i64 0, .int .i64 0, .int .i64 0] 75)
  have H3 := Lib.hid h3; clear h3
  go_wp2
  go_ret2
  exact ⟨rfl, H3.out⟩

set_option maxHeartbeats 400000 in
theorem laneSplits_none (k : Int) (h1 : k ≠ 1) (h2 : k ≠ 2) (A : Option Addr) (c N : Nat) (l : List UInt8) (w : World) (hN : l.length = N) (hm : N ≤ 140737488355000) (hr : RS cB w w.heap.size A l) :
    Calls Try.prog 3 #[.int .i64 k, .slice A N c] w fun e w' => e = .returned (.bool true) ∧ Below w.heap.size w w' := by
  have HN := Lib.hid hN; have HR := Lib.hid hr; have H1 := Lib.hid h1; have H2 := Lib.hid h2; clear hN hr h1 h2
  go_enter Try.func3, Try.ntmps3
  go_wp2_with fail
  refine (wide_any A c N l w HN.out hm HR.out).mono ?_
  rintro e w1 ⟨A1, c1, rfl, hfull, hbw1⟩
  have HF := Lib.hid hfull; clear hfull
  go_wp2_with fail
  refine (refSplit_none k H1.out H2.out A c N w1).mono ?_
  rintro e w2 ⟨rfl, rfl⟩
  have hc1 : N + 70 ≤ c1 ∧ c1 ≤ 9223372036854775807 := by
    have := HF.out.len_le
    rw [List.length_append, marks_len', HN.out] at this
    unfold maxLen at this
    exact this
  obtain ⟨hc1a, hc1b⟩ := hc1
  go_wp2
  go_loopw [4, 8] (fun v i wr => ∃ t : Nat, t ≤ 3 ∧ i = .int .i64 t ∧ v = .bool false ∧ Below w1.heap.size w1 wr) (fun _ i _ => 3 - (intOf i).toNat)
  case atStart => exact ⟨0, by omega, rfl, rfl, Below.refl _ _⟩
  case round =>
    obtain ⟨t, ht, rfl, rfl, hbr⟩ := hrel
    have hbr0 := hbw1.trans (hbr.mono hbw1.size)
    by_cases hlt : t < 3
    · go_wp2_with fail
      refine (split_none k H1.out H2.out A1 c1 N wr).mono ?_
      rintro e w3 ⟨rfl, hbw3⟩
      have hb3 := hbr.trans (hbw3.mono hbr.size)
      go_wp2
      refine wp_loop_rounds 1 ?_
      rw [rounds_succ]
      go_wp2
      refine wp_loop_rounds 1 ?_
      rw [rounds_succ]
      go_wp2
      go_roundw
      case rel => exact ⟨t + 1, by omega, by go_num, rfl, hb3⟩
      case measure => simp [intOf]; omega
    · go_wp2_with fail
      refine (kept_any A1 A c1 c N l _ wr HN.out hm (HF.out.below hbr (Nat.le_refl _)).reads ((HR.out.below hbr0).more hbr0.size) (Nat.le_refl _)).mono ?_
      rintro e w4 ⟨rfl, hb4⟩
      have hb5 := hbr0.trans (hb4.mono hbr0.size)
      go_wp2
      go_ret
      exact ⟨rfl, hb5⟩

theorem laneSplits_any (k : Int) (A : Option Addr) (c N : Nat) (l : List UInt8) (w : World) (hN : l.length = N) (hm : N ≤ 140737488355000) (hr : RS cB w w.heap.size A l) :
    Calls Try.prog 3 #[.int .i64 k, .slice A N c] w fun e w' => e = .returned (.bool true) ∧ Below w.heap.size w w' := by
  by_cases h1 : k = 1
  · subst h1
    exact laneSplits_kind 1 4 128 64 (by omega) (by omega) (by omega) (by omega) (Lib.hid count_big) (Lib.hid block_big) (Lib.hid of_big) A c N l w hN hm hr
  · by_cases h2 : k = 2
    · subst h2
      exact laneSplits_kind 2 8 64 32 (by omega) (by omega) (by omega) (by omega) (Lib.hid count_small) (Lib.hid block_small) (Lib.hid of_small) A c N l w hN hm hr
    · exact laneSplits_none k h1 h2 A c N l w hN hm hr

end Go.Proofs.Ytnkngaicegcejaa

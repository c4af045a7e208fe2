/-
  What the two ways of dealing a message out over lanes do (the reference's, byte by byte, and the program's, piece by piece). Contracts alone; no statement is claimed here.
-/
import Derived.Test.YteeacbkhmofbeaaGreatTab
import Derived.Test.YteeacbkhmofbeaaGreatLaneP
namespace Go.Proofs.YteeacbkhmofbeaaGreat
open Go.RowKit

/-- a kind's lanes, and the bytes of a block -/
def lanesOf (k : Int) : Nat := if k = 1 then 4 else if k = 2 then 8 else 0
def blockOf (k : Int) : Nat := if k = 1 then 128 else if k = 2 then 64 else 0

theorem count_big (w : World) : Calls Tryz.prog 37 #[.int .i64 1] w fun e w' => e = .returned (.int .i64 4) ∧ w = w' := by
  go_enter Tryz.func37, Tryz.ntmps37
  go_wp2
  go_ret
  exact ⟨rfl, rfl⟩
theorem count_small (w : World) : Calls Tryz.prog 37 #[.int .i64 2] w fun e w' => e = .returned (.int .i64 8) ∧ w = w' := by
  go_enter Tryz.func37, Tryz.ntmps37
  go_wp2
  go_ret
  exact ⟨rfl, rfl⟩
theorem count_none (k : Int) (h1 : k ≠ 1) (h2 : k ≠ 2) (w : World) : Calls Tryz.prog 37 #[.int .i64 k] w fun e w' => e = .returned (.int .i64 0) ∧ w = w' := by
  have h1' : (k == 1) = false := by simpa using h1
  have h2' : (k == 2) = false := by simpa using h2
  clear h1 h2
  go_enter Tryz.func37, Tryz.ntmps37
  go_wp2
  go_ret
  exact ⟨rfl, rfl⟩
theorem block_big (w : World) : Calls Tryz.prog 58 #[.int .i64 1] w fun e w' => e = .returned (.int .i64 128) ∧ w = w' := by
  go_enter Tryz.func58, Tryz.ntmps58
  go_wp2
  go_ret
  exact ⟨rfl, rfl⟩
theorem block_small (w : World) : Calls Tryz.prog 58 #[.int .i64 2] w fun e w' => e = .returned (.int .i64 64) ∧ w = w' := by
  go_enter Tryz.func58, Tryz.ntmps58
  go_wp2
  go_ret
  exact ⟨rfl, rfl⟩

set_option maxHeartbeats 400000 in
theorem refSplit_any (k : Int) (n blk : Nat) (hn0 : 0 < n) (hn8 : n ≤ 8) (hb0 : 0 < blk) (hC : Hid (∀ w : World, Calls Tryz.prog 37 #[.int .i64 k] w fun e w' => e = .returned (.int .i64 n) ∧ w = w'))
    (hB : Hid (∀ w : World, Calls Tryz.prog 58 #[.int .i64 k] w fun e w' => e = .returned (.int .i64 blk) ∧ w = w'))
    (A : Option Addr) (c N : Nat) (l : List UInt8) (w : World) (hN : l.length = N) (hm : N ≤ 140737488355000) (hr : RS cB w w.heap.size A l) :
    Calls Tryz.prog 40 #[.int .i64 k, .slice A N c] w fun e w' => ∃ g svs, e = .returned (.tuple #[.slice (some ⟨g, 0, none⟩) n n, .int .i64 0]) ∧ Tab w' w.heap.size g n svs ∧ svs.length = n ∧
      (∀ j s, svs[j]? = some s → s.l = laneB n blk j l) ∧ Below w.heap.size w w' := by
  have HN := Lib.hid hN; have HR := Lib.hid hr; clear hN hr
  have hmk : ∀ (W : World), (Instr.makeSlice 76 (.int .i64 (n : Int)) (.int .i64 (n : Int))).run Tryz.prog W = .ok (.slice (some ⟨W.heap.size, 0, none⟩) n n) (W.alloc (.cells (madeCells #[cL.zero] n) 22)) := fun (W : World) => run_makeS cL_ok .i64 .i64 n n (Nat.le_refl _) (by show 24 * n ≤ _; omega) (by omega) W
  have hne : ((n : Int) == 0) = false := by simp; omega
  go_enter Tryz.func40, Tryz.ntmps40
  go_wp2_with fail
  refine (hC.out _).mono ?_
  rintro e w1 ⟨rfl, rfl⟩
  go_wp2
  clear hmk
  obtain ⟨H, hH⟩ : ∃ H, H = w.heap.size := ⟨_, rfl⟩
  have HH := Lib.hid hH
  rw [← hH]; clear hH
  go_loopw [8] (fun i wr => ∃ (k : Nat) (svs : List SV), k ≤ N ∧ i = .int .i64 k ∧ Tab wr H H n svs ∧ svs.length = n ∧ (∀ (j : Nat) (s : SV), svs[j]? = some s → s.l = laneB n blk j (l.take k)) ∧ Below H w wr) (fun i _ => N - (intOf i).toNat)
  case atStart =>
    have h1 : OS cL (w.alloc (.cells (madeCells #[cL.zero] n) 22)) H (some ⟨H, 0, none⟩) n (List.replicate n SV.none) := by
      rw [HH.out]
      exact OS.made (cd := cL) w n n SV.none rfl (Nat.le_refl _) (by unfold maxLen; omega) (Nat.le_refl _)
    refine ⟨0, List.replicate n SV.none, by omega, rfl, ⟨h1, Parts.none_ _ _ _⟩, by simp, fun j s hs => ?_, by rw [HH.out]; exact (Below.refl _ _).alloc (Nat.le_refl _) _⟩
    rw [List.getElem?_replicate] at hs
    split at hs
    · injection hs with hs; subst hs; rfl
    · cases hs
  case round =>
    obtain ⟨i, svs, hi, rfl, htab, hlen, hlane, hbw⟩ := hrel
    have HL := Lib.hid hlane; have HT := Lib.hid htab; have HN2 := Lib.hid hlen; clear hlane htab hlen
    by_cases hlt : i < N
    · obtain ⟨q, hq⟩ : ∃ q, q = i / blk := ⟨_, rfl⟩
      obtain ⟨j, hj⟩ : ∃ j, j = q % n := ⟨_, rfl⟩
      have hjn : j < n := by rw [hj]; exact Nat.mod_lt _ hn0
      have hqN : q ≤ N := by rw [hq]; exact Nat.le_trans (Nat.div_le_self _ _) hi
      have hq' : (i : Int) / (blk : Int) = (q : Int) := by rw [hq]; rfl
      have hj' : (q : Int) % (n : Int) = (j : Int) := by rw [hj]; rfl
      have HQ := Lib.hid hq; have HJ := Lib.hid hj; clear hq hj
      go_wp2_with fail
      refine (hB.out _).mono ?_
      rintro e w2 ⟨rfl, rfl⟩
      go_wp2
      obtain ⟨ad, x, rfl, -, ex, gx⟩ := (HR.out.at_ (k := i) (by rw [HN.out]; exact hlt))
      have EX := Lib.hid ex; clear ex
      have gx' : wr.cell? (ad.add i) = some (.int .u8 (byt x)) := by
        have := (HR.out.below (by rw [← HH.out]; exact hbw)).at_ (k := i) (by rw [HN.out]; exact hlt)
        obtain ⟨ad', x', e1, -, e2, e3⟩ := this
        injection e1 with e1; subst e1
        rw [EX.out] at e2; injection e2 with e2; subst e2
        exact e3
      clear gx
      obtain ⟨g, s, hg, -, hHlt, es, gs, gf⟩ := HT.out.row.at_ (k := j) (by rw [HN2.out]; exact hjn)
      injection hg with hg; injection hg with hg; subst hg
      change wr.cell? ⟨H, j, none⟩ = some (.slice s.A s.l.length s.c) at gs
      have ES := Lib.hid es; clear es
      have hos := HT.out.parts.own j s ES.out
      obtain ⟨sA, sc, sl⟩ := s
      dsimp only at gs hos
      obtain ⟨m, hm2⟩ : ∃ m, m = sl.length := ⟨_, rfl⟩
      rw [← hm2] at gs
      have HM := Lib.hid hm2; clear hm2
      have hsz : H ≤ wr.heap.size := by have := hbw.size; rw [← HH.out] at this; exact this
      have hmi : m ≤ i := by
        have h1 := HL.out j _ ES.out
        dsimp only at h1
        rw [HM.out, h1]
        exact Nat.le_trans (laneB_le _ _ _ _) (by simp; omega)
      go_region_law (refine step_appB1 _ rfl (.tmp 33) (.tmp 38) rfl (OS.drew (hos.alloc _)) rfl HM.out.symm rfl (cell_new_drew _ _ _) x rfl (by omega) (size_new_drew hsz) ?_; intro A3 c3 w3 hown3 hgrow hat; obtain ⟨gs3, gf3⟩ := (HT.out.alloc _).drew.far ES.out hgrow)
      all_goals
        have hput := (HT.out.alloc (.cells #[.int .u8 (byt x)] 5)).drew.put ES.out hgrow (t := ⟨A3, c3, sl ++ [x]⟩) hown3 hat
        have hv : (SV.mk A3 c3 (sl ++ [x])).v = .slice A3 (m + 1) c3 := by
          unfold SV.v
          dsimp only
          rw [List.length_append, ← HM.out]; rfl
        rw [hv] at hput
        have hbw3 : Below H w (w3.setCell ⟨H, j, none⟩ (.slice A3 (m + 1) c3)) := (below_app (hbw.alloc hsz (.cells #[.int .u8 (byt x)] 5)).drew (OS.drew (hos.alloc _)) hgrow (Nat.le_refl _) (size_new_drew hsz)).setCell (Nat.le_refl _) _
        clear hgrow hat hown3 gs3 gf3 hos gs gf gx'
        go_wp2
        go_roundw
        case rel =>
          refine ⟨i + 1, _, by omega, by go_num, hput, by rw [List.length_set]; exact HN2.out, fun j' s' hs' => ?_, hbw3⟩
          have e1 : l.take (i + 1) = l.take i ++ [x] := by rw [List.take_add_one, EX.out]; rfl
          rw [e1, laneB_snoc]
          have e2 : (l.take i).length = i := by rw [List.length_take, HN.out]; omega
          rw [e2, ← HQ.out, ← HJ.out]
          by_cases hjj : j = j'
          · subst hjj
            rw [List.getElem?_set_self (by rw [HN2.out]; exact hjn)] at hs'
            injection hs' with hs'; subst hs'
            rw [if_pos rfl]
            show sl ++ [x] = _
            rw [← HL.out j _ ES.out]
          · rw [List.getElem?_set_ne hjj] at hs'
            rw [if_neg hjj]
            exact HL.out j' s' hs'
        case measure => simp [intOf]; omega
    · go_wp2
      go_ret2
      have hHH := HH.out
      subst hHH
      refine ⟨_, svs, rfl, HT.out, HN2.out, fun j s hs => ?_, hbw⟩
      rw [HL.out j s hs, List.take_of_length_le (by rw [HN.out]; omega)]

theorem of_big (w : World) : Calls Tryz.prog 60 #[.int .i64 1] w fun e w' => e = .returned (.tuple #[.agg #[.int .i64 4, .int .i64 128, .int .i64 64], .bool true]) ∧ Below w.heap.size w w' := by
  go_enter Tryz.func60, Tryz.ntmps60
  go_wp2
  exact bodyPost_ret (v := .tuple #[.agg #[.int .i64 4, .int .i64 128, .int .i64 64], .bool true]) (by simp [results, Tryz.results60, go_sem]) rfl ⟨rfl, (Below.refl _ _).alloc (Nat.le_refl _) _⟩
theorem of_small (w : World) : Calls Tryz.prog 60 #[.int .i64 2] w fun e w' => e = .returned (.tuple #[.agg #[.int .i64 8, .int .i64 64, .int .i64 32], .bool true]) ∧ Below w.heap.size w w' := by
  go_enter Tryz.func60, Tryz.ntmps60
  go_wp2
  exact bodyPost_ret (v := .tuple #[.agg #[.int .i64 8, .int .i64 64, .int .i64 32], .bool true]) (by simp [results, Tryz.results60, go_sem]) rfl ⟨rfl, (Below.refl _ _).alloc (Nat.le_refl _) _⟩
theorem of_none (k : Int) (h1 : k ≠ 1) (h2 : k ≠ 2) (w : World) : Calls Tryz.prog 60 #[.int .i64 k] w fun e w' => e = .returned (.tuple #[.agg #[.int .i64 0, .int .i64 0, .int .i64 0], .bool false]) ∧ Below w.heap.size w w' := by
  have h1' : (k == 1) = false := by simpa using h1
  have h2' : (k == 2) = false := by simpa using h2
  clear h1 h2
  go_enter Tryz.func60, Tryz.ntmps60
  go_wp2
  exact bodyPost_ret (v := .tuple #[.agg #[.int .i64 0, .int .i64 0, .int .i64 0], .bool false]) (by simp [results, Tryz.results60, go_sem]) rfl ⟨rfl, (Below.refl _ _).alloc (Nat.le_refl _) _⟩

end Go.Proofs.YteeacbkhmofbeaaGreat

/-
  What the program's 'deal' does: pieces of the message are laid behind their lanes. Contracts alone; no statement is claimed here.
-/
import Derived.Test.YtghpofnaojbbkaaLaneS
namespace Go.Proofs.Ytghpofnaojbbkaa
open Go.RowKit

theorem min_facts (blk k N : Nat) (hb0 : 0 < blk) (hk : k < N) (m : Nat) (hm : m = min (blk - k % blk) (N - k)) :
    0 < m ∧ m ≤ N - k ∧ (∀ i, i < m → (k + i) / blk = k / blk) := by
  have h1 := Nat.mod_lt k hb0
  refine ⟨by omega, by omega, fun i hi => ?_⟩
  have h2 := Nat.div_add_mod k blk
  rw [Nat.div_eq_iff hb0]
  rw [Nat.mul_comm] at h2
  generalize k / blk = q at *
  generalize k % blk = r at *
  constructor
  · omega
  · omega

set_option maxHeartbeats 400000 in
theorem deal_any (n blk : Nat) (most : Int) (hn0 : 0 < n) (hn8 : n ≤ 8) (hb0 : 0 < blk) (hb1 : blk ≤ 128) (A : Option Addr) (c N base g : Nat) (l : List UInt8) (w : World) (hN : l.length = N) (hc : N ≤ c) (hcm : c ≤ 9223372036854775807) (hm : N ≤ 140737488355000)
    (hr : RS cB w base A l) (hbase : base ≤ w.heap.size) (svs : List SV) (htab : Tab w base g n svs) (hlen : svs.length = n) (h0 : ∀ (j : Nat) (s : SV), svs[j]? = some s → s.l = []) :
    Calls Try.prog 11 #[.agg #[.int .i64 n, .int .i64 blk, .int .i64 most], .slice (some ⟨g, 0, none⟩) n n, .slice A N c, .int .i64 0] w fun e w' => ∃ svs, e = .returned (.tuple #[]) ∧ Tab w' base g n svs ∧ svs.length = n ∧
      (∀ (j : Nat) (s : SV), svs[j]? = some s → s.l = laneB n blk j l) ∧ Below base w w' := by
  have HN := Lib.hid hN; have HR := Lib.hid hr; have HT := Lib.hid htab; have HLN := Lib.hid hlen; have H0 := Lib.hid h0; clear hN hr htab hlen h0
  go_enter Try.func11, Try.ntmps11
  go_wp2
  obtain ⟨b0, hb0e⟩ : ∃ b, b = w.heap.size := ⟨_, rfl⟩
  have HB := Lib.hid hb0e
  rw [← hb0e]; clear hb0e
  go_loopw [2, 3] (fun v i wr => ∃ (k r : Nat) (A' : Option Addr) (c' : Nat) (svs : List SV), k + r = N ∧ i = .int .i64 k ∧ v = .slice A' r c' ∧ r ≤ c' ∧ c' ≤ c ∧ RS cB wr base A' (l.drop k) ∧ Blk wr b0 41 #[.int .i64 n, .int .i64 blk, .int .i64 most] ∧ Tab wr base g n svs ∧ svs.length = n ∧ (∀ (j : Nat) (s : SV), svs[j]? = some s → s.l = laneB n blk j (l.take k)) ∧ Below base w wr ∧ base ≤ b0) (fun _ i _ => N - (intOf i).toNat)
  case atStart =>
    refine ⟨0, N, A, c, svs, by omega, rfl, rfl, hc, Nat.le_refl _, HR.out.alloc hbase _, by rw [HB.out]; exact Blk.new _ _ _, HT.out.alloc _, HLN.out, fun j s hs => by rw [H0.out j s hs]; rfl, (Below.refl _ _).alloc hbase _, by rw [HB.out]; exact hbase⟩
  case round =>
    clear HR HT HLN H0
    obtain ⟨k, r, A', c', svs', hkr, rfl, rfl, hrc, hcc, hrs, hblk, htab, hlen, hlane, hbw, hb0b⟩ := hrel
    have HKR := Lib.hid hkr; have HL := Lib.hid hlane; have HT := Lib.hid htab; have HLN := Lib.hid hlen; have HR := Lib.hid hrs; have HBK := Lib.hid hblk
    have hkN : k ≤ N := by omega
    have hrN : r ≤ N := by omega
    clear hlane htab hlen hrs hblk
    by_cases hlt : 0 < r
    · obtain ⟨p, hp⟩ : ∃ p, p = blk - k % blk := ⟨_, rfl⟩
      have hkb := Nat.mod_lt k hb0
      have hp1 : 0 < p := by omega
      have hp2 : p ≤ 128 := by omega
      have hp' : (blk : Int) - (k : Int) % (blk : Int) = (p : Int) := by omega
      obtain ⟨hm0, hmr, hmq⟩ := min_facts blk k N hb0 (by omega) (min p r) (by rw [hp, ← hkr]; congr 1; omega)
      obtain ⟨q, hq⟩ : ∃ q, q = k / blk := ⟨_, rfl⟩
      obtain ⟨j, hj⟩ : ∃ j, j = q % n := ⟨_, rfl⟩
      have hjn : j < n := by rw [hj]; exact Nat.mod_lt _ hn0
      have hqN : q ≤ N := by rw [hq]; exact Nat.le_trans (Nat.div_le_self _ _) hkN
      have hq' : (k : Int) / (blk : Int) = (q : Int) := by rw [hq]; rfl
      have hj' : (q : Int) % (n : Int) = (j : Int) := by rw [hj]; rfl
      have hj'' : (q : Int).tmod (n : Int) = (j : Int) := by rw [hj]; rfl
      have hq'' : (k : Int).tdiv (blk : Int) = (q : Int) := by rw [hq]; rfl
      rw [← hq] at hmq
      have HMQ := Lib.hid hmq; have HJ := Lib.hid hj; clear hq hj hmq hm0 hmr hp hkr hkb
      have gc0 : wr.cell? ⟨b0, 0, none⟩ = some (.int .i64 n) := HBK.out.cell 0
      have gc1 : wr.cell? ⟨b0, 1, none⟩ = some (.int .i64 blk) := HBK.out.cell 1
      obtain ⟨g', s, hg, -, hHlt, es, gs, gf⟩ := HT.out.row.at_ (k := j) (by rw [HLN.out]; exact hjn)
      injection hg with hg; injection hg with hg; subst hg
      change wr.cell? ⟨g, j, none⟩ = some (.slice s.A s.l.length s.c) at gs
      have ES := Lib.hid es; clear es
      have hos := HT.out.parts.own j s ES.out
      obtain ⟨sA, sc, sl⟩ := s
      dsimp only at gs hos
      obtain ⟨z, hz⟩ : ∃ z, z = sl.length := ⟨_, rfl⟩
      rw [← hz] at gs
      have hzk : z ≤ k := by
        have h1 := HL.out j _ ES.out
        dsimp only at h1
        rw [hz, h1]
        exact Nat.le_trans (laneB_le _ _ _ _) (by simp; omega)
      have HZ := Lib.hid hz; clear hz
      have hsz : base ≤ wr.heap.size := Nat.le_trans hb0b (Nat.le_of_lt HBK.out.lt)
      rcases Nat.lt_or_ge r p with hrp | hrp
      · obtain ⟨m, rfl⟩ : ∃ m, m = r := ⟨_, rfl⟩
        rw [Nat.min_eq_right (by omega)] at HMQ
        go_wp2
        go_quiet (fail)
        go_wp2
        go_quiet (fail)
        go_wp2
        have HLM : Hid (((l.drop k).take m).length = m) := by
          have h1 := HKR.out; have h2 := HN.out
          show ((l.drop k).take m).length = m
          simp; omega
        go_region_law (refine step_appB (m := (l.drop k).take m) _ rfl (.tmp 35) (.tmp 38) rfl (by exact hos) rfl HZ.out.symm (B := base) (by exact HR.out.take m) rfl HLM.out (by omega) (by exact hsz) ?_; intro A3 c3 w3 hown3 hgrow hat; replace hgrow := grown_undrewN hgrow; obtain ⟨gs3, gf3⟩ := HT.out.far ES.out hgrow)
        all_goals
          have hput := HT.out.put ES.out hgrow (t := ⟨A3, c3, sl ++ (l.drop k).take m⟩) hown3 hat
          have hv : (SV.mk A3 c3 (sl ++ (l.drop k).take m)).v = .slice A3 (z + m) c3 := by
            unfold SV.v
            dsimp only
            rw [List.length_append, ← HZ.out, HLM.out]
          rw [hv] at hput
          have hbw3 : Below base w (w3.setCell ⟨g, j, none⟩ (.slice A3 (z + m) c3)) := (below_app hbw hos hgrow (Nat.le_refl _) hsz).setCell (by show base ≤ g; exact (HT.out.row.block_lt _ rfl).1) _
          have hblk3 : Blk (w3.setCell ⟨g, j, none⟩ (.slice A3 (z + m) c3)) b0 41 #[.int .i64 n, .int .i64 blk, .int .i64 most] := (HBK.out.grown hgrow (hos.ne_row HBK.out (by decide))).far (p := ⟨g, j, none⟩) (fun e => HT.out.row.ne_blk HBK.out (by decide) _ rfl e.symm) _
          have hrs3 : RS cB (w3.setCell ⟨g, j, none⟩ (.slice A3 (z + m) c3)) base A' (l.drop k) := HR.out.keep fun p hp => by
            rw [World.cell?_setCell_other _ _ _ _ (fun e => by subst e; have := (HT.out.row.block_lt _ rfl).1; simp at hp this; omega)]
            exact World.cell?_of_block (hgrow.block _ (by omega) (fun e => by
              cases sA with
              | none => cases e
              | some a => simp at e; have := (hos.block_lt a rfl).1; omega))
          clear hgrow hat hown3 gs3 gf3 hos gs gf gc0 gc1
          go_wp2
          go_roundw
          case rel =>
            have hN := HN.out
            have hkr := HKR.out
            refine ⟨k + m, _, _, _, _, ?_, by go_num, rfl, ?_, ?_, ?_, hblk3, hput, by rw [List.length_set]; exact HLN.out, ?_, hbw3, hb0b⟩
            · omega
            · omega
            · omega
            · have := hrs3.cut (k := m) (cap := c') (by simp; omega) (by simp; omega)
              rwa [List.drop_drop] at this
            · intro j' s' hs'
              have e1 : l.take (k + m) = l.take k ++ (l.drop k).take m := by rw [List.take_add]
              have e2 : (l.take k).length = k := by rw [List.length_take]; omega
              rw [e1, laneB_piece n blk j' q _ _ (fun i hi => by rw [e2]; exact HMQ.out i (by rw [HLM.out] at hi; exact hi)), ← HJ.out]
              by_cases hjj : j = j'
              · subst hjj
                rw [List.getElem?_set_self (by rw [HLN.out]; exact hjn)] at hs'
                injection hs' with hs'; subst hs'
                rw [if_pos rfl]
                show sl ++ _ = _
                rw [← HL.out j _ ES.out]
              · rw [List.getElem?_set_ne hjj] at hs'
                rw [if_neg hjj]
                exact HL.out j' s' hs'
          case measure => simp [intOf]; have := HKR.out; omega
      · obtain ⟨m, rfl⟩ : ∃ m, m = p := ⟨_, rfl⟩
        rw [Nat.min_eq_left (by omega)] at HMQ
        have hrp' : ¬ r < m := by omega
        have hmc : m ≤ c' := by omega
        go_wp2
        go_quiet (fail)
        go_wp2
        go_quiet (fail)
        go_wp2
        have HLM : Hid (((l.drop k).take m).length = m) := by
          have h1 := HKR.out; have h2 := HN.out
          show ((l.drop k).take m).length = m
          simp; omega
        go_region_law (refine step_appB (m := (l.drop k).take m) _ rfl (.tmp 35) (.tmp 38) rfl (by exact hos) rfl HZ.out.symm (B := base) (by exact HR.out.take m) rfl HLM.out (by omega) (by exact hsz) ?_; intro A3 c3 w3 hown3 hgrow hat; replace hgrow := grown_undrewN hgrow; obtain ⟨gs3, gf3⟩ := HT.out.far ES.out hgrow)
        all_goals
          have hput := HT.out.put ES.out hgrow (t := ⟨A3, c3, sl ++ (l.drop k).take m⟩) hown3 hat
          have hv : (SV.mk A3 c3 (sl ++ (l.drop k).take m)).v = .slice A3 (z + m) c3 := by
            unfold SV.v
            dsimp only
            rw [List.length_append, ← HZ.out, HLM.out]
          rw [hv] at hput
          have hbw3 : Below base w (w3.setCell ⟨g, j, none⟩ (.slice A3 (z + m) c3)) := (below_app hbw hos hgrow (Nat.le_refl _) hsz).setCell (by show base ≤ g; exact (HT.out.row.block_lt _ rfl).1) _
          have hblk3 : Blk (w3.setCell ⟨g, j, none⟩ (.slice A3 (z + m) c3)) b0 41 #[.int .i64 n, .int .i64 blk, .int .i64 most] := (HBK.out.grown hgrow (hos.ne_row HBK.out (by decide))).far (p := ⟨g, j, none⟩) (fun e => HT.out.row.ne_blk HBK.out (by decide) _ rfl e.symm) _
          have hrs3 : RS cB (w3.setCell ⟨g, j, none⟩ (.slice A3 (z + m) c3)) base A' (l.drop k) := HR.out.keep fun p hp => by
            rw [World.cell?_setCell_other _ _ _ _ (fun e => by subst e; have := (HT.out.row.block_lt _ rfl).1; simp at hp this; omega)]
            exact World.cell?_of_block (hgrow.block _ (by omega) (fun e => by
              cases sA with
              | none => cases e
              | some a => simp at e; have := (hos.block_lt a rfl).1; omega))
          clear hgrow hat hown3 gs3 gf3 hos gs gf gc0 gc1
          go_wp2
          go_roundw
          case rel =>
            have hN := HN.out
            have hkr := HKR.out
            refine ⟨k + m, _, _, _, _, ?_, by go_num, rfl, ?_, ?_, ?_, hblk3, hput, by rw [List.length_set]; exact HLN.out, ?_, hbw3, hb0b⟩
            · omega
            · omega
            · omega
            · have := hrs3.cut (k := m) (cap := c') (by simp; omega) (by simp; omega)
              rwa [List.drop_drop] at this
            · intro j' s' hs'
              have e1 : l.take (k + m) = l.take k ++ (l.drop k).take m := by rw [List.take_add]
              have e2 : (l.take k).length = k := by rw [List.length_take]; omega
              rw [e1, laneB_piece n blk j' q _ _ (fun i hi => by rw [e2]; exact HMQ.out i (by rw [HLM.out] at hi; exact hi)), ← HJ.out]
              by_cases hjj : j = j'
              · subst hjj
                rw [List.getElem?_set_self (by rw [HLN.out]; exact hjn)] at hs'
                injection hs' with hs'; subst hs'
                rw [if_pos rfl]
                show sl ++ _ = _
                rw [← HL.out j _ ES.out]
              · rw [List.getElem?_set_ne hjj] at hs'
                rw [if_neg hjj]
                exact HL.out j' s' hs'
          case measure => simp [intOf]; have := HKR.out; omega
    · have e0 : r = 0 := by omega
      subst e0
      have hkr := HKR.out
      go_wp2
      go_end0
      refine ⟨svs', rfl, HT.out, HLN.out, fun j s hs => ?_, hbw⟩
      rw [HL.out j s hs, List.take_of_length_le (by rw [HN.out]; omega)]
end Go.Proofs.Ytghpofnaojbbkaa

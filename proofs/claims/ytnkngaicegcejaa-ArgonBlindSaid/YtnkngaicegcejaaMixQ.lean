/-
  Mix and Over, of the reference. Contracts alone; no statement is claimed here.
-/
import Derived.Test.YtnkngaicegcejaaMixR
import Derived.Test.YtnkngaicegcejaaMixN
namespace Go.Proofs.Ytnkngaicegcejaa
open Go.RowKit
attribute [local go_sem] pureUpon Ords.of

/-- places, filled from the left -/
def fillI (z : List Nat) (k n : Nat) : List Nat := z.take k ++ List.replicate (n - k) 0
theorem ics_set (l : List Nat) (i x : Nat) : (ics l).setIfInBounds i (icv x) = ics (l.set i x) := by simp [ics, List.map_set]
theorem fillI_put (z : List Nat) (k n v : Nat) (hk : k < n) (hz : z[k]? = some v) : (ics (fillI z k n)).setIfInBounds k (icv v) = ics (fillI z (k + 1) n) := by
  rw [ics_set]; unfold fillI; rw [fill_put z k n 0 v hk hz]
theorem fillI_all (z : List Nat) (n : Nat) (hz : z.length = n) : fillI z n n = z := by unfold fillI; rw [Nat.sub_self, List.replicate_zero, List.append_nil, List.take_of_length_le (by omega)]
theorem fillI_len (z : List Nat) (k n : Nat) (hk : k ≤ n) (hz : z.length = n) : (fillI z k n).length = n := fill_len z k n 0 hk hz
def zi16 : Array Value := #[.int .i64 0, .int .i64 0, .int .i64 0, .int .i64 0, .int .i64 0, .int .i64 0, .int .i64 0, .int .i64 0, .int .i64 0, .int .i64 0, .int .i64 0, .int .i64 0, .int .i64 0, .int .i64 0, .int .i64 0, .int .i64 0]
theorem zi16_eq (z : List Nat) : zi16 = ics (fillI z 0 16) := by unfold zi16; kernel_rfl
theorem szi16 (l : List Nat) (h : l.length = 16) : (Try.prog.info? 107).map (·.size) = some (ics l).size := by rw [ics_size, h]; kernel_rfl
theorem ics_get (l : List Nat) (i : Nat) (h : i < l.length) : (ics l)[i]? = some (icv (l.getD i 0)) := by
  simp [ics, List.getElem?_map, List.getElem?_eq_getElem h]
theorem atP_at (p : Nat → Nat) (k : Nat) (h : k < 16) : (atP p)[k]? = some (p k) := by simp [atP, h]

set_option maxRecDepth 20000 in
set_option maxHeartbeats 8000000 in
theorem mixR_yes (A1 A2 : Option Addr) (c1 c2 : Nat) (x y : List UInt8) (w : World) (hx : x.length = 1024) (hy : y.length = 1024) (hr1 : RS cB w w.heap.size A1 x) (hr2 : RS cB w w.heap.size A2 y) :
    Calls Try.prog 37 #[.slice A1 1024 c1, .slice A2 1024 c2] w fun e w' => ∃ A c, e = .returned (.tuple #[.slice A 1024 c, .int .i64 0]) ∧ OS cB w' w.heap.size A c (mixB x y) ∧ Below w.heap.size w w' := by
  have hM := mixB_ref x y hx hy
  have hXl : (xorB x y).length = 1024 := by rw [xorB_len x y (hy.trans hx.symm), hx]
  have HM := Lib.hid hM; have HX := Lib.hid hx; have HY := Lib.hid hy; have HR1 := Lib.hid hr1; have HR2 := Lib.hid hr2; clear hM hx hy hr1 hr2
  obtain ⟨R, hR⟩ : ∃ R, R = xorB x y := ⟨_, rfl⟩
  rw [← hR] at hXl HM
  have HRl := Lib.hid hXl; have HRe := Lib.hid hR; clear hXl hR
  go_enter Try.func37, Try.ntmps37
  go_wp2_with fail
  refine (xorR_yes A1 A2 c1 c2 x y w HX.out HY.out HR1.out HR2.out).mono ?_
  rintro e w1 ⟨Ar, cr, rfl, hor, hb1⟩
  rw [← HRe.out] at hor
  have HOR := Lib.hid hor; have HB1 := Lib.hid hb1; clear hor hb1
  have hRR : Hid (RS cB w1 w1.heap.size Ar R) := HOR.out.reads
  have HZL : Hid ((wordsOf R 128).length = 128) := wordsOf_len R 128
  obtain ⟨Z, hZ⟩ : ∃ Z, Z = wordsOf R 128 := ⟨_, rfl⟩
  rw [← hZ] at HZL
  have HZ := Lib.hid hZ; clear hZ
  go_wp2_with fail
  go_loopw [8, 9] (fun o i wr => ∃ (k : Nat) (A : Option Addr) (c : Nat), k ≤ 128 ∧ i = .int .i64 k ∧ o = .slice A k c ∧ OS cW wr w1.heap.size A c (Z.take k) ∧ Below w1.heap.size w1 wr) (fun _ i _ => 128 - (intOf i).toNat)
  case atStart => exact ⟨0, none, 0, by omega, rfl, rfl, OS.nil _ _ _ rfl, b0 _⟩
  case round =>
    obtain ⟨k, A, c, hk, rfl, rfl, hos, hbw⟩ := hrel
    have HO := Lib.hid hos; clear hos
    by_cases hlt : k < 128
    · have hl := refLoad_any Ar cr 1024 (8 * k) 8 w1.heap.size R wr HRl.out (by omega) (hRR.out.below hbw) (by omega) (by omega)
      have e8 : ((8 * k : Nat) : Int) = 8 * (k : Int) := by omega
      rw [e8, show ((8 : Nat) : Int) = 8 from rfl] at hl
      obtain ⟨v, hv⟩ : ∃ v, v = word ((R.drop (8 * k)).take 8) := ⟨_, rfl⟩
      have hzk : Z[k]? = some v := by rw [HZ.out, wordsOf_at R 128 k hlt, ← hv]
      rw [← hv] at hl
      have HL := Lib.hid hl; have HZK := Lib.hid hzk; clear hl hv e8 hzk
      have hlen : Hid ((Z.take k).length = k) := by show _ = _; rw [List.length_take, HZL.out]; omega
      go_wp2_with (first
        | (go_at_call 70; refine HL.out.mono ?_; rintro e w2 ⟨rfl, rfl⟩)
        | (at_builtin; refine wpList_appS _ cW_ok rfl (.tmp 40) (.tmp 42) rfl (HO.out.alloc _) rfl hlen.out (RS.one' (cd := cW) (x := v) (cnew _ _ _ rfl)) rfl rfl (by show (k + 1) * 8 ≤ _; omega) (by omega) (by have := hbw.size; simp; omega) ?_; intro A3 c3 w3 hown3 hgrow hat; have hw3 := bapp (bal hbw _) (HO.out.alloc _) hgrow; have HO3 := Lib.hid hown3; clear hown3 hgrow hat))
      go_roundw
      case rel =>
        refine ⟨k + 1, A3, c3, by omega, by go_num, rfl, ?_, hw3⟩
        rw [List.take_add_one, HZK.out]
        exact HO3.out
      case measure => simp [intOf]; omega
    · obtain rfl : k = 128 := by omega
      rw [show ((128 : Nat) : Int) = 128 from rfl]
      clear hlt hk
      have ho := HO.out
      rw [List.take_of_length_le (Nat.le_of_eq HZL.out)] at ho
      clear HO
      rcases ho.form with ⟨-, -, h0⟩ | ⟨g, rfl, hgw, -, -, -⟩
      · rw [h0] at HZL; have := HZL.out; simp at this
      have HO : Hid (OS cW wr w1.heap.size (some ⟨g, 0, none⟩) c (rowsTo Z 0)) := ho
      clear ho
      obtain ⟨cz, rfl⟩ : ∃ cz, cz = c := ⟨_, rfl⟩
      go_wp2_with fail
      go_loopw [12] (fun j wr => ∃ n : Nat, n ≤ 8 ∧ j = .int .i64 n ∧ OS cW wr w1.heap.size (some ⟨g, 0, none⟩) cz (rowsTo Z n) ∧ Below w1.heap.size w1 wr) (fun j _ => 8 - (intOf j).toNat)
      case atStart => exact ⟨0, by omega, rfl, HO.out, hbw⟩
      case round =>
        clear HO hbw
        obtain ⟨n, hn, rfl, hb1, hbw⟩ := hrel
        have HC1 := Lib.hid hb1; have HGW := Lib.hid hbw; clear hb1 hbw
        by_cases hlt : n < 8
        · obtain ⟨wo, rfl⟩ : ∃ wo : World, wo = wr := ⟨_, rfl⟩
          have hnd : decide ((n : Int) < 8) = true := by simp; omega
          go_upto_region 14 with fail
          obtain ⟨p, hp⟩ : ∃ p, p = rowAt n := ⟨_, rfl⟩
          have hp16 : ∀ k, k < 16 → p k < 128 := by intro k hk; rw [hp]; exact rowAt_lt hlt hk
          have d0 : Blk (wo.alloc (.cells zi16 107)) wo.heap.size 107 (ics (fillI (atP p) 0 16)) := by rw [← zi16_eq]; exact Blk.new _ _ _
          have d1 := HC1.out.alloc (.cells zi16 107)
          have d2 : Below w1.heap.size w1 (wo.alloc (.cells zi16 107)) := bal HGW.out _
          have hgo : g < wo.heap.size := (HC1.out.block_lt _ rfl).2
          have hwo : w1.heap.size ≤ wo.heap.size := HGW.out.size
          obtain ⟨b, hb⟩ : ∃ b, b = wo.heap.size := ⟨_, rfl⟩
          rw [← hb] at d0 hgo hwo ⊢
          have D0 := Lib.hid d0; have D1 := Lib.hid d1; have D2 := Lib.hid d2; have HPP := Lib.hid hp; have HP6 := Lib.hid hp16; clear d0 d1 d2 hb hp hp16
          unfold zi16 at D0 D1 D2
          generalize wo.alloc (.cells #[.int .i64 0, .int .i64 0, .int .i64 0, .int .i64 0, .int .i64 0, .int .i64 0, .int .i64 0, .int .i64 0, .int .i64 0, .int .i64 0, .int .i64 0, .int .i64 0, .int .i64 0, .int .i64 0, .int .i64 0, .int .i64 0] 107) = wz at *
          go_wp2_with fail
          go_loopw [14] (fun j wr => ∃ k : Nat, k ≤ 16 ∧ j = .int .i64 k ∧ Blk wr b 107 (ics (fillI (atP p) k 16)) ∧ OS cW wr w1.heap.size (some ⟨g, 0, none⟩) cz (rowsTo Z n) ∧ Below w1.heap.size w1 wr) (fun j _ => 16 - (intOf j).toNat)
          case atStart => exact ⟨0, by omega, rfl, D0.out, D1.out, D2.out⟩
          case round =>
            clear D0 D1 D2
            obtain ⟨k, hk, rfl, hb0, hb1, hbw⟩ := hrel
            have HK0 := Lib.hid hb0; have HK1 := Lib.hid hb1; have HKW := Lib.hid hbw; clear hb0 hb1 hbw
            by_cases hl6 : k < 16
            · obtain ⟨q, hq⟩ : ∃ q, q = p k := ⟨_, rfl⟩
              have hqp : (atP p)[k]? = some q := by rw [atP_at p k hl6, hq]
              have e6 : 16 * (n : Int) + k = q := by rw [hq, HPP.out]; unfold rowAt; omega
              have hq9 : q < 128 := by rw [hq]; exact HP6.out k hl6
              have HQP := Lib.hid hqp; clear hqp hq
              have gc : wr.cell? ⟨b, k, none⟩ = some (icv ((fillI (atP p) k 16).getD k 0)) := (HK0.out.cell k).trans (ics_get _ _ (by rw [fillI_len _ _ _ hk (atP_len p)]; exact hl6))
              have gf : wr.frozen? ⟨b, k, none⟩ = false := HK0.out.frozen k
              generalize icv ((fillI (atP p) k 16).getD k 0) = old at gc
              have hkd : decide ((k : Int) < 16) = true := by simp; omega
              have hki : (k : Int) < 16 := by omega
              go_wp2
              case roundEnd =>
                have h1 := HK0.out.set_ k (icv q)
                rw [fillI_put _ k 16 q hl6 HQP.out] at h1
                exact ⟨⟨k + 1, by omega, by go_num, h1, HK1.out.setFar (p := ⟨b, k, none⟩) (fun a ha => by injection ha with ha; subst ha; show g ≠ b; omega) _, bput HKW.out hwo _⟩, by simp [intOf]; omega⟩
            · obtain rfl : k = 16 := by omega
              clear hl6 hk
              have h1 := HK0.out
              rw [fillI_all _ 16 (atP_len p)] at h1
              have K0 := Lib.hid h1; clear h1
              have S1 := Lib.hid (szi16 (atP p) (atP_len p))
              have U := Lib.hid Try.underlying107
              have hzl : (rowsTo Z n).length = 128 := by rw [rowsTo_len, HZL.out]
              have HZL := Lib.hid hzl; clear hzl
              go_wp2_with (first
                | (refine wpList_load_row rfl 107 _ rfl b rfl 107 (ics (atP p)) (0, 0) _ K0.out U.out rfl S1.out ?_)
                | (go_at_call 71; refine (putR_any g cz w1.heap.size p _ _ HZL.out HP6.out HK1.out).mono ?_; rintro e w6 ⟨rfl, hz6, hg6⟩; have HZ6 := Lib.hid hz6; have HG6 := Lib.hid hg6; clear hz6 hg6))
              go_roundw
              case rel =>
                refine ⟨n + 1, by omega, by go_num, ?_, bgr HKW.out HG6.out hgw⟩
                have h2 := HZ6.out
                rw [HPP.out] at h2
                exact h2
              case measure => simp [intOf]; omega
        · obtain rfl : n = 8 := by omega
          rw [show ((8 : Nat) : Int) = 8 from rfl]
          clear hlt hn
          obtain ⟨Z1, hZ1⟩ : ∃ Z1, Z1 = rowsTo Z 8 := ⟨_, rfl⟩
          have hc1 : OS cW wr w1.heap.size (some ⟨g, 0, none⟩) cz (colsTo Z1 0) := by rw [hZ1]; exact HC1.out
          have HZ1 := Lib.hid hZ1
          have HZ1l : Hid (Z1.length = 128) := by show _ = _; rw [hZ1, rowsTo_len, HZL.out]
          have HE1 := Lib.hid hc1; clear hZ1 hc1 HC1
          go_wp2_with fail
          go_loopw [15] (fun j wr => ∃ n : Nat, n ≤ 8 ∧ j = .int .i64 n ∧ OS cW wr w1.heap.size (some ⟨g, 0, none⟩) cz (colsTo Z1 n) ∧ Below w1.heap.size w1 wr) (fun j _ => 8 - (intOf j).toNat)
          case atStart => exact ⟨0, by omega, rfl, HE1.out, HGW.out⟩
          case round =>
            clear HE1 HGW
            obtain ⟨n, hn, rfl, hb1, hbw⟩ := hrel
            have HC1 := Lib.hid hb1; have HGW := Lib.hid hbw; clear hb1 hbw
            by_cases hlt : n < 8
            · obtain ⟨wo, rfl⟩ : ∃ wo : World, wo = wr := ⟨_, rfl⟩
              have hnd : decide ((n : Int) < 8) = true := by simp; omega
              go_upto_region 23 with fail
              obtain ⟨p, hp⟩ : ∃ p, p = colAt n := ⟨_, rfl⟩
              have hp16 : ∀ k, k < 16 → p k < 128 := by intro k hk; rw [hp]; exact colAt_lt hlt hk
              have d0 : Blk (wo.alloc (.cells zi16 107)) wo.heap.size 107 (ics (fillI (atP p) 0 16)) := by rw [← zi16_eq]; exact Blk.new _ _ _
              have d1 := HC1.out.alloc (.cells zi16 107)
              have d2 : Below w1.heap.size w1 (wo.alloc (.cells zi16 107)) := bal HGW.out _
              have hgo : g < wo.heap.size := (HC1.out.block_lt _ rfl).2
              have hwo : w1.heap.size ≤ wo.heap.size := HGW.out.size
              obtain ⟨b, hb⟩ : ∃ b, b = wo.heap.size := ⟨_, rfl⟩
              rw [← hb] at d0 hgo hwo ⊢
              have D0 := Lib.hid d0; have D1 := Lib.hid d1; have D2 := Lib.hid d2; have HPP := Lib.hid hp; have HP6 := Lib.hid hp16; clear d0 d1 d2 hb hp hp16
              unfold zi16 at D0 D1 D2
              generalize wo.alloc (.cells #[.int .i64 0, .int .i64 0, .int .i64 0, .int .i64 0, .int .i64 0, .int .i64 0, .int .i64 0, .int .i64 0, .int .i64 0, .int .i64 0, .int .i64 0, .int .i64 0, .int .i64 0, .int .i64 0, .int .i64 0, .int .i64 0] 107) = wz at *
              go_wp2_with fail
              go_loopw [17] (fun j wr => ∃ k : Nat, k ≤ 16 ∧ j = .int .i64 k ∧ Blk wr b 107 (ics (fillI (atP p) k 16)) ∧ OS cW wr w1.heap.size (some ⟨g, 0, none⟩) cz (colsTo Z1 n) ∧ Below w1.heap.size w1 wr) (fun j _ => 16 - (intOf j).toNat)
              case atStart => exact ⟨0, by omega, rfl, D0.out, D1.out, D2.out⟩
              case round =>
                clear D0 D1 D2
                obtain ⟨k, hk, rfl, hb0, hb1, hbw⟩ := hrel
                have HK0 := Lib.hid hb0; have HK1 := Lib.hid hb1; have HKW := Lib.hid hbw; clear hb0 hb1 hbw
                by_cases hl6 : k < 16
                · obtain ⟨q, hq⟩ : ∃ q, q = p k := ⟨_, rfl⟩
                  have hqp : (atP p)[k]? = some q := by rw [atP_at p k hl6, hq]
                  obtain ⟨u, r, q1, q2, q3, q4, b1, b2, e6⟩ : ∃ u r : Nat, (k : Int).tdiv 2 = (u : Int) ∧ (k : Int) / 2 = (u : Int) ∧ (k : Int).tmod 2 = (r : Int) ∧ (k : Int) % 2 = (r : Int) ∧ u < 8 ∧ r < 2 ∧ 2 * (n : Int) + 16 * u + r = q := ⟨k / 2, k % 2, rfl, rfl, rfl, rfl, by omega, by omega, by rw [hq, HPP.out]; unfold colAt; omega⟩
                  have hq9 : q < 128 := by rw [hq]; exact HP6.out k hl6
                  have HQP := Lib.hid hqp; clear hqp hq
                  have gc : wr.cell? ⟨b, k, none⟩ = some (icv ((fillI (atP p) k 16).getD k 0)) := (HK0.out.cell k).trans (ics_get _ _ (by rw [fillI_len _ _ _ hk (atP_len p)]; exact hl6))
                  have gf : wr.frozen? ⟨b, k, none⟩ = false := HK0.out.frozen k
                  generalize icv ((fillI (atP p) k 16).getD k 0) = old at gc
                  have hkd : decide ((k : Int) < 16) = true := by simp; omega
                  have hki : (k : Int) < 16 := by omega
                  go_wp2
                  case roundEnd =>
                    have h1 := HK0.out.set_ k (icv q)
                    rw [fillI_put _ k 16 q hl6 HQP.out] at h1
                    exact ⟨⟨k + 1, by omega, by go_num, h1, HK1.out.setFar (p := ⟨b, k, none⟩) (fun a ha => by injection ha with ha; subst ha; show g ≠ b; omega) _, bput HKW.out hwo _⟩, by simp [intOf]; omega⟩
                · obtain rfl : k = 16 := by omega
                  clear hl6 hk
                  have h1 := HK0.out
                  rw [fillI_all _ 16 (atP_len p)] at h1
                  have K0 := Lib.hid h1; clear h1
                  have S1 := Lib.hid (szi16 (atP p) (atP_len p))
                  have U := Lib.hid Try.underlying107
                  have hzl : (colsTo Z1 n).length = 128 := by rw [colsTo_len, HZ1l.out]
                  have HZL := Lib.hid hzl; clear hzl
                  go_wp2_with (first
                    | (refine wpList_load_row rfl 107 _ rfl b rfl 107 (ics (atP p)) (0, 0) _ K0.out U.out rfl S1.out ?_)
                    | (go_at_call 71; refine (putR_any g cz w1.heap.size p _ _ HZL.out HP6.out HK1.out).mono ?_; rintro e w6 ⟨rfl, hz6, hg6⟩; have HZ6 := Lib.hid hz6; have HG6 := Lib.hid hg6; clear hz6 hg6))
                  go_roundw
                  case rel =>
                    refine ⟨n + 1, by omega, by go_num, ?_, bgr HKW.out HG6.out hgw⟩
                    have h2 := HZ6.out
                    rw [HPP.out] at h2
                    exact h2
                  case measure => simp [intOf]; omega
            · obtain rfl : n = 8 := by omega
              rw [show ((8 : Nat) : Int) = 8 from rfl]
              clear hlt hn
              obtain ⟨Z2, hZ2⟩ : ∃ Z2, Z2 = colsTo Z1 8 := ⟨_, rfl⟩
              have HZ2l : Hid (Z2.length = 128) := by show _ = _; rw [hZ2, colsTo_len, HZ1l.out]
              have hm : Z2 = mixZ Z := by rw [hZ2, HZ1.out]; rfl
              have HZM := Lib.hid hm
              have hc1 := HC1.out
              rw [← hZ2] at hc1
              have HE1 := Lib.hid hc1.reads; clear hZ2 hc1 HC1 hm
              obtain ⟨w4, rfl⟩ : ∃ w4 : World, w4 = wr := ⟨_, rfl⟩
              go_wp2_with fail
              go_loopw [18, 19] (fun o i wr => ∃ (k : Nat) (A : Option Addr) (c n : Nat), k ≤ 128 ∧ i = .int .i64 k ∧ n = 8 * k ∧ o = .slice A n c ∧ OS cB wr w4.heap.size A c (flat (Z2.take k)) ∧ Below w4.heap.size w4 wr) (fun _ i _ => 128 - (intOf i).toNat)
              case atStart => exact ⟨0, none, 0, 0, by omega, rfl, rfl, rfl, OS.nil _ _ _ rfl, b0 _⟩
              case round =>
                obtain ⟨k, A, c, n, hk, rfl, hn, rfl, hos, hbw⟩ := hrel
                have HO := Lib.hid hos; have HN := Lib.hid hn; clear hos hn
                by_cases hlt : k < 128
                · obtain ⟨ag, v, eg, -, ev, gv⟩ := (HE1.out.below hbw).at_ (k := k) (by rw [HZ2l.out]; exact hlt)
                  injection eg with eg; subst eg
                  have ea : (⟨g, 0, none⟩ : Addr).add k = ⟨g, k, none⟩ := by simp [Addr.add]; intro h; rw [h]
                  rw [ea] at gv
                  change wr.cell? ⟨g, k, none⟩ = some (.int .u64 (wrd v)) at gv
                  clear ea
                  have EV := Lib.hid ev; clear ev
                  have hst := refStore_any v 8 (by omega)
                  rw [show ((8 : Nat) : Int) = 8 from rfl] at hst
                  have HST := Lib.hid hst; clear hst
                  have hlen : Hid ((flat (Z2.take k)).length = n) := by show _ = _; rw [flat_len, List.length_take, HZ2l.out, HN.out]; omega
                  have hn8 : n ≤ 1024 := by have := HN.out; omega
                  go_wp2_with (first
                    | (go_at_call 72; refine (HST.out _).mono ?_; rintro e w5 ⟨A5, c5, rfl, ho5, hb5⟩; have HO5 := Lib.hid ho5; clear ho5)
                    | (at_builtin; refine wpList_appB _ rfl (.tmp 87) (.tmp 92) rfl (HO.out.below hb5 (Nat.le_refl _)) rfl hlen.out HO5.out.reads rfl (storeN_len _ _) (by omega) (by have := hbw.size; have := hb5.size; omega) ?_; intro A3 c3 w3 hown3 hgrow hat; have hw3 := bapp (bcall hbw hb5) (HO.out.below hb5 (Nat.le_refl _)) hgrow; have HO3 := Lib.hid hown3; clear hown3 hgrow hat))
                  go_roundw
                  case rel =>
                    refine ⟨k + 1, A3, c3, n + 8, by omega, by go_num, by have := HN.out; omega, rfl, ?_, hw3⟩
                    rw [List.take_add_one, EV.out]
                    show OS cB _ _ _ _ (flat (Z2.take k ++ [v]))
                    rw [flat_snoc]
                    exact HO3.out
                  case measure => simp [intOf]; omega
                · obtain rfl : k = 128 := by omega
                  have hn := HN.out
                  subst hn
                  rw [show ((128 : Nat) : Int) = 128 from rfl]
                  clear hlt hk
                  have ho := HO.out
                  rw [List.take_of_length_le (Nat.le_of_eq HZ2l.out)] at ho
                  have HF := Lib.hid ho; clear ho HO
                  have hfl : (flat Z2).length = 1024 := by rw [flat_len, HZ2l.out]
                  have HFL := Lib.hid hfl; clear hfl
                  have hbb : Below w1.heap.size w1 wr := bcall HGW.out hbw
                  go_wp2_with (go_at_call 34; refine (xorR_yes Ar A cr c R (flat Z2) wr HRl.out HFL.out ((hRR.out.below hbb).more hbb.size) HF.out.reads).mono ?_; rintro e w9 ⟨A9, c9, rfl, ho9, hb9⟩; have HO9 := Lib.hid ho9; clear ho9)
                  have h2 := HO9.out.mono (Nat.le_trans HB1.out.size hbb.size)
                  rw [HZM.out, HZ.out, HM.out] at h2
                  exact bodyPost_ret (results_tmp2 rfl _ _ _) rfl ⟨A9, c9, rfl, h2, bcall (bcall HB1.out hbb) hb9⟩

theorem mixR_no (A1 A2 : Option Addr) (n1 n2 c1 c2 : Nat) (h : (n1 == 1024 && n2 == 1024) = false) (w : World) :
    Calls Try.prog 37 #[.slice A1 n1 c1, .slice A2 n2 c2] w fun e w' => e = .returned (.tuple #[.slice none 0 0, .int .i64 1]) ∧ Below w.heap.size w w' := by
  have hx := xorR_no A1 A2 n1 n2 c1 c2 h w
  have HX := Lib.hid hx; clear hx h
  go_enter Try.func37, Try.ntmps37
  go_wp2_with (go_at_call 34; refine HX.out.mono ?_; rintro e w1 ⟨rfl, hb1⟩)
  exact bodyPost_ret (results_tmp2 rfl _ _ _) rfl ⟨rfl, hb1⟩

theorem overR_no1 (A1 A2 A3 : Option Addr) (n1 n2 n3 c1 c2 c3 : Nat) (h : (n1 == 1024 && n2 == 1024) = false) (w : World) :
    Calls Try.prog 39 #[.slice A1 n1 c1, .slice A2 n2 c2, .slice A3 n3 c3] w fun e w' => e = .returned (.tuple #[.slice none 0 0, .int .i64 1]) ∧ Below w.heap.size w w' := by
  have hx := mixR_no A1 A2 n1 n2 c1 c2 h w
  have HX := Lib.hid hx; clear hx h
  go_enter Try.func39, Try.ntmps39
  go_wp2_with (go_at_call 37; refine HX.out.mono ?_; rintro e w1 ⟨rfl, hb1⟩)
  exact bodyPost_ret (results_tmp2 rfl _ _ _) rfl ⟨rfl, hb1⟩
theorem overR_no2 (A1 A2 A3 : Option Addr) (n3 c1 c2 c3 : Nat) (x y : List UInt8) (h3 : ¬ n3 = 1024) (w : World) (hx : x.length = 1024) (hy : y.length = 1024) (hr1 : RS cB w w.heap.size A1 x) (hr2 : RS cB w w.heap.size A2 y) :
    Calls Try.prog 39 #[.slice A1 1024 c1, .slice A2 1024 c2, .slice A3 n3 c3] w fun e w' => e = .returned (.tuple #[.slice none 0 0, .int .i64 1]) ∧ Below w.heap.size w w' := by
  have hm := mixR_yes A1 A2 c1 c2 x y w hx hy hr1 hr2
  have HX := Lib.hid hm; clear hm hx hy hr1 hr2
  have h4 : ((n3 : Int) != 1024) = true := by simp; omega
  clear h3
  go_enter Try.func39, Try.ntmps39
  go_wp2_with (go_at_call 37; refine HX.out.mono ?_; rintro e w1 ⟨A, c, rfl, ho, hb1⟩)
  exact bodyPost_ret (results_tmp2 rfl _ _ _) rfl ⟨rfl, hb1⟩
theorem overR_yes (A1 A2 A3 : Option Addr) (c1 c2 c3 : Nat) (x y z : List UInt8) (w : World) (hx : x.length = 1024) (hy : y.length = 1024) (hz : z.length = 1024) (hr1 : RS cB w w.heap.size A1 x) (hr2 : RS cB w w.heap.size A2 y) (hr3 : RS cB w w.heap.size A3 z) :
    Calls Try.prog 39 #[.slice A1 1024 c1, .slice A2 1024 c2, .slice A3 1024 c3] w fun e w' => ∃ A c, e = .returned (.tuple #[.slice A 1024 c, .int .i64 0]) ∧ OS cB w' w.heap.size A c (xorB (mixB x y) z) ∧ Below w.heap.size w w' := by
  have hm := mixR_yes A1 A2 c1 c2 x y w hx hy hr1 hr2
  have HX := Lib.hid hm; have HZ := Lib.hid hz; have HR3 := Lib.hid hr3; clear hm hx hy hz hr1 hr2 hr3
  go_enter Try.func39, Try.ntmps39
  go_wp2_with fail
  refine HX.out.mono ?_
  rintro e w1 ⟨A, c, rfl, ho, hb1⟩
  have HO := Lib.hid ho; clear ho
  go_wp2_with fail
  refine (xorR_yes A A3 c c3 (mixB x y) z _ (mixB_len x y) HZ.out HO.out.reads ((HR3.out.below hb1).more hb1.size)).mono ?_
  rintro e w2 ⟨A4, c4, rfl, ho4, hb2⟩
  have HO4 := Lib.hid ho4; clear ho4
  go_wp2_with fail
  exact bodyPost_ret (results_tmp2 rfl _ _ _) rfl ⟨A4, c4, rfl, HO4.out.mono hb1.size, bcall hb1 hb2⟩
section
variable (A1 A2 A3 : Option Addr) (n1 n2 n3 c1 c2 c3 : Nat) (x y z : List UInt8) (w : World) (h1 : x.length = n1) (h2 : y.length = n2) (hr1 : RS cB w w.heap.size A1 x) (hr2 : RS cB w w.heap.size A2 y)
include h1 h2 hr1 hr2
theorem mixR_any : Calls Try.prog 37 #[.slice A1 n1 c1, .slice A2 n2 c2] w (Ans (blk2 x y) (mixB x y) w) := by
  subst h1; subst h2
  refine ans_of (fun h => mixB_len x y) (fun h => ?_) (fun h => mixR_no A1 A2 _ _ c1 c2 h w)
  rw [(blk2_yes h).1, (blk2_yes h).2]; exact mixR_yes A1 A2 c1 c2 x y w (blk2_yes h).1 (blk2_yes h).2 hr1 hr2
theorem overR_any (h3 : z.length = n3) (hr3 : RS cB w w.heap.size A3 z) : Calls Try.prog 39 #[.slice A1 n1 c1, .slice A2 n2 c2, .slice A3 n3 c3] w (Ans (blk3 x y z) (xorB (mixB x y) z) w) := by
  subst h1; subst h2; subst h3
  refine ans_of (fun h => ?_) (fun h => ?_) (fun h => ?_)
  · rw [xorB_len _ z ((blk3_yes h).2.2.trans (mixB_len x y).symm), mixB_len]
  · rw [(blk3_yes h).1, (blk3_yes h).2.1, (blk3_yes h).2.2]; exact overR_yes A1 A2 A3 c1 c2 c3 x y z w (blk3_yes h).1 (blk3_yes h).2.1 (blk3_yes h).2.2 hr1 hr2 hr3
  · cases hb : blk2 x y with
    | false => exact overR_no1 A1 A2 A3 _ _ _ c1 c2 c3 hb w
    | true =>
      have hz : ¬ z.length = 1024 := by
        intro hz
        have h1 := blk2_yes hb
        simp [blk3, h1.1, h1.2, hz] at h
      rw [(blk2_yes hb).1, (blk2_yes hb).2]
      exact overR_no2 A1 A2 A3 _ c1 c2 c3 x y hz w (blk2_yes hb).1 (blk2_yes hb).2 hr1 hr2
end
end Go.Proofs.Ytnkngaicegcejaa

/-
  ArgonAddresses and ArgonBlind, the laws. Contracts alone; no statement is claimed here.
-/
import Derived.Test.YtnkngaicegcejaaAdrT
import Derived.Test.YtnkngaicegcejaaApartG
namespace Go.Proofs.Ytnkngaicegcejaa
open Go.RowKit
attribute [local go_sem] pureUpon Ords.of

set_option maxRecDepth 20000 in
set_option maxHeartbeats 4000000 in
theorem addresses_law (a : Ar) (p s l x : Int) (j : UInt64) (w : World) :
    Calls Try.prog 12 #[a.v, .agg #[.int .i64 p, .int .i64 s, .int .i64 l, .int .i64 x, .int .u64 (wrd j)]] w fun e w' => e = .returned (.bool true) ∧ Below w.heap.size w w' := by
  have hp := addressesP_any a p s l
  have hr := addressesR_any a p s l
  generalize adrE a p s l = d at *
  generalize adrR a p s l = R at *
  obtain ⟨k, m, pp, ll, t⟩ := a
  unfold Ar.v at *
  dsimp only at *
  have HP := Lib.hid hp; have HR := Lib.hid hr; clear hp hr
  go_enter Try.func12, Try.ntmps12
  go_upto_region 1 with fail
  have d0 : Blk ((w.alloc (.cells #[.int .i64 k, .int .i64 m, .int .i64 pp, .int .i64 ll, .int .i64 t] 49)).alloc (.cells #[.int .i64 p, .int .i64 s, .int .i64 l, .int .i64 x, .int .u64 (wrd j)] 51)) w.heap.size 49 #[.int .i64 k, .int .i64 m, .int .i64 pp, .int .i64 ll, .int .i64 t] := (Blk.new _ _ _).alloc _
  have d1 : Blk ((w.alloc (.cells #[.int .i64 k, .int .i64 m, .int .i64 pp, .int .i64 ll, .int .i64 t] 49)).alloc (.cells #[.int .i64 p, .int .i64 s, .int .i64 l, .int .i64 x, .int .u64 (wrd j)] 51)) (w.heap.size + 1) 51 #[.int .i64 p, .int .i64 s, .int .i64 l, .int .i64 x, .int .u64 (wrd j)] := by simpa using Blk.new (w.alloc (.cells #[.int .i64 k, .int .i64 m, .int .i64 pp, .int .i64 ll, .int .i64 t] 49)) 51 #[.int .i64 p, .int .i64 s, .int .i64 l, .int .i64 x, .int .u64 (wrd j)]
  have d2 := bal (bal (b0 w) (.cells #[.int .i64 k, .int .i64 m, .int .i64 pp, .int .i64 ll, .int .i64 t] 49)) (.cells #[.int .i64 p, .int .i64 s, .int .i64 l, .int .i64 x, .int .u64 (wrd j)] 51)
  obtain ⟨g, hg⟩ : ∃ g, g = w.heap.size := ⟨_, rfl⟩
  rw [← hg] at d0 d1 ⊢
  generalize (w.alloc (.cells #[.int .i64 k, .int .i64 m, .int .i64 pp, .int .i64 ll, .int .i64 t] 49)).alloc (.cells #[.int .i64 p, .int .i64 s, .int .i64 l, .int .i64 x, .int .u64 (wrd j)] 51) = w0 at *
  have hg0 := d0.lt; have hg1 := d1.lt
  have D0 := Lib.hid d0; have D1 := Lib.hid d1; have D2 := Lib.hid d2; have HG := Lib.hid hg; clear d0 d1 d2 hg
  have c0w0 : w0.cell? ⟨g, 0, none⟩ = some (.int .i64 k) := (D0.out).cell 0; have c1w0 : w0.cell? ⟨g, 1, none⟩ = some (.int .i64 m) := (D0.out).cell 1; have c2w0 : w0.cell? ⟨g, 2, none⟩ = some (.int .i64 pp) := (D0.out).cell 2; have c3w0 : w0.cell? ⟨g, 3, none⟩ = some (.int .i64 ll) := (D0.out).cell 3; have c4w0 : w0.cell? ⟨g, 4, none⟩ = some (.int .i64 t) := (D0.out).cell 4
  have s0w0 : w0.cell? ⟨g + 1, 0, none⟩ = some (.int .i64 p) := (D1.out).cell 0; have s1w0 : w0.cell? ⟨g + 1, 1, none⟩ = some (.int .i64 s) := (D1.out).cell 1; have s2w0 : w0.cell? ⟨g + 1, 2, none⟩ = some (.int .i64 l) := (D1.out).cell 2
  go_wp2_with fail
  refine (HR.out _).mono ?_
  rintro e w1 ⟨Aw, n, cw, rfl, hn, hnm, how, hb1⟩
  clear c0w0 c1w0 c2w0 c3w0 c4w0
  clear s0w0 s1w0 s2w0
  have HN := Lib.hid hn; have HW := Lib.hid how.reads; have HB1 := Lib.hid hb1; clear hn how hb1
  go_wp2_with fail
  go_loopw [7] (fun i wr => ∃ q : Nat, q ≤ 2 ∧ i = .int .i64 q ∧ Below w1.heap.size w1 wr) (fun i _ => 2 - (intOf i).toNat)
  case atStart => exact ⟨0, by omega, rfl, b0 _⟩
  case round =>
    obtain ⟨q, hq, rfl, hbw⟩ := hrel
    have HBW := Lib.hid hbw; clear hbw
    by_cases hlt : q < 2
    · have hqd : decide ((q : Int) < 2) = true := by simp; omega
      have hb2 := HB1.out.trans (HBW.out.mono HB1.out.size)
      have c0wr : wr.cell? ⟨g, 0, none⟩ = some (.int .i64 k) := (D0.out.below hb2 hg0).cell 0; have c1wr : wr.cell? ⟨g, 1, none⟩ = some (.int .i64 m) := (D0.out.below hb2 hg0).cell 1; have c2wr : wr.cell? ⟨g, 2, none⟩ = some (.int .i64 pp) := (D0.out.below hb2 hg0).cell 2; have c3wr : wr.cell? ⟨g, 3, none⟩ = some (.int .i64 ll) := (D0.out.below hb2 hg0).cell 3; have c4wr : wr.cell? ⟨g, 4, none⟩ = some (.int .i64 t) := (D0.out.below hb2 hg0).cell 4
      have s0wr : wr.cell? ⟨g + 1, 0, none⟩ = some (.int .i64 p) := (D1.out.below hb2 hg1).cell 0; have s1wr : wr.cell? ⟨g + 1, 1, none⟩ = some (.int .i64 s) := (D1.out.below hb2 hg1).cell 1; have s2wr : wr.cell? ⟨g + 1, 2, none⟩ = some (.int .i64 l) := (D1.out.below hb2 hg1).cell 2
      go_wp2_with fail
      refine (HP.out _).mono ?_
      rintro e w2 ⟨A, n2, c, rfl, hn2, -, ho, hb3⟩
      clear c0wr c1wr c2wr c3wr c4wr
      clear s0wr s1wr s2wr
      have e2 := hn2.trans HN.out.symm
      subst e2
      have HO := Lib.hid ho; have HB3 := Lib.hid (bcall HBW.out hb3); have HS := Lib.hid HBW.out.size; clear hn2 ho hb3 hb2
      have HRW := Lib.hid (HW.out.below HB3.out)
      have hdd : (d != d) = false := by simp
      have hnn : ((n2 : Int) != (n2 : Int)) = false := by simp
      go_wp2_with fail
      go_loopw [10] (fun i wr => ∃ h z : Nat, h ≤ n2 ∧ i = .int .i64 h ∧ wr = w2.drewN z) (fun i _ => n2 - (intOf i).toNat)
      case atStart => exact ⟨0, 0, by omega, rfl, rfl⟩
      case round =>
        obtain ⟨h, z, hh, rfl, rfl⟩ := hrel
        by_cases hlh : h < n2
        · obtain ⟨a1, u, rfl, -, eu, gu⟩ := HRW.out.at_ (k := h) (by rw [← HN.out]; exact hlh)
          obtain ⟨g2, v, rfl, -, -, ev, gv, -⟩ := HO.out.at_ (k := h) (by rw [← HN.out]; exact hlh)
          rw [eu] at ev; injection ev with ev; subst ev
          change w2.cell? (a1.add h) = some (.int .u64 (wrd u)) at gu
          change w2.cell? ⟨g2, h, none⟩ = some (.int .u64 (wrd u)) at gv
          clear eu
          go_wp2
          go_quiet (fail)
          go_wp2
          go_roundw
          case rel => exact ⟨h + 1, z + nq, by omega, by go_num, by rw [← World.drewN_drewN]⟩
          case measure => simp [intOf]; omega
        · obtain rfl : h = n2 := by omega
          clear hlh hh hnn
          go_wp2_with fail
          go_loopw [11] (fun i wr => ∃ (h2 : Nat) (L : List UInt64), h2 ≤ h ∧ i = .int .i64 h2 ∧ L.length = h ∧ OS cW wr w1.heap.size A c L ∧ Below w1.heap.size w1 wr) (fun i _ => h - (intOf i).toNat)
          case atStart => exact ⟨0, R, by omega, rfl, HN.out.symm, (HO.out.mono HS.out).drewN z, bdr HB3.out z⟩
          case round =>
            obtain ⟨h2, L, hh2, rfl, hL, hos, hbw⟩ := hrel
            have HO2 := Lib.hid hos; have HLL := Lib.hid hL; clear hos hL
            by_cases hl2 : h2 < h
            · obtain ⟨g2, v, rfl, hgb, -, -, gv, gf⟩ := HO2.out.at_ (k := h2) (by rw [HLL.out]; exact hl2)
              change wr.cell? ⟨g2, h2, none⟩ = some (.int .u64 (wrd v)) at gv
              have hkd : decide ((h2 : Int) < h) = true := by simp; omega
              go_wp2
              case roundEnd =>
                have h1 := HO2.out.set h2 7
                exact ⟨⟨h2 + 1, L.set h2 7, by omega, by go_num, by rw [List.length_set]; exact HLL.out, h1, bput hbw hgb _⟩, by simp [intOf]; omega⟩
            · obtain rfl : h2 = h := by omega
              go_wp2_with fail
              go_roundw
              case rel => exact ⟨q + 1, by omega, by go_num, hbw⟩
              case measure => simp [intOf]; omega
    · obtain rfl : q = 2 := by omega
      go_wp2_with fail
      exact bodyPost_ret (results_tmp rfl _ _ _) rfl ⟨rfl, bcall (bcall D2.out HB1.out) HBW.out⟩

theorem adrR_tag (a : Ar) (p s l t : Int) (h1 : adrE a p s l = 0) (h2 : adrE { a with tag := t } p s l = 0) : a.ok ∧ adrR { a with tag := t } p s l = adrR a p s l ∧ (adrR a p s l).length = a.seg.toNat := by
  unfold adrE at h1 h2
  have ok1 : a.ok := by by_cases h : a.ok; exact h; rw [if_neg h] at h1; omega
  have ok2 : Ar.ok { a with tag := t } := by by_cases h : Ar.ok { a with tag := t }; exact h; rw [if_neg h] at h2; omega
  rw [if_pos ok1] at h1
  rw [if_pos ok2] at h2
  have b1 : ¬ adrBad a p s l := by intro h; rw [if_pos h] at h1; omega
  have b2 : ¬ adrBad { a with tag := t } p s l := by intro h; rw [if_pos h] at h2; omega
  unfold adrR
  rw [if_pos (show a.ok ∧ ¬ adrBad a p s l from ⟨ok1, b1⟩), if_pos (show Ar.ok { a with tag := t } ∧ ¬ adrBad { a with tag := t } p s l from ⟨ok2, b2⟩)]
  exact ⟨ok1, rfl, adrs_len a p s l⟩

set_option maxRecDepth 20000 in
set_option maxHeartbeats 4000000 in
theorem blind_law (a : Ar) (p s l x tag : Int) (j : UInt64) (w : World) :
    Calls Try.prog 13 #[a.v, .agg #[.int .i64 p, .int .i64 s, .int .i64 l, .int .i64 x, .int .u64 (wrd j)], .int .i64 tag] w fun e w' => e = .returned (.bool true) ∧ Below w.heap.size w w' := by
  have hp := addressesP_any a p s l
  have hr := addressesP_any { a with tag := tag } p s l
  have hq := adrR_tag a p s l tag
  have hcl := Columns_any a
  have hsr := fun (h : a.ok) => seg_range h
  generalize adrE a p s l = d at *
  generalize adrE { a with tag := tag } p s l = d2 at *
  generalize adrR a p s l = R at *
  generalize adrR { a with tag := tag } p s l = R2 at *
  obtain ⟨k, m, pp, ll, t⟩ := a
  unfold Ar.v at *
  dsimp only at hp hr hcl
  have HP := Lib.hid hp; have HR := Lib.hid hr; have HQ := Lib.hid hq; have HCL := Lib.hid hcl; have HSR := Lib.hid hsr; clear hp hr hq hcl hsr
  go_enter Try.func13, Try.ntmps13
  go_upto_region 1 with fail
  have d0 : Blk ((w.alloc (.cells #[.int .i64 k, .int .i64 m, .int .i64 pp, .int .i64 ll, .int .i64 t] 49)).alloc (.cells #[.int .i64 p, .int .i64 s, .int .i64 l, .int .i64 x, .int .u64 (wrd j)] 51)) w.heap.size 49 #[.int .i64 k, .int .i64 m, .int .i64 pp, .int .i64 ll, .int .i64 t] := (Blk.new _ _ _).alloc _
  have d1 : Blk ((w.alloc (.cells #[.int .i64 k, .int .i64 m, .int .i64 pp, .int .i64 ll, .int .i64 t] 49)).alloc (.cells #[.int .i64 p, .int .i64 s, .int .i64 l, .int .i64 x, .int .u64 (wrd j)] 51)) (w.heap.size + 1) 51 #[.int .i64 p, .int .i64 s, .int .i64 l, .int .i64 x, .int .u64 (wrd j)] := by simpa using Blk.new (w.alloc (.cells #[.int .i64 k, .int .i64 m, .int .i64 pp, .int .i64 ll, .int .i64 t] 49)) 51 #[.int .i64 p, .int .i64 s, .int .i64 l, .int .i64 x, .int .u64 (wrd j)]
  have d2' := bal (bal (b0 w) (.cells #[.int .i64 k, .int .i64 m, .int .i64 pp, .int .i64 ll, .int .i64 t] 49)) (.cells #[.int .i64 p, .int .i64 s, .int .i64 l, .int .i64 x, .int .u64 (wrd j)] 51)
  obtain ⟨g, hg⟩ : ∃ g, g = w.heap.size := ⟨_, rfl⟩
  rw [← hg] at d0 d1 ⊢
  generalize (w.alloc (.cells #[.int .i64 k, .int .i64 m, .int .i64 pp, .int .i64 ll, .int .i64 t] 49)).alloc (.cells #[.int .i64 p, .int .i64 s, .int .i64 l, .int .i64 x, .int .u64 (wrd j)] 51) = w0 at *
  have hg0 := d0.lt; have hg1 := d1.lt
  have D0 := Lib.hid d0; have D1 := Lib.hid d1; have D2 := Lib.hid d2'; have HG := Lib.hid hg; clear d0 d1 d2' hg
  go_wp2_with fail
  refine (alive20_any _).mono ?_
  rintro e w1 ⟨rfl, hb1⟩
  replace D0 := Lib.hid (D0.out.below hb1 hg0); replace D1 := Lib.hid (D1.out.below hb1 hg1); replace D2 := Lib.hid (bcall D2.out hb1)
  have c0w1 : w1.cell? ⟨g, 0, none⟩ = some (.int .i64 k) := (D0.out).cell 0; have c1w1 : w1.cell? ⟨g, 1, none⟩ = some (.int .i64 m) := (D0.out).cell 1; have c2w1 : w1.cell? ⟨g, 2, none⟩ = some (.int .i64 pp) := (D0.out).cell 2; have c3w1 : w1.cell? ⟨g, 3, none⟩ = some (.int .i64 ll) := (D0.out).cell 3; have c4w1 : w1.cell? ⟨g, 4, none⟩ = some (.int .i64 t) := (D0.out).cell 4
  have s0w1 : w1.cell? ⟨g + 1, 0, none⟩ = some (.int .i64 p) := (D1.out).cell 0; have s1w1 : w1.cell? ⟨g + 1, 1, none⟩ = some (.int .i64 s) := (D1.out).cell 1; have s2w1 : w1.cell? ⟨g + 1, 2, none⟩ = some (.int .i64 l) := (D1.out).cell 2
  go_wp2_with fail
  refine (HP.out _).mono ?_
  rintro e w2 ⟨A, n, c, rfl, hn, hnm, ho, hb2⟩
  clear c0w1 c1w1 c2w1 c3w1 c4w1
  clear s0w1 s1w1 s2w1
  have hz1 := D0.out.lt; have hz2 := D1.out.lt
  replace D0 := Lib.hid (D0.out.below hb2 hz1); replace D1 := Lib.hid (D1.out.below hb2 hz2); replace D2 := Lib.hid (bcall D2.out hb2)
  have HN := Lib.hid hn; have HO := Lib.hid ho.reads; clear hn ho hz1 hz2
  have c0w2 : w2.cell? ⟨g, 0, none⟩ = some (.int .i64 k) := (D0.out).cell 0; have c1w2 : w2.cell? ⟨g, 1, none⟩ = some (.int .i64 m) := (D0.out).cell 1; have c2w2 : w2.cell? ⟨g, 2, none⟩ = some (.int .i64 pp) := (D0.out).cell 2; have c3w2 : w2.cell? ⟨g, 3, none⟩ = some (.int .i64 ll) := (D0.out).cell 3; have c4w2 : w2.cell? ⟨g, 4, none⟩ = some (.int .i64 t) := (D0.out).cell 4
  have s0w2 : w2.cell? ⟨g + 1, 0, none⟩ = some (.int .i64 p) := (D1.out).cell 0; have s1w2 : w2.cell? ⟨g + 1, 1, none⟩ = some (.int .i64 s) := (D1.out).cell 1; have s2w2 : w2.cell? ⟨g + 1, 2, none⟩ = some (.int .i64 l) := (D1.out).cell 2
  have hgs : g < w2.heap.size := D0.out.lt
  have hgs1 : g + 1 < w2.heap.size := D1.out.lt
  go_wp2_with fail
  refine (HR.out _).mono ?_
  rintro e w3 ⟨A3, n3, c3, rfl, hn3, hnm3, ho3, hb3⟩
  clear c0w2 c1w2 c2w2 c3w2 c4w2
  clear s0w2 s1w2 s2w2
  have hba := bcall (bal (b0 w2) (.cells #[.int .i64 k, .int .i64 m, .int .i64 pp, .int .i64 ll, .int .i64 tag] 49)) hb3
  replace D0 := Lib.hid (D0.out.below hba hgs); replace D2 := Lib.hid (bcall D2.out hba)
  have HN3 := Lib.hid hn3; have HO3 := Lib.hid ho3.reads; replace HO := Lib.hid ((HO.out.below hba).more hba.size); clear hn3 ho3 hb3 hba hgs hgs1
  by_cases hd : d = 0
  · subst hd
    by_cases hd2 : d2 = 0
    · subst hd2
      obtain ⟨ok, e1, e2⟩ := HQ.out rfl rfl
      obtain ⟨g1, g2, _⟩ := HSR.out ok
      have hcl := HCL.out
      rw [if_pos ok, if_pos ok] at hcl
      obtain ⟨gN, hgN⟩ : ∃ gN : Nat, gN = Ar.seg { kind := k, mem := m, passes := pp, lanes := ll, tag := t } := ⟨(Ar.seg { kind := k, mem := m, passes := pp, lanes := ll, tag := t }).toNat, Int.toNat_of_nonneg (by omega)⟩
      rw [← hgN] at hcl e2 g1 g2
      have hn1 : n = gN := by rw [HN.out, e2]; omega
      have hn3 : n3 = gN := by rw [HN3.out, e1, e2]; omega
      rw [e1] at HO3
      subst hn1; subst hn3
      have e2 : Hid (R.length = n3) := by show _ = _; rw [e2]; omega
      have t1 : (4 * (n3 : Int)).tdiv 4 = n3 := by rw [Int.tdiv_eq_ediv_of_nonneg (by omega)]; omega
      have t2 : (4 * (n3 : Int)) / 4 = n3 := by omega
      have hnn : ((n3 : Int) != (n3 : Int)) = false := by simp
      clear HQ HSR HCL ok HN HN3 e1 hgN
      have HC := Lib.hid hcl; clear hcl
      have c0w3 : w3.cell? ⟨g, 0, none⟩ = some (.int .i64 k) := (D0.out).cell 0; have c1w3 : w3.cell? ⟨g, 1, none⟩ = some (.int .i64 m) := (D0.out).cell 1; have c2w3 : w3.cell? ⟨g, 2, none⟩ = some (.int .i64 pp) := (D0.out).cell 2; have c3w3 : w3.cell? ⟨g, 3, none⟩ = some (.int .i64 ll) := (D0.out).cell 3; have c4w3 : w3.cell? ⟨g, 4, none⟩ = some (.int .i64 t) := (D0.out).cell 4
      go_wp2_with fail
      refine (HC.out _).mono ?_
      rintro e w4 ⟨rfl, hb4⟩
      clear c0w3 c1w3 c2w3 c3w3 c4w3
      have HX := Lib.hid (HO.out.below hb4); have HY := Lib.hid (HO3.out.below hb4); replace D2 := Lib.hid (bcall D2.out hb4)
      clear HO HO3 hb4
      go_wp2_with fail
      go_loopw [14] (fun i wr => ∃ h z : Nat, h ≤ n3 ∧ i = .int .i64 h ∧ wr = w4.drewN z) (fun i _ => n3 - (intOf i).toNat)
      case atStart => exact ⟨0, 0, by omega, rfl, rfl⟩
      case round =>
        obtain ⟨h, z, hh, rfl, rfl⟩ := hrel
        by_cases hlh : h < n3
        · obtain ⟨a1, u, rfl, -, eu, gu⟩ := HX.out.at_ (k := h) (by rw [e2.out]; exact hlh)
          obtain ⟨a2, v, rfl, -, ev, gv⟩ := HY.out.at_ (k := h) (by rw [e2.out]; exact hlh)
          rw [eu] at ev; injection ev with ev; subst ev
          change w4.cell? (a1.add h) = some (.int .u64 (wrd u)) at gu
          change w4.cell? (a2.add h) = some (.int .u64 (wrd u)) at gv
          clear eu
          go_wp2
          go_quiet (fail)
          go_wp2
          go_roundw
          case rel => exact ⟨h + 1, z + nq, by omega, by go_num, by rw [← World.drewN_drewN]⟩
          case measure => simp [intOf]; omega
        · obtain rfl : h = n3 := by omega
          go_wp2_with fail
          exact bodyPost_ret (results_tmp rfl _ _ _) rfl ⟨rfl, bdr D2.out z⟩
    · have h2 : (d2 != 0) = true := by simpa using hd2
      clear hd2
      go_wp2_with fail
      exact bodyPost_ret (results_tmp rfl _ _ _) rfl ⟨rfl, D2.out⟩
  · have h2 : (d != 0) = true := by simpa using hd
    clear hd
    go_wp2_with fail
    exact bodyPost_ret (results_tmp rfl _ _ _) rfl ⟨rfl, D2.out⟩
end Go.Proofs.Ytnkngaicegcejaa

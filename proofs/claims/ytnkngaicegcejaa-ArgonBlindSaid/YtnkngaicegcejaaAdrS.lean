/-
  Addresses, of the reference. Contracts alone; no statement is claimed here.
-/
import Derived.Test.YtnkngaicegcejaaAdrR
namespace Go.Proofs.Ytnkngaicegcejaa
open Go.RowKit
attribute [local go_sem] pureUpon Ords.of

/-- the numbers of a setting and a spot as words -/
structure AdrKnown (a : Ar) (p s l : Int) (x0 x1 x2 x3 x4 x5 : UInt64) : Prop where
  e0 : p = wrd x0
  e1 : l = wrd x1
  e2 : s = wrd x2
  e3 : IntKind.i64.wrap (a.lanes * (4 * a.seg)) = wrd x3
  e4 : a.passes = wrd x4
  e5 : a.kind = wrd x5
  list : ∀ n, adrL a p s l n = [x0, x1, x2, x3, x4, x5, UInt64.ofNat n]
theorem adr_known {a : Ar} (h : a.ok) {p s l : Int} (hb : ¬ adrBad a p s l) : ∃ x0 x1 x2 x3 x4 x5, AdrKnown a p s l x0 x1 x2 x3 x4 x5 := by
  obtain ⟨h1, h2, _⟩ := seg_range h
  unfold Ar.ok at h
  unfold adrBad at hb
  obtain ⟨k0, k2, l1, l8, m1, m2, p1, p16, _, _⟩ := h
  have hp : a.lanes * (4 * a.seg) ≤ 8 * (4 * a.seg) := Int.mul_le_mul_of_nonneg_right l8 (by omega)
  have hp0 : 0 ≤ a.lanes * (4 * a.seg) := Int.mul_nonneg (by omega) (by omega)
  refine ⟨uw p, uw l, uw s, uw (a.lanes * (4 * a.seg)), uw a.passes, uw a.kind, ?_, ?_, ?_, ?_, ?_, ?_, fun _ => rfl⟩
  · rw [wrd_uw _ (by omega) (by omega)]
  · rw [wrd_uw _ (by omega) (by omega)]
  · rw [wrd_uw _ (by omega) (by omega)]
  · rw [wrd_uw _ (by omega) (by omega)]
    generalize a.lanes * (4 * a.seg) = q at *
    simp only [IntKind.wrap, IntKind.bits, IntKind.signed]
    simp
    omega
  · rw [wrd_uw _ (by omega) (by omega)]
  · rw [wrd_uw _ (by omega) (by omega)]

set_option maxRecDepth 20000 in
set_option maxHeartbeats 4000000 in
theorem addressesR_yes (a : Ar) (h : a.ok) (p s l : Int) (hb : ¬ adrBad a p s l) (w : World) :
    Calls Try.prog 42 #[a.v, .int .i64 p, .int .i64 s, .int .i64 l] w fun e w' => ∃ A c, e = .returned (.tuple #[.slice A a.seg.toNat c, .int .i64 0]) ∧ OS cW w' w.heap.size A c (adrs a p s l) ∧ Below w.heap.size w w' := by
  obtain ⟨x0, x1, x2, x3, x4, x5, K⟩ := adr_known h hb
  obtain ⟨hg1, hg2, _⟩ := seg_range h
  have hva := valid_any a
  have hco := refColumns_any a
  have hsg := refSegment_any h
  rw [if_pos h] at hva
  rw [if_pos h, if_pos h] at hco
  have had : ∀ (n : Nat) (w : World), n < 100 → Calls Try.prog 74 #[a.v, .int .i64 p, .int .i64 s, .int .i64 l, .int .i64 (4 * a.seg), .int .i64 n] w fun e w' => ∃ A c, e = .returned (.slice A 1024 c) ∧ OS cB w' w.heap.size A c (adrB (adrL a p s l n)) ∧ Below w.heap.size w w' := by
    intro n w hn
    rw [K.list n]
    exact addressR_any a.kind a.mem a.passes a.lanes a.tag p s l (4 * a.seg) n x0 x1 x2 x3 x4 x5 (UInt64.ofNat n) K.e0 K.e1 K.e2 K.e3 K.e4 K.e5 (by rw [wrd_ofNat]; omega) w
  have hal := adrs_len a p s l
  have haat := adrs_at a p s l
  unfold adrBad at hb
  obtain ⟨gN, hgN⟩ : ∃ gN : Nat, gN = a.seg.toNat := ⟨_, rfl⟩
  have hgi : a.seg = (gN : Int) := by omega
  rw [← hgN] at hal haat ⊢
  have hgN2 : gN ≤ 1024 := by omega
  obtain ⟨R, hR⟩ : ∃ R, R = adrs a p s l := ⟨_, rfl⟩
  rw [← hR] at hal haat ⊢
  rw [hgi] at hco hsg had
  have hn1 : ¬ p < 0 := by omega
  have hn2 : ¬ a.passes ≤ p := by omega
  have hn3 : ¬ s < 0 := by omega
  have hn4 : ¬ 3 < s := by omega
  have hn5 : ¬ l < 0 := by omega
  have hn6 : ¬ a.lanes ≤ l := by omega
  have HW : Hid (∀ x, adrW a p s l x = word (((adrB (adrL a p s l (x / 128 + 1))).drop (8 * (x % 128))).take 8)) := fun x => rfl
  generalize adrW a p s l = fW at *
  generalize adrL a p s l = fL at *
  clear hR K h hgN hgi hg1 hg2 hb
  obtain ⟨k, m, pp, ll, t⟩ := a
  unfold Ar.v at *
  dsimp only at *
  have HV := Lib.hid hva; have HC := Lib.hid hco; have HS := Lib.hid hsg; have HD := Lib.hid had; have HAL := Lib.hid hal; have HAT := Lib.hid haat; clear hva hco hsg had hal haat
  go_enter Try.func42, Try.ntmps42
  go_upto_region 1 with fail
  have d0 : Blk (w.alloc (.cells #[.int .i64 k, .int .i64 m, .int .i64 pp, .int .i64 ll, .int .i64 t] 49)) w.heap.size 49 #[.int .i64 k, .int .i64 m, .int .i64 pp, .int .i64 ll, .int .i64 t] := Blk.new _ _ _
  have d1 := bal (b0 w) (.cells #[.int .i64 k, .int .i64 m, .int .i64 pp, .int .i64 ll, .int .i64 t] 49)
  obtain ⟨g, hg⟩ : ∃ g, g = w.heap.size := ⟨_, rfl⟩
  rw [← hg] at d0 ⊢
  generalize w.alloc (.cells #[.int .i64 k, .int .i64 m, .int .i64 pp, .int .i64 ll, .int .i64 t] 49) = w0 at *
  have D0 := Lib.hid d0; have D1 := Lib.hid d1; have HG := Lib.hid hg; clear d0 d1 hg
  have c0w0 : w0.cell? ⟨g, 0, none⟩ = some (.int .i64 k) := D0.out.cell 0; have c1w0 : w0.cell? ⟨g, 1, none⟩ = some (.int .i64 m) := D0.out.cell 1; have c2w0 : w0.cell? ⟨g, 2, none⟩ = some (.int .i64 pp) := D0.out.cell 2; have c3w0 : w0.cell? ⟨g, 3, none⟩ = some (.int .i64 ll) := D0.out.cell 3; have c4w0 : w0.cell? ⟨g, 4, none⟩ = some (.int .i64 t) := D0.out.cell 4
  go_wp2_with fail
  refine (HV.out _).mono ?_
  rintro e w1 ⟨rfl, hb1⟩
  replace D0 := Lib.hid (D0.out.below hb1 D0.out.lt); replace D1 := Lib.hid (D1.out.trans (hb1.mono D1.out.size))
  have c0w1 : w1.cell? ⟨g, 0, none⟩ = some (.int .i64 k) := D0.out.cell 0; have c1w1 : w1.cell? ⟨g, 1, none⟩ = some (.int .i64 m) := D0.out.cell 1; have c2w1 : w1.cell? ⟨g, 2, none⟩ = some (.int .i64 pp) := D0.out.cell 2; have c3w1 : w1.cell? ⟨g, 3, none⟩ = some (.int .i64 ll) := D0.out.cell 3; have c4w1 : w1.cell? ⟨g, 4, none⟩ = some (.int .i64 t) := D0.out.cell 4
  go_wp2_with fail
  refine (HC.out _).mono ?_
  rintro e w2 ⟨rfl, hb2⟩
  replace D0 := Lib.hid (D0.out.below hb2 D0.out.lt); replace D1 := Lib.hid (D1.out.trans (hb2.mono D1.out.size))
  clear c0w0 c1w0 c2w0 c3w0 c4w0 c0w1 c1w1 c2w1 c3w1 c4w1 hb1 hb2
  go_wp2_with fail
  go_loopw [13, 14, 15] (fun o b i wr => ∃ (x : Nat) (A : Option Addr) (c : Nat) (Ab : Option Addr) (nb cb : Nat) (L : List UInt8), x ≤ gN ∧ i = .int .i64 x ∧ o = .slice A x c ∧ b = .slice Ab nb cb ∧ nb = L.length ∧ OS cW wr w.heap.size A c (R.take x) ∧ OS cB wr w.heap.size Ab cb L ∧ (¬ x % 128 = 0 → L = adrB (fL (x / 128 + 1))) ∧ Blk wr g 49 #[.int .i64 k, .int .i64 m, .int .i64 pp, .int .i64 ll, .int .i64 t] ∧ Below w.heap.size w wr) (fun _ _ i _ => gN - (intOf i).toNat)
  case atStart => exact ⟨0, none, 0, none, 0, 0, [], by omega, rfl, rfl, rfl, rfl, OS.nil _ _ _ rfl, OS.nil _ _ _ rfl, fun h => absurd rfl h, D0.out, D1.out⟩
  case round =>
    clear D0 D1
    obtain ⟨x, A, c, Ab, nb, cb, L, hx, rfl, rfl, rfl, hnb, hos, hob, hL, hbl, hbw⟩ := hrel
    have HO := Lib.hid hos; have HB := Lib.hid hob; have HNB := Lib.hid hnb; have HL := Lib.hid hL; have D0 := Lib.hid hbl; have D1 := Lib.hid hbw; clear hos hob hnb hL hbl hbw
    have c0wr : wr.cell? ⟨g, 0, none⟩ = some (.int .i64 k) := D0.out.cell 0; have c1wr : wr.cell? ⟨g, 1, none⟩ = some (.int .i64 m) := D0.out.cell 1; have c2wr : wr.cell? ⟨g, 2, none⟩ = some (.int .i64 pp) := D0.out.cell 2; have c3wr : wr.cell? ⟨g, 3, none⟩ = some (.int .i64 ll) := D0.out.cell 3; have c4wr : wr.cell? ⟨g, 4, none⟩ = some (.int .i64 t) := D0.out.cell 4
    go_wp2_with fail
    refine (HS.out _).mono ?_
    rintro e w3 ⟨rfl, hb3⟩
    replace D0 := Lib.hid (D0.out.below hb3 D0.out.lt); replace D1 := Lib.hid (D1.out.trans (hb3.mono D1.out.size)); replace HO := Lib.hid (HO.out.below hb3 (Nat.le_refl _)); replace HB := Lib.hid (HB.out.below hb3 (Nat.le_refl _))
    clear c0wr c1wr c2wr c3wr c4wr hb3
    by_cases hlt : x < gN
    · have hxd : decide ((x : Int) < gN) = true := by simp; omega
      have hxg : (x : Int) < gN := by omega
      obtain ⟨q, hq⟩ : ∃ q, q = x / 128 := ⟨_, rfl⟩
      obtain ⟨r, hr⟩ : ∃ r, r = x % 128 := ⟨_, rfl⟩
      have q1 : (x : Int).tdiv 128 = (q : Int) := by rw [hq]; rfl
      have q2 : (x : Int) / 128 = (q : Int) := by rw [hq]; rfl
      have q3 : (x : Int).tmod 128 = (r : Int) := by rw [hr]; rfl
      have q4 : (x : Int) % 128 = (r : Int) := by rw [hr]; rfl
      have hr8 : r < 128 := by rw [hr]; exact Nat.mod_lt _ (by omega)
      have hq8 : q ≤ 8 := by rw [hq]; omega
      have hRx := HAT.out x hlt
      rw [HW.out x, ← hq, ← hr] at hRx
      have hL := HL.out
      rw [← hq, ← hr] at hL
      have HQ := Lib.hid hq; have HRR := Lib.hid hr; have HRX := Lib.hid hRx; replace HL := Lib.hid hL; clear hq hr hRx hL
      have hlen : Hid ((R.take x).length = x) := by show _ = _; rw [List.length_take, HAL.out]; omega
      by_cases hr0 : r = 0
      · subst hr0
        rw [show ((0 : Nat) : Int) = 0 from rfl] at q3 q4
        have had := fun W => HD.out (q + 1) W (by omega)
        have c0w3 : w3.cell? ⟨g, 0, none⟩ = some (.int .i64 k) := D0.out.cell 0; have c1w3 : w3.cell? ⟨g, 1, none⟩ = some (.int .i64 m) := D0.out.cell 1; have c2w3 : w3.cell? ⟨g, 2, none⟩ = some (.int .i64 pp) := D0.out.cell 2; have c3w3 : w3.cell? ⟨g, 3, none⟩ = some (.int .i64 ll) := D0.out.cell 3; have c4w3 : w3.cell? ⟨g, 4, none⟩ = some (.int .i64 t) := D0.out.cell 4
        go_wp2_with fail
        have ea : ((q + 1 : Nat) : Int) = (q : Int) + 1 := by omega
        rw [ea] at had
        refine (had _).mono ?_
        rintro e w4 ⟨A4, c4, rfl, ho4, hb4⟩
        replace D0 := Lib.hid (D0.out.below hb4 D0.out.lt); replace HO := Lib.hid (HO.out.below hb4 (Nat.le_refl _))
        replace ho4 := ho4.mono D1.out.size
        replace D1 := Lib.hid (D1.out.trans (hb4.mono D1.out.size))
        obtain ⟨L4, hL4⟩ : ∃ L4, L4 = adrB (fL (q + 1)) := ⟨_, rfl⟩
        have HLB : Hid (L4.length = 1024) := by show _ = _; rw [hL4, adrB_len]
        rw [← hL4] at ho4
        have H4 := Lib.hid ho4; have HLE := Lib.hid hL4.symm; clear ho4 hb4 had ea hL4
        have hl := refLoad_any A4 c4 1024 0 8 w4.heap.size L4 w4 HLB.out (by omega) H4.out.reads (by omega) (by omega)
        rw [show ((8 : Nat) : Int) = 8 from rfl, show ((0 : Nat) : Int) = 0 from rfl] at hl
        obtain ⟨v, hv⟩ : ∃ v, v = word ((L4.drop (8 * 0)).take 8) := ⟨_, rfl⟩
        have hrx : R[x]? = some v := by rw [HRX.out, hv, HLE.out]
        first | rw [← hv] at hl | (have hv0 : v = word ((L4.drop 0).take 8) := hv; rw [← hv0] at hl; clear hv0)
        have HLO := Lib.hid hl; have HRV := Lib.hid hrx; have D2 : Hid (Below w.heap.size w w4) := D1; clear hl hrx hv
        go_wp2_with (first
          | (go_at_call 70; refine HLO.out.mono ?_; rintro e w5 ⟨rfl, rfl⟩)
          | (at_builtin; refine wpList_appS _ cW_ok rfl (.tmp 80) (.tmp 82) rfl (HO.out.alloc _) rfl hlen.out (RS.one' (cd := cW) (x := v) (cnew _ _ _ rfl)) rfl rfl (by show (x + 1) * 8 ≤ _; omega) (by omega) (by have := D2.out.size; simp; omega) ?_; intro A3 c3 w6 hown3 hgrow hat; have hw3 := bapp (bal D2.out _) (HO.out.alloc _) hgrow; have HO3 := Lib.hid hown3; have HG3 := Lib.hid hgrow; clear hown3 hgrow hat))
        go_roundw
        case rel =>
          refine ⟨x + 1, A3, c3, _, 1024, _, L4, by omega, by go_num, rfl, rfl, HLB.out.symm, ?_, (H4.out.alloc _).kept HG3.out (H4.out.ne_ HO.out (by decide)), fun h => ?_, (D0.out.alloc _).grown HG3.out (HO.out.ne_row D0.out (by decide)), hw3⟩
          · rw [List.take_add_one, HRV.out]; exact HO3.out
          · rw [← HLE.out]
            have h1 := HQ.out
            have : (x + 1) / 128 = q := by omega
            rw [this]
        case measure => simp [intOf]; omega
      · have hr1 : ((r : Int) == 0) = false := by simp; omega
        have hl4 := HL.out hr0
        obtain ⟨L4, hL4⟩ : ∃ L4, L4 = L := ⟨_, rfl⟩
        have HLB : Hid (L4.length = 1024) := by show _ = _; rw [hL4, hl4, adrB_len]
        have hnb : nb = 1024 := by rw [HNB.out, hl4, adrB_len]
        have HLE : Hid (adrB (fL (q + 1)) = L4) := by show _ = _; rw [hL4, hl4]
        subst hL4; subst hnb
        clear hl4
        have hl := refLoad_any Ab cb 1024 (8 * r) 8 w3.heap.size L4 w3 HLB.out (by omega) HB.out.reads (by omega) (by omega)
        have e8 : ((8 * r : Nat) : Int) = 8 * (r : Int) := by omega
        rw [e8, show ((8 : Nat) : Int) = 8 from rfl] at hl
        clear e8
        obtain ⟨v, hv⟩ : ∃ v, v = word ((L4.drop (8 * r)).take 8) := ⟨_, rfl⟩
        have hrx : R[x]? = some v := by rw [HRX.out, hv, HLE.out]
        first | rw [← hv] at hl | (have hv0 : v = word ((L4.drop 0).take 8) := hv; rw [← hv0] at hl; clear hv0)
        have HLO := Lib.hid hl; have HRV := Lib.hid hrx; have D2 : Hid (Below w.heap.size w w3) := D1; clear hl hrx hv
        go_wp2_with (first
          | (go_at_call 70; refine HLO.out.mono ?_; rintro e w5 ⟨rfl, rfl⟩)
          | (at_builtin; refine wpList_appS _ cW_ok rfl (.tmp 80) (.tmp 82) rfl (HO.out.alloc _) rfl hlen.out (RS.one' (cd := cW) (x := v) (cnew _ _ _ rfl)) rfl rfl (by show (x + 1) * 8 ≤ _; omega) (by omega) (by have := D2.out.size; simp; omega) ?_; intro A3 c3 w6 hown3 hgrow hat; have hw3 := bapp (bal D2.out _) (HO.out.alloc _) hgrow; have HO3 := Lib.hid hown3; have HG3 := Lib.hid hgrow; clear hown3 hgrow hat))
        go_roundw
        case rel =>
          refine ⟨x + 1, A3, c3, _, 1024, _, L4, by omega, by go_num, rfl, rfl, HLB.out.symm, ?_, (HB.out.alloc _).kept HG3.out (HB.out.ne_ HO.out (by decide)), fun h => ?_, (D0.out.alloc _).grown HG3.out (HO.out.ne_row D0.out (by decide)), hw3⟩
          · rw [List.take_add_one, HRV.out]; exact HO3.out
          · rw [← HLE.out]
            have h1 := HQ.out
            have : (x + 1) / 128 = q := by omega
            rw [this]
        case measure => simp [intOf]; omega
    · obtain rfl : x = gN := by omega
      go_wp2_with fail
      have ho := HO.out
      rw [List.take_of_length_le (Nat.le_of_eq HAL.out)] at ho
      exact bodyPost_ret (results_tmp2 rfl _ _ _) rfl ⟨A, c, rfl, ho, D1.out⟩
end Go.Proofs.Ytnkngaicegcejaa

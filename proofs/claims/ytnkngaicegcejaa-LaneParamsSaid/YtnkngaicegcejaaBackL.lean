/-
  LaneBack, the law. Contracts alone; no statement is claimed here.
-/
import Derived.Test.YtnkngaicegcejaaJoinL
import Derived.Test.YtnkngaicegcejaaLaneL
import Derived.Test.YtnkngaicegcejaaBackP
namespace Go.Proofs.Ytnkngaicegcejaa
open Go.RowKit

theorem lanCount_any (k n blk most : Int) (hof : Hid (∀ w : World, Calls Try.prog 46 #[.int .i64 k] w fun e w' => e = .returned (.tuple #[.agg #[.int .i64 n, .int .i64 blk, .int .i64 most], .bool true]) ∧ Below w.heap.size w w')) (w : World) :
    Calls Try.prog 60 #[.int .i64 k] w fun e w' => e = .returned (.tuple #[.int .i64 n, .int .i64 0]) ∧ Below w.heap.size w w' := by
  go_enter Try.func60, Try.ntmps60
  go_wp2_with (go_at_call 46; refine (hof.out _).mono ?_; rintro e w1 ⟨rfl, hbw1⟩; (first | refine withN hbw1 ?_ | refine withD hbw1 ?_ | refine with0 hbw1 ?_); intro hcw1 hfw1)
  exact bodyPost_ret (results_tmp2 rfl _ _ _) rfl ⟨rfl, bal hbw1 _⟩
theorem alive08_any (w : World) : Calls Try.prog 31 #[] w fun e w' => e = .returned (.bool true) ∧ Below w.heap.size w w' := by
  go_enter Try.func31, Try.ntmps31
  go_wp2_with (go_at_call 60; refine (lanCount_any 2 8 64 32 (Lib.hid of_small) _).mono ?_; rintro e w1 ⟨rfl, hbw1⟩; (first | refine withN hbw1 ?_ | refine withD hbw1 ?_ | refine with0 hbw1 ?_); intro hcw1 hfw1)
  exact bodyPost_ret (results_tmp rfl _ _ _) rfl ⟨rfl, hbw1⟩

theorem Tab.in2 {w : World} {base g c : Nat} {l : List SV} (h : Tab w base g c l) : In2 w w.heap.size (some ⟨g, 0, none⟩) l :=
  ⟨h.row.reads, fun i s hs => ⟨(h.parts.own i s hs).reads, (h.parts.own i s hs).len_le⟩⟩
theorem In2.drewN {w : World} {B : Nat} {A : Option Addr} {l : List SV} (h : In2 w B A l) (n : Nat) : In2 (w.drewN n) B A l := ⟨h.top.drewN n, fun i s hs => ⟨(h.each i s hs).1.drewN n, (h.each i s hs).2⟩⟩
theorem joinE_le {n blk : Nat} {ls : LL} (hl : ls.length = n) (h : joinE n blk ls = 0) : (joinL n blk ls).length = total ls := by
  unfold joinE at h
  rw [if_pos hl] at h
  split at h
  · rename_i hg; unfold joinL; rw [if_pos ⟨hl, hg⟩, joinTo_len]
  · omega
theorem lane_le {l : List SV} {i : Nat} {s : SV} (h : l[i]? = some s) : s.l.length ≤ total (lls l) := by
  have h1 := total_take l i s h; have h2 := total_le l (i + 1); omega
theorem lls_lanes {n : Nat} {l : List SV} {f : Nat → List UInt8} (hn : l.length = n) (h : ∀ (j : Nat) (s : SV), l[j]? = some s → s.l = f j) : ∀ j, j < n → (lls l).getD j [] = f j := fun j hj => by
  have : l[j]? = some (l[j]'(by omega)) := List.getElem?_eq_getElem (by omega)
  rw [lls_get this, h j _ this]

set_option maxHeartbeats 4000000 in
theorem back_kind (k : Int) (n blk : Nat) (most : Int) (hP : Pair n blk) (hk : k = 1 ∨ k = 2)
    (hof : Hid (∀ w : World, Calls Try.prog 46 #[.int .i64 k] w fun e w' => e = .returned (.tuple #[.agg #[.int .i64 n, .int .i64 blk, .int .i64 most], .bool true]) ∧ Below w.heap.size w w'))
    (A : Option Addr) (c N : Nat) (d : List UInt8) (B : Option Addr) (cb M : Nat) (l : List SV) (w : World) (hN : d.length = N) (hc : N ≤ c) (hcm : c ≤ maxLen) (hm : N ≤ 1048576) (hr : RS cB w w.heap.size A d)
    (hM : l.length = M) (hcb : M ≤ cb) (hl : In2 w w.heap.size B l) (ht : total (lls l) ≤ 1048576) :
    Calls Try.prog 8 #[.int .i64 k, .slice A N c, .slice B M cb] w fun e w' => e = .returned (.bool true) ∧ Below w.heap.size w w' := by
  have hn : 0 < n ∧ n ≤ 8 := by rcases hP with h | h <;> omega
  have hb : 0 < blk ∧ blk ≤ 128 := by rcases hP with h | h <;> omega
  unfold maxLen at hcm
  have HP := Lib.hid hP; have HN := Lib.hid hN; have HR := Lib.hid hr; have HM := Lib.hid hM; have HL := Lib.hid hl; have HT := Lib.hid ht; clear hP hN hr hM hl ht
  obtain ⟨n0, n8⟩ := hn; obtain ⟨b0', b8⟩ := hb
  have hJ := joinP_any k n blk most HP.out hof B cb M l
  have HJ := Lib.hid hJ; clear hJ
  obtain ⟨E, hE⟩ : ∃ E, E = joinE n blk (lls l) := ⟨_, rfl⟩
  obtain ⟨J, hJ⟩ : ∃ J, J = joinL n blk (lls l) := ⟨_, rfl⟩
  rw [← hE, ← hJ] at HJ
  have HE := Lib.hid hE; have HJJ := Lib.hid hJ; clear hE hJ
  rcases hk with rfl | rfl
  · go_enter Try.func8, Try.ntmps8
    go_wp2_with fail
    refine (alive08_any _).mono ?_
    rintro e w1 ⟨rfl, hb1⟩
    go_wp2_with fail
    refine (split_any 1 n blk most n0 n8 b0' b8 hof A c N d w1 HN.out hc hcm (by omega) ((HR.out.below hb1).more hb1.size)).mono ?_
    rintro e w2 ⟨g, svs, rfl, htab, hlen, hlane, hb2⟩
    have HTB := Lib.hid htab; have HLN := Lib.hid hlen; have HLA := Lib.hid hlane; clear htab hlen hlane
    have hbk := back_yes n0 (lls svs) d (by simp [lls, HLN.out]) (lls_lanes HLN.out HLA.out)
    have htt := (back n0 (lls svs) d (by simp [lls, HLN.out]) (lls_lanes HLN.out HLA.out)).1
    have hJ2 := joinP_any 1 n blk most HP.out hof (some ⟨g, 0, none⟩) n n svs w2 HLN.out (Nat.le_refl _) HTB.out.in2 (by rw [htt, HN.out]; exact hm)
    rw [hbk.1, hbk.2] at hJ2
    have HJ2 := Lib.hid hJ2; clear hbk htt hJ2
    go_wp2_with fail
    refine HJ2.out.mono ?_
    rintro e w3 ⟨A3, c3, m3, rfl, hm3, ho3, hb3⟩
    rw [HN.out] at hm3
    subst hm3
    have HO3 := Lib.hid ho3; clear ho3
    have hb13 := bcall (bcall hb1 hb2) hb3
    go_wp2_with (go_at_call 17; refine (same_any A3 A c3 c d d w3.heap.size w.heap.size m3 m3 w3 HN.out HN.out (by omega) HO3.out.reads (HR.out.below hb13)).mono ?_; rintro e w4 ⟨rfl, n4, rfl⟩; rw [decide_eq_true rfl])
    by_cases hE0 : E = 0
    · obtain ⟨hln, hfw⟩ := forth n0 (lls l) (HE.out ▸ hE0)
      have hMn : M = n := by rw [← HM.out, ← hln]; simp [lls]
      have hsum := joinE_le hln (HE.out ▸ hE0)
      rw [← HJJ.out] at hfw hsum
      have hJT : J.length ≤ 1048576 := by rw [hsum]; exact HT.out
      clear hsum hln
      have HF := Lib.hid hfw; clear hfw
      subst hE0
      subst hMn
      go_wp2_with fail
      refine (HJ.out (w3.drewN n4) HM.out hcb (((HL.out.below hb13).more hb13.size).drewN n4) HT.out).mono ?_
      rintro e w5 ⟨A5, c5, m5, rfl, hm5, ho5, hb5⟩
      subst hm5
      have HO5 := Lib.hid ho5; clear ho5
      have hb15 := bcall hb13 (undrN hb5)
      obtain ⟨hc5, hc5'⟩ := HO5.out.len_le
      unfold maxLen at hc5'
      go_wp2_with fail
      refine (split_any 1 M blk most n0 n8 b0' b8 hof A5 c5 J.length J w5 rfl hc5 hc5' (by omega) HO5.out.reads).mono ?_
      rintro e w6 ⟨g6, svs6, rfl, htab, hlen, hlane, hb6⟩
      have HTB6 := Lib.hid htab; have HLN6 := Lib.hid hlen; have HLA6 := Lib.hid hlane; clear htab hlen hlane
      have hb16 := bcall hb15 hb6
      go_wp2
      go_loopw [12] (fun i wx => ∃ j m : Nat, j ≤ M ∧ i = .int .i64 j ∧ wx = w6.drewN m) (fun i _ => M - (intOf i).toNat)
      case atStart => exact ⟨0, 0, by omega, rfl, rfl⟩
      case round =>
        obtain ⟨j, q, hj, rfl, rfl⟩ := hrel
        by_cases hjl : j < M
        · obtain ⟨g1, s1, e1, -, -, es1, gs1, -⟩ := HTB6.out.row.at_ (k := j) (by rw [HLN6.out]; exact hjl)
          injection e1 with e1; injection e1 with e1; subst e1
          have hIn := HL.out.below hb16
          obtain ⟨ad, x, hB, -, ex, gx⟩ := hIn.top.at_ (k := j) (by rw [HM.out]; exact hjl)
          subst hB
          have hl1 := HLA6.out j s1 es1
          rw [HF.out j hjl, lls_get ex] at hl1
          have ho1 := (HTB6.out.parts.own j s1 es1).reads
          have ho2 := (hIn.each j x ex).1
          have hxl : x.l.length ≤ 1048576 := Nat.le_trans (lane_le ex) HT.out
          change w6.cell? ⟨g6, j, none⟩ = some (.slice s1.A s1.l.length s1.c) at gs1
          change w6.cell? (ad.add j) = some (.slice x.A x.l.length x.c) at gx
          obtain ⟨sA1, sc1, sl1⟩ := s1
          obtain ⟨xA, xc, xl⟩ := x
          dsimp only at gs1 gx ho1 ho2 hl1 hxl
          subst hl1
          obtain ⟨z, hz⟩ : ∃ z, z = sl1.length := ⟨_, rfl⟩
          rw [← hz] at gs1 gx hxl
          have HO1 := Lib.hid ho1; have HO2 := Lib.hid ho2; have HZ := Lib.hid hz; clear ho1 ho2 hIn es1 ex hz
          have HS := Lib.hid fun q => same_any sA1 xA sc1 xc sl1 sl1 _ _ z z (w6.drewN q) HZ.out.symm HZ.out.symm (by omega) (HO1.out.drewN q) (HO2.out.drewN q)
          have HS2 : Hid (∀ q, Calls Try.prog 17 #[.slice sA1 z sc1, .slice xA z xc] (w6.drewN q) fun e w' => e = .returned (.bool true) ∧ ∃ r, w' = (w6.drewN q).drewN r) := fun q => (HS.out q).mono fun e w' ⟨he, h⟩ => ⟨by rw [he, decide_eq_true rfl], h⟩
          clear HS
          go_wp2
          go_quiet ((go_at_call 17; exact quiet_add (HS2.out _)))
          go_wp2
          go_roundw
          case rel => exact ⟨j + 1, _, by omega, by go_num, rfl⟩
          case measure => simp [intOf]; omega
        · go_wp2
          exact bodyPost_ret (results_tmp rfl _ _ _) rfl ⟨rfl, bdr hb16 _⟩
    · go_wp2_with (go_at_call 25; refine (HJ.out (w3.drewN n4) HM.out hcb (((HL.out.below hb13).more hb13.size).drewN n4) HT.out).mono ?_; rintro e w5 ⟨A5, c5, m5, rfl, hm5, ho5, hb5⟩)
      exact bodyPost_ret (results_tmp rfl _ _ _) rfl ⟨rfl, bcall hb13 (undrN hb5)⟩
  · go_enter Try.func8, Try.ntmps8
    go_wp2_with fail
    refine (alive08_any _).mono ?_
    rintro e w1 ⟨rfl, hb1⟩
    go_wp2_with fail
    refine (split_any 2 n blk most n0 n8 b0' b8 hof A c N d w1 HN.out hc hcm (by omega) ((HR.out.below hb1).more hb1.size)).mono ?_
    rintro e w2 ⟨g, svs, rfl, htab, hlen, hlane, hb2⟩
    have HTB := Lib.hid htab; have HLN := Lib.hid hlen; have HLA := Lib.hid hlane; clear htab hlen hlane
    have hbk := back_yes n0 (lls svs) d (by simp [lls, HLN.out]) (lls_lanes HLN.out HLA.out)
    have htt := (back n0 (lls svs) d (by simp [lls, HLN.out]) (lls_lanes HLN.out HLA.out)).1
    have hJ2 := joinP_any 2 n blk most HP.out hof (some ⟨g, 0, none⟩) n n svs w2 HLN.out (Nat.le_refl _) HTB.out.in2 (by rw [htt, HN.out]; exact hm)
    rw [hbk.1, hbk.2] at hJ2
    have HJ2 := Lib.hid hJ2; clear hbk htt hJ2
    go_wp2_with fail
    refine HJ2.out.mono ?_
    rintro e w3 ⟨A3, c3, m3, rfl, hm3, ho3, hb3⟩
    rw [HN.out] at hm3
    subst hm3
    have HO3 := Lib.hid ho3; clear ho3
    have hb13 := bcall (bcall hb1 hb2) hb3
    go_wp2_with (go_at_call 17; refine (same_any A3 A c3 c d d w3.heap.size w.heap.size m3 m3 w3 HN.out HN.out (by omega) HO3.out.reads (HR.out.below hb13)).mono ?_; rintro e w4 ⟨rfl, n4, rfl⟩; rw [decide_eq_true rfl])
    by_cases hE0 : E = 0
    · obtain ⟨hln, hfw⟩ := forth n0 (lls l) (HE.out ▸ hE0)
      have hMn : M = n := by rw [← HM.out, ← hln]; simp [lls]
      have hsum := joinE_le hln (HE.out ▸ hE0)
      rw [← HJJ.out] at hfw hsum
      have hJT : J.length ≤ 1048576 := by rw [hsum]; exact HT.out
      clear hsum hln
      have HF := Lib.hid hfw; clear hfw
      subst hE0
      subst hMn
      go_wp2_with fail
      refine (HJ.out (w3.drewN n4) HM.out hcb (((HL.out.below hb13).more hb13.size).drewN n4) HT.out).mono ?_
      rintro e w5 ⟨A5, c5, m5, rfl, hm5, ho5, hb5⟩
      subst hm5
      have HO5 := Lib.hid ho5; clear ho5
      have hb15 := bcall hb13 (undrN hb5)
      obtain ⟨hc5, hc5'⟩ := HO5.out.len_le
      unfold maxLen at hc5'
      go_wp2_with fail
      refine (split_any 2 M blk most n0 n8 b0' b8 hof A5 c5 J.length J w5 rfl hc5 hc5' (by omega) HO5.out.reads).mono ?_
      rintro e w6 ⟨g6, svs6, rfl, htab, hlen, hlane, hb6⟩
      have HTB6 := Lib.hid htab; have HLN6 := Lib.hid hlen; have HLA6 := Lib.hid hlane; clear htab hlen hlane
      have hb16 := bcall hb15 hb6
      go_wp2
      go_loopw [12] (fun i wx => ∃ j m : Nat, j ≤ M ∧ i = .int .i64 j ∧ wx = w6.drewN m) (fun i _ => M - (intOf i).toNat)
      case atStart => exact ⟨0, 0, by omega, rfl, rfl⟩
      case round =>
        obtain ⟨j, q, hj, rfl, rfl⟩ := hrel
        by_cases hjl : j < M
        · obtain ⟨g1, s1, e1, -, -, es1, gs1, -⟩ := HTB6.out.row.at_ (k := j) (by rw [HLN6.out]; exact hjl)
          injection e1 with e1; injection e1 with e1; subst e1
          have hIn := HL.out.below hb16
          obtain ⟨ad, x, hB, -, ex, gx⟩ := hIn.top.at_ (k := j) (by rw [HM.out]; exact hjl)
          subst hB
          have hl1 := HLA6.out j s1 es1
          rw [HF.out j hjl, lls_get ex] at hl1
          have ho1 := (HTB6.out.parts.own j s1 es1).reads
          have ho2 := (hIn.each j x ex).1
          have hxl : x.l.length ≤ 1048576 := Nat.le_trans (lane_le ex) HT.out
          change w6.cell? ⟨g6, j, none⟩ = some (.slice s1.A s1.l.length s1.c) at gs1
          change w6.cell? (ad.add j) = some (.slice x.A x.l.length x.c) at gx
          obtain ⟨sA1, sc1, sl1⟩ := s1
          obtain ⟨xA, xc, xl⟩ := x
          dsimp only at gs1 gx ho1 ho2 hl1 hxl
          subst hl1
          obtain ⟨z, hz⟩ : ∃ z, z = sl1.length := ⟨_, rfl⟩
          rw [← hz] at gs1 gx hxl
          have HO1 := Lib.hid ho1; have HO2 := Lib.hid ho2; have HZ := Lib.hid hz; clear ho1 ho2 hIn es1 ex hz
          have HS := Lib.hid fun q => same_any sA1 xA sc1 xc sl1 sl1 _ _ z z (w6.drewN q) HZ.out.symm HZ.out.symm (by omega) (HO1.out.drewN q) (HO2.out.drewN q)
          have HS2 : Hid (∀ q, Calls Try.prog 17 #[.slice sA1 z sc1, .slice xA z xc] (w6.drewN q) fun e w' => e = .returned (.bool true) ∧ ∃ r, w' = (w6.drewN q).drewN r) := fun q => (HS.out q).mono fun e w' ⟨he, h⟩ => ⟨by rw [he, decide_eq_true rfl], h⟩
          clear HS
          go_wp2
          go_quiet ((go_at_call 17; exact quiet_add (HS2.out _)))
          go_wp2
          go_roundw
          case rel => exact ⟨j + 1, _, by omega, by go_num, rfl⟩
          case measure => simp [intOf]; omega
        · go_wp2
          exact bodyPost_ret (results_tmp rfl _ _ _) rfl ⟨rfl, bdr hb16 _⟩
    · go_wp2_with (go_at_call 25; refine (HJ.out (w3.drewN n4) HM.out hcb (((HL.out.below hb13).more hb13.size).drewN n4) HT.out).mono ?_; rintro e w5 ⟨A5, c5, m5, rfl, hm5, ho5, hb5⟩)
      exact bodyPost_ret (results_tmp rfl _ _ _) rfl ⟨rfl, bcall hb13 (undrN hb5)⟩

theorem back_none (k : Int) (h1 : k ≠ 1) (h2 : k ≠ 2) (A : Option Addr) (c N : Nat) (B : Option Addr) (cb M : Nat) (w : World) :
    Calls Try.prog 8 #[.int .i64 k, .slice A N c, .slice B M cb] w fun e w' => e = .returned (.bool true) ∧ Below w.heap.size w w' := by
  have hk1 : (k == 1) = false := by simpa using h1
  have hk2 : (k == 2) = false := by simpa using h2
  have H1 := Lib.hid h1; have H2 := Lib.hid h2; clear h1 h2
  go_enter Try.func8, Try.ntmps8
  go_wp2_with (first
    | (go_at_call 31; refine (alive08_any _).mono ?_; rintro e w1 ⟨rfl, hb1⟩)
    | (go_at_call 16; refine (split_none k H1.out H2.out _ _ _ _).mono ?_; rintro e w2 ⟨rfl, hb2⟩)
    | (go_at_call 25; refine (joinP_none k H1.out H2.out _ _ _ _).mono ?_; rintro e w3 ⟨rfl, hb3⟩))
  exact bodyPost_ret (results_tmp rfl _ _ _) rfl ⟨rfl, bcall (bcall hb1 hb2) hb3⟩

theorem back_law (k : Int) (A : Option Addr) (c N : Nat) (d : List UInt8) (B : Option Addr) (cb M : Nat) (l : List SV) (w : World) (hN : d.length = N) (hc : N ≤ c) (hcm : c ≤ maxLen) (hm : N ≤ 1048576) (hr : RS cB w w.heap.size A d)
    (hM : l.length = M) (hcb : M ≤ cb) (hl : In2 w w.heap.size B l) (ht : total (lls l) ≤ 1048576) :
    Calls Try.prog 8 #[.int .i64 k, .slice A N c, .slice B M cb] w fun e w' => e = .returned (.bool true) ∧ Below w.heap.size w w' := by
  by_cases h1 : k = 1
  · subst h1; exact back_kind 1 4 128 64 (.inl ⟨rfl, rfl⟩) (.inl rfl) (Lib.hid of_big) A c N d B cb M l w hN hc hcm hm hr hM hcb hl ht
  · by_cases h2 : k = 2
    · subst h2; exact back_kind 2 8 64 32 (.inr ⟨rfl, rfl⟩) (.inr rfl) (Lib.hid of_small) A c N d B cb M l w hN hc hcm hm hr hM hcb hl ht
    · exact back_none k h1 h2 A c N B cb M w
end Go.Proofs.Ytnkngaicegcejaa

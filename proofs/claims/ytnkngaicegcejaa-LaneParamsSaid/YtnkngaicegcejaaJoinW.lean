/-
  Join, of the program. Contracts alone; no statement is claimed here.
-/
import Derived.Test.YtnkngaicegcejaaTab
import Derived.Test.YtnkngaicegcejaaJoinP
import Derived.Test.YtnkngaicegcejaaLaneS
import Derived.Test.YtnkngaicegcejaaKit
import Derived.Outline
namespace Go.Proofs.Ytnkngaicegcejaa
open Go.RowKit
attribute [local go_sem] pureUpon Ords.of

/-- slices of bytes that came in: the slice of slice values, and what each of them reads as -/
structure In2 (w : World) (B : Nat) (A : Option Addr) (l : List SV) : Prop where
  top : RS cL w B A l
  each : ∀ (i : Nat) (s : SV), l[i]? = some s → RS cB w B s.A s.l ∧ s.l.length ≤ s.c ∧ s.c ≤ maxLen
theorem In2.below {w w' : World} {B : Nat} {A : Option Addr} {l : List SV} (h : In2 w B A l) (hb : Below B w w') : In2 w' B A l := ⟨h.top.below hb, fun i s hs => ⟨(h.each i s hs).1.below hb, (h.each i s hs).2⟩⟩
theorem In2.more {w : World} {B B' : Nat} {A : Option Addr} {l : List SV} (h : In2 w B A l) (hb : B ≤ B') : In2 w B' A l := ⟨h.top.more hb, fun i s hs => ⟨(h.each i s hs).1.more hb, (h.each i s hs).2⟩⟩

def lls (l : List SV) : LL := l.map SV.l
theorem lls_get {l : List SV} {i : Nat} {s : SV} (h : l[i]? = some s) : (lls l).getD i [] = s.l := by simp [lls, List.getD_eq_getElem?_getD, h]
theorem total_take (l : List SV) (i : Nat) (s : SV) (h : l[i]? = some s) : total (lls (l.take (i + 1))) = total (lls (l.take i)) + s.l.length := by
  rw [List.take_add_one, h]; simp [lls, total]
theorem total_le (l : List SV) (i : Nat) : total (lls (l.take i)) ≤ total (lls l) := by
  conv => rhs; rw [← List.take_append_drop i l]
  simp only [lls, total, List.map_append, List.sum_append]
  omega

theorem joinE_yes {n blk : Nat} {l : List SV} (h : l.length = n) (hg : good n blk (lls l) (total (lls l))) : joinE n blk (lls l) = 0 := by
  unfold joinE; rw [if_pos (by simpa [lls] using h), if_pos hg]
theorem joinE_no {n blk : Nat} {l : List SV} (hg : l.length = n → ¬ good n blk (lls l) (total (lls l))) : joinE n blk (lls l) = 80 := by
  unfold joinE
  split
  · rename_i h; rw [if_neg (hg (by simpa [lls] using h))]
  · rfl
theorem joinL_yes {n blk : Nat} {l : List SV} (h : l.length = n) (hg : good n blk (lls l) (total (lls l))) : joinL n blk (lls l) = joinTo n blk (lls l) (total (lls l)) := by
  unfold joinL; rw [if_pos ⟨by simpa [lls] using h, hg⟩]
theorem joinL_no {n blk : Nat} {l : List SV} (hg : l.length = n → ¬ good n blk (lls l) (total (lls l))) : joinL n blk (lls l) = [] := by
  unfold joinL; rw [if_neg (fun h => hg (by simpa [lls] using h.1) h.2)]

theorem all_any (n blk most : Int) (hn : 0 ≤ n ∧ n ≤ 8) (hb : 0 ≤ blk ∧ blk ≤ 128) (w : World) : Calls Try.prog 53 #[.agg #[.int .i64 n, .int .i64 blk, .int .i64 most]] w fun e w' => e = .returned (.int .i64 (n * blk)) ∧ Below w.heap.size w w' := by
  obtain ⟨h1, h2⟩ := hn; obtain ⟨h3, h4⟩ := hb
  have hm : 0 ≤ n * blk ∧ n * blk ≤ 8 * 128 := ⟨Int.mul_nonneg h1 h3, Int.mul_le_mul h2 h4 h3 (by omega)⟩
  obtain ⟨m1, m2⟩ := hm
  have hw : IntKind.i64.wrap (n * blk) = n * blk := by simp [IntKind.wrap, IntKind.bits, IntKind.signed]; omega
  go_enter Try.func53, Try.ntmps53
  go_wp2
  exact bodyPost_ret (results_tmp rfl _ _ _) rfl ⟨rfl, bal (b0 _) _⟩

set_option maxRecDepth 100000 in
set_option maxHeartbeats 2000000 in
theorem joinP_any (k : Int) (n blk : Nat) (most : Int) (hP : Pair n blk)
    (hof : Hid (∀ w : World, Calls Try.prog 46 #[.int .i64 k] w fun e w' => e = .returned (.tuple #[.agg #[.int .i64 n, .int .i64 blk, .int .i64 most], .bool true]) ∧ Below w.heap.size w w'))
    (A : Option Addr) (c N : Nat) (l : List SV) (w : World) (hN : l.length = N) (hc : N ≤ c) (hr : In2 w w.heap.size A l) (ht : total (lls l) ≤ 1048576) :
    Calls Try.prog 25 #[.int .i64 k, .slice A N c] w fun e w' => ∃ A1 c1 m, e = .returned (.tuple #[.slice A1 m c1, .int .i64 (joinE n blk (lls l))]) ∧ m = (joinL n blk (lls l)).length ∧ OS cB w' w.heap.size A1 c1 (joinL n blk (lls l)) ∧ Below w.heap.size w w' := by
  have HN := Lib.hid hN; have HR := Lib.hid hr; have HP := Lib.hid hP; clear hN hr
  have hn8 : 0 < n ∧ n ≤ 8 := by rcases hP with h | h <;> omega
  have hb8 : 0 < blk ∧ blk ≤ 128 := by rcases hP with h | h <;> omega
  have hnb : (n : Int) * (blk : Int) = 512 := by rcases hP with ⟨rfl, rfl⟩ | ⟨rfl, rfl⟩ <;> rfl
  have hall := fun w => all_any n blk most (by omega) (by omega) w
  rw [hnb] at hall
  have HALL := Lib.hid hall; clear hP hall hnb
  obtain ⟨n0, n8⟩ := hn8; obtain ⟨k0, k8⟩ := hb8
  obtain ⟨E, hE⟩ : ∃ E, E = joinE n blk (lls l) := ⟨_, rfl⟩
  obtain ⟨J, hJ⟩ : ∃ J, J = joinL n blk (lls l) := ⟨_, rfl⟩
  rw [← hE, ← hJ]
  have HE := Lib.hid hE; have HJ := Lib.hid hJ; clear hE hJ
  by_cases hNn : N = n
  · subst hNn
    obtain ⟨ad, -, rfl, -, -, -⟩ := HR.out.top.at_ (k := 0) (by rw [HN.out]; exact n0)
    go_enter Try.func25, Try.ntmps25
    go_wp2_with (go_at_call 46; refine (hof.out _).mono ?_; rintro e w1 ⟨rfl, hbw1⟩; (first | refine withN hbw1 ?_ | refine withD hbw1 ?_ | refine with0 hbw1 ?_); intro hcw1 hfw1)
    obtain ⟨T, hT⟩ : ∃ T, T = total (lls l) := ⟨_, rfl⟩
    rw [← hT] at ht
    have HT := Lib.hid hT; clear hT
    have HR1 := Lib.hid (HR.out.below (bal hbw1 (.cells #[.int .i64 N, .int .i64 blk, .int .i64 most] 75)))
    go_loop [8, 30] (fun t i => ∃ r s : Nat, r ≤ N ∧ i = .int .i64 r ∧ t = .int .i64 s ∧ s = total (lls (l.take r)) ∧ s ≤ 1048576) (fun _ i => N - (intOf i).toNat)
    case atStart => exact ⟨0, 0, by omega, rfl, rfl, rfl, by omega⟩
    case round =>
      obtain ⟨r, s, hr, rfl, rfl, hs, hs2⟩ := hrel
      have HS := Lib.hid hs; clear hs
      by_cases hlt : r < N
      · obtain ⟨ad', x, e1, -, e2, g1⟩ := HR1.out.top.at_ (k := r) (by rw [HN.out]; exact hlt)
        injection e1 with e1; subst e1
        change _ = some (Value.slice x.A x.l.length x.c) at g1
        have E2 := Lib.hid e2; clear e2
        obtain ⟨xA, xc, xl⟩ := x
        dsimp only at g1
        have hsum : Hid (s + xl.length = total (lls (l.take (r + 1)))) := by show _ = _; rw [total_take _ _ _ E2.out, HS.out]
        have hle : s + xl.length ≤ 1048576 := by rw [hsum.out]; exact Nat.le_trans (total_le _ _) (by rw [← HT.out]; exact ht)
        obtain ⟨z, hz⟩ : ∃ z, z = xl.length := ⟨_, rfl⟩
        rw [← hz] at g1 hle
        have HZ := Lib.hid hz; clear hz
        go_wp2
        go_round
        case rel => exact ⟨r + 1, s + z, by omega, by go_num, by go_num, by rw [HZ.out]; exact hsum.out, hle⟩
        case measure => simp [intOf]; omega
      · obtain rfl : r = N := by omega
        have hsT : s = T := by rw [HS.out, HT.out, List.take_of_length_le (Nat.le_of_eq HN.out)]
        subst hsT
        clear HS hs2
        have hmk : ∀ (W : World), (Instr.makeSlice 22 (.int .i64 0) (.int .i64 (s : Int))).run Try.prog W = .ok (.slice (some ⟨W.heap.size, 0, none⟩) 0 s) (W.alloc (.cells (madeCells #[cB.zero] s) 5)) := fun (W : World) => run_makeS cB_ok .i64 .i64 0 s (Nat.zero_le _) (by show 1 * s ≤ _; omega) (by omega) W
        go_wp2
        obtain ⟨b, hb⟩ : ∃ b, b = w1.heap.size := ⟨_, rfl⟩
        have hB0 : Blk ((w1.alloc (.cells #[.int .i64 r, .int .i64 blk, .int .i64 most] 75)).alloc (.cells (madeCells #[cB.zero] s) 5)) b 75 #[.int .i64 r, .int .i64 blk, .int .i64 most] := by rw [hb]; exact (Blk.new _ _ _).alloc _
        have hwb : w.heap.size ≤ b := by rw [hb]; exact hbw1.size
        rw [← hb]
        have HB := Lib.hid hb; have HB0 := Lib.hid hB0; clear hb hB0
        go_loopw [11, 12] (fun v i wr => ∃ (q t p : Nat) (A1 : Option Addr) (c1 : Nat), t = q * blk ∧ p = min t s ∧ t < s + blk ∧ i = .int .i64 t ∧ v = .slice A1 p c1 ∧ good r blk (lls l) p ∧ OS cB wr w.heap.size A1 c1 (joinTo r blk (lls l) p) ∧ Blk wr b 75 #[.int .i64 r, .int .i64 blk, .int .i64 most] ∧ Below w.heap.size w wr) (fun _ i _ => s + 128 - (intOf i).toNat)
        case atStart =>
          refine ⟨0, 0, 0, _, s, by omega, by omega, by omega, rfl, rfl, fun i hi => by omega, ?_, HB0.out, bal (bal hbw1 _) _⟩
          exact OS.madeAt (cd := cB) _ 0 s 0 rfl (Nat.zero_le _) (by unfold maxLen; omega) (by have := hbw1.size; simp; omega) (by rw [HB.out]; simp)
        case round =>
          clear HB HB0 HR1
          obtain ⟨q, t, p, A1, c1, htq, hp, hts, rfl, rfl, hg, hos, hbk, hbw⟩ := hrel
          have HTQ := Lib.hid htq; have HG := Lib.hid hg; have HO := Lib.hid hos; have HBK := Lib.hid hbk; clear htq hg hos hbk hmk
          by_cases hlt : t < s
          · obtain rfl : p = t := by omega
            clear hp
            obtain ⟨j, hj⟩ : ∃ j, j = q % r := ⟨_, rfl⟩
            obtain ⟨f, hf⟩ : ∃ f, f = p / 512 * blk := ⟨_, rfl⟩
            have hjr : j < r := by rw [hj]; exact Nat.mod_lt _ n0
            have hqp : q ≤ p := by rw [HTQ.out]; exact Nat.le_mul_of_pos_right _ k0
            have hfp : f ≤ p := by rw [hf]; rcases HP.out with ⟨_, h⟩ | ⟨_, h⟩ <;> rw [h] <;> omega
            have q1 : (p : Int).tdiv (blk : Int) = (q : Int) := by rw [HTQ.out]; simp; rw [Int.mul_tdiv_cancel]; omega
            have q2 : (p : Int) / (blk : Int) = (q : Int) := by rw [HTQ.out]; simp; rw [Int.mul_ediv_cancel]; omega
            have q3 : (q : Int).tmod (r : Int) = (j : Int) := by rw [hj]; rfl
            have q4 : (q : Int) % (r : Int) = (j : Int) := by rw [hj]; rfl
            have q5 : (p : Int).tdiv 512 = ((p / 512 : Nat) : Int) := rfl
            have q6 : (p : Int) / 512 = ((p / 512 : Nat) : Int) := rfl
            have q7 : ((p / 512 : Nat) : Int) * (blk : Int) = (f : Int) := by rw [hf]; simp
            have q8 : ((p / 512 : Nat) : Int) ≤ p := by omega
            obtain ⟨u, hu⟩ : ∃ u : Nat, u = p / 512 := ⟨_, rfl⟩
            rw [← hu] at q5 q6 q7 q8
            obtain ⟨d, hd⟩ : ∃ d, d = s - p := ⟨_, rfl⟩
            have hd2 : (s : Int) - (p : Int) = (d : Int) := by omega
            have hd0 : 0 < d ∧ p + d = s := by omega
            obtain ⟨hd0, hds⟩ := hd0
            have HDS := Lib.hid hds; clear hds
            have wr : ∀ n : Int, 0 ≤ n → n ≤ 10000000 → IntKind.i64.wrap n = n := fun n h0 h1 => by simp [IntKind.wrap, IntKind.bits, IntKind.signed]; omega
            have wu : IntKind.i64.wrap (u : Int) = u := wr _ (by omega) (by omega)
            have wf : IntKind.i64.wrap (f : Int) = f := wr _ (by omega) (by omega)
            clear wr hd
            have HJ2 := Lib.hid hj; have HF := Lib.hid hf; have HU := Lib.hid hu; clear hj hf hu
            have hR := HR.out.below hbw
            obtain ⟨ad', x, e1, had, e2, g1⟩ := hR.top.at_ (k := j) (by rw [HN.out]; exact hjr)
            injection e1 with e1; subst e1
            change _ = some (Value.slice x.A x.l.length x.c) at g1
            obtain ⟨hx1, hx2, hx3⟩ := hR.each _ _ e2
            have E2 := Lib.hid e2; clear e2 hR
            obtain ⟨xA, xc, xl⟩ := x
            dsimp only at g1 hx1 hx2 hx3
            obtain ⟨z, hz⟩ : ∃ z, z = xl.length := ⟨_, rfl⟩
            rw [← hz] at g1 hx2
            unfold maxLen at hx3
            have HZ := Lib.hid hz; have HX := Lib.hid hx1; clear hz hx1
            have gb0 : wr.cell? ⟨b, 0, none⟩ = some (.int .i64 r) := HBK.out.cell 0
            have gb1 : wr.cell? ⟨b, 1, none⟩ = some (.int .i64 blk) := HBK.out.cell 1
            have gb2 : wr.cell? ⟨b, 2, none⟩ = some (.int .i64 most) := HBK.out.cell 2
            have hbl : b < wr.heap.size := HBK.out.lt
            have nz1 : ¬ (blk : Int) = 0 := by omega
            have nz2 : ¬ (r : Int) = 0 := by omega
            have hzs : z ≤ 1048576 := by
              have h1 := total_take _ _ _ E2.out
              have h2 := total_le l (j + 1)
              rw [← HT.out] at h2
              dsimp only at h1
              rw [HZ.out]; omega
            go_wp2
            go_quiet (fail)
            go_wp2
            refine wp_region_B (Ords.of [(0, 0), (0, 1), (0, 4), (0, 5), (2, 2), (0, 3), (0, 6), (0, 7)] .fin) (by kernel_rfl) rfl (by kernel_rfl) (by kernel_rfl) (fun c a d v w h => by cases d <;> exact h) ?_
            refine ords_pure rfl (fun K hK => ?_); go_simp; refine hK _ ?_; clear hK K
            refine ords_heldK rfl (fun K K2 hK hK2 => ?_); go_simp; refine ⟨hK2 _ (fun w9 hS => ?_), hK _ ?_⟩; (clear hK hK2 K K2; (first | refine withN hS ?_ | refine withD hS ?_ | refine with0 hS ?_); intro hcS hfS; go_simp); (clear hK hK2 K K2)
            refine ords_pure rfl (fun K hK => ?_); go_simp; refine hK _ ?_; clear hK K
            refine ords_heldK rfl (fun K K2 hK hK2 => ?_); go_simp; refine ⟨hK2 _ (fun w9 hS => ?_), hK _ ?_⟩; (clear hK hK2 K K2; (first | refine withN hS ?_ | refine withD hS ?_ | refine with0 hS ?_); intro hcS hfS; go_simp); (clear hK hK2 K K2)
            refine ords_loud rfl (fun n1 => ?_)
            go_wp2_with (go_at_call 53; refine (HALL.out _).mono ?_; rintro e w2 ⟨rfl, hbw2⟩; (first | refine withN hbw2 ?_ | refine withD hbw2 ?_ | refine with0 hbw2 ?_); intro hcw2 hfw2); refine ⟨bas (undrN hbw2), ?_⟩; have hw2 := bcall hbw (undrN hbw2); have HB2 := HBK.out.below (undrN hbw2) HBK.out.lt; have HO2 := HO.out.below (undrN hbw2) (Nat.le_refl _); have h2w := (undrN hbw2).mono hbw.size; have gg2 : w2.cell? (ad.add j) = some (.slice xA z xc) := ((undrN hbw2).cell (by rw [block_of_add]; exact Nat.lt_of_lt_of_le had hbw.size)).trans g1; clear hbw2 g1
            refine ords_pure rfl (fun K hK => ?_); go_simp; refine hK _ ?_; clear hK K
            refine ords_pure rfl (fun K hK => ?_); go_simp; refine hK _ ?_; clear hK K
            refine ords_pure rfl (fun K hK => ?_); go_simp; refine hK _ ?_; clear hK K
            refine ords_end (fun n2 => ?_)
            have HB2 := Lib.hid HB2
            have HO2 := Lib.hid HO2
            rcases Nat.lt_or_ge d blk with hdb | hdb
            · have hmz : 0 < d ∧ d ≤ blk ∧ p + d = min (p + blk) s := by have := HDS.out; omega
              obtain ⟨hm0, hmb, hms⟩ := hmz
              have HMS := Lib.hid hms; clear hms
              have hpm : p + d ≤ s := by have := HMS.out; omega
              by_cases hfit : f + d ≤ z
              · have HLM : Hid (((xl.drop f).take d).length = d) := by show _ = _; have := HZ.out; simp; omega
                have HRX : Hid (RS cB (w2.drewN n2) w.heap.size (xA.map (·.add f)) ((xl.drop f).take d)) := by
                  have h1 := ((HX.out.below h2w).drewN n2).cut (k := f) (cap := xc) (by rw [← HZ.out]; omega) (by rw [← HZ.out]; omega)
                  rw [if_neg (by omega)] at h1
                  exact h1.take _
                go_wp2_with (at_builtin; refine wpList_appB _ rfl (.tmp 77) (.tmp 86) rfl (HO2.out.drewN n2) rfl (joinTo_len _ _ _ _) HRX.out (sl_len (Nat.add_sub_cancel_left f d)) HLM.out (by omega) (by exact hw2.size) ?_; intro A3 c3 w3 hown3 hgrow hat; replace hgrow := grown_undrewN hgrow; have hb3 := HB2.out.grown hgrow (HO2.out.ne_row HB2.out (by decide)); have hw3 := bapp hw2 HO2.out hgrow; have gb3 : w3.cell? ⟨b, 1, none⟩ = some (.int .i64 blk) := hb3.cell 1; have HB3 := Lib.hid hb3; have HO3 := Lib.hid hown3; clear hgrow hat hb3 hown3)
                all_goals go_roundw
                case rel =>
                  have hq := HTQ.out
                  have e1 : q * blk / 512 * blk = f := by rw [HF.out, hq]
                  have e2 : (lls l).getD (q % r) [] = xl := by rw [← HJ2.out]; exact lls_get E2.out
                  have e3 : q * blk / 512 * blk + d ≤ ((lls l).getD (q % r) []).length := by rw [e1, e2, ← HZ.out]; exact hfit
                  refine ⟨q + 1, p + blk, p + d, _, _, by rw [hq, Nat.add_mul, Nat.one_mul], HMS.out, by omega, by go_num, rfl, ?_, ?_, HB3.out, hw3⟩
                  · have := fits_piece HP.out (lls l) q d hmb e3 (by rw [← hq]; exact HG.out)
                    rwa [← hq] at this
                  · have := joinTo_piece HP.out (lls l) q d hmb e3
                    rw [e1, e2, ← hq] at this
                    rw [this]; exact HO3.out
                case measure => simp [intOf]; omega
              · go_wp2
                have hq := HTQ.out
                have e1 : q * blk / 512 * blk = f := by rw [HF.out, hq]
                have e2 : (lls l).getD (q % r) [] = xl := by rw [← HJ2.out]; exact lls_get E2.out
                have hng : ¬ good r blk (lls l) (total (lls l)) := not_fits_piece HP.out (lls l) q d _ hmb hm0 (by rw [← HT.out, ← hq]; exact hpm) (by rw [e1, e2, ← HZ.out]; exact hfit)
                refine bodyPost_ret (results_tmp2 rfl _ _ _) rfl ⟨none, 0, 0, ?_, ?_, ?_, bdr hw2 _⟩
                · rw [HE.out, joinE_no (fun _ => hng)]; rfl
                · rw [HJ.out, joinL_no (fun _ => hng)]; rfl
                · rw [HJ.out, joinL_no (fun _ => hng)]; exact OS.nil _ _ _ rfl
            · have hmz : 0 < blk ∧ blk ≤ blk ∧ p + blk = min (p + blk) s := by have := HDS.out; omega
              obtain ⟨hm0, hmb, hms⟩ := hmz
              have HMS := Lib.hid hms; clear hms
              have hpm : p + blk ≤ s := by have := HMS.out; omega
              by_cases hfit : f + blk ≤ z
              · have HLM : Hid (((xl.drop f).take blk).length = blk) := by show _ = _; have := HZ.out; simp; omega
                have HRX : Hid (RS cB (w2.drewN n2) w.heap.size (xA.map (·.add f)) ((xl.drop f).take blk)) := by
                  have h1 := ((HX.out.below h2w).drewN n2).cut (k := f) (cap := xc) (by rw [← HZ.out]; omega) (by rw [← HZ.out]; omega)
                  rw [if_neg (by omega)] at h1
                  exact h1.take _
                go_wp2_with (at_builtin; refine wpList_appB _ rfl (.tmp 77) (.tmp 86) rfl (HO2.out.drewN n2) rfl (joinTo_len _ _ _ _) HRX.out (sl_len (Nat.add_sub_cancel_left f blk)) HLM.out (by omega) (by exact hw2.size) ?_; intro A3 c3 w3 hown3 hgrow hat; replace hgrow := grown_undrewN hgrow; have hb3 := HB2.out.grown hgrow (HO2.out.ne_row HB2.out (by decide)); have hw3 := bapp hw2 HO2.out hgrow; have gb3 : w3.cell? ⟨b, 1, none⟩ = some (.int .i64 blk) := hb3.cell 1; have HB3 := Lib.hid hb3; have HO3 := Lib.hid hown3; clear hgrow hat hb3 hown3)
                all_goals go_roundw
                case rel =>
                  have hq := HTQ.out
                  have e1 : q * blk / 512 * blk = f := by rw [HF.out, hq]
                  have e2 : (lls l).getD (q % r) [] = xl := by rw [← HJ2.out]; exact lls_get E2.out
                  have e3 : q * blk / 512 * blk + blk ≤ ((lls l).getD (q % r) []).length := by rw [e1, e2, ← HZ.out]; exact hfit
                  refine ⟨q + 1, p + blk, p + blk, _, _, by rw [hq, Nat.add_mul, Nat.one_mul], HMS.out, by omega, by go_num, rfl, ?_, ?_, HB3.out, hw3⟩
                  · have := fits_piece HP.out (lls l) q blk hmb e3 (by rw [← hq]; exact HG.out)
                    rwa [← hq] at this
                  · have := joinTo_piece HP.out (lls l) q blk hmb e3
                    rw [e1, e2, ← hq] at this
                    rw [this]; exact HO3.out
                case measure => simp [intOf]; omega
              · go_wp2
                have hq := HTQ.out
                have e1 : q * blk / 512 * blk = f := by rw [HF.out, hq]
                have e2 : (lls l).getD (q % r) [] = xl := by rw [← HJ2.out]; exact lls_get E2.out
                have hng : ¬ good r blk (lls l) (total (lls l)) := not_fits_piece HP.out (lls l) q blk _ hmb hm0 (by rw [← HT.out, ← hq]; exact hpm) (by rw [e1, e2, ← HZ.out]; exact hfit)
                refine bodyPost_ret (results_tmp2 rfl _ _ _) rfl ⟨none, 0, 0, ?_, ?_, ?_, bdr hw2 _⟩
                · rw [HE.out, joinE_no (fun _ => hng)]; rfl
                · rw [HJ.out, joinL_no (fun _ => hng)]; rfl
                · rw [HJ.out, joinL_no (fun _ => hng)]; exact OS.nil _ _ _ rfl
          · have hps : p = s := by omega
            subst hps
            clear hp
            go_wp2
            have hg := HG.out; have ho := HO.out
            rw [HT.out] at hg ho
            refine bodyPost_ret (results_tmp2 rfl _ _ _) rfl ⟨A1, c1, p, ?_, ?_, ?_, hbw⟩
            · rw [HE.out, joinE_yes HN.out hg]; rfl
            · rw [HJ.out, joinL_yes HN.out hg, joinTo_len]; exact HT.out
            · rw [HJ.out, joinL_yes HN.out hg]; exact ho
  · have hne : ¬ (N : Int) = (n : Int) := by omega
    go_enter Try.func25, Try.ntmps25
    go_wp2_with (go_at_call 46; refine (hof.out _).mono ?_; rintro e w1 ⟨rfl, hbw1⟩; (first | refine withN hbw1 ?_ | refine withD hbw1 ?_ | refine with0 hbw1 ?_); intro hcw1 hfw1)
    have hln : l.length = n → ¬ good n blk (lls l) (total (lls l)) := fun h => absurd (by rw [← HN.out]; exact h) hNn
    refine bodyPost_ret (results_tmp2 rfl _ _ _) rfl ⟨none, 0, 0, ?_, ?_, ?_, bal hbw1 _⟩
    · rw [HE.out, joinE_no hln]; rfl
    · rw [HJ.out, joinL_no hln]; rfl
    · rw [HJ.out, joinL_no hln]; exact OS.nil _ _ _ rfl
end Go.Proofs.Ytnkngaicegcejaa

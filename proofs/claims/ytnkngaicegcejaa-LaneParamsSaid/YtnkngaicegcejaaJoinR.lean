/-
  Join, of the reference. Contracts alone; no statement is claimed here.
-/
import Derived.Test.YtnkngaicegcejaaJoinW
namespace Go.Proofs.Ytnkngaicegcejaa
open Go.RowKit
attribute [local go_sem] pureUpon Ords.of

def cN : Cod Nat := ⟨3, 85, 8, .int .i64 0, fun n => .int .i64 (n : Int)⟩
theorem cN_ok : cN.Ok Try.prog := ⟨Try.underlying85, by kernel_rfl, rfl, fun _ => rfl⟩
def used (n blk i : Nat) : List Nat := (List.range n).map fun j => cnt n blk j i
theorem used_len (n blk i : Nat) : (used n blk i).length = n := by simp [used]
theorem used_get (n blk i j : Nat) (h : j < n) : (used n blk i)[j]? = some (cnt n blk j i) := by simp [used, h]
theorem used_zero (n blk : Nat) : used n blk 0 = List.replicate n 0 := by
  apply List.ext_getElem <;> simp [used, cnt]
theorem used_succ (n blk i : Nat) : used n blk (i + 1) = (used n blk i).set (laneAt n blk i) (cnt n blk (laneAt n blk i) i + 1) := by
  apply List.ext_getElem
  · simp [used]
  · intro j h1 h2
    simp only [used, List.getElem_map, List.getElem_range, cnt, List.getElem_set]
    by_cases h : laneAt n blk i = j
    · subst h; simp
    · simp [h]

/-- rows of unlike elements are apart -/
theorem os_ne {α β : Type} {cd : Cod α} {ce : Cod β} {w : World} {base base' : Nat} {A : Option Addr} {c c' g : Nat} {l : List α} {m : List β} (h : OS cd w base A c l) (h' : OS ce w base' (some ⟨g, 0, none⟩) c' m) (hne : cd.e ≠ ce.e) : some g ≠ A.map (·.block) := by
  rcases h'.2 with ⟨hv, _⟩ | ⟨g', cap, cur, hv, _, hg, _⟩
  · cases hv
  · injection hv with hv
    injection hv with hv
    injection hv with hv
    subst hv
    have := own_blk_ne (t := ce.e) (cs := cur) h hg hne
    cases A with
    | none => simp
    | some a => intro e; apply this; simp at e; rw [e]; rfl
set_option maxRecDepth 100000 in
set_option maxHeartbeats 2000000 in
theorem joinR_any (k : Int) (n blk : Nat) (hP : Pair n blk)
    (hC : Hid (∀ w : World, Calls Try.prog 44 #[.int .i64 k] w fun e w' => e = .returned (.int .i64 n) ∧ w = w'))
    (hB : Hid (∀ w : World, Calls Try.prog 45 #[.int .i64 k] w fun e w' => e = .returned (.int .i64 blk) ∧ w = w'))
    (A : Option Addr) (c N : Nat) (l : List SV) (w : World) (hN : l.length = N) (hc : N ≤ c) (hr : In2 w w.heap.size A l) (ht : total (lls l) ≤ 1048576) :
    Calls Try.prog 26 #[.int .i64 k, .slice A N c] w fun e w' => ∃ A1 c1 m, e = .returned (.tuple #[.slice A1 m c1, .int .i64 (joinE n blk (lls l))]) ∧ m = (joinL n blk (lls l)).length ∧ OS cB w' w.heap.size A1 c1 (joinL n blk (lls l)) ∧ Below w.heap.size w w' := by
  have HN := Lib.hid hN; have HR := Lib.hid hr; have HP := Lib.hid hP; clear hN hr
  have hn8 : 0 < n ∧ n ≤ 8 := by rcases hP with h | h <;> omega
  have hb8 : 0 < blk ∧ blk ≤ 128 := by rcases hP with h | h <;> omega
  clear hP
  obtain ⟨n0, n8⟩ := hn8; obtain ⟨k0, k8⟩ := hb8
  obtain ⟨E, hE⟩ : ∃ E, E = joinE n blk (lls l) := ⟨_, rfl⟩
  obtain ⟨J, hJ⟩ : ∃ J, J = joinL n blk (lls l) := ⟨_, rfl⟩
  rw [← hE, ← hJ]
  have HE := Lib.hid hE; have HJ := Lib.hid hJ; clear hE hJ
  have hn0 : ¬ (n : Int) = 0 := by omega
  by_cases hNn : n = N
  · subst hNn
    obtain ⟨ad, -, rfl, -, -, -⟩ := HR.out.top.at_ (k := 0) (by rw [HN.out]; exact n0)
    go_enter Try.func26, Try.ntmps26
    go_wp2_with (go_at_call 44; refine (hC.out _).mono ?_; rintro e w1 ⟨rfl, rfl⟩)
    obtain ⟨T, hT⟩ : ∃ T, T = total (lls l) := ⟨_, rfl⟩
    rw [← hT] at ht
    have HT := Lib.hid hT; clear hT
    go_loop [7, 8] (fun t i => ∃ r s : Nat, r ≤ n ∧ i = .int .i64 r ∧ t = .int .i64 s ∧ s = total (lls (l.take r)) ∧ s ≤ 1048576) (fun _ i => n - (intOf i).toNat)
    case atStart => exact ⟨0, 0, by omega, rfl, rfl, rfl, by omega⟩
    case round =>
      obtain ⟨r, s, hr, rfl, rfl, hs, hs2⟩ := hrel
      have HS := Lib.hid hs; clear hs
      by_cases hlt : r < n
      · obtain ⟨ad', x, e1, -, e2, g1⟩ := HR.out.top.at_ (k := r) (by rw [HN.out]; exact hlt)
        injection e1 with e1; subst e1
        change _ = some (Value.slice x.A x.l.length x.c) at g1
        have E2 := Lib.hid e2; clear e2
        obtain ⟨xA, xc, xl⟩ := x
        dsimp only at g1
        have hsum : Hid (s + xl.length = total (lls (l.take (r + 1)))) := by show _ = _; rw [total_take _ _ _ E2.out, HS.out]
        have hle : s + xl.length ≤ 1048576 := by rw [hsum.out]; exact Nat.le_trans (total_le _ _) (by rw [← HT.out]; exact ht)
        obtain ⟨z, hz⟩ : ∃ z, z = xl.length := ⟨_, rfl⟩
        rw [← hz] at g1 hle
        have HZ := Lib.hid hz; clear hz
        go_wp2
        go_round
        case rel => exact ⟨r + 1, s + z, by omega, by go_num, by go_num, by rw [HZ.out]; exact hsum.out, hle⟩
        case measure => simp [intOf]; omega
      · obtain rfl : n = r := by omega
        have hsT : T = s := by rw [HS.out, HT.out, List.take_of_length_le (Nat.le_of_eq HN.out)]
        subst hsT
        clear HS hs2
        have hmk : ∀ (W : World), (Instr.makeSlice 85 (.int .i64 (n : Int)) (.int .i64 (n : Int))).run Try.prog W = .ok (.slice (some ⟨W.heap.size, 0, none⟩) n n) (W.alloc (.cells (madeCells #[cN.zero] n) 3)) := fun (W : World) => run_makeS cN_ok .i64 .i64 n n (Nat.le_refl _) (by show 8 * n ≤ _; omega) (by omega) W
        go_wp2
        obtain ⟨b, hb⟩ : ∃ b, b = w.heap.size := ⟨_, rfl⟩
        rw [← hb]
        have HBB := Lib.hid hb; clear hb
        go_loopw [9, 11] (fun v i wr => ∃ (i' : Nat) (A1 : Option Addr) (c1 : Nat), i' ≤ T ∧ i = .int .i64 i' ∧ v = .slice A1 i' c1 ∧ good n blk (lls l) i' ∧ OS cB wr w.heap.size A1 c1 (joinTo n blk (lls l) i') ∧ OS cN wr w.heap.size (some ⟨b, 0, none⟩) n (used n blk i') ∧ Below w.heap.size w wr) (fun _ i _ => T - (intOf i).toNat)
        case atStart =>
          refine ⟨0, none, 0, by omega, rfl, rfl, fun i hi => by omega, OS.nil _ _ _ rfl, ?_, bal (b0 _) _⟩
          rw [used_zero]
          exact OS.madeAt (cd := cN) w n n 0 rfl (Nat.le_refl _) (by unfold maxLen; omega) (Nat.le_refl _) HBB.out.symm
        case round =>
          clear hmk
          obtain ⟨i, A1, c1, hi, rfl, rfl, hg, hos, hou, hbw⟩ := hrel
          have HG := Lib.hid hg; have HO := Lib.hid hos; have HU := Lib.hid hou; clear hg hos hou
          by_cases hlt : i < T
          · obtain ⟨q, hq⟩ : ∃ q, q = i / blk := ⟨_, rfl⟩
            obtain ⟨j, hj⟩ : ∃ j, j = q % n := ⟨_, rfl⟩
            have hjr : j < n := by rw [hj]; exact Nat.mod_lt _ n0
            have hjl : Hid (laneAt n blk i = j) := by show _ = _; rw [hj, hq]; rfl
            have hqi : q ≤ i := by rw [hq]; exact Nat.div_le_self _ _
            have q1 : (i : Int).tdiv (blk : Int) = (q : Int) := by rw [hq]; rfl
            have q2 : (i : Int) / (blk : Int) = (q : Int) := by rw [hq]; rfl
            have q3 : (q : Int).tmod (n : Int) = (j : Int) := by rw [hj]; rfl
            have q4 : (q : Int) % (n : Int) = (j : Int) := by rw [hj]; rfl
            clear hq hj
            have hR := HR.out.below hbw
            obtain ⟨ad', x, e1, had, e2, g1⟩ := hR.top.at_ (k := j) (by rw [HN.out]; exact hjr)
            injection e1 with e1; subst e1
            change _ = some (Value.slice x.A x.l.length x.c) at g1
            obtain ⟨hx1, hx2, hx3⟩ := hR.each _ _ e2
            have E2 := Lib.hid e2; clear e2 hR
            obtain ⟨xA, xc, xl⟩ := x
            dsimp only at g1 hx1 hx2 hx3
            obtain ⟨z, hz⟩ : ∃ z, z = xl.length := ⟨_, rfl⟩
            rw [← hz] at g1 hx2
            unfold maxLen at hx3
            have HZ := Lib.hid hz; have HX := Lib.hid hx1; clear hz hx1
            obtain ⟨gb, u', e3, hbu, -, e4, gu, gfu⟩ := HU.out.at_ (k := j) (by rw [used_len]; exact hjr)
            injection e3 with e3; injection e3 with e3; subst e3
            rw [used_get _ _ _ _ hjr] at e4
            injection e4 with e4
            subst e4
            obtain ⟨u, hu⟩ : ∃ u, u = cnt n blk j i := ⟨_, rfl⟩
            change wr.cell? ⟨b, j, none⟩ = some (.int .i64 (cnt n blk j i : Int)) at gu
            rw [← hu] at gu
            have hui : u ≤ i := by rw [hu]; exact cnt_le _ _ _ _
            have HUU := Lib.hid hu; clear hu
            have nz1 : ¬ (blk : Int) = 0 := by omega
            have hfit : Hid (fits n blk (lls l) i ↔ u < z) := by
              show _ ↔ _
              unfold fits
              rw [hjl.out, lls_get E2.out, HZ.out, HUU.out]
            by_cases huz : u < z
            · obtain ⟨xad, xb, rfl, hxad, e5, g5⟩ := HX.out.at_ (k := u) (by rw [← HZ.out]; exact huz)
              change wr.cell? (xad.add u) = some (.int .u8 (byt xb)) at g5
              have HXB : Hid (byteJ n blk (lls l) i = xb) := by
                show _ = _
                unfold byteJ
                rw [hjl.out, lls_get E2.out, ← HUU.out, List.getD_eq_getElem?_getD, e5]; rfl
              clear e5
              have hwz : w.heap.size ≤ wr.heap.size := hbw.size
              have hbs : wr.heap.size ≤ wr.heap.size := Nat.le_refl _
              have hbr : b < wr.heap.size := (HU.out.block_lt _ rfl).2
              go_wp2_with (go_at_call 45; refine (hB.out _).mono ?_; rintro e w1 ⟨rfl, rfl⟩)
              go_quiet (fail)
              go_wp2
              refine wp_region_ords (fun w' => wr.heap.size ≤ w'.heap.size ∧ w'.cell? (ad.add j) = some (.slice (some xad) z xc) ∧ w'.cell? ⟨b, j, none⟩ = some (.int .i64 u) ∧ w'.cell? (xad.add u) = some (.int .u8 (byt xb))) (fun _ _ h => h) (Ords.of [(0, 0), (0, 1), (0, 2), (0, 3), (0, 4), (0, 5), (0, 6), (0, 7), (0, 8), (0, 9), (0, 10), (2, 11), (2, 12), (0, 13)] .fin) (by kernel_rfl) rfl (by kernel_rfl) (by kernel_rfl) (fun c a d v w h => by cases d <;> exact h) ⟨Nat.le_refl _, g1, gu, g5⟩ ?_
              refine ords_pure rfl (fun K hK => ?_); go_simp; refine hK _ ?_; clear hK K
              refine ords_pure rfl (fun K hK => ?_); go_simp; refine hK _ ?_; clear hK K
              refine ords_pure rfl (fun K hK => ?_); go_simp; refine hK _ ?_; clear hK K
              refine ords_pure rfl (fun K hK => ?_); go_simp; refine hK _ ?_; clear hK K
              refine ords_heldK rfl (fun K K2 hK hK2 => ?_); go_simp; refine ⟨hK2 _ (fun w9 hS => ?_), hK _ ?_⟩; (clear hK hK2 K K2; obtain ⟨s0, s1, s2, s3⟩ := hS; go_simp); (clear hK hK2 K K2)
              refine ords_pure rfl (fun K hK => ?_); go_simp; refine hK _ ?_; clear hK K
              refine ords_pure rfl (fun K hK => ?_); go_simp; refine hK _ ?_; clear hK K
              refine ords_pure rfl (fun K hK => ?_); go_simp; refine hK _ ?_; clear hK K
              refine ords_heldK rfl (fun K K2 hK hK2 => ?_); go_simp; refine ⟨hK2 _ (fun w9 hS => ?_), hK _ ?_⟩; (clear hK hK2 K K2; obtain ⟨s0, s1, s2, s3⟩ := hS; go_simp); (clear hK hK2 K K2)
              refine ords_pure rfl (fun K hK => ?_); go_simp; refine hK _ ?_; clear hK K
              refine ords_heldK rfl (fun K K2 hK hK2 => ?_); go_simp; refine ⟨hK2 _ (fun w9 hS => ?_), hK _ ?_⟩; (clear hK hK2 K K2; obtain ⟨s0, s1, s2, s3⟩ := hS; go_simp); (clear hK hK2 K K2)
              refine ords_loud rfl (fun n1 => ?_)
              go_wp2; refine ⟨⟨size_new hbs, cal (by rw [block_of_add]; simp; omega) g1, cal (by simp; omega) gu, cal (by rw [block_of_add]; simp; omega) g5⟩, ?_⟩
              refine ords_loud rfl (fun n2 => ?_)
              (refine wpList_appB1 _ rfl (.tmp 56) (.tmp 67) rfl (((HO.out.drewN (nq + n1)).alloc _).drewN n2) rfl (joinTo_len _ _ _ _) rfl (cnew _ _ _ rfl) xb rfl (by omega) (by simp; omega) ?_; intro A3 c3 w3 hown3 hgrow hat; have hg3 := grown_undrewN hgrow; clear hgrow hat; go_wp2); have HO3 := Lib.hid hown3; have HG3 := Lib.hid hg3; clear hown3 hg3; refine ⟨⟨Nat.le_trans (by simp <;> omega) HG3.out.size, cgr HG3.out (by rw [block_of_add]; simp; omega) (by rw [block_of_add]; exact ne_map (fun a ha => (HO.out.block_lt a ha).1) had) (cal (by rw [block_of_add]; simp; omega) g1), cgr HG3.out (by simp; omega) (os_ne HO.out HU.out (by decide)) (cal (by simp; omega) gu), cgr HG3.out (by rw [block_of_add]; simp; omega) (by rw [block_of_add]; exact ne_map (fun a ha => (HO.out.block_lt a ha).1) hxad) (cal (by rw [block_of_add]; simp; omega) g5)⟩, ?_⟩
              refine ords_pure rfl (fun K hK => ?_); go_simp; refine hK _ ?_; clear hK K
              refine ords_end (fun n3 => ?_)
              have hU3 : OS cN w3 w.heap.size (some ⟨b, 0, none⟩) n (used n blk i) := ((HU.out.drewN (nq + n1)).alloc (.cells #[.int .u8 (byt xb)] 5)).kept HG3.out (fun a ha e => by injection ha with ha; subst ha; exact os_ne HO.out HU.out (by decide) e.symm)
              obtain ⟨gb, u', e3, -, -, e4, gu3, gfu3⟩ := hU3.at_ (k := j) (by rw [used_len]; exact hjr)
              injection e3 with e3; injection e3 with e3; subst e3
              rw [used_get _ _ _ _ hjr, ← HUU.out] at e4
              injection e4 with e4
              subst e4
              change w3.cell? ⟨b, j, none⟩ = some (.int .i64 (u : Int)) at gu3
              have HU3 := Lib.hid hU3; clear hU3
              have hw3 : Below w.heap.size w w3 := bapp (bal (bdr hbw (nq + n1)) (.cells #[.int .u8 (byt xb)] 5)) ((HO.out.drewN (nq + n1)).alloc _) HG3.out
              clear g1 gu g5 gfu
              go_wp2
              go_roundw
              case rel =>
                have hb1 : Below w.heap.size w ((w3.drewN n3).setCell ⟨b, j, none⟩ (.int .i64 ((u : Int) + 1))) := bput (bdr hw3 n3) (by exact hbu) _
                have hu1 := (HU3.out.drewN n3).set j (u + 1)
                have ho1 := (HO3.out.drewN n3).setFar (p := ⟨b, j, none⟩) (fun a ha e => os_ne HO3.out HU3.out (by decide) (by rw [ha]; exact congrArg some e.symm)) (.int .i64 ((u : Int) + 1))
                refine ⟨i + 1, A3, c3, by omega, by go_num, rfl, ?_, ?_, ?_, hb1⟩
                · intro i' hi'
                  by_cases h : i' = i
                  · subst h; exact hfit.out.2 huz
                  · exact HG.out i' (by omega)
                · rw [joinTo_succ, HXB.out]; exact ho1
                · rw [used_succ, hjl.out, ← HUU.out]; exact hu1
              case measure => simp [intOf]; omega
            · go_wp2_with (go_at_call 45; refine (hB.out _).mono ?_; rintro e w1 ⟨rfl, rfl⟩)
              go_quiet (fail)
              go_wp2
              have hng : n = l.length → ¬ good n blk (lls l) (total (lls l)) := fun _ hg => huz (hfit.out.1 (hg i (by rw [← HT.out]; exact hlt)))
              refine bodyPost_ret (results_tmp2 rfl _ _ _) rfl ⟨none, 0, 0, ?_, ?_, ?_, bdr hbw _⟩
              · rw [HE.out, joinE_no (fun h => hng h.symm)]; rfl
              · rw [HJ.out, joinL_no (fun h => hng h.symm)]; rfl
              · rw [HJ.out, joinL_no (fun h => hng h.symm)]; exact OS.nil _ _ _ rfl
          · obtain rfl : T = i := by omega
            go_wp2
            have hg := HG.out; have ho := HO.out
            rw [HT.out] at hg ho
            refine bodyPost_ret (results_tmp2 rfl _ _ _) rfl ⟨A1, c1, T, ?_, ?_, ?_, hbw⟩
            · rw [HE.out, joinE_yes HN.out hg]; rfl
            · rw [HJ.out, joinL_yes HN.out hg, joinTo_len]; exact HT.out
            · rw [HJ.out, joinL_yes HN.out hg]; exact ho
  · have hne : ¬ (N : Int) = (n : Int) := by omega
    go_enter Try.func26, Try.ntmps26
    go_wp2_with (go_at_call 44; refine (hC.out _).mono ?_; rintro e w1 ⟨rfl, rfl⟩)
    have hln : l.length = n → ¬ good n blk (lls l) (total (lls l)) := fun h => absurd (by rw [← HN.out]; exact h.symm) hNn
    refine bodyPost_ret (results_tmp2 rfl _ _ _) rfl ⟨none, 0, 0, ?_, ?_, ?_, b0 _⟩
    · rw [HE.out, joinE_no hln]; rfl
    · rw [HJ.out, joinL_no hln]; rfl
    · rw [HJ.out, joinL_no hln]; exact OS.nil _ _ _ rfl
end Go.Proofs.Ytnkngaicegcejaa

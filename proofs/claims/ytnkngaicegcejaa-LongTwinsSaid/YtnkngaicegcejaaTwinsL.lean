/-
  LongTwins, the law. Contracts alone; no statement is claimed here.
-/
import Derived.Test.YtnkngaicegcejaaTwins
namespace Go.Proofs.Ytnkngaicegcejaa
open Go.RowKit
attribute [local go_sem] pureUpon Ords.of

theorem xorB_comm (x y : List UInt8) : xorB x y = xorB y x := by
  unfold xorB
  rw [List.zipWith_comm]
  congr 1
  funext a b
  first | exact UInt8.xor_comm a b | exact UInt8.xor_comm b a
theorem mixB_comm (x y : List UInt8) : mixB x y = mixB y x := by unfold mixB; rw [xorB_comm]
theorem xorB_self (x : List UInt8) : xorB x x = List.replicate x.length 0 := by
  induction x with
  | nil => rfl
  | cons a x ih => simp only [xorB, List.zipWith_cons_cons, List.length_cons, List.replicate_succ] at ih ⊢; rw [ih]; simp
theorem mixZ_zero : flat (xorW (mixZ (wordsOf (List.replicate 1024 0) 128)) (wordsOf (List.replicate 1024 0) 128)) = List.replicate 1024 0 := by decide +kernel
theorem mixB_self (x : List UInt8) (h : x.length = 1024) : mixB x x = List.replicate 1024 0 := by
  unfold mixB; rw [xorB_self, h, mixZ_zero]

theorem rsb {w w' : World} {A : Option Addr} {l : List UInt8} (h : RS cB w w.heap.size A l) (hb : Below w.heap.size w w') : RS cB w' w'.heap.size A l := (h.below hb).more hb.size
theorem osb {w w' : World} {base c : Nat} {A : Option Addr} {l : List UInt8} (h : OS cB w base A c l) (hb : Below w.heap.size w w') : OS cB w' base A c l := h.below hb (Nat.le_refl _)
theorem same_t (A1 A2 : Option Addr) (c1 c2 : Nat) (l : List UInt8) (B1 B2 n : Nat) (w : World) (hn : l.length = n) (hm : n ≤ 1024) (h1 : RS cB w B1 A1 l) (h2 : RS cB w B2 A2 l) :
    Calls Try.prog 35 #[.slice A1 n c1, .slice A2 n c2] w fun e w' => e = .returned (.bool true) ∧ Below w.heap.size w w' :=
  (same19_any A1 A2 c1 c2 l l B1 B2 n n w hn hn (by omega) h1 h2).mono fun e w' ⟨he, n, h⟩ => ⟨by rw [he, decide_eq_true rfl], by rw [h]; exact bdr (b0 w) n⟩

set_option maxRecDepth 20000 in
set_option maxHeartbeats 8000000 in
theorem twins_law (A1 A2 A3 : Option Addr) (n1 n2 n3 c1 c2 c3 : Nat) (s t u : List UInt8) (w : World) (h1 : s.length = n1) (h2 : t.length = n2) (h3 : u.length = n3) (m1 : n1 ≤ 140737488355328) (m2 : n2 ≤ 140737488355328) (m3 : n3 ≤ 140737488355328)
    (hr1 : RS cB w w.heap.size A1 s) (hr2 : RS cB w w.heap.size A2 t) (hr3 : RS cB w w.heap.size A3 u) :
    Calls Try.prog 11 #[.slice A1 n1 c1, .slice A2 n2 c2, .slice A3 n3 c3] w fun e w' => e = .returned (.bool true) ∧ Below w.heap.size w w' := by
  have H1 := Lib.hid h1; have H2 := Lib.hid h2; have H3 := Lib.hid h3; have R1 := Lib.hid hr1; have R2 := Lib.hid hr2; have R3 := Lib.hid hr3; clear h1 h2 h3 hr1 hr2 hr3
  have hmk : ∀ (W : World), (Instr.makeSlice 22 (.int .i64 1024) (.int .i64 1024)).run Try.prog W = .ok (.slice (some ⟨W.heap.size, 0, none⟩) 1024 1024) (W.alloc (.cells (madeCells #[cB.zero] 1024) 5)) := fun (W : World) => run_makeS cB_ok .i64 .i64 1024 1024 (Nat.le_refl _) (by show 1 * 1024 ≤ _; omega) (by omega) W
  obtain ⟨X, hX⟩ : ∃ X, X = blockB s := ⟨_, rfl⟩
  obtain ⟨Y, hY⟩ : ∃ Y, Y = blockB t := ⟨_, rfl⟩
  obtain ⟨O, hO⟩ : ∃ O, O = blockB u := ⟨_, rfl⟩
  obtain ⟨M, hM⟩ : ∃ M, M = mixB X Y := ⟨_, rfl⟩
  have XL : Hid (X.length = 1024) := by show _ = _; rw [hX, blockB_len]
  have YL : Hid (Y.length = 1024) := by show _ = _; rw [hY, blockB_len]
  have OL : Hid (O.length = 1024) := by show _ = _; rw [hO, blockB_len]
  have ML : Hid (M.length = 1024) := by show _ = _; rw [hM, mixB_len]
  have XOL : Hid ((xorB M O).length = 1024) := by show _ = _; rw [xorB_len M O (OL.out.trans ML.out.symm), ML.out]
  have HX := Lib.hid hX; have HY := Lib.hid hY; have HO := Lib.hid hO; have HM := Lib.hid hM; clear hX hY hO hM
  go_enter Try.func11, Try.ntmps11
  go_wp2_with fail
  refine (awake_any _).mono ?_
  rintro e w1 ⟨rfl, hb1⟩
  replace R1 := Lib.hid (rsb R1.out hb1); replace R2 := Lib.hid (rsb R2.out hb1); replace R3 := Lib.hid (rsb R3.out hb1)
  have hbT := hb1
  go_wp2_with fail
  refine (block_any A1 c1 n1 s _ H1.out m1 R1.out).mono ?_
  rintro e w2 ⟨Ax, kx, rfl, hx, hb2⟩
  rw [← HX.out] at hx
  have RX := Lib.hid hx.reads; clear hx
  replace R1 := Lib.hid (rsb R1.out hb2)
  replace R2 := Lib.hid (rsb R2.out hb2)
  replace R3 := Lib.hid (rsb R3.out hb2)
  replace hbT := bcall hbT hb2
  go_wp2_with fail
  refine (block_any A2 c2 n2 t _ H2.out m2 R2.out).mono ?_
  rintro e w3 ⟨Ay, ky, rfl, hy, hb3⟩
  rw [← HY.out] at hy
  have RY := Lib.hid hy.reads; clear hy
  replace R1 := Lib.hid (rsb R1.out hb3)
  replace R2 := Lib.hid (rsb R2.out hb3)
  replace R3 := Lib.hid (rsb R3.out hb3)
  replace RX := Lib.hid (rsb RX.out hb3)
  replace hbT := bcall hbT hb3
  go_wp2_with fail
  refine (block_any A3 c3 n3 u _ H3.out m3 R3.out).mono ?_
  rintro e w4 ⟨Ao, ko, rfl, ho, hb4⟩
  rw [← HO.out] at ho
  have RO := Lib.hid ho.reads; clear ho
  replace R1 := Lib.hid (rsb R1.out hb4)
  replace R2 := Lib.hid (rsb R2.out hb4)
  replace R3 := Lib.hid (rsb R3.out hb4)
  replace RX := Lib.hid (rsb RX.out hb4)
  replace RY := Lib.hid (rsb RY.out hb4)
  replace hbT := bcall hbT hb4
  have h4 := b0 w4
  go_wp2_with fail
  refine (mixP_yes Ax Ay kx ky X Y _ XL.out YL.out ((RX.out.below h4).more h4.size) ((RY.out.below h4).more h4.size)).mono ?_
  rintro e w5 ⟨Aa, ka, rfl, ha, hb5⟩
  rw [← HM.out] at ha; have La := Lib.hid (fun q (h : Aa = some q) => (ha.block_lt q h).2)
  replace h4 := bcall h4 hb5
  have Za := Lib.hid ha; clear ha
  have h5 := b0 w5
  go_wp2_with fail
  refine (mixP_yes Ay Ax ky kx Y X _ YL.out XL.out ((RY.out.below h4).more h4.size) ((RX.out.below h4).more h4.size)).mono ?_
  rintro e w6 ⟨Ab, kb, rfl, hb, hb6⟩
  rw [mixB_comm, ← HM.out] at hb
  replace hb := hb.mono h5.size
  replace Za := Lib.hid (osb Za.out hb6)
  replace h4 := bcall h4 hb6
  replace h5 := bcall h5 hb6
  have Zb := Lib.hid hb; clear hb
  go_wp2_with fail
  refine (copied19_any Ax kx 1024 X _ XL.out (by omega) ((RX.out.below h4).more h4.size)).mono ?_
  rintro e w7 ⟨Ac, kc, rfl, hc, hb7⟩
  replace Za := Lib.hid (osb Za.out hb7)
  replace Zb := Lib.hid (osb Zb.out hb7)
  replace h4 := bcall h4 hb7
  replace h5 := bcall h5 hb7
  have Zc := Lib.hid hc; clear hc
  go_wp2_with fail
  refine (mixP_yes Ax Ac kx kc X X _ XL.out XL.out ((RX.out.below h4).more h4.size) Zc.out.reads).mono ?_
  rintro e w8 ⟨Az, kz, rfl, hz, hb8⟩
  rw [mixB_self X XL.out] at hz
  replace Za := Lib.hid (osb Za.out hb8)
  replace Zb := Lib.hid (osb Zb.out hb8)
  replace Zc := Lib.hid (osb Zc.out hb8)
  replace h4 := bcall h4 hb8
  replace h5 := bcall h5 hb8
  have Zz := Lib.hid hz; clear hz
  clear Zc
  go_wp2_with fail
  refine (same_t Aa Ab ka kb M _ _ 1024 _ ML.out (by omega) Za.out.reads Zb.out.reads).mono ?_
  rintro e w9 ⟨rfl, hb9⟩
  replace Za := Lib.hid (osb Za.out hb9)
  replace Zb := Lib.hid (osb Zb.out hb9)
  replace Zz := Lib.hid (osb Zz.out hb9)
  replace h4 := bcall h4 hb9
  replace h5 := bcall h5 hb9
  have hz0 := OS.madeAt (cd := cB) (base := w9.heap.size) w9 1024 1024 0 rfl (Nat.le_refl _) (by unfold maxLen; omega) (Nat.le_refl _) rfl
  have hbz := bal (b0 w9) (.cells (madeCells #[cB.zero] 1024) 5)
  replace Za := Lib.hid (osb Za.out hbz)
  replace Zb := Lib.hid (osb Zb.out hbz)
  replace Zz := Lib.hid (osb Zz.out hbz)
  replace h4 := bcall h4 hbz
  replace h5 := bcall h5 hbz
  have Z0 := Lib.hid hz0.reads; clear hz0 hbz
  go_wp2_with fail
  refine (same_t Az _ kz _ (List.replicate 1024 0) _ _ 1024 _ (List.length_replicate ..) (by omega) Zz.out.reads Z0.out).mono ?_
  rintro e w10 ⟨rfl, hb10⟩
  replace Za := Lib.hid (osb Za.out hb10)
  replace Zb := Lib.hid (osb Zb.out hb10)
  replace Zz := Lib.hid (osb Zz.out hb10)
  replace h4 := bcall h4 hb10
  replace h5 := bcall h5 hb10
  clear Zz Z0
  go_wp2_with fail
  refine (overP_yes Ax Ay Ao kx ky ko X Y O _ XL.out YL.out OL.out ((RX.out.below h4).more h4.size) ((RY.out.below h4).more h4.size) ((RO.out.below h4).more h4.size)).mono ?_
  rintro e w11 ⟨Ap, kp, rfl, hp, hb11⟩
  rw [← HM.out] at hp
  replace hp := hp.mono h5.size
  replace Za := Lib.hid (osb Za.out hb11)
  replace Zb := Lib.hid (osb Zb.out hb11)
  replace h4 := bcall h4 hb11
  replace h5 := bcall h5 hb11
  have Zp := Lib.hid hp; clear hp
  go_wp2_with fail
  refine (xorP_yes Aa Ao ka ko M O _ ML.out OL.out Za.out.reads ((RO.out.below h4).more h4.size)).mono ?_
  rintro e w12 ⟨Av, kv, rfl, hv, hb12⟩
  replace hv := hv.mono h5.size
  replace Za := Lib.hid (osb Za.out hb12)
  replace Zb := Lib.hid (osb Zb.out hb12)
  replace Zp := Lib.hid (osb Zp.out hb12)
  replace h4 := bcall h4 hb12
  replace h5 := bcall h5 hb12
  have Zv := Lib.hid hv; clear hv
  rcases Za.out.form with ⟨-, -, h0⟩ | ⟨ga, rfl, hga, -, -, -⟩
  · have := ML.out; rw [h0] at this; simp at this
  have hga5 : ga < w5.heap.size := La.out _ rfl
  have H4 := Lib.hid h4; clear h4 h5
  go_wp2_with fail
  go_loopw [87] (fun i wr => ∃ (k : Nat) (L : List UInt8), k ≤ 1024 ∧ i = .int .i64 k ∧ L.length = 1024 ∧ OS cB wr w4.heap.size (some ⟨ga, 0, none⟩) ka L ∧ OS cB wr w5.heap.size Ab kb M ∧ OS cB wr w5.heap.size Ap kp (xorB M O) ∧ OS cB wr w5.heap.size Av kv (xorB M O) ∧ Below w4.heap.size w4 wr) (fun i _ => 1024 - (intOf i).toNat)
  case atStart => exact ⟨0, M, by omega, rfl, ML.out, Za.out, Zb.out, Zp.out, Zv.out, H4.out⟩
  case round =>
    clear Za Zb Zp Zv H4
    obtain ⟨k, L, hk, rfl, hl, ha, hb, hp, hv, h4⟩ := hrel
    have Za := Lib.hid ha; have Zb := Lib.hid hb; have Zp := Lib.hid hp; have Zv := Lib.hid hv; have HL := Lib.hid hl; clear ha hb hp hv hl
    by_cases hlt : k < 1024
    · obtain ⟨g1, x, e1, -, -, -, gc, gf⟩ := Za.out.at_ (k := k) (by rw [HL.out]; exact hlt)
      injection e1 with e1; injection e1 with e1; subst e1
      change wr.cell? ⟨ga, k, none⟩ = some (.int .u8 (byt x)) at gc
      have hkd : decide ((k : Int) < 1024) = true := by simp; omega
      have hki : (k : Int) < 1024 := by omega
      have hfar : ∀ (A : Option Addr) (c : Nat) (l : List UInt8), OS cB wr w5.heap.size A c l → OS cB (wr.setCell ⟨ga, k, none⟩ (.int .u8 0)) w5.heap.size A c l := fun A c l h => h.setFar (p := ⟨ga, k, none⟩) (fun a ha => by have := (h.block_lt a ha).1; show a.block ≠ ga; omega) _
      have HF := Lib.hid hfar; clear hfar
      go_wp2
      case roundEnd =>
        have h1 := Za.out.set k 0
        exact ⟨⟨k + 1, L.set k 0, by omega, by go_num, by rw [List.length_set]; exact HL.out, h1, HF.out _ _ _ Zb.out, HF.out _ _ _ Zp.out, HF.out _ _ _ Zv.out, bput h4 hga _⟩, by simp [intOf]; omega⟩
    · obtain rfl : k = 1024 := by omega
      clear hlt hk
      go_wp2_with fail
      refine (mixP_yes Ax Ay kx ky X Y _ XL.out YL.out ((RX.out.below h4).more h4.size) ((RY.out.below h4).more h4.size)).mono ?_
      rintro e w14 ⟨Ag, kg, rfl, hg, hb14⟩
      rw [← HM.out] at hg
      replace Zb := Lib.hid (osb Zb.out hb14)
      replace Zp := Lib.hid (osb Zp.out hb14)
      replace Zv := Lib.hid (osb Zv.out hb14)
      replace h4 := bcall h4 hb14
      have Zg := Lib.hid hg; clear hg
      go_wp2_with fail
      refine (same_t Ap Av kp kv (xorB M O) _ _ 1024 _ XOL.out (by omega) Zp.out.reads Zv.out.reads).mono ?_
      rintro e w15 ⟨rfl, hb15⟩
      replace Zb := Lib.hid (osb Zb.out hb15)
      replace Zp := Lib.hid (osb Zp.out hb15)
      replace Zv := Lib.hid (osb Zv.out hb15)
      replace Zg := Lib.hid (osb Zg.out hb15)
      replace h4 := bcall h4 hb15
      go_wp2_with fail
      refine (same_t Ag Ab kg kb M _ _ 1024 _ ML.out (by omega) Zg.out.reads Zb.out.reads).mono ?_
      rintro e w16 ⟨rfl, hb16⟩
      replace Zb := Lib.hid (osb Zb.out hb16)
      replace Zp := Lib.hid (osb Zp.out hb16)
      replace Zv := Lib.hid (osb Zv.out hb16)
      replace Zg := Lib.hid (osb Zg.out hb16)
      replace h4 := bcall h4 hb16
      go_wp2_with fail
      refine (block_any A1 c1 n1 s _ H1.out m1 ((R1.out.below h4).more h4.size)).mono ?_
      rintro e w17 ⟨At0, kt0, rfl, ht0, hb17⟩
      rw [← HX.out] at ht0
      replace h4 := bcall h4 hb17
      have Zt0 := Lib.hid ht0; clear ht0
      go_wp2_with fail
      refine (same_t Ax At0 kx kt0 X _ _ 1024 _ XL.out (by omega) (RX.out.below h4) Zt0.out.reads).mono ?_
      rintro e w18 ⟨rfl, hb18⟩
      replace Zt0 := Lib.hid (osb Zt0.out hb18)
      replace h4 := bcall h4 hb18
      go_wp2_with fail
      refine (block_any A2 c2 n2 t _ H2.out m2 ((R2.out.below h4).more h4.size)).mono ?_
      rintro e w19 ⟨At1, kt1, rfl, ht1, hb19⟩
      rw [← HY.out] at ht1
      replace h4 := bcall h4 hb19
      have Zt1 := Lib.hid ht1; clear ht1
      go_wp2_with fail
      refine (same_t Ay At1 ky kt1 Y _ _ 1024 _ YL.out (by omega) (RY.out.below h4) Zt1.out.reads).mono ?_
      rintro e w20 ⟨rfl, hb20⟩
      replace Zt1 := Lib.hid (osb Zt1.out hb20)
      replace h4 := bcall h4 hb20
      go_wp2_with fail
      refine (block_any A3 c3 n3 u _ H3.out m3 ((R3.out.below h4).more h4.size)).mono ?_
      rintro e w21 ⟨At2, kt2, rfl, ht2, hb21⟩
      rw [← HO.out] at ht2
      replace h4 := bcall h4 hb21
      have Zt2 := Lib.hid ht2; clear ht2
      go_wp2_with fail
      refine (same_t Ao At2 ko kt2 O _ _ 1024 _ OL.out (by omega) (RO.out.below h4) Zt2.out.reads).mono ?_
      rintro e w22 ⟨rfl, hb22⟩
      replace Zt2 := Lib.hid (osb Zt2.out hb22)
      replace h4 := bcall h4 hb22
      go_wp2_with fail
      exact bodyPost_ret (results_tmp rfl _ _ _) rfl ⟨rfl, bcall hbT h4⟩
end Go.Proofs.Ytnkngaicegcejaa

/-
  LongChains' law. Contracts alone; no statement is claimed here.
-/
import Derived.Test.YtgephdbicbmpeaaGreatLHash
namespace Go.Proofs.YtgephdbicbmpeaaGreat
open Go.RowKit
attribute [local go_sem] pureUpon Ords.of

theorem halvesL_head (v : List UInt8) (h : v.length = 64) : ∀ k, (halvesL v (k + 1)).take 32 = v.take 32
  | 0 => by show ([] ++ v.take 32).take 32 = _; rw [List.nil_append, List.take_take]; rfl
  | k + 1 => by
    show (halvesL v (k + 1) ++ _).take 32 = _
    rw [List.take_append_of_le_length (by rw [halvesL_len v h]; omega)]
    exact halvesL_head v h k
theorem halvesL_next (v : List UInt8) (h : v.length = 64) : ∀ k, ((halvesL v (k + 2)).drop 32).take 32 = (plainL 64 v).take 32
  | 0 => by
    show ((([] ++ v.take 32) ++ (plainL 64 v).take 32).drop 32).take 32 = _
    rw [List.nil_append, List.drop_left' (by rw [List.length_take, h]; rfl), List.take_take]
    rfl
  | k + 1 => by
    show (((halvesL v (k + 2)) ++ _).drop 32).take 32 = _
    rw [List.drop_append_of_le_length (by rw [halvesL_len v h]; omega), List.take_append_of_le_length (by rw [List.length_drop, halvesL_len v h]; omega)]
    exact halvesL_next v h k
theorem longL_wide (n : Nat) (data : List UInt8) (h : 65 ≤ n) : ∃ q t, n = 32 * (q + 1) + t ∧ 33 ≤ t ∧ t ≤ 64 ∧ longL n data = halvesL (plainL 64 (storeN n 4 ++ data)) (q + 1) ++ plainL t (chainL (plainL 64 (storeN n 4 ++ data)) q) := by
  obtain ⟨q, hq⟩ : ∃ q, (n + 31) / 32 = q + 3 := ⟨(n + 31) / 32 - 3, by omega⟩
  refine ⟨q, n - 32 * (q + 1), by omega, by omega, by omega, ?_⟩
  unfold longL
  dsimp only
  rw [if_neg (by omega), hq, show q + 3 - 2 = q + 1 by omega, show q + 1 - 1 = q by omega]
theorem longL_head (n : Nat) (data : List UInt8) (h : 65 ≤ n) : (longL n data).take 32 = (plainL 64 (storeN n 4 ++ data)).take 32 := by
  obtain ⟨q, t, h1, h2, h3, e⟩ := longL_wide n data h
  rw [e, List.take_append_of_le_length (by rw [halvesL_len _ (plainL_len _ _ (Nat.le_refl _))]; omega)]
  exact halvesL_head _ (plainL_len _ _ (Nat.le_refl _)) q
theorem longL_next (n : Nat) (data : List UInt8) (h : 96 < n) : ((longL n data).drop 32).take 32 = (plainL 64 (plainL 64 (storeN n 4 ++ data))).take 32 := by
  obtain ⟨q, t, h1, h2, h3, e⟩ := longL_wide n data (by omega)
  obtain ⟨r, rfl⟩ : ∃ r, q = r + 1 := ⟨q - 1, by omega⟩
  have hl := plainL_len 64 (storeN n 4 ++ data) (Nat.le_refl _)
  rw [e, List.drop_append_of_le_length (by rw [halvesL_len _ hl]; omega), List.take_append_of_le_length (by rw [List.length_drop, halvesL_len _ hl]; omega)]
  exact halvesL_next _ hl r
theorem longL_last (n : Nat) (data : List UInt8) (h : 65 ≤ n) (h2 : n ≤ 96) : (longL n data).drop 32 = plainL (n - 32) (plainL 64 (storeN n 4 ++ data)) := by
  obtain ⟨q, t, h1, h3, h4, e⟩ := longL_wide n data h
  obtain rfl : q = 0 := by omega
  obtain rfl : t = n - 32 := by omega
  have hl := plainL_len 64 (storeN n 4 ++ data) (Nat.le_refl _)
  rw [e, List.drop_left' (by rw [halvesL_len _ hl])]
  rfl
set_option maxRecDepth 20000 in
set_option maxHeartbeats 4000000 in
theorem longChains_law (sz : Nat) (A : Option Addr) (nd c : Nat) (data : List UInt8) (w : World) (hd : data.length = nd) (hd47 : nd ≤ 140737488351232) (hr : RS cB w w.heap.size A data) :
    Calls Tryz.prog 6 #[.int .u16 sz, .slice A nd c] w fun e w' => e = .returned (.bool true) ∧ Below w.heap.size w w' := by
  have haw := fun W => awake_any W
  obtain ⟨r, hr1⟩ : ∃ r, r = sz % 2000 := ⟨_, rfl⟩
  have z1 : (sz : Int).tmod 2000 = (r : Int) := by rw [hr1]; rfl
  have z2 : (sz : Int) % 2000 = (r : Int) := by omega
  have hr2 : r < 2000 := by omega
  obtain ⟨n, hn⟩ : ∃ n, n = 65 + r := ⟨_, rfl⟩
  have z3 : 65 + (r : Int) = (n : Int) := by omega
  have hn2 : 65 ≤ n ∧ n ≤ 3000 := by omega
  have z4 : IntKind.i64.wrap (r : Int) = r := by simp [IntKind.wrap, IntKind.bits, IntKind.signed]; omega
  have z5 : IntKind.i64.wrap (n : Int) = n := by simp [IntKind.wrap, IntKind.bits, IntKind.signed]; omega
  have z6 : IntKind.u64.wrap (n : Int) = n := by rw [wrap_u64]; omega
  have hlo := fun W hr => longWideC_any n A nd c data W ⟨hn2.1, by omega⟩ hd hd47 hr
  have hst := fun W => refStore_any (UInt64.ofNat n) 4 (by decide) W
  rw [wrd_small n (by omega)] at hst
  have hu : (UInt64.ofNat n).toNat = n := by rw [UInt64.toNat_ofNat']; omega
  simp only [hu] at hst
  have hsl := storeN_len n 4
  have hL := longL_len n data
  have hh := longL_head n data hn2.1
  have hnx := fun h => longL_next n data h
  have hla := fun h => longL_last n data hn2.1 h
  obtain ⟨S, hS⟩ : ∃ S, S = storeN n 4 := ⟨_, rfl⟩
  rw [← hS] at hh hsl
  simp only [← hS] at hst hnx hla
  have hfl : (S ++ data).length = 4 + nd := by rw [List.length_append, hsl, hd]
  have hv64 := fun A c W hr => refHash_any true false 64 (plainP 64 0) [] [] [] (S ++ data) none A 0 0 (4 + nd) c W (plainP_chk true 64 0 ⟨by decide, by decide⟩ (Nat.zero_le _)) (plainP_fit _ _) rfl rfl (RS.nil _) (RS.nil _) rfl (.inl rfl) (RS.nil _) hfl (by omega) hr ⟨by decide, by decide⟩
  change ∀ A c W, RS cB W W.heap.size A (S ++ data) → Calls Tryz.prog _ #[.int .i64 1, .agg #[.int .i64 64, .int .i64 0, .int .i64 1, .int .i64 1, .int .u32 0, .int .u64 0, .int .u32 0, .int .i64 0, .int .i64 0, .slice none 0 0, .slice none 0 0], .slice none 0 0, .bool false, .int .i64 64, .slice A (4 + nd) c] W (fun r w' => ∃ A' c' cc, r = .returned (.tuple #[.slice A' 64 cc, .int .i64 0]) ∧ 64 ≤ cc ∧ OS cB w' W.heap.size A' c' (plainL 64 (S ++ data)) ∧ Below W.heap.size W w') at hv64
  have hvl := plainL_len 64 (S ++ data) (Nat.le_refl _)
  obtain ⟨V, hV⟩ : ∃ V, V = plainL 64 (S ++ data) := ⟨_, rfl⟩
  rw [← hV] at hvl hh
  simp only [← hV] at hv64 hnx hla
  have hw64 := fun (m : Nat) (hm : 1 ≤ m ∧ m ≤ 64) A c W hr => refHash_any true false m (plainP m 0) [] [] [] V none A 0 0 64 c W (plainP_chk true m 0 hm (Nat.zero_le _)) (plainP_fit _ _) rfl rfl (RS.nil _) (RS.nil _) rfl (.inl rfl) (RS.nil _) hvl (by decide) hr hm
  change ∀ (m : Nat) (hm : 1 ≤ m ∧ m ≤ 64) A c W, RS cB W W.heap.size A V → Calls Tryz.prog _ #[.int .i64 1, .agg #[.int .i64 m, .int .i64 0, .int .i64 1, .int .i64 1, .int .u32 0, .int .u64 0, .int .u32 0, .int .i64 0, .int .i64 0, .slice none 0 0, .slice none 0 0], .slice none 0 0, .bool false, .int .i64 m, .slice A 64 c] W (fun r w' => ∃ A' c' cc, r = .returned (.tuple #[.slice A' m cc, .int .i64 0]) ∧ m ≤ cc ∧ OS cB w' W.heap.size A' c' (plainL m V) ∧ Below W.heap.size W w') at hw64
  have hpl := fun m (h : m ≤ 64) => plainL_len m V h
  have hsm := fun (A1 A2 : Option Addr) (c1 c2 n1 n2 : Nat) (l1 l2 : List UInt8) W h1 h2 hm r1 r2 => same19_any A1 A2 c1 c2 l1 l2 n1 n2 W h1 h2 hm r1 r2
  obtain ⟨L, hLe⟩ : ∃ L, L = longL n data := ⟨_, rfl⟩
  rw [← hLe] at hL hh
  simp only [← hLe] at hlo hnx hla
  obtain ⟨hn3, hn4⟩ := hn2
  have HAW := Lib.hid haw; have HLO := Lib.hid hlo; have HST := Lib.hid hst; have HSL := Lib.hid hsl; have HL := Lib.hid hL; have HH := Lib.hid hh; have HNX := Lib.hid hnx; have HLA := Lib.hid hla; have HFL := Lib.hid hfl; have HV64 := Lib.hid hv64; have HVL := Lib.hid hvl; have HW64 := Lib.hid hw64; have HPL := Lib.hid hpl; have HSM := Lib.hid hsm; have HR := Lib.hid hr; have HD := Lib.hid hd
  clear haw hlo hst hsl hL hh hnx hla hfl hv64 hvl hw64 hpl hsm hr hd hu hS hV hLe hn hr1
  go_enter Tryz.func6, Tryz.ntmps6
  go_upto_region 8 with (first
    | (go_at_call 27; refine (HAW.out _).mono ?_; rintro e1 w1 ⟨rfl, hb1⟩; have HB1 := Lib.hid hb1; clear hb1)
    | (go_at_call 24; refine (HLO.out _ ((HR.out.below HB1.out).more HB1.out.size)).mono ?_; rintro e2 w2 ⟨A2, c2, rfl, ho2, hb2⟩; have hlc2 := ho2.len_le.1; rw [HL.out] at hlc2; have HO2 := Lib.hid ho2; have HB2 := Lib.hid (bcall HB1.out hb2); clear ho2 hb2)
    | (go_at_call 28; refine (HST.out _).mono ?_; rintro e3 w3 ⟨A3, c3, rfl, ho3, hb3⟩; have HO3 := Lib.hid (ho3.mono (show w.heap.size ≤ _ from HB2.out.size)); have HB3 := Lib.hid (bcall HB2.out hb3); have HO23 := Lib.hid (HO2.out.below hb3 (Nat.le_refl _)); have HS3 := Lib.hid (fun (a b : Addr) (ha : A2 = some a) (hb : A3 = some b) => (by have h1 := (HO2.out.block_lt a ha).2; have h2 := (ho3.block_lt b hb).1; omega : a.block ≠ b.block)); clear ho3 hb3)
    | (at_builtin; refine wpList_appB _ rfl (.tmp 38) (.tmp 39) rfl HO3.out rfl HSL.out ((HR.out.below HB3.out).more HB3.out.size) rfl HD.out (by omega) HB3.out.size ?_; intro A4 c4 w4 ho4 hg4 hA4; have HO4 := Lib.hid ho4; have HB4 := Lib.hid (bapp HB3.out HO3.out hg4); have HO24 := Lib.hid (HO23.out.kept hg4 (fun a ha => sep_row (fun o ho => Ne.symm (HS3.out a o ha ho)))); clear ho4 hg4 hA4))
  have hP := Blk.new w4 26 #[.int .i64 64, .int .i64 0, .int .i64 1, .int .i64 1, .int .u32 0, .int .u64 0, .int .u32 0, .int .i64 0, .int .i64 0, .slice none 0 0, .slice none 0 0]
  have HP := Lib.hid hP; clear hP
  go_wp2_with fail
  refine (HV64.out A4 c4 _ ((HO4.out.reads.alloc (Nat.le_refl _) _).more (by simp))).mono ?_
  rintro e5 w5 ⟨A5, c5, cc5, rfl, hcc5, ho5, hb5⟩
  obtain ⟨gp, hgp⟩ : ∃ g, g = w4.heap.size := ⟨_, rfl⟩
  have hP5 := HP.out.below hb5 HP.out.lt
  have hB5 := bcall (bal HB4.out _) hb5
  have hO25 := (HO24.out.alloc _).below hb5 (Nat.le_refl _)
  have hgw : w.heap.size ≤ gp := by rw [hgp]; exact HB4.out.size
  rw [← hgp] at hP5 ⊢
  have HP5 := Lib.hid hP5; have HO5 := Lib.hid ho5; have HB5 := Lib.hid hB5; have HO25 := Lib.hid (hO25.mono (show w.heap.size ≤ _ from HB1.out.size)); have HGW := Lib.hid hgw
  clear hP5 ho5 hb5 hB5 hO25 hgw hgp HP HO4 HB4 HO24 HO2 HO3 HB3 HO23 HB2 HS3
  obtain ⟨g2, rfl⟩ : ∃ g2, A2 = some ⟨g2, 0, none⟩ := by
    rcases HO25.out.form with ⟨h1, h2, h3⟩ | ⟨g, h1, -⟩
    · have := HL.out; rw [h3] at this; simp at this; omega
    · exact ⟨g, h1⟩
  have k1 : (32 : Int) ≤ c2 := by omega
  have k2 : (32 : Int) ≤ cc5 := by omega
  have hlt32 : Hid ((L.take 32).length = 32) := by (show _ = _; rw [List.length_take, HL.out]; omega)
  have hvt32 : Hid ((V.take 32).length = 32) := by (show _ = _; rw [List.length_take, HVL.out]; rfl)
  go_wp2_with fail
  refine wp_region_ords (fun _ => True) (fun _ _ h => h) (Ords.of [(0, 0), (0, 1), (0, 2), (0, 3), (2, 4), (0, 5)] .fin) (by kernel_rfl) rfl (by kernel_rfl) (by kernel_rfl) (fun c a d v w h => by cases d <;> exact h) trivial ?_
  refine ords_pure rfl (fun K hK => ?_); go_simp; refine hK _ ?_; clear hK K
  refine ords_pure rfl (fun K hK => ?_); go_simp; refine hK _ ?_; clear hK K
  refine ords_pure rfl (fun K hK => ?_); go_simp; refine hK _ ?_; clear hK K
  refine ords_pure rfl (fun K hK => ?_); go_simp; refine hK _ ?_; clear hK K
  refine ords_loud rfl (fun n1 => ?_)
  go_wp2_with (go_at_call 26; refine (HSM.out _ A5 _ cc5 32 32 (L.take 32) (V.take 32) _ hlt32.out hvt32.out (by decide) ((HO25.out.reads.take 32).drewN _) ((HO5.out.reads.take 32).drewN _)).mono ?_; rintro e6 w6 ⟨rfl, hb6⟩; rw [decide_eq_true HH.out])
  refine ⟨trivial, ?_⟩
  refine ords_pure rfl (fun K hK => ?_); go_simp; refine hK _ ?_; clear hK K
  refine ords_end (fun n2 => ?_)
  have hB6 := bdr (bcall (bdr (b0 w5) n1) hb6) n2
  generalize w6.drewN n2 = w7 at *
  have HB7 := Lib.hid (bcall HB5.out hB6)
  have hP7 := HP5.out.below hB6 HP5.out.lt
  have HO27 := Lib.hid (HO25.out.below hB6 (Nat.le_refl _)); have HO57 := Lib.hid (HO5.out.below hB6 (Nat.le_refl _))
  have hgl : gp < w7.heap.size := hP7.lt
  have d0 : w7.cell? ⟨gp, 0, none⟩ = some (.int .i64 64) := hP7.cell 0
  have d1 : w7.cell? ⟨gp, 1, none⟩ = some (.int .i64 0) := hP7.cell 1
  have d2 : w7.cell? ⟨gp, 2, none⟩ = some (.int .i64 1) := hP7.cell 2
  have d3 : w7.cell? ⟨gp, 3, none⟩ = some (.int .i64 1) := hP7.cell 3
  have d4 : w7.cell? ⟨gp, 4, none⟩ = some (.int .u32 0) := hP7.cell 4
  have d5 : w7.cell? ⟨gp, 5, none⟩ = some (.int .u64 0) := hP7.cell 5
  have d6 : w7.cell? ⟨gp, 6, none⟩ = some (.int .u32 0) := hP7.cell 6
  have d7 : w7.cell? ⟨gp, 7, none⟩ = some (.int .i64 0) := hP7.cell 7
  have d8 : w7.cell? ⟨gp, 8, none⟩ = some (.int .i64 0) := hP7.cell 8
  have d9 : w7.cell? ⟨gp, 9, none⟩ = some (.slice none 0 0) := hP7.cell 9
  have d10 : w7.cell? ⟨gp, 10, none⟩ = some (.slice none 0 0) := hP7.cell 10
  have hfz := hP7.frozen 0
  have HNE5 := Lib.hid (HO57.out.ne_blk hP7 (by show 5 ≠ 26; decide))
  have HNE2 : Hid (g2 ≠ gp) := HO27.out.ne_blk hP7 (by show 5 ≠ 26; decide) ⟨g2, 0, none⟩ rfl
  have hcut : Hid (RS cB w7 w7.heap.size (some ⟨g2, 32, none⟩) (L.drop 32)) := by
    have h := HO27.out.reads.cut (k := 32) (cap := c2) (by rw [HL.out]; omega) (by rw [HL.out]; omega)
    rw [if_neg (by omega)] at h
    exact h
  have HP7 := Lib.hid hP7
  clear hb6 hB6 hP7 HP5 HO5 HO25 HB5
  by_cases h96 : 96 < n
  · have t1 : decide (96 < (n : Int)) = true := by simp; omega
    have hnx := HNX.out h96
    have hdl : Hid (((L.drop 32).take 32).length = 32) := by (show _ = _; rw [List.length_take, List.length_drop, HL.out]; omega)
    have hpl0 := HPL.out 64 (Nat.le_refl _)
    have hw8 := HW64.out 64 ⟨by decide, by decide⟩
    obtain ⟨P8, hP8⟩ : ∃ P, P = plainL 64 V := ⟨_, rfl⟩
    rw [← hP8] at hnx hpl0
    simp only [← hP8] at hw8
    have hpl : Hid ((P8.take 32).length = 32) := by (show _ = _; rw [List.length_take, hpl0]; rfl)
    have HNX2 := Lib.hid hnx; have HW8 := Lib.hid hw8; clear hnx hfz hw8 hpl0 hP8 HNX HLA HH HW64 HPL
    go_wp2_with (go_at_call 18; refine (HW8.out A5 cc5 _ HO57.out.reads).mono ?_; rintro e8 w8 ⟨A8, c8, cc8, rfl, hcc8, ho8, hb8⟩; have HO8 := Lib.hid ho8; have HB8 := Lib.hid hb8; clear ho8 hb8)
    have k3 : (32 : Int) ≤ cc8 := by omega
    have k4 : (64 : Int) ≤ c2 := by omega
    go_wp2_with fail
    refine wp_region_ords (fun _ => True) (fun _ _ h => h) (Ords.of [(0, 0), (0, 1), (0, 2), (0, 3), (2, 4), (0, 5)] .fin) (by kernel_rfl) rfl (by kernel_rfl) (by kernel_rfl) (fun c a d v w h => by cases d <;> exact h) trivial ?_
    refine ords_pure rfl (fun K hK => ?_); go_simp; refine hK _ ?_; clear hK K
    refine ords_pure rfl (fun K hK => ?_); go_simp; refine hK _ ?_; clear hK K
    refine ords_pure rfl (fun K hK => ?_); go_simp; refine hK _ ?_; clear hK K
    refine ords_pure rfl (fun K hK => ?_); go_simp; refine hK _ ?_; clear hK K
    refine ords_loud rfl (fun n1 => ?_)
    go_wp2_with fail
    have hx := HSM.out (some ⟨g2, 32, none⟩) A8 (c2 - 32) cc8 32 32 ((L.drop 32).take 32) (P8.take 32) (w8.drewN n1) hdl.out hpl.out (by decide) ((((hcut.out.below HB8.out).more HB8.out.size).take 32).drewN _) ((HO8.out.reads.take 32).drewN _)
    refine hx.mono ?_
    rintro e9 w9 ⟨rfl, hb9⟩
    rw [decide_eq_true HNX2.out]
    clear hx
    go_wp2_with fail
    refine ⟨trivial, ?_⟩
    refine ords_pure rfl (fun K hK => ?_); go_simp; refine hK _ ?_; clear hK K
    refine ords_end (fun n2 => ?_)
    go_wp2_with fail
    exact bodyPost_ret (results_tmp rfl _ _ _) rfl ⟨rfl, bdr (bcall (bdr (bcall HB7.out HB8.out) n1) hb9) n2⟩
  · have t1 : decide (96 < (n : Int)) = false := by simp; omega
    obtain ⟨m, hm⟩ : ∃ m, m = n - 32 := ⟨_, rfl⟩
    have hla := HLA.out (by omega)
    rw [← hm] at hla
    have e32 : (n : Int) - 32 = (m : Int) := by omega
    have hm1 : 1 ≤ m ∧ m ≤ 64 := by omega
    have hdl : Hid ((L.drop 32).length = m) := by (show _ = _; rw [List.length_drop, HL.out]; omega)
    have hpl0 := HPL.out m hm1.2
    have hw8 := HW64.out m hm1
    obtain ⟨P8, hP8⟩ : ∃ P, P = plainL m V := ⟨_, rfl⟩
    rw [← hP8] at hla hpl0
    simp only [← hP8] at hw8
    have hpl : Hid (P8.length = m) := hpl0
    have HLA2 := Lib.hid hla; have HW8 := Lib.hid hw8; have HMN := Lib.hid hm; clear hla hm hw8 hpl0 hP8 HNX HLA HH HW64 HPL
    have hm2 : Hid (n - 32 = m) := HMN.out.symm
    go_upto_region 16 with fail
    have hB8 := bput HB7.out (p := ⟨gp, 0, none⟩) HGW.out (.int .i64 m)
    have hO5 := Lib.hid (HO57.out.setFar (p := ⟨gp, 0, none⟩) HNE5.out (.int .i64 m))
    have hcut2 : Hid (RS cB (w7.setCell ⟨gp, 0, none⟩ (.int .i64 m)) w7.heap.size (some ⟨g2, 32, none⟩) (L.drop 32)) :=
      RS.but (F := [gp]) hcut.out (Nat.le_refl _) ((But.refl [gp] w7).setCell (p := ⟨gp, 0, none⟩) (.inl (by simp)) _) (fun a ha => by cases ha; simpa using HNE2.out)
    have hP8 := HP7.out.set_ 0 (.int .i64 m)
    change Blk _ gp 26 #[.int .i64 m, .int .i64 0, .int .i64 1, .int .i64 1, .int .u32 0, .int .u64 0, .int .u32 0, .int .i64 0, .int .i64 0, .slice none 0 0, .slice none 0 0] at hP8
    have HB8 := Lib.hid hB8
    have hsz8 : Hid ((w7.setCell ⟨gp, 0, none⟩ (.int .i64 m)).heap.size = w7.heap.size) := by show _ = _; simp
    clear d0 d1 d2 d3 d4 d5 d6 d7 d8 d9 d10 hfz hB8
    generalize w7.setCell ⟨gp, 0, none⟩ (.int .i64 m) = w8 at *
    have d0 : w8.cell? ⟨gp, 0, none⟩ = some (.int .i64 m) := hP8.cell 0
    have d1 : w8.cell? ⟨gp, 1, none⟩ = some (.int .i64 0) := hP8.cell 1
    have d2 : w8.cell? ⟨gp, 2, none⟩ = some (.int .i64 1) := hP8.cell 2
    have d3 : w8.cell? ⟨gp, 3, none⟩ = some (.int .i64 1) := hP8.cell 3
    have d4 : w8.cell? ⟨gp, 4, none⟩ = some (.int .u32 0) := hP8.cell 4
    have d5 : w8.cell? ⟨gp, 5, none⟩ = some (.int .u64 0) := hP8.cell 5
    have d6 : w8.cell? ⟨gp, 6, none⟩ = some (.int .u32 0) := hP8.cell 6
    have d7 : w8.cell? ⟨gp, 7, none⟩ = some (.int .i64 0) := hP8.cell 7
    have d8 : w8.cell? ⟨gp, 8, none⟩ = some (.int .i64 0) := hP8.cell 8
    have d9 : w8.cell? ⟨gp, 9, none⟩ = some (.slice none 0 0) := hP8.cell 9
    have d10 : w8.cell? ⟨gp, 10, none⟩ = some (.slice none 0 0) := hP8.cell 10
    clear hP8
    go_wp2_with (go_at_call 18; refine (HW8.out A5 cc5 _ hO5.out.reads).mono ?_; rintro e8 w9 ⟨A8, c8, cc8, rfl, hcc8, ho8, hb8⟩; have HO8 := Lib.hid ho8; have HB9 := Lib.hid hb8; clear ho8 hb8)
    have hx := HSM.out (some ⟨g2, 32, none⟩) A8 (c2 - 32) cc8 m m (L.drop 32) P8 w9 hdl.out hpl.out (by omega) ((hcut2.out.more (by rw [hsz8.out]; exact Nat.le_refl _)).below HB9.out |>.more HB9.out.size) HO8.out.reads
    rw [hm2.out]
    refine hx.mono ?_
    rintro e9 w10 ⟨rfl, hb9⟩
    rw [decide_eq_true HLA2.out]
    clear hx
    go_wp2_with fail
    exact bodyPost_ret (results_tmp rfl _ _ _) rfl ⟨rfl, bcall (bcall HB8.out HB9.out) hb9⟩
end Go.Proofs.YtgephdbicbmpeaaGreat

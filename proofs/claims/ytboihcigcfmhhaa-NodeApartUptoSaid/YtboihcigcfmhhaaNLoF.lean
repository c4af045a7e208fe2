/-
  Load of the program: the hasher of small words that goes on from what was saved. Contracts alone; no statement is claimed here.
-/
import Derived.Test.YtboihcigcfmhhaaNLoE
namespace Go.Proofs.Ytboihcigcfmhhaa
open Go.RowKit
attribute [local go_sem] pureUpon Ords.of

theorem hc32_mix (x H : List UInt32) (lo hi : UInt64) (A : Option Addr) (n c k : Nat) (v : UInt32) (hH : H.length = 8) (hk : k < 8) (hx : x[k]? = some v) : (hc32 (x.take k ++ H.drop k) lo hi A n c).setIfInBounds k (wv3 v) = hc32 (x.take (k + 1) ++ H.drop (k + 1)) lo hi A n c := by
  have hxl : k < x.length := (List.getElem?_eq_some_iff.1 hx).1
  unfold hc32
  rw [List.setIfInBounds_toArray, List.set_append_left _ _ (by rw [List.length_map, List.length_append, List.length_take, List.length_drop]; omega), ← List.map_set, mix_put x H k v (by omega) hx]
set_option maxRecDepth 20000 in
set_option maxHeartbeats 8000000 in
theorem nodeSmall_any (d : Nat) (last : Bool) (lo : UInt64) (x key st hd : List UInt8) (X : Pr) (d1 : Int) (Ax Ak As Ah : Option Addr) (cx ck cs ch nk nh : Nat) (w : World)
    (hxl : x.length = 32) (hrx : RS cB w w.heap.size Ax x) (hkl : key.length = nk) (hkm : nk ≤ 32) (hrk : RS cB w w.heap.size Ak key) (hst : st.length = 32) (hrs : RS cB w w.heap.size As st) (hhl : hd.length = nh) (hhm : nh ≤ 64) (hrh : RS cB w w.heap.size Ah hd) :
    Calls Try.prog 20 #[.agg (svV 2 last ⟨Ax, 32, cx⟩ d d1 X ⟨Ak, nk, ck⟩ ⟨As, 32, cs⟩ (wrd lo) 0 ⟨Ah, nh, ch⟩)] w fun r w' => ∃ p F, r = .returned (.pointer (some ⟨p, 0, none⟩)) ∧ Nd w' p false d x key last (wrOf lo nh nk 64) (.small ⟨words3 st 8, lo, 0, hd⟩) F ∧ (∀ k, k ∈ F → w.heap.size ≤ k) ∧ Below w.heap.size w w' := by
  have hbo := fun W => show Calls Try.prog 35 #[.int .i64 2] W fun e w' => e = .returned (.int .i64 64) ∧ W = w' from blockOf_any false W
  have HBO := Lib.hid hbo
  obtain ⟨V0, hV0⟩ : ∃ V0, V0 = svV 2 last ⟨Ax, 32, cx⟩ d d1 X ⟨Ak, nk, ck⟩ ⟨As, 32, cs⟩ (wrd lo) 0 ⟨Ah, nh, ch⟩ := ⟨_, rfl⟩
  have hV1 : (#[.int .i64 2, .bool last, .slice Ax 32 cx, .int .i64 d, .int .i64 d1, .int .i64 X.fanout, .int .i64 X.depth, .int .u32 X.leaf, .int .u64 X.offset, .int .u32 X.xof, .int .i64 X.nd, .int .i64 X.inner, .slice X.salt.A X.salt.n X.salt.c, .slice X.pers.A X.pers.n X.pers.c, .slice Ak nk ck, .slice As 32 cs, .int .u64 (wrd lo), .int .u64 0, .slice Ah nh ch] : Array Value) = V0 := hV0.symm
  show Calls _ _ #[.agg #[.int .i64 2, .bool last, .slice Ax 32 cx, .int .i64 d, .int .i64 d1, .int .i64 X.fanout, .int .i64 X.depth, .int .u32 X.leaf, .int .u64 X.offset, .int .u32 X.xof, .int .i64 X.nd, .int .i64 X.inner, .slice X.salt.A X.salt.n X.salt.c, .slice X.pers.A X.pers.n X.pers.c, .slice Ak nk ck, .slice As 32 cs, .int .u64 (wrd lo), .int .u64 0, .slice Ah nh ch]] w _
  have HV0 := Lib.hid hV0; have HV1 := Lib.hid hV1
  have hb9 := bal (b0 w) (.cells V0 58)
  have HS := Lib.hid (Blk.new w 58 V0)
  have HB := Lib.hid hb9
  have HRX := Lib.hid ((hrx.below hb9).more hb9.size); have HRK := Lib.hid ((hrk.below hb9).more hb9.size); have HRS := Lib.hid (hrs.below hb9); have HRH := Lib.hid (hrh.below hb9)
  have HXL := Lib.hid hxl; have HKL := Lib.hid hkl; have HST := Lib.hid hst; have HHL := Lib.hid hhl; have HHM := Lib.hid hhm; have HKM := Lib.hid hkm
  clear hbo hV0 hV1 hb9 hrx hrk hrs hrh hxl hkl hst hhl hhm hkm
  go_enter Try.func20, Try.ntmps20
  go_upto_region 1 with fail
  simp only [HV1.out]
  obtain ⟨g, hg⟩ : ∃ g, g = w.heap.size := ⟨_, rfl⟩
  rw [← hg] at HS ⊢
  have HGW := Lib.hid (show w.heap.size ≤ g by omega)
  generalize w.alloc (.cells V0 58) = u at *
  rw [HV0.out] at HS
  clear hg HV0 HV1
  have y0 : u.cell? ⟨g, 0, none⟩ = some (.int .i64 2) := HS.out.cell 0
  have y2 : u.cell? ⟨g, 2, none⟩ = some (.slice Ax 32 cx) := HS.out.cell 2
  have y3 : u.cell? ⟨g, 3, none⟩ = some (.int .i64 d) := HS.out.cell 3
  have y14 : u.cell? ⟨g, 14, none⟩ = some (.slice Ak nk ck) := HS.out.cell 14
  have yg := HS.out.lt
  have hma := made_any d false x key Ax Ak 32 nk cx ck u HXL.out rfl HKL.out (by have := HKM.out; show nk ≤ 2 * 32; omega) HRX.out HRK.out
  have HMA := Lib.hid (show Calls Try.prog 24 #[.int .i64 2, .slice Ax 32 cx, .int .i64 d, .slice Ak nk ck] u _ from hma)
  clear hma
  have HGB := Lib.hid yg
  have HUB := Lib.hid HB.out.size
  obtain ⟨Bn, hBn⟩ : ∃ Bn, Bn = u.heap.size := ⟨_, rfl⟩
  rw [← hBn] at HGB HUB
  have HBN := Lib.hid hBn
  clear hBn HRX HRK
  go_upto_region 2 with (go_at_call 24; refine HMA.out.mono ?_; rintro e1 u ⟨p, g2, A, c, Ax', Ak', cx', ck', rfl, hN, hb1, hp, hg2⟩; rw [← HBN.out] at hN hp hg2; have HN := Lib.hid hN; have HPB := Lib.hid hp; have HG2B := Lib.hid hg2; replace HS := Lib.hid (HS.out.below hb1 yg); replace HRS := Lib.hid (HRS.out.below (hb1.mono HB.out.size)); replace HRH := Lib.hid (HRH.out.below (hb1.mono HB.out.size)); replace HB := Lib.hid (bcall HB.out hb1); clear y0 y2 y3 y14 yg hN hp hg2 hb1 HBN)
  clear HMA
  obtain ⟨s0, hs0⟩ := startK_small x key
  rw [hs0] at HN
  clear hs0
  have HPW := Lib.hid (show w.heap.size ≤ p from Nat.le_trans HUB.out HPB.out)
  have y1 : u.cell? ⟨g, 1, none⟩ = some (.bool last) := HS.out.cell 1
  have yg := HS.out.lt
  have x4 : u.cell? ⟨p, 4, none⟩ = some (.bool false) := HN.out.blk.cell 4
  have xf := HN.out.blk.frozen
  have xl := HN.out.blk.lt
  go_upto_region 3 with fail
  clear y1 yg x4 xf xl
  replace HN := Lib.hid (HN.out.put4 last)
  replace HS := Lib.hid (HS.out.far (p := ⟨p, 4, none⟩) (Nat.ne_of_lt (Nat.lt_of_lt_of_le HGB.out HPB.out)) (.bool last))
  replace HRS := Lib.hid (HRS.out.setCell (p := ⟨p, 4, none⟩) HPW.out (.bool last))
  replace HRH := Lib.hid (HRH.out.setCell (p := ⟨p, 4, none⟩) HPW.out (.bool last))
  replace HB := Lib.hid (bput HB.out (p := ⟨p, 4, none⟩) HPW.out (.bool last))
  generalize u.setCell ⟨p, 4, none⟩ (.bool last) = u at *
  have hwn : IntKind.u64.wrap (nh : Int) = nh := by have := HHM.out; rw [wrap_u64]; omega
  have hadd := wrd_addN lo nh
  obtain ⟨w1, hw1⟩ : ∃ w1, lo + UInt64.ofNat nh = w1 := ⟨_, rfl⟩
  rw [hw1] at hadd
  have y16 : u.cell? ⟨g, 16, none⟩ = some (.int .u64 (wrd lo)) := HS.out.cell 16
  have y18 : u.cell? ⟨g, 18, none⟩ = some (.slice Ah nh ch) := HS.out.cell 18
  have yg := HS.out.lt
  have x5 : u.cell? ⟨p, 5, none⟩ = some (.int .u64 (wrd 0)) := HN.out.blk.cell 5
  have xf := HN.out.blk.frozen
  have xl := HN.out.blk.lt
  go_upto_region 4 with fail
  clear y16 y18 yg x5 xf xl hwn hadd
  replace HN := Lib.hid (HN.out.put5 w1)
  replace HS := Lib.hid (HS.out.far (p := ⟨p, 5, none⟩) (Nat.ne_of_lt (Nat.lt_of_lt_of_le HGB.out HPB.out)) (.int .u64 (wrd w1)))
  replace HRS := Lib.hid (HRS.out.setCell (p := ⟨p, 5, none⟩) HPW.out (.int .u64 (wrd w1)))
  replace HRH := Lib.hid (HRH.out.setCell (p := ⟨p, 5, none⟩) HPW.out (.int .u64 (wrd w1)))
  replace HB := Lib.hid (bput HB.out (p := ⟨p, 5, none⟩) HPW.out (.int .u64 (wrd w1)))
  generalize u.setCell ⟨p, 5, none⟩ (.int .u64 (wrd w1)) = u at *
  obtain ⟨W2, hW2⟩ : ∃ W2, W2 = wrOf lo nh nk 64 := ⟨_, rfl⟩
  have y14 : u.cell? ⟨g, 14, none⟩ = some (.slice Ak nk ck) := HS.out.cell 14
  have yg := HS.out.lt
  rcases Nat.eq_zero_or_pos nk with hk0 | hk0
  · have hk1 : ¬ (0 < nk) := by omega
    have hw2 : w1 = W2 := by rw [hW2, ← hw1]; unfold wrOf; rw [if_pos hk0]
    rw [hw2] at HN
    have HW2 := Lib.hid hW2
    clear hW2 hw1 hw2 hk0
    go_upto_region 6 with fail
    clear y14 yg hk1
    have y0 : u.cell? ⟨g, 0, none⟩ = some (.int .i64 2) := HS.out.cell 0
    have y18 : u.cell? ⟨g, 18, none⟩ = some (.slice Ah nh ch) := HS.out.cell 18
    have yg := HS.out.lt
    have hmk : ∀ (W : World), (Instr.makeSlice 24 (.int .i64 0) (.int .i64 64)).run Try.prog W = .ok (.slice (some ⟨W.heap.size, 0, none⟩) 0 64) (W.alloc (.cells (madeCells #[cB.zero] 64) 5)) := fun (W : World) => run_makeS cB_ok .i64 .i64 0 64 (by decide) (by decide) (by decide) W
    refine wp_region_B (Ords.of [(0, 0), (0, 1), (0, 4), (0, 5), (2, 2), (2, 3), (2, 6), (0, 7)] .fin) (by kernel_rfl) rfl (by kernel_rfl) (by kernel_rfl) (fun c a d v w h => by cases d <;> exact h) ?_
    iterate 2 (refine ords_pure rfl (fun K hK => ?_); go_simp; refine hK _ ?_; clear hK K; refine ords_heldK rfl (fun K K2 hK hK2 => ?_); go_simp; refine ⟨hK2 _ (fun w9 hS => ?_), hK _ ?_⟩; (clear hK hK2 K K2; (first | refine withN hS ?_ | refine withD hS ?_ | refine with0 hS ?_); intro hcS hfS; go_simp); (clear hK hK2 K K2))
    refine ords_loud rfl (fun n1 => ?_)
    go_wp2_with (go_at_call 35; refine (HBO.out _).mono ?_; rintro e1 w8 ⟨rfl, rfl⟩)
    refine ⟨bdr (b0 u) _, ?_⟩
    refine ords_loud rfl (fun n2 => ?_)
    go_wp2_with fail
    refine ⟨bal (bdr (b0 u) _) _, ?_⟩
    refine ords_loud rfl (fun n3 => ?_)
    have hOS := (OS.madeAt (cd := cB) (base := u.heap.size) (g := u.heap.size) (u.drewN (n1 + n2)) 0 64 0 rfl (by decide) (by decide) (Nat.le_refl _) rfl).drewN n3
    have hb6 := bdr (bal (bdr (b0 u) (n1 + n2)) (.cells (madeCells #[cB.zero] 64) 5)) n3
    change OS cB (((u.drewN (n1 + n2)).alloc (.cells (madeCells #[cB.zero] 64) 5)).drewN n3) u.heap.size (some ⟨u.heap.size, 0, none⟩) 64 [] at hOS
    generalize ((u.drewN (n1 + n2)).alloc (.cells (madeCells #[cB.zero] 64) 5)).drewN n3 = u6 at *
    have HOS := Lib.hid hOS; have HB6 := Lib.hid hb6; have HRH6 := Lib.hid (HRH.out.below (hb6.mono HB.out.size))
    clear hOS hb6
    (refine wpList_appB _ rfl (.tmp 53) (.tmp 55) rfl HOS.out rfl rfl HRH6.out rfl HHL.out (by have := HHM.out; omega) HB6.out.size ?_; intro A3 c3 w3 ho3 hg3 hA3; have HO3 := Lib.hid ho3; replace HB6 := Lib.hid (bapp HB6.out HOS.out hg3); clear ho3 hg3 hA3)
    refine ⟨HB6.out, ?_⟩
    refine ords_pure rfl (fun K hK => ?_); go_simp; refine hK _ ?_; clear hK K
    refine ords_end (fun n4 => ?_)
    clear y0 y18 yg hmk HRH6 HOS
    have hO7 := HO3.out.drewN n4
    rw [List.nil_append] at hO7
    have hb7 := bdr HB6.out n4
    generalize w3.drewN n4 = u7 at *
    have HO := Lib.hid hO7
    have HS7 := Lib.hid (HS.out.below hb7 HS.out.lt)
    have HRS7 := Lib.hid (HRS.out.below (hb7.mono HB.out.size))
    have hN7 := HN.out.below hb7
    have HB7 := Lib.hid hb7
    have HG2L := Lib.hid (Eng.inn_lt HN.out.eng)
    have hE7 : E32 u7 Bn g2 s0 A c := hN7.eng
    have HH0 := Lib.hid hE7.ok.H
    have hK7 := hE7.blk
    have x6 : u7.cell? ⟨p, 6, none⟩ = some (.iface 88 (.pointer (some ⟨g2, 0, none⟩))) := hN7.blk.cell 6
    have xl := hN7.blk.lt
    have hta := ta_small (.pointer (some ⟨g2, 0, none⟩))
    have htn := ta_no (.pointer (some ⟨g2, 0, none⟩))
    have HWU := Lib.hid (show w.heap.size ≤ u7.heap.size from Nat.le_trans HB.out.size hb7.size)
    have HG2W := Lib.hid (show w.heap.size ≤ g2 from Nat.le_trans HUB.out HG2B.out)
    have HGG := Lib.hid (show g ≠ g2 from Nat.ne_of_lt (Nat.lt_of_lt_of_le HGB.out HG2B.out))
    have HFA := Lib.hid (show ∀ a, A3 = some a → a.block ∉ [g2] from fun a ha hm => by have h1 := (HO.out.block_lt a ha).1; have h2 := HG2L.out; simp at hm; omega)
    clear hO7 hb7 hN7 hE7 HB6 HO3
    obtain ⟨M, hM⟩ : ∃ M, M = words3 st 8 := ⟨_, rfl⟩
    have hMl : M.length = 8 := by rw [hM, words3_len]
    have HM := Lib.hid hM; have HML := Lib.hid hMl; have HK := Lib.hid hK7
    clear hM hMl hK7
    go_wp2_with fail
    clear x6 xl hta htn
    go_loopw [93] (fun i wr => ∃ k : Nat, k ≤ 8 ∧ i = .int .i64 k ∧ But [g2] u7 wr ∧ Blk wr g2 95 (hc32 (M.take k ++ s0.H.drop k) s0.lo s0.hi A s0.held.length c)) (fun i _ => 8 - (intOf i).toNat)
    case atStart => exact ⟨0, by omega, rfl, But.refl _ _, HK.out⟩
    case round =>
      clear HK
      obtain ⟨k, hk, rfl, x0, x1⟩ := hrel
      have HBT := Lib.hid x0; have HK := Lib.hid x1; clear x0 x1
      have HSr := Lib.hid (HS7.out.but HBT.out (by simp; exact HGG.out))
      by_cases hlt : k < 8
      · have HRr := Lib.hid (HRS7.out.below (HBT.out.toBelow HWU.out (fun k hk => by simp at hk; rw [hk]; exact HG2W.out)))
        have hl := fun W hr => load32_any As cs 32 (4 * k) w.heap.size st W HST.out (by omega) hr (by omega)
        have e8 : ((4 * k : Nat) : Int) = 4 * (k : Int) := by omega
        rw [e8] at hl
        obtain ⟨v, hv⟩ : ∃ v, v = word3 ((st.drop (4 * k)).take 4) := ⟨_, rfl⟩
        have hmk : M[k]? = some v := by rw [HM.out, words3_at st 8 k hlt, hv]
        rw [← hv] at hl
        have hsz := hc32_size (M.take k ++ s0.H.drop k) s0.lo s0.hi A s0.held.length c (by rw [List.length_append, List.length_take, List.length_drop, HML.out, HH0.out]; omega)
        have gc : ∃ o, wr.cell? ⟨g2, k, none⟩ = some o := ⟨_, (HK.out.cell k).trans (Array.getElem?_eq_getElem (by rw [hsz]; omega))⟩
        obtain ⟨old, gc⟩ := gc
        have gf : wr.frozen? ⟨g2, k, none⟩ = false := HK.out.frozen k
        have y15 : wr.cell? ⟨g, 15, none⟩ = some (.slice As 32 cs) := HSr.out.cell 15
        have yg := HSr.out.lt
        have HL := Lib.hid hl; have HMK := Lib.hid hmk; clear hl hv e8 hmk hsz
        have hki : (k : Int) < 8 := by omega
        go_upto_region 21 with fail
        refine wp_region_ords (fun _ => True) (fun _ _ h => h) (Ords.of [(0, 0), (0, 1), (0, 2), (1, 3), (0, 4), (0, 5), (0, 10), (0, 11), (2, 6), (0, 7), (0, 8), (0, 9), (0, 12), (2, 13)] .fin) (by kernel_rfl) rfl (by kernel_rfl) (by kernel_rfl) (fun c a d v w h => by cases d <;> exact h) trivial ?_
        iterate 3 (refine ords_pure rfl (fun K hK => ?_); go_simp; refine hK _ ?_; clear hK K)
        refine ords_read rfl (fun K hK => ?_); go_simp; refine hK _ ?_; clear hK K
        iterate 4 (refine ords_pure rfl (fun K hK => ?_); go_simp; refine hK _ ?_; clear hK K)
        refine ords_loud rfl (fun n1 => ?_)
        go_wp2_with (go_at_call 41; refine (HL.out _ (HRr.out.drewN _)).mono ?_; rintro e w1 ⟨rfl, rfl⟩)
        refine ⟨trivial, ?_⟩
        iterate 4 (refine ords_pure rfl (fun K hK => ?_); go_simp; refine hK _ ?_; clear hK K)
        refine ords_loud rfl (fun n2 => ?_)
        go_wp2_with fail
        first | (refine ⟨trivial, ?_⟩; refine ords_end (fun n3 => ?_)) | (rintro _ ⟨n3, rfl⟩)
        have hB9 := ((HBT.out.drewN (n1 + n2)).setCell (p := ⟨g2, k, none⟩) (.inl (by simp)) (.int .u32 (wr3 v))).drewN n3
        have hK9 : Blk (((wr.drewN (n1 + n2)).setCell ⟨g2, k, none⟩ (.int .u32 (wr3 v))).drewN n3) g2 95 (hc32 (M.take (k + 1) ++ s0.H.drop (k + 1)) s0.lo s0.hi A s0.held.length c) := by
          have h := ((HK.out.drewN (n1 + n2)).set_ k (wv3 v)).drewN n3
          rw [hc32_mix M s0.H s0.lo s0.hi A s0.held.length c k v HH0.out hlt HMK.out] at h
          exact h
        have HB9 := Lib.hid hB9; have HK9 := Lib.hid hK9
        clear hB9 hK9 gc gf y15 yg hki
        go_wp2_with fail
        case roundEnd => exact ⟨⟨k + 1, by omega, by go_num, HB9.out, HK9.out⟩, by simp [intOf]; omega⟩
      · obtain rfl : k = 8 := by omega
        clear hlt hk
        have hK8 := HK.out
        rw [List.take_of_length_le (by rw [HML.out]; exact Nat.le_refl _), List.drop_eq_nil_of_le (by rw [HH0.out]; exact Nat.le_refl _), List.append_nil] at hK8
        have HK8 := Lib.hid hK8
        clear hK8
        have y16 : wr.cell? ⟨g, 16, none⟩ = some (.int .u64 (wrd lo)) := HSr.out.cell 16
        have y17 : wr.cell? ⟨g, 17, none⟩ = some (.int .u64 0) := HSr.out.cell 17
        have yg := HSr.out.lt
        have hat := hc32_at M s0.lo s0.hi A s0.held.length c HML.out
        have x8 := (HK8.out.cell 8).trans hat.1
        have x9 := (HK8.out.cell 9).trans hat.2.1
        have x10 := (HK8.out.cell 10).trans hat.2.2.1
        have gf := HK8.out.frozen
        have gl := HK8.out.lt
        clear hat
        go_wp2_with fail
        have hBF := ((HBT.out.setCell (p := ⟨g2, 8, none⟩) (.inl (by simp)) (.int .u64 (wrd lo))).setCell (p := ⟨g2, 9, none⟩) (.inl (by simp)) (.int .u64 0)).setCell (p := ⟨g2, 10, none⟩) (.inl (by simp)) (.slice A3 nh c3)
        have hKF := ((HK8.out.set_ 8 (.int .u64 (wrd lo))).set_ 9 (.int .u64 (wrd 0))).set_ 10 (.slice A3 nh c3)
        rw [show ((hc32 M s0.lo s0.hi A s0.held.length c).setIfInBounds 8 (.int .u64 (wrd lo))).setIfInBounds 9 (.int .u64 (wrd 0)) = hc32 M lo 0 A s0.held.length c from hc32_count M s0.lo s0.hi lo 0 A s0.held.length c HML.out, hc32_held _ _ _ _ _ _ _ _ _ HML.out] at hKF
        change Blk (((wr.setCell ⟨g2, 8, none⟩ (.int .u64 (wrd lo))).setCell ⟨g2, 9, none⟩ (.int .u64 0)).setCell ⟨g2, 10, none⟩ (.slice A3 nh c3)) g2 _ _ at hKF
        generalize ((wr.setCell ⟨g2, 8, none⟩ (.int .u64 (wrd lo))).setCell ⟨g2, 9, none⟩ (.int .u64 0)).setCell ⟨g2, 10, none⟩ (.slice A3 nh c3) = wF at *
        have hOF := HO.out.but hBF HFA.out
        have hBW := (But.of HB7.out [g2]).trans hBF (fun k hk => .inl hk)
        have hE : E32 wF Bn g2 ⟨M, lo, 0, hd⟩ A3 c3 := ⟨by show Blk _ _ _ (hc32 M lo 0 A3 hd.length c3); rw [HHL.out]; exact hKF, hOF.mono (Nat.le_of_lt (Nat.lt_of_le_of_lt HG2B.out HG2L.out)), ⟨HML.out, by show hd.length ≤ 64; rw [HHL.out]; exact HHM.out⟩, fun a ha e => HFA.out a ha (by rw [e]; simp)⟩
        have hNF := HN.out.wrote (e' := .small ⟨M, lo, 0, hd⟩) rfl ⟨hE, hBW.grown1, .inr (fun a ha => (HO.out.block_lt a ha).1)⟩
        have hnd := hNF.nd
        rw [HW2.out, HM.out] at hnd
        exact bodyPost_ret (results_tmp rfl _ _ _) rfl ⟨p, _, rfl, hnd, fun k hk => Nat.le_trans HUB.out (hNF.low HPB.out HG2B.out k hk), HB.out.trans (hBW.toBelow HB.out.size (fun k hk => by simp at hk; rw [hk]; exact HG2W.out))⟩
  · have hk1 : (nk : Int) > 0 := by omega
    have hw2 : IntKind.u64.wrap (wrd w1 - 64) = wrd W2 := by rw [hW2, ← hw1]; unfold wrOf; rw [if_neg (by omega)]; have e := wrd_sub (lo + UInt64.ofNat nh) 64; rwa [show wrd (64 : UInt64) = 64 from rfl] at e
    have HW2 := Lib.hid hW2
    clear hW2 hw1 hk0
    go_upto_region 5 with fail
    clear y14 hk1
    have y0 : u.cell? ⟨g, 0, none⟩ = some (.int .i64 2) := HS.out.cell 0
    refine wp_region_ords (fun w' => w'.cell? ⟨g, 0, none⟩ = some (.int .i64 2) ∧ g < w'.heap.size) (fun _ _ h => h) (Ords.of [(0, 0), (0, 1), (0, 2), (0, 4), (0, 5)] (.two 3 6 (Ords.of [(2, 6), (0, 7), (0, 8), (0, 9), (0, 10), (2, 11)] .fin) (Ords.of [(0, 7), (2, 3), (0, 8), (0, 9), (0, 10), (2, 11)] .fin))) (by kernel_rfl) rfl (by kernel_rfl) (by kernel_rfl) (fun c a d v w h => by cases d <;> exact h) ⟨HS.out.cell 0, HS.out.lt⟩ ?_
    iterate 4 (refine ords_pure rfl (fun K hK => ?_); go_simp; refine hK _ ?_; clear hK K)
    refine ords_heldK rfl (fun K K2 hK hK2 => ?_); go_simp; refine ⟨hK2 _ (fun w9 hS => ?_), hK _ ?_⟩; (clear hK hK2 K K2; clear y0 yg; obtain ⟨y0, yg⟩ := hS; go_simp); (clear hK hK2 K K2)
    refine ords_two rfl rfl (fun n1 => ?_) (fun n1 => ?_)
    · replace HN := Lib.hid (HN.out.drewN n1)
      replace HS := Lib.hid (HS.out.drewN n1)
      replace HB := Lib.hid (bdr HB.out n1)
      replace HRS := Lib.hid (HRS.out.drewN n1)
      replace HRH := Lib.hid (HRH.out.drewN n1)
      generalize u.drewN n1 = u at *
      have x5 : u.cell? ⟨p, 5, none⟩ = some (.int .u64 (wrd w1)) := HN.out.blk.cell 5
      have xl := HN.out.blk.lt
      go_wp2_with fail
      clear x5 xl
      refine ⟨⟨HS.out.cell 0, HS.out.lt⟩, ?_⟩
      refine ords_loud rfl (fun n2 => ?_)
      replace HN := Lib.hid (HN.out.drewN n2)
      replace HS := Lib.hid (HS.out.drewN n2)
      replace HB := Lib.hid (bdr HB.out n2)
      replace HRS := Lib.hid (HRS.out.drewN n2)
      replace HRH := Lib.hid (HRH.out.drewN n2)
      generalize u.drewN n2 = u at *
      go_wp2_with (go_at_call 35; refine (HBO.out _).mono ?_; rintro e1 u9 ⟨rfl, rfl⟩)
      refine ⟨⟨HS.out.cell 0, HS.out.lt⟩, ?_⟩
      iterate 4 (refine ords_pure rfl (fun K hK => ?_); go_simp; refine hK _ ?_; clear hK K)
      refine ords_loud rfl (fun n3 => ?_)
      try simp only [hw2]
      replace HN := Lib.hid (HN.out.drewN n3)
      replace HS := Lib.hid (HS.out.drewN n3)
      replace HB := Lib.hid (bdr HB.out n3)
      replace HRS := Lib.hid (HRS.out.drewN n3)
      replace HRH := Lib.hid (HRH.out.drewN n3)
      generalize u.drewN n3 = u at *
      have x5 : u.cell? ⟨p, 5, none⟩ = some (.int .u64 (wrd w1)) := HN.out.blk.cell 5
      have xf := HN.out.blk.frozen
      have xl := HN.out.blk.lt
      go_wp2_with fail
      try rw [hw2]
      clear x5 xf xl
      replace HN := Lib.hid (HN.out.put5 W2)
      replace HS := Lib.hid (HS.out.far (p := ⟨p, 5, none⟩) (Nat.ne_of_lt (Nat.lt_of_lt_of_le HGB.out HPB.out)) (.int .u64 (wrd W2)))
      replace HRS := Lib.hid (HRS.out.setCell (p := ⟨p, 5, none⟩) HPW.out (.int .u64 (wrd W2)))
      replace HRH := Lib.hid (HRH.out.setCell (p := ⟨p, 5, none⟩) HPW.out (.int .u64 (wrd W2)))
      replace HB := Lib.hid (bput HB.out (p := ⟨p, 5, none⟩) HPW.out (.int .u64 (wrd W2)))
      generalize u.setCell ⟨p, 5, none⟩ (.int .u64 (wrd W2)) = u at *
      refine ⟨⟨HS.out.cell 0, HS.out.lt⟩, ?_⟩
      refine ords_end (fun n4 => ?_)
      replace HN := Lib.hid (HN.out.drewN n4)
      replace HS := Lib.hid (HS.out.drewN n4)
      replace HB := Lib.hid (bdr HB.out n4)
      replace HRS := Lib.hid (HRS.out.drewN n4)
      replace HRH := Lib.hid (HRH.out.drewN n4)
      generalize u.drewN n4 = u at *
      go_upto_region 6 with fail
      have y0 : u.cell? ⟨g, 0, none⟩ = some (.int .i64 2) := HS.out.cell 0
      have y18 : u.cell? ⟨g, 18, none⟩ = some (.slice Ah nh ch) := HS.out.cell 18
      have yg := HS.out.lt
      have hmk : ∀ (W : World), (Instr.makeSlice 24 (.int .i64 0) (.int .i64 64)).run Try.prog W = .ok (.slice (some ⟨W.heap.size, 0, none⟩) 0 64) (W.alloc (.cells (madeCells #[cB.zero] 64) 5)) := fun (W : World) => run_makeS cB_ok .i64 .i64 0 64 (by decide) (by decide) (by decide) W
      refine wp_region_B (Ords.of [(0, 0), (0, 1), (0, 4), (0, 5), (2, 2), (2, 3), (2, 6), (0, 7)] .fin) (by kernel_rfl) rfl (by kernel_rfl) (by kernel_rfl) (fun c a d v w h => by cases d <;> exact h) ?_
      iterate 2 (refine ords_pure rfl (fun K hK => ?_); go_simp; refine hK _ ?_; clear hK K; refine ords_heldK rfl (fun K K2 hK hK2 => ?_); go_simp; refine ⟨hK2 _ (fun w9 hS => ?_), hK _ ?_⟩; (clear hK hK2 K K2; (first | refine withN hS ?_ | refine withD hS ?_ | refine with0 hS ?_); intro hcS hfS; go_simp); (clear hK hK2 K K2))
      refine ords_loud rfl (fun n1 => ?_)
      go_wp2_with (go_at_call 35; refine (HBO.out _).mono ?_; rintro e1 w8 ⟨rfl, rfl⟩)
      refine ⟨bdr (b0 u) _, ?_⟩
      refine ords_loud rfl (fun n2 => ?_)
      go_wp2_with fail
      refine ⟨bal (bdr (b0 u) _) _, ?_⟩
      refine ords_loud rfl (fun n3 => ?_)
      have hOS := (OS.madeAt (cd := cB) (base := u.heap.size) (g := u.heap.size) (u.drewN (n1 + n2)) 0 64 0 rfl (by decide) (by decide) (Nat.le_refl _) rfl).drewN n3
      have hb6 := bdr (bal (bdr (b0 u) (n1 + n2)) (.cells (madeCells #[cB.zero] 64) 5)) n3
      change OS cB (((u.drewN (n1 + n2)).alloc (.cells (madeCells #[cB.zero] 64) 5)).drewN n3) u.heap.size (some ⟨u.heap.size, 0, none⟩) 64 [] at hOS
      generalize ((u.drewN (n1 + n2)).alloc (.cells (madeCells #[cB.zero] 64) 5)).drewN n3 = u6 at *
      have HOS := Lib.hid hOS; have HB6 := Lib.hid hb6; have HRH6 := Lib.hid (HRH.out.below (hb6.mono HB.out.size))
      clear hOS hb6
      (refine wpList_appB _ rfl (.tmp 53) (.tmp 55) rfl HOS.out rfl rfl HRH6.out rfl HHL.out (by have := HHM.out; omega) HB6.out.size ?_; intro A3 c3 w3 ho3 hg3 hA3; have HO3 := Lib.hid ho3; replace HB6 := Lib.hid (bapp HB6.out HOS.out hg3); clear ho3 hg3 hA3)
      refine ⟨HB6.out, ?_⟩
      refine ords_pure rfl (fun K hK => ?_); go_simp; refine hK _ ?_; clear hK K
      refine ords_end (fun n4 => ?_)
      clear y0 y18 yg hmk HRH6 HOS
      have hO7 := HO3.out.drewN n4
      rw [List.nil_append] at hO7
      have hb7 := bdr HB6.out n4
      generalize w3.drewN n4 = u7 at *
      have HO := Lib.hid hO7
      have HS7 := Lib.hid (HS.out.below hb7 HS.out.lt)
      have HRS7 := Lib.hid (HRS.out.below (hb7.mono HB.out.size))
      have hN7 := HN.out.below hb7
      have HB7 := Lib.hid hb7
      have HG2L := Lib.hid (Eng.inn_lt HN.out.eng)
      have hE7 : E32 u7 Bn g2 s0 A c := hN7.eng
      have HH0 := Lib.hid hE7.ok.H
      have hK7 := hE7.blk
      have x6 : u7.cell? ⟨p, 6, none⟩ = some (.iface 88 (.pointer (some ⟨g2, 0, none⟩))) := hN7.blk.cell 6
      have xl := hN7.blk.lt
      have hta := ta_small (.pointer (some ⟨g2, 0, none⟩))
      have htn := ta_no (.pointer (some ⟨g2, 0, none⟩))
      have HWU := Lib.hid (show w.heap.size ≤ u7.heap.size from Nat.le_trans HB.out.size hb7.size)
      have HG2W := Lib.hid (show w.heap.size ≤ g2 from Nat.le_trans HUB.out HG2B.out)
      have HGG := Lib.hid (show g ≠ g2 from Nat.ne_of_lt (Nat.lt_of_lt_of_le HGB.out HG2B.out))
      have HFA := Lib.hid (show ∀ a, A3 = some a → a.block ∉ [g2] from fun a ha hm => by have h1 := (HO.out.block_lt a ha).1; have h2 := HG2L.out; simp at hm; omega)
      clear hO7 hb7 hN7 hE7 HB6 HO3
      obtain ⟨M, hM⟩ : ∃ M, M = words3 st 8 := ⟨_, rfl⟩
      have hMl : M.length = 8 := by rw [hM, words3_len]
      have HM := Lib.hid hM; have HML := Lib.hid hMl; have HK := Lib.hid hK7
      clear hM hMl hK7
      go_wp2_with fail
      clear x6 xl hta htn
      go_loopw [93] (fun i wr => ∃ k : Nat, k ≤ 8 ∧ i = .int .i64 k ∧ But [g2] u7 wr ∧ Blk wr g2 95 (hc32 (M.take k ++ s0.H.drop k) s0.lo s0.hi A s0.held.length c)) (fun i _ => 8 - (intOf i).toNat)
      case atStart => exact ⟨0, by omega, rfl, But.refl _ _, HK.out⟩
      case round =>
        clear HK
        obtain ⟨k, hk, rfl, x0, x1⟩ := hrel
        have HBT := Lib.hid x0; have HK := Lib.hid x1; clear x0 x1
        have HSr := Lib.hid (HS7.out.but HBT.out (by simp; exact HGG.out))
        by_cases hlt : k < 8
        · have HRr := Lib.hid (HRS7.out.below (HBT.out.toBelow HWU.out (fun k hk => by simp at hk; rw [hk]; exact HG2W.out)))
          have hl := fun W hr => load32_any As cs 32 (4 * k) w.heap.size st W HST.out (by omega) hr (by omega)
          have e8 : ((4 * k : Nat) : Int) = 4 * (k : Int) := by omega
          rw [e8] at hl
          obtain ⟨v, hv⟩ : ∃ v, v = word3 ((st.drop (4 * k)).take 4) := ⟨_, rfl⟩
          have hmk : M[k]? = some v := by rw [HM.out, words3_at st 8 k hlt, hv]
          rw [← hv] at hl
          have hsz := hc32_size (M.take k ++ s0.H.drop k) s0.lo s0.hi A s0.held.length c (by rw [List.length_append, List.length_take, List.length_drop, HML.out, HH0.out]; omega)
          have gc : ∃ o, wr.cell? ⟨g2, k, none⟩ = some o := ⟨_, (HK.out.cell k).trans (Array.getElem?_eq_getElem (by rw [hsz]; omega))⟩
          obtain ⟨old, gc⟩ := gc
          have gf : wr.frozen? ⟨g2, k, none⟩ = false := HK.out.frozen k
          have y15 : wr.cell? ⟨g, 15, none⟩ = some (.slice As 32 cs) := HSr.out.cell 15
          have yg := HSr.out.lt
          have HL := Lib.hid hl; have HMK := Lib.hid hmk; clear hl hv e8 hmk hsz
          have hki : (k : Int) < 8 := by omega
          go_upto_region 21 with fail
          refine wp_region_ords (fun _ => True) (fun _ _ h => h) (Ords.of [(0, 0), (0, 1), (0, 2), (1, 3), (0, 4), (0, 5), (0, 10), (0, 11), (2, 6), (0, 7), (0, 8), (0, 9), (0, 12), (2, 13)] .fin) (by kernel_rfl) rfl (by kernel_rfl) (by kernel_rfl) (fun c a d v w h => by cases d <;> exact h) trivial ?_
          iterate 3 (refine ords_pure rfl (fun K hK => ?_); go_simp; refine hK _ ?_; clear hK K)
          refine ords_read rfl (fun K hK => ?_); go_simp; refine hK _ ?_; clear hK K
          iterate 4 (refine ords_pure rfl (fun K hK => ?_); go_simp; refine hK _ ?_; clear hK K)
          refine ords_loud rfl (fun n1 => ?_)
          go_wp2_with (go_at_call 41; refine (HL.out _ (HRr.out.drewN _)).mono ?_; rintro e w1 ⟨rfl, rfl⟩)
          refine ⟨trivial, ?_⟩
          iterate 4 (refine ords_pure rfl (fun K hK => ?_); go_simp; refine hK _ ?_; clear hK K)
          refine ords_loud rfl (fun n2 => ?_)
          go_wp2_with fail
          first | (refine ⟨trivial, ?_⟩; refine ords_end (fun n3 => ?_)) | (rintro _ ⟨n3, rfl⟩)
          have hB9 := ((HBT.out.drewN (n1 + n2)).setCell (p := ⟨g2, k, none⟩) (.inl (by simp)) (.int .u32 (wr3 v))).drewN n3
          have hK9 : Blk (((wr.drewN (n1 + n2)).setCell ⟨g2, k, none⟩ (.int .u32 (wr3 v))).drewN n3) g2 95 (hc32 (M.take (k + 1) ++ s0.H.drop (k + 1)) s0.lo s0.hi A s0.held.length c) := by
            have h := ((HK.out.drewN (n1 + n2)).set_ k (wv3 v)).drewN n3
            rw [hc32_mix M s0.H s0.lo s0.hi A s0.held.length c k v HH0.out hlt HMK.out] at h
            exact h
          have HB9 := Lib.hid hB9; have HK9 := Lib.hid hK9
          clear hB9 hK9 gc gf y15 yg hki
          go_wp2_with fail
          case roundEnd => exact ⟨⟨k + 1, by omega, by go_num, HB9.out, HK9.out⟩, by simp [intOf]; omega⟩
        · obtain rfl : k = 8 := by omega
          clear hlt hk
          have hK8 := HK.out
          rw [List.take_of_length_le (by rw [HML.out]; exact Nat.le_refl _), List.drop_eq_nil_of_le (by rw [HH0.out]; exact Nat.le_refl _), List.append_nil] at hK8
          have HK8 := Lib.hid hK8
          clear hK8
          have y16 : wr.cell? ⟨g, 16, none⟩ = some (.int .u64 (wrd lo)) := HSr.out.cell 16
          have y17 : wr.cell? ⟨g, 17, none⟩ = some (.int .u64 0) := HSr.out.cell 17
          have yg := HSr.out.lt
          have hat := hc32_at M s0.lo s0.hi A s0.held.length c HML.out
          have x8 := (HK8.out.cell 8).trans hat.1
          have x9 := (HK8.out.cell 9).trans hat.2.1
          have x10 := (HK8.out.cell 10).trans hat.2.2.1
          have gf := HK8.out.frozen
          have gl := HK8.out.lt
          clear hat
          go_wp2_with fail
          have hBF := ((HBT.out.setCell (p := ⟨g2, 8, none⟩) (.inl (by simp)) (.int .u64 (wrd lo))).setCell (p := ⟨g2, 9, none⟩) (.inl (by simp)) (.int .u64 0)).setCell (p := ⟨g2, 10, none⟩) (.inl (by simp)) (.slice A3 nh c3)
          have hKF := ((HK8.out.set_ 8 (.int .u64 (wrd lo))).set_ 9 (.int .u64 (wrd 0))).set_ 10 (.slice A3 nh c3)
          rw [show ((hc32 M s0.lo s0.hi A s0.held.length c).setIfInBounds 8 (.int .u64 (wrd lo))).setIfInBounds 9 (.int .u64 (wrd 0)) = hc32 M lo 0 A s0.held.length c from hc32_count M s0.lo s0.hi lo 0 A s0.held.length c HML.out, hc32_held _ _ _ _ _ _ _ _ _ HML.out] at hKF
          change Blk (((wr.setCell ⟨g2, 8, none⟩ (.int .u64 (wrd lo))).setCell ⟨g2, 9, none⟩ (.int .u64 0)).setCell ⟨g2, 10, none⟩ (.slice A3 nh c3)) g2 _ _ at hKF
          generalize ((wr.setCell ⟨g2, 8, none⟩ (.int .u64 (wrd lo))).setCell ⟨g2, 9, none⟩ (.int .u64 0)).setCell ⟨g2, 10, none⟩ (.slice A3 nh c3) = wF at *
          have hOF := HO.out.but hBF HFA.out
          have hBW := (But.of HB7.out [g2]).trans hBF (fun k hk => .inl hk)
          have hE : E32 wF Bn g2 ⟨M, lo, 0, hd⟩ A3 c3 := ⟨by show Blk _ _ _ (hc32 M lo 0 A3 hd.length c3); rw [HHL.out]; exact hKF, hOF.mono (Nat.le_of_lt (Nat.lt_of_le_of_lt HG2B.out HG2L.out)), ⟨HML.out, by show hd.length ≤ 64; rw [HHL.out]; exact HHM.out⟩, fun a ha e => HFA.out a ha (by rw [e]; simp)⟩
          have hNF := HN.out.wrote (e' := .small ⟨M, lo, 0, hd⟩) rfl ⟨hE, hBW.grown1, .inr (fun a ha => (HO.out.block_lt a ha).1)⟩
          have hnd := hNF.nd
          rw [HW2.out, HM.out] at hnd
          exact bodyPost_ret (results_tmp rfl _ _ _) rfl ⟨p, _, rfl, hnd, fun k hk => Nat.le_trans HUB.out (hNF.low HPB.out HG2B.out k hk), HB.out.trans (hBW.toBelow HB.out.size (fun k hk => by simp at hk; rw [hk]; exact HG2W.out))⟩
    · replace HN := Lib.hid (HN.out.drewN n1)
      replace HS := Lib.hid (HS.out.drewN n1)
      replace HB := Lib.hid (bdr HB.out n1)
      replace HRS := Lib.hid (HRS.out.drewN n1)
      replace HRH := Lib.hid (HRH.out.drewN n1)
      generalize u.drewN n1 = u at *
      go_wp2_with (go_at_call 35; refine (HBO.out _).mono ?_; rintro e1 u9 ⟨rfl, rfl⟩)
      refine ⟨⟨HS.out.cell 0, HS.out.lt⟩, ?_⟩
      refine ords_pure rfl (fun K hK => ?_); go_simp; refine hK _ ?_; clear hK K
      refine ords_loud rfl (fun n2 => ?_)
      replace HN := Lib.hid (HN.out.drewN n2)
      replace HS := Lib.hid (HS.out.drewN n2)
      replace HB := Lib.hid (bdr HB.out n2)
      replace HRS := Lib.hid (HRS.out.drewN n2)
      replace HRH := Lib.hid (HRH.out.drewN n2)
      generalize u.drewN n2 = u at *
      have x5 : u.cell? ⟨p, 5, none⟩ = some (.int .u64 (wrd w1)) := HN.out.blk.cell 5
      have xl := HN.out.blk.lt
      go_wp2_with fail
      clear x5 xl
      refine ⟨⟨HS.out.cell 0, HS.out.lt⟩, ?_⟩
      iterate 3 (refine ords_pure rfl (fun K hK => ?_); go_simp; refine hK _ ?_; clear hK K)
      refine ords_loud rfl (fun n3 => ?_)
      try simp only [hw2]
      replace HN := Lib.hid (HN.out.drewN n3)
      replace HS := Lib.hid (HS.out.drewN n3)
      replace HB := Lib.hid (bdr HB.out n3)
      replace HRS := Lib.hid (HRS.out.drewN n3)
      replace HRH := Lib.hid (HRH.out.drewN n3)
      generalize u.drewN n3 = u at *
      have x5 : u.cell? ⟨p, 5, none⟩ = some (.int .u64 (wrd w1)) := HN.out.blk.cell 5
      have xf := HN.out.blk.frozen
      have xl := HN.out.blk.lt
      go_wp2_with fail
      try rw [hw2]
      clear x5 xf xl
      replace HN := Lib.hid (HN.out.put5 W2)
      replace HS := Lib.hid (HS.out.far (p := ⟨p, 5, none⟩) (Nat.ne_of_lt (Nat.lt_of_lt_of_le HGB.out HPB.out)) (.int .u64 (wrd W2)))
      replace HRS := Lib.hid (HRS.out.setCell (p := ⟨p, 5, none⟩) HPW.out (.int .u64 (wrd W2)))
      replace HRH := Lib.hid (HRH.out.setCell (p := ⟨p, 5, none⟩) HPW.out (.int .u64 (wrd W2)))
      replace HB := Lib.hid (bput HB.out (p := ⟨p, 5, none⟩) HPW.out (.int .u64 (wrd W2)))
      generalize u.setCell ⟨p, 5, none⟩ (.int .u64 (wrd W2)) = u at *
      refine ⟨⟨HS.out.cell 0, HS.out.lt⟩, ?_⟩
      refine ords_end (fun n4 => ?_)
      replace HN := Lib.hid (HN.out.drewN n4)
      replace HS := Lib.hid (HS.out.drewN n4)
      replace HB := Lib.hid (bdr HB.out n4)
      replace HRS := Lib.hid (HRS.out.drewN n4)
      replace HRH := Lib.hid (HRH.out.drewN n4)
      generalize u.drewN n4 = u at *
      go_upto_region 6 with fail
      have y0 : u.cell? ⟨g, 0, none⟩ = some (.int .i64 2) := HS.out.cell 0
      have y18 : u.cell? ⟨g, 18, none⟩ = some (.slice Ah nh ch) := HS.out.cell 18
      have yg := HS.out.lt
      have hmk : ∀ (W : World), (Instr.makeSlice 24 (.int .i64 0) (.int .i64 64)).run Try.prog W = .ok (.slice (some ⟨W.heap.size, 0, none⟩) 0 64) (W.alloc (.cells (madeCells #[cB.zero] 64) 5)) := fun (W : World) => run_makeS cB_ok .i64 .i64 0 64 (by decide) (by decide) (by decide) W
      refine wp_region_B (Ords.of [(0, 0), (0, 1), (0, 4), (0, 5), (2, 2), (2, 3), (2, 6), (0, 7)] .fin) (by kernel_rfl) rfl (by kernel_rfl) (by kernel_rfl) (fun c a d v w h => by cases d <;> exact h) ?_
      iterate 2 (refine ords_pure rfl (fun K hK => ?_); go_simp; refine hK _ ?_; clear hK K; refine ords_heldK rfl (fun K K2 hK hK2 => ?_); go_simp; refine ⟨hK2 _ (fun w9 hS => ?_), hK _ ?_⟩; (clear hK hK2 K K2; (first | refine withN hS ?_ | refine withD hS ?_ | refine with0 hS ?_); intro hcS hfS; go_simp); (clear hK hK2 K K2))
      refine ords_loud rfl (fun n1 => ?_)
      go_wp2_with (go_at_call 35; refine (HBO.out _).mono ?_; rintro e1 w8 ⟨rfl, rfl⟩)
      refine ⟨bdr (b0 u) _, ?_⟩
      refine ords_loud rfl (fun n2 => ?_)
      go_wp2_with fail
      refine ⟨bal (bdr (b0 u) _) _, ?_⟩
      refine ords_loud rfl (fun n3 => ?_)
      have hOS := (OS.madeAt (cd := cB) (base := u.heap.size) (g := u.heap.size) (u.drewN (n1 + n2)) 0 64 0 rfl (by decide) (by decide) (Nat.le_refl _) rfl).drewN n3
      have hb6 := bdr (bal (bdr (b0 u) (n1 + n2)) (.cells (madeCells #[cB.zero] 64) 5)) n3
      change OS cB (((u.drewN (n1 + n2)).alloc (.cells (madeCells #[cB.zero] 64) 5)).drewN n3) u.heap.size (some ⟨u.heap.size, 0, none⟩) 64 [] at hOS
      generalize ((u.drewN (n1 + n2)).alloc (.cells (madeCells #[cB.zero] 64) 5)).drewN n3 = u6 at *
      have HOS := Lib.hid hOS; have HB6 := Lib.hid hb6; have HRH6 := Lib.hid (HRH.out.below (hb6.mono HB.out.size))
      clear hOS hb6
      (refine wpList_appB _ rfl (.tmp 53) (.tmp 55) rfl HOS.out rfl rfl HRH6.out rfl HHL.out (by have := HHM.out; omega) HB6.out.size ?_; intro A3 c3 w3 ho3 hg3 hA3; have HO3 := Lib.hid ho3; replace HB6 := Lib.hid (bapp HB6.out HOS.out hg3); clear ho3 hg3 hA3)
      refine ⟨HB6.out, ?_⟩
      refine ords_pure rfl (fun K hK => ?_); go_simp; refine hK _ ?_; clear hK K
      refine ords_end (fun n4 => ?_)
      clear y0 y18 yg hmk HRH6 HOS
      have hO7 := HO3.out.drewN n4
      rw [List.nil_append] at hO7
      have hb7 := bdr HB6.out n4
      generalize w3.drewN n4 = u7 at *
      have HO := Lib.hid hO7
      have HS7 := Lib.hid (HS.out.below hb7 HS.out.lt)
      have HRS7 := Lib.hid (HRS.out.below (hb7.mono HB.out.size))
      have hN7 := HN.out.below hb7
      have HB7 := Lib.hid hb7
      have HG2L := Lib.hid (Eng.inn_lt HN.out.eng)
      have hE7 : E32 u7 Bn g2 s0 A c := hN7.eng
      have HH0 := Lib.hid hE7.ok.H
      have hK7 := hE7.blk
      have x6 : u7.cell? ⟨p, 6, none⟩ = some (.iface 88 (.pointer (some ⟨g2, 0, none⟩))) := hN7.blk.cell 6
      have xl := hN7.blk.lt
      have hta := ta_small (.pointer (some ⟨g2, 0, none⟩))
      have htn := ta_no (.pointer (some ⟨g2, 0, none⟩))
      have HWU := Lib.hid (show w.heap.size ≤ u7.heap.size from Nat.le_trans HB.out.size hb7.size)
      have HG2W := Lib.hid (show w.heap.size ≤ g2 from Nat.le_trans HUB.out HG2B.out)
      have HGG := Lib.hid (show g ≠ g2 from Nat.ne_of_lt (Nat.lt_of_lt_of_le HGB.out HG2B.out))
      have HFA := Lib.hid (show ∀ a, A3 = some a → a.block ∉ [g2] from fun a ha hm => by have h1 := (HO.out.block_lt a ha).1; have h2 := HG2L.out; simp at hm; omega)
      clear hO7 hb7 hN7 hE7 HB6 HO3
      obtain ⟨M, hM⟩ : ∃ M, M = words3 st 8 := ⟨_, rfl⟩
      have hMl : M.length = 8 := by rw [hM, words3_len]
      have HM := Lib.hid hM; have HML := Lib.hid hMl; have HK := Lib.hid hK7
      clear hM hMl hK7
      go_wp2_with fail
      clear x6 xl hta htn
      go_loopw [93] (fun i wr => ∃ k : Nat, k ≤ 8 ∧ i = .int .i64 k ∧ But [g2] u7 wr ∧ Blk wr g2 95 (hc32 (M.take k ++ s0.H.drop k) s0.lo s0.hi A s0.held.length c)) (fun i _ => 8 - (intOf i).toNat)
      case atStart => exact ⟨0, by omega, rfl, But.refl _ _, HK.out⟩
      case round =>
        clear HK
        obtain ⟨k, hk, rfl, x0, x1⟩ := hrel
        have HBT := Lib.hid x0; have HK := Lib.hid x1; clear x0 x1
        have HSr := Lib.hid (HS7.out.but HBT.out (by simp; exact HGG.out))
        by_cases hlt : k < 8
        · have HRr := Lib.hid (HRS7.out.below (HBT.out.toBelow HWU.out (fun k hk => by simp at hk; rw [hk]; exact HG2W.out)))
          have hl := fun W hr => load32_any As cs 32 (4 * k) w.heap.size st W HST.out (by omega) hr (by omega)
          have e8 : ((4 * k : Nat) : Int) = 4 * (k : Int) := by omega
          rw [e8] at hl
          obtain ⟨v, hv⟩ : ∃ v, v = word3 ((st.drop (4 * k)).take 4) := ⟨_, rfl⟩
          have hmk : M[k]? = some v := by rw [HM.out, words3_at st 8 k hlt, hv]
          rw [← hv] at hl
          have hsz := hc32_size (M.take k ++ s0.H.drop k) s0.lo s0.hi A s0.held.length c (by rw [List.length_append, List.length_take, List.length_drop, HML.out, HH0.out]; omega)
          have gc : ∃ o, wr.cell? ⟨g2, k, none⟩ = some o := ⟨_, (HK.out.cell k).trans (Array.getElem?_eq_getElem (by rw [hsz]; omega))⟩
          obtain ⟨old, gc⟩ := gc
          have gf : wr.frozen? ⟨g2, k, none⟩ = false := HK.out.frozen k
          have y15 : wr.cell? ⟨g, 15, none⟩ = some (.slice As 32 cs) := HSr.out.cell 15
          have yg := HSr.out.lt
          have HL := Lib.hid hl; have HMK := Lib.hid hmk; clear hl hv e8 hmk hsz
          have hki : (k : Int) < 8 := by omega
          go_upto_region 21 with fail
          refine wp_region_ords (fun _ => True) (fun _ _ h => h) (Ords.of [(0, 0), (0, 1), (0, 2), (1, 3), (0, 4), (0, 5), (0, 10), (0, 11), (2, 6), (0, 7), (0, 8), (0, 9), (0, 12), (2, 13)] .fin) (by kernel_rfl) rfl (by kernel_rfl) (by kernel_rfl) (fun c a d v w h => by cases d <;> exact h) trivial ?_
          iterate 3 (refine ords_pure rfl (fun K hK => ?_); go_simp; refine hK _ ?_; clear hK K)
          refine ords_read rfl (fun K hK => ?_); go_simp; refine hK _ ?_; clear hK K
          iterate 4 (refine ords_pure rfl (fun K hK => ?_); go_simp; refine hK _ ?_; clear hK K)
          refine ords_loud rfl (fun n1 => ?_)
          go_wp2_with (go_at_call 41; refine (HL.out _ (HRr.out.drewN _)).mono ?_; rintro e w1 ⟨rfl, rfl⟩)
          refine ⟨trivial, ?_⟩
          iterate 4 (refine ords_pure rfl (fun K hK => ?_); go_simp; refine hK _ ?_; clear hK K)
          refine ords_loud rfl (fun n2 => ?_)
          go_wp2_with fail
          first | (refine ⟨trivial, ?_⟩; refine ords_end (fun n3 => ?_)) | (rintro _ ⟨n3, rfl⟩)
          have hB9 := ((HBT.out.drewN (n1 + n2)).setCell (p := ⟨g2, k, none⟩) (.inl (by simp)) (.int .u32 (wr3 v))).drewN n3
          have hK9 : Blk (((wr.drewN (n1 + n2)).setCell ⟨g2, k, none⟩ (.int .u32 (wr3 v))).drewN n3) g2 95 (hc32 (M.take (k + 1) ++ s0.H.drop (k + 1)) s0.lo s0.hi A s0.held.length c) := by
            have h := ((HK.out.drewN (n1 + n2)).set_ k (wv3 v)).drewN n3
            rw [hc32_mix M s0.H s0.lo s0.hi A s0.held.length c k v HH0.out hlt HMK.out] at h
            exact h
          have HB9 := Lib.hid hB9; have HK9 := Lib.hid hK9
          clear hB9 hK9 gc gf y15 yg hki
          go_wp2_with fail
          case roundEnd => exact ⟨⟨k + 1, by omega, by go_num, HB9.out, HK9.out⟩, by simp [intOf]; omega⟩
        · obtain rfl : k = 8 := by omega
          clear hlt hk
          have hK8 := HK.out
          rw [List.take_of_length_le (by rw [HML.out]; exact Nat.le_refl _), List.drop_eq_nil_of_le (by rw [HH0.out]; exact Nat.le_refl _), List.append_nil] at hK8
          have HK8 := Lib.hid hK8
          clear hK8
          have y16 : wr.cell? ⟨g, 16, none⟩ = some (.int .u64 (wrd lo)) := HSr.out.cell 16
          have y17 : wr.cell? ⟨g, 17, none⟩ = some (.int .u64 0) := HSr.out.cell 17
          have yg := HSr.out.lt
          have hat := hc32_at M s0.lo s0.hi A s0.held.length c HML.out
          have x8 := (HK8.out.cell 8).trans hat.1
          have x9 := (HK8.out.cell 9).trans hat.2.1
          have x10 := (HK8.out.cell 10).trans hat.2.2.1
          have gf := HK8.out.frozen
          have gl := HK8.out.lt
          clear hat
          go_wp2_with fail
          have hBF := ((HBT.out.setCell (p := ⟨g2, 8, none⟩) (.inl (by simp)) (.int .u64 (wrd lo))).setCell (p := ⟨g2, 9, none⟩) (.inl (by simp)) (.int .u64 0)).setCell (p := ⟨g2, 10, none⟩) (.inl (by simp)) (.slice A3 nh c3)
          have hKF := ((HK8.out.set_ 8 (.int .u64 (wrd lo))).set_ 9 (.int .u64 (wrd 0))).set_ 10 (.slice A3 nh c3)
          rw [show ((hc32 M s0.lo s0.hi A s0.held.length c).setIfInBounds 8 (.int .u64 (wrd lo))).setIfInBounds 9 (.int .u64 (wrd 0)) = hc32 M lo 0 A s0.held.length c from hc32_count M s0.lo s0.hi lo 0 A s0.held.length c HML.out, hc32_held _ _ _ _ _ _ _ _ _ HML.out] at hKF
          change Blk (((wr.setCell ⟨g2, 8, none⟩ (.int .u64 (wrd lo))).setCell ⟨g2, 9, none⟩ (.int .u64 0)).setCell ⟨g2, 10, none⟩ (.slice A3 nh c3)) g2 _ _ at hKF
          generalize ((wr.setCell ⟨g2, 8, none⟩ (.int .u64 (wrd lo))).setCell ⟨g2, 9, none⟩ (.int .u64 0)).setCell ⟨g2, 10, none⟩ (.slice A3 nh c3) = wF at *
          have hOF := HO.out.but hBF HFA.out
          have hBW := (But.of HB7.out [g2]).trans hBF (fun k hk => .inl hk)
          have hE : E32 wF Bn g2 ⟨M, lo, 0, hd⟩ A3 c3 := ⟨by show Blk _ _ _ (hc32 M lo 0 A3 hd.length c3); rw [HHL.out]; exact hKF, hOF.mono (Nat.le_of_lt (Nat.lt_of_le_of_lt HG2B.out HG2L.out)), ⟨HML.out, by show hd.length ≤ 64; rw [HHL.out]; exact HHM.out⟩, fun a ha e => HFA.out a ha (by rw [e]; simp)⟩
          have hNF := HN.out.wrote (e' := .small ⟨M, lo, 0, hd⟩) rfl ⟨hE, hBW.grown1, .inr (fun a ha => (HO.out.block_lt a ha).1)⟩
          have hnd := hNF.nd
          rw [HW2.out, HM.out] at hnd
          exact bodyPost_ret (results_tmp rfl _ _ _) rfl ⟨p, _, rfl, hnd, fun k hk => Nat.le_trans HUB.out (hNF.low HPB.out HG2B.out k hk), HB.out.trans (hBW.toBelow HB.out.size (fun k hk => by simp at hk; rw [hk]; exact HG2W.out))⟩
end Go.Proofs.Ytboihcigcfmhhaa

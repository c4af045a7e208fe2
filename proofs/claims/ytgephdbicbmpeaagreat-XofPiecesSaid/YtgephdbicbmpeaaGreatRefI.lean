/-
  Init, of the reference. Contracts alone; no statement is claimed here.
-/
import Derived.Test.YtgephdbicbmpeaaGreatRefA
import Derived.Test.YtgephdbicbmpeaaGreatMixB
namespace Go.Proofs.YtgephdbicbmpeaaGreat
open Go.RowKit
attribute [local go_sem] pureUpon Ords.of

/-- k words of either half are in -/
def halves (H I : List UInt64) (k : Nat) : List UInt64 := fillU H k 8 ++ fillU I k 8
theorem halves_len (H I : List UInt64) (k : Nat) (hk : k ≤ 8) (hH : H.length = 8) (hI : I.length = 8) : (halves H I k).length = 16 := by
  unfold halves; rw [List.length_append, fillU_len H k 8 hk hH, fillU_len I k 8 hk hI]
theorem halves_all (H I : List UInt64) (hH : H.length = 8) (hI : I.length = 8) : halves H I 8 = H ++ I := by unfold halves; rw [fillU_all H 8 hH, fillU_all I 8 hI]
theorem fillU_set (z : List UInt64) (k n : Nat) (v : UInt64) (hk : k < n) (hn : z.length = n) (hz : z[k]? = some v) : (fillU z k n).set k v = fillU z (k + 1) n := by
  have h1 : (z.take k).length = k := by simp; omega
  unfold fillU
  rw [List.take_add_one, hz, List.set_append, if_neg (by rw [h1]; omega), h1, Nat.sub_self, show n - k = (n - (k + 1)) + 1 by omega, List.replicate_succ, List.set_cons_zero, List.append_assoc]
  rfl
theorem halves_put (H I : List UInt64) (k : Nat) (u v : UInt64) (hk : k < 8) (hH : H.length = 8) (hI : I.length = 8) (hu : H[k]? = some u) (hv : I[k]? = some v) : ((halves H I k).set k u).set (k + 8) v = halves H I (k + 1) := by
  have l1 := fillU_len H k 8 (by omega) hH
  have l2 := fillU_len H (k + 1) 8 (by omega) hH
  unfold halves
  rw [List.set_append, if_pos (by omega), fillU_set H k 8 u hk hH hu, List.set_append, if_neg (by omega), l2, show k + 8 - 8 = k by omega, fillU_set I k 8 v hk hI hv]
set_option maxRecDepth 20000 in
set_option maxHeartbeats 4000000 in
theorem refInit_any (H : List UInt64) (lo hi : UInt64) (last node : Bool) (w : World) (hH : H.length = 8) :
    Calls Tryz.prog 216 #[.agg (wcs H), .int .u64 (wrd lo), .int .u64 (wrd hi), .bool last, .bool node] w fun e w' => e = .returned (.agg (wcs (initOf H lo hi last node))) ∧ Below w.heap.size w w' := by
  have HH := Lib.hid hH; clear hH
  have hG : Hid (initOf H lo hi last node = (let v := ((H ++ iv64).set 12 (0x510e527fade682d1 ^^^ lo)).set 13 (0x9b05688c2b3e6c1f ^^^ hi); let v := if last then v.set 14 (~~~ 0x1f83d9abfb41bd6b) else v; if node then v.set 15 (~~~ 0x5be0cd19137e2179) else v)) := rfl
  generalize initOf H lo hi last node = G at *
  have IVl : Hid (iv64.length = 8) := rfl
  have hIV : Hid (iv64 = [0x6a09e667f3bcc908, 0xbb67ae8584caa73b, 0x3c6ef372fe94f82b, 0xa54ff53a5f1d36f1, 0x510e527fade682d1, 0x9b05688c2b3e6c1f, 0x1f83d9abfb41bd6b, 0x5be0cd19137e2179]) := rfl
  have hiv := Lib.hid refIV_any
  generalize iv64 = I at *
  go_enter Tryz.func216, Tryz.ntmps216
  go_upto_region 2 with fail
  have n1 : Blk (((w.alloc (.cells (wcs H) 252)).alloc (.cells z16 121)).alloc (.cells z16 121)) w.heap.size 252 (wcs H) := ((Blk.new _ _ _).alloc _).alloc _
  have n2 : Blk (((w.alloc (.cells (wcs H) 252)).alloc (.cells z16 121)).alloc (.cells z16 121)) (w.heap.size + 1) 121 (wcs (zw 16)) := by
    have := (Blk.new (w.alloc (.cells (wcs H) 252)) 121 z16).alloc (.cells z16 121); show Blk _ _ _ z16; simpa using this
  have n3 : Blk (((w.alloc (.cells (wcs H) 252)).alloc (.cells z16 121)).alloc (.cells z16 121)) (w.heap.size + 1 + 1) 121 (wcs (halves H I 0)) := by
    have := Blk.new ((w.alloc (.cells (wcs H) 252)).alloc (.cells z16 121)) 121 z16; show Blk _ _ _ z16; simpa using this
  have n4 := bal (bal (bal (b0 w) (.cells (wcs H) 252)) (.cells z16 121)) (.cells z16 121)
  obtain ⟨g, hg⟩ : ∃ g, g = w.heap.size := ⟨_, rfl⟩
  unfold z16 at n1 n2 n3 n4
  rw [← hg] at n1 n2 n3 ⊢
  generalize ((w.alloc (.cells (wcs H) 252)).alloc (.cells #[.int .u64 0, .int .u64 0, .int .u64 0, .int .u64 0, .int .u64 0, .int .u64 0, .int .u64 0, .int .u64 0, .int .u64 0, .int .u64 0, .int .u64 0, .int .u64 0, .int .u64 0, .int .u64 0, .int .u64 0, .int .u64 0] 121)).alloc (.cells #[.int .u64 0, .int .u64 0, .int .u64 0, .int .u64 0, .int .u64 0, .int .u64 0, .int .u64 0, .int .u64 0, .int .u64 0, .int .u64 0, .int .u64 0, .int .u64 0, .int .u64 0, .int .u64 0, .int .u64 0, .int .u64 0] 121) = w0 at *
  have l0 : Hid (w.heap.size ≤ g) := by (show _ ≤ _; omega)
  obtain ⟨g2, hg2⟩ : ∃ g2, g2 = g + 1 := ⟨_, rfl⟩
  obtain ⟨g3, hg3⟩ : ∃ g3, g3 = g + 1 + 1 := ⟨_, rfl⟩
  rw [← hg3, ← hg2]
  rw [← hg2] at n2
  rw [← hg3] at n3
  have l12 : g < g2 := by omega
  have l23 : g2 < g3 := by omega
  have N1 := Lib.hid n1; have N2 := Lib.hid n2; have N3 := Lib.hid n3; have N4 := Lib.hid n4
  clear n1 n2 n3 n4 hg hg2 hg3
  go_wp2_with fail
  go_loopw [12] (fun i wr => ∃ k : Nat, k ≤ 8 ∧ i = .int .i64 k ∧ Blk wr g 252 (wcs H) ∧ Blk wr g2 121 (wcs (zw 16)) ∧ Blk wr g3 121 (wcs (halves H I k)) ∧ Below w.heap.size w wr) (fun i _ => 8 - (intOf i).toNat)
  case atStart => exact ⟨0, by omega, rfl, N1.out, N2.out, N3.out, N4.out⟩
  case round =>
    clear N1 N2 N3 N4
    obtain ⟨k, hk, rfl, x1, x2, x3, x4⟩ := hrel
    have N1 := Lib.hid x1; have N2 := Lib.hid x2; have N3 := Lib.hid x3; have N4 := Lib.hid x4; clear x1 x2 x3 x4
    by_cases hlt : k < 8
    · obtain ⟨u, hu⟩ : ∃ u, u = H.getD k 0 := ⟨_, rfl⟩
      obtain ⟨v, hv⟩ : ∃ v, v = I.getD k 0 := ⟨_, rfl⟩
      have hHk : H[k]? = some u := by rw [hu]; exact getDW H k (by rw [HH.out]; exact hlt)
      have hIk : I[k]? = some v := by rw [hv]; exact getDW I k (by rw [IVl.out]; exact hlt)
      have hI := fun W => hiv.out k hlt W
      rw [← hv] at hI
      have hput := halves_put H I k u v hlt HH.out IVl.out hHk hIk
      obtain ⟨k8, hk8⟩ : ∃ k8, k8 = k + 8 := ⟨_, rfl⟩
      rw [← hk8] at hput
      have e8 : (k : Int) + 8 = (k8 : Int) := by omega
      have w8' : IntKind.i64.wrap (k8 : Int) = k8 := by simp [IntKind.wrap, IntKind.bits, IntKind.signed]; omega
      have hk8i : (k8 : Int) < 16 := by omega
      have hk16 : (k : Int) < 16 := by omega
      have hki : (k : Int) < 8 := by omega
      have hkd : decide ((k : Int) < 8) = true := by simp; omega
      have hl16 := halves_len H I k (by omega) HH.out IVl.out
      have c0 : wr.cell? ⟨g, k, none⟩ = some (.int .u64 (wrd u)) := by rw [N1.out.cell, wcs_at' _ k u hHk]
      have c1 : wr.cell? ⟨g3, k, none⟩ = some (wv ((halves H I k).getD k 0)) := (N3.out.cell k).trans (wcs_get _ _ (by rw [hl16]; omega))
      generalize wv ((halves H I k).getD k 0) = old at c1
      have f1 : wr.frozen? ⟨g3, k, none⟩ = false := N3.out.frozen k
      have hs3 := N3.out.set_ k (wv u)
      rw [wcs_set] at hs3
      have hs1 := N1.out.far (p := ⟨g3, k, none⟩) (by show g ≠ g3; omega) (wv u)
      have hs2 := N2.out.far (p := ⟨g3, k, none⟩) (by show g2 ≠ g3; omega) (wv u)
      have hs4 := bput N4.out (p := ⟨g3, k, none⟩) (by have := l0.out; simp; omega) (wv u)
      have HI := Lib.hid hI; have HPUT := Lib.hid hput; have HS1 := Lib.hid hs1; have HS2 := Lib.hid hs2; have HS3 := Lib.hid hs3; have HS4 := Lib.hid hs4; have HL16 := Lib.hid hl16
      clear hI hput hs1 hs2 hs3 hs4 hl16 hHk hIk hu hv hk8 N1 N2 N3 N4
      go_wp2_with (go_at_call 230; refine (HI.out _).mono ?_; rintro e w4 ⟨rfl, hb4⟩; have n3 := HS3.out.below hb4 HS3.out.lt; have gc : w4.cell? ⟨g3, k8, none⟩ = some (wv (((halves H I k).set k u).getD k8 0)) := (n3.cell k8).trans (wcs_get _ _ (by rw [List.length_set, HL16.out]; omega)); have gf : w4.frozen? ⟨g3, k8, none⟩ = false := n3.frozen k8; generalize wv (((halves H I k).set k u).getD k8 0) = old2 at gc; have N3' := Lib.hid n3; have HB4 := Lib.hid hb4; clear n3 hb4)
      case roundEnd =>
        have h1 := N3'.out.set_ k8 (wv v)
        rw [wcs_set, HPUT.out] at h1
        exact ⟨⟨k + 1, by omega, by go_num, (HS1.out.below HB4.out HS1.out.lt).far (p := ⟨g3, k8, none⟩) (by show g ≠ g3; omega) _, (HS2.out.below HB4.out HS2.out.lt).far (p := ⟨g3, k8, none⟩) (by show g2 ≠ g3; omega) _, h1, bput (bcall HS4.out HB4.out) (p := ⟨g3, k8, none⟩) (by have := l0.out; simp; omega) _⟩, by simp [intOf]; omega⟩
    · obtain rfl : k = 8 := by omega
      clear hlt hk
      have hN3 := N3.out
      rw [halves_all H I HH.out IVl.out] at hN3
      obtain ⟨i4, hi4⟩ : ∃ i, i = (0x510e527fade682d1 : UInt64) := ⟨_, rfl⟩
      obtain ⟨i5, hi5⟩ : ∃ i, i = (0x9b05688c2b3e6c1f : UInt64) := ⟨_, rfl⟩
      obtain ⟨i6, hi6⟩ : ∃ i, i = (0x1f83d9abfb41bd6b : UInt64) := ⟨_, rfl⟩
      obtain ⟨i7, hi7⟩ : ∃ i, i = (0x5be0cd19137e2179 : UInt64) := ⟨_, rfl⟩
      have hI := hIV.out
      have hGG := hG.out
      rw [← hi4, ← hi5, ← hi6, ← hi7] at hI
      rw [← hi4, ← hi5, ← hi6, ← hi7] at hGG
      clear hIV hG hi4 hi5 hi6 hi7 hiv
      obtain ⟨V, hV⟩ : ∃ V, V = H ++ I := ⟨_, rfl⟩
      rw [← hV] at hN3 hGG
      have hVl : V.length = 16 := by rw [hV, List.length_append, HH.out, IVl.out]
      have c12 : wr.cell? ⟨g3, 12, none⟩ = some (.int .u64 (wrd i4)) := by rw [hN3.cell, wcs_at' V 12 i4 (by rw [hV, List.getElem?_append_right (by rw [HH.out]; omega), HH.out, hI]; rfl)]
      have c13 : wr.cell? ⟨g3, 13, none⟩ = some (.int .u64 (wrd i5)) := by rw [hN3.cell, wcs_at' V 13 i5 (by rw [hV, List.getElem?_append_right (by rw [HH.out]; omega), HH.out, hI]; rfl)]
      have c14 : wr.cell? ⟨g3, 14, none⟩ = some (.int .u64 (wrd i6)) := by rw [hN3.cell, wcs_at' V 14 i6 (by rw [hV, List.getElem?_append_right (by rw [HH.out]; omega), HH.out, hI]; rfl)]
      have c15 : wr.cell? ⟨g3, 15, none⟩ = some (.int .u64 (wrd i7)) := by rw [hN3.cell, wcs_at' V 15 i7 (by rw [hV, List.getElem?_append_right (by rw [HH.out]; omega), HH.out, hI]; rfl)]
      have ff : ∀ i, wr.frozen? ⟨g3, i, none⟩ = false := hN3.frozen
      have h2 := wrd_xor
      have HV := Lib.hid hVl; have HGG := Lib.hid hGG; clear hV hVl hI hGG IVl
      have h3 := wrd_not
      have h3' : ∀ x : UInt64, bits .xor .u64 (if IntKind.u64.signed = true then -1 else IntKind.u64.max) (wrd x) = wrd (~~~ x) := wrd_not
      have z12 := hN3.set_ 12 (wv (i4 ^^^ lo))
      rw [wcs_set] at z12
      have z13 := z12.set_ 13 (wv (i5 ^^^ hi))
      rw [wcs_set] at z13
      have z14 := z13.set_ 14 (wv (~~~ i6))
      rw [wcs_set] at z14
      have z15 := z13.set_ 15 (wv (~~~ i7))
      rw [wcs_set] at z15
      have z16 := z14.set_ 15 (wv (~~~ i7))
      rw [wcs_set] at z16
      have Z13 := Lib.hid z13; have Z14 := Lib.hid z14; have Z15 := Lib.hid z15; have Z16 := Lib.hid z16; clear z12 z13 z14 z15 z16
      have hlr : Hid (w.heap.size ≤ g3) := by show _ ≤ _; have := l0.out; omega
      have hw13 := bput (bput N4.out (p := ⟨g3, 12, none⟩) hlr.out (wv (i4 ^^^ lo))) (p := ⟨g3, 13, none⟩) hlr.out (wv (i5 ^^^ hi))
      have hl2 : Hid (w.heap.size ≤ g2) := by show _ ≤ _; have := l0.out; omega
      have y2 := (N2.out.far (p := ⟨g3, 12, none⟩) (by simp; omega) (wv (i4 ^^^ lo))).far (p := ⟨g3, 13, none⟩) (by simp; omega) (wv (i5 ^^^ hi))
      have Y2 := Lib.hid y2; have HW := Lib.hid hw13; have hg23 : g2 ≠ g3 := by omega
      clear y2 hw13 N1 N2 N3 N4 hN3
      have hu := Lib.hid Tryz.underlying121
      have hsz : Hid (∀ L : List UInt64, L.length = 16 → (Tryz.prog.info? 121).map (·.size) = some (wcs L).size) := sz16w
      have hall := Lib.hid wcs_all
      have hold : Hid (∀ L : List UInt64, L.length = 16 → (wcs (zw 16)).size = (wcs L).size) := fun L h => by rw [wcs_size, wcs_size, h]; rfl
      cases last <;> cases node
      · have hg := HGG.out
        simp only [Bool.false_eq_true, if_false] at hg
        have HG2 := Lib.hid hg; clear hg
        have hl : Hid (G.length = 16) := by show _ = _; rw [HG2.out]; simp [HV.out]
        have hz : Hid (Blk ((wr.setCell ⟨g3, 12, none⟩ (.int .u64 (wrd (i4 ^^^ lo)))).setCell ⟨g3, 13, none⟩ (.int .u64 (wrd (i5 ^^^ hi)))) g3 121 (wcs G)) := by show Blk _ _ _ _; rw [HG2.out]; exact Z13.out
        have hy : Hid (Blk ((wr.setCell ⟨g3, 12, none⟩ (.int .u64 (wrd (i4 ^^^ lo)))).setCell ⟨g3, 13, none⟩ (.int .u64 (wrd (i5 ^^^ hi)))) g2 121 (wcs (zw 16))) := Y2.out
        have hx : Hid (Below w.heap.size w ((wr.setCell ⟨g3, 12, none⟩ (.int .u64 (wrd (i4 ^^^ lo)))).setCell ⟨g3, 13, none⟩ (.int .u64 (wrd (i5 ^^^ hi))))) := HW.out
        go_upto_region 13 with fail
        go_wp2_with (first
          | (refine wpList_load_row rfl 121 _ rfl g3 rfl 121 (wcs G) (0, 0) _ hz.out hu.out rfl (hsz.out G hl.out) ?_)
          | (refine wpList_store_row rfl 121 _ _ rfl g2 (wcs G) rfl rfl 121 _ hy.out (hsz.out G hl.out) (hold.out G hl.out) (hall.out G) ?_))
        exact bodyPost_ret (results_cell_row rfl _ _ g2 _ _ (0, 0) _ rfl (hy.out.row _) hu.out rfl (hsz.out G hl.out)) rfl ⟨rfl, brow hx.out hl2.out _⟩
      · have hg := HGG.out
        simp only [Bool.false_eq_true, if_false, if_true] at hg
        have HG2 := Lib.hid hg; clear hg
        have hl : Hid (G.length = 16) := by show _ = _; rw [HG2.out]; simp [HV.out]
        have hz : Hid (Blk (((wr.setCell ⟨g3, 12, none⟩ (.int .u64 (wrd (i4 ^^^ lo)))).setCell ⟨g3, 13, none⟩ (.int .u64 (wrd (i5 ^^^ hi)))).setCell ⟨g3, 15, none⟩ (.int .u64 (wrd (~~~ i7)))) g3 121 (wcs G)) := by show Blk _ _ _ _; rw [HG2.out]; exact Z15.out
        have hy : Hid (Blk (((wr.setCell ⟨g3, 12, none⟩ (.int .u64 (wrd (i4 ^^^ lo)))).setCell ⟨g3, 13, none⟩ (.int .u64 (wrd (i5 ^^^ hi)))).setCell ⟨g3, 15, none⟩ (.int .u64 (wrd (~~~ i7)))) g2 121 (wcs (zw 16))) := (Y2.out).far (p := ⟨g3, 15, none⟩) (by simp; omega) _
        have hx : Hid (Below w.heap.size w (((wr.setCell ⟨g3, 12, none⟩ (.int .u64 (wrd (i4 ^^^ lo)))).setCell ⟨g3, 13, none⟩ (.int .u64 (wrd (i5 ^^^ hi)))).setCell ⟨g3, 15, none⟩ (.int .u64 (wrd (~~~ i7))))) := bput (HW.out) (p := ⟨g3, 15, none⟩) hlr.out _
        go_upto_region 13 with fail
        go_wp2_with (first
          | (refine wpList_load_row rfl 121 _ rfl g3 rfl 121 (wcs G) (0, 0) _ hz.out hu.out rfl (hsz.out G hl.out) ?_)
          | (refine wpList_store_row rfl 121 _ _ rfl g2 (wcs G) rfl rfl 121 _ hy.out (hsz.out G hl.out) (hold.out G hl.out) (hall.out G) ?_))
        exact bodyPost_ret (results_cell_row rfl _ _ g2 _ _ (0, 0) _ rfl (hy.out.row _) hu.out rfl (hsz.out G hl.out)) rfl ⟨rfl, brow hx.out hl2.out _⟩
      · have hg := HGG.out
        simp only [Bool.false_eq_true, if_false, if_true] at hg
        have HG2 := Lib.hid hg; clear hg
        have hl : Hid (G.length = 16) := by show _ = _; rw [HG2.out]; simp [HV.out]
        have hz : Hid (Blk (((wr.setCell ⟨g3, 12, none⟩ (.int .u64 (wrd (i4 ^^^ lo)))).setCell ⟨g3, 13, none⟩ (.int .u64 (wrd (i5 ^^^ hi)))).setCell ⟨g3, 14, none⟩ (.int .u64 (wrd (~~~ i6)))) g3 121 (wcs G)) := by show Blk _ _ _ _; rw [HG2.out]; exact Z14.out
        have hy : Hid (Blk (((wr.setCell ⟨g3, 12, none⟩ (.int .u64 (wrd (i4 ^^^ lo)))).setCell ⟨g3, 13, none⟩ (.int .u64 (wrd (i5 ^^^ hi)))).setCell ⟨g3, 14, none⟩ (.int .u64 (wrd (~~~ i6)))) g2 121 (wcs (zw 16))) := (Y2.out).far (p := ⟨g3, 14, none⟩) (by simp; omega) _
        have hx : Hid (Below w.heap.size w (((wr.setCell ⟨g3, 12, none⟩ (.int .u64 (wrd (i4 ^^^ lo)))).setCell ⟨g3, 13, none⟩ (.int .u64 (wrd (i5 ^^^ hi)))).setCell ⟨g3, 14, none⟩ (.int .u64 (wrd (~~~ i6))))) := bput (HW.out) (p := ⟨g3, 14, none⟩) hlr.out _
        go_upto_region 13 with fail
        go_wp2_with (first
          | (refine wpList_load_row rfl 121 _ rfl g3 rfl 121 (wcs G) (0, 0) _ hz.out hu.out rfl (hsz.out G hl.out) ?_)
          | (refine wpList_store_row rfl 121 _ _ rfl g2 (wcs G) rfl rfl 121 _ hy.out (hsz.out G hl.out) (hold.out G hl.out) (hall.out G) ?_))
        exact bodyPost_ret (results_cell_row rfl _ _ g2 _ _ (0, 0) _ rfl (hy.out.row _) hu.out rfl (hsz.out G hl.out)) rfl ⟨rfl, brow hx.out hl2.out _⟩
      · have hg := HGG.out
        simp only [if_true] at hg
        have HG2 := Lib.hid hg; clear hg
        have hl : Hid (G.length = 16) := by show _ = _; rw [HG2.out]; simp [HV.out]
        have hz : Hid (Blk ((((wr.setCell ⟨g3, 12, none⟩ (.int .u64 (wrd (i4 ^^^ lo)))).setCell ⟨g3, 13, none⟩ (.int .u64 (wrd (i5 ^^^ hi)))).setCell ⟨g3, 14, none⟩ (.int .u64 (wrd (~~~ i6)))).setCell ⟨g3, 15, none⟩ (.int .u64 (wrd (~~~ i7)))) g3 121 (wcs G)) := by show Blk _ _ _ _; rw [HG2.out]; exact Z16.out
        have hy : Hid (Blk ((((wr.setCell ⟨g3, 12, none⟩ (.int .u64 (wrd (i4 ^^^ lo)))).setCell ⟨g3, 13, none⟩ (.int .u64 (wrd (i5 ^^^ hi)))).setCell ⟨g3, 14, none⟩ (.int .u64 (wrd (~~~ i6)))).setCell ⟨g3, 15, none⟩ (.int .u64 (wrd (~~~ i7)))) g2 121 (wcs (zw 16))) := ((Y2.out).far (p := ⟨g3, 14, none⟩) (by simp; omega) _).far (p := ⟨g3, 15, none⟩) (by simp; omega) _
        have hx : Hid (Below w.heap.size w ((((wr.setCell ⟨g3, 12, none⟩ (.int .u64 (wrd (i4 ^^^ lo)))).setCell ⟨g3, 13, none⟩ (.int .u64 (wrd (i5 ^^^ hi)))).setCell ⟨g3, 14, none⟩ (.int .u64 (wrd (~~~ i6)))).setCell ⟨g3, 15, none⟩ (.int .u64 (wrd (~~~ i7))))) := bput (bput (HW.out) (p := ⟨g3, 14, none⟩) hlr.out _) (p := ⟨g3, 15, none⟩) hlr.out _
        go_upto_region 13 with fail
        go_wp2_with (first
          | (refine wpList_load_row rfl 121 _ rfl g3 rfl 121 (wcs G) (0, 0) _ hz.out hu.out rfl (hsz.out G hl.out) ?_)
          | (refine wpList_store_row rfl 121 _ _ rfl g2 (wcs G) rfl rfl 121 _ hy.out (hsz.out G hl.out) (hold.out G hl.out) (hall.out G) ?_))
        exact bodyPost_ret (results_cell_row rfl _ _ g2 _ _ (0, 0) _ rfl (hy.out.row _) hu.out rfl (hsz.out G hl.out)) rfl ⟨rfl, brow hx.out hl2.out _⟩
end Go.Proofs.YtgephdbicbmpeaaGreat

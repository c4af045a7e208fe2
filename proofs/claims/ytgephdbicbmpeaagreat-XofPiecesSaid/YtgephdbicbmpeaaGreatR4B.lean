/-
  Begin, End, F, of the reference's smaller half. Contracts alone; no statement is claimed here.
-/
import Derived.Test.YtgephdbicbmpeaaGreatR4R
namespace Go.Proofs.YtgephdbicbmpeaaGreat
open Go.RowKit
attribute [local go_sem] pureUpon Ords.of

def fill3 (z : List UInt32) (k n : Nat) : List UInt32 := z.take k ++ List.replicate (n - k) 0
theorem fill3_len (z : List UInt32) (k n : Nat) (hk : k ≤ n) (hz : z.length = n) : (fill3 z k n).length = n := fill_len z k n 0 hk hz
theorem fill3_all (z : List UInt32) (n : Nat) (hz : z.length = n) : fill3 z n n = z := by unfold fill3; rw [Nat.sub_self, List.replicate_zero, List.append_nil, List.take_of_length_le (by omega)]
theorem fill3_set (z : List UInt32) (k n : Nat) (v : UInt32) (hk : k < n) (hn : z.length = n) (hz : z[k]? = some v) : (fill3 z k n).set k v = fill3 z (k + 1) n := by
  have h1 : (z.take k).length = k := by simp; omega
  unfold fill3
  rw [List.take_add_one, hz, List.set_append, if_neg (by rw [h1]; omega), h1, Nat.sub_self, show n - k = (n - (k + 1)) + 1 by omega, List.replicate_succ, List.set_cons_zero, List.append_assoc]
  rfl
theorem fill3_put (z : List UInt32) (k n : Nat) (v : UInt32) (hk : k < n) (hn : z.length = n) (hz : z[k]? = some v) : (wc3 (fill3 z k n)).setIfInBounds k (wv3 v) = wc3 (fill3 z (k + 1) n) := by
  rw [wc3_set, fill3_set z k n v hk hn hz]
/-- k words of either half are in -/
def halves3 (H I : List UInt32) (k : Nat) : List UInt32 := fill3 H k 8 ++ fill3 I k 8
theorem halves3_len (H I : List UInt32) (k : Nat) (hk : k ≤ 8) (hH : H.length = 8) (hI : I.length = 8) : (halves3 H I k).length = 16 := by
  unfold halves3; rw [List.length_append, fill3_len H k 8 hk hH, fill3_len I k 8 hk hI]
theorem halves3_all (H I : List UInt32) (hH : H.length = 8) (hI : I.length = 8) : halves3 H I 8 = H ++ I := by unfold halves3; rw [fill3_all H 8 hH, fill3_all I 8 hI]
theorem halves3_put (H I : List UInt32) (k : Nat) (u v : UInt32) (hk : k < 8) (hH : H.length = 8) (hI : I.length = 8) (hu : H[k]? = some u) (hv : I[k]? = some v) : ((halves3 H I k).set k u).set (k + 8) v = halves3 H I (k + 1) := by
  have l1 := fill3_len H k 8 (by omega) hH
  have l2 := fill3_len H (k + 1) 8 (by omega) hH
  unfold halves3
  rw [List.set_append, if_pos (by omega), fill3_set H k 8 u hk hH hu, List.set_append, if_neg (by omega), l2, show k + 8 - 8 = k by omega, fill3_set I k 8 v hk hI hv]
theorem wr3_not' (x : UInt32) : bits .xor .u32 (wr3 x) 4294967295 = wr3 (~~~x) := by
  have h := wr3_xor x 4294967295
  have e : wr3 4294967295 = 4294967295 := rfl
  rw [e] at h
  rw [h]
  congr 1
  exact UInt32.xor_neg_one
set_option maxRecDepth 20000 in
set_option maxHeartbeats 4000000 in
theorem r4Begin_any (H : List UInt32) (cnt : UInt64) (last node : Bool) (w : World) (hH : H.length = 8) :
    Calls Tryz.prog 219 #[.agg (wc3 H), .int .u64 (wrd cnt), .bool last, .bool node] w fun e w' => e = .returned (.agg (wc3 (initOf3 H (lo32 cnt) (hi32 cnt) last node))) ∧ Below w.heap.size w w' := by
  have HH := Lib.hid hH; clear hH
  have hwl := wrap_lo cnt
  have hwh := wrap_hi cnt
  generalize lo32 cnt = lo at *
  generalize hi32 cnt = hi at *
  have hG : Hid (initOf3 H lo hi last node = (let v := ((H ++ iv32).set 12 (0x510e527f ^^^ lo)).set 13 (0x9b05688c ^^^ hi); let v := if last then v.set 14 (~~~ 0x1f83d9ab) else v; if node then v.set 15 (~~~ 0x5be0cd19) else v)) := rfl
  generalize initOf3 H lo hi last node = G at *
  have IVl : Hid (iv32.length = 8) := rfl
  have hIV : Hid (iv32 = [0x6a09e667, 0xbb67ae85, 0x3c6ef372, 0xa54ff53a, 0x510e527f, 0x9b05688c, 0x1f83d9ab, 0x5be0cd19]) := rfl
  have hiv := Lib.hid r4IV_any
  generalize iv32 = I at *
  have sI := Lib.hid (sz8s I IVl.out)
  have aI := Lib.hid (wc3_all I)
  have hoI : Hid ((wc3 (zw3 8)).size = (wc3 I).size) := by show _ = _; rw [wc3_size, wc3_size, IVl.out]; rfl
  go_enter Tryz.func219, Tryz.ntmps219
  go_upto_region 2 with fail
  have n1 : Blk (((w.alloc (.cells (wc3 H) 256)).alloc (.cells z16s 257)).alloc (.cells z16s 257)) w.heap.size 256 (wc3 H) := ((Blk.new _ _ _).alloc _).alloc _
  have n2 : Blk (((w.alloc (.cells (wc3 H) 256)).alloc (.cells z16s 257)).alloc (.cells z16s 257)) (w.heap.size + 1) 257 (wc3 (zw3 16)) := by
    have := (Blk.new (w.alloc (.cells (wc3 H) 256)) 257 z16s).alloc (.cells z16s 257); show Blk _ _ _ z16s; simpa using this
  have n3 : Blk (((w.alloc (.cells (wc3 H) 256)).alloc (.cells z16s 257)).alloc (.cells z16s 257)) (w.heap.size + 1 + 1) 257 (wc3 (halves3 H I 0)) := by
    have := Blk.new ((w.alloc (.cells (wc3 H) 256)).alloc (.cells z16s 257)) 257 z16s; show Blk _ _ _ z16s; simpa using this
  have n4 := bal (bal (bal (b0 w) (.cells (wc3 H) 256)) (.cells z16s 257)) (.cells z16s 257)
  obtain ⟨g, hg⟩ : ∃ g, g = w.heap.size := ⟨_, rfl⟩
  unfold z16s at n1 n2 n3 n4
  rw [← hg] at n1 n2 n3 ⊢
  generalize ((w.alloc (.cells (wc3 H) 256)).alloc (.cells #[.int .u32 0, .int .u32 0, .int .u32 0, .int .u32 0, .int .u32 0, .int .u32 0, .int .u32 0, .int .u32 0, .int .u32 0, .int .u32 0, .int .u32 0, .int .u32 0, .int .u32 0, .int .u32 0, .int .u32 0, .int .u32 0] 257)).alloc (.cells #[.int .u32 0, .int .u32 0, .int .u32 0, .int .u32 0, .int .u32 0, .int .u32 0, .int .u32 0, .int .u32 0, .int .u32 0, .int .u32 0, .int .u32 0, .int .u32 0, .int .u32 0, .int .u32 0, .int .u32 0, .int .u32 0] 257) = w0 at *
  have l0 : Hid (w.heap.size ≤ g) := by (show _ ≤ _; omega)
  obtain ⟨g2, hg2⟩ : ∃ g2, g2 = g + 1 := ⟨_, rfl⟩
  obtain ⟨g3, hg3⟩ : ∃ g3, g3 = g + 1 + 1 := ⟨_, rfl⟩
  rw [← hg3, ← hg2]
  rw [← hg2] at n2
  rw [← hg3] at n3
  have l12 : g < g2 := by omega
  have l23 : g2 < g3 := by omega
  have N1 := Lib.hid n1; have N2 := Lib.hid n2; have N3 := Lib.hid n3; have N4 := Lib.hid n4
  clear n1 n2 n3 n4 hg hg2 hg3
  go_wp2_with fail
  refine (hiv.out _).mono ?_
  rintro e w5 ⟨rfl, hb5⟩
  have l5 : g3 < w5.heap.size := (N3.out.below hb5 N3.out.lt).lt
  have n5 := Blk.new w5 256 z8s
  have v1 := (N1.out.below hb5 N1.out.lt).alloc (.cells z8s 256)
  have v2 := (N2.out.below hb5 N2.out.lt).alloc (.cells z8s 256)
  have v3 := (N3.out.below hb5 N3.out.lt).alloc (.cells z8s 256)
  have v4 := bal (bcall N4.out hb5) (.cells z8s 256)
  have l6 := (bcall N4.out hb5).size
  unfold z8s at n5 v1 v2 v3 v4
  have N5 := Lib.hid n5; have L6 := Lib.hid l6; clear n5 l6 hb5 N1 N2 N3 N4
  go_upto_region 3 with (refine wpList_store_row rfl 256 _ _ rfl w5.heap.size (wc3 I) rfl rfl 256 _ N5.out sI.out hoI.out aI.out ?_)
  have n5 := N5.out.row (wc3 I)
  obtain ⟨g5, hg5⟩ : ∃ g5, g5 = w5.heap.size := ⟨_, rfl⟩
  replace v1 := v1.rowFar (k := w5.heap.size) (by omega) (wc3 I); replace v2 := v2.rowFar (k := w5.heap.size) (by omega) (wc3 I); replace v3 := v3.rowFar (k := w5.heap.size) (by omega) (wc3 I); replace v4 := brow v4 L6.out (wc3 I)
  rw [← hg5] at n5 v1 v2 v3 v4 l5 ⊢
  clear N5
  generalize (w5.alloc (.cells #[.int .u32 0, .int .u32 0, .int .u32 0, .int .u32 0, .int .u32 0, .int .u32 0, .int .u32 0, .int .u32 0] 256)).setRow g5 (wc3 I) = w6 at *
  clear hg5 L6
  have N1 := Lib.hid v1; have N2 := Lib.hid v2; have N3 := Lib.hid v3; have N4 := Lib.hid v4; have N5 := Lib.hid n5; clear v1 v2 v3 v4 n5
  go_wp2_with fail
  go_loopw [11] (fun i wr => ∃ k : Nat, k ≤ 8 ∧ i = .int .i64 k ∧ Blk wr g 256 (wc3 H) ∧ Blk wr g2 257 (wc3 (zw3 16)) ∧ Blk wr g3 257 (wc3 (halves3 H I k)) ∧ Blk wr g5 256 (wc3 I) ∧ Below w.heap.size w wr) (fun i _ => 8 - (intOf i).toNat)
  case atStart => exact ⟨0, by omega, rfl, N1.out, N2.out, N3.out, N5.out, N4.out⟩
  case round =>
    clear N1 N2 N3 N4 N5
    obtain ⟨k, hk, rfl, x1, x2, x3, x5, x4⟩ := hrel
    have N1 := Lib.hid x1; have N2 := Lib.hid x2; have N3 := Lib.hid x3; have N4 := Lib.hid x4; have N5 := Lib.hid x5; clear x1 x2 x3 x4 x5
    by_cases hlt : k < 8
    · obtain ⟨u, hu⟩ : ∃ u, u = H.getD k 0 := ⟨_, rfl⟩
      obtain ⟨v, hv⟩ : ∃ v, v = I.getD k 0 := ⟨_, rfl⟩
      have hHk : H[k]? = some u := by rw [hu]; exact getD3 H k (by rw [HH.out]; exact hlt)
      have hIk : I[k]? = some v := by rw [hv]; exact getD3 I k (by rw [IVl.out]; exact hlt)
      have hput := halves3_put H I k u v hlt HH.out IVl.out hHk hIk
      obtain ⟨k8, hk8⟩ : ∃ k8, k8 = k + 8 := ⟨_, rfl⟩
      rw [← hk8] at hput
      have e8 : (k : Int) + 8 = (k8 : Int) := by omega
      have w8' : IntKind.i64.wrap (k8 : Int) = k8 := by simp [IntKind.wrap, IntKind.bits, IntKind.signed]; omega
      have hk8i : (k8 : Int) < 16 := by omega
      have hk16 : (k : Int) < 16 := by omega
      have hki : (k : Int) < 8 := by omega
      have hkd : decide ((k : Int) < 8) = true := by simp; omega
      have hkk : k ≠ k8 := by omega
      have hl16 := halves3_len H I k (by omega) HH.out IVl.out
      have c0 : wr.cell? ⟨g, k, none⟩ = some (.int .u32 (wr3 u)) := by rw [N1.out.cell, wc3_at' _ k u hHk]
      have c5 : wr.cell? ⟨g5, k, none⟩ = some (.int .u32 (wr3 v)) := by rw [N5.out.cell, wc3_at' _ k v hIk]
      have c1 : wr.cell? ⟨g3, k, none⟩ = some (wv3 ((halves3 H I k).getD k 0)) := (N3.out.cell k).trans (wc3_get _ _ (by rw [hl16]; omega))
      have c2 : wr.cell? ⟨g3, k8, none⟩ = some (wv3 ((halves3 H I k).getD k8 0)) := (N3.out.cell k8).trans (wc3_get _ _ (by rw [hl16]; omega))
      generalize wv3 ((halves3 H I k).getD k 0) = old at c1
      generalize wv3 ((halves3 H I k).getD k8 0) = old2 at c2
      have f1 : wr.frozen? ⟨g3, k, none⟩ = false := N3.out.frozen k
      have f2 : wr.frozen? ⟨g3, k8, none⟩ = false := N3.out.frozen k8
      have hs3 := (N3.out.set_ k (wv3 u)).set_ k8 (wv3 v)
      rw [wc3_set, wc3_set, hput] at hs3
      have hs1 := (N1.out.far (p := ⟨g3, k, none⟩) (by show g ≠ g3; omega) (wv3 u)).far (p := ⟨g3, k8, none⟩) (by show g ≠ g3; omega) (wv3 v)
      have hs2 := (N2.out.far (p := ⟨g3, k, none⟩) (by show g2 ≠ g3; omega) (wv3 u)).far (p := ⟨g3, k8, none⟩) (by show g2 ≠ g3; omega) (wv3 v)
      have hs5 := (N5.out.far (p := ⟨g3, k, none⟩) (by show g5 ≠ g3; omega) (wv3 u)).far (p := ⟨g3, k8, none⟩) (by show g5 ≠ g3; omega) (wv3 v)
      have hs4 := bput (bput N4.out (p := ⟨g3, k, none⟩) (by have := l0.out; simp; omega) (wv3 u)) (p := ⟨g3, k8, none⟩) (by have := l0.out; simp; omega) (wv3 v)
      have hg53 : g5 ≠ g3 := by omega
      have HS1 := Lib.hid hs1; have HS2 := Lib.hid hs2; have HS3 := Lib.hid hs3; have HS4 := Lib.hid hs4; have HS5 := Lib.hid hs5
      clear hput hs1 hs2 hs3 hs4 hs5 hl16 hHk hIk hu hv hk8 N1 N2 N3 N4 N5
      go_wp2_with fail
      go_roundw
      case rel => exact ⟨k + 1, by omega, by go_num, HS1.out, HS2.out, HS3.out, HS5.out, HS4.out⟩
      case measure => simp [intOf]; omega
    · obtain rfl : k = 8 := by omega
      clear hlt hk
      have hN3 := N3.out
      rw [halves3_all H I HH.out IVl.out] at hN3
      obtain ⟨i4, hi4⟩ : ∃ i, i = (0x510e527f : UInt32) := ⟨_, rfl⟩
      obtain ⟨i5, hi5⟩ : ∃ i, i = (0x9b05688c : UInt32) := ⟨_, rfl⟩
      obtain ⟨i6, hi6⟩ : ∃ i, i = (0x1f83d9ab : UInt32) := ⟨_, rfl⟩
      obtain ⟨i7, hi7⟩ : ∃ i, i = (0x5be0cd19 : UInt32) := ⟨_, rfl⟩
      have hI := hIV.out
      have hGG := hG.out
      rw [← hi4, ← hi5, ← hi6, ← hi7] at hI
      rw [← hi4, ← hi5, ← hi6, ← hi7] at hGG
      clear hIV hG hi4 hi5 hi6 hi7 hiv
      obtain ⟨V, hV⟩ : ∃ V, V = H ++ I := ⟨_, rfl⟩
      rw [← hV] at hN3 hGG
      have hVl : V.length = 16 := by rw [hV, List.length_append, HH.out, IVl.out]
      have c12 : wr.cell? ⟨g3, 12, none⟩ = some (.int .u32 (wr3 i4)) := by rw [hN3.cell, wc3_at' V 12 i4 (by rw [hV, List.getElem?_append_right (by rw [HH.out]; omega), HH.out, hI]; rfl)]
      have c13 : wr.cell? ⟨g3, 13, none⟩ = some (.int .u32 (wr3 i5)) := by rw [hN3.cell, wc3_at' V 13 i5 (by rw [hV, List.getElem?_append_right (by rw [HH.out]; omega), HH.out, hI]; rfl)]
      have c14 : wr.cell? ⟨g3, 14, none⟩ = some (.int .u32 (wr3 i6)) := by rw [hN3.cell, wc3_at' V 14 i6 (by rw [hV, List.getElem?_append_right (by rw [HH.out]; omega), HH.out, hI]; rfl)]
      have c15 : wr.cell? ⟨g3, 15, none⟩ = some (.int .u32 (wr3 i7)) := by rw [hN3.cell, wc3_at' V 15 i7 (by rw [hV, List.getElem?_append_right (by rw [HH.out]; omega), HH.out, hI]; rfl)]
      have ff : ∀ i, wr.frozen? ⟨g3, i, none⟩ = false := hN3.frozen
      have h2 := wr3_xor
      have HV := Lib.hid hVl; have HGG := Lib.hid hGG; clear hV hVl hI hGG IVl sI aI hoI
      have h3 := wr3_not'
      have z12 := hN3.set_ 12 (wv3 (i4 ^^^ lo))
      rw [wc3_set] at z12
      have z13 := z12.set_ 13 (wv3 (i5 ^^^ hi))
      rw [wc3_set] at z13
      have z14 := z13.set_ 14 (wv3 (~~~ i6))
      rw [wc3_set] at z14
      have z15 := z13.set_ 15 (wv3 (~~~ i7))
      rw [wc3_set] at z15
      have z16 := z14.set_ 15 (wv3 (~~~ i7))
      rw [wc3_set] at z16
      have Z13 := Lib.hid z13; have Z14 := Lib.hid z14; have Z15 := Lib.hid z15; have Z16 := Lib.hid z16; clear z12 z13 z14 z15 z16
      have hlr : Hid (w.heap.size ≤ g3) := by show _ ≤ _; have := l0.out; omega
      have hw13 := bput (bput N4.out (p := ⟨g3, 12, none⟩) hlr.out (wv3 (i4 ^^^ lo))) (p := ⟨g3, 13, none⟩) hlr.out (wv3 (i5 ^^^ hi))
      have hl2 : Hid (w.heap.size ≤ g2) := by show _ ≤ _; have := l0.out; omega
      have y2 := (N2.out.far (p := ⟨g3, 12, none⟩) (by simp; omega) (wv3 (i4 ^^^ lo))).far (p := ⟨g3, 13, none⟩) (by simp; omega) (wv3 (i5 ^^^ hi))
      have Y2 := Lib.hid y2; have HW := Lib.hid hw13; have hg23 : g2 ≠ g3 := by omega
      clear y2 hw13 N1 N2 N3 N4 N5 hN3
      have hu := Lib.hid Tryz.underlying257
      have hsz : Hid (∀ L : List UInt32, L.length = 16 → (Tryz.prog.info? 257).map (·.size) = some (wc3 L).size) := sz16s
      have hall := Lib.hid wc3_all
      have hold : Hid (∀ L : List UInt32, L.length = 16 → (wc3 (zw3 16)).size = (wc3 L).size) := fun L h => by rw [wc3_size, wc3_size, h]; rfl
      cases last <;> cases node
      · have hg := HGG.out
        simp only [Bool.false_eq_true, if_false] at hg
        have HG2 := Lib.hid hg; clear hg
        have hl : Hid (G.length = 16) := by show _ = _; rw [HG2.out]; simp [HV.out]
        have hz : Hid (Blk ((wr.setCell ⟨g3, 12, none⟩ (.int .u32 (wr3 (i4 ^^^ lo)))).setCell ⟨g3, 13, none⟩ (.int .u32 (wr3 (i5 ^^^ hi)))) g3 257 (wc3 G)) := by show Blk _ _ _ _; rw [HG2.out]; exact Z13.out
        have hy : Hid (Blk ((wr.setCell ⟨g3, 12, none⟩ (.int .u32 (wr3 (i4 ^^^ lo)))).setCell ⟨g3, 13, none⟩ (.int .u32 (wr3 (i5 ^^^ hi)))) g2 257 (wc3 (zw3 16))) := Y2.out
        have hx : Hid (Below w.heap.size w ((wr.setCell ⟨g3, 12, none⟩ (.int .u32 (wr3 (i4 ^^^ lo)))).setCell ⟨g3, 13, none⟩ (.int .u32 (wr3 (i5 ^^^ hi))))) := HW.out
        go_upto_region 14 with fail
        go_wp2_with (first
          | (refine wpList_load_row rfl 257 _ rfl g3 rfl 257 (wc3 G) (0, 0) _ hz.out hu.out rfl (hsz.out G hl.out) ?_)
          | (refine wpList_store_row rfl 257 _ _ rfl g2 (wc3 G) rfl rfl 257 _ hy.out (hsz.out G hl.out) (hold.out G hl.out) (hall.out G) ?_))
        exact bodyPost_ret (results_cell_row rfl _ _ g2 _ _ (0, 0) _ rfl (hy.out.row _) hu.out rfl (hsz.out G hl.out)) rfl ⟨rfl, brow hx.out hl2.out _⟩
      · have hg := HGG.out
        simp only [Bool.false_eq_true, if_false, if_true] at hg
        have HG2 := Lib.hid hg; clear hg
        have hl : Hid (G.length = 16) := by show _ = _; rw [HG2.out]; simp [HV.out]
        have hz : Hid (Blk (((wr.setCell ⟨g3, 12, none⟩ (.int .u32 (wr3 (i4 ^^^ lo)))).setCell ⟨g3, 13, none⟩ (.int .u32 (wr3 (i5 ^^^ hi)))).setCell ⟨g3, 15, none⟩ (.int .u32 (wr3 (~~~ i7)))) g3 257 (wc3 G)) := by show Blk _ _ _ _; rw [HG2.out]; exact Z15.out
        have hy : Hid (Blk (((wr.setCell ⟨g3, 12, none⟩ (.int .u32 (wr3 (i4 ^^^ lo)))).setCell ⟨g3, 13, none⟩ (.int .u32 (wr3 (i5 ^^^ hi)))).setCell ⟨g3, 15, none⟩ (.int .u32 (wr3 (~~~ i7)))) g2 257 (wc3 (zw3 16))) := (Y2.out).far (p := ⟨g3, 15, none⟩) (by simp; omega) _
        have hx : Hid (Below w.heap.size w (((wr.setCell ⟨g3, 12, none⟩ (.int .u32 (wr3 (i4 ^^^ lo)))).setCell ⟨g3, 13, none⟩ (.int .u32 (wr3 (i5 ^^^ hi)))).setCell ⟨g3, 15, none⟩ (.int .u32 (wr3 (~~~ i7))))) := bput (HW.out) (p := ⟨g3, 15, none⟩) hlr.out _
        go_upto_region 14 with fail
        go_wp2_with (first
          | (refine wpList_load_row rfl 257 _ rfl g3 rfl 257 (wc3 G) (0, 0) _ hz.out hu.out rfl (hsz.out G hl.out) ?_)
          | (refine wpList_store_row rfl 257 _ _ rfl g2 (wc3 G) rfl rfl 257 _ hy.out (hsz.out G hl.out) (hold.out G hl.out) (hall.out G) ?_))
        exact bodyPost_ret (results_cell_row rfl _ _ g2 _ _ (0, 0) _ rfl (hy.out.row _) hu.out rfl (hsz.out G hl.out)) rfl ⟨rfl, brow hx.out hl2.out _⟩
      · have hg := HGG.out
        simp only [Bool.false_eq_true, if_false, if_true] at hg
        have HG2 := Lib.hid hg; clear hg
        have hl : Hid (G.length = 16) := by show _ = _; rw [HG2.out]; simp [HV.out]
        have hz : Hid (Blk (((wr.setCell ⟨g3, 12, none⟩ (.int .u32 (wr3 (i4 ^^^ lo)))).setCell ⟨g3, 13, none⟩ (.int .u32 (wr3 (i5 ^^^ hi)))).setCell ⟨g3, 14, none⟩ (.int .u32 (wr3 (~~~ i6)))) g3 257 (wc3 G)) := by show Blk _ _ _ _; rw [HG2.out]; exact Z14.out
        have hy : Hid (Blk (((wr.setCell ⟨g3, 12, none⟩ (.int .u32 (wr3 (i4 ^^^ lo)))).setCell ⟨g3, 13, none⟩ (.int .u32 (wr3 (i5 ^^^ hi)))).setCell ⟨g3, 14, none⟩ (.int .u32 (wr3 (~~~ i6)))) g2 257 (wc3 (zw3 16))) := (Y2.out).far (p := ⟨g3, 14, none⟩) (by simp; omega) _
        have hx : Hid (Below w.heap.size w (((wr.setCell ⟨g3, 12, none⟩ (.int .u32 (wr3 (i4 ^^^ lo)))).setCell ⟨g3, 13, none⟩ (.int .u32 (wr3 (i5 ^^^ hi)))).setCell ⟨g3, 14, none⟩ (.int .u32 (wr3 (~~~ i6))))) := bput (HW.out) (p := ⟨g3, 14, none⟩) hlr.out _
        go_upto_region 14 with fail
        go_wp2_with (first
          | (refine wpList_load_row rfl 257 _ rfl g3 rfl 257 (wc3 G) (0, 0) _ hz.out hu.out rfl (hsz.out G hl.out) ?_)
          | (refine wpList_store_row rfl 257 _ _ rfl g2 (wc3 G) rfl rfl 257 _ hy.out (hsz.out G hl.out) (hold.out G hl.out) (hall.out G) ?_))
        exact bodyPost_ret (results_cell_row rfl _ _ g2 _ _ (0, 0) _ rfl (hy.out.row _) hu.out rfl (hsz.out G hl.out)) rfl ⟨rfl, brow hx.out hl2.out _⟩
      · have hg := HGG.out
        simp only [if_true] at hg
        have HG2 := Lib.hid hg; clear hg
        have hl : Hid (G.length = 16) := by show _ = _; rw [HG2.out]; simp [HV.out]
        have hz : Hid (Blk ((((wr.setCell ⟨g3, 12, none⟩ (.int .u32 (wr3 (i4 ^^^ lo)))).setCell ⟨g3, 13, none⟩ (.int .u32 (wr3 (i5 ^^^ hi)))).setCell ⟨g3, 14, none⟩ (.int .u32 (wr3 (~~~ i6)))).setCell ⟨g3, 15, none⟩ (.int .u32 (wr3 (~~~ i7)))) g3 257 (wc3 G)) := by show Blk _ _ _ _; rw [HG2.out]; exact Z16.out
        have hy : Hid (Blk ((((wr.setCell ⟨g3, 12, none⟩ (.int .u32 (wr3 (i4 ^^^ lo)))).setCell ⟨g3, 13, none⟩ (.int .u32 (wr3 (i5 ^^^ hi)))).setCell ⟨g3, 14, none⟩ (.int .u32 (wr3 (~~~ i6)))).setCell ⟨g3, 15, none⟩ (.int .u32 (wr3 (~~~ i7)))) g2 257 (wc3 (zw3 16))) := ((Y2.out).far (p := ⟨g3, 14, none⟩) (by simp; omega) _).far (p := ⟨g3, 15, none⟩) (by simp; omega) _
        have hx : Hid (Below w.heap.size w ((((wr.setCell ⟨g3, 12, none⟩ (.int .u32 (wr3 (i4 ^^^ lo)))).setCell ⟨g3, 13, none⟩ (.int .u32 (wr3 (i5 ^^^ hi)))).setCell ⟨g3, 14, none⟩ (.int .u32 (wr3 (~~~ i6)))).setCell ⟨g3, 15, none⟩ (.int .u32 (wr3 (~~~ i7))))) := bput (bput (HW.out) (p := ⟨g3, 14, none⟩) hlr.out _) (p := ⟨g3, 15, none⟩) hlr.out _
        go_upto_region 14 with fail
        go_wp2_with (first
          | (refine wpList_load_row rfl 257 _ rfl g3 rfl 257 (wc3 G) (0, 0) _ hz.out hu.out rfl (hsz.out G hl.out) ?_)
          | (refine wpList_store_row rfl 257 _ _ rfl g2 (wc3 G) rfl rfl 257 _ hy.out (hsz.out G hl.out) (hold.out G hl.out) (hall.out G) ?_))
        exact bodyPost_ret (results_cell_row rfl _ _ g2 _ _ (0, 0) _ rfl (hy.out.row _) hu.out rfl (hsz.out G hl.out)) rfl ⟨rfl, brow hx.out hl2.out _⟩
set_option maxRecDepth 20000 in
set_option maxHeartbeats 4000000 in
theorem r4End_any (H R : List UInt32) (w : World) (hH : H.length = 8) (hR : R.length = 16) :
    Calls Tryz.prog 221 #[.agg (wc3 H), .agg (wc3 R)] w fun e w' => e = .returned (.agg (wc3 (outOf3 H R))) ∧ Below w.heap.size w w' := by
  obtain ⟨F, hF⟩ : ∃ F, F = outOf3 H R := ⟨_, rfl⟩
  have hFl : F.length = 8 := by rw [hF, outOf3_len]
  rw [← hF]
  have HH := Lib.hid hH; have HRl := Lib.hid hR; have HFl := Lib.hid hFl; have HF := Lib.hid hF; clear hH hR hFl hF
  have hu8 := Lib.hid Tryz.underlying256
  have sF := Lib.hid (sz8s F HFl.out)
  have aF := Lib.hid (wc3_all F)
  have hoF : Hid ((wc3 (zw3 8)).size = (wc3 F).size) := by show _ = _; rw [wc3_size, wc3_size, HFl.out]; rfl
  go_enter Tryz.func221, Tryz.ntmps221
  go_upto_region 1 with fail
  have n0 : Blk (((w.alloc (.cells (wc3 H) 256)).alloc (.cells (wc3 R) 257)).alloc (.cells z8s 256)) w.heap.size 256 (wc3 H) := ((Blk.new _ _ _).alloc _).alloc _
  have n6 : Blk (((w.alloc (.cells (wc3 H) 256)).alloc (.cells (wc3 R) 257)).alloc (.cells z8s 256)) (w.heap.size + 1) 257 (wc3 R) := by
    have := (Blk.new (w.alloc (.cells (wc3 H) 256)) 257 (wc3 R)).alloc (.cells z8s 256); simpa using this
  have n3 : Blk (((w.alloc (.cells (wc3 H) 256)).alloc (.cells (wc3 R) 257)).alloc (.cells z8s 256)) (w.heap.size + 1 + 1) 256 (wc3 (zw3 8)) := by
    have := Blk.new ((w.alloc (.cells (wc3 H) 256)).alloc (.cells (wc3 R) 257)) 256 z8s; show Blk _ _ _ z8s; simpa using this
  have n4 := bal (bal (bal (b0 w) (.cells (wc3 H) 256)) (.cells (wc3 R) 257)) (.cells z8s 256)
  obtain ⟨g0, hg0⟩ : ∃ g, g = w.heap.size := ⟨_, rfl⟩
  obtain ⟨g6, hg6⟩ : ∃ g, g = w.heap.size + 1 := ⟨_, rfl⟩
  obtain ⟨g3, hg3⟩ : ∃ g, g = w.heap.size + 1 + 1 := ⟨_, rfl⟩
  unfold z8s at n0 n6 n3 n4
  rw [← hg0] at n0; rw [← hg6] at n6; rw [← hg3] at n3
  rw [← hg3, ← hg6, ← hg0]
  generalize ((w.alloc (.cells (wc3 H) 256)).alloc (.cells (wc3 R) 257)).alloc (.cells #[.int .u32 0, .int .u32 0, .int .u32 0, .int .u32 0, .int .u32 0, .int .u32 0, .int .u32 0, .int .u32 0] 256) = w4 at *
  have l06 : g0 < g6 := by omega
  have l63 : g6 < g3 := by omega
  have l0 : Hid (w.heap.size ≤ g0) := by show _ ≤ _; omega
  have N0 := Lib.hid n0; have N6 := Lib.hid n6; have N3 := Lib.hid n3; have N4 := Lib.hid n4
  clear n0 n6 n3 n4 hg0 hg6 hg3
  go_wp2_with fail
  go_loopw [5] (fun i wr => ∃ k : Nat, k ≤ 8 ∧ i = .int .i64 k ∧ Blk wr g0 256 (wc3 (half3 F H k)) ∧ Blk wr g6 257 (wc3 R) ∧ Blk wr g3 256 (wc3 (zw3 8)) ∧ Below w.heap.size w wr) (fun i _ => 8 - (intOf i).toNat)
  case atStart => exact ⟨0, by omega, rfl, by simpa [half3] using N0.out, N6.out, N3.out, N4.out⟩
  case round =>
    clear N0 N3 N4 N6
    obtain ⟨k, hk, rfl, x0, x6, x3, x4⟩ := hrel
    have N0 := Lib.hid x0; have N3 := Lib.hid x3; have N4 := Lib.hid x4; have N6 := Lib.hid x6; clear x0 x3 x4 x6
    by_cases hlt : k < 8
    · have eF := outOf3_at H R k hlt
      rw [← HF.out, ← UInt32.xor_assoc] at eF
      obtain ⟨k8, hk8⟩ : ∃ k8, k8 = k + 8 := ⟨_, rfl⟩
      rw [← hk8] at eF
      have e8 : (k : Int) + 8 = (k8 : Int) := by omega
      have w8' : IntKind.i64.wrap (k8 : Int) = k8 := by simp [IntKind.wrap, IntKind.bits, IntKind.signed]; omega
      obtain ⟨p, hp⟩ : ∃ p, p = H.getD k 0 := ⟨_, rfl⟩
      obtain ⟨q, hq⟩ : ∃ q, q = R.getD k 0 := ⟨_, rfl⟩
      obtain ⟨r, hr⟩ : ∃ r, r = R.getD k8 0 := ⟨_, rfl⟩
      have c0 : wr.cell? ⟨g0, k, none⟩ = some (.int .u32 (wr3 p)) := by rw [N0.out.cell, wc3_at' _ k p (by rw [hp]; exact half3_at F H k (by rw [HH.out]; exact hlt) (by rw [HH.out, HFl.out]))]
      have c1 : wr.cell? ⟨g6, k, none⟩ = some (.int .u32 (wr3 q)) := by rw [N6.out.cell, wc3_at' _ k q (by rw [hq]; exact getD3 R k (by rw [HRl.out]; omega))]
      have c2 : wr.cell? ⟨g6, k8, none⟩ = some (.int .u32 (wr3 r)) := by rw [N6.out.cell, wc3_at' _ k8 r (by rw [hr]; exact getD3 R k8 (by rw [HRl.out]; omega))]
      have cf : wr.frozen? ⟨g0, k, none⟩ = false := N0.out.frozen k
      rw [← hp, ← hq, ← hr] at eF
      have EF := Lib.hid eF; clear eF hp hq hr
      have h2 := wr3_xor
      have hki : (k : Int) < 8 := by omega
      have hk8i : (k8 : Int) < 16 := by omega
      have hk16 : (k : Int) < 16 := by omega
      have hkd : decide ((k : Int) < 8) = true := by simp; omega
      clear hk8
      go_wp2
      refine wp_region_ords (fun _ => True) (fun _ _ h => h) (Ords.of [(0, 0), (0, 1), (0, 2), (1, 3), (0, 4), (0, 5), (1, 6), (0, 7), (0, 8), (0, 9), (0, 10), (1, 11), (0, 12), (0, 13), (2, 14)] .fin) (by kernel_rfl) rfl (by kernel_rfl) (by kernel_rfl) (fun c a d v w h => by cases d <;> exact h) trivial ?_
      refine ords_pure rfl (fun K hK => ?_); go_simp; refine hK _ ?_; clear hK K
      refine ords_pure rfl (fun K hK => ?_); go_simp; refine hK _ ?_; clear hK K
      refine ords_pure rfl (fun K hK => ?_); go_simp; refine hK _ ?_; clear hK K
      refine ords_read rfl (fun K hK => ?_); go_simp; refine hK _ ?_; clear hK K
      refine ords_pure rfl (fun K hK => ?_); go_simp; refine hK _ ?_; clear hK K
      refine ords_pure rfl (fun K hK => ?_); go_simp; refine hK _ ?_; clear hK K
      refine ords_read rfl (fun K hK => ?_); go_simp; refine hK _ ?_; clear hK K
      refine ords_pure rfl (fun K hK => ?_); go_simp; refine hK _ ?_; clear hK K
      refine ords_pure rfl (fun K hK => ?_); go_simp; refine hK _ ?_; clear hK K
      refine ords_pure rfl (fun K hK => ?_); go_simp; refine hK _ ?_; clear hK K
      refine ords_pure rfl (fun K hK => ?_); go_simp; refine hK _ ?_; clear hK K
      refine ords_read rfl (fun K hK => ?_); go_simp; refine hK _ ?_; clear hK K
      refine ords_pure rfl (fun K hK => ?_); go_simp; refine hK _ ?_; clear hK K
      refine ords_pure rfl (fun K hK => ?_); go_simp; refine hK _ ?_; clear hK K
      refine ords_loud rfl (fun n1 => ?_)
      go_wp2
      first | (refine ⟨trivial, ?_⟩; refine ords_end (fun n2 => ?_)) | (rintro _ ⟨n2, rfl⟩)
      go_wp2_with fail
      go_roundw
      case rel =>
        have h0 := ((N0.out.drewN n1).set_ k (wv3 (p ^^^ q ^^^ r))).drewN n2
        rw [wc3_set, half3_put F H k _ EF.out (by rw [HH.out, HFl.out])] at h0
        exact ⟨k + 1, by omega, by go_num, h0, ((N6.out.drewN n1).far (p := ⟨g0, k, none⟩) (by simp; omega) _).drewN n2, ((N3.out.drewN n1).far (p := ⟨g0, k, none⟩) (by simp; omega) _).drewN n2, bdr (bput (bdr N4.out n1) (p := ⟨g0, k, none⟩) l0.out _) n2⟩
      case measure => simp [intOf]; omega
    · obtain rfl : k = 8 := by omega
      clear hlt hk
      have x0 := N0.out
      rw [half3_all F H 8 HFl.out HH.out] at x0
      have X0 := Lib.hid x0; clear x0 N0
      have hl3 : Hid (w.heap.size ≤ g3) := by show _ ≤ _; have := l0.out; omega
      go_upto_region 5 with fail
      go_wp2_with (first
        | (refine wpList_load_row rfl 256 _ rfl g0 rfl 256 (wc3 F) (0, 0) _ X0.out hu8.out rfl sF.out ?_)
        | (refine wpList_store_row rfl 256 _ _ rfl g3 (wc3 F) rfl rfl 256 _ N3.out sF.out hoF.out aF.out ?_))
      exact bodyPost_ret (results_cell_row rfl _ _ g3 _ _ (0, 0) _ rfl (N3.out.row _) hu8.out rfl sF.out) rfl ⟨rfl, brow N4.out hl3.out _⟩
set_option maxRecDepth 20000 in
set_option maxHeartbeats 4000000 in
theorem r4F_any (H M : List UInt32) (cnt : UInt64) (last node : Bool) (w : World) (hH : H.length = 8) (hM : M.length = 16) :
    Calls Tryz.prog 188 #[.agg (wc3 H), .agg (wc3 M), .int .u64 (wrd cnt), .bool last, .bool node] w fun e w' => e = .returned (.agg (wc3 (comp32 H M cnt last node))) ∧ Below w.heap.size w w' := by
  have HH := Lib.hid hH; have HM := Lib.hid hM
  have hIl := initOf3_len H (lo32 cnt) (hi32 cnt) last node hH
  have hI := fun w => r4Begin_any H cnt last node w hH
  unfold comp32
  generalize initOf3 H (lo32 cnt) (hi32 cnt) last node = V at *
  have HI := Lib.hid hI; have HVl := Lib.hid hIl; clear hI hIl hH hM
  have hu8 := Lib.hid Tryz.underlying256
  have hu16 := Lib.hid Tryz.underlying257
  have s8 := Lib.hid (sz8s H HH.out)
  have sM := Lib.hid (sz16s M HM.out)
  have sV := Lib.hid (sz16s V HVl.out)
  have aV := Lib.hid (wc3_all V)
  have holdV : Hid ((wc3 (zw3 16)).size = (wc3 V).size) := by show _ = _; rw [wc3_size, wc3_size, HVl.out]; rfl
  go_enter Tryz.func188, Tryz.ntmps188
  go_upto_region 1 with fail
  have n0 : Blk (((w.alloc (.cells (wc3 H) 256)).alloc (.cells (wc3 M) 257)).alloc (.cells z8s 256)) w.heap.size 256 (wc3 H) := ((Blk.new _ _ _).alloc _).alloc _
  have n1 : Blk (((w.alloc (.cells (wc3 H) 256)).alloc (.cells (wc3 M) 257)).alloc (.cells z8s 256)) (w.heap.size + 1) 257 (wc3 M) := by
    have := (Blk.new (w.alloc (.cells (wc3 H) 256)) 257 (wc3 M)).alloc (.cells z8s 256); simpa using this
  have n3 : Blk (((w.alloc (.cells (wc3 H) 256)).alloc (.cells (wc3 M) 257)).alloc (.cells z8s 256)) (w.heap.size + 1 + 1) 256 (wc3 (zw3 8)) := by
    have := Blk.new ((w.alloc (.cells (wc3 H) 256)).alloc (.cells (wc3 M) 257)) 256 z8s; show Blk _ _ _ z8s; simpa using this
  have n4 := bal (bal (bal (b0 w) (.cells (wc3 H) 256)) (.cells (wc3 M) 257)) (.cells z8s 256)
  obtain ⟨g0, hg0⟩ : ∃ g, g = w.heap.size := ⟨_, rfl⟩
  obtain ⟨g1, hg1⟩ : ∃ g, g = w.heap.size + 1 := ⟨_, rfl⟩
  obtain ⟨g3, hg3⟩ : ∃ g, g = w.heap.size + 1 + 1 := ⟨_, rfl⟩
  unfold z8s at n0 n1 n3 n4
  rw [← hg0] at n0; rw [← hg1] at n1; rw [← hg3] at n3
  rw [← hg3, ← hg1, ← hg0]
  generalize ((w.alloc (.cells (wc3 H) 256)).alloc (.cells (wc3 M) 257)).alloc (.cells #[.int .u32 0, .int .u32 0, .int .u32 0, .int .u32 0, .int .u32 0, .int .u32 0, .int .u32 0, .int .u32 0] 256) = w4 at *
  have l01 : g0 < g1 := by omega
  have l13 : g1 < g3 := by omega
  have l0 : Hid (w.heap.size ≤ g0) := by show _ ≤ _; omega
  have N0 := Lib.hid n0; have N1 := Lib.hid n1; have N3 := Lib.hid n3; have N4 := Lib.hid n4
  clear n0 n1 n3 n4 hg0 hg1 hg3
  go_wp2_with (refine wpList_load_row rfl 256 _ rfl g0 rfl 256 (wc3 H) (0, 0) _ N0.out hu8.out rfl s8.out ?_)
  refine (HI.out _).mono ?_
  rintro e w6 ⟨rfl, hb6⟩
  replace N0 := Lib.hid (N0.out.below hb6 N0.out.lt); replace N1 := Lib.hid (N1.out.below hb6 N1.out.lt); replace N3 := Lib.hid (N3.out.below hb6 N3.out.lt); replace N4 := Lib.hid (bcall N4.out hb6)
  have l36 : g3 < w6.heap.size := N3.out.lt
  clear hb6
  have n6 : Blk (w6.alloc (.cells z16s 257)) w6.heap.size 257 (wc3 (zw3 16)) := Blk.new _ _ _
  have v0 := N0.out.alloc (.cells z16s 257); have v1 := N1.out.alloc (.cells z16s 257); have v3 := N3.out.alloc (.cells z16s 257); have v4 := bal N4.out (.cells z16s 257)
  have l6 := N4.out.size
  obtain ⟨g6, hg6⟩ : ∃ g6, g6 = w6.heap.size := ⟨_, rfl⟩
  unfold z16s at n6 v0 v1 v3 v4
  have N6 := Lib.hid n6; have hw6 : Hid (w.heap.size ≤ w6.heap.size) := l6; clear n6 l6
  go_upto_region 2 with (refine wpList_store_row rfl 257 _ _ rfl w6.heap.size (wc3 V) rfl rfl 257 _ N6.out sV.out holdV.out aV.out ?_)
  have n6 := N6.out.row (wc3 V)
  replace v0 := v0.rowFar (k := w6.heap.size) (by omega) (wc3 V); replace v1 := v1.rowFar (k := w6.heap.size) (by omega) (wc3 V); replace v3 := v3.rowFar (k := w6.heap.size) (by omega) (wc3 V); replace v4 := brow v4 hw6.out (wc3 V)
  rw [← hg6] at n6 v0 v1 v3 v4 l36 ⊢
  clear N0 N1 N3 N4 N6 sV holdV aV
  generalize (w6.alloc (.cells #[.int .u32 0, .int .u32 0, .int .u32 0, .int .u32 0, .int .u32 0, .int .u32 0, .int .u32 0, .int .u32 0, .int .u32 0, .int .u32 0, .int .u32 0, .int .u32 0, .int .u32 0, .int .u32 0, .int .u32 0, .int .u32 0] 257)).setRow g6 (wc3 V) = w7 at *
  have hl6 : Hid (w.heap.size ≤ g6) := by show _ ≤ _; rw [hg6]; exact hw6.out
  clear hg6 hw6
  have N0 := Lib.hid v0; have N1 := Lib.hid v1; have N3 := Lib.hid v3; have N4 := Lib.hid v4; have N6 := Lib.hid n6; clear v0 v1 v3 v4 n6
  go_wp2_with fail
  go_loopw [12] (fun i wr => ∃ k : Nat, k ≤ 10 ∧ i = .int .i64 k ∧ Blk wr g6 257 (wc3 (roundsTo3 M k V)) ∧ Blk wr g0 256 (wc3 H) ∧ Blk wr g1 257 (wc3 M) ∧ Blk wr g3 256 (wc3 (zw3 8)) ∧ Below w.heap.size w wr) (fun i _ => 10 - (intOf i).toNat)
  case atStart => exact ⟨0, by omega, rfl, N6.out, N0.out, N1.out, N3.out, N4.out⟩
  case round =>
    clear N0 N1 N3 N4 N6
    obtain ⟨k, hk, rfl, x6, x0, x1, x3, x4⟩ := hrel
    have N0 := Lib.hid x0; have N1 := Lib.hid x1; have N3 := Lib.hid x3; have N4 := Lib.hid x4; have N6 := Lib.hid x6; clear x0 x1 x3 x4 x6
    by_cases hlt : k < 10
    · have hRl : (roundsTo3 M k V).length = 16 := by rw [roundsTo3_len, HVl.out]
      have hRl1 : (roundsTo3 M (k + 1) V).length = 16 := by rw [roundsTo3_len, HVl.out]
      have hR := fun W => r4Round_any k (roundsTo3 M k V) M W hlt hRl HM.out
      have e : turn32 M k (roundsTo3 M k V) = roundsTo3 M (k + 1) V := rfl
      rw [e] at hR
      have HR := Lib.hid hR
      have sR := Lib.hid (sz16s _ hRl)
      have sS := Lib.hid (sz16s _ hRl1)
      have aS := Lib.hid (wc3_all (roundsTo3 M (k + 1) V))
      have hoS : Hid ((wc3 (roundsTo3 M k V)).size = (wc3 (roundsTo3 M (k + 1) V)).size) := by show _ = _; rw [wc3_size, wc3_size, hRl, hRl1]
      clear hR hRl hRl1 e
      have hkd : decide ((k : Int) < 10) = true := by simp; omega
      go_wp2_with (first
        | (refine wpList_load_row rfl 257 (.tmp 11) rfl g6 rfl 257 (wc3 (roundsTo3 M k V)) (0, 0) _ N6.out hu16.out rfl sR.out ?_)
        | (refine wpList_load_row rfl 257 (.tmp 6) rfl g1 rfl 257 (wc3 M) (0, 0) _ N1.out hu16.out rfl sM.out ?_)
        | (go_at_call 220; refine (HR.out _).mono ?_; rintro e w8 ⟨rfl, hb8⟩; have M6 := Lib.hid (N6.out.below hb8 N6.out.lt); have HB8 := Lib.hid hb8; clear hb8)
        | (refine wpList_store_row rfl 257 _ _ rfl g6 (wc3 (roundsTo3 M (k + 1) V)) rfl rfl 257 _ M6.out sS.out hoS.out aS.out ?_))
      go_roundw
      case rel => exact ⟨k + 1, by omega, by go_num, M6.out.row _, (N0.out.below HB8.out N0.out.lt).rowFar (by omega) _, (N1.out.below HB8.out N1.out.lt).rowFar (by omega) _, (N3.out.below HB8.out N3.out.lt).rowFar (by omega) _, brow (bcall N4.out HB8.out) hl6.out _⟩
      case measure => simp [intOf]; omega
    · obtain rfl : k = 10 := by omega
      clear hlt hk
      have hRl : (roundsTo3 M 10 V).length = 16 := by rw [roundsTo3_len, HVl.out]
      have hE := fun W => r4End_any H (roundsTo3 M 10 V) W HH.out hRl
      have hFl := outOf3_len H (roundsTo3 M 10 V)
      have sR := Lib.hid (sz16s _ hRl)
      obtain ⟨F, hF⟩ : ∃ F, F = outOf3 H (roundsTo3 M 10 V) := ⟨_, rfl⟩
      rw [← hF] at hE hFl
      have HE := Lib.hid hE; have HF := Lib.hid hF
      have sF := Lib.hid (sz8s F hFl)
      have aF := Lib.hid (wc3_all F)
      have hoF : Hid ((wc3 (zw3 8)).size = (wc3 F).size) := by show _ = _; rw [wc3_size, wc3_size, hFl]; rfl
      have hl3 : Hid (w.heap.size ≤ g3) := by show _ ≤ _; have := l0.out; omega
      clear hE hFl hRl hF
      go_upto_region 6 with fail
      go_wp2_with (first
        | (refine wpList_load_row rfl 256 (.tmp 5) rfl g0 rfl 256 (wc3 H) (0, 0) _ N0.out hu8.out rfl s8.out ?_)
        | (refine wpList_load_row rfl 257 (.tmp 11) rfl g6 rfl 257 (wc3 (roundsTo3 M 10 V)) (0, 0) _ N6.out hu16.out rfl sR.out ?_)
        | (go_at_call 221; refine (HE.out _).mono ?_; rintro e w8 ⟨rfl, hb8⟩; have M3 := Lib.hid (N3.out.below hb8 N3.out.lt); have HB8 := Lib.hid hb8; clear hb8)
        | (refine wpList_store_row rfl 256 _ _ rfl g3 (wc3 F) rfl rfl 256 _ M3.out sF.out hoF.out aF.out ?_))
      rw [← HF.out]
      exact bodyPost_ret (results_cell_row rfl _ _ g3 _ _ (0, 0) _ rfl (M3.out.row _) hu8.out rfl sF.out) rfl ⟨rfl, brow (bcall N4.out HB8.out) hl3.out _⟩
end Go.Proofs.YtgephdbicbmpeaaGreat

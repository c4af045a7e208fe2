/-
  AdrAll: contracts and lemmas alone; no statement is claimed here.
-/
import Derived.Test.YtbghkdhkahkfnaaAr
/- A block of addresses, by the reference. Contracts alone; no statement is claimed here. -/
namespace Go.Proofs.Ytbghkdhkahkfnaa
open Go.RowKit
attribute [local go_sem] pureUpon Ords.of

def wints (l : List UInt64) : Array Value := (l.map fun x => Value.int .i64 (wrd x)).toArray
end Go.Proofs.Ytbghkdhkahkfnaa

/- Addresses, of the reference. Contracts alone; no statement is claimed here. -/
namespace Go.Proofs.Ytbghkdhkahkfnaa
open Go.RowKit
attribute [local go_sem] pureUpon Ords.of

structure AdrKnown (a : Ar) (p s l : Int) (x0 x1 x2 x3 x4 x5 : UInt64) : Prop where
  e0 : p = wrd x0
  e1 : l = wrd x1
  e2 : s = wrd x2
  e3 : IntKind.i64.wrap (a.lanes * (4 * a.seg)) = wrd x3
  e4 : a.passes = wrd x4
  e5 : a.kind = wrd x5
  list : ∀ n, adrL a p s l n = [x0, x1, x2, x3, x4, x5, UInt64.ofNat n]
theorem adr_known {a : Ar} (h : a.ok) {p s l : Int} (hb : ¬ adrBad a p s l) : ∃ x0 x1 x2 x3 x4 x5, AdrKnown a p s l x0 x1 x2 x3 x4 x5 := by
 obtain ⟨h1, h2, _⟩ := seg_range h
 unfold Ar.ok at h
 unfold adrBad at hb
 obtain ⟨k0, k2, l1, l8, m1, m2, p1, p16, _, _⟩ := h
 have hp : a.lanes * (4 * a.seg) ≤ 8 * (4 * a.seg) := Int.mul_le_mul_of_nonneg_right l8 (by omega)
 have hp0 : 0 ≤ a.lanes * (4 * a.seg) := Int.mul_nonneg (by omega) (by omega)
 refine ⟨uw p, uw l, uw s, uw (a.lanes * (4 * a.seg)), uw a.passes, uw a.kind, ?_, ?_, ?_, ?_, ?_, ?_, fun _ => rfl⟩
 ·rw [wrd_uw _ (by omega) (by omega)]
 ·rw [wrd_uw _ (by omega) (by omega)]
 ·rw [wrd_uw _ (by omega) (by omega)]
 ·rw [wrd_uw _ (by omega) (by omega)]
  generalize a.lanes * (4 * a.seg) = q at *
  simp only [IntKind.wrap, IntKind.bits, IntKind.signed]
  simp
  omega
 ·rw [wrd_uw _ (by omega) (by omega)]
 ·rw [wrd_uw _ (by omega) (by omega)]

end Go.Proofs.Ytbghkdhkahkfnaa

/- Addresses, of the program: the inner function. Contracts alone; no statement is claimed here. -/
namespace Go.Proofs.Ytbghkdhkahkfnaa
open Go.RowKit
attribute [local go_sem] pureUpon Ords.of

theorem index7_0 (x0 x1 x2 x3 x4 x5 x6 : UInt64) (w : World) : (Instr.index 101 (.agg (wints [x0, x1, x2, x3, x4, x5, x6])) (.int .i64 0)).run Try.prog w = .ok (.int .i64 (wrd x0)) w := by kernel_rfl
theorem index7_1 (x0 x1 x2 x3 x4 x5 x6 : UInt64) (w : World) : (Instr.index 101 (.agg (wints [x0, x1, x2, x3, x4, x5, x6])) (.int .i64 1)).run Try.prog w = .ok (.int .i64 (wrd x1)) w := by kernel_rfl
theorem index7_2 (x0 x1 x2 x3 x4 x5 x6 : UInt64) (w : World) : (Instr.index 101 (.agg (wints [x0, x1, x2, x3, x4, x5, x6])) (.int .i64 2)).run Try.prog w = .ok (.int .i64 (wrd x2)) w := by kernel_rfl
theorem index7_3 (x0 x1 x2 x3 x4 x5 x6 : UInt64) (w : World) : (Instr.index 101 (.agg (wints [x0, x1, x2, x3, x4, x5, x6])) (.int .i64 3)).run Try.prog w = .ok (.int .i64 (wrd x3)) w := by kernel_rfl
theorem index7_4 (x0 x1 x2 x3 x4 x5 x6 : UInt64) (w : World) : (Instr.index 101 (.agg (wints [x0, x1, x2, x3, x4, x5, x6])) (.int .i64 4)).run Try.prog w = .ok (.int .i64 (wrd x4)) w := by kernel_rfl
theorem index7_5 (x0 x1 x2 x3 x4 x5 x6 : UInt64) (w : World) : (Instr.index 101 (.agg (wints [x0, x1, x2, x3, x4, x5, x6])) (.int .i64 5)).run Try.prog w = .ok (.int .i64 (wrd x5)) w := by kernel_rfl
theorem index7_6 (x0 x1 x2 x3 x4 x5 x6 : UInt64) (w : World) : (Instr.index 101 (.agg (wints [x0, x1, x2, x3, x4, x5, x6])) (.int .i64 6)).run Try.prog w = .ok (.int .i64 (wrd x6)) w := by kernel_rfl
theorem index7 (L : List UInt64) (hL : L.length = 7) (k : Nat) (v : UInt64) (hv : L[k]? = some v) (w : World) :
  (Instr.index 101 (.agg (wints L)) (.int .i64 k)).run Try.prog w = .ok (.int .i64 (wrd v)) w := by
 match L, hL with
 | [x0, x1, x2, x3, x4, x5, x6], _ =>
  have hk : k < 7 := by have := (List.getElem?_eq_some_iff.1 hv).1; simpa using this
  have h : k = 0 ∨ k = 1 ∨ k = 2 ∨ k = 3 ∨ k = 4 ∨ k = 5 ∨ k = 6 := by omega
  rcases h with rfl | rfl | rfl | rfl | rfl | rfl | rfl
  ·simp at hv; rw [← hv]; exact index7_0 x0 x1 x2 x3 x4 x5 x6 w
  ·simp at hv; rw [← hv]; exact index7_1 x0 x1 x2 x3 x4 x5 x6 w
  ·simp at hv; rw [← hv]; exact index7_2 x0 x1 x2 x3 x4 x5 x6 w
  ·simp at hv; rw [← hv]; exact index7_3 x0 x1 x2 x3 x4 x5 x6 w
  ·simp at hv; rw [← hv]; exact index7_4 x0 x1 x2 x3 x4 x5 x6 w
  ·simp at hv; rw [← hv]; exact index7_5 x0 x1 x2 x3 x4 x5 x6 w
  ·simp at hv; rw [← hv]; exact index7_6 x0 x1 x2 x3 x4 x5 x6 w

set_option maxRecDepth 20000 in
set_option maxHeartbeats 8000000 in
theorem addressesP_in (a : Ar) (h : a.ok) (p s l : Int) (hb : ¬ adrBad a p s l) (w : World) :
  Calls Try.prog 36 #[a.v, .int .i64 p, .int .i64 s, .int .i64 l] w fun e w' => ∃ A c, e = .returned (.slice A a.seg.toNat c) ∧ OS cW w' w.heap.size A c (adrs a p s l) ∧ Below w.heap.size w w' := by
 obtain ⟨x0, x1, x2, x3, x4, x5, K⟩ := adr_known h hb
 obtain ⟨hg1, hg2, _⟩ := seg_range h
 have hsg := segment_any h
 have hco := columns_any h
 have hal := adrs_len a p s l
 have haat := adrs_at a p s l
 obtain ⟨gN, hgN⟩ : ∃ gN : Nat, gN = a.seg.toNat := ⟨_, rfl⟩
 have hgi : a.seg = (gN : Int) := by omega
 rw [← hgN] at hal haat ⊢
 have hgN2 : gN ≤ 1024 := by omega
 obtain ⟨R, hR⟩ : ∃ R, R = adrs a p s l := ⟨_, rfl⟩
 rw [← hR] at hal haat ⊢
 rw [hgi] at hco hsg
 have hLs := K.list
 have e3 := K.e3
 rw [hgi] at e3
 have HW : Hid (∀ x, adrW a p s l x = word (((adrB (adrL a p s l (x / 128 + 1))).drop (8 * (x % 128))).take 8)) := fun x => rfl
 generalize adrW a p s l = fW at *
 generalize adrL a p s l = fL at *
 have e0 := K.e0; have e1 := K.e1; have e2 := K.e2; have e4 := K.e4; have e5 := K.e5
 clear hR K h hgN hgi hg1 hg2 hb
 obtain ⟨k, m, pp, ll, t⟩ := a
 unfold Ar.v at *
 dsimp only at *
 subst e0; subst e1; subst e2; subst e4; subst e5
 have HC := Lib.hid hco; have HS := Lib.hid hsg; have HAL := Lib.hid hal; have HAT := Lib.hid haat; have HLS := Lib.hid hLs; clear hco hsg hal haat hLs
 have hmk : ∀ (W : World), (Instr.makeSlice 24 (.int .i64 1024) (.int .i64 1024)).run Try.prog W = .ok (.slice (some ⟨W.heap.size, 0, none⟩) 1024 1024) (W.alloc (.cells (madeCells #[cB.zero] 1024) 5)) := fun (W : World) => run_makeS cB_ok .i64 .i64 1024 1024 (Nat.le_refl _) (by show 1 * 1024 ≤ _; omega) (by omega) W
 have hmk0 : ∀ (W : World), (Instr.makeSlice 24 (.int .i64 0) (.int .i64 1024)).run Try.prog W = .ok (.slice (some ⟨W.heap.size, 0, none⟩) 0 1024) (W.alloc (.cells (madeCells #[cB.zero] 1024) 5)) := fun (W : World) => run_makeS cB_ok .i64 .i64 0 1024 (by omega) (by show 1 * 1024 ≤ _; omega) (by omega) W
 have HMK := Lib.hid hmk0; clear hmk0
 go_enter Try.func36, Try.ntmps36
 go_upto_region 2 with fail
 have d0 : Blk ((w.alloc (.cells #[.int .i64 (wrd x5), .int .i64 m, .int .i64 (wrd x4), .int .i64 ll, .int .i64 t] 23)).alloc (.cells (madeCells #[cB.zero] 1024) 5)) w.heap.size 23 #[.int .i64 (wrd x5), .int .i64 m, .int .i64 (wrd x4), .int .i64 ll, .int .i64 t] := (Blk.new _ _ _).alloc _
 have d1 := bal (bal (b0 w) (.cells #[.int .i64 (wrd x5), .int .i64 m, .int .i64 (wrd x4), .int .i64 ll, .int .i64 t] 23)) (.cells (madeCells #[cB.zero] 1024) 5)
 have d2 : RS cB ((w.alloc (.cells #[.int .i64 (wrd x5), .int .i64 m, .int .i64 (wrd x4), .int .i64 ll, .int .i64 t] 23)).alloc (.cells (madeCells #[cB.zero] 1024) 5)) ((w.alloc (.cells #[.int .i64 (wrd x5), .int .i64 m, .int .i64 (wrd x4), .int .i64 ll, .int .i64 t] 23)).alloc (.cells (madeCells #[cB.zero] 1024) 5)).heap.size (some ⟨w.heap.size + 1, 0, none⟩) zeroB := (OS.madeAt (cd := cB) (base := w.heap.size) (g := w.heap.size + 1) (w.alloc (.cells #[.int .i64 (wrd x5), .int .i64 m, .int .i64 (wrd x4), .int .i64 ll, .int .i64 t] 23)) 1024 1024 0 rfl (Nat.le_refl _) (by unfold maxLen; omega) (by simp) (by simp)).reads
 obtain ⟨g, hg⟩ : ∃ g, g = w.heap.size := ⟨_, rfl⟩
 rw [← hg] at d0 d2 ⊢
 generalize (w.alloc (.cells #[.int .i64 (wrd x5), .int .i64 m, .int .i64 (wrd x4), .int .i64 ll, .int .i64 t] 23)).alloc (.cells (madeCells #[cB.zero] 1024) 5) = w0 at *
 change RS cB w0 w0.heap.size (some ⟨g + 1, 0, none⟩) zeroB at d2
 have hg0 := d0.lt
 have D0 := Lib.hid d0; have D1 := Lib.hid d1; have D2 := Lib.hid d2; have HG := Lib.hid hg; clear d0 d1 d2 hg hmk
 go_wp2_with fail
 go_loopw [10, 11] (fun o i wr => ∃ (n q : Nat) (A : Option Addr) (c : Nat), n ≤ 9 ∧ i = .int .i64 ((n + 1 : Nat) : Int) ∧ q ≤ gN ∧ (q = 128 * n ∨ q = gN) ∧ o = .slice A q c ∧ OS cW wr w0.heap.size A c (R.take q) ∧ Below w0.heap.size w0 wr) (fun o _ _ => gN - slLen o)
 case atStart => exact ⟨0, 0, none, 0, by omega, rfl, by omega, .inl rfl, rfl, OS.nil _ _ _ rfl, b0 _⟩
 case round =>
  obtain ⟨n, q, A, c, hn, rfl, hq, hqn, rfl, hos, hbw⟩ := hrel
  have HO := Lib.hid hos; have HBW := Lib.hid hbw; clear hos hbw
  have c0wr : wr.cell? ⟨g, 0, none⟩ = some (.int .i64 (wrd x5)) := (D0.out.below HBW.out hg0).cell 0; have c1wr : wr.cell? ⟨g, 1, none⟩ = some (.int .i64 m) := (D0.out.below HBW.out hg0).cell 1; have c2wr : wr.cell? ⟨g, 2, none⟩ = some (.int .i64 (wrd x4)) := (D0.out.below HBW.out hg0).cell 2; have c3wr : wr.cell? ⟨g, 3, none⟩ = some (.int .i64 ll) := (D0.out.below HBW.out hg0).cell 3; have c4wr : wr.cell? ⟨g, 4, none⟩ = some (.int .i64 t) := (D0.out.below HBW.out hg0).cell 4
  go_wp2_with fail
  refine (HS.out _).mono ?_
  rintro e w3 ⟨rfl, hb3⟩
  clear c0wr c1wr c2wr c3wr c4wr
  replace HBW := Lib.hid (bcall HBW.out hb3); replace HO := Lib.hid (HO.out.below hb3 (Nat.le_refl _))
  clear hb3
  by_cases hlt : q < gN
  ·have hqd : decide ((q : Int) < gN) = true := by simp; omega
   have hqg : (q : Int) < gN := by omega
   obtain rfl : q = 128 * n := by omega
   have hmk := HMK.out
   have en : (n : Int) + 1 = wrd (UInt64.ofNat (n + 1)) := by rw [wrd_ofNat]; omega
   have HLn := HLS.out (n + 1)
   obtain ⟨L, hL⟩ : ∃ L, L = fL (n + 1) := ⟨_, rfl⟩
   rw [← hL] at HLn
   have HLL : Hid (L.length = 7) := by show _ = _; rw [HLn]; rfl
   have ha : #[Value.int .i64 (wrd x0), .int .i64 (wrd x1), .int .i64 (wrd x2), .int .i64 (wrd x3), .int .i64 (wrd x4), .int .i64 (wrd x5), .int .i64 ((n : Int) + 1)] = wints L := by rw [HLn, en]; rfl
   have HA := Lib.hid ha; have HLE := Lib.hid hL; clear ha en HLn hL
   have c0w3 : w3.cell? ⟨g, 0, none⟩ = some (.int .i64 (wrd x5)) := (D0.out.below HBW.out hg0).cell 0; have c1w3 : w3.cell? ⟨g, 1, none⟩ = some (.int .i64 m) := (D0.out.below HBW.out hg0).cell 1; have c2w3 : w3.cell? ⟨g, 2, none⟩ = some (.int .i64 (wrd x4)) := (D0.out.below HBW.out hg0).cell 2; have c3w3 : w3.cell? ⟨g, 3, none⟩ = some (.int .i64 ll) := (D0.out.below HBW.out hg0).cell 3; have c4w3 : w3.cell? ⟨g, 4, none⟩ = some (.int .i64 t) := (D0.out.below HBW.out hg0).cell 4
   go_upto_region 7 with fail
   clear c0w3 c1w3 c2w3 c3w3 c4w3
   clear hmk
   have o0 : OS cB (w3.alloc (.cells (madeCells #[cB.zero] 1024) 5)) w3.heap.size (some ⟨w3.heap.size, 0, none⟩) 1024 [] := OS.madeAt (cd := cB) (base := w3.heap.size) w3 0 1024 0 rfl (by omega) (by unfold maxLen; omega) (Nat.le_refl _) rfl
   have bm := bal (b0 w3) (.cells (madeCells #[cB.zero] 1024) 5)
   obtain ⟨gi, hgi⟩ : ∃ gi, gi = w3.heap.size := ⟨_, rfl⟩
   rw [← hgi] at o0 ⊢
   generalize w3.alloc (.cells (madeCells #[cB.zero] 1024) 5) = wm at *
   have O0 := Lib.hid o0; have BM := Lib.hid bm; have HGI := Lib.hid hgi; clear o0 bm hgi
   have c0wm : wm.cell? ⟨g, 0, none⟩ = some (.int .i64 (wrd x5)) := (D0.out.below (bcall HBW.out BM.out) hg0).cell 0; have c1wm : wm.cell? ⟨g, 1, none⟩ = some (.int .i64 m) := (D0.out.below (bcall HBW.out BM.out) hg0).cell 1; have c2wm : wm.cell? ⟨g, 2, none⟩ = some (.int .i64 (wrd x4)) := (D0.out.below (bcall HBW.out BM.out) hg0).cell 2; have c3wm : wm.cell? ⟨g, 3, none⟩ = some (.int .i64 ll) := (D0.out.below (bcall HBW.out BM.out) hg0).cell 3; have c4wm : wm.cell? ⟨g, 4, none⟩ = some (.int .i64 t) := (D0.out.below (bcall HBW.out BM.out) hg0).cell 4
   have hgm : g < wm.heap.size := by have := (bcall HBW.out BM.out).size; omega
   refine wp_region_B (Ords.of [(0, 0), (0, 1), (0, 2), (0, 3), (0, 4), (0, 5), (0, 8), (0, 9), (0, 10), (0, 11), (0, 12), (0, 14), (2, 6), (0, 7), (0, 13)] .fin) (by kernel_rfl) rfl (by kernel_rfl) (by kernel_rfl) (fun c a d v w h => by cases d <;> exact h) ?_
   iterate 4 (refine ords_pure rfl (fun K hK => ?_); go_simp; refine hK _ ?_; clear hK K)
   iterate 2 (refine ords_heldK rfl (fun K K2 hK hK2 => ?_); go_simp; refine ⟨hK2 _ (fun w9 hS => ?_), hK _ ?_⟩; (clear hK hK2 K K2; (first | refine withN hS ?_ | refine withD hS ?_ | refine with0 hS ?_); intro hcS hfS; go_simp); (clear hK hK2 K K2))
   iterate 2 (refine ords_pure rfl (fun K hK => ?_); go_simp; refine hK _ ?_; clear hK K; refine ords_heldK rfl (fun K K2 hK hK2 => ?_); go_simp; refine ⟨hK2 _ (fun w9 hS => ?_), hK _ ?_⟩; (clear hK hK2 K K2; (first | refine withN hS ?_ | refine withD hS ?_ | refine with0 hS ?_); intro hcS hfS; go_simp); (clear hK hK2 K K2))
   iterate 2 (refine ords_pure rfl (fun K hK => ?_); go_simp; refine hK _ ?_; clear hK K)
   refine ords_loud rfl (fun n1 => ?_)
   go_wp2_with (go_at_call 22; refine (HC.out _).mono ?_; rintro e w4 ⟨rfl, hb4⟩); refine ⟨undrN hb4, ?_⟩
   iterate 2 (refine ords_pure rfl (fun K hK => ?_); go_simp; refine hK _ ?_; clear hK K)
   refine ords_end (fun n2 => ?_)
   clear c0wm c1wm c2wm c3wm c4wm
   clear hgm
   have b4 := bdr (bcall (bcall HBW.out BM.out) (undrN hb4)) n2
   have bi := bdr (bcall BM.out (undrN hb4)) n2
   have o4 := (O0.out.below (undrN hb4) (Nat.le_refl _)).drewN n2
   have b43 : Below w3.heap.size w3 (w4.drewN n2) := bi
   rw [HA.out]
   clear hb4
   generalize w4.drewN n2 = w5 at *
   have O5 := Lib.hid o4; have B5 := Lib.hid b4; have I5 := Lib.hid bi; clear o4 b4 bi b43 O0 BM
   go_wp2_with fail
   go_loopw [12, 41] (fun o i wr => ∃ (k N : Nat) (A : Option Addr) (c : Nat), k ≤ 7 ∧ i = .int .i64 k ∧ N = 8 * k ∧ o = .slice A N c ∧ OS cB wr gi A c (flat (L.take k)) ∧ Below w3.heap.size w3 wr) (fun _ i _ => 7 - (intOf i).toNat)
   case atStart => exact ⟨0, 0, _, 1024, by omega, rfl, rfl, rfl, O5.out, I5.out⟩
   case round =>
    clear O5 I5 B5
    obtain ⟨k, N, A2, c2, hk, rfl, hN, rfl, hos, hbw⟩ := hrel
    have HO2 := Lib.hid hos; have HN := Lib.hid hN; clear hos hN
    by_cases hlk : k < 7
    ·obtain ⟨v, hv⟩ : ∃ v, L[k]? = some v := ⟨_, List.getElem?_eq_getElem (by rw [HLL.out]; exact hlk)⟩
     have hix := index7 L HLL.out k v hv
     have HV := Lib.hid hv; clear hv
     have hwr := wrd_wrap v
     have hlen : Hid ((flat (L.take k)).length = N) := by show _ = _; rw [flat_len, List.length_take, HLL.out, HN.out]; omega
     have hn8 : N ≤ 1024 := by have := HN.out; omega
     have hkd : decide ((k : Int) < 7) = true := by simp; omega
     have hsz3 : gi ≤ wr.heap.size := by rw [HGI.out]; exact hbw.size
     go_wp2_with (first
      | (go_at_call 45; refine (store64_any v _).mono ?_; rintro e w6 ⟨A6, c6, rfl, ho6, hb6⟩; have HO6 := Lib.hid ho6; clear ho6)
      | (at_builtin; refine wpList_appB _ rfl (.tmp 44) (.tmp 47) rfl (HO2.out.below hb6 (Nat.le_refl _)) rfl hlen.out HO6.out.reads rfl (storeN_len _ _) (by omega) (by have := hb6.size; omega) ?_; intro A3 c3 w7 hown3 hgrow hat; have hw3 := bcall hbw hb6; have hw4 : Below w3.heap.size w3 w7 := bapp hw3 ((HO2.out.below hb6 (Nat.le_refl _)).mono (by rw [HGI.out]; exact Nat.le_refl _)) hgrow; have HO3 := Lib.hid hown3; clear hown3 hgrow hat))
     go_roundw
     case rel =>
      refine ⟨k + 1, N + 8, A3, c3, by omega, by go_num, by have := HN.out; omega, rfl, ?_, hw4⟩
      rw [List.take_add_one, HV.out]
      show OS cB _ _ _ _ (flat (L.take k ++ [v]))
      rw [flat_snoc]
      exact HO3.out
     case measure => simp [intOf]; omega
    ·obtain rfl : k = 7 := by omega
     have hN := HN.out
     subst hN
     clear HN hlk hk
     have ho := HO2.out
     rw [List.take_of_length_le (Nat.le_of_eq HLL.out)] at ho
     have hfl : Hid ((flat L).length = 56) := by show _ = _; rw [flat_len, HLL.out]
     have HO2 := Lib.hid ho; clear ho
     have HB2 := Lib.hid (bcall HBW.out hbw)
     have HZ := Lib.hid (D2.out.below HB2.out)
     have hsz3 : gi ≤ wr.heap.size := by rw [HGI.out]; exact hbw.size
     rw [show (8 * 7 : Nat) = 56 from rfl]
     have hz5 : RS cB wr w0.heap.size (some ⟨g + 1, 56, none⟩) (List.replicate 968 0) := by
      have h := HZ.out.cut (k := 56) (cap := 1024) (by rw [zeroB_len]; omega) (by rw [zeroB_len]; omega)
      rw [if_neg (by omega)] at h
      unfold zeroB at h
      rw [List.drop_replicate] at h
      exact h
     have HZ5 := Lib.hid hz5; clear hz5
     go_wp2_with (at_builtin; refine wpList_appB _ rfl (.tmp 50) (.tmp 54) rfl HO2.out rfl hfl.out HZ5.out rfl (List.length_replicate ..) (by omega) hsz3 ?_; intro A3 c3 w7 hown3 hgrow hat; have hw7 : Below w3.heap.size w3 w7 := bapp hbw (HO2.out.mono (by rw [HGI.out]; exact Nat.le_refl _)) hgrow; have HO3 := Lib.hid hown3; clear hown3 hgrow hat)
     have hb7 := bcall HBW.out hw7
     have H7 : Hid (OS cB w7 gi A3 c3 (adrIn L)) := HO3.out
     clear HO3
     refine (mixP_yes _ _ _ _ zeroB (adrIn L) w7 zeroB_len (adrIn_len L HLL.out) ((D2.out.below hb7).more hb7.size) H7.out.reads).mono ?_
     rintro e w8 ⟨A8, c8, rfl, ho8, hb8⟩
     have H8 := Lib.hid ho8; clear ho8
     have hb70 := bcall hb7 hb8
     go_wp2_with fail
     refine (mixP_yes _ _ _ _ zeroB (mixB zeroB (adrIn L)) w8 zeroB_len (mixB_len _ _) ((D2.out.below hb70).more hb70.size) H8.out.reads).mono ?_
     rintro e w9 ⟨A9, c9, rfl, ho9, hb9⟩
     have h0 : Below w0.heap.size w0 w9 := bcall hb70 hb9
     have h3 : Below w3.heap.size w3 w9 := bcall (bcall hw7 hb8) hb9
     obtain ⟨D, hD⟩ : ∃ D, D = adrB L := ⟨_, rfl⟩
     have h9 : OS cB w9 w8.heap.size A9 c9 D := by rw [hD]; exact ho9
     have HDL : Hid (D.length = 1024) := by show _ = _; rw [hD, adrB_len]
     have HD := Lib.hid hD; clear ho9 hD
     replace h9 := h9.mono hb70.size
     have H9 := Lib.hid h9; have HL9 := Lib.hid (HO.out.below h3 (Nat.le_refl _)); have HB9 := Lib.hid h0
     clear h9 h0 h3 hb70 hb7 hw7 hbw H7 H8 hb8 hb9
     go_wp2_with fail
     go_loopw [10, 15] (fun o i wr => ∃ (k q : Nat) (A : Option Addr) (c : Nat), k ≤ 128 ∧ i = .int .i64 k ∧ q ≤ gN ∧ q = 128 * n + k ∧ o = .slice A q c ∧ OS cW wr w0.heap.size A c (R.take q) ∧ OS cB wr w0.heap.size A9 c9 D ∧ Below w0.heap.size w0 wr) (fun _ i _ => 128 - (intOf i).toNat)
     case atStart => exact ⟨0, 128 * n, A, c, by omega, rfl, by omega, by omega, rfl, HL9.out, H9.out, HB9.out⟩
     case round =>
      clear H9 HL9 HB9
      obtain ⟨k, q, A4, c4, hk, rfl, hqg, hqk, rfl, hos, hob, hbw⟩ := hrel
      have HO4 := Lib.hid hos; have HOB := Lib.hid hob; have HB4 := Lib.hid hbw; have HQK := Lib.hid hqk; clear hos hob hbw hqk
      by_cases hlk : k < 128
      ·have hkd : decide ((k : Int) < 128) = true := by simp; omega
       have c0wr : wr.cell? ⟨g, 0, none⟩ = some (.int .i64 (wrd x5)) := (D0.out.below HB4.out hg0).cell 0; have c1wr : wr.cell? ⟨g, 1, none⟩ = some (.int .i64 m) := (D0.out.below HB4.out hg0).cell 1; have c2wr : wr.cell? ⟨g, 2, none⟩ = some (.int .i64 (wrd x4)) := (D0.out.below HB4.out hg0).cell 2; have c3wr : wr.cell? ⟨g, 3, none⟩ = some (.int .i64 ll) := (D0.out.below HB4.out hg0).cell 3; have c4wr : wr.cell? ⟨g, 4, none⟩ = some (.int .i64 t) := (D0.out.below HB4.out hg0).cell 4
       go_wp2_with fail
       refine (HS.out _).mono ?_
       rintro e wa ⟨rfl, hba⟩
       clear c0wr c1wr c2wr c3wr c4wr
       replace HB4 := Lib.hid (bcall HB4.out hba); replace HO4 := Lib.hid (HO4.out.below hba (Nat.le_refl _)); replace HOB := Lib.hid (HOB.out.below hba (Nat.le_refl _))
       clear hba
       by_cases hlq : q < gN
       ·have hqd : decide ((q : Int) < gN) = true := by simp; omega
        have hl := load64_any A9 c9 1024 (8 * k) wa.heap.size D wa HDL.out (by omega) HOB.out.reads (by omega)
        have e8 : ((8 * k : Nat) : Int) = 8 * (k : Int) := by omega
        rw [e8] at hl
        obtain ⟨v, hv⟩ : ∃ v, v = word ((D.drop (8 * k)).take 8) := ⟨_, rfl⟩
        have hrq : R[q]? = some v := by
         have h1 : q / 128 = n := by have := HQK.out; omega
         have h2 : q % 128 = k := by have := HQK.out; omega
         rw [HAT.out q hlq, HW.out, h1, h2, ← HLE.out, ← HD.out, hv]
        rw [← hv] at hl
        have HL := Lib.hid hl; have HRQ := Lib.hid hrq; clear hl hv e8 hrq
        have hlen : Hid ((R.take q).length = q) := by show _ = _; rw [List.length_take, HAL.out]; omega
        go_wp2_with (first
         | (go_at_call 37; refine HL.out.mono ?_; rintro e wb ⟨rfl, rfl⟩)
         | (at_builtin; refine wpList_appS _ cW_ok rfl (.tmp 86) (.tmp 88) rfl (HO4.out.alloc _) rfl hlen.out (RS.one' (cd := cW) (x := v) (cnew _ _ _ rfl)) rfl rfl (by show (q + 1) * 8 ≤ _; omega) (by omega) (by have := HB4.out.size; simp; omega) ?_; intro A5 c5 wc hown3 hgrow hat; have hw3 := bapp (bal HB4.out _) (HO4.out.alloc _) hgrow; have HO5 := Lib.hid hown3; have HG5 := Lib.hid hgrow; clear hown3 hgrow hat))
        go_roundw
        case rel =>
         refine ⟨k + 1, q + 1, A5, c5, by omega, by go_num, by omega, by have := HQK.out; omega, rfl, ?_, (HOB.out.alloc _).kept HG5.out (HOB.out.ne_ HO4.out (by decide)), hw3⟩
         rw [List.take_add_one, HRQ.out]
         exact HO5.out
        case measure => simp [intOf]; omega
       ·obtain rfl : q = gN := by omega
        go_wp2_with fail
        go_roundw
        case rel => exact ⟨n + 1, q, A4, c4, by have := HQK.out; omega, by go_num, by omega, .inr rfl, rfl, HO4.out, HB4.out⟩
        case measure => simp [slLen]; omega
      ·obtain rfl : k = 128 := by omega
       have hq2 := HQK.out
       subst hq2
       go_wp2_with fail
       go_roundw
       case rel => exact ⟨n + 1, 128 * n + 128, A4, c4, by omega, by go_num, by omega, .inl (by omega), rfl, HO4.out, HB4.out⟩
       case measure => simp [slLen]; omega
  ·obtain rfl : q = gN := by omega
   go_wp2_with fail
   have ho := HO.out
   rw [List.take_of_length_le (Nat.le_of_eq HAL.out)] at ho
   exact bodyPost_ret (results_tmp rfl _ _ _) rfl ⟨A, c, rfl, ho.mono D1.out.size, bcall D1.out HBW.out⟩
end Go.Proofs.Ytbghkdhkahkfnaa

/- Addresses, whatever comes in, by the program and by the reference. Contracts alone; no statement is claimed here. -/
namespace Go.Proofs.Ytbghkdhkahkfnaa
open Go.RowKit
attribute [local go_sem] pureUpon Ords.of

def adrE (a : Ar) (p s l : Int) : Int := if a.ok then (if adrBad a p s l then 1 else 0) else 200
def adrR (a : Ar) (p s l : Int) : List UInt64 := if a.ok ∧ ¬ adrBad a p s l then adrs a p s l else []
def AnsW (d : Int) (l : List UInt64) (w : World) (e : Ending) (w' : World) : Prop :=
  ∃ A n c, e = .returned (.tuple #[.slice A n c, .int .i64 d]) ∧ n = l.length ∧ n ≤ 1024 ∧ OS cW w' w.heap.size A c l ∧ Below w.heap.size w w'
end Go.Proofs.Ytbghkdhkahkfnaa

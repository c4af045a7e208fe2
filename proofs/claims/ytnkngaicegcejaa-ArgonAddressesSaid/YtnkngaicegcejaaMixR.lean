/-
  put, of the reference. Contracts alone; no statement is claimed here.
-/
import Derived.Test.YtnkngaicegcejaaMixC
import Derived.Test.YtnkngaicegcejaaPermR
namespace Go.Proofs.Ytnkngaicegcejaa
open Go.RowKit
attribute [local go_sem] pureUpon Ords.of

def cW : Cod UInt64 := ⟨34, 67, 8, .int .u64 0, wv⟩
theorem cW_ok : cW.Ok Try.prog := ⟨Try.underlying67, by kernel_rfl, rfl, fun _ => rfl⟩
def icv (n : Nat) : Value := .int .i64 n
def ics (l : List Nat) : Array Value := (l.map icv).toArray
def atP (p : Nat → Nat) : List Nat := (List.range 16).map p
theorem ics_size (l : List Nat) : (ics l).size = l.length := by simp [ics]
theorem atP_len (p : Nat → Nat) : (atP p).length = 16 := by simp [atP]
theorem ics_at (p : Nat → Nat) (k : Nat) (h : k < 16) : (ics (atP p))[k]? = some (.int .i64 (p k)) := by simp [ics, atP, h, icv]

theorem os_rowFar {α : Type} {cd : Cod α} {w : World} {base c k : Nat} {A : Option Addr} {l : List α} (h : OS cd w base A c l) (cs : Array Value) (hk : ∀ a, A = some a → a.block < k) : OS cd (w.setRow k cs) base A c l :=
  h.of_block fun a ha => (below_row (Below.refl k w) (Nat.le_refl k) cs).block a.block (hk a ha)

set_option maxRecDepth 20000 in
set_option maxHeartbeats 4000000 in
theorem putR_any (g c base : Nat) (p : Nat → Nat) (z : List UInt64) (w : World) (hz : z.length = 128) (hp : ∀ k, k < 16 → p k < 128) (hos : OS cW w base (some ⟨g, 0, none⟩) c z) :
    Calls Try.prog 71 #[.slice (some ⟨g, 0, none⟩) 128 c, .agg (ics (atP p))] w fun e w' => e = .returned (.tuple #[]) ∧ OS cW w' base (some ⟨g, 0, none⟩) c (putAt p z) ∧ w.grownBy w' (some g) := by
  have HZ := Lib.hid hz; have HO := Lib.hid hos; have HP := Lib.hid hp; clear hz hos hp
  obtain ⟨I, hI⟩ : ∃ I, I = ics (atP p) := ⟨_, rfl⟩
  rw [← hI]
  have HI := Lib.hid hI; clear hI
  go_enter Try.func71, Try.ntmps71
  go_upto_region 2 with fail
  obtain ⟨G, hG⟩ : ∃ G, G = gather z p := ⟨_, rfl⟩
  have HGL : Hid (G.length = 16) := by show _ = _; rw [hG, gather_len]
  have h0 : Blk ((w.alloc (.cells I 107)).alloc (.cells z16 35)) (w.heap.size + 1) 35 (wcs (fillW G 0 16)) := by
    rw [← z16_eq G]; simpa using Blk.new (w.alloc (.cells I 107)) 35 z16
  have h1 : Blk ((w.alloc (.cells I 107)).alloc (.cells z16 35)) w.heap.size 107 I := (Blk.new _ _ _).alloc _
  have h2 := (HO.out.alloc (.cells I 107)).alloc (.cells z16 35)
  have h3 := bal (bal (b0 w) (.cells I 107)) (.cells z16 35)
  obtain ⟨b, hb⟩ : ∃ b, b = w.heap.size := ⟨_, rfl⟩
  have hgb : g < b := by rw [hb]; exact (HO.out.block_lt _ rfl).2
  rw [← hb] at h0 h1 ⊢
  have HB := Lib.hid hb; have HGG := Lib.hid hG; clear hb hG
  unfold z16 at h0 h1 h2 h3
  generalize (w.alloc (.cells I 107)).alloc (.cells #[.int .u64 0, .int .u64 0, .int .u64 0, .int .u64 0, .int .u64 0, .int .u64 0, .int .u64 0, .int .u64 0, .int .u64 0, .int .u64 0, .int .u64 0, .int .u64 0, .int .u64 0, .int .u64 0, .int .u64 0, .int .u64 0] 35) = w0 at *
  go_wp2_with fail
  go_loopw [5] (fun j wr => ∃ k : Nat, k ≤ 16 ∧ j = .int .i64 k ∧ Blk wr (b + 1) 35 (wcs (fillW G k 16)) ∧ Blk wr b 107 I ∧ OS cW wr base (some ⟨g, 0, none⟩) c z ∧ Below w.heap.size w wr) (fun j _ => 16 - (intOf j).toNat)
  case atStart => exact ⟨0, by omega, rfl, h0, h1, h2, h3⟩
  case round =>
    clear h0 h1 h2 h3
    obtain ⟨k, hk, rfl, hb0, hb1, hb2, hbw⟩ := hrel
    have HB0 := Lib.hid hb0; have HB1 := Lib.hid hb1; have HB2 := Lib.hid hb2; clear hb0 hb1 hb2
    by_cases hlt : k < 16
    · obtain ⟨q, hq⟩ : ∃ q, q = p k := ⟨_, rfl⟩
      have hq1 : q < 128 := by rw [hq]; exact HP.out k hlt
      have gi : wr.cell? ⟨b, k, none⟩ = some (.int .i64 q) := by rw [HB1.out.cell, HI.out, ics_at p k hlt, hq]
      have gz1 : wr.cell? ⟨g, q, none⟩ = some (wv (z.getD q 0)) := by
        obtain ⟨g1, x, e1, -, -, ex, gx, -⟩ := HB2.out.at_ (k := q) (by rw [HZ.out]; exact hq1)
        injection e1 with e1; injection e1 with e1; subst e1
        rw [List.getD_eq_getElem?_getD, ex]; exact gx
      obtain ⟨v, hv⟩ : ∃ v, v = z.getD q 0 := ⟨_, rfl⟩
      have hGk : G[k]? = some v := by rw [HGG.out, gather_at z _ k hlt, hv, hq]
      rw [← hv] at gz1
      change wr.cell? ⟨g, q, none⟩ = some (.int .u64 (wrd v)) at gz1
      have gc : wr.cell? ⟨b + 1, k, none⟩ = some (wv ((fillW G k 16).getD k 0)) := (HB0.out.cell k).trans (wcs_get _ _ (by rw [fillW_len _ _ _ hk HGL.out]; exact hlt))
      have gf : wr.frozen? ⟨b + 1, k, none⟩ = false := HB0.out.frozen k
      generalize wv ((fillW G k 16).getD k 0) = old at gc
      have HGK := Lib.hid hGk; clear hGk hv hq
      have hqi : (q : Int) < 128 := by omega
      go_wp2
      case roundEnd =>
        have h1 := HB0.out.set_ k (wv v)
        rw [fillW_put _ k 16 v hlt HGK.out] at h1
        exact ⟨⟨k + 1, by omega, by go_num, h1, HB1.out.far (p := ⟨b + 1, k, none⟩) (by simp) _, HB2.out.setFar (p := ⟨b + 1, k, none⟩) (fun a ha => by injection ha with ha; subst ha; simp; omega) _, bput hbw (by rw [HB.out]; simp) _⟩, by simp [intOf]; omega⟩
    · obtain rfl : k = 16 := by omega
      clear hlt hk
      have h1 := HB0.out
      rw [fillW_all _ 16 HGL.out] at h1
      have H1 := Lib.hid h1; clear h1
      have S1 := Lib.hid (sz16 G HGL.out)
      have hPl : (perm G).length = 16 := by rw [perm_len, HGL.out]
      have S1' := Lib.hid (sz16 (perm G) hPl)
      have S2 := Lib.hid (wcs_all (perm G))
      have S3 : Hid ((wcs G).size = (wcs (perm G)).size) := by show _ = _; rw [wcs_len _ 16 HGL.out, wcs_len _ 16 hPl]
      have HPL := Lib.hid hPl; clear hPl
      have U := Lib.hid Try.underlying35
      go_wp2_with (first
        | (refine wpList_load_row rfl 35 _ rfl (b + 1) rfl 35 (wcs G) (0, 0) _ H1.out U.out rfl S1.out ?_)
        | (go_at_call 23; refine (refPerm_any G HGL.out wr).mono ?_; rintro e w1 ⟨rfl, hb1⟩)
        | (refine wpList_store_row rfl 35 _ _ rfl (b + 1) (wcs (perm G)) rfl rfl 35 (wcs G) (H1.out.below hb1 H1.out.lt) S1'.out S3.out S2.out ?_))
      clear S1 S1' S2 S3 U
      generalize hV : perm G = V at *
      have HVV := Lib.hid hV; clear hV
      have hv0 := (H1.out.below hb1 H1.out.lt).row (wcs V)
      have hv1 := (HB1.out.below hb1 HB1.out.lt).rowFar (k := b + 1) (by omega) (wcs V)
      have hv2 : OS cW (w1.setRow (b + 1) (wcs V)) base (some ⟨g, 0, none⟩) c z := os_rowFar (HB2.out.below hb1 (Nat.le_refl _)) (wcs V) (fun a ha => by injection ha with ha; subst ha; show g < b + 1; omega)
      have hv3 : w.grownBy (w1.setRow (b + 1) (wcs V)) (some g) := grownOf (brow (bcall hbw hb1) (by rw [HB.out]; simp) _)
      have HV0 := Lib.hid hv0; have HV1 := Lib.hid hv1; have HV2 := Lib.hid hv2; have HV3 := Lib.hid hv3; clear hv0 hv1 hv2 hv3 hb1 hbw
      generalize w1.setRow (b + 1) (wcs V) = w2 at *
      go_loopw [6] (fun j wr => ∃ k : Nat, k ≤ 16 ∧ j = .int .i64 k ∧ Blk wr (b + 1) 35 (wcs V) ∧ Blk wr b 107 I ∧ OS cW wr base (some ⟨g, 0, none⟩) c (scatter p V k z) ∧ w.grownBy wr (some g)) (fun j _ => 16 - (intOf j).toNat)
      case atStart => exact ⟨0, by omega, rfl, HV0.out, HV1.out, HV2.out, HV3.out⟩
      case round =>
        clear HV0 HV1 HV2 HV3
        obtain ⟨k, hk, rfl, hb0, hb1, hb2, hbw⟩ := hrel
        have HC0 := Lib.hid hb0; have HC1 := Lib.hid hb1; have HC2 := Lib.hid hb2; have HGR := Lib.hid hbw; clear hb0 hb1 hb2 hbw
        by_cases hlt : k < 16
        · obtain ⟨q, hq⟩ : ∃ q, q = p k := ⟨_, rfl⟩
          have hq1 : q < 128 := by rw [hq]; exact HP.out k hlt
          have gi : wr.cell? ⟨b, k, none⟩ = some (.int .i64 q) := by rw [HC1.out.cell, HI.out, ics_at p k hlt, hq]
          obtain ⟨v, hv⟩ : ∃ v, v = V.getD k 0 := ⟨_, rfl⟩
          have gv : wr.cell? ⟨b + 1, k, none⟩ = some (.int .u64 (wrd v)) := by rw [hv]; exact (HC0.out.cell k).trans (wcs_get _ _ (by rw [HPL.out]; exact hlt))
          obtain ⟨g1, x, e1, -, -, -, gc, gf⟩ := HC2.out.at_ (k := q) (by rw [scatter_len, HZ.out]; exact hq1)
          injection e1 with e1; injection e1 with e1; subst e1
          change wr.cell? ⟨g, q, none⟩ = some (.int .u64 (wrd x)) at gc
          have HQ := Lib.hid hq; have HV := Lib.hid hv; clear hq hv
          have hkd : decide ((k : Int) < 16) = true := by simp; omega
          have hki : (k : Int) < 16 := by omega
          have hqi : (q : Int) < 128 := by omega
          go_wp2
          refine wp_region_ords (fun _ => True) (fun _ _ h => h) (Ords.of [(0, 0), (0, 1), (0, 2), (1, 3), (0, 4), (0, 5), (1, 6), (0, 7), (2, 8)] .fin) (by kernel_rfl) rfl (by kernel_rfl) (by kernel_rfl) (fun c a d v w h => by cases d <;> exact h) trivial ?_
          refine ords_pure rfl (fun K hK => ?_); go_simp; refine hK _ ?_; clear hK K
          refine ords_pure rfl (fun K hK => ?_); go_simp; refine hK _ ?_; clear hK K
          refine ords_pure rfl (fun K hK => ?_); go_simp; refine hK _ ?_; clear hK K
          refine ords_read rfl (fun K hK => ?_); go_simp; refine hK _ ?_; clear hK K
          refine ords_pure rfl (fun K hK => ?_); go_simp; refine hK _ ?_; clear hK K
          refine ords_pure rfl (fun K hK => ?_); go_simp; refine hK _ ?_; clear hK K
          refine ords_read rfl (fun K hK => ?_); go_simp; refine hK _ ?_; clear hK K
          refine ords_pure rfl (fun K hK => ?_); go_simp; refine hK _ ?_; clear hK K
          refine ords_loud rfl (fun n1 => ?_)
          go_wp2
          refine ⟨trivial, ?_⟩
          refine ords_end (fun n2 => ?_)
          go_wp2
          case roundEnd =>
            have h0 := ((HC0.out.drewN n1).far (p := ⟨g, q, none⟩) (by simp; omega) (wv v)).drewN n2
            have h1 := ((HC1.out.drewN n1).far (p := ⟨g, q, none⟩) (by simp; omega) (wv v)).drewN n2
            have h2 := ((HC2.out.drewN n1).set q v).drewN n2
            refine ⟨⟨k + 1, by omega, by go_num, h0, h1, ?_, gdr (grown_set (gdr HGR.out n1) (p := ⟨g, q, none⟩) (.inl rfl) (wv v)) n2⟩, by simp [intOf]; omega⟩
            unfold scatter
            rw [← HQ.out, ← HV.out]
            exact h2
        · obtain rfl : k = 16 := by omega
          clear hlt hk
          go_wp2
          go_end0
          refine ⟨rfl, ?_, HGR.out⟩
          have h1 := HC2.out
          rw [← HVV.out, HGG.out] at h1
          exact h1
end Go.Proofs.Ytnkngaicegcejaa

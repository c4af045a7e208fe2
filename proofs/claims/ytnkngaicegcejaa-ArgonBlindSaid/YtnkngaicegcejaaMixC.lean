/-
  The closures of long.Mix. Contracts alone; no statement is claimed here.
-/
import Derived.Test.YtnkngaicegcejaaMixW
namespace Go.Proofs.Ytnkngaicegcejaa
open Go.RowKit
attribute [local go_sem] pureUpon Ords.of

theorem place1_any (i k gi : Nat) (w : World) (hi : i < 8) (hk : k < 16) (hc : w.cell? ⟨gi, 0, none⟩ = some (.int .i64 i)) :
    Calls Try.prog 67 #[.int .i64 k, .pointer (some ⟨gi, 0, none⟩)] w fun e w' => e = .returned (.int .i64 (rowAt i k : Nat)) ∧ w = w' := by
  go_enter Try.func67, Try.ntmps67
  go_wp2
  go_ret
  exact ⟨ret_int (by unfold rowAt; omega), rfl⟩
theorem place2_any (i k gi : Nat) (w : World) (hi : i < 8) (hk : k < 16) (hc : w.cell? ⟨gi, 0, none⟩ = some (.int .i64 i)) :
    Calls Try.prog 68 #[.int .i64 k, .pointer (some ⟨gi, 0, none⟩)] w fun e w' => e = .returned (.int .i64 (colAt i k : Nat)) ∧ w = w' := by
  have q1 : (k : Int).tdiv 2 = ((k / 2 : Nat) : Int) := rfl
  have q2 : (k : Int) / 2 = ((k / 2 : Nat) : Int) := rfl
  have q3 : (k : Int).tmod 2 = ((k % 2 : Nat) : Int) := rfl
  have q4 : (k : Int) % 2 = ((k % 2 : Nat) : Int) := rfl
  have b1 : k / 2 < 8 := by omega
  have b2 : k % 2 < 2 := by omega
  obtain ⟨q, hq⟩ : ∃ q, q = k / 2 := ⟨_, rfl⟩
  obtain ⟨r, hr⟩ : ∃ r, r = k % 2 := ⟨_, rfl⟩
  have hcol : colAt i k = 2 * i + 16 * q + r := by unfold colAt; rw [hq, hr]
  rw [hcol]
  rw [← hq] at q1 q2 b1
  rw [← hr] at q3 q4 b2
  clear hcol hq hr
  go_enter Try.func68, Try.ntmps68
  go_wp2
  go_ret
  exact ⟨ret_int (by omega), rfl⟩
theorem rowAt_lt {i k : Nat} (hi : i < 8) (hk : k < 16) : rowAt i k < 128 := by unfold rowAt; omega
theorem colAt_lt {i k : Nat} (hi : i < 8) (hk : k < 16) : colAt i k < 128 := by unfold colAt; omega
def z16 : Array Value := #[.int .u64 0, .int .u64 0, .int .u64 0, .int .u64 0, .int .u64 0, .int .u64 0, .int .u64 0, .int .u64 0, .int .u64 0, .int .u64 0, .int .u64 0, .int .u64 0, .int .u64 0, .int .u64 0, .int .u64 0, .int .u64 0]
theorem z16_eq (z : List UInt64) : z16 = wcs (fillW z 0 16) := by unfold z16; kernel_rfl
theorem grownOf {w w1 : World} {R : Option Nat} (h : Below w.heap.size w w1) : w.grownBy w1 R := ⟨h.os, h.tape, h.output, h.size, fun i hi _ => h.block i hi⟩
theorem gdr {w w1 : World} {R : Option Nat} (h : w.grownBy w1 R) (n : Nat) : w.grownBy (w1.drewN n) R := ⟨h.os, h.tape, h.output, h.size, h.block⟩
theorem gather_at (z : List UInt64) (p : Nat → Nat) (k : Nat) (h : k < 16) : (gather z p)[k]? = some (z.getD (p k) 0) := by simp [gather, h]
theorem gather_len (z : List UInt64) (p : Nat → Nat) : (gather z p).length = 16 := by simp [gather]
theorem perm_len (l : List UInt64) : (perm l).length = l.length := permTo_len 8 l

set_option maxRecDepth 20000 in
set_option maxHeartbeats 4000000 in
theorem put1_any (i gz gi : Nat) (z : List UInt64) (w : World) (hi : i < 8) (hz : z.length = 128) (hg : Blk w gz 100 (wcs z)) (hgi : Blk w gi 3 #[.int .i64 i]) :
    Calls Try.prog 66 #[.func (.func 67) #[] #[.pointer (some ⟨gi, 0, none⟩)], .pointer (some ⟨gz, 0, none⟩)] w fun e w' => e = .returned (.tuple #[]) ∧ Blk w' gz 100 (wcs (putAt (rowAt i) z)) ∧ w.grownBy w' (some gz) := by
  have HZ := Lib.hid hz; have HG := Lib.hid hg; have HI := Lib.hid hgi; clear hz hg hgi
  go_enter Try.func66, Try.ntmps66
  go_upto_region 1 with fail
  obtain ⟨G, hG⟩ : ∃ G, G = gather z (rowAt i) := ⟨_, rfl⟩
  have HGL : Hid (G.length = 16) := by show _ = _; rw [hG, gather_len]
  have h0 : Blk (w.alloc (.cells #[.int .u64 0, .int .u64 0, .int .u64 0, .int .u64 0, .int .u64 0, .int .u64 0, .int .u64 0, .int .u64 0, .int .u64 0, .int .u64 0, .int .u64 0, .int .u64 0, .int .u64 0, .int .u64 0, .int .u64 0, .int .u64 0] 35)) w.heap.size 35 (wcs (fillW G 0 16)) := by rw [← z16_eq G]; exact Blk.new _ _ _
  have h1 := HG.out.alloc (.cells #[.int .u64 0, .int .u64 0, .int .u64 0, .int .u64 0, .int .u64 0, .int .u64 0, .int .u64 0, .int .u64 0, .int .u64 0, .int .u64 0, .int .u64 0, .int .u64 0, .int .u64 0, .int .u64 0, .int .u64 0, .int .u64 0] 35)
  have h2 := HI.out.alloc (.cells #[.int .u64 0, .int .u64 0, .int .u64 0, .int .u64 0, .int .u64 0, .int .u64 0, .int .u64 0, .int .u64 0, .int .u64 0, .int .u64 0, .int .u64 0, .int .u64 0, .int .u64 0, .int .u64 0, .int .u64 0, .int .u64 0] 35)
  have h3 := bal (b0 w) (.cells #[.int .u64 0, .int .u64 0, .int .u64 0, .int .u64 0, .int .u64 0, .int .u64 0, .int .u64 0, .int .u64 0, .int .u64 0, .int .u64 0, .int .u64 0, .int .u64 0, .int .u64 0, .int .u64 0, .int .u64 0, .int .u64 0] 35)
  obtain ⟨b, hb⟩ : ∃ b, b = w.heap.size := ⟨_, rfl⟩
  have hgzb : gz < b := by rw [hb]; exact HG.out.lt
  have hgib : gi < b := by rw [hb]; exact HI.out.lt
  rw [← hb] at h0 ⊢
  have HB := Lib.hid hb; have HGG := Lib.hid hG; clear hb hG
  generalize w.alloc (.cells #[.int .u64 0, .int .u64 0, .int .u64 0, .int .u64 0, .int .u64 0, .int .u64 0, .int .u64 0, .int .u64 0, .int .u64 0, .int .u64 0, .int .u64 0, .int .u64 0, .int .u64 0, .int .u64 0, .int .u64 0, .int .u64 0] 35) = w0 at *
  go_wp2_with fail
  go_loopw [6] (fun j wr => ∃ k : Nat, k ≤ 16 ∧ j = .int .i64 k ∧ Blk wr b 35 (wcs (fillW G k 16)) ∧ Blk wr gz 100 (wcs z) ∧ Blk wr gi 3 #[.int .i64 i] ∧ Below w.heap.size w wr) (fun j _ => 16 - (intOf j).toNat)
  case atStart => exact ⟨0, by omega, rfl, h0, h1, h2, h3⟩
  case round =>
    clear h0 h1 h2 h3
    obtain ⟨k, hk, rfl, hb0, hb1, hb2, hbw⟩ := hrel
    have HB0 := Lib.hid hb0; have HB1 := Lib.hid hb1; have HB2 := Lib.hid hb2; clear hb0 hb1 hb2
    by_cases hlt : k < 16
    · obtain ⟨p, hp⟩ : ∃ p, p = rowAt i k := ⟨_, rfl⟩
      have hp1 : p < 128 := by rw [hp]; exact rowAt_lt hi hlt
      have hpl := place1_any i k gi wr hi hlt (HB2.out.cell 0)
      rw [← hp] at hpl
      have gz1 : wr.cell? ⟨gz, p, none⟩ = some (wv (z.getD p 0)) := (HB1.out.cell p).trans (wcs_get _ _ (by rw [HZ.out]; exact hp1))
      obtain ⟨v, hv⟩ : ∃ v, v = z.getD p 0 := ⟨_, rfl⟩
      have hGk : G[k]? = some v := by rw [HGG.out, gather_at z _ k hlt, hv, hp]
      rw [← hv] at gz1
      change wr.cell? ⟨gz, p, none⟩ = some (.int .u64 (wrd v)) at gz1
      have gc : wr.cell? ⟨b, k, none⟩ = some (wv ((fillW G k 16).getD k 0)) := (HB0.out.cell k).trans (wcs_get _ _ (by rw [fillW_len _ _ _ hk HGL.out]; exact hlt))
      have gf : wr.frozen? ⟨b, k, none⟩ = false := HB0.out.frozen k
      generalize wv ((fillW G k 16).getD k 0) = old at gc
      have HPL := Lib.hid hpl; have HGK := Lib.hid hGk; clear hpl hGk hv hp
      go_wp2_with (go_at_call 67; refine HPL.out.mono ?_; rintro e w1 ⟨rfl, rfl⟩)
      case roundEnd =>
        have h1 := HB0.out.set_ k (wv v)
        rw [fillW_put _ k 16 v hlt HGK.out] at h1
        exact ⟨⟨k + 1, by omega, by go_num, h1, HB1.out.far (p := ⟨b, k, none⟩) (by simp; omega) _, HB2.out.far (p := ⟨b, k, none⟩) (by simp; omega) _, bput hbw (by rw [HB.out]; exact Nat.le_refl _) _⟩, by simp [intOf]; omega⟩
    · obtain rfl : k = 16 := by omega
      clear hlt hk
      have h1 := HB0.out
      rw [fillW_all _ 16 HGL.out] at h1
      have H1 := Lib.hid h1; clear h1
      have S1 := Lib.hid (sz16 G HGL.out)
      have hPl : (perm G).length = 16 := by rw [perm_len, HGL.out]
      have S1' := Lib.hid (sz16 (perm G) hPl)
      have S2 := Lib.hid (wcs_all (perm G))
      have S3 : Hid ((wcs G).size = (wcs (perm G)).size) := by show _ = _; rw [wcs_len _ 16 HGL.out, wcs_len _ 16 hPl]
      have HPL := Lib.hid hPl; clear hPl
      have U := Lib.hid Try.underlying35
      go_wp2_with (first
        | (refine wpList_load_row rfl 35 _ rfl b rfl 35 (wcs G) (0, 0) _ H1.out U.out rfl S1.out ?_)
        | (go_at_call 22; refine (perm_any G HGL.out wr).mono ?_; rintro e w1 ⟨rfl, hb1⟩)
        | (refine wpList_store_row rfl 35 _ _ rfl b (wcs (perm G)) rfl rfl 35 (wcs G) (H1.out.below hb1 H1.out.lt) S1'.out S3.out S2.out ?_))
      clear S1 S1' S2 S3 U
      generalize hV : perm G = V at *
      have HVV := Lib.hid hV; clear hV
      have hv0 := (H1.out.below hb1 H1.out.lt).row (wcs (V))
      have hv1 := (HB1.out.below hb1 HB1.out.lt).rowFar (k := b) (by omega) (wcs (V))
      have hv2 := (HB2.out.below hb1 HB2.out.lt).rowFar (k := b) (by omega) (wcs (V))
      have hv3 : w.grownBy (w1.setRow b (wcs (V))) (some gz) := grownOf (brow (bcall hbw hb1) (by rw [HB.out]; exact Nat.le_refl _) _)
      have HV0 := Lib.hid hv0; have HV1 := Lib.hid hv1; have HV2 := Lib.hid hv2; have HV3 := Lib.hid hv3; clear hv0 hv1 hv2 hv3 hb1 hbw
      generalize w1.setRow b (wcs (V)) = w2 at *
      go_loopw [19] (fun j wr => ∃ k : Nat, k ≤ 16 ∧ j = .int .i64 k ∧ Blk wr b 35 (wcs (V)) ∧ Blk wr gz 100 (wcs (scatter (rowAt i) (V) k z)) ∧ Blk wr gi 3 #[.int .i64 i] ∧ w.grownBy wr (some gz)) (fun j _ => 16 - (intOf j).toNat)
      case atStart => exact ⟨0, by omega, rfl, HV0.out, HV1.out, HV2.out, HV3.out⟩
      case round =>
        clear HV0 HV1 HV2 HV3
        obtain ⟨k, hk, rfl, hb0, hb1, hb2, hbw⟩ := hrel
        have HC0 := Lib.hid hb0; have HC1 := Lib.hid hb1; have HC2 := Lib.hid hb2; have HGR := Lib.hid hbw; clear hb0 hb1 hb2 hbw
        by_cases hlt : k < 16
        · obtain ⟨p, hp⟩ : ∃ p, p = rowAt i k := ⟨_, rfl⟩
          have hp1 : p < 128 := by rw [hp]; exact rowAt_lt hi hlt
          have hpl := fun n => place1_any i k gi (wr.drewN n) hi hlt (HC2.out.cell 0)
          rw [← hp] at hpl
          have HPP := Lib.hid hp; clear hp
          obtain ⟨v, hv⟩ : ∃ v, v = (V).getD k 0 := ⟨_, rfl⟩
          have gv : wr.cell? ⟨b, k, none⟩ = some (.int .u64 (wrd v)) := by rw [hv]; exact (HC0.out.cell k).trans (wcs_get _ _ (by rw [HPL.out]; exact hlt))
          have gc : wr.cell? ⟨gz, p, none⟩ = some (wv ((scatter (rowAt i) (V) k z).getD p 0)) := (HC1.out.cell p).trans (wcs_get _ _ (by rw [scatter_len, HZ.out]; exact hp1))
          have gf : wr.frozen? ⟨gz, p, none⟩ = false := HC1.out.frozen p
          generalize wv ((scatter (rowAt i) (V) k z).getD p 0) = old at gc
          have HPL2 := Lib.hid hpl; have HV := Lib.hid hv; clear hpl hv
          have hkd : decide ((k : Int) < 16) = true := by simp; omega
          have hki : (k : Int) < 16 := by omega
          have hpi : (p : Int) < 128 := by omega
          go_wp2
          refine wp_region_ords (fun w' => w'.cell? ⟨b, k, none⟩ = some (.int .u64 (wrd v))) (fun _ _ h => h) (Ords.of [(0, 0), (0, 1), (0, 3), (0, 4), (0, 5), (2, 2), (0, 6), (2, 7)] .fin) (by kernel_rfl) rfl (by kernel_rfl) (by kernel_rfl) (fun c a d v w h => by cases d <;> exact h) gv ?_
          refine ords_pure rfl (fun K hK => ?_); go_simp; refine hK _ ?_; clear hK K
          refine ords_pure rfl (fun K hK => ?_); go_simp; refine hK _ ?_; clear hK K
          refine ords_pure rfl (fun K hK => ?_); go_simp; refine hK _ ?_; clear hK K
          refine ords_pure rfl (fun K hK => ?_); go_simp; refine hK _ ?_; clear hK K
          refine ords_heldK rfl (fun K K2 hK hK2 => ?_); go_simp; refine ⟨hK2 _ (fun w9 hS => ?_), hK _ ?_⟩; (clear hK hK2 K K2; obtain s0 := hS; go_simp); (clear hK hK2 K K2)
          refine ords_loud rfl (fun n1 => ?_)
          go_wp2_with (go_at_call 67; refine (HPL2.out _).mono ?_; rintro e w3 ⟨rfl, rfl⟩); refine ⟨gv, ?_⟩
          refine ords_pure rfl (fun K hK => ?_); go_simp; refine hK _ ?_; clear hK K
          refine ords_loud rfl (fun n2 => ?_)
          go_wp2; refine ⟨by rw [World.cell?_setCell_other _ _ _ _ (by simp <;> omega)]; exact gv, ?_⟩
          refine ords_end (fun n3 => ?_)
          go_wp2
          case roundEnd =>
            have h0 := ((HC0.out.drewN (n1 + n2)).far (p := ⟨gz, p, none⟩) (by simp; omega) (wv v)).drewN n3
            have hne : gi ≠ gz := Blk.ne_ HC2.out HC1.out (by decide)
            have h2 := ((HC2.out.drewN (n1 + n2)).far (p := ⟨gz, p, none⟩) (by simp; omega) (wv v)).drewN n3
            have h1 := ((HC1.out.drewN (n1 + n2)).set_ p (wv v)).drewN n3
            rw [wcs_set] at h1
            refine ⟨⟨k + 1, by omega, by go_num, h0, ?_, h2, gdr (grown_set (gdr HGR.out (n1 + n2)) (p := ⟨gz, p, none⟩) (.inl rfl) (wv v)) n3⟩, by simp [intOf]; omega⟩
            unfold scatter
            rw [← HPP.out, ← HV.out]
            exact h1
        · obtain rfl : k = 16 := by omega
          clear hlt hk
          go_wp2
          go_end0
          refine ⟨rfl, ?_, HGR.out⟩
          have h1 := HC1.out
          rw [← HVV.out, HGG.out] at h1
          exact h1

set_option maxRecDepth 20000 in
set_option maxHeartbeats 4000000 in
theorem put2_any (i gz gi : Nat) (z : List UInt64) (w : World) (hi : i < 8) (hz : z.length = 128) (hg : Blk w gz 100 (wcs z)) (hgi : Blk w gi 3 #[.int .i64 i]) :
    Calls Try.prog 66 #[.func (.func 68) #[] #[.pointer (some ⟨gi, 0, none⟩)], .pointer (some ⟨gz, 0, none⟩)] w fun e w' => e = .returned (.tuple #[]) ∧ Blk w' gz 100 (wcs (putAt (colAt i) z)) ∧ w.grownBy w' (some gz) := by
  have HZ := Lib.hid hz; have HG := Lib.hid hg; have HI := Lib.hid hgi; clear hz hg hgi
  go_enter Try.func66, Try.ntmps66
  go_upto_region 1 with fail
  obtain ⟨G, hG⟩ : ∃ G, G = gather z (colAt i) := ⟨_, rfl⟩
  have HGL : Hid (G.length = 16) := by show _ = _; rw [hG, gather_len]
  have h0 : Blk (w.alloc (.cells #[.int .u64 0, .int .u64 0, .int .u64 0, .int .u64 0, .int .u64 0, .int .u64 0, .int .u64 0, .int .u64 0, .int .u64 0, .int .u64 0, .int .u64 0, .int .u64 0, .int .u64 0, .int .u64 0, .int .u64 0, .int .u64 0] 35)) w.heap.size 35 (wcs (fillW G 0 16)) := by rw [← z16_eq G]; exact Blk.new _ _ _
  have h1 := HG.out.alloc (.cells #[.int .u64 0, .int .u64 0, .int .u64 0, .int .u64 0, .int .u64 0, .int .u64 0, .int .u64 0, .int .u64 0, .int .u64 0, .int .u64 0, .int .u64 0, .int .u64 0, .int .u64 0, .int .u64 0, .int .u64 0, .int .u64 0] 35)
  have h2 := HI.out.alloc (.cells #[.int .u64 0, .int .u64 0, .int .u64 0, .int .u64 0, .int .u64 0, .int .u64 0, .int .u64 0, .int .u64 0, .int .u64 0, .int .u64 0, .int .u64 0, .int .u64 0, .int .u64 0, .int .u64 0, .int .u64 0, .int .u64 0] 35)
  have h3 := bal (b0 w) (.cells #[.int .u64 0, .int .u64 0, .int .u64 0, .int .u64 0, .int .u64 0, .int .u64 0, .int .u64 0, .int .u64 0, .int .u64 0, .int .u64 0, .int .u64 0, .int .u64 0, .int .u64 0, .int .u64 0, .int .u64 0, .int .u64 0] 35)
  obtain ⟨b, hb⟩ : ∃ b, b = w.heap.size := ⟨_, rfl⟩
  have hgzb : gz < b := by rw [hb]; exact HG.out.lt
  have hgib : gi < b := by rw [hb]; exact HI.out.lt
  rw [← hb] at h0 ⊢
  have HB := Lib.hid hb; have HGG := Lib.hid hG; clear hb hG
  generalize w.alloc (.cells #[.int .u64 0, .int .u64 0, .int .u64 0, .int .u64 0, .int .u64 0, .int .u64 0, .int .u64 0, .int .u64 0, .int .u64 0, .int .u64 0, .int .u64 0, .int .u64 0, .int .u64 0, .int .u64 0, .int .u64 0, .int .u64 0] 35) = w0 at *
  go_wp2_with fail
  go_loopw [6] (fun j wr => ∃ k : Nat, k ≤ 16 ∧ j = .int .i64 k ∧ Blk wr b 35 (wcs (fillW G k 16)) ∧ Blk wr gz 100 (wcs z) ∧ Blk wr gi 3 #[.int .i64 i] ∧ Below w.heap.size w wr) (fun j _ => 16 - (intOf j).toNat)
  case atStart => exact ⟨0, by omega, rfl, h0, h1, h2, h3⟩
  case round =>
    clear h0 h1 h2 h3
    obtain ⟨k, hk, rfl, hb0, hb1, hb2, hbw⟩ := hrel
    have HB0 := Lib.hid hb0; have HB1 := Lib.hid hb1; have HB2 := Lib.hid hb2; clear hb0 hb1 hb2
    by_cases hlt : k < 16
    · obtain ⟨p, hp⟩ : ∃ p, p = colAt i k := ⟨_, rfl⟩
      have hp1 : p < 128 := by rw [hp]; exact colAt_lt hi hlt
      have hpl := place2_any i k gi wr hi hlt (HB2.out.cell 0)
      rw [← hp] at hpl
      have gz1 : wr.cell? ⟨gz, p, none⟩ = some (wv (z.getD p 0)) := (HB1.out.cell p).trans (wcs_get _ _ (by rw [HZ.out]; exact hp1))
      obtain ⟨v, hv⟩ : ∃ v, v = z.getD p 0 := ⟨_, rfl⟩
      have hGk : G[k]? = some v := by rw [HGG.out, gather_at z _ k hlt, hv, hp]
      rw [← hv] at gz1
      change wr.cell? ⟨gz, p, none⟩ = some (.int .u64 (wrd v)) at gz1
      have gc : wr.cell? ⟨b, k, none⟩ = some (wv ((fillW G k 16).getD k 0)) := (HB0.out.cell k).trans (wcs_get _ _ (by rw [fillW_len _ _ _ hk HGL.out]; exact hlt))
      have gf : wr.frozen? ⟨b, k, none⟩ = false := HB0.out.frozen k
      generalize wv ((fillW G k 16).getD k 0) = old at gc
      have HPL := Lib.hid hpl; have HGK := Lib.hid hGk; clear hpl hGk hv hp
      go_wp2_with (go_at_call 68; refine HPL.out.mono ?_; rintro e w1 ⟨rfl, rfl⟩)
      case roundEnd =>
        have h1 := HB0.out.set_ k (wv v)
        rw [fillW_put _ k 16 v hlt HGK.out] at h1
        exact ⟨⟨k + 1, by omega, by go_num, h1, HB1.out.far (p := ⟨b, k, none⟩) (by simp; omega) _, HB2.out.far (p := ⟨b, k, none⟩) (by simp; omega) _, bput hbw (by rw [HB.out]; exact Nat.le_refl _) _⟩, by simp [intOf]; omega⟩
    · obtain rfl : k = 16 := by omega
      clear hlt hk
      have h1 := HB0.out
      rw [fillW_all _ 16 HGL.out] at h1
      have H1 := Lib.hid h1; clear h1
      have S1 := Lib.hid (sz16 G HGL.out)
      have hPl : (perm G).length = 16 := by rw [perm_len, HGL.out]
      have S1' := Lib.hid (sz16 (perm G) hPl)
      have S2 := Lib.hid (wcs_all (perm G))
      have S3 : Hid ((wcs G).size = (wcs (perm G)).size) := by show _ = _; rw [wcs_len _ 16 HGL.out, wcs_len _ 16 hPl]
      have HPL := Lib.hid hPl; clear hPl
      have U := Lib.hid Try.underlying35
      go_wp2_with (first
        | (refine wpList_load_row rfl 35 _ rfl b rfl 35 (wcs G) (0, 0) _ H1.out U.out rfl S1.out ?_)
        | (go_at_call 22; refine (perm_any G HGL.out wr).mono ?_; rintro e w1 ⟨rfl, hb1⟩)
        | (refine wpList_store_row rfl 35 _ _ rfl b (wcs (perm G)) rfl rfl 35 (wcs G) (H1.out.below hb1 H1.out.lt) S1'.out S3.out S2.out ?_))
      clear S1 S1' S2 S3 U
      generalize hV : perm G = V at *
      have HVV := Lib.hid hV; clear hV
      have hv0 := (H1.out.below hb1 H1.out.lt).row (wcs (V))
      have hv1 := (HB1.out.below hb1 HB1.out.lt).rowFar (k := b) (by omega) (wcs (V))
      have hv2 := (HB2.out.below hb1 HB2.out.lt).rowFar (k := b) (by omega) (wcs (V))
      have hv3 : w.grownBy (w1.setRow b (wcs (V))) (some gz) := grownOf (brow (bcall hbw hb1) (by rw [HB.out]; exact Nat.le_refl _) _)
      have HV0 := Lib.hid hv0; have HV1 := Lib.hid hv1; have HV2 := Lib.hid hv2; have HV3 := Lib.hid hv3; clear hv0 hv1 hv2 hv3 hb1 hbw
      generalize w1.setRow b (wcs (V)) = w2 at *
      go_loopw [19] (fun j wr => ∃ k : Nat, k ≤ 16 ∧ j = .int .i64 k ∧ Blk wr b 35 (wcs (V)) ∧ Blk wr gz 100 (wcs (scatter (colAt i) (V) k z)) ∧ Blk wr gi 3 #[.int .i64 i] ∧ w.grownBy wr (some gz)) (fun j _ => 16 - (intOf j).toNat)
      case atStart => exact ⟨0, by omega, rfl, HV0.out, HV1.out, HV2.out, HV3.out⟩
      case round =>
        clear HV0 HV1 HV2 HV3
        obtain ⟨k, hk, rfl, hb0, hb1, hb2, hbw⟩ := hrel
        have HC0 := Lib.hid hb0; have HC1 := Lib.hid hb1; have HC2 := Lib.hid hb2; have HGR := Lib.hid hbw; clear hb0 hb1 hb2 hbw
        by_cases hlt : k < 16
        · obtain ⟨p, hp⟩ : ∃ p, p = colAt i k := ⟨_, rfl⟩
          have hp1 : p < 128 := by rw [hp]; exact colAt_lt hi hlt
          have hpl := fun n => place2_any i k gi (wr.drewN n) hi hlt (HC2.out.cell 0)
          rw [← hp] at hpl
          have HPP := Lib.hid hp; clear hp
          obtain ⟨v, hv⟩ : ∃ v, v = (V).getD k 0 := ⟨_, rfl⟩
          have gv : wr.cell? ⟨b, k, none⟩ = some (.int .u64 (wrd v)) := by rw [hv]; exact (HC0.out.cell k).trans (wcs_get _ _ (by rw [HPL.out]; exact hlt))
          have gc : wr.cell? ⟨gz, p, none⟩ = some (wv ((scatter (colAt i) (V) k z).getD p 0)) := (HC1.out.cell p).trans (wcs_get _ _ (by rw [scatter_len, HZ.out]; exact hp1))
          have gf : wr.frozen? ⟨gz, p, none⟩ = false := HC1.out.frozen p
          generalize wv ((scatter (colAt i) (V) k z).getD p 0) = old at gc
          have HPL2 := Lib.hid hpl; have HV := Lib.hid hv; clear hpl hv
          have hkd : decide ((k : Int) < 16) = true := by simp; omega
          have hki : (k : Int) < 16 := by omega
          have hpi : (p : Int) < 128 := by omega
          go_wp2
          refine wp_region_ords (fun w' => w'.cell? ⟨b, k, none⟩ = some (.int .u64 (wrd v))) (fun _ _ h => h) (Ords.of [(0, 0), (0, 1), (0, 3), (0, 4), (0, 5), (2, 2), (0, 6), (2, 7)] .fin) (by kernel_rfl) rfl (by kernel_rfl) (by kernel_rfl) (fun c a d v w h => by cases d <;> exact h) gv ?_
          refine ords_pure rfl (fun K hK => ?_); go_simp; refine hK _ ?_; clear hK K
          refine ords_pure rfl (fun K hK => ?_); go_simp; refine hK _ ?_; clear hK K
          refine ords_pure rfl (fun K hK => ?_); go_simp; refine hK _ ?_; clear hK K
          refine ords_pure rfl (fun K hK => ?_); go_simp; refine hK _ ?_; clear hK K
          refine ords_heldK rfl (fun K K2 hK hK2 => ?_); go_simp; refine ⟨hK2 _ (fun w9 hS => ?_), hK _ ?_⟩; (clear hK hK2 K K2; obtain s0 := hS; go_simp); (clear hK hK2 K K2)
          refine ords_loud rfl (fun n1 => ?_)
          go_wp2_with (go_at_call 68; refine (HPL2.out _).mono ?_; rintro e w3 ⟨rfl, rfl⟩); refine ⟨gv, ?_⟩
          refine ords_pure rfl (fun K hK => ?_); go_simp; refine hK _ ?_; clear hK K
          refine ords_loud rfl (fun n2 => ?_)
          go_wp2; refine ⟨by rw [World.cell?_setCell_other _ _ _ _ (by simp <;> omega)]; exact gv, ?_⟩
          refine ords_end (fun n3 => ?_)
          go_wp2
          case roundEnd =>
            have h0 := ((HC0.out.drewN (n1 + n2)).far (p := ⟨gz, p, none⟩) (by simp; omega) (wv v)).drewN n3
            have hne : gi ≠ gz := Blk.ne_ HC2.out HC1.out (by decide)
            have h2 := ((HC2.out.drewN (n1 + n2)).far (p := ⟨gz, p, none⟩) (by simp; omega) (wv v)).drewN n3
            have h1 := ((HC1.out.drewN (n1 + n2)).set_ p (wv v)).drewN n3
            rw [wcs_set] at h1
            refine ⟨⟨k + 1, by omega, by go_num, h0, ?_, h2, gdr (grown_set (gdr HGR.out (n1 + n2)) (p := ⟨gz, p, none⟩) (.inl rfl) (wv v)) n3⟩, by simp [intOf]; omega⟩
            unfold scatter
            rw [← HPP.out, ← HV.out]
            exact h1
        · obtain rfl : k = 16 := by omega
          clear hlt hk
          go_wp2
          go_end0
          refine ⟨rfl, ?_, HGR.out⟩
          have h1 := HC1.out
          rw [← HVV.out, HGG.out] at h1
          exact h1
end Go.Proofs.Ytnkngaicegcejaa

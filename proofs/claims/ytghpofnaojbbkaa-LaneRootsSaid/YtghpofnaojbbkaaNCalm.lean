/-
  Call of a node that answers, by the program. Contracts alone; no statement is claimed here.
-/
import Derived.Test.YtghpofnaojbbkaaNCall
namespace Go.Proofs.Ytghpofnaojbbkaa
open Go.RowKit
attribute [local go_sem] pureUpon Ords.of

set_option maxRecDepth 20000 in
set_option maxHeartbeats 8000000 in
theorem call_any (big last : Bool) (m : Nat) (sb sk sd : Sl) (b key data : List UInt8) (w : World) (hok : blkOk big b) (hin : CallIn w sb sk sd b key data) (hkey : sk.n = 0 ∨ sk.n = fld b 1 1) (hm : 1 ≤ m ∧ m ≤ bOf big) :
    Calls Try.prog 8 #[.agg (callV (kOf big) sb sk sd last m)] w fun r w' => ∃ A' c', r = .returned (.tuple #[.slice A' m m, .int .i64 0]) ∧ OS cB w' w.heap.size A' c' ((((startK big b key).feed data).out last).take m) ∧ Below w.heap.size w w' := by
  have hlen := hok.len
  have hle := fld1_le hok
  have hma := fun (W : World) hrx hrk => made_any (fld b 0 1) big b key sb.A sk.A sb.n sk.n sb.c sk.c W hin.bl (by rw [← hin.bl, hlen]) hin.kl (by rcases hkey with h | h <;> omega) hrx hrk
  have hkey : ((sk.n : Int) != 0) = false ∨ (((sk.n : Int) != 0) = true ∧ ((sk.n : Int) != ((fld b 1 1 : Nat) : Int)) = false) := by
    by_cases h : sk.n = 0
    · exact .inl (by simpa using h)
    · exact .inr ⟨by simpa using h, by have := hkey.resolve_left h; rw [this]; simp⟩
  have HMA := Lib.hid hma
  clear hle hma
  have hout := fun W (F : List Nat) (q d : Nat) h => outN_any q d m big last b key 0 ((startK big b key).feed data) F W h hm (by rw [Eng.feed_full]; exact startK_full big b key)
  have hmW : ∀ (g k : Nat) (w : World), 0 < k → Sem.run Try.prog (method k (startK big b key).T (.pointer (some ⟨g, 0, none⟩)) "quern/node.write") w = .ok ((startK big b key).fw, .pointer (some ⟨g, 0, none⟩)) w := fun g k w hk => (startK big b key).run_write g k hk w
  have heL : ∀ args w, (callFunc (startK big b key).fw args).run Try.prog w = .ok (.enter (startK big b key).fw args) w := fun args w => (startK big b key).enters_w args w
  have HOUT := Lib.hid hout
  clear hout hm hlen
  by_cases hF : decOk big false b
  · have hdf := fun W hr => decY_any sb.A sb.n sb.c b W hF hin.bl hin.bc.1 hin.bc.2 hr
    have hdt : True := trivial
    clear hF hok
    have tk := kind_tests big
    obtain ⟨d0, e0⟩ : ∃ d, d = fld b 0 1 := ⟨_, rfl⟩
    obtain ⟨d1, e1⟩ : ∃ d, d = fld b 1 1 := ⟨_, rfl⟩
    simp only [← e0, ← e1] at *
    rcases tk with tk1 | ⟨tk1, tk2⟩ <;> rcases hkey with x1 | ⟨x1, x2⟩
    all_goals
      have HDF := Lib.hid hdf; have HDT := Lib.hid hdt; have HIN := Lib.hid hin; clear hdf hdt hin
      generalize kOf big = k at *
      go_enter Try.func8, Try.ntmps8
      have HC := Lib.hid (Blk.new w 37 (callV k sb sk sd last m))
      have HB := Lib.hid (bal (b0 w) (.cells (callV k sb sk sd last m) 37))
      unfold callV
      go_upto_region 1 with fail
      rw [show #[Value.int .i64 k, .slice sb.A sb.n sb.c, .slice sk.A sk.n sk.c, .bool last, .int .i64 m, .slice sd.A sd.n sd.c] = callV k sb sk sd last m from rfl]
      generalize w.alloc (.cells (callV k sb sk sd last m) 37) = u at *
      have c0 : u.cell? ⟨w.heap.size, 0, none⟩ = some (.int .i64 k) := HC.out.cell 0
      have c1 : u.cell? ⟨w.heap.size, 1, none⟩ = some (.slice sb.A sb.n sb.c) := HC.out.cell 1
      have c2 : u.cell? ⟨w.heap.size, 2, none⟩ = some (.slice sk.A sk.n sk.c) := HC.out.cell 2
      have c3 : u.cell? ⟨w.heap.size, 3, none⟩ = some (.bool last) := HC.out.cell 3
      have c4 : u.cell? ⟨w.heap.size, 4, none⟩ = some (.int .i64 m) := HC.out.cell 4
      have c5 : u.cell? ⟨w.heap.size, 5, none⟩ = some (.slice sd.A sd.n sd.c) := HC.out.cell 5
      go_upto_region 3 with fail
      go_wp2_with fail
      refine (HDF.out _ ((HIN.out.below HB.out).br)).mono ?_
      rintro e1 u ⟨X, rfl, hb1⟩
      replace HC := Lib.hid (HC.out.below hb1 HC.out.lt)
      replace HB := Lib.hid (bcall HB.out hb1)
      (try replace HG := Lib.hid (HG.out.below hb1 HG.out.lt))
      clear hb1
      clear c0 c1 c2 c3 c4 c5
      go_upto_region 4 with (first
        | (refine wpList_store_row rfl 52 _ _ rfl u.heap.size (prV d0 d1 X) rfl rfl 52 zcs (Blk.new _ _ _) (prV_size _ _ _) rfl (prV_ones _ _ _) ?_))
      have HG := Lib.hid ((Blk.new u 52 zcs).row (prV d0 d1 X))
      obtain ⟨g, hg⟩ : ∃ g, g = u.heap.size := ⟨_, rfl⟩
      have HG0 := Lib.hid (show w.heap.size ≤ g by rw [hg]; exact HB.out.size)
      have HNE := Lib.hid (show w.heap.size ≠ g by rw [hg]; exact Nat.ne_of_lt HC.out.lt)
      replace HC := Lib.hid ((HC.out.alloc (.cells zcs 52)).rowFar (by rw [hg] at HNE; exact HNE.out) (prV d0 d1 X))
      replace HB := Lib.hid (brow (g := u.heap.size) (bal HB.out (.cells zcs 52)) HB.out.size (prV d0 d1 X))
      have hz : zcs = #[.int .i64 0, .int .i64 0, .int .i64 0, .int .i64 0, .int .u32 0, .int .u64 0, .int .u32 0, .int .i64 0, .int .i64 0, .slice none 0 0, .slice none 0 0] := rfl
      (try rw [← hz])
      clear hz
      rw [← hg] at HG HC HB ⊢
      clear hg
      generalize (u.alloc (.cells zcs 52)).setRow g (prV d0 d1 X) = u at *
      have c0 : u.cell? ⟨w.heap.size, 0, none⟩ = some (.int .i64 k) := HC.out.cell 0
      have c1 : u.cell? ⟨w.heap.size, 1, none⟩ = some (.slice sb.A sb.n sb.c) := HC.out.cell 1
      have c2 : u.cell? ⟨w.heap.size, 2, none⟩ = some (.slice sk.A sk.n sk.c) := HC.out.cell 2
      have c3 : u.cell? ⟨w.heap.size, 3, none⟩ = some (.bool last) := HC.out.cell 3
      have c4 : u.cell? ⟨w.heap.size, 4, none⟩ = some (.int .i64 m) := HC.out.cell 4
      have c5 : u.cell? ⟨w.heap.size, 5, none⟩ = some (.slice sd.A sd.n sd.c) := HC.out.cell 5
      go_upto_region 8 with fail
      have k0 : u.cell? ⟨g, 0, none⟩ = some (.int .i64 d0) := HG.out.cell 0
      have k1 : u.cell? ⟨g, 1, none⟩ = some (.int .i64 d1) := HG.out.cell 1
      go_upto_region 11 with (go_at_call 19; refine (HMA.out _ ((HIN.out.below HB.out).br) ((HIN.out.below HB.out).kr)).mono ?_; rintro e2 u ⟨q, gg, A2, cc2, Ax, Ak2, cx, ck2, rfl, hN, hb, hq, hgq⟩)
      obtain ⟨F, hN1, hF1⟩ : ∃ F, Nd u q big d0 b key false 0 (startK big b key) F ∧ ∀ k, k ∈ F → w.heap.size < k := ⟨_, hN.nd, fun k hk => Nat.lt_of_lt_of_le HC.out.lt (hN.low hq hgq k hk)⟩
      replace HC := Lib.hid (HC.out.below hb HC.out.lt)
      replace HB := Lib.hid (bcall HB.out hb)
      have HN := Lib.hid hN1; have HF := Lib.hid hF1
      clear hN hb hq hgq hN1 hF1 k0 k1
      clear c0 c1 c2 c3 c4 c5
      obtain ⟨ge, hb0, -⟩ := HN.out.engine
      have e4 : u.cell? ⟨q, 4, none⟩ = some (.bool false) := hb0.cell 4
      have f4 := hb0.frozen 4
      have hq1 := hb0.lt
      have c3 : u.cell? ⟨w.heap.size, 3, none⟩ = some (.bool last) := HC.out.cell 3
      clear hb0 ge
      go_upto_region 12 with fail
      have hqw := HF.out q HN.out.here
      replace HN := Lib.hid (HN.out.put4 last)
      replace HC := Lib.hid (HC.out.far (p := ⟨q, 4, none⟩) (Nat.ne_of_lt hqw) (.bool last))
      replace HB := Lib.hid (bput HB.out (p := ⟨q, 4, none⟩) (Nat.le_of_lt hqw) (.bool last))
      generalize u.setCell ⟨q, 4, none⟩ (.bool last) = u at *
      clear e4 f4 hq1 c3 hqw
      obtain ⟨ge, hbk, -⟩ := HN.out.engine
      have c6 : u.cell? ⟨q, 6, none⟩ = some (.iface (startK big b key).T (.pointer (some ⟨ge, 0, none⟩))) := hbk.cell 6
      have hq2 := hbk.lt
      have c5 : u.cell? ⟨w.heap.size, 5, none⟩ = some (.slice sd.A sd.n sd.c) := HC.out.cell 5
      clear hbk
      refine wp_region_ords (fun _ => True) (fun _ _ h => h) (Ords.of [(0, 0), (0, 1), (0, 2), (1, 3), (0, 4), (1, 5), (2, 6)] .fin) (by kernel_rfl) rfl (by kernel_rfl) (by kernel_rfl) (fun c a d v w h => by cases d <;> exact h) trivial ?_
      iterate 3 (refine ords_pure rfl (fun K hK => ?_); go_simp; refine hK _ ?_; clear hK K)
      refine ords_read rfl (fun K hK => ?_); go_simp; refine hK _ ?_; clear hK K
      refine ords_pure rfl (fun K hK => ?_); go_simp; refine hK _ ?_; clear hK K
      refine ords_read rfl (fun K hK => ?_); go_simp; refine hK _ ?_; clear hK K
      refine ords_loud rfl (fun n1 => ?_)
      replace HN := Lib.hid (HN.out.drewN n1)
      replace HC := Lib.hid (HC.out.drewN n1)
      replace HB := Lib.hid (bdr HB.out n1)
      replace c6 := Lib.hid (show (u.drewN n1).cell? ⟨q, 6, none⟩ = _ from c6)
      clear c5 hq2
      generalize u.drewN n1 = u at *
      obtain ⟨ge2, hbk, hcall⟩ := HN.out.engine
      obtain rfl : ge = ge2 := by
        have h := c6.out.symm.trans (hbk.cell 6)
        injection h with h; injection h with _ h; injection h with h; injection h with h; injection h
      have HCALL := Lib.hid (hcall sd.A sd.n sd.c data HIN.out.dl HIN.out.dc.1 HIN.out.dc.2 ((HIN.out.below HB.out).dr) (fun h0 a ha h => Nat.lt_asymm (HIN.out.dr.low h0 a ha) (HF.out _ h)))
      clear hbk hcall c6
      go_wp2_with fail
      refine HCALL.out.mono ?_
      rintro r3 u ⟨rfl, F3, hN3, hF3, hB3⟩
      have hF4 : ∀ k, k ∈ F3 → w.heap.size < k := fun k hk => (hF3 k hk).elim (fun h => HF.out k h) (fun h => Nat.lt_of_lt_of_le HC.out.lt h)
      replace HC := Lib.hid (HC.out.but hB3 (fun h => Nat.lt_irrefl _ (HF.out _ h)))
      replace HB := Lib.hid (HB.out.trans (hB3.toBelow HB.out.size (fun k hk => Nat.le_of_lt (HF.out k hk))))
      clear HN HF
      have HN := Lib.hid hN3
      clear hN3 hF3 hB3 hF4 HCALL
      go_wp2_with fail
      first | (refine ⟨trivial, ?_⟩; refine ords_end (fun n2 => ?_)) | (rintro _ ⟨n2, rfl⟩)
      replace HN := Lib.hid (HN.out.drewN n2)
      replace HC := Lib.hid (HC.out.drewN n2)
      replace HB := Lib.hid (bdr HB.out n2)
      generalize u.drewN n2 = u at *
      have c4 : u.cell? ⟨w.heap.size, 4, none⟩ = some (.int .i64 m) := HC.out.cell 4
      go_wp2_with (go_at_call 20; refine (HOUT.out _ F3 q _ HN.out).mono ?_; rintro r4 w4 ⟨A4, cc4, rfl, ho4, hb4⟩; have HO4 := Lib.hid ho4; have HB4 := Lib.hid hb4; clear ho4 hb4)
      exact bodyPost_ret (results_tmp2 rfl _ _ _) rfl ⟨A4, cc4, rfl, HO4.out.mono HB.out.size, bcall HB.out HB4.out⟩
  · have hT := hok.resolve_left hF
    have hdf := fun W hr => decN_any sb.A sb.n sb.c b W hF hin.bl hin.bc.1 hin.bc.2 hr
    have hdt := fun W hr => decY_any sb.A sb.n sb.c b W hT hin.bl hin.bc.1 hin.bc.2 hr
    clear hF hT hok
    have tk := kind_tests big
    obtain ⟨d0, e0⟩ : ∃ d, d = fld b 0 1 := ⟨_, rfl⟩
    obtain ⟨d1, e1⟩ : ∃ d, d = fld b 1 1 := ⟨_, rfl⟩
    simp only [← e0, ← e1] at *
    rcases tk with tk1 | ⟨tk1, tk2⟩ <;> rcases hkey with x1 | ⟨x1, x2⟩
    all_goals
      have HDF := Lib.hid hdf; have HDT := Lib.hid hdt; have HIN := Lib.hid hin; clear hdf hdt hin
      generalize kOf big = k at *
      go_enter Try.func8, Try.ntmps8
      have HC := Lib.hid (Blk.new w 37 (callV k sb sk sd last m))
      have HB := Lib.hid (bal (b0 w) (.cells (callV k sb sk sd last m) 37))
      unfold callV
      go_upto_region 1 with fail
      rw [show #[Value.int .i64 k, .slice sb.A sb.n sb.c, .slice sk.A sk.n sk.c, .bool last, .int .i64 m, .slice sd.A sd.n sd.c] = callV k sb sk sd last m from rfl]
      generalize w.alloc (.cells (callV k sb sk sd last m) 37) = u at *
      have c0 : u.cell? ⟨w.heap.size, 0, none⟩ = some (.int .i64 k) := HC.out.cell 0
      have c1 : u.cell? ⟨w.heap.size, 1, none⟩ = some (.slice sb.A sb.n sb.c) := HC.out.cell 1
      have c2 : u.cell? ⟨w.heap.size, 2, none⟩ = some (.slice sk.A sk.n sk.c) := HC.out.cell 2
      have c3 : u.cell? ⟨w.heap.size, 3, none⟩ = some (.bool last) := HC.out.cell 3
      have c4 : u.cell? ⟨w.heap.size, 4, none⟩ = some (.int .i64 m) := HC.out.cell 4
      have c5 : u.cell? ⟨w.heap.size, 5, none⟩ = some (.slice sd.A sd.n sd.c) := HC.out.cell 5
      go_upto_region 3 with fail
      go_wp2_with fail
      refine (HDF.out _ ((HIN.out.below HB.out).br)).mono ?_
      rintro e1 u ⟨X, e, rfl, he, hb1⟩
      replace HC := Lib.hid (HC.out.below hb1 HC.out.lt)
      replace HB := Lib.hid (bcall HB.out hb1)
      (try replace HG := Lib.hid (HG.out.below hb1 HG.out.lt))
      clear hb1
      clear c0 c1 c2 c3 c4 c5
      go_upto_region 4 with (first
        | (refine wpList_store_row rfl 52 _ _ rfl u.heap.size (prV X.digest X.key X) rfl rfl 52 zcs (Blk.new _ _ _) (prV_size _ _ _) rfl (prV_ones _ _ _) ?_))
      have HG := Lib.hid ((Blk.new u 52 zcs).row (prV X.digest X.key X))
      obtain ⟨g, hg⟩ : ∃ g, g = u.heap.size := ⟨_, rfl⟩
      have HG0 := Lib.hid (show w.heap.size ≤ g by rw [hg]; exact HB.out.size)
      have HNE := Lib.hid (show w.heap.size ≠ g by rw [hg]; exact Nat.ne_of_lt HC.out.lt)
      replace HC := Lib.hid ((HC.out.alloc (.cells zcs 52)).rowFar (by rw [hg] at HNE; exact HNE.out) (prV X.digest X.key X))
      replace HB := Lib.hid (brow (g := u.heap.size) (bal HB.out (.cells zcs 52)) HB.out.size (prV X.digest X.key X))
      have hz : zcs = #[.int .i64 0, .int .i64 0, .int .i64 0, .int .i64 0, .int .u32 0, .int .u64 0, .int .u32 0, .int .i64 0, .int .i64 0, .slice none 0 0, .slice none 0 0] := rfl
      (try rw [← hz])
      clear hz
      rw [← hg] at HG HC HB ⊢
      clear hg
      generalize (u.alloc (.cells zcs 52)).setRow g (prV X.digest X.key X) = u at *
      have c0 : u.cell? ⟨w.heap.size, 0, none⟩ = some (.int .i64 k) := HC.out.cell 0
      have c1 : u.cell? ⟨w.heap.size, 1, none⟩ = some (.slice sb.A sb.n sb.c) := HC.out.cell 1
      have c2 : u.cell? ⟨w.heap.size, 2, none⟩ = some (.slice sk.A sk.n sk.c) := HC.out.cell 2
      have c3 : u.cell? ⟨w.heap.size, 3, none⟩ = some (.bool last) := HC.out.cell 3
      have c4 : u.cell? ⟨w.heap.size, 4, none⟩ = some (.int .i64 m) := HC.out.cell 4
      have c5 : u.cell? ⟨w.heap.size, 5, none⟩ = some (.slice sd.A sd.n sd.c) := HC.out.cell 5
      go_wp2_with fail
      refine (HDT.out _ ((HIN.out.below HB.out).br)).mono ?_
      rintro e1 u ⟨X, rfl, hb1⟩
      replace HC := Lib.hid (HC.out.below hb1 HC.out.lt)
      replace HB := Lib.hid (bcall HB.out hb1)
      (try replace HG := Lib.hid (HG.out.below hb1 HG.out.lt))
      clear hb1
      clear c0 c1 c2 c3 c4 c5
      go_upto_region 8 with (refine wpList_store_row rfl 52 _ _ rfl g (prV d0 d1 X) rfl rfl 52 _ HG.out (prV_size _ _ _) rfl (prV_ones _ _ _) ?_)
      replace HG := Lib.hid (HG.out.row (prV d0 d1 X))
      replace HC := Lib.hid (HC.out.rowFar HNE.out (prV d0 d1 X))
      replace HB := Lib.hid (brow HB.out HG0.out (prV d0 d1 X))
      generalize u.setRow g (prV d0 d1 X) = u at *
      have c0 : u.cell? ⟨w.heap.size, 0, none⟩ = some (.int .i64 k) := HC.out.cell 0
      have c1 : u.cell? ⟨w.heap.size, 1, none⟩ = some (.slice sb.A sb.n sb.c) := HC.out.cell 1
      have c2 : u.cell? ⟨w.heap.size, 2, none⟩ = some (.slice sk.A sk.n sk.c) := HC.out.cell 2
      have c3 : u.cell? ⟨w.heap.size, 3, none⟩ = some (.bool last) := HC.out.cell 3
      have c4 : u.cell? ⟨w.heap.size, 4, none⟩ = some (.int .i64 m) := HC.out.cell 4
      have c5 : u.cell? ⟨w.heap.size, 5, none⟩ = some (.slice sd.A sd.n sd.c) := HC.out.cell 5
      have k0 : u.cell? ⟨g, 0, none⟩ = some (.int .i64 d0) := HG.out.cell 0
      have k1 : u.cell? ⟨g, 1, none⟩ = some (.int .i64 d1) := HG.out.cell 1
      go_upto_region 11 with (go_at_call 19; refine (HMA.out _ ((HIN.out.below HB.out).br) ((HIN.out.below HB.out).kr)).mono ?_; rintro e2 u ⟨q, gg, A2, cc2, Ax, Ak2, cx, ck2, rfl, hN, hb, hq, hgq⟩)
      obtain ⟨F, hN1, hF1⟩ : ∃ F, Nd u q big d0 b key false 0 (startK big b key) F ∧ ∀ k, k ∈ F → w.heap.size < k := ⟨_, hN.nd, fun k hk => Nat.lt_of_lt_of_le HC.out.lt (hN.low hq hgq k hk)⟩
      replace HC := Lib.hid (HC.out.below hb HC.out.lt)
      replace HB := Lib.hid (bcall HB.out hb)
      have HN := Lib.hid hN1; have HF := Lib.hid hF1
      clear hN hb hq hgq hN1 hF1 k0 k1
      clear c0 c1 c2 c3 c4 c5
      obtain ⟨ge, hb0, -⟩ := HN.out.engine
      have e4 : u.cell? ⟨q, 4, none⟩ = some (.bool false) := hb0.cell 4
      have f4 := hb0.frozen 4
      have hq1 := hb0.lt
      have c3 : u.cell? ⟨w.heap.size, 3, none⟩ = some (.bool last) := HC.out.cell 3
      clear hb0 ge
      go_upto_region 12 with fail
      have hqw := HF.out q HN.out.here
      replace HN := Lib.hid (HN.out.put4 last)
      replace HC := Lib.hid (HC.out.far (p := ⟨q, 4, none⟩) (Nat.ne_of_lt hqw) (.bool last))
      replace HB := Lib.hid (bput HB.out (p := ⟨q, 4, none⟩) (Nat.le_of_lt hqw) (.bool last))
      generalize u.setCell ⟨q, 4, none⟩ (.bool last) = u at *
      clear e4 f4 hq1 c3 hqw
      obtain ⟨ge, hbk, -⟩ := HN.out.engine
      have c6 : u.cell? ⟨q, 6, none⟩ = some (.iface (startK big b key).T (.pointer (some ⟨ge, 0, none⟩))) := hbk.cell 6
      have hq2 := hbk.lt
      have c5 : u.cell? ⟨w.heap.size, 5, none⟩ = some (.slice sd.A sd.n sd.c) := HC.out.cell 5
      clear hbk
      refine wp_region_ords (fun _ => True) (fun _ _ h => h) (Ords.of [(0, 0), (0, 1), (0, 2), (1, 3), (0, 4), (1, 5), (2, 6)] .fin) (by kernel_rfl) rfl (by kernel_rfl) (by kernel_rfl) (fun c a d v w h => by cases d <;> exact h) trivial ?_
      iterate 3 (refine ords_pure rfl (fun K hK => ?_); go_simp; refine hK _ ?_; clear hK K)
      refine ords_read rfl (fun K hK => ?_); go_simp; refine hK _ ?_; clear hK K
      refine ords_pure rfl (fun K hK => ?_); go_simp; refine hK _ ?_; clear hK K
      refine ords_read rfl (fun K hK => ?_); go_simp; refine hK _ ?_; clear hK K
      refine ords_loud rfl (fun n1 => ?_)
      replace HN := Lib.hid (HN.out.drewN n1)
      replace HC := Lib.hid (HC.out.drewN n1)
      replace HB := Lib.hid (bdr HB.out n1)
      replace c6 := Lib.hid (show (u.drewN n1).cell? ⟨q, 6, none⟩ = _ from c6)
      clear c5 hq2
      generalize u.drewN n1 = u at *
      obtain ⟨ge2, hbk, hcall⟩ := HN.out.engine
      obtain rfl : ge = ge2 := by
        have h := c6.out.symm.trans (hbk.cell 6)
        injection h with h; injection h with _ h; injection h with h; injection h with h; injection h
      have HCALL := Lib.hid (hcall sd.A sd.n sd.c data HIN.out.dl HIN.out.dc.1 HIN.out.dc.2 ((HIN.out.below HB.out).dr) (fun h0 a ha h => Nat.lt_asymm (HIN.out.dr.low h0 a ha) (HF.out _ h)))
      clear hbk hcall c6
      go_wp2_with fail
      refine HCALL.out.mono ?_
      rintro r3 u ⟨rfl, F3, hN3, hF3, hB3⟩
      have hF4 : ∀ k, k ∈ F3 → w.heap.size < k := fun k hk => (hF3 k hk).elim (fun h => HF.out k h) (fun h => Nat.lt_of_lt_of_le HC.out.lt h)
      replace HC := Lib.hid (HC.out.but hB3 (fun h => Nat.lt_irrefl _ (HF.out _ h)))
      replace HB := Lib.hid (HB.out.trans (hB3.toBelow HB.out.size (fun k hk => Nat.le_of_lt (HF.out k hk))))
      clear HN HF
      have HN := Lib.hid hN3
      clear hN3 hF3 hB3 hF4 HCALL
      go_wp2_with fail
      first | (refine ⟨trivial, ?_⟩; refine ords_end (fun n2 => ?_)) | (rintro _ ⟨n2, rfl⟩)
      replace HN := Lib.hid (HN.out.drewN n2)
      replace HC := Lib.hid (HC.out.drewN n2)
      replace HB := Lib.hid (bdr HB.out n2)
      generalize u.drewN n2 = u at *
      have c4 : u.cell? ⟨w.heap.size, 4, none⟩ = some (.int .i64 m) := HC.out.cell 4
      go_wp2_with (go_at_call 20; refine (HOUT.out _ F3 q _ HN.out).mono ?_; rintro r4 w4 ⟨A4, cc4, rfl, ho4, hb4⟩; have HO4 := Lib.hid ho4; have HB4 := Lib.hid hb4; clear ho4 hb4)
      exact bodyPost_ret (results_tmp2 rfl _ _ _) rfl ⟨A4, cc4, rfl, HO4.out.mono HB.out.size, bcall HB.out HB4.out⟩
theorem callS_any (k : Int) (last : Bool) (m : Int) (sb sk sd : Sl) (b key data : List UInt8) (w : World) (hin : CallIn w sb sk sd b key data) :
    Calls Try.prog 8 #[.agg (callV k sb sk sd last m)] w fun r w' => ∃ A n c cc, r = .returned (.tuple #[.slice A n cc, .int .i64 (callS k b key last m data).2]) ∧ (callS k b key last m data).1.length = n ∧ n ≤ cc ∧ OS cB w' w.heap.size A c (callS k b key last m data).1 ∧ Below w.heap.size w w' := by
  have hl := hin.kl
  refine call_ways (P := fun R => Calls Try.prog 8 #[.agg (callV k sb sk sd last m)] w fun r w' => ∃ A n c cc, r = .returned (.tuple #[.slice A n cc, .int .i64 R.2]) ∧ R.1.length = n ∧ n ≤ cc ∧ OS cB w' w.heap.size A c R.1 ∧ Below w.heap.size w w') k b key last m data ?_ ?_ ?_ ?_ ?_
  · intro h1 h2
    exact (callKind_any k sb sk sd last m w h1 h2).mono fun r w' ⟨h1, h2⟩ => ⟨none, 0, 0, 0, h1, rfl, Nat.le_refl _, OS.nil _ _ _ rfl, h2⟩
  · rintro big rfl hb
    exact (callNo_any big last m sb sk sd b key data w hb hin).mono fun r w' ⟨h1, h2⟩ => ⟨none, 0, 0, 0, h1, rfl, Nat.le_refl _, OS.nil _ _ _ rfl, h2⟩
  · rintro big rfl hb h1 h2
    exact (callKey_any big last m sb sk sd b key data w hb hin (by rw [← hl]; exact h1) (by rw [← hl]; exact h2)).mono fun r w' ⟨h1, h2⟩ => ⟨none, 0, 0, 0, h1, rfl, Nat.le_refl _, OS.nil _ _ _ rfl, h2⟩
  · rintro big rfl hb h1 hm
    exact (callOut_any big last m sb sk sd b key data w hb hin (by rw [← hl]; exact h1) hm).mono fun r w' ⟨h1, h2⟩ => ⟨none, 0, 0, 0, h1, rfl, Nat.le_refl _, OS.nil _ _ _ rfl, h2⟩
  · rintro big rfl hb h1 n rfl hn
    exact (call_any big last n sb sk sd b key data w hb hin (by rw [← hl]; exact h1) hn).mono fun r w' ⟨A, c, h1, h2, h3⟩ => ⟨A, n, c, n, h1, by rw [List.length_take, Eng.out_len, Eng.feed_full, startK_full]; omega, Nat.le_refl _, h2, h3⟩
end Go.Proofs.Ytghpofnaojbbkaa

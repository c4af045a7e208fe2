/-
  Scripts that several proofs share, each the default argument of a lemma; no statement is claimed here.
-/
import Derived.BigQuiet
import Derived.ChangeMaps5
import Derived.Deep.AppendLies
import Derived.Deep.CondSized
import Derived.Deep.CutRange
import Derived.Deep.Draws
import Derived.Deep.MidRow
import Derived.Deep.OwnRows
import Derived.Deep.QuietTactic
import Derived.Deep.RegionLaw
import Derived.Deep.Slices
import Derived.Great.BuildSlice
import Derived.JoinedCond
import Derived.Laws.CopyOwn
import Derived.Laws.DeepNot64
import Derived.Laws.EntriesVeiled
import Derived.Laws.Externs
import Derived.Laws.IdiomStrings
import Derived.Laws.OwnMore
import Derived.Laws.Rows
import Derived.Lib.BufferRead
import Derived.Lib.Hide
import Derived.Maps.AppendAt
import Derived.OpenShut
import Derived.OrdersHeld
import Derived.Outline
import Derived.ProofKit
import Derived.SizedLaws
import Derived.WalkKit
import Derived.WalkLawsBesides
import Derived.WalkSpells
import Derived.WideShapes
set_option maxRecDepth 1000000
namespace Go.Proofs.YtmapfcdffklopaaGreat
namespace kA
theorem zA : True := trivial
end kA
namespace kB
theorem zB : True := trivial
end kB
namespace kC
theorem zC : True := trivial
end kC
namespace kD
theorem zD : True := trivial
end kD
namespace kE
theorem zE : True := trivial
end kE
theorem zS0 {P : Prop} (h : P := by
 first
  |(guard_expr zA=zA
    obtain rfl : k = 14 := by omega
    obtain rfl : f = 32 := hf;have HFIL : Hid (∀ i, 18 <= i -> i < 32 -> b[i]? = some 0) := fun i h1 h2 => by
     have h3 := HZF.out (i - 18) (by omega)
     rwa [show 18 + (i - 18) = i by omega] at h3
    clear HZF hk hlt;rw [show ((32 : Nat) : Int) = 32 from rfl])
  |(obtain rfl := hrel)
 go_wp2_with fail
 first
  |(guard_expr zA=zA;go_loopw [10, 11, 12, 13] (fun v f _ _ wr => ∃ (k fN : Nat) (A : Option Addr) (c' : Nat), k <= 9 /\ fN = k + 1 /\ f = .int .i64 fN /\ v = .slice A (k + 1) c' /\ OS cN wr w.heap.size A c' ((dvL true ext b).take (k + 1)) /\ Blk wr w.heap.size 81 zcs /\ Below w.heap.size w wr) (fun _ f _ _ _ => 10 - (intOf f).toNat))
  |(go_loopw [10, 11, 12, 13] (fun v f _ _ wr => ∃ (k fN : Nat) (A : Option Addr) (c' : Nat), k <= 9 /\ fN = k + 1 /\ f = .int .i64 fN /\ v = .slice A (k + 1) c' /\ OS cN wr w.heap.size A c' ((dvL false ext b).take (k + 1)) /\ Blk wr w.heap.size 81 zcs /\ Below w.heap.size w wr) (fun _ f _ _ _ => 10 - (intOf f).toNat))
 case atStart => exact ⟨0, 1, _, 1, Nat.zero_le _, rfl, rfl, rfl, (by have h := OS.litN (cd := cN) (w.alloc (.cells zcs 81)) [0] #[.int .u64 0] 1 rfl rfl (by decide); rw [show (w.alloc (.cells zcs 81)).heap.size = w.heap.size + 1 by simp] at h; exact h.mono (Nat.le_succ _)), (Blk.new w 81 zcs).alloc _, bal (bal (b0 w) _) _⟩
 case round =>
  obtain ⟨k, fN, A, c', hk, hfk, rfl, rfl, hos, hk6, hbw⟩ := hrel;have HO := zH hos; have HK6 := zH hk6; have HBW := zH hbw; clear hos hk6 hbw
  by_cases hlt : k < 9
  ·obtain ⟨at_, size, hrow, hfit, hs8, hpc⟩ := HPL fN k hfk hlt
   have HPC := zH hpc; clear hpc;have HLT := zH hlt;have hfd : decide ((fN : Int) <= 9) = true := by simp; omega
   have hf9 : fN <= 9 := by omega
   by_cases h5 : k = 5
   ·have h70 : ((fN : Int) == 6) = true := by simp; omega
    cases ext
    ·first
      |(guard_expr zA=zA;have HFK := zH hfk; have HSZ := zH hs8; have HFT := zH hfit; have HDA := zH (show fld b at_ size = dvAt true false b k from (by unfold dvAt; rw [hrow, if_neg (fun h => by cases h.2)])))
      |(have HFK := zH hfk; have HSZ := zH hs8; have HFT := zH hfit; have HDA := zH (show fld b at_ size = dvAt false false b k from (by unfold dvAt; rw [hrow, if_neg (fun h => by cases h.2)])))
     have hz1 := zH (show (k + 1 + 1) * 8 <= 140737488355328 by omega); have hz2 := zH (show k + 1 + 1 <= 140737488355328 by omega)
     first
      |(guard_expr zA=zA;have hlen := zH (show ((dvL true false b).take (k + 1)).length = k + 1 by rw [aZJ, dvL_len]; omega))
      |(have hlen := zH (show ((dvL false false b).take (k + 1)).length = k + 1 by rw [aZJ, dvL_len]; omega))
     have hrw := zH ((HRB.below HBW).more HBW.size);clear hfk hrow hfit hs8 hk hlt h5;go_wp2_with (first
      | (go_at_call 102; refine (HPC _).mono ?_; rintro e3 w3 ⟨rfl, rfl⟩)
      | (go_at_call 126; refine (HRD at_ size _ hrw.out HFT HSZ).mono ?_; rintro e4 w4 ⟨rfl, rfl⟩)
      | (at_builtin; refine wpList_appS _ cN_ok rfl (.tmp 53) (.tmp 58) rfl (HO.alloc _) rfl hlen.out (RS.one' (cd := cN) (x := fld b at_ size) (cnew _ _ _ rfl)) rfl rfl hz1.out hz2.out (aZL HBW.size (by simp)) ?_; intro A3 c3 w5 hown3 hgrow hat; have hw5 := bapp (bal HBW.out _) (HO.alloc _) hgrow; have HK7 := zH ((HK6.alloc _).grown hgrow (HO.ne_row HK6.out (by show 31 ≠ 81; decide))); have HO5 := zH hown3; have HW5 := zH hw5; clear hown3 hgrow hat hw5))
     case roundEnd => exact ⟨⟨k + 1, fN + 1, A3, c3, HLT.out, by have := HFK.out; omega, by go_num, rfl, by rw [dvL_next _ _ _ k HLT.out]; have h := HO5.out; rw [HDA.out] at h; exact h, HK7.out, HW5.out⟩, by have := HFK.out; have := HLT.out; simp [intOf]; omega⟩
    ·first
      |(guard_expr zA=zA;have HFK := zH hfk; have HSZ := zH (show 4 <= 8 by decide); have HFT := zH (show at_ + 4 <= 64 by have h := hrow; rw [h5] at h; have h2 := congrArg (fun x : Nat × Nat × Nat => x.2.1) h; change 8 = at_ at h2; omega); have HDA := zH (show fld b at_ 4 = dvAt true true b k from (by unfold dvAt; rw [hrow, if_pos ⟨h5, rfl⟩])))
      |(have HFK := zH hfk; have HSZ := zH (show 4 <= 8 by decide); have HFT := zH (show at_ + 4 <= 32 by have h := hrow; rw [h5] at h; have h2 := congrArg (fun x : Nat × Nat × Nat => x.2.1) h; change 8 = at_ at h2; omega); have HDA := zH (show fld b at_ 4 = dvAt false true b k from (by unfold dvAt; rw [hrow, if_pos ⟨h5, rfl⟩])))
     have hz1 := zH (show (k + 1 + 1) * 8 <= 140737488355328 by omega); have hz2 := zH (show k + 1 + 1 <= 140737488355328 by omega)
     first
      |(guard_expr zA=zA;have hlen := zH (show ((dvL true true b).take (k + 1)).length = k + 1 by rw [aZJ, dvL_len]; omega))
      |(have hlen := zH (show ((dvL false true b).take (k + 1)).length = k + 1 by rw [aZJ, dvL_len]; omega))
     have hrw := zH ((HRB.below HBW).more HBW.size);clear hfk hrow hfit hs8 hk hlt h5;go_wp2_with (first
      | (go_at_call 102; refine (HPC _).mono ?_; rintro e3 w3 ⟨rfl, rfl⟩)
      | (go_at_call 126; refine (HRD at_ 4 _ hrw.out HFT HSZ).mono ?_; rintro e4 w4 ⟨rfl, rfl⟩)
      | (at_builtin; refine wpList_appS _ cN_ok rfl (.tmp 53) (.tmp 58) rfl (HO.alloc _) rfl hlen.out (RS.one' (cd := cN) (x := fld b at_ 4) (cnew _ _ _ rfl)) rfl rfl hz1.out hz2.out (aZL HBW.size (by simp)) ?_; intro A3 c3 w5 hown3 hgrow hat; have hw5 := bapp (bal HBW.out _) (HO.alloc _) hgrow; have HK7 := zH ((HK6.alloc _).grown hgrow (HO.ne_row HK6.out (by show 31 ≠ 81; decide))); have HO5 := zH hown3; have HW5 := zH hw5; clear hown3 hgrow hat hw5))
     case roundEnd => exact ⟨⟨k + 1, fN + 1, A3, c3, HLT.out, by have := HFK.out; omega, by go_num, rfl, by rw [dvL_next _ _ _ k HLT.out]; have h := HO5.out; rw [HDA.out] at h; exact h, HK7.out, HW5.out⟩, by have := HFK.out; have := HLT.out; simp [intOf]; omega⟩
   ·have h70 : ((fN : Int) == 6) = false := by simp; omega
    first
     |(guard_expr zA=zA;have HFK := zH hfk; have HSZ := zH hs8; have HFT := zH hfit; have HDA := zH (show fld b at_ size = dvAt true ext b k from (by unfold dvAt; rw [hrow, if_neg (fun h => h5 h.1)])))
     |(have HFK := zH hfk; have HSZ := zH hs8; have HFT := zH hfit; have HDA := zH (show fld b at_ size = dvAt false ext b k from (by unfold dvAt; rw [hrow, if_neg (fun h => h5 h.1)])))
    have hz1 := zH (show (k + 1 + 1) * 8 <= 140737488355328 by omega); have hz2 := zH (show k + 1 + 1 <= 140737488355328 by omega)
    first
     |(guard_expr zA=zA;have hlen := zH (show ((dvL true ext b).take (k + 1)).length = k + 1 by rw [aZJ, dvL_len]; omega))
     |(have hlen := zH (show ((dvL false ext b).take (k + 1)).length = k + 1 by rw [aZJ, dvL_len]; omega))
    have hrw := zH ((HRB.below HBW).more HBW.size);clear hfk hrow hfit hs8 hk hlt h5;go_wp2_with (first
     | (go_at_call 102; refine (HPC _).mono ?_; rintro e3 w3 ⟨rfl, rfl⟩)
     | (go_at_call 126; refine (HRD at_ size _ hrw.out HFT HSZ).mono ?_; rintro e4 w4 ⟨rfl, rfl⟩)
     | (at_builtin; refine wpList_appS _ cN_ok rfl (.tmp 53) (.tmp 58) rfl (HO.alloc _) rfl hlen.out (RS.one' (cd := cN) (x := fld b at_ size) (cnew _ _ _ rfl)) rfl rfl hz1.out hz2.out (aZL HBW.size (by simp)) ?_; intro A3 c3 w5 hown3 hgrow hat; have hw5 := bapp (bal HBW.out _) (HO.alloc _) hgrow; have HK7 := zH ((HK6.alloc _).grown hgrow (HO.ne_row HK6.out (by show 31 ≠ 81; decide))); have HO5 := zH hown3; have HW5 := zH hw5; clear hown3 hgrow hat hw5))
    case roundEnd => exact ⟨⟨k + 1, fN + 1, A3, c3, HLT.out, by have := HFK.out; omega, by go_num, rfl, by rw [dvL_next _ _ _ k HLT.out]; have h := HO5.out; rw [HDA.out] at h; exact h, HK7.out, HW5.out⟩, by have := HFK.out; have := HLT.out; simp [intOf]; omega⟩
  ·obtain rfl : k = 9 := by omega
   obtain rfl : fN = 10 := hfk;rw [show ((10 : Nat) : Int) = 10 from rfl];have hv : OS cN wr w.heap.size A c' [0, d0, d1, d2, d3, d4, o6, x4, d7, d8] := by
    rw [<- HDV.out];have h := HO.out
    rwa [List.take_of_length_le (by rw [dvL_len]; exact aZC _)] at h
   obtain ⟨gv, rfl, hg1, hg2⟩ : ∃ gv, A = some ⟨gv, 0, none⟩ /\ w.heap.size <= gv /\ gv < wr.heap.size := by
    rcases hv.form with ⟨-, -, h⟩ | ⟨gv, h1, h2, h3, -⟩
    ·cases h
    ·exact ⟨gv, h1, h2, h3⟩
   have HNE : Hid (w.heap.size ≠ gv) := fun h => hv.ne_blk HK6 (by show 31 ≠ 81; decide) ⟨gv, 0, none⟩ rfl h.symm
   have HG1 := zH hg1;have HV := zH hv;have HB := HBW;clear HO hv hg1 hlt hk HPL HRD HBW
   cases ext
   ·have c7 := HV.cellN (k := 7) rfl
    have f7 := HV.cellF (k := 7) rfl;go_upto_region 21 with fail
    have hv2 : OS cN (wr.setCell ⟨gv, 7, none⟩ (.int .u64 0)) w.heap.size (some ⟨gv, 0, none⟩) c' [0, d0, d1, d2, d3, d4, o6, 0, d7, d8] := HV.set 7 0;clear HV c7 f7 hg2;have HV := zH hv2;replace HK6 := zH (HK6.far (p := ⟨gv, 7, none⟩) HNE (.int .u64 0));replace HB := zH (bput HB (p := ⟨gv, 7, none⟩) HG1 (.int .u64 0));clear hv2;generalize wr.setCell ⟨gv, 7, none⟩ (.int .u64 0) = v at *;simp only [Bool.false_eq_true, if_false] at HNZ HNY HPR;go_upto_region 22 with (go_at_call 62; refine (HMO _).mono ?_; rintro e1 w1 ⟨rfl, rfl⟩)
    have c1 := HV.cellN (k := 1) rfl; have c2 := HV.cellN (k := 2) rfl; have c3 := HV.cellN (k := 3) rfl; have c4 := HV.cellN (k := 4) rfl; have c5 := HV.cellN (k := 5) rfl; have c6 := HV.cellN (k := 6) rfl; have c7 := HV.cellN (k := 7) rfl; have c8 := HV.cellN (k := 8) rfl; have c9 := HV.cellN (k := 9) rfl;have hgl : gv < v.heap.size := (HV.block_lt _ rfl).2;have l0 := L0.out; have l1 := L1.out; have l2 := L2.out; have l3 := L3.out; have l7 := L7.out; have l8 := L8.out;have w4 : IntKind.u32.wrap (d4 : Int) = (d4 : Int) := W4.out;have wx : IntKind.u32.wrap (x4 : Int) = (x4 : Int) := HXW.out
    first
     |(guard_expr zA=zA
       have s1 : IntKind.i64.wrap 32 = 32 := by kernel_rfl
       have s2 : IntKind.i64.wrap 48 = 48 := by kernel_rfl
       have s3 : (32 : Int).toNat = 32 := rfl;have s4 : (48 : Int).toNat = 48 := rfl;have s5 : (64 : Int).toNat = 64 := rfl;have s6 : (c = 32) = False := by simp only [eq_iff_iff, iff_false]; omega
       have s7 : (c = 48) = False := by simp only [eq_iff_iff, iff_false]; omega
       have s8 : (32 : Int) <= (c : Int) := by omega
       have s9 : (48 : Int) <= (c : Int) := by omega
       have s0 : (64 : Int) <= (c : Int) := by omega
       have sn : IntKind.i64.wrap 64 = 64 := by kernel_rfl
       have sq : IntKind.i64.wrap 16 = 16 := by kernel_rfl
       have a1 : ad.add 32 = ⟨ad.block, ad.off + 32, none⟩ := by unfold Addr.add; rw [if_neg (by decide)]
       have a2 : ad.add 48 = ⟨ad.block, ad.off + 48, none⟩ := by unfold Addr.add; rw [if_neg (by decide)]
       have PS : Hid ((Tryz.prog.info? 81).map (·.size) = some (#[Value.int .i64 d0, .int .i64 d1, .int .i64 d2, .int .i64 d3, .int .u32 d4, .int .u64 (o6), .int .u32 (0), .int .i64 d7, .int .i64 d8, .slice (some ⟨ad.block, ad.off + 32, none⟩) 16 (c - 32), .slice (some ⟨ad.block, ad.off + 48, none⟩) 16 (c - 48)]).size) := Pr.size (⟨d0, d1, d2, d3, d4, o6, 0, d7, d8, ⟨some ⟨ad.block, ad.off + 32, none⟩, 16, c - 32⟩, ⟨some ⟨ad.block, ad.off + 48, none⟩, 16, c - 48⟩⟩ : Pr);have PO : Hid ((#[Value.int .i64 d0, .int .i64 d1, .int .i64 d2, .int .i64 d3, .int .u32 d4, .int .u64 (o6), .int .u32 (0), .int .i64 d7, .int .i64 d8, .slice (some ⟨ad.block, ad.off + 32, none⟩) 16 (c - 32), .slice (some ⟨ad.block, ad.off + 48, none⟩) 16 (c - 48)]).all (·.oneCell') = true) := Pr.ones (⟨d0, d1, d2, d3, d4, o6, 0, d7, d8, ⟨some ⟨ad.block, ad.off + 32, none⟩, 16, c - 32⟩, ⟨some ⟨ad.block, ad.off + 48, none⟩, 16, c - 48⟩⟩ : Pr))
     |(have s1 : IntKind.i64.wrap 16 = 16 := by kernel_rfl
       have s2 : IntKind.i64.wrap 24 = 24 := by kernel_rfl
       have s3 : (16 : Int).toNat = 16 := rfl;have s4 : (24 : Int).toNat = 24 := rfl;have s5 : (32 : Int).toNat = 32 := rfl;have s6 : (c = 16) = False := by simp only [eq_iff_iff, iff_false]; omega
       have s7 : (c = 24) = False := by simp only [eq_iff_iff, iff_false]; omega
       have s8 : (16 : Int) <= (c : Int) := by omega
       have s9 : (24 : Int) <= (c : Int) := by omega
       have s0 : (32 : Int) <= (c : Int) := by omega
       have sn : IntKind.i64.wrap 32 = 32 := by kernel_rfl
       have sq : IntKind.i64.wrap 8 = 8 := by kernel_rfl
       have a1 : ad.add 16 = ⟨ad.block, ad.off + 16, none⟩ := by unfold Addr.add; rw [if_neg (by decide)]
       have a2 : ad.add 24 = ⟨ad.block, ad.off + 24, none⟩ := by unfold Addr.add; rw [if_neg (by decide)]
       have PS : Hid ((Tryz.prog.info? 81).map (·.size) = some (#[Value.int .i64 d0, .int .i64 d1, .int .i64 d2, .int .i64 d3, .int .u32 d4, .int .u64 (o6), .int .u32 (0), .int .i64 d7, .int .i64 d8, .slice (some ⟨ad.block, ad.off + 16, none⟩) 8 (c - 16), .slice (some ⟨ad.block, ad.off + 24, none⟩) 8 (c - 24)]).size) := Pr.size (⟨d0, d1, d2, d3, d4, o6, 0, d7, d8, ⟨some ⟨ad.block, ad.off + 16, none⟩, 8, c - 16⟩, ⟨some ⟨ad.block, ad.off + 24, none⟩, 8, c - 24⟩⟩ : Pr);have PO : Hid ((#[Value.int .i64 d0, .int .i64 d1, .int .i64 d2, .int .i64 d3, .int .u32 d4, .int .u64 (o6), .int .u32 (0), .int .i64 d7, .int .i64 d8, .slice (some ⟨ad.block, ad.off + 16, none⟩) 8 (c - 16), .slice (some ⟨ad.block, ad.off + 24, none⟩) 8 (c - 24)]).all (·.oneCell') = true) := Pr.ones (⟨d0, d1, d2, d3, d4, o6, 0, d7, d8, ⟨some ⟨ad.block, ad.off + 16, none⟩, 8, c - 16⟩, ⟨some ⟨ad.block, ad.off + 24, none⟩, 8, c - 24⟩⟩ : Pr))
    have hu := zH Tryz.underlying81;have HS := zH (b0 v);refine wrZ (fun w' => Below v.heap.size v w') (fun _ n h => bdr h n) (Ords.of [(0, 0), (0, 1), (0, 2), (0, 3), (0, 4), (0, 5), (0, 6), (0, 7), (0, 8), (0, 9), (0, 10), (0, 11), (0, 12), (0, 13), (0, 14), (0, 15), (0, 16), (0, 17), (0, 18), (0, 19), (0, 20), (0, 21), (0, 22), (0, 23), (0, 24), (0, 25), (0, 26), (0, 27), (0, 28), (0, 29), (0, 30), (0, 31), (0, 32), (0, 33), (0, 34), (0, 35), (0, 36), (0, 37), (0, 38), (0, 39), (0, 40), (0, 41), (0, 42), (0, 43), (0, 44), (0, 45), (0, 46), (0, 47), (2, 48), (2, 49)] .fin) (b0 v) ?_
    iterate 6 (refine ords_pure rfl (fun K hK => ?_); go_simp; refine hK _ ?_; clear hK K; refine ords_pure rfl (fun K hK => ?_); go_simp; refine hK _ ?_; clear hK K; refine ords_heldK rfl (fun K K2 hK hK2 => ?_); go_simp; refine ⟨hK2 _ (fun w9 hS => ?_), hK _ ?_⟩; (clear hK hK2 K K2; have q1 := (hS.cell (p := ⟨gv, 1, none⟩) hgl).trans c1; have q2 := (hS.cell (p := ⟨gv, 2, none⟩) hgl).trans c2; have q3 := (hS.cell (p := ⟨gv, 3, none⟩) hgl).trans c3; have q4 := (hS.cell (p := ⟨gv, 4, none⟩) hgl).trans c4; have q5 := (hS.cell (p := ⟨gv, 5, none⟩) hgl).trans c5; have q6 := (hS.cell (p := ⟨gv, 6, none⟩) hgl).trans c6; have q7 := (hS.cell (p := ⟨gv, 7, none⟩) hgl).trans c7; have q8 := (hS.cell (p := ⟨gv, 8, none⟩) hgl).trans c8; have q9 := (hS.cell (p := ⟨gv, 9, none⟩) hgl).trans c9; clear hS; go_simp); (clear hK hK2 K K2); refine ords_pure rfl (fun K hK => ?_); go_simp; refine hK _ ?_; clear hK K)
    iterate 3 (refine ords_pure rfl (fun K hK => ?_); go_simp; refine hK _ ?_; clear hK K; refine ords_heldK rfl (fun K K2 hK hK2 => ?_); go_simp; refine ⟨hK2 _ (fun w9 hS => ?_), hK _ ?_⟩; (clear hK hK2 K K2; have q1 := (hS.cell (p := ⟨gv, 1, none⟩) hgl).trans c1; have q2 := (hS.cell (p := ⟨gv, 2, none⟩) hgl).trans c2; have q3 := (hS.cell (p := ⟨gv, 3, none⟩) hgl).trans c3; have q4 := (hS.cell (p := ⟨gv, 4, none⟩) hgl).trans c4; have q5 := (hS.cell (p := ⟨gv, 5, none⟩) hgl).trans c5; have q6 := (hS.cell (p := ⟨gv, 6, none⟩) hgl).trans c6; have q7 := (hS.cell (p := ⟨gv, 7, none⟩) hgl).trans c7; have q8 := (hS.cell (p := ⟨gv, 8, none⟩) hgl).trans c8; have q9 := (hS.cell (p := ⟨gv, 9, none⟩) hgl).trans c9; clear hS; go_simp); (clear hK hK2 K K2); refine ords_pure rfl (fun K hK => ?_); go_simp; refine hK _ ?_; clear hK K; refine ords_pure rfl (fun K hK => ?_); go_simp; refine hK _ ?_; clear hK K)
    iterate 12 (refine ords_pure rfl (fun K hK => ?_); go_simp; refine hK _ ?_; clear hK K)
    refine ords_loud rfl (fun n1 => ?_);replace HS := zH (bdr HS n1)
    (try replace HK15 := zH (HK15.drewN n1))
    generalize v.drewN n1 = v at *;go_wp2_with fail;have hz : zcs = #[.int .i64 0, .int .i64 0, .int .i64 0, .int .i64 0, .int .u32 0, .int .u64 0, .int .u32 0, .int .i64 0, .int .i64 0, .slice none 0 0, .slice none 0 0] := rfl;rw [<- hz];clear hz;have HK15 := zH (Blk.new v 81 zcs);obtain ⟨g, hg⟩ : ∃ g, g = v.heap.size := ⟨_, rfl⟩;have HGL := zH (show _ <= g from aZL HS.size (Nat.le_of_eq hg.symm));have HNE6 : Hid (w.heap.size ≠ g) := Nat.ne_of_lt (Nat.lt_of_lt_of_le HK6.lt HGL);rw [<- hg] at HK15 ⊢;clear hg;replace HS := zH (bal HS (.cells zcs 81));generalize v.alloc (.cells zcs 81) = v at *;refine ⟨HS.out, ?_⟩;refine ords_loud rfl (fun n2 => ?_);replace HS := zH (bdr HS n2)
    (try replace HK15 := zH (HK15.drewN n2))
    generalize v.drewN n2 = v at *;go_wp2_with (refine aZE rfl 81 _ _ rfl g _ rfl rfl 81 zcs HK15 PS rfl PO ?_)
    first
     |(guard_expr zA=zA
       replace HK15 := zH (HK15.row #[Value.int .i64 d0, .int .i64 d1, .int .i64 d2, .int .i64 d3, .int .u32 d4, .int .u64 (o6), .int .u32 (0), .int .i64 d7, .int .i64 d8, .slice (some ⟨ad.block, ad.off + 32, none⟩) 16 (c - 32), .slice (some ⟨ad.block, ad.off + 48, none⟩) 16 (c - 48)]);replace HS := zH (brow HS HGL #[Value.int .i64 d0, .int .i64 d1, .int .i64 d2, .int .i64 d3, .int .u32 d4, .int .u64 (o6), .int .u32 (0), .int .i64 d7, .int .i64 d8, .slice (some ⟨ad.block, ad.off + 32, none⟩) 16 (c - 32), .slice (some ⟨ad.block, ad.off + 48, none⟩) 16 (c - 48)]);generalize v.setRow g #[Value.int .i64 d0, .int .i64 d1, .int .i64 d2, .int .i64 d3, .int .u32 d4, .int .u64 (o6), .int .u32 (0), .int .i64 d7, .int .i64 d8, .slice (some ⟨ad.block, ad.off + 32, none⟩) 16 (c - 32), .slice (some ⟨ad.block, ad.off + 48, none⟩) 16 (c - 48)] = v at *)
     |(replace HK15 := zH (HK15.row #[Value.int .i64 d0, .int .i64 d1, .int .i64 d2, .int .i64 d3, .int .u32 d4, .int .u64 (o6), .int .u32 (0), .int .i64 d7, .int .i64 d8, .slice (some ⟨ad.block, ad.off + 16, none⟩) 8 (c - 16), .slice (some ⟨ad.block, ad.off + 24, none⟩) 8 (c - 24)])
       replace HS := zH (brow HS HGL #[Value.int .i64 d0, .int .i64 d1, .int .i64 d2, .int .i64 d3, .int .u32 d4, .int .u64 (o6), .int .u32 (0), .int .i64 d7, .int .i64 d8, .slice (some ⟨ad.block, ad.off + 16, none⟩) 8 (c - 16), .slice (some ⟨ad.block, ad.off + 24, none⟩) 8 (c - 24)]);generalize v.setRow g #[Value.int .i64 d0, .int .i64 d1, .int .i64 d2, .int .i64 d3, .int .u32 d4, .int .u64 (o6), .int .u32 (0), .int .i64 d7, .int .i64 d8, .slice (some ⟨ad.block, ad.off + 16, none⟩) 8 (c - 16), .slice (some ⟨ad.block, ad.off + 24, none⟩) 8 (c - 24)] = v at *)
    refine ⟨HS.out, ?_⟩;refine ords_end (fun n3 => ?_);replace HS := zH (bdr HS n3)
    (try replace HK15 := zH (HK15.drewN n3))
    generalize v.drewN n3 = v at *;replace HK6 := zH (HK6.below HS HK6.lt);replace HB := zH (bcall HB HS);clear HS c1 c2 c3 c4 c5 c6 c7 c8 c9 hgl HV s1 s2 s3 s4 s5 s6 s7 s8 s9 s0 sn sq a1 a2
    by_cases hE0 : E = 0
    ·first
      |(guard_expr zA=zA;have HOK : Hid (decOk true false b) := ⟨HLB.out, (fun _ => HFIL.out), (fun h => nomatch h), by rw [<- HEE.out]; exact hE0⟩)
      |(have HOK : Hid (decOk false false b) := ⟨HLB.out, (fun h => nomatch h), (fun h => nomatch h), by rw [<- HEE.out]; exact hE0⟩)
     have HE0 := zH hE0; clear hE0;go_wp2_with (first
      | (refine aZH rfl 81 _ rfl g rfl 81 _ (0, 0) _ HK15 hu.out rfl PS ?_)
      | (go_at_call 127; refine (HNY _ HE0 ((HRB.below HB).more HB.size)).mono ?_; rintro e8 v ⟨A1, t1, c1, A2, t2, c2, rfl, hT1, hT2, ho1, ho2, hb8⟩; have HT1 := zH hT1; have HT2 := zH hT2; have HO1 := zH (ho1.mono HB.size); have HO2 := zH (ho2.mono HB.size); replace HK6 := zH (HK6.below hb8 HK6.lt); replace HB := zH (bcall HB hb8); have PS2 : Hid ((Tryz.prog.info? 81).map (·.size) = some (#[Value.int .i64 d0, .int .i64 d1, .int .i64 d2, .int .i64 d3, .int .u32 d4, .int .u64 (o6), .int .u32 (0), .int .i64 d7, .int .i64 d8, .slice A1 t1 c1, .slice A2 t2 c2]).size) := Pr.size (⟨d0, d1, d2, d3, d4, o6, 0, d7, d8, ⟨A1, t1, c1⟩, ⟨A2, t2, c2⟩⟩ : Pr); have PO2 : Hid ((#[Value.int .i64 d0, .int .i64 d1, .int .i64 d2, .int .i64 d3, .int .u32 d4, .int .u64 (o6), .int .u32 (0), .int .i64 d7, .int .i64 d8, .slice A1 t1 c1, .slice A2 t2 c2]).all (·.oneCell') = true) := Pr.ones (⟨d0, d1, d2, d3, d4, o6, 0, d7, d8, ⟨A1, t1, c1⟩, ⟨A2, t2, c2⟩⟩ : Pr); clear hb8 hT1 hT2 ho1 ho2)
      | (refine aZE rfl 81 _ _ rfl w.heap.size _ rfl rfl 81 zcs HK6 PS2 rfl PO2 ?_))
     refine aZB (results_cell_tmp rfl _ _ w.heap.size 81 _ _ rfl (Blk.row HK6.out _) Tryz.underlying81 rfl PS2.out) rfl (Or.inl ⟨HOK.out, A1, t1, c1, A2, t2, c2, by rw [HPR.out]; rfl, HT1.out, HT2.out, ?_, ?_, brow HB.out (aZC _) _⟩)
     ·exact HO1.of_block (fun a ha => bZC v _ _ _ (HO1.ne_blk HK6 (by show 5 ≠ 81; decide) a ha))
     ·exact HO2.of_block (fun a ha => bZC v _ _ _ (HO2.ne_blk HK6 (by show 5 ≠ 81; decide) a ha))
    ·first
      |(guard_expr zA=zA;have HNO3 : Hid (¬ decOk true false b) := fun h => hE0 (by rw [HEE.out]; exact h.2.2.2))
      |(have HNO3 : Hid (¬ decOk false false b) := fun h => hE0 (by rw [HEE.out]; exact h.2.2.2))
     have HE0 := zH hE0; clear hE0;go_wp2_with (first
      | (refine aZH rfl 81 _ rfl g rfl 81 _ (0, 0) _ HK15 hu.out rfl PS ?_)
      | (go_at_call 127; refine (HNZ _ HE0).mono ?_; rintro e7 v ⟨rfl, hb7⟩; replace HK6 := zH (HK6.below hb7 HK6.lt); replace HB := zH (bcall HB hb7); clear hb7)
      | (refine aZE rfl 81 _ _ rfl w.heap.size _ rfl rfl 81 zcs HK6 ZS rfl ZO ?_))
     exact aZB (results_cell_tmp rfl _ _ w.heap.size 81 zcs _ rfl (Blk.row HK6 _) Tryz.underlying81 rfl ZS) rfl (Or.inr ⟨HNO3.out, E, rfl, HE0.out, brow HB (aZC _) _⟩)
   ·simp only [if_true] at HNZ HNY HPR
    have c7 := HV.cellN (k := 7) rfl
    by_cases hx0 : x4 = 0
    ·have t6 : ((x4 : Int) == 0) = true := by rw [hx0]; rfl
     first
      |(guard_expr zA=zA;have HNO2 : Hid (¬ decOk true true b) := fun h => h.2.2.1 rfl (by have h1 := EX.out; rw [hx0] at h1; exact h1.symm))
      |(have HNO2 : Hid (¬ decOk false true b) := fun h => h.2.2.1 rfl (by have h1 := EX.out; rw [hx0] at h1; exact h1.symm))
     clear hx0;go_wp2_with (refine aZE rfl 81 _ _ rfl w.heap.size _ rfl rfl 81 zcs HK6 ZS rfl ZO ?_);exact aZB (results_cell_tmp rfl _ _ w.heap.size 81 zcs _ rfl (Blk.row HK6 _) Tryz.underlying81 rfl ZS) rfl (Or.inr ⟨HNO2.out, 24, rfl, (by decide), brow HB (aZC _) _⟩)
    ·have t6 : ((x4 : Int) == 0) = false := by simpa using hx0
     have HX0 := zH hx0; clear hx0;go_upto_region 21 with fail
     clear c7 t6 hg2;generalize hvw : wr = v at *;clear hvw;go_upto_region 22 with (go_at_call 62; refine (HMO _).mono ?_; rintro e1 w1 ⟨rfl, rfl⟩)
     have c1 := HV.cellN (k := 1) rfl; have c2 := HV.cellN (k := 2) rfl; have c3 := HV.cellN (k := 3) rfl; have c4 := HV.cellN (k := 4) rfl; have c5 := HV.cellN (k := 5) rfl; have c6 := HV.cellN (k := 6) rfl; have c7 := HV.cellN (k := 7) rfl; have c8 := HV.cellN (k := 8) rfl; have c9 := HV.cellN (k := 9) rfl;have hgl : gv < v.heap.size := (HV.block_lt _ rfl).2;have l0 := L0.out; have l1 := L1.out; have l2 := L2.out; have l3 := L3.out; have l7 := L7.out; have l8 := L8.out;have w4 : IntKind.u32.wrap (d4 : Int) = (d4 : Int) := W4.out;have wx : IntKind.u32.wrap (x4 : Int) = (x4 : Int) := HXW.out
     first
      |(guard_expr zA=zA
        have s1 : IntKind.i64.wrap 32 = 32 := by kernel_rfl
        have s2 : IntKind.i64.wrap 48 = 48 := by kernel_rfl
        have s3 : (32 : Int).toNat = 32 := rfl;have s4 : (48 : Int).toNat = 48 := rfl;have s5 : (64 : Int).toNat = 64 := rfl;have s6 : (c = 32) = False := by simp only [eq_iff_iff, iff_false]; omega
        have s7 : (c = 48) = False := by simp only [eq_iff_iff, iff_false]; omega
        have s8 : (32 : Int) <= (c : Int) := by omega
        have s9 : (48 : Int) <= (c : Int) := by omega
        have s0 : (64 : Int) <= (c : Int) := by omega
        have sn : IntKind.i64.wrap 64 = 64 := by kernel_rfl
        have sq : IntKind.i64.wrap 16 = 16 := by kernel_rfl
        have a1 : ad.add 32 = ⟨ad.block, ad.off + 32, none⟩ := by unfold Addr.add; rw [if_neg (by decide)]
        have a2 : ad.add 48 = ⟨ad.block, ad.off + 48, none⟩ := by unfold Addr.add; rw [if_neg (by decide)]
        have PS : Hid ((Tryz.prog.info? 81).map (·.size) = some (#[Value.int .i64 d0, .int .i64 d1, .int .i64 d2, .int .i64 d3, .int .u32 d4, .int .u64 (o6), .int .u32 (x4), .int .i64 d7, .int .i64 d8, .slice (some ⟨ad.block, ad.off + 32, none⟩) 16 (c - 32), .slice (some ⟨ad.block, ad.off + 48, none⟩) 16 (c - 48)]).size) := Pr.size (⟨d0, d1, d2, d3, d4, o6, x4, d7, d8, ⟨some ⟨ad.block, ad.off + 32, none⟩, 16, c - 32⟩, ⟨some ⟨ad.block, ad.off + 48, none⟩, 16, c - 48⟩⟩ : Pr);have PO : Hid ((#[Value.int .i64 d0, .int .i64 d1, .int .i64 d2, .int .i64 d3, .int .u32 d4, .int .u64 (o6), .int .u32 (x4), .int .i64 d7, .int .i64 d8, .slice (some ⟨ad.block, ad.off + 32, none⟩) 16 (c - 32), .slice (some ⟨ad.block, ad.off + 48, none⟩) 16 (c - 48)]).all (·.oneCell') = true) := Pr.ones (⟨d0, d1, d2, d3, d4, o6, x4, d7, d8, ⟨some ⟨ad.block, ad.off + 32, none⟩, 16, c - 32⟩, ⟨some ⟨ad.block, ad.off + 48, none⟩, 16, c - 48⟩⟩ : Pr))
      |(have s1 : IntKind.i64.wrap 16 = 16 := by kernel_rfl
        have s2 : IntKind.i64.wrap 24 = 24 := by kernel_rfl
        have s3 : (16 : Int).toNat = 16 := rfl;have s4 : (24 : Int).toNat = 24 := rfl;have s5 : (32 : Int).toNat = 32 := rfl;have s6 : (c = 16) = False := by simp only [eq_iff_iff, iff_false]; omega
        have s7 : (c = 24) = False := by simp only [eq_iff_iff, iff_false]; omega
        have s8 : (16 : Int) <= (c : Int) := by omega
        have s9 : (24 : Int) <= (c : Int) := by omega
        have s0 : (32 : Int) <= (c : Int) := by omega
        have sn : IntKind.i64.wrap 32 = 32 := by kernel_rfl
        have sq : IntKind.i64.wrap 8 = 8 := by kernel_rfl
        have a1 : ad.add 16 = ⟨ad.block, ad.off + 16, none⟩ := by unfold Addr.add; rw [if_neg (by decide)]
        have a2 : ad.add 24 = ⟨ad.block, ad.off + 24, none⟩ := by unfold Addr.add; rw [if_neg (by decide)]
        have PS : Hid ((Tryz.prog.info? 81).map (·.size) = some (#[Value.int .i64 d0, .int .i64 d1, .int .i64 d2, .int .i64 d3, .int .u32 d4, .int .u64 (o6), .int .u32 (x4), .int .i64 d7, .int .i64 d8, .slice (some ⟨ad.block, ad.off + 16, none⟩) 8 (c - 16), .slice (some ⟨ad.block, ad.off + 24, none⟩) 8 (c - 24)]).size) := Pr.size (⟨d0, d1, d2, d3, d4, o6, x4, d7, d8, ⟨some ⟨ad.block, ad.off + 16, none⟩, 8, c - 16⟩, ⟨some ⟨ad.block, ad.off + 24, none⟩, 8, c - 24⟩⟩ : Pr);have PO : Hid ((#[Value.int .i64 d0, .int .i64 d1, .int .i64 d2, .int .i64 d3, .int .u32 d4, .int .u64 (o6), .int .u32 (x4), .int .i64 d7, .int .i64 d8, .slice (some ⟨ad.block, ad.off + 16, none⟩) 8 (c - 16), .slice (some ⟨ad.block, ad.off + 24, none⟩) 8 (c - 24)]).all (·.oneCell') = true) := Pr.ones (⟨d0, d1, d2, d3, d4, o6, x4, d7, d8, ⟨some ⟨ad.block, ad.off + 16, none⟩, 8, c - 16⟩, ⟨some ⟨ad.block, ad.off + 24, none⟩, 8, c - 24⟩⟩ : Pr))
     have hu := zH Tryz.underlying81;have HS := zH (b0 v);refine wrZ (fun w' => Below v.heap.size v w') (fun _ n h => bdr h n) (Ords.of [(0, 0), (0, 1), (0, 2), (0, 3), (0, 4), (0, 5), (0, 6), (0, 7), (0, 8), (0, 9), (0, 10), (0, 11), (0, 12), (0, 13), (0, 14), (0, 15), (0, 16), (0, 17), (0, 18), (0, 19), (0, 20), (0, 21), (0, 22), (0, 23), (0, 24), (0, 25), (0, 26), (0, 27), (0, 28), (0, 29), (0, 30), (0, 31), (0, 32), (0, 33), (0, 34), (0, 35), (0, 36), (0, 37), (0, 38), (0, 39), (0, 40), (0, 41), (0, 42), (0, 43), (0, 44), (0, 45), (0, 46), (0, 47), (2, 48), (2, 49)] .fin) (b0 v) ?_
     iterate 6 (refine ords_pure rfl (fun K hK => ?_); go_simp; refine hK _ ?_; clear hK K; refine ords_pure rfl (fun K hK => ?_); go_simp; refine hK _ ?_; clear hK K; refine ords_heldK rfl (fun K K2 hK hK2 => ?_); go_simp; refine ⟨hK2 _ (fun w9 hS => ?_), hK _ ?_⟩; (clear hK hK2 K K2; have q1 := (hS.cell (p := ⟨gv, 1, none⟩) hgl).trans c1; have q2 := (hS.cell (p := ⟨gv, 2, none⟩) hgl).trans c2; have q3 := (hS.cell (p := ⟨gv, 3, none⟩) hgl).trans c3; have q4 := (hS.cell (p := ⟨gv, 4, none⟩) hgl).trans c4; have q5 := (hS.cell (p := ⟨gv, 5, none⟩) hgl).trans c5; have q6 := (hS.cell (p := ⟨gv, 6, none⟩) hgl).trans c6; have q7 := (hS.cell (p := ⟨gv, 7, none⟩) hgl).trans c7; have q8 := (hS.cell (p := ⟨gv, 8, none⟩) hgl).trans c8; have q9 := (hS.cell (p := ⟨gv, 9, none⟩) hgl).trans c9; clear hS; go_simp); (clear hK hK2 K K2); refine ords_pure rfl (fun K hK => ?_); go_simp; refine hK _ ?_; clear hK K)
     iterate 3 (refine ords_pure rfl (fun K hK => ?_); go_simp; refine hK _ ?_; clear hK K; refine ords_heldK rfl (fun K K2 hK hK2 => ?_); go_simp; refine ⟨hK2 _ (fun w9 hS => ?_), hK _ ?_⟩; (clear hK hK2 K K2; have q1 := (hS.cell (p := ⟨gv, 1, none⟩) hgl).trans c1; have q2 := (hS.cell (p := ⟨gv, 2, none⟩) hgl).trans c2; have q3 := (hS.cell (p := ⟨gv, 3, none⟩) hgl).trans c3; have q4 := (hS.cell (p := ⟨gv, 4, none⟩) hgl).trans c4; have q5 := (hS.cell (p := ⟨gv, 5, none⟩) hgl).trans c5; have q6 := (hS.cell (p := ⟨gv, 6, none⟩) hgl).trans c6; have q7 := (hS.cell (p := ⟨gv, 7, none⟩) hgl).trans c7; have q8 := (hS.cell (p := ⟨gv, 8, none⟩) hgl).trans c8; have q9 := (hS.cell (p := ⟨gv, 9, none⟩) hgl).trans c9; clear hS; go_simp); (clear hK hK2 K K2); refine ords_pure rfl (fun K hK => ?_); go_simp; refine hK _ ?_; clear hK K; refine ords_pure rfl (fun K hK => ?_); go_simp; refine hK _ ?_; clear hK K)
     iterate 12 (refine ords_pure rfl (fun K hK => ?_); go_simp; refine hK _ ?_; clear hK K)
     refine ords_loud rfl (fun n1 => ?_);replace HS := zH (bdr HS n1)
     (try replace HK15 := zH (HK15.drewN n1))
     generalize v.drewN n1 = v at *;go_wp2_with fail;have hz : zcs = #[.int .i64 0, .int .i64 0, .int .i64 0, .int .i64 0, .int .u32 0, .int .u64 0, .int .u32 0, .int .i64 0, .int .i64 0, .slice none 0 0, .slice none 0 0] := rfl;rw [<- hz];clear hz;have HK15 := zH (Blk.new v 81 zcs);obtain ⟨g, hg⟩ : ∃ g, g = v.heap.size := ⟨_, rfl⟩;have HGL := zH (show _ <= g from aZL HS.size (Nat.le_of_eq hg.symm));have HNE6 : Hid (w.heap.size ≠ g) := Nat.ne_of_lt (Nat.lt_of_lt_of_le HK6.lt HGL);rw [<- hg] at HK15 ⊢;clear hg;replace HS := zH (bal HS (.cells zcs 81));generalize v.alloc (.cells zcs 81) = v at *;refine ⟨HS.out, ?_⟩;refine ords_loud rfl (fun n2 => ?_);replace HS := zH (bdr HS n2)
     (try replace HK15 := zH (HK15.drewN n2))
     generalize v.drewN n2 = v at *;go_wp2_with (refine aZE rfl 81 _ _ rfl g _ rfl rfl 81 zcs HK15 PS rfl PO ?_)
     first
      |(guard_expr zA=zA
        replace HK15 := zH (HK15.row #[Value.int .i64 d0, .int .i64 d1, .int .i64 d2, .int .i64 d3, .int .u32 d4, .int .u64 (o6), .int .u32 (x4), .int .i64 d7, .int .i64 d8, .slice (some ⟨ad.block, ad.off + 32, none⟩) 16 (c - 32), .slice (some ⟨ad.block, ad.off + 48, none⟩) 16 (c - 48)]);replace HS := zH (brow HS HGL #[Value.int .i64 d0, .int .i64 d1, .int .i64 d2, .int .i64 d3, .int .u32 d4, .int .u64 (o6), .int .u32 (x4), .int .i64 d7, .int .i64 d8, .slice (some ⟨ad.block, ad.off + 32, none⟩) 16 (c - 32), .slice (some ⟨ad.block, ad.off + 48, none⟩) 16 (c - 48)]);generalize v.setRow g #[Value.int .i64 d0, .int .i64 d1, .int .i64 d2, .int .i64 d3, .int .u32 d4, .int .u64 (o6), .int .u32 (x4), .int .i64 d7, .int .i64 d8, .slice (some ⟨ad.block, ad.off + 32, none⟩) 16 (c - 32), .slice (some ⟨ad.block, ad.off + 48, none⟩) 16 (c - 48)] = v at *)
      |(replace HK15 := zH (HK15.row #[Value.int .i64 d0, .int .i64 d1, .int .i64 d2, .int .i64 d3, .int .u32 d4, .int .u64 (o6), .int .u32 (x4), .int .i64 d7, .int .i64 d8, .slice (some ⟨ad.block, ad.off + 16, none⟩) 8 (c - 16), .slice (some ⟨ad.block, ad.off + 24, none⟩) 8 (c - 24)])
        replace HS := zH (brow HS HGL #[Value.int .i64 d0, .int .i64 d1, .int .i64 d2, .int .i64 d3, .int .u32 d4, .int .u64 (o6), .int .u32 (x4), .int .i64 d7, .int .i64 d8, .slice (some ⟨ad.block, ad.off + 16, none⟩) 8 (c - 16), .slice (some ⟨ad.block, ad.off + 24, none⟩) 8 (c - 24)]);generalize v.setRow g #[Value.int .i64 d0, .int .i64 d1, .int .i64 d2, .int .i64 d3, .int .u32 d4, .int .u64 (o6), .int .u32 (x4), .int .i64 d7, .int .i64 d8, .slice (some ⟨ad.block, ad.off + 16, none⟩) 8 (c - 16), .slice (some ⟨ad.block, ad.off + 24, none⟩) 8 (c - 24)] = v at *)
     refine ⟨HS.out, ?_⟩;refine ords_end (fun n3 => ?_);replace HS := zH (bdr HS n3)
     (try replace HK15 := zH (HK15.drewN n3))
     generalize v.drewN n3 = v at *;replace HK6 := zH (HK6.below HS HK6.lt);replace HB := zH (bcall HB HS);clear HS c1 c2 c3 c4 c5 c6 c7 c8 c9 hgl HV s1 s2 s3 s4 s5 s6 s7 s8 s9 s0 sn sq a1 a2
     by_cases hE0 : E = 0
     ·first
       |(guard_expr zA=zA;have HOK : Hid (decOk true true b) := ⟨HLB.out, (fun _ => HFIL.out), (fun _ h => HX0.out (EX.trans h)), by rw [<- HEE.out]; exact hE0⟩)
       |(have HOK : Hid (decOk false true b) := ⟨HLB.out, (fun h => nomatch h), (fun _ h => HX0.out (EX.trans h)), by rw [<- HEE.out]; exact hE0⟩)
      have HE0 := zH hE0; clear hE0;go_wp2_with (first
       | (refine aZH rfl 81 _ rfl g rfl 81 _ (0, 0) _ HK15 hu.out rfl PS ?_)
       | (go_at_call 127; refine (HNY _ HE0 ((HRB.below HB).more HB.size)).mono ?_; rintro e8 v ⟨A1, t1, c1, A2, t2, c2, rfl, hT1, hT2, ho1, ho2, hb8⟩; have HT1 := zH hT1; have HT2 := zH hT2; have HO1 := zH (ho1.mono HB.size); have HO2 := zH (ho2.mono HB.size); replace HK6 := zH (HK6.below hb8 HK6.lt); replace HB := zH (bcall HB hb8); have PS2 : Hid ((Tryz.prog.info? 81).map (·.size) = some (#[Value.int .i64 d0, .int .i64 d1, .int .i64 d2, .int .i64 d3, .int .u32 d4, .int .u64 (o6), .int .u32 (x4), .int .i64 d7, .int .i64 d8, .slice A1 t1 c1, .slice A2 t2 c2]).size) := Pr.size (⟨d0, d1, d2, d3, d4, o6, x4, d7, d8, ⟨A1, t1, c1⟩, ⟨A2, t2, c2⟩⟩ : Pr); have PO2 : Hid ((#[Value.int .i64 d0, .int .i64 d1, .int .i64 d2, .int .i64 d3, .int .u32 d4, .int .u64 (o6), .int .u32 (x4), .int .i64 d7, .int .i64 d8, .slice A1 t1 c1, .slice A2 t2 c2]).all (·.oneCell') = true) := Pr.ones (⟨d0, d1, d2, d3, d4, o6, x4, d7, d8, ⟨A1, t1, c1⟩, ⟨A2, t2, c2⟩⟩ : Pr); clear hb8 hT1 hT2 ho1 ho2)
       | (refine aZE rfl 81 _ _ rfl w.heap.size _ rfl rfl 81 zcs HK6 PS2 rfl PO2 ?_))
      refine aZB (results_cell_tmp rfl _ _ w.heap.size 81 _ _ rfl (Blk.row HK6.out _) Tryz.underlying81 rfl PS2.out) rfl (Or.inl ⟨HOK.out, A1, t1, c1, A2, t2, c2, by rw [HPR.out]; rfl, HT1.out, HT2.out, ?_, ?_, brow HB.out (aZC _) _⟩)
      ·exact HO1.of_block (fun a ha => bZC v _ _ _ (HO1.ne_blk HK6 (by show 5 ≠ 81; decide) a ha))
      ·exact HO2.of_block (fun a ha => bZC v _ _ _ (HO2.ne_blk HK6 (by show 5 ≠ 81; decide) a ha))
     ·first
       |(guard_expr zA=zA;have HNO3 : Hid (¬ decOk true true b) := fun h => hE0 (by rw [HEE.out]; exact h.2.2.2))
       |(have HNO3 : Hid (¬ decOk false true b) := fun h => hE0 (by rw [HEE.out]; exact h.2.2.2))
      have HE0 := zH hE0; clear hE0;go_wp2_with (first
       | (refine aZH rfl 81 _ rfl g rfl 81 _ (0, 0) _ HK15 hu.out rfl PS ?_)
       | (go_at_call 127; refine (HNZ _ HE0).mono ?_; rintro e7 v ⟨rfl, hb7⟩; replace HK6 := zH (HK6.below hb7 HK6.lt); replace HB := zH (bcall HB hb7); clear hb7)
       | (refine aZE rfl 81 _ _ rfl w.heap.size _ rfl rfl 81 zcs HK6 ZS rfl ZO ?_))
      exact aZB (results_cell_tmp rfl _ _ w.heap.size 81 zcs _ rfl (Blk.row HK6 _) Tryz.underlying81 rfl ZS) rfl (Or.inr ⟨HNO3.out, E, rfl, HE0.out, brow HB (aZC _) _⟩)
 ) : P := h
theorem zS1 {P : Prop} (h : P := by
 have HNO := zH hno; have HGI := zH hgi; have HT := zH hT; have HTT := zH hTT; clear hno hgi hT hTT;have w1' : IntKind.u64.wrap ((T : Int) - (pos : Int)) = L := by rw [wrap_u64]; omega
 first
  |(guard_expr zA=zA
    have w2' : IntKind.u64.wrap (n : Int) = n := by rw [wrap_u64]; omega
    have t1 : decide ((n : Int) < 0) = false := by simp <;> omega
    have t2 : decide ((65536 : Int) < (n : Int)) = false := by simp <;> omega
    have t3 : (L < n) = False := by simp <;> omega
    have HLE := zH hle; have HLQ := zH hL; have HPO := zH hpo; have HT2 := zH hT2; have HN6 := zH hn;have t4 : (0 < n) = True := by simp [h0])
  |(have w2' : IntKind.u64.wrap (n0 : Int) = n0 := by rw [wrap_u64]; omega
    have t1 : decide ((n0 : Int) < 0) = false := by simp <;> omega
    have t2 : decide ((65536 : Int) < (n0 : Int)) = false := by simp <;> omega
    have t3 : (L < n0) = True := by simp [hlt0]
    have HLE := zH (Nat.le_of_eq hnL); have HLQ := zH hL; have HPO := zH hpo; have HT2 := zH hT2; have HN6 := zH (show n <= 65536 by omega);have t4 : (0 < n0) = True := by simp <;> omega)
 have t5 : ((L : Int) == 0) = false := by simp <;> omega
 have t6 : (L = 0) = False := by simp <;> omega
 first
  |(guard_expr zA=zA;clear hL hpo hT2 hn hle h0)
  |(have w4' : IntKind.i64.wrap (L : Int) = (n : Int) := by rw [hnL]; simp [aZU, aZR, aZM]; omega
    clear hL hpo hT2 hn0 hnL hlt0 h0)
 go_enter Tryz.func26, Tryz.ntmps26;go_wp2_with (go_at_call 29; refine HNO.mono ?_; rintro e0 w0 ⟨rfl, rfl⟩);refine HGI.mono ?_;rintro e1 w1 ⟨rfl, cs, Ar, cr, hv, now, hX, hbut, hQ⟩;have d3 : w1.cell? ⟨p, 3, none⟩ = some (.int .u64 T) := by rw [<- HT.out]; exact (hX.blk.cell 3).trans hX.xc.c3
 have d10 : w1.cell? ⟨p, 10, none⟩ = some (.int .u64 pos) := (hX.blk.cell 10).trans hX.xc.c10;have hpl := hX.blk.lt;have HX := zH hX; have HB := zH hbut; have HQ := zH hQ; clear hX hbut hQ HGI HNO;go_upto_region 6 with fail
 refine wrZ (fun _ => True) (fun _ _ h => h) (Ords.of [(0, 0), (0, 1), (0, 2), (0, 3), (1, 4), (0, 5), (0, 6), (0, 7), (1, 8), (0, 9), (0, 10)] .fin) trivial ?_
 iterate 11 ((first | refine ords_pure rfl (fun K hK => ?_) | refine ords_read rfl (fun K hK => ?_)); go_simp; refine hK _ ?_; clear hK K)
 refine ords_end (fun n1 => ?_);go_wp2_with fail;have HX0 := zH (HX.drewN n1); have HB0 := zH (HB.drewN n1); clear HX HB d3 d10 hpl;generalize w1.drewN n1 = w2 at *;have hws : w.heap.size <= w2.heap.size := HB0.size;go_loopw [7, 8, 9, 10] (fun o a b c wr' => ∃ (k : Nat) (A : Option Addr) (cc : Nat) (cs : Array Value) (hv : Int) (now : List UInt8), k <= n /\ o = .slice A k cc /\ OS cB wr' w2.heap.size A cc (rowOf (bOf big) (pieceL big len ls lp root) pos k) /\ XG wr' base p big len key ls lp wn e root (pos + k) cs Ak ck s pp q F Ar cr hv now /\ But [p] w2 wr') (fun o _ _ _ _ => n - slLen o)
 case atStart => exact ⟨0, none, 0, cs, hv, now, Nat.zero_le _, rfl, OS.nil _ _ _ rfl, HX0.out, But.refl _ _⟩
 case round =>
  obtain ⟨k, A, cc, cs, hv, now, hk, rfl, hos, hX, hbut⟩ := hrel;have hb := bOf_le big;obtain ⟨at_, hat⟩ : ∃ at_, at_ = pos + k := ⟨_, rfl⟩;rw [<- hat] at hX;have HAT := zH hat;obtain ⟨f, hf⟩ : ∃ f, f = bOf big := ⟨_, rfl⟩;have HWS := zH hws;have HX := zH hX; have HB := zH hbut; have HO := zH hos; clear hX hbut hos hws
  by_cases hlt : k < n
  ·have hkd : decide ((k : Int) < (n : Int)) = true := by simp <;> omega
   have hkn : (k < n) = True := by simp [hlt]
   obtain ⟨i, fr, nk, ff, m, a2, HNUM, hcs, wA, wR, wR2, wf, wi, z1, z2, wK, wF, wM, wQ, wT, hfm, hkm, hm1, HWM, HA2⟩ := read_nums n k at_ f T pos L hat (by omega) hlt HLE.out HLQ.out HPO.out HT2.out HN6.out;have hif : i * bOf big < totN (kOf big) len := by
    obtain ⟨-, h2, -, -, -, -, h7, -, -⟩ := HNUM.out;rw [HTT.out, <- hf, h2];exact Nat.lt_of_le_of_lt (Nat.div_mul_le_self at_ f) h7
   have HF := zH hf;clear hb hat;obtain ⟨d0, d1, d2, d3, d4, d6, d7, d9, d10, d75⟩ := HX.cells HT hC;rw [<- HF.out] at d1;clear hf
   by_cases hvi : hv = i
   ·have c1 : (hv != (i : Int)) = false := by simpa using hvi
    have c2 : (hv == (i : Int)) = true := by simpa using hvi
    subst hvi;have HIF := zH hif; clear hif hlt;go_upto_region 13 with fail
    refine wrZ (fun _ => True) (fun _ _ h => h) (Ords.of [(0, 0), (0, 1), (0, 2), (1, 3), (0, 4), (0, 5), (0, 6), (0, 7), (1, 8), (0, 9), (0, 10), (0, 11)] .fin) trivial ?_
    iterate 12 ((first | refine ords_pure rfl (fun K hK => ?_) | refine ords_read rfl (fun K hK => ?_)); go_simp; refine hK _ ?_; clear hK K)
    refine ords_end (fun n1 => ?_);go_upto_region 17 with fail
    have HX3 := zH (HX.drewN n1); have HB3 := zH (HB.drewN n1); have HO3 := zH (HO.drewN n1);clear HX HB HO d0 d1 d2 d3 d4 d6 d7 d9 d10 d75;generalize wr.drewN n1 = W at *;obtain ⟨cs7, now7, HX3⟩ : ∃ cs7 now7, Hid (XG W base p big len key ls lp wn e root at_ cs7 Ak ck s pp q F Ar cr i now7) := ⟨_, _, HX3⟩;rcases hcs with ⟨t9, hmm⟩ | ⟨t9, hmm⟩
    all_goals
     subst hmm;obtain ⟨-, d1, -, -, -, -, -, -, d10, -⟩ := HX3.cells HT hC;rw [<- HF.out] at d1;refine wrZ (fun _ => True) (fun _ _ h => h) (Ords.of [(0, 0), (0, 1), (0, 2), (1, 3), (0, 4), (0, 5), (0, 6), (0, 7), (1, 8), (0, 9), (0, 10), (0, 11), (0, 12)] .fin) trivial ?_
     iterate 13 ((first | refine ords_pure rfl (fun K hK => ?_) | refine ords_read rfl (fun K hK => ?_)); go_simp; refine hK _ ?_; clear hK K)
     refine ords_end (fun n1 => ?_);go_upto_region 19 with fail
     clear wA wR wR2 wf wi z1 z2 wK wF wQ wT w1' w2' t9;have hsl := slice_now p fr m hfm hm1;have HC := zH (HX3.cut fr m hfm);go_wp2_with (at_builtin; refine wpList_appB _ rfl (.tmp 117) (.tmp 125) rfl (HO3.drewN _) rfl (rowOf_len _ _ _ _) (HC.drewN _) rfl (by rw [aZJ, aZS, HX3.hnow]; omega) (by have := HN6.out; omega) (Nat.le_of_lt_succ (by have := HB3.size; simp; omega)) ?_; intro A3 c3 w3 hown3 hgrow hat; have HO4 := zH hown3; have hbg : But (obl A) W w3 := But.grown (gdr_in hgrow) (fun k9 h9 => .inl (mem_obl.2 (by cases A with | none => cases h9 | some a9 => exact ⟨a9, rfl, aZF h9⟩))); have HX4 := zH (HX3.but hbg (fun k9 h9 hm9 => by obtain ⟨a9, ha9, hb9⟩ := mem_obl.1 hm9; have g1 := (HO3.block_lt a9 ha9).1; have g2 := HX0.lt k9 h9; rw [hb9] at g1; exact bZI _ (aZO g2 g1))); have HB4 := zH (HB3.trans hbg (fun k9 hm9 => by obtain ⟨a9, ha9, hb9⟩ := mem_obl.1 hm9; have g1 := (HO3.block_lt a9 ha9).1; rw [hb9] at g1; exact .inr g1)); clear hown3 hgrow hat hbg; have e10 : w3.cell? ⟨p, 10, none⟩ = some (.int .u64 at_) := (HX4.blk.cell 10).trans HX4.xc.c10; have f10 := HX4.blk.frozen 10; have hpl := HX4.blk.lt; obtain ⟨wm, wS⟩ := HWM.out);go_roundw
     case rel =>
      have hpc := HX4.cutRow f T fr m at_ HF HTT HNUM.out.2.1 HNUM.out.2.2.1 HA2.out.2.2.1 HA2.out.2.2.2;refine ⟨k + m, A3, c3, cs7.setIfInBounds 10 (.int .u64 a2), (i : Int), now7, hkm, rfl, ?_, ?_, ?_⟩
      ·rw [rowOf_add, <- HNUM.out.1, <- hpc]
       exact HO4.setFar (p := ⟨p, 10, none⟩) (HO4.ne_blk HX4.blk (by decide)) _
      ·rw [<- HA2.out.1]
       exact HX4.moved a2 (by rw [HTT.out]; exact HA2.out.2.1)
      ·exact But.setCell (p := ⟨p, 10, none⟩) HB4 (.inl (List.mem_singleton.2 rfl)) _
     case measure => exact meas_lt _ _ _ hkm hm1
   ·have c1 : (hv != (i : Int)) = true := by simpa using hvi
    have c2 : (hv == (i : Int)) = false := by simpa using hvi
    have hpi := fun W hrs hrp hrr => xpieceL_any big len T i (!decide (len = -1)) s pp ls lp root Ar W HTT hif hT2' hC2 hs4 ht4 HX.hls HX.hlp HX.rl hrs hrp hrr
    unfold Sl.v at hpi;have HPI := zH hpi;have HIF := zH hif; clear hif hlt hpi hvi;go_upto_region 13 with fail
    refine wrZ (fun _ => True) (fun _ _ h => h) (Ords.of [(0, 0), (0, 1), (0, 2), (1, 3), (0, 4), (0, 5), (0, 6), (0, 7), (1, 8), (0, 9), (0, 10), (0, 11)] .fin) trivial ?_
    iterate 12 ((first | refine ords_pure rfl (fun K hK => ?_) | refine ords_read rfl (fun K hK => ?_)); go_simp; refine hK _ ?_; clear hK K)
    refine ords_end (fun n1 => ?_);have HX1 := zH (HX.drewN n1); have HB1 := zH (HB.drewN n1); have HO1 := zH (HO.drewN n1);clear HX HB HO d0 d1 d2 d3 d4 d6 d7 d9 d10 d75;generalize wr.drewN n1 = W1 at *;obtain ⟨d0, d1, d2, d3, d4, d6, d7, d9, d10, d75⟩ := HX1.cells HT hC;go_upto_region 15 with fail
    refine wrZ (fun _ => True) (fun _ _ h => h) (Ords.of [(0, 0), (0, 1), (0, 2), (0, 3), (0, 4), (0, 5), (0, 6), (1, 7), (0, 8), (0, 9), (0, 10), (1, 11), (0, 12), (0, 13), (0, 14), (1, 15), (0, 16), (0, 17), (0, 18), (1, 19), (0, 20), (2, 21), (2, 22)] .fin) trivial ?_
    iterate 21 ((first | refine ords_pure rfl (fun K hK => ?_) | refine ords_read rfl (fun K hK => ?_)); go_simp; refine hK _ ?_; clear hK K)
    refine ords_loud rfl (fun n1 => ?_);go_wp2_with (go_at_call 47; refine (HPI _ (HX1.os.reads.drewN _) (HX1.op.reads.drewN _) (HX1.or.reads.drewN _)).mono ?_; rintro e4 w4 ⟨A4, n4, c4, cc4, rfl, hl4, hn4, ho4, hb4⟩);have HB4 := zH (undrN hb4); have HO4 := zH ho4; have HL4 := zH hl4; clear hb4 ho4 hl4 hn4;have hX4 := zH (HX1.below HB4);refine ⟨trivial, ?_⟩;refine ords_loud rfl (fun n2 => ?_)
    (refine wpList_copyRow rfl (.tmp 68) (.tmp 86) rfl rfl rfl (hX4.blk.drewN n2) (HO4.reads.drewN n2) HL4.out (by rw [<- HL4.out]; exact (pieceL_le big len ls lp root i HIF.out).2) (by have h1 := (pieceL_le big len ls lp root i HIF.out).2; rw [hX4.xc.sz, <- HL4.out]; omega) (by rw [<- HL4.out]; exact (pieceL_le big len ls lp root i HIF.out).1) ?_; intro w5 hblk5 hg5)
    change True /\ _
    first | (refine ⟨trivial, ?_⟩; refine ords_end (fun n3 => ?_)) | (rintro _ ⟨n3, rfl⟩)
    have hP := pieceL_le big len ls lp root i HIF.out;have hb5 : But [p] w4 w5 := But.grown (gdr_in hg5) (fun k9 h9 => .inl (List.mem_singleton.2 (aZF h9).symm));have hx5 := hX4.xc.putNow (pieceL big len ls lp root i) hP.2;rw [HL4.out] at hx5;have HK5 := zH hblk5; have HBB := zH hb5; have HX5 := zH hx5; have HP := zH hP;clear hblk5 hg5 hb5 hx5 hP d0 d1 d2 d3 d4 d6 d7 d9 d10 d75;have e75 : w5.cell? ⟨p, 75, none⟩ = some (.int .i64 hv) := (HK5.cell 75).trans HX5.c75;have f75 := HK5.frozen 75;have hpl := HK5.lt;go_upto_region 17 with fail
    have HB6 : But [p] w4 ((w5.drewN n3).setCell ⟨p, 75, none⟩ (.int .i64 i)) := But.setCell (p := ⟨p, 75, none⟩) (HBB.drewN n3) (.inl (List.mem_singleton.2 rfl)) _;have HX3 := zH (hX4.own HB6 ((HK5.drewN n3).set_ 75 _) (HX5.put75 i) (by rw [List.length_append, aZS, hX4.hnow, HL4.out]; have h1 := HP.out.2; rw [HL4.out] at h1; omega) (.inr ⟨i, rfl, HIF.out, by rw [<- pieceL_len big len ls lp root i, List.take_left]⟩) hX4.hpos);have HB3 := zH ((HB1.below HB4).trans HB6 (fun k9 h9 => .inl h9));have HO3 := zH ((HO1.below HB4.out (Nat.le_refl _)).but HB6 (fun a9 h9 hm9 => by have g1 := (HO1.block_lt a9 h9).1; have g2 := HX0.blk.lt; rw [List.mem_singleton.1 hm9] at g1; exact bZI _ (aZO g2 g1)));clear hX4 HB6 HBB HK5 HX5 HP HX1 HB1 HO1 e75 f75 hpl HPI HO4 HB4 c1 c2;generalize (w5.drewN n3).setCell ⟨p, 75, none⟩ (.int .i64 i) = W at *;obtain ⟨cs7, now7, HX3⟩ : ∃ cs7 now7, Hid (XG W base p big len key ls lp wn e root at_ cs7 Ak ck s pp q F Ar cr i now7) := ⟨_, _, HX3⟩;rcases hcs with ⟨t9, hmm⟩ | ⟨t9, hmm⟩
    all_goals
     subst hmm;obtain ⟨-, d1, -, -, -, -, -, -, d10, -⟩ := HX3.cells HT hC;rw [<- HF.out] at d1;refine wrZ (fun _ => True) (fun _ _ h => h) (Ords.of [(0, 0), (0, 1), (0, 2), (1, 3), (0, 4), (0, 5), (0, 6), (0, 7), (1, 8), (0, 9), (0, 10), (0, 11), (0, 12)] .fin) trivial ?_
     iterate 13 ((first | refine ords_pure rfl (fun K hK => ?_) | refine ords_read rfl (fun K hK => ?_)); go_simp; refine hK _ ?_; clear hK K)
     refine ords_end (fun n1 => ?_);go_upto_region 19 with fail
     clear wA wR wR2 wf wi z1 z2 wK wF wQ wT w1' w2' t9;have hsl := slice_now p fr m hfm hm1;have HC := zH (HX3.cut fr m hfm);go_wp2_with (at_builtin; refine wpList_appB _ rfl (.tmp 117) (.tmp 125) rfl (HO3.drewN _) rfl (rowOf_len _ _ _ _) (HC.drewN _) rfl (by rw [aZJ, aZS, HX3.hnow]; omega) (by have := HN6.out; omega) (Nat.le_of_lt_succ (by have := HB3.size; simp; omega)) ?_; intro A3 c3 w3 hown3 hgrow hat; have HO4 := zH hown3; have hbg : But (obl A) W w3 := But.grown (gdr_in hgrow) (fun k9 h9 => .inl (mem_obl.2 (by cases A with | none => cases h9 | some a9 => exact ⟨a9, rfl, aZF h9⟩))); have HX4 := zH (HX3.but hbg (fun k9 h9 hm9 => by obtain ⟨a9, ha9, hb9⟩ := mem_obl.1 hm9; have g1 := (HO3.block_lt a9 ha9).1; have g2 := HX0.lt k9 h9; rw [hb9] at g1; exact bZI _ (aZO g2 g1))); have HB4 := zH (HB3.trans hbg (fun k9 hm9 => by obtain ⟨a9, ha9, hb9⟩ := mem_obl.1 hm9; have g1 := (HO3.block_lt a9 ha9).1; rw [hb9] at g1; exact .inr g1)); clear hown3 hgrow hat hbg; have e10 : w3.cell? ⟨p, 10, none⟩ = some (.int .u64 at_) := (HX4.blk.cell 10).trans HX4.xc.c10; have f10 := HX4.blk.frozen 10; have hpl := HX4.blk.lt; obtain ⟨wm, wS⟩ := HWM.out);go_roundw
     case rel =>
      have hpc := HX4.cutRow f T fr m at_ HF HTT HNUM.out.2.1 HNUM.out.2.2.1 HA2.out.2.2.1 HA2.out.2.2.2;refine ⟨k + m, A3, c3, cs7.setIfInBounds 10 (.int .u64 a2), (i : Int), now7, hkm, rfl, ?_, ?_, ?_⟩
      ·rw [rowOf_add, <- HNUM.out.1, <- hpc]
       exact HO4.setFar (p := ⟨p, 10, none⟩) (HO4.ne_blk HX4.blk (by decide)) _
      ·rw [<- HA2.out.1]
       exact HX4.moved a2 (by rw [HTT.out]; exact HA2.out.2.1)
      ·exact But.setCell (p := ⟨p, 10, none⟩) HB4 (.inl (List.mem_singleton.2 rfl)) _
     case measure => exact meas_lt _ _ _ hkm hm1
  ·obtain rfl : k = n := by omega
   have hkd : decide ((k : Int) < (k : Int)) = false := by simp
   have hkn : (k < k) = False := by simp
   clear hlt hat hf;go_wp2_with fail;exact aZB (aZG rfl _ _ _) rfl ⟨A, cc, rfl, (by have h := HO.len_le.1; rw [rowOf_len] at h; exact h), HO.mono HWS.out, cs, Ar, cr, hv, now, by rw [<- HAT.out]; exact HX.out, HB0.trans HB.out (fun k9 h9 => .inl h9), HQ.out, fun a9 h9 hm9 => by have g1 := (HO.block_lt a9 h9).1; have g2 := HX0.lt _ hm9; exact bZI _ (aZO g2 g1)⟩
 ) : P := h
theorem zS2 {P : Prop} (h : P := by
 first
  |(guard_expr zA=zA
    have hck := fun W => check_any 1 p W
    have hval := fun f h1 W => value_any (big := true) hc hf f h1 W
    have hro := fun W => rowsBig_any W
    have hrg := chk_range (big := true) hc;have hmk : ∀ W : World, (Instr.makeSlice 22 (.int .i64 64) (.int .i64 64)).run Tryz.prog W = .ok (.slice (some ⟨W.heap.size, 0, none⟩) 64 64) (W.alloc (.cells (zB 64) 5)) := fun W => make_zB 64 (by decide) W)
  |(have hck := fun W => check_any 2 p W
    have hval := fun f h1 W => value_any (big := false) hc hf f h1 W
    have hro := fun W => rowsSmall_any W
    have hrg := chk_range (big := false) hc;have hmk : ∀ W : World, (Instr.makeSlice 22 (.int .i64 32) (.int .i64 32)).run Tryz.prog W = .ok (.slice (some ⟨W.heap.size, 0, none⟩) 32 32) (W.alloc (.cells (zB 32) 5)) := fun W => make_zB 32 (by decide) W)
 simp only [hc] at hck;have HLS := zH hls; have HLP := zH hlp; have HRS := zH hrs; have HRP := zH hrp; have HF := zH hf; have HC := zH hc; have HRG := zH hrg; clear hls hlp hrs hrp hf hc hrg;unfold Pr.v Pr.cs Sl.v at *;have HCK := zH hck; have HV := zH hval; have HRO := zH hro; clear hck hval hro;go_enter Tryz.func87, Tryz.ntmps87
 first
  |(guard_expr zA=zA
    go_wp2_with (first
      | (go_at_call 58; refine (HCK.out _).mono ?_; rintro e w1 ⟨rfl, hbw1⟩; (first | refine withN hbw1 ?_ | refine withD hbw1 ?_ | refine with0 hbw1 ?_); intro hcw1 hfw1; have z0w1 : w.heap.size < w1.heap.size := (by have := hbw1.size; (try simp at this); omega))
      | (go_at_call 85; refine (sizes_big _).mono ?_; rintro e w9 ⟨rfl, rfl⟩)
      | (go_at_call 106; refine (HRO.out _).mono ?_; rintro e w2 ⟨gr, rfl, hgr, hbr, hbw2⟩; (first | refine withN hbw2 ?_ | refine withD hbw2 ?_ | refine with0 hbw2 ?_); intro hcw2 hfw2; have z0w2 : w.heap.size < w2.heap.size := (by have := hbw2.size; (try simp at this); omega))))
  |(go_wp2_with (first
      | (go_at_call 58; refine (HCK.out _).mono ?_; rintro e w1 ⟨rfl, hbw1⟩; (first | refine withN hbw1 ?_ | refine withD hbw1 ?_ | refine with0 hbw1 ?_); intro hcw1 hfw1; have z0w1 : w.heap.size < w1.heap.size := (by have := hbw1.size; (try simp at this); omega))
      | (go_at_call 85; refine (sizes_small _).mono ?_; rintro e w9 ⟨rfl, rfl⟩)
      | (go_at_call 106; refine (HRO.out _).mono ?_; rintro e w2 ⟨gr, rfl, hgr, hbr, hbw2⟩; (first | refine withN hbw2 ?_ | refine withD hbw2 ?_ | refine with0 hbw2 ?_); intro hcw2 hfw2; have z0w2 : w.heap.size < w2.heap.size := (by have := hbw2.size; (try simp at this); omega))))
 have hb1 := Blk.new w 81 #[.int .i64 p.digest, .int .i64 p.key, .int .i64 p.fanout, .int .i64 p.depth, .int .u32 p.leaf, .int .u64 p.offset, .int .u32 p.xof, .int .i64 p.nd, .int .i64 p.inner, .slice p.salt.A p.salt.n p.salt.c, .slice p.pers.A p.pers.n p.pers.c];have hz1 : w.heap.size < w1.heap.size := z0w1
 first
  |(guard_expr zA=zA;have hb2 := ((hb1.below hbw1 (by simp)).alloc (.cells (zB 64) 5)).below hbw2 (by simp; omega))
  |(have hb2 := ((hb1.below hbw1 (by simp)).alloc (.cells (zB 32) 5)).below hbw2 (by simp; omega))
 have hW1 := bcall (bal (b0 w) _) hbw1
 first
  |(guard_expr zA=zA
    have hW2 := bcall (bal hW1 (.cells (zB 64) 5)) hbw2;have ho2 := (OS.madeAt (cd := cB) (base := w.heap.size) w1 64 64 0 rfl (by decide) (by unfold maxLen; omega) (Nat.le_of_lt hz1) rfl).below hbw2 (aZC _);have hg2 : w1.heap.size < gr := by have : (w1.alloc (.cells (zB 64) 5)).heap.size <= gr := hgr; simp at this; omega)
  |(have hW2 := bcall (bal hW1 (.cells (zB 32) 5)) hbw2
    have ho2 := (OS.madeAt (cd := cB) (base := w.heap.size) w1 32 32 0 rfl (by decide) (by unfold maxLen; omega) (Nat.le_of_lt hz1) rfl).below hbw2 (aZC _);have hg2 : w1.heap.size < gr := by have : (w1.alloc (.cells (zB 32) 5)).heap.size <= gr := hgr; simp at this; omega)
 generalize w1.heap.size = gb at *;have HB := zH hb2; have HR := zH hbr; have HW := zH hW2; have HO := zH ho2;clear hb1 hb2 hW1 hW2 ho2 hbr hbw1 hbw2 hcw1 hfw1 hcw2 hfw2 hgr hmk z0w2
 first
  |(guard_expr zA=zA;go_loopw [30] (fun i wr => ∃ k : Nat, k <= 9 /\ i = .int .i64 k /\ OS cB wr w.heap.size (some ⟨gb, 0, none⟩) 64 (encTo true p k) /\ w2.grownBy wr (some gb)) (fun i _ => 9 - (intOf i).toNat))
  |(go_loopw [30] (fun i wr => ∃ k : Nat, k <= 9 /\ i = .int .i64 k /\ OS cB wr w.heap.size (some ⟨gb, 0, none⟩) 32 (encTo false p k) /\ w2.grownBy wr (some gb)) (fun i _ => 9 - (intOf i).toNat))
 case atStart => exact ⟨0, Nat.zero_le _, rfl, HO.out, World.grownBy.refl _ _⟩
 case round =>
  obtain ⟨k, hk, rfl, hos, hgr⟩ := hrel;have hne1 : some w.heap.size ≠ some gb := by intro h; have := aZF h; omega
  have hne2 : some gr ≠ some gb := by intro h; have := aZF h; omega
  have hbp := HB.grown hgr hne1;have hbr := HR.grown hgr hne2
  by_cases hlt : k < 9
  ·first
    |(guard_expr zA=zA;obtain ⟨f, at_, size, s, e, hrow, hf1, hf9, hfit, hs8, hcells⟩ := row_at true k hlt)
    |(obtain ⟨f, at_, size, s, e, hrow, hf1, hf9, hfit, hs8, hcells⟩ := row_at false k hlt)
   have hrg := hbr.range (k * 5) 5;rw [hcells] at hrg;have HRG2 := zH hrg; have HROW := zH hrow; have HBP := zH hbp; have HOS := zH hos; have HGR := zH hgr;have c6 : wr.cell? ⟨w.heap.size, 6, none⟩ = some (.int .u32 p.xof) := hbp.cell 6;have hbl := hbp.lt;clear hrg hrow hbp hbr hos hgr hcells;have hkd : decide ((k : Int) < 9) = true := by simp; omega
   have hk5 : (k : Int) * 5 = ((k * 5 : Nat) : Int) := by omega
   have hgb : gb < wr.heap.size := (HOS.block_lt _ rfl).2
   by_cases h7 : f = 7
   ·subst h7
    by_cases hx : p.xof = 0
    ·have hx0 : (p.xof == 0) = true := by simpa using hx
     have HX := zH hx; clear hx;go_wp2_with (refine aZX rfl 167 (.tmp 32) rfl gr (k * 5) rfl [.int .i64 _, .int .i64 at_, .int .i64 size, .string s, .int .i64 e] _ HRG2 Tryz.underlying167 rfl (by kernel_rfl) ?_)
     first
      |(guard_expr zA=zA
        case roundEnd => exact ⟨⟨k + 1, by omega, by go_num, by have e1 : encTo true p (k + 1) = encTo true p k := by { show (if _ then _ else _) = _; rw [HROW.out, if_pos ⟨rfl, HX.out⟩] }
                                                                rw [e1]; exact HOS.alloc _, only_alloc HGR.out _⟩, by simp [intOf]; omega⟩)
      |(case roundEnd => exact ⟨⟨k + 1, by omega, by go_num, by have e1 : encTo false p (k + 1) = encTo false p k := by { show (if _ then _ else _) = _; rw [HROW.out, if_pos ⟨rfl, HX.out⟩] }
                                                                rw [e1]; exact HOS.alloc _, only_alloc HGR.out _⟩, by simp [intOf]; omega⟩)
    ·have hx0 : (p.xof == 0) = false := by simpa using hx
     have HX := zH (show ¬ (7 = 7 /\ p.xof = 0) from fun h => hx h.2); clear hx;go_wp2_with (refine aZX rfl 167 (.tmp 32) rfl gr (k * 5) rfl [.int .i64 _, .int .i64 at_, .int .i64 size, .string s, .int .i64 e] _ HRG2 Tryz.underlying167 rfl (by kernel_rfl) ?_);have hbr8 := Blk.new wr 167 #[.int .i64 ((7 : Nat) : Int), .int .i64 at_, .int .i64 size, .string s, .int .i64 e];have hbp8 := HBP.alloc (.cells #[.int .i64 ((7 : Nat) : Int), .int .i64 at_, .int .i64 size, .string s, .int .i64 e] 167);have hos8 := HOS.alloc (.cells #[.int .i64 ((7 : Nat) : Int), .int .i64 at_, .int .i64 size, .string s, .int .i64 e] 167);have hgr8 := only_alloc HGR (.cells #[.int .i64 ((7 : Nat) : Int), .int .i64 at_, .int .i64 size, .string s, .int .i64 e] 167);clear c6
     try simp only [Int.cast_ofNat_Int] at hbr8 hbp8 hos8 hgr8
     generalize wr.alloc (.cells #[.int .i64 _, .int .i64 at_, .int .i64 size, .string s, .int .i64 e] 167) = W8 at *;have hnq : some wr.heap.size ≠ some gb := by intro h; have := aZF h; omega
     generalize wr.heap.size = gq at *;have HBR8 := zH hbr8; have HBP8 := zH hbp8; have HOS8 := zH hos8; have HGR8 := zH hgr8; have HNQ := zH hnq; have HN1 := zH hne1; clear hbr8 hbp8 hos8 hgr8 hnq hne1 hne2;have hu := zH Tryz.underlying81;have p0 : W8.cell? ⟨gq, 0, none⟩ = some (.int .i64 (7 : Nat)) := HBR8.cell 0;have p1 : W8.cell? ⟨gq, 1, none⟩ = some (.int .i64 at_) := HBR8.cell 1;have p2 : W8.cell? ⟨gq, 2, none⟩ = some (.int .i64 size) := HBR8.cell 2;refine wrZ (fun W' => W8.grownBy W' (some gb)) (fun _ n h => only_drewN h n) (Ords.of [(0, 0), (0, 1), (0, 2), (0, 3), (0, 4), (0, 5), (0, 6), (0, 7), (2, 8), (2, 9)] .fin) (World.grownBy.refl _ _) ?_
     iterate 2 (refine ords_pure rfl (fun K hK => ?_); go_simp; refine hK _ ?_; clear hK K)
     refine ords_heldK rfl (fun K K2 hK hK2 => ?_); go_simp; refine ⟨hK2 _ (fun w9 hS => ?_), hK _ ?_⟩; (clear hK hK2 K K2; have q0 : w9.cell? ⟨gq, 0, none⟩ = some (.int .i64 (7 : Nat)) := (HBR8.grown hS HNQ).cell 0; have q1 : w9.cell? ⟨gq, 1, none⟩ = some (.int .i64 at_) := (HBR8.grown hS HNQ).cell 1; have q2 : w9.cell? ⟨gq, 2, none⟩ = some (.int .i64 size) := (HBR8.grown hS HNQ).cell 2; go_simp); (clear hK hK2 K K2);refine ords_pure rfl (fun K hK => ?_); go_simp; refine hK _ ?_; clear hK K;refine ords_heldK rfl (fun K K2 hK hK2 => ?_); go_simp; refine ⟨hK2 _ (fun w9 hS => ?_), hK _ ?_⟩; (clear hK hK2 K K2; have q0 : w9.cell? ⟨gq, 0, none⟩ = some (.int .i64 (7 : Nat)) := (HBR8.grown hS HNQ).cell 0; have q1 : w9.cell? ⟨gq, 1, none⟩ = some (.int .i64 at_) := (HBR8.grown hS HNQ).cell 1; have q2 : w9.cell? ⟨gq, 2, none⟩ = some (.int .i64 size) := (HBR8.grown hS HNQ).cell 2; go_simp); (clear hK hK2 K K2);refine ords_held (v := Value.agg [.int .i64 p.digest, .int .i64 p.key, .int .i64 p.fanout, .int .i64 p.depth, .int .u32 p.leaf, .int .u64 p.offset, .int .u32 p.xof, .int .i64 p.nd, .int .i64 p.inner, .slice p.salt.A p.salt.n p.salt.c, .slice p.pers.A p.pers.n p.pers.c].toArray) rfl rfl (fun w9 hS => pure_load_mid 81 (.tmp 3) rfl w.heap.size 0 rfl _ _ (HBP8.grown hS HN1).whole hu.out rfl (by kernel_rfl)) ?_; go_simp;refine ords_pure rfl (fun K hK => ?_); go_simp; refine hK _ ?_; clear hK K;refine ords_heldK rfl (fun K K2 hK hK2 => ?_); go_simp; refine ⟨hK2 _ (fun w9 hS => ?_), hK _ ?_⟩; (clear hK hK2 K K2; have q0 : w9.cell? ⟨gq, 0, none⟩ = some (.int .i64 (7 : Nat)) := (HBR8.grown hS HNQ).cell 0; have q1 : w9.cell? ⟨gq, 1, none⟩ = some (.int .i64 at_) := (HBR8.grown hS HNQ).cell 1; have q2 : w9.cell? ⟨gq, 2, none⟩ = some (.int .i64 size) := (HBR8.grown hS HNQ).cell 2; go_simp); (clear hK hK2 K K2);refine ords_loud rfl (fun n1 => ?_);go_wp2_with (go_at_call 108; refine (HV.out 7 ⟨by omega, by omega⟩ _).mono ?_; rintro e5 w5 ⟨rfl, hb5⟩); have hb5' := undrN hb5; have HB5 := zH hb5'; clear hb5 hb5'; refine ⟨only_of_below HB5.out _, ?_⟩;refine ords_loud rfl (fun n2 => ?_)
     first
      |(guard_expr zA=zA;go_wp2_with (go_at_call 107; refine (put_any gb w.heap.size 64 64 at_ size (encTo true p k) (fieldV p 7) _ ((HOS8.below HB5.out (aZC _)).drewN n2) (encTo_len true p k) (by decide) (by simpa [bOf] using hfit) hs8).mono ?_; rintro e6 w6 ⟨rfl, ho6, hg6⟩); have HO6 := zH ho6; have HG6 := zH (grown_grown (only_of_below HB5.out (some gb)) (gdr_in hg6)); clear ho6 hg6; refine ⟨HG6.out, ?_⟩)
      |(go_wp2_with (go_at_call 107; refine (put_any gb w.heap.size 32 32 at_ size (encTo false p k) (fieldV p 7) _ ((HOS8.below HB5.out (aZC _)).drewN n2) (encTo_len false p k) (by decide) (by simpa [bOf] using hfit) hs8).mono ?_; rintro e6 w6 ⟨rfl, ho6, hg6⟩); have HO6 := zH ho6; have HG6 := zH (grown_grown (only_of_below HB5.out (some gb)) (gdr_in hg6)); clear ho6 hg6; refine ⟨HG6.out, ?_⟩)
     refine ords_end (fun n3 => ?_);go_wp2
     case roundEnd =>
      first
       |(guard_expr zA=zA
         have e1 : encTo true p (k + 1) = putL (encTo true p k) at_ (fieldV p 7).toNat size := by
          show (if _ then _ else _) = _
          rw [HROW.out]; exact if_neg (fun h => HX.out ⟨(by first | exact h.1 | trivial), h.2⟩))
       |(have e1 : encTo false p (k + 1) = putL (encTo false p k) at_ (fieldV p 7).toNat size := by
          show (if _ then _ else _) = _
          rw [HROW.out]; exact if_neg (fun h => HX.out ⟨(by first | exact h.1 | trivial), h.2⟩))
      exact ⟨⟨k + 1, by omega, by go_num, by rw [e1]; exact HO6.drewN _, gdr (grown_grown HGR8.out HG6.out) _⟩, by simp [intOf]; omega⟩
   ·have h70 : ((f : Int) == 7) = false := by simp; omega
    have HX := zH (show ¬ (f = 7 /\ p.xof = 0) from fun h => h7 h.1); clear h7;go_wp2_with (refine aZX rfl 167 (.tmp 32) rfl gr (k * 5) rfl [.int .i64 _, .int .i64 at_, .int .i64 size, .string s, .int .i64 e] _ HRG2 Tryz.underlying167 rfl (by kernel_rfl) ?_);have hbr8 := Blk.new wr 167 #[.int .i64 ((f : Nat) : Int), .int .i64 at_, .int .i64 size, .string s, .int .i64 e];have hbp8 := HBP.alloc (.cells #[.int .i64 ((f : Nat) : Int), .int .i64 at_, .int .i64 size, .string s, .int .i64 e] 167);have hos8 := HOS.alloc (.cells #[.int .i64 ((f : Nat) : Int), .int .i64 at_, .int .i64 size, .string s, .int .i64 e] 167);have hgr8 := only_alloc HGR (.cells #[.int .i64 ((f : Nat) : Int), .int .i64 at_, .int .i64 size, .string s, .int .i64 e] 167);clear c6
    try simp only [Int.cast_ofNat_Int] at hbr8 hbp8 hos8 hgr8
    generalize wr.alloc (.cells #[.int .i64 _, .int .i64 at_, .int .i64 size, .string s, .int .i64 e] 167) = W8 at *;have hnq : some wr.heap.size ≠ some gb := by intro h; have := aZF h; omega
    generalize wr.heap.size = gq at *;have HBR8 := zH hbr8; have HBP8 := zH hbp8; have HOS8 := zH hos8; have HGR8 := zH hgr8; have HNQ := zH hnq; have HN1 := zH hne1; clear hbr8 hbp8 hos8 hgr8 hnq hne1 hne2;have hu := zH Tryz.underlying81;have p0 : W8.cell? ⟨gq, 0, none⟩ = some (.int .i64 (f : Nat)) := HBR8.cell 0;have p1 : W8.cell? ⟨gq, 1, none⟩ = some (.int .i64 at_) := HBR8.cell 1;have p2 : W8.cell? ⟨gq, 2, none⟩ = some (.int .i64 size) := HBR8.cell 2;refine wrZ (fun W' => W8.grownBy W' (some gb)) (fun _ n h => only_drewN h n) (Ords.of [(0, 0), (0, 1), (0, 2), (0, 3), (0, 4), (0, 5), (0, 6), (0, 7), (2, 8), (2, 9)] .fin) (World.grownBy.refl _ _) ?_
    iterate 2 (refine ords_pure rfl (fun K hK => ?_); go_simp; refine hK _ ?_; clear hK K)
    refine ords_heldK rfl (fun K K2 hK hK2 => ?_); go_simp; refine ⟨hK2 _ (fun w9 hS => ?_), hK _ ?_⟩; (clear hK hK2 K K2; have q0 : w9.cell? ⟨gq, 0, none⟩ = some (.int .i64 (f : Nat)) := (HBR8.grown hS HNQ).cell 0; have q1 : w9.cell? ⟨gq, 1, none⟩ = some (.int .i64 at_) := (HBR8.grown hS HNQ).cell 1; have q2 : w9.cell? ⟨gq, 2, none⟩ = some (.int .i64 size) := (HBR8.grown hS HNQ).cell 2; go_simp); (clear hK hK2 K K2);refine ords_pure rfl (fun K hK => ?_); go_simp; refine hK _ ?_; clear hK K;refine ords_heldK rfl (fun K K2 hK hK2 => ?_); go_simp; refine ⟨hK2 _ (fun w9 hS => ?_), hK _ ?_⟩; (clear hK hK2 K K2; have q0 : w9.cell? ⟨gq, 0, none⟩ = some (.int .i64 (f : Nat)) := (HBR8.grown hS HNQ).cell 0; have q1 : w9.cell? ⟨gq, 1, none⟩ = some (.int .i64 at_) := (HBR8.grown hS HNQ).cell 1; have q2 : w9.cell? ⟨gq, 2, none⟩ = some (.int .i64 size) := (HBR8.grown hS HNQ).cell 2; go_simp); (clear hK hK2 K K2);refine ords_held (v := Value.agg [.int .i64 p.digest, .int .i64 p.key, .int .i64 p.fanout, .int .i64 p.depth, .int .u32 p.leaf, .int .u64 p.offset, .int .u32 p.xof, .int .i64 p.nd, .int .i64 p.inner, .slice p.salt.A p.salt.n p.salt.c, .slice p.pers.A p.pers.n p.pers.c].toArray) rfl rfl (fun w9 hS => pure_load_mid 81 (.tmp 3) rfl w.heap.size 0 rfl _ _ (HBP8.grown hS HN1).whole hu.out rfl (by kernel_rfl)) ?_; go_simp;refine ords_pure rfl (fun K hK => ?_); go_simp; refine hK _ ?_; clear hK K;refine ords_heldK rfl (fun K K2 hK hK2 => ?_); go_simp; refine ⟨hK2 _ (fun w9 hS => ?_), hK _ ?_⟩; (clear hK hK2 K K2; have q0 : w9.cell? ⟨gq, 0, none⟩ = some (.int .i64 (f : Nat)) := (HBR8.grown hS HNQ).cell 0; have q1 : w9.cell? ⟨gq, 1, none⟩ = some (.int .i64 at_) := (HBR8.grown hS HNQ).cell 1; have q2 : w9.cell? ⟨gq, 2, none⟩ = some (.int .i64 size) := (HBR8.grown hS HNQ).cell 2; go_simp); (clear hK hK2 K K2);refine ords_loud rfl (fun n1 => ?_);go_wp2_with (go_at_call 108; refine (HV.out f ⟨by omega, by omega⟩ _).mono ?_; rintro e5 w5 ⟨rfl, hb5⟩); have hb5' := undrN hb5; have HB5 := zH hb5'; clear hb5 hb5'; refine ⟨only_of_below HB5.out _, ?_⟩;refine ords_loud rfl (fun n2 => ?_)
    first
     |(guard_expr zA=zA;go_wp2_with (go_at_call 107; refine (put_any gb w.heap.size 64 64 at_ size (encTo true p k) (fieldV p f) _ ((HOS8.below HB5.out (aZC _)).drewN n2) (encTo_len true p k) (by decide) (by simpa [bOf] using hfit) hs8).mono ?_; rintro e6 w6 ⟨rfl, ho6, hg6⟩); have HO6 := zH ho6; have HG6 := zH (grown_grown (only_of_below HB5.out (some gb)) (gdr_in hg6)); clear ho6 hg6; refine ⟨HG6.out, ?_⟩)
     |(go_wp2_with (go_at_call 107; refine (put_any gb w.heap.size 32 32 at_ size (encTo false p k) (fieldV p f) _ ((HOS8.below HB5.out (aZC _)).drewN n2) (encTo_len false p k) (by decide) (by simpa [bOf] using hfit) hs8).mono ?_; rintro e6 w6 ⟨rfl, ho6, hg6⟩); have HO6 := zH ho6; have HG6 := zH (grown_grown (only_of_below HB5.out (some gb)) (gdr_in hg6)); clear ho6 hg6; refine ⟨HG6.out, ?_⟩)
    refine ords_end (fun n3 => ?_);go_wp2
    case roundEnd =>
     first
      |(guard_expr zA=zA
        have e1 : encTo true p (k + 1) = putL (encTo true p k) at_ (fieldV p f).toNat size := by
         show (if _ then _ else _) = _
         rw [HROW.out]; exact if_neg (fun h => HX.out ⟨(by first | exact h.1 | trivial), h.2⟩))
      |(have e1 : encTo false p (k + 1) = putL (encTo false p k) at_ (fieldV p f).toNat size := by
         show (if _ then _ else _) = _
         rw [HROW.out]; exact if_neg (fun h => HX.out ⟨(by first | exact h.1 | trivial), h.2⟩))
     exact ⟨⟨k + 1, by omega, by go_num, by rw [e1]; exact HO6.drewN _, gdr (grown_grown HGR8.out HG6.out) _⟩, by simp [intOf]; omega⟩
  ·obtain rfl : k = 9 := by omega
   have HOS := zH hos; have HBP := zH hbp; have HGR := zH hgr;have c9 : wr.cell? ⟨w.heap.size, 9, none⟩ = some (.slice p.salt.A p.salt.n p.salt.c) := hbp.cell 9;have c10 : wr.cell? ⟨w.heap.size, 10, none⟩ = some (.slice p.pers.A p.pers.n p.pers.c) := hbp.cell 10;clear hos hbp hbr hgr;have HNE := zH hne1; clear hne1 hne2
   first
    |(guard_expr zA=zA
      have hw32 : IntKind.i64.wrap 32 = 32 := rfl;have hw16 : IntKind.i64.wrap 16 = 16 := rfl;have hw48 : IntKind.i64.wrap 48 = 48 := rfl;have hb64 : 4 * p.salt.n <= 64 /\ 4 * p.pers.n <= 64 := by have h := HRG.out.2.2.2.2.2.2; exact h)
    |(have hw32 : IntKind.i64.wrap 16 = 16 := rfl
      have hw16 : IntKind.i64.wrap 8 = 8 := rfl;have hw48 : IntKind.i64.wrap 24 = 24 := rfl;have hb64 : 4 * p.salt.n <= 32 /\ 4 * p.pers.n <= 32 := by have h := HRG.out.2.2.2.2.2.2; exact h)
   obtain ⟨hb1, hb2⟩ := hb64;have hW : Below w.heap.size w wr := HW.grown HGR.out HW.size (fun g h => by have := aZF h; omega);have HWr := zH hW; clear hW;go_wp2;refine wrZ (fun _ => True) (fun _ _ h => h) (Ords.of [(0, 0), (0, 1), (0, 2), (0, 3), (0, 4), (0, 5), (0, 6), (1, 7), (2, 8)] .fin) trivial ?_
   iterate 8 ((first | refine ords_pure rfl (fun K hK => ?_) | refine ords_read rfl (fun K hK => ?_)); go_simp; refine hK _ ?_; clear hK K)
   refine ords_loud rfl (fun n1 => ?_)
   first
    |(guard_expr zA=zA;(refine wpList_copyB (k := 32) (n := 32) (dc := 32) rfl (.tmp 58) (.tmp 60) rfl rfl rfl (HOS.drewN n1) ((HRS.below HWr.out).drewN n1) HLS.out (by omega) (by rw [encTo_len]; show 32 + p.salt.n <= 64; omega) ?_; intro w6 ho6 hg6); have HO6 := zH ho6; have HG6 := zH (gdr_in hg6); clear ho6 hg6; go_wp2)
    |((refine wpList_copyB (k := 16) (n := 16) (dc := 16) rfl (.tmp 58) (.tmp 60) rfl rfl rfl (HOS.drewN n1) ((HRS.below HWr.out).drewN n1) HLS.out (by omega) (by rw [encTo_len]; show 16 + p.salt.n <= 32; omega) ?_; intro w6 ho6 hg6); have HO6 := zH ho6; have HG6 := zH (gdr_in hg6); clear ho6 hg6; go_wp2)
   first | (refine ⟨trivial, ?_⟩; refine ords_end (fun n2 => ?_)) | (rintro _ ⟨n2, rfl⟩)
   have hO6 := HO6.drewN n2;have hW6 := bdr (HWr.grown HG6.out HWr.size (fun g h => by have := aZF h; omega)) n2;have c10 : (w6.drewN n2).cell? ⟨w.heap.size, 10, none⟩ = some (.slice p.pers.A p.pers.n p.pers.c) := (HBP.grown HG6 HNE).cell 10;generalize w6.drewN n2 = w6d at *;have HO6 := zH hO6; have HW6 := zH hW6; clear hO6 hW6
   first
    |(guard_expr zA=zA;have hol := over_len (encTo true p 9) 32 ls (by rw [encTo_len, HLS.out]; show 32 + p.salt.n <= 64; omega))
    |(have hol := over_len (encTo false p 9) 16 ls (by rw [encTo_len, HLS.out]; show 16 + p.salt.n <= 32; omega))
   rw [encTo_len] at hol;have HOL := zH hol; clear hol;go_wp2;refine wrZ (fun _ => True) (fun _ _ h => h) (Ords.of [(0, 0), (0, 1), (0, 2), (0, 3), (0, 4), (0, 5), (1, 6), (2, 7)] .fin) trivial ?_
   iterate 7 ((first | refine ords_pure rfl (fun K hK => ?_) | refine ords_read rfl (fun K hK => ?_)); go_simp; refine hK _ ?_; clear hK K)
   refine ords_loud rfl (fun n1 => ?_)
   first
    |(guard_expr zA=zA;(refine wpList_copyB (k := 48) (n := 16) (dc := 16) rfl (.tmp 66) (.tmp 68) rfl rfl rfl (HO6.drewN n1) ((HRP.below HW6.out).drewN n1) HLP.out (by omega) (by rw [HOL.out]; show 48 + p.pers.n <= 64; omega) ?_; intro w7 ho7 hg7); have HO7 := zH ho7; have HG7 := zH (gdr_in hg7); clear ho7 hg7; go_wp2)
    |((refine wpList_copyB (k := 24) (n := 8) (dc := 8) rfl (.tmp 66) (.tmp 68) rfl rfl rfl (HO6.drewN n1) ((HRP.below HW6.out).drewN n1) HLP.out (by omega) (by rw [HOL.out]; show 24 + p.pers.n <= 32; omega) ?_; intro w7 ho7 hg7); have HO7 := zH ho7; have HG7 := zH (gdr_in hg7); clear ho7 hg7; go_wp2)
   first | (refine ⟨trivial, ?_⟩; refine ords_end (fun n2 => ?_)) | (rintro _ ⟨n2, rfl⟩)
   go_wp2;exact aZB (aZG rfl _ _ _) rfl ⟨_, _, rfl, HO7.drewN n2, bdr (HW6.grown HG7.out HW6.size (fun g h => by have := aZF h; omega)) n2⟩
 ) : P := h
theorem zS3 {P : Prop} (h : P := by
 have hFl := s.last_len node;obtain ⟨bq, hadd⟩ := add_any s.lo s.hi (bZD s.held.length);have hm := hE.ok.held;have hz : wrd (bZD s.held.length) = (s.held.length : Int) := by rw [wrd_ofNat]; omega
 rw [hz] at hadd
 first
  |(guard_expr zA=zA
    have hmix := fun (A' : Option Addr) (c' : Nat) (B : Nat) (W : World) (hB : B <= W.heap.size) (hr : RS cB W B A' (padTo s.held 128)) => mixBig_any s.H A' c' B (padTo s.held 128) (addLo s.lo (bZD s.held.length)) (addHi s.lo s.hi (bZD s.held.length)) true node W hE.ok.H (padTo_len _ _ hm) hB hr
    change ∀ (A' : Option Addr) (c' : Nat) (B : Nat) (W : World) (hB : B <= W.heap.size) (hr : RS cB W B A' (padTo s.held 128)), Calls Tryz.prog 143 #[.agg (wcs s.H), .slice A' 128 c', .agg #[.int .u64 (wrd (addLo s.lo (bZD s.held.length))), .int .u64 (wrd (addHi s.lo s.hi (bZD s.held.length)))], .bool true, .bool node] W fun e w' => e = .returned (.agg (wcs (s.last node))) /\ Below W.heap.size W w' at hmix
    unfold St64.out)
  |(have hmix := fun (A' : Option Addr) (c' : Nat) (B : Nat) (W : World) (hB : B <= W.heap.size) (hr : RS cB W B A' (padTo s.held 64)) => mixSmall_any s.H A' c' B (padTo s.held 64) (addLo s.lo (bZD s.held.length)) (addHi s.lo s.hi (bZD s.held.length)) true node W hE.ok.H (padTo_len _ _ hm) hB hr
    change ∀ (A' : Option Addr) (c' : Nat) (B : Nat) (W : World) (hB : B <= W.heap.size) (hr : RS cB W B A' (padTo s.held 64)), Calls Tryz.prog 146 #[.agg (wc3 s.H), .slice A' 64 c', .agg #[.int .u64 (wrd (addLo s.lo (bZD s.held.length))), .int .u64 (wrd (addHi s.lo s.hi (bZD s.held.length)))], .bool true, .bool node] W fun e w' => e = .returned (.agg (wc3 (s.last node))) /\ Below W.heap.size W w' at hmix
    unfold St32.out)
 generalize s.last node = F at *;generalize addLo s.lo (bZD s.held.length) = p at *;generalize addHi s.lo s.hi (bZD s.held.length) = q at *
 first
  |(guard_expr zA=zA
    have hpd := fun (W : World) (hr : RS cB W W.heap.size A s.held) => padded_any A c 128 s.held.length s.held W rfl hm (by omega) hr
    have hby := fun (W : World) => bytes_any F W hFl)
  |(have hpd := fun (W : World) (hr : RS cB W W.heap.size A s.held) => padded_any A c 64 s.held.length s.held W rfl hm (by omega) hr
    have hby := fun (W : World) => bytes3_any F W hFl)
 obtain ⟨c8, c9, c10, c11, c12, c13⟩ := hE.cells;generalize hhl : s.held.length = m at *;have hwm : IntKind.u64.wrap (m : Int) = m := by simp [IntKind.wrap, IntKind.bits, IntKind.signed]; omega
 have hgs := hE.blk.lt;have HE := zH hE; have HA := zH hadd; have HM := zH hmix; have HP := zH hpd; have HB := zH hby; have HHL := zH hhl; clear hE hadd hmix hpd hby hhl hz hFl
 first
  |(guard_expr zA=zA;have hu := zH Tryz.underlying217; have hu8 := zH Tryz.underlying150)
  |(have hu := zH Tryz.underlying217; have hu8 := zH Tryz.underlying154)
 have hz2 : (Tryz.prog.info? 217).map (·.size) = some #[Value.int .u64 (wrd p), Value.int .u64 (wrd q)].size := by kernel_rfl
 have ha2 : (#[Value.int .u64 (wrd p), Value.int .u64 (wrd q)].all (·.oneCell')) = true := by simp [Value.oneCell']
 have HZ2 := zH hz2; have HA2 := zH ha2; clear hz2 ha2
 first
  |(guard_expr zA=zA;go_enter Tryz.func198, Tryz.ntmps198)
  |(go_enter Tryz.func204, Tryz.ntmps204)
 go_upto_region 1 with fail
 go_cut [5, 6] from 7 to 45 (fun u _ wx => ∃ gl, u = .pointer (some ⟨gl, 0, none⟩) /\ w.heap.size <= gl /\ Blk wx gl 217 #[.int .u64 (wrd p), .int .u64 (wrd q)] /\ Below w.heap.size w wx)
 case first =>
  refine wp_region_B (Ords.of [(0, 0), (0, 1), (0, 2), (0, 3), (0, 4), (0, 5), (0, 6), (0, 7), (0, 8), (0, 9)] (.two 10 14 (Ords.of [(0, 11), (0, 12), (0, 13), (2, 14), (2, 15), (0, 16)] .fin) (Ords.of [(2, 10), (0, 11), (0, 12), (0, 13), (2, 15), (0, 16)] .fin))) (by kernel_rfl) rfl (by kernel_rfl) (by kernel_rfl) (fun c a d v w h => by cases d <;> exact h) ?_
  iterate 3 (refine ords_pure rfl (fun K hK => ?_); go_simp; refine hK _ ?_; clear hK K)
  refine ords_held (v := Value.agg [.int .u64 (wrd s.lo), .int .u64 (wrd s.hi)].toArray) rfl rfl (fun w9 hS => pure_load_mid 217 (.tmp 10) rfl g 8 rfl _ _ ((HE.below hS).rangeC) hu.out rfl (by kernel_rfl)) ?_; go_simp
  iterate 3 (refine ords_pure rfl (fun K hK => ?_); go_simp; refine hK _ ?_; clear hK K)
  refine ords_heldK rfl (fun K K2 hK hK2 => ?_); go_simp; refine ⟨hK2 _ (fun w9 hS => ?_), hK _ ?_⟩; (clear hK hK2 K K2; (first | refine withN hS ?_ | refine withD hS ?_ | refine with0 hS ?_); intro hcS hfS; go_simp); (clear hK hK2 K K2)
  iterate 2 (refine ords_pure rfl (fun K hK => ?_); go_simp; refine hK _ ?_; clear hK K)
  refine ords_two rfl rfl (fun n1 => ?_) (fun n1 => ?_)
  ·go_wp2_with (go_at_call 201; refine (HA _).mono ?_; rintro e w5 ⟨rfl, hb5⟩); refine ⟨(by first | exact bcall (bdr (b0 w) _) hb5 | exact bcall (bdr (bal (bdr (b0 w) _) _) _) hb5), ?_⟩
   iterate 3 (refine ords_pure rfl (fun K hK => ?_); go_simp; refine hK _ ?_; clear hK K)
   refine ords_loud rfl (fun n2 => ?_);go_wp2; refine ⟨(by first | exact bal (bdr (b0 w) _) _ | exact bal (bdr (bcall (bdr (b0 w) _) hb5) _) _), ?_⟩;refine ords_loud rfl (fun n3 => ?_);have hs5 := hb5.size; (first | (refine aZE rfl 217 _ _ rfl w5.heap.size #[Value.int .u64 (wrd p), Value.int .u64 (wrd q)] rfl rfl 217 _ ((Blk.new (w5.drewN n2) 217 _).drewN n3) HZ2.out rfl HA2.out ?_; have hB6 := (((Blk.new (w5.drewN n2) 217 #[Value.int .u64 0, Value.int .u64 0]).drewN n3).row #[Value.int .u64 (wrd p), Value.int .u64 (wrd q)]); have hW6 := brow (bdr (bal (bdr (bcall (bdr (b0 w) n1) hb5) n2) (.cells #[Value.int .u64 0, Value.int .u64 0] 217)) n3) hs5 #[Value.int .u64 (wrd p), Value.int .u64 (wrd q)]; have hl6 : w.heap.size <= w5.heap.size := hs5) | (refine aZE rfl 217 _ _ rfl w.heap.size #[Value.int .u64 (wrd p), Value.int .u64 (wrd q)] rfl rfl 217 _ ((((Blk.new (w.drewN n1) 217 _).drewN n2).below hb5 (by simp)).drewN n3) HZ2.out rfl HA2.out ?_; have hB6 := (((((Blk.new (w.drewN n1) 217 #[Value.int .u64 0, Value.int .u64 0]).drewN n2).below hb5 (by simp)).drewN n3).row #[Value.int .u64 (wrd p), Value.int .u64 (wrd q)]); have hW6 := brow (bdr (bcall (bdr (bal (bdr (b0 w) n1) (.cells #[Value.int .u64 0, Value.int .u64 0] 217)) n2) hb5) n3) (aZC _) #[Value.int .u64 (wrd p), Value.int .u64 (wrd q)]; have hl6 : w.heap.size <= w.heap.size := aZC _)); have HB6 := zH hB6; have HW6 := zH hW6; have HL6 := zH hl6; clear hB6 hW6 hl6; go_wp2; refine ⟨HW6.out, ?_⟩;refine ords_pure rfl (fun K hK => ?_); go_simp; refine hK _ ?_; clear hK K;refine ords_end (fun n4 => ?_);go_wp2; go_meet; exact ⟨_, rfl, HL6.out, HB6.drewN _, bdr HW6 _⟩
  ·go_wp2; refine ⟨(by first | exact bal (bdr (b0 w) _) _ | exact bal (bdr (bcall (bdr (b0 w) _) hb5) _) _), ?_⟩
   refine ords_loud rfl (fun n2 => ?_);go_wp2_with (go_at_call 201; refine (HA _).mono ?_; rintro e w5 ⟨rfl, hb5⟩); refine ⟨(by first | exact bcall (bdr (b0 w) _) hb5 | exact bcall (bdr (bal (bdr (b0 w) _) _) _) hb5), ?_⟩
   iterate 3 (refine ords_pure rfl (fun K hK => ?_); go_simp; refine hK _ ?_; clear hK K)
   refine ords_loud rfl (fun n3 => ?_);have hs5 := hb5.size; (first | (refine aZE rfl 217 _ _ rfl w5.heap.size #[Value.int .u64 (wrd p), Value.int .u64 (wrd q)] rfl rfl 217 _ ((Blk.new (w5.drewN n2) 217 _).drewN n3) HZ2.out rfl HA2.out ?_; have hB6 := (((Blk.new (w5.drewN n2) 217 #[Value.int .u64 0, Value.int .u64 0]).drewN n3).row #[Value.int .u64 (wrd p), Value.int .u64 (wrd q)]); have hW6 := brow (bdr (bal (bdr (bcall (bdr (b0 w) n1) hb5) n2) (.cells #[Value.int .u64 0, Value.int .u64 0] 217)) n3) hs5 #[Value.int .u64 (wrd p), Value.int .u64 (wrd q)]; have hl6 : w.heap.size <= w5.heap.size := hs5) | (refine aZE rfl 217 _ _ rfl w.heap.size #[Value.int .u64 (wrd p), Value.int .u64 (wrd q)] rfl rfl 217 _ ((((Blk.new (w.drewN n1) 217 _).drewN n2).below hb5 (by simp)).drewN n3) HZ2.out rfl HA2.out ?_; have hB6 := (((((Blk.new (w.drewN n1) 217 #[Value.int .u64 0, Value.int .u64 0]).drewN n2).below hb5 (by simp)).drewN n3).row #[Value.int .u64 (wrd p), Value.int .u64 (wrd q)]); have hW6 := brow (bdr (bcall (bdr (bal (bdr (b0 w) n1) (.cells #[Value.int .u64 0, Value.int .u64 0] 217)) n2) hb5) n3) (aZC _) #[Value.int .u64 (wrd p), Value.int .u64 (wrd q)]; have hl6 : w.heap.size <= w.heap.size := aZC _)); have HB6 := zH hB6; have HW6 := zH hW6; have HL6 := zH hl6; clear hB6 hW6 hl6; go_wp2; refine ⟨HW6.out, ?_⟩;refine ords_pure rfl (fun K hK => ?_); go_simp; refine hK _ ?_; clear hK K;refine ords_end (fun n4 => ?_);go_wp2; go_meet; exact ⟨_, rfl, HL6.out, HB6.drewN _, bdr HW6 _⟩
 case rest =>
  obtain ⟨gl, rfl, hgl, hbl, hwc⟩ := hcut;have hE2 := HE.below hwc;have hlt := hbl.lt;clear c8 c9 c10 c11 c12 c13;obtain ⟨c8, c9, c10, c11, c12, c13⟩ := hE2.cells;rw [HHL.out] at c10;have hgs2 := hE2.blk.lt;have HE2 := zH hE2; have HBL := zH hbl; have HWC := zH hwc; clear hE2 hbl hwc HE;go_wp2_with fail;refine wp_region_B (Ords.of [(0, 0), (0, 1), (0, 2), (0, 3), (0, 4), (0, 5), (0, 6), (0, 7), (0, 8), (0, 9), (0, 10), (0, 11), (0, 12), (0, 13), (0, 14), (0, 15), (0, 16), (0, 17), (0, 18), (0, 19), (0, 21), (0, 22), (2, 20), (2, 23), (2, 24), (0, 25)] .fin) (by kernel_rfl) rfl (by kernel_rfl) (by kernel_rfl) (fun c a d v w h => by cases d <;> exact h) ?_
  iterate 2 (refine ords_pure rfl (fun K hK => ?_); go_simp; refine hK _ ?_; clear hK K; refine ords_pure rfl (fun K hK => ?_); go_simp; refine hK _ ?_; clear hK K; refine ords_pure rfl (fun K hK => ?_); go_simp; refine hK _ ?_; clear hK K; refine ords_heldK rfl (fun K K2 hK hK2 => ?_); go_simp; refine ⟨hK2 _ (fun w9 hS => ?_), hK _ ?_⟩; (clear hK hK2 K K2; (first | refine withN hS ?_ | refine withD hS ?_ | refine with0 hS ?_); intro hcS hfS; go_simp); (clear hK hK2 K K2))
  iterate 3 (refine ords_pure rfl (fun K hK => ?_); go_simp; refine hK _ ?_; clear hK K)
  first
   |(guard_expr zA=zA;refine ords_held (v := Value.agg (wcs s.H).toList.toArray) rfl rfl (fun w9 hS => pure_load_mid 150 (.tmp 31) rfl g 0 rfl _ _ ((HE2.below hS).rangeH) hu8.out rfl (by rw [Array.length_toList]; exact sz8w s.H HE2.ok.H)) ?_; go_simp)
   |(refine ords_held (v := Value.agg (wc3 s.H).toList.toArray) rfl rfl (fun w9 hS => pure_load_mid 154 (.tmp 31) rfl g 0 rfl _ _ ((HE2.below hS).rangeH) hu8.out rfl (by rw [Array.length_toList]; exact sz8s s.H HE2.ok.H)) ?_; go_simp)
  iterate 2 (refine ords_pure rfl (fun K hK => ?_); go_simp; refine hK _ ?_; clear hK K; refine ords_pure rfl (fun K hK => ?_); go_simp; refine hK _ ?_; clear hK K; refine ords_pure rfl (fun K hK => ?_); go_simp; refine hK _ ?_; clear hK K; refine ords_heldK rfl (fun K K2 hK hK2 => ?_); go_simp; refine ⟨hK2 _ (fun w9 hS => ?_), hK _ ?_⟩; (clear hK hK2 K K2; (first | refine withN hS ?_ | refine withD hS ?_ | refine with0 hS ?_); intro hcS hfS; go_simp); (clear hK hK2 K K2))
  refine ords_held (v := Value.agg [.int .u64 (wrd p), .int .u64 (wrd q)].toArray) rfl rfl (fun w9 hS => pure_load_mid 217 (.tmp 5) rfl gl 0 rfl _ _ (HBL.below hS hlt).whole hu.out rfl (by kernel_rfl)) ?_; go_simp;refine ords_pure rfl (fun K hK => ?_); go_simp; refine hK _ ?_; clear hK K;refine ords_loud rfl (fun n1 => ?_);go_wp2_with (go_at_call 129; refine (HP _ (HE2.drewN _).own.reads).mono ?_; rintro e w5 ⟨A5, c5, rfl, ho5, hb5⟩); have HO5 := zH ho5; have HB5 := zH (bcall (bdr (b0 wc) _) hb5); clear ho5 hb5; refine ⟨HB5.out, ?_⟩;refine ords_loud rfl (fun n2 => ?_)
  first
   |(guard_expr zA=zA;go_wp2_with (go_at_call 143; refine (HM A5 c5 _ _ (aZC _) (HO5.drewN _).reads).mono ?_; rintro e w6 ⟨rfl, hb6⟩); have HB6 := zH (bcall (bdr HB5 _) hb6); clear hb6; refine ⟨HB6.out, ?_⟩)
   |(go_wp2_with (go_at_call 146; refine (HM A5 c5 _ _ (aZC _) (HO5.drewN _).reads).mono ?_; rintro e w6 ⟨rfl, hb6⟩); have HB6 := zH (bcall (bdr HB5 _) hb6); clear hb6; refine ⟨HB6.out, ?_⟩)
  refine ords_loud rfl (fun n3 => ?_)
  first
   |(guard_expr zA=zA;go_wp2_with (go_at_call 144; refine (HB _).mono ?_; rintro e w7 ⟨A7, c7, rfl, ho7, hb7⟩); have HO7 := zH (ho7.mono (show w.heap.size <= _ from Nat.le_trans HWC.size HB6.size)); have HB7 := zH (bcall (bdr HB6 _) hb7); clear ho7 hb7; refine ⟨HB7.out, ?_⟩)
   |(go_wp2_with (go_at_call 147; refine (HB _).mono ?_; rintro e w7 ⟨A7, c7, rfl, ho7, hb7⟩); have HO7 := zH (ho7.mono (show w.heap.size <= _ from Nat.le_trans HWC.size HB6.size)); have HB7 := zH (bcall (bdr HB6 _) hb7); clear ho7 hb7; refine ⟨HB7.out, ?_⟩)
  refine ords_pure rfl (fun K hK => ?_); go_simp; refine hK _ ?_; clear hK K;refine ords_end (fun n4 => ?_);go_wp2; exact bodyPost_ret (results_tmp rfl _ _ _) rfl ⟨A7, c7, rfl, HO7.drewN _, bdr (bcall HWC HB7) _⟩
 ) : P := h
theorem zS4 {P : Prop} (h : P := by
 have hl := lay_get hp 0 V hV;have HP := zH hp
 first
  |(guard_expr zA=zA)
  |(have rp := fun W => r4places_any p W hp)
 obtain ⟨q, hq⟩ : ∃ q, q = p.get 0 V := ⟨_, rfl⟩
 first
  |(guard_expr zA=zA)
  |(have hsz : Hid ((Tryz.prog.info? 155).map (·.size) = some (wc3 (p.lay V (gm32 q x y))).size) := sz16s _ (by rw [lay_len, hV])
    have hVs : Hid (16 = (wc3 (p.lay V (gm32 q x y))).size) := by show _ = _; rw [wc3_size, lay_len, hV]
    have hu := zH Tryz.underlying155;have hall := zH (wc3_all (p.lay V (gm32 q x y))))
 rw [<- hq] at hl ⊢
 first
  |(guard_expr zA=zA;rw [<- hl] at hg)
  |(rw [<- hl]
    rw [<- hl] at hsz hVs hall;have elay : ∀ r, p.lay (p.lay V q) r = p.lay V r := fun r => by
     obtain ⟨ra, rb, rc, rd⟩ := r;have h1 := lay_a hp V q ra; have h2 := lay_b hp V { q with a := ra } rb; have h3 := lay_c hp V { q with a := ra, b := rb } rc; have h4 := lay_d (p := p) V { q with a := ra, b := rb, c := rc } rd
     show (((((p.lay V q).set p.a ra).set p.b rb).set p.c rc).set p.d rd) = _
     rw [h1, h2, h3, h4]
    rw [elay] at hsz hVs hall ⊢)
 have HAa := zH fun q => at_a hp V q hV
 have HAb := zH fun q => at_b hp V q hV
 have HAc := zH fun q => at_c hp V q hV
 have HAd := zH fun q => at_d hp V q hV
 have HLa := zH (lay_a hp V); have HLb := zH (lay_b hp V); have HLc := zH (lay_c hp V); have HLd := zH (lay_d (p := p) V);have la := hp.a; have lb := hp.b; have lc := hp.c; have ld := hp.d;generalize hlay : p.lay V = lay at *
 first
  |(guard_expr zA=zA;clear hlay hl hp HP hV hq)
  |(clear hlay hl hp HP hV hq elay)
 obtain ⟨pa, pb, pc, pd⟩ := p;dsimp only at *;obtain ⟨ka, kb, kc, kd⟩ := q;have i1 : (pa : Int) < 16 := by omega
 have i2 : (pb : Int) < 16 := by omega
 have i3 : (pc : Int) < 16 := by omega
 have i4 : (pd : Int) < 16 := by omega
 have h1 := wr3_add; have h2 := wr3_xor
 first
  |(guard_expr zA=zA
    have HB := zH hg; have HG := zH hgr; clear hg hgr;go_enter Tryz.func176, Tryz.ntmps176;go_wp2_with fail)
  |(obtain ⟨g, hg⟩ : ∃ g, g = w.heap.size := ⟨_, rfl⟩
    have HGE := zH hg;have hb : Blk ((w.alloc (.cells (wc3 (lay ⟨ka, kb, kc, kd⟩)) 155)).alloc (.cells z16s 155)) g 155 (wc3 (lay ⟨ka, kb, kc, kd⟩)) := by rw [hg]; exact (Blk.new _ _ _).alloc _
    have hr : Blk ((w.alloc (.cells (wc3 (lay ⟨ka, kb, kc, kd⟩)) 155)).alloc (.cells z16s 155)) (g + 1) 155 z16s := by rw [hg]; simpa using Blk.new (w.alloc (.cells (wc3 (lay ⟨ka, kb, kc, kd⟩)) 155)) 155 z16s
    have hgr : Below w.heap.size w ((w.alloc (.cells (wc3 (lay ⟨ka, kb, kc, kd⟩)) 155)).alloc (.cells z16s 155)) := bal (bal (b0 w) _) _;unfold z16s at hb hr hgr;go_enter Tryz.func140, Tryz.ntmps140;go_upto_region 1 with fail
    rw [<- hg];generalize (w.alloc (.cells (wc3 (lay ⟨ka, kb, kc, kd⟩)) 155)).alloc (.cells #[.int .u32 0, .int .u32 0, .int .u32 0, .int .u32 0, .int .u32 0, .int .u32 0, .int .u32 0, .int .u32 0, .int .u32 0, .int .u32 0, .int .u32 0, .int .u32 0, .int .u32 0, .int .u32 0, .int .u32 0, .int .u32 0] 155) = wa at *;clear hg;have HB := zH hb; have HR := zH hr; have HG := zH hgr; clear hb hr hgr;have RP := zH rp; clear rp;go_wp2_with (go_at_call 153; refine (RP _).mono ?_; rintro e wc ⟨rfl, hb9⟩; have HB2 := zH (HB.below hb9 HB.lt); have HR2 := zH (HR.below hb9 HR.lt); have HG2 := zH (bcall HG hb9); clear hb9);clear RP HB HR HG wa;have HB := zH HB2.out; have HR := zH HR2.out; have HG := zH HG2.out; clear HB2 HR2 HG2)
 have ga : wc.cell? ⟨g, pa, none⟩ = some (.int .u32 (wr3 ka)) := (HB.cell _).trans (wc3_at' _ _ _ (HAa _));have gb : wc.cell? ⟨g, pb, none⟩ = some (.int .u32 (wr3 kb)) := (HB.cell _).trans (wc3_at' _ _ _ (HAb _));have gc : wc.cell? ⟨g, pc, none⟩ = some (.int .u32 (wr3 kc)) := (HB.cell _).trans (wc3_at' _ _ _ (HAc _));have gd : wc.cell? ⟨g, pd, none⟩ = some (.int .u32 (wr3 kd)) := (HB.cell _).trans (wc3_at' _ _ _ (HAd _));have fa : ∀ i, wc.frozen? ⟨g, i, none⟩ = false := HB.frozen
 first
  |(guard_expr zA=zA
    refine wrZ (fun _ => True) (fun _ _ h => h) (Ords.of [(0, 0), (0, 1), (0, 2), (0, 3), (1, 4), (0, 5), (0, 6), (0, 7), (0, 8), (1, 9), (0, 10), (0, 11), (0, 12), (0, 13), (0, 14), (2, 15)] .fin) trivial ?_
    iterate 15 ((first | refine ords_pure rfl (fun K hK => ?_) | refine ords_read rfl (fun K hK => ?_)); go_simp; refine hK _ ?_; clear hK K))
  |(refine wrZ (fun _ => True) (fun _ _ h => h) (Ords.of [(0, 0), (0, 1), (0, 2), (1, 3), (0, 4), (0, 5), (1, 6), (0, 7), (0, 8), (0, 9), (0, 10), (2, 11)] .fin) trivial ?_
    iterate 11 ((first | refine ords_pure rfl (fun K hK => ?_) | refine ords_read rfl (fun K hK => ?_)); go_simp; refine hK _ ?_; clear hK K))
 refine ords_loud rfl (fun n1 => ?_);go_wp2
 first | (refine ⟨trivial, ?_⟩; refine ords_end (fun n2 => ?_)) | (rintro _ ⟨n2, rfl⟩)
 first
  |(guard_expr zA=zA;have hb := ((HB.drewN n1).set_ pa (wv3 (ka + (kb + x)))).drewN n2)
  |(have hb := ((HB.drewN n1).set_ pa (wv3 (ka + kb + x))).drewN n2)
 rw [wc3_set, HLa.out] at hb;dsimp only at hb
 first
  |(guard_expr zA=zA;have hgr := gdr (grown_set (gdr HG (n1)) (p := ⟨g, pa, none⟩) (.inl rfl) (wv3 (ka + (kb + x)))) n2)
  |(have hr := ((HR.drewN n1).far (p := ⟨g, pa, none⟩) (show g + 1 ≠ g by omega) (wv3 (ka + kb + x))).drewN n2
    have hgr := bdr (bput (bdr HG (n1)) (p := ⟨g, pa, none⟩) (show w.heap.size <= g from bZF HGE.symm) (wv3 (ka + kb + x))) n2)
 go_wp2_with fail
 first
  |(guard_expr zA=zA
    change Blk (aZD (aZI (aZD wc (n1)) ⟨g, pa, none⟩ (.int .u32 (wr3 ((ka + (kb + x)))))) n2) _ _ _ at hb;change w.grownBy (aZD (aZI (aZD wc (n1)) ⟨g, pa, none⟩ (.int .u32 (wr3 ((ka + (kb + x)))))) n2) _ at hgr;clear ga gb gc gd fa HB HG;generalize aZD (aZI (aZD wc (n1)) ⟨g, pa, none⟩ (.int .u32 (wr3 ((ka + (kb + x)))))) n2 = wn at *;obtain ⟨a1, ha1⟩ : ∃ a1, a1 = (ka + (kb + x)) := ⟨_, rfl⟩)
  |(change Blk (aZD (aZI (aZD wc (n1)) ⟨g, pa, none⟩ (.int .u32 (wr3 ((ka + kb + x))))) n2) _ _ _ at hb
    change Blk (aZD (aZI (aZD wc (n1)) ⟨g, pa, none⟩ (.int .u32 (wr3 ((ka + kb + x))))) n2) _ _ _ at hr;change Below _ w (aZD (aZI (aZD wc (n1)) ⟨g, pa, none⟩ (.int .u32 (wr3 ((ka + kb + x))))) n2) at hgr;clear ga gb gc gd fa HB HG HR;generalize aZD (aZI (aZD wc (n1)) ⟨g, pa, none⟩ (.int .u32 (wr3 ((ka + kb + x))))) n2 = wn at *;obtain ⟨a1, ha1⟩ : ∃ a1, a1 = (ka + kb + x) := ⟨_, rfl⟩)
 rw [<- ha1] at hb ⊢;clear wc;obtain ⟨wc, hwc⟩ : ∃ wc, wc = wn := ⟨_, rfl⟩
 first
  |(guard_expr zA=zA;rw [<- hwc] at hb hgr ⊢)
  |(rw [<- hwc] at hb hr hgr ⊢)
 clear hwc
 first
  |(guard_expr zA=zA;have Ea1 := zH ha1; have HB := zH hb; have HG := zH hgr; clear hb hgr ha1)
  |(have Ea1 := zH ha1; have HB := zH hb; have HR := zH hr; have HG := zH hgr; clear hb hr hgr ha1)
 have ga : wc.cell? ⟨g, pa, none⟩ = some (.int .u32 (wr3 a1)) := (HB.cell _).trans (wc3_at' _ _ _ (HAa _));have gb : wc.cell? ⟨g, pb, none⟩ = some (.int .u32 (wr3 kb)) := (HB.cell _).trans (wc3_at' _ _ _ (HAb _));have gc : wc.cell? ⟨g, pc, none⟩ = some (.int .u32 (wr3 kc)) := (HB.cell _).trans (wc3_at' _ _ _ (HAc _));have gd : wc.cell? ⟨g, pd, none⟩ = some (.int .u32 (wr3 kd)) := (HB.cell _).trans (wc3_at' _ _ _ (HAd _));have fa : ∀ i, wc.frozen? ⟨g, i, none⟩ = false := HB.frozen
 first
  |(guard_expr zA=zA
    refine wrZ (fun _ => True) (fun _ _ h => h) (Ords.of [(0, 0), (0, 1), (0, 2), (0, 3), (0, 4), (0, 5), (1, 6), (0, 7), (0, 8), (0, 9), (0, 10), (1, 11), (0, 12), (0, 14), (2, 13), (0, 15), (2, 16)] .fin) trivial ?_
    iterate 14 ((first | refine ords_pure rfl (fun K hK => ?_) | refine ords_read rfl (fun K hK => ?_)); go_simp; refine hK _ ?_; clear hK K))
  |(refine wrZ (fun _ => True) (fun _ _ h => h) (Ords.of [(0, 0), (0, 1), (0, 2), (1, 3), (0, 4), (0, 5), (1, 6), (0, 7), (2, 8), (0, 9), (2, 10)] .fin) trivial ?_
    iterate 8 ((first | refine ords_pure rfl (fun K hK => ?_) | refine ords_read rfl (fun K hK => ?_)); go_simp; refine hK _ ?_; clear hK K))
 refine ords_loud rfl (fun n1 => ?_)
 first
  |(guard_expr zA=zA;go_wp2_with (go_at_call 178; refine (rotl3_16 _ _).mono ?_; rintro e w9 ⟨rfl, rfl⟩))
  |(go_wp2_with (go_at_call 154; refine (r4turn_16 _ _).mono ?_; rintro e w9 ⟨rfl, rfl⟩))
 refine ⟨trivial, ?_⟩;refine ords_pure rfl (fun K hK => ?_); go_simp; refine hK _ ?_; clear hK K;refine ords_loud rfl (fun n2 => ?_);go_wp2
 first | (refine ⟨trivial, ?_⟩; refine ords_end (fun n3 => ?_)) | (rintro _ ⟨n3, rfl⟩)
 have hb := ((HB.drewN (n1 + n2)).set_ pd (wv3 (rot3 (kd ^^^ a1) 16))).drewN n3;rw [wc3_set, HLd.out] at hb;dsimp only at hb
 first
  |(guard_expr zA=zA;have hgr := gdr (grown_set (gdr HG ((n1 + n2))) (p := ⟨g, pd, none⟩) (.inl rfl) (wv3 (rot3 (kd ^^^ a1) 16))) n3)
  |(have hr := ((HR.drewN (n1 + n2)).far (p := ⟨g, pd, none⟩) (show g + 1 ≠ g by omega) (wv3 (rot3 (kd ^^^ a1) 16))).drewN n3
    have hgr := bdr (bput (bdr HG ((n1 + n2))) (p := ⟨g, pd, none⟩) (show w.heap.size <= g from bZF HGE.symm) (wv3 (rot3 (kd ^^^ a1) 16))) n3)
 go_wp2_with fail;change Blk (aZD (aZI (aZD wc ((n1 + n2))) ⟨g, pd, none⟩ (.int .u32 (wr3 ((rot3 (kd ^^^ a1) 16))))) n3) _ _ _ at hb
 first
  |(guard_expr zA=zA
    change w.grownBy (aZD (aZI (aZD wc ((n1 + n2))) ⟨g, pd, none⟩ (.int .u32 (wr3 ((rot3 (kd ^^^ a1) 16))))) n3) _ at hgr;clear ga gb gc gd fa HB HG)
  |(change Blk (aZD (aZI (aZD wc ((n1 + n2))) ⟨g, pd, none⟩ (.int .u32 (wr3 ((rot3 (kd ^^^ a1) 16))))) n3) _ _ _ at hr
    change Below _ w (aZD (aZI (aZD wc ((n1 + n2))) ⟨g, pd, none⟩ (.int .u32 (wr3 ((rot3 (kd ^^^ a1) 16))))) n3) at hgr;clear ga gb gc gd fa HB HG HR)
 generalize aZD (aZI (aZD wc ((n1 + n2))) ⟨g, pd, none⟩ (.int .u32 (wr3 ((rot3 (kd ^^^ a1) 16))))) n3 = wn at *;obtain ⟨d1, hd1⟩ : ∃ d1, d1 = (rot3 (kd ^^^ a1) 16) := ⟨_, rfl⟩;rw [<- hd1] at hb ⊢;clear wc;obtain ⟨wc, hwc⟩ : ∃ wc, wc = wn := ⟨_, rfl⟩
 first
  |(guard_expr zA=zA;rw [<- hwc] at hb hgr ⊢)
  |(rw [<- hwc] at hb hr hgr ⊢)
 clear hwc
 first
  |(guard_expr zA=zA;have Ed1 := zH hd1; have HB := zH hb; have HG := zH hgr; clear hb hgr hd1)
  |(have Ed1 := zH hd1; have HB := zH hb; have HR := zH hr; have HG := zH hgr; clear hb hr hgr hd1)
 have ga : wc.cell? ⟨g, pa, none⟩ = some (.int .u32 (wr3 a1)) := (HB.cell _).trans (wc3_at' _ _ _ (HAa _));have gb : wc.cell? ⟨g, pb, none⟩ = some (.int .u32 (wr3 kb)) := (HB.cell _).trans (wc3_at' _ _ _ (HAb _));have gc : wc.cell? ⟨g, pc, none⟩ = some (.int .u32 (wr3 kc)) := (HB.cell _).trans (wc3_at' _ _ _ (HAc _));have gd : wc.cell? ⟨g, pd, none⟩ = some (.int .u32 (wr3 d1)) := (HB.cell _).trans (wc3_at' _ _ _ (HAd _));have fa : ∀ i, wc.frozen? ⟨g, i, none⟩ = false := HB.frozen
 first
  |(guard_expr zA=zA
    refine wrZ (fun _ => True) (fun _ _ h => h) (Ords.of [(0, 0), (0, 1), (0, 2), (0, 3), (1, 4), (0, 5), (0, 6), (0, 7), (0, 8), (1, 9), (0, 10), (0, 11), (0, 12), (2, 13)] .fin) trivial ?_
    iterate 13 ((first | refine ords_pure rfl (fun K hK => ?_) | refine ords_read rfl (fun K hK => ?_)); go_simp; refine hK _ ?_; clear hK K))
  |(refine wrZ (fun _ => True) (fun _ _ h => h) (Ords.of [(0, 0), (0, 1), (0, 2), (1, 3), (0, 4), (0, 5), (1, 6), (0, 7), (0, 8), (2, 9)] .fin) trivial ?_
    iterate 9 ((first | refine ords_pure rfl (fun K hK => ?_) | refine ords_read rfl (fun K hK => ?_)); go_simp; refine hK _ ?_; clear hK K))
 refine ords_loud rfl (fun n1 => ?_);go_wp2
 first | (refine ⟨trivial, ?_⟩; refine ords_end (fun n2 => ?_)) | (rintro _ ⟨n2, rfl⟩)
 have hb := ((HB.drewN n1).set_ pc (wv3 (kc + d1))).drewN n2;rw [wc3_set, HLc.out] at hb;dsimp only at hb
 first
  |(guard_expr zA=zA;have hgr := gdr (grown_set (gdr HG (n1)) (p := ⟨g, pc, none⟩) (.inl rfl) (wv3 (kc + d1))) n2)
  |(have hr := ((HR.drewN n1).far (p := ⟨g, pc, none⟩) (show g + 1 ≠ g by omega) (wv3 (kc + d1))).drewN n2
    have hgr := bdr (bput (bdr HG (n1)) (p := ⟨g, pc, none⟩) (show w.heap.size <= g from bZF HGE.symm) (wv3 (kc + d1))) n2)
 go_wp2_with fail;change Blk (aZD (aZI (aZD wc (n1)) ⟨g, pc, none⟩ (.int .u32 (wr3 ((kc + d1))))) n2) _ _ _ at hb
 first
  |(guard_expr zA=zA
    change w.grownBy (aZD (aZI (aZD wc (n1)) ⟨g, pc, none⟩ (.int .u32 (wr3 ((kc + d1))))) n2) _ at hgr;clear ga gb gc gd fa HB HG)
  |(change Blk (aZD (aZI (aZD wc (n1)) ⟨g, pc, none⟩ (.int .u32 (wr3 ((kc + d1))))) n2) _ _ _ at hr
    change Below _ w (aZD (aZI (aZD wc (n1)) ⟨g, pc, none⟩ (.int .u32 (wr3 ((kc + d1))))) n2) at hgr;clear ga gb gc gd fa HB HG HR)
 generalize aZD (aZI (aZD wc (n1)) ⟨g, pc, none⟩ (.int .u32 (wr3 ((kc + d1))))) n2 = wn at *;obtain ⟨c1, hc1⟩ : ∃ c1, c1 = (kc + d1) := ⟨_, rfl⟩;rw [<- hc1] at hb ⊢;clear wc;obtain ⟨wc, hwc⟩ : ∃ wc, wc = wn := ⟨_, rfl⟩
 first
  |(guard_expr zA=zA;rw [<- hwc] at hb hgr ⊢)
  |(rw [<- hwc] at hb hr hgr ⊢)
 clear hwc
 first
  |(guard_expr zA=zA;have Ec1 := zH hc1; have HB := zH hb; have HG := zH hgr; clear hb hgr hc1)
  |(have Ec1 := zH hc1; have HB := zH hb; have HR := zH hr; have HG := zH hgr; clear hb hr hgr hc1)
 have ga : wc.cell? ⟨g, pa, none⟩ = some (.int .u32 (wr3 a1)) := (HB.cell _).trans (wc3_at' _ _ _ (HAa _));have gb : wc.cell? ⟨g, pb, none⟩ = some (.int .u32 (wr3 kb)) := (HB.cell _).trans (wc3_at' _ _ _ (HAb _));have gc : wc.cell? ⟨g, pc, none⟩ = some (.int .u32 (wr3 c1)) := (HB.cell _).trans (wc3_at' _ _ _ (HAc _));have gd : wc.cell? ⟨g, pd, none⟩ = some (.int .u32 (wr3 d1)) := (HB.cell _).trans (wc3_at' _ _ _ (HAd _));have fa : ∀ i, wc.frozen? ⟨g, i, none⟩ = false := HB.frozen
 first
  |(guard_expr zA=zA
    refine wrZ (fun _ => True) (fun _ _ h => h) (Ords.of [(0, 0), (0, 1), (0, 2), (0, 3), (0, 4), (0, 5), (1, 6), (0, 7), (0, 8), (0, 9), (0, 10), (1, 11), (0, 12), (0, 14), (2, 13), (0, 15), (2, 16)] .fin) trivial ?_
    iterate 14 ((first | refine ords_pure rfl (fun K hK => ?_) | refine ords_read rfl (fun K hK => ?_)); go_simp; refine hK _ ?_; clear hK K))
  |(refine wrZ (fun _ => True) (fun _ _ h => h) (Ords.of [(0, 0), (0, 1), (0, 2), (1, 3), (0, 4), (0, 5), (1, 6), (0, 7), (2, 8), (0, 9), (2, 10)] .fin) trivial ?_
    iterate 8 ((first | refine ords_pure rfl (fun K hK => ?_) | refine ords_read rfl (fun K hK => ?_)); go_simp; refine hK _ ?_; clear hK K))
 refine ords_loud rfl (fun n1 => ?_)
 first
  |(guard_expr zA=zA;go_wp2_with (go_at_call 178; refine (rotl3_12 _ _).mono ?_; rintro e w9 ⟨rfl, rfl⟩))
  |(go_wp2_with (go_at_call 154; refine (r4turn_12 _ _).mono ?_; rintro e w9 ⟨rfl, rfl⟩))
 refine ⟨trivial, ?_⟩;refine ords_pure rfl (fun K hK => ?_); go_simp; refine hK _ ?_; clear hK K;refine ords_loud rfl (fun n2 => ?_);go_wp2
 first | (refine ⟨trivial, ?_⟩; refine ords_end (fun n3 => ?_)) | (rintro _ ⟨n3, rfl⟩)
 have hb := ((HB.drewN (n1 + n2)).set_ pb (wv3 (rot3 (kb ^^^ c1) 12))).drewN n3;rw [wc3_set, HLb.out] at hb;dsimp only at hb
 first
  |(guard_expr zA=zA;have hgr := gdr (grown_set (gdr HG ((n1 + n2))) (p := ⟨g, pb, none⟩) (.inl rfl) (wv3 (rot3 (kb ^^^ c1) 12))) n3)
  |(have hr := ((HR.drewN (n1 + n2)).far (p := ⟨g, pb, none⟩) (show g + 1 ≠ g by omega) (wv3 (rot3 (kb ^^^ c1) 12))).drewN n3
    have hgr := bdr (bput (bdr HG ((n1 + n2))) (p := ⟨g, pb, none⟩) (show w.heap.size <= g from bZF HGE.symm) (wv3 (rot3 (kb ^^^ c1) 12))) n3)
 go_wp2_with fail;change Blk (aZD (aZI (aZD wc ((n1 + n2))) ⟨g, pb, none⟩ (.int .u32 (wr3 ((rot3 (kb ^^^ c1) 12))))) n3) _ _ _ at hb
 first
  |(guard_expr zA=zA
    change w.grownBy (aZD (aZI (aZD wc ((n1 + n2))) ⟨g, pb, none⟩ (.int .u32 (wr3 ((rot3 (kb ^^^ c1) 12))))) n3) _ at hgr;clear ga gb gc gd fa HB HG)
  |(change Blk (aZD (aZI (aZD wc ((n1 + n2))) ⟨g, pb, none⟩ (.int .u32 (wr3 ((rot3 (kb ^^^ c1) 12))))) n3) _ _ _ at hr
    change Below _ w (aZD (aZI (aZD wc ((n1 + n2))) ⟨g, pb, none⟩ (.int .u32 (wr3 ((rot3 (kb ^^^ c1) 12))))) n3) at hgr;clear ga gb gc gd fa HB HG HR)
 generalize aZD (aZI (aZD wc ((n1 + n2))) ⟨g, pb, none⟩ (.int .u32 (wr3 ((rot3 (kb ^^^ c1) 12))))) n3 = wn at *;obtain ⟨b1, hb1⟩ : ∃ b1, b1 = (rot3 (kb ^^^ c1) 12) := ⟨_, rfl⟩;rw [<- hb1] at hb ⊢;clear wc;obtain ⟨wc, hwc⟩ : ∃ wc, wc = wn := ⟨_, rfl⟩
 first
  |(guard_expr zA=zA;rw [<- hwc] at hb hgr ⊢)
  |(rw [<- hwc] at hb hr hgr ⊢)
 clear hwc
 first
  |(guard_expr zA=zA;have Eb1 := zH hb1; have HB := zH hb; have HG := zH hgr; clear hb hgr hb1)
  |(have Eb1 := zH hb1; have HB := zH hb; have HR := zH hr; have HG := zH hgr; clear hb hr hgr hb1)
 have ga : wc.cell? ⟨g, pa, none⟩ = some (.int .u32 (wr3 a1)) := (HB.cell _).trans (wc3_at' _ _ _ (HAa _));have gb : wc.cell? ⟨g, pb, none⟩ = some (.int .u32 (wr3 b1)) := (HB.cell _).trans (wc3_at' _ _ _ (HAb _));have gc : wc.cell? ⟨g, pc, none⟩ = some (.int .u32 (wr3 c1)) := (HB.cell _).trans (wc3_at' _ _ _ (HAc _));have gd : wc.cell? ⟨g, pd, none⟩ = some (.int .u32 (wr3 d1)) := (HB.cell _).trans (wc3_at' _ _ _ (HAd _));have fa : ∀ i, wc.frozen? ⟨g, i, none⟩ = false := HB.frozen
 first
  |(guard_expr zA=zA
    refine wrZ (fun _ => True) (fun _ _ h => h) (Ords.of [(0, 0), (0, 1), (0, 2), (0, 3), (1, 4), (0, 5), (0, 6), (0, 7), (0, 8), (1, 9), (0, 10), (0, 11), (0, 12), (0, 13), (0, 14), (2, 15)] .fin) trivial ?_
    iterate 15 ((first | refine ords_pure rfl (fun K hK => ?_) | refine ords_read rfl (fun K hK => ?_)); go_simp; refine hK _ ?_; clear hK K))
  |(refine wrZ (fun _ => True) (fun _ _ h => h) (Ords.of [(0, 0), (0, 1), (0, 2), (1, 3), (0, 4), (0, 5), (1, 6), (0, 7), (0, 8), (0, 9), (0, 10), (2, 11)] .fin) trivial ?_
    iterate 11 ((first | refine ords_pure rfl (fun K hK => ?_) | refine ords_read rfl (fun K hK => ?_)); go_simp; refine hK _ ?_; clear hK K))
 refine ords_loud rfl (fun n1 => ?_);go_wp2
 first | (refine ⟨trivial, ?_⟩; refine ords_end (fun n2 => ?_)) | (rintro _ ⟨n2, rfl⟩)
 first
  |(guard_expr zA=zA;have hb := ((HB.drewN n1).set_ pa (wv3 (a1 + (b1 + y)))).drewN n2)
  |(have hb := ((HB.drewN n1).set_ pa (wv3 (a1 + b1 + y))).drewN n2)
 rw [wc3_set, HLa.out] at hb;dsimp only at hb
 first
  |(guard_expr zA=zA;have hgr := gdr (grown_set (gdr HG (n1)) (p := ⟨g, pa, none⟩) (.inl rfl) (wv3 (a1 + (b1 + y)))) n2)
  |(have hr := ((HR.drewN n1).far (p := ⟨g, pa, none⟩) (show g + 1 ≠ g by omega) (wv3 (a1 + b1 + y))).drewN n2
    have hgr := bdr (bput (bdr HG (n1)) (p := ⟨g, pa, none⟩) (show w.heap.size <= g from bZF HGE.symm) (wv3 (a1 + b1 + y))) n2)
 go_wp2_with fail
 first
  |(guard_expr zA=zA
    change Blk (aZD (aZI (aZD wc (n1)) ⟨g, pa, none⟩ (.int .u32 (wr3 ((a1 + (b1 + y)))))) n2) _ _ _ at hb;change w.grownBy (aZD (aZI (aZD wc (n1)) ⟨g, pa, none⟩ (.int .u32 (wr3 ((a1 + (b1 + y)))))) n2) _ at hgr;clear ga gb gc gd fa HB HG;generalize aZD (aZI (aZD wc (n1)) ⟨g, pa, none⟩ (.int .u32 (wr3 ((a1 + (b1 + y)))))) n2 = wn at *;obtain ⟨a2, ha2⟩ : ∃ a2, a2 = (a1 + (b1 + y)) := ⟨_, rfl⟩)
  |(change Blk (aZD (aZI (aZD wc (n1)) ⟨g, pa, none⟩ (.int .u32 (wr3 ((a1 + b1 + y))))) n2) _ _ _ at hb
    change Blk (aZD (aZI (aZD wc (n1)) ⟨g, pa, none⟩ (.int .u32 (wr3 ((a1 + b1 + y))))) n2) _ _ _ at hr;change Below _ w (aZD (aZI (aZD wc (n1)) ⟨g, pa, none⟩ (.int .u32 (wr3 ((a1 + b1 + y))))) n2) at hgr;clear ga gb gc gd fa HB HG HR;generalize aZD (aZI (aZD wc (n1)) ⟨g, pa, none⟩ (.int .u32 (wr3 ((a1 + b1 + y))))) n2 = wn at *;obtain ⟨a2, ha2⟩ : ∃ a2, a2 = (a1 + b1 + y) := ⟨_, rfl⟩)
 rw [<- ha2] at hb ⊢;clear wc;obtain ⟨wc, hwc⟩ : ∃ wc, wc = wn := ⟨_, rfl⟩
 first
  |(guard_expr zA=zA;rw [<- hwc] at hb hgr ⊢)
  |(rw [<- hwc] at hb hr hgr ⊢)
 clear hwc
 first
  |(guard_expr zA=zA;have Ea2 := zH ha2; have HB := zH hb; have HG := zH hgr; clear hb hgr ha2)
  |(have Ea2 := zH ha2; have HB := zH hb; have HR := zH hr; have HG := zH hgr; clear hb hr hgr ha2)
 have ga : wc.cell? ⟨g, pa, none⟩ = some (.int .u32 (wr3 a2)) := (HB.cell _).trans (wc3_at' _ _ _ (HAa _));have gb : wc.cell? ⟨g, pb, none⟩ = some (.int .u32 (wr3 b1)) := (HB.cell _).trans (wc3_at' _ _ _ (HAb _));have gc : wc.cell? ⟨g, pc, none⟩ = some (.int .u32 (wr3 c1)) := (HB.cell _).trans (wc3_at' _ _ _ (HAc _));have gd : wc.cell? ⟨g, pd, none⟩ = some (.int .u32 (wr3 d1)) := (HB.cell _).trans (wc3_at' _ _ _ (HAd _));have fa : ∀ i, wc.frozen? ⟨g, i, none⟩ = false := HB.frozen
 first
  |(guard_expr zA=zA
    refine wrZ (fun _ => True) (fun _ _ h => h) (Ords.of [(0, 0), (0, 1), (0, 2), (0, 3), (0, 4), (0, 5), (1, 6), (0, 7), (0, 8), (0, 9), (0, 10), (1, 11), (0, 12), (0, 14), (2, 13), (0, 15), (2, 16)] .fin) trivial ?_
    iterate 14 ((first | refine ords_pure rfl (fun K hK => ?_) | refine ords_read rfl (fun K hK => ?_)); go_simp; refine hK _ ?_; clear hK K))
  |(refine wrZ (fun _ => True) (fun _ _ h => h) (Ords.of [(0, 0), (0, 1), (0, 2), (1, 3), (0, 4), (0, 5), (1, 6), (0, 7), (2, 8), (0, 9), (2, 10)] .fin) trivial ?_
    iterate 8 ((first | refine ords_pure rfl (fun K hK => ?_) | refine ords_read rfl (fun K hK => ?_)); go_simp; refine hK _ ?_; clear hK K))
 refine ords_loud rfl (fun n1 => ?_)
 first
  |(guard_expr zA=zA;go_wp2_with (go_at_call 178; refine (rotl3_8 _ _).mono ?_; rintro e w9 ⟨rfl, rfl⟩))
  |(go_wp2_with (go_at_call 154; refine (r4turn_8 _ _).mono ?_; rintro e w9 ⟨rfl, rfl⟩))
 refine ⟨trivial, ?_⟩;refine ords_pure rfl (fun K hK => ?_); go_simp; refine hK _ ?_; clear hK K;refine ords_loud rfl (fun n2 => ?_);go_wp2
 first | (refine ⟨trivial, ?_⟩; refine ords_end (fun n3 => ?_)) | (rintro _ ⟨n3, rfl⟩)
 have hb := ((HB.drewN (n1 + n2)).set_ pd (wv3 (rot3 (d1 ^^^ a2) 8))).drewN n3;rw [wc3_set, HLd.out] at hb;dsimp only at hb
 first
  |(guard_expr zA=zA;have hgr := gdr (grown_set (gdr HG ((n1 + n2))) (p := ⟨g, pd, none⟩) (.inl rfl) (wv3 (rot3 (d1 ^^^ a2) 8))) n3)
  |(have hr := ((HR.drewN (n1 + n2)).far (p := ⟨g, pd, none⟩) (show g + 1 ≠ g by omega) (wv3 (rot3 (d1 ^^^ a2) 8))).drewN n3
    have hgr := bdr (bput (bdr HG ((n1 + n2))) (p := ⟨g, pd, none⟩) (show w.heap.size <= g from bZF HGE.symm) (wv3 (rot3 (d1 ^^^ a2) 8))) n3)
 go_wp2_with fail;change Blk (aZD (aZI (aZD wc ((n1 + n2))) ⟨g, pd, none⟩ (.int .u32 (wr3 ((rot3 (d1 ^^^ a2) 8))))) n3) _ _ _ at hb
 first
  |(guard_expr zA=zA
    change w.grownBy (aZD (aZI (aZD wc ((n1 + n2))) ⟨g, pd, none⟩ (.int .u32 (wr3 ((rot3 (d1 ^^^ a2) 8))))) n3) _ at hgr;clear ga gb gc gd fa HB HG)
  |(change Blk (aZD (aZI (aZD wc ((n1 + n2))) ⟨g, pd, none⟩ (.int .u32 (wr3 ((rot3 (d1 ^^^ a2) 8))))) n3) _ _ _ at hr
    change Below _ w (aZD (aZI (aZD wc ((n1 + n2))) ⟨g, pd, none⟩ (.int .u32 (wr3 ((rot3 (d1 ^^^ a2) 8))))) n3) at hgr;clear ga gb gc gd fa HB HG HR)
 generalize aZD (aZI (aZD wc ((n1 + n2))) ⟨g, pd, none⟩ (.int .u32 (wr3 ((rot3 (d1 ^^^ a2) 8))))) n3 = wn at *;obtain ⟨d2, hd2⟩ : ∃ d2, d2 = (rot3 (d1 ^^^ a2) 8) := ⟨_, rfl⟩;rw [<- hd2] at hb ⊢;clear wc;obtain ⟨wc, hwc⟩ : ∃ wc, wc = wn := ⟨_, rfl⟩
 first
  |(guard_expr zA=zA;rw [<- hwc] at hb hgr ⊢)
  |(rw [<- hwc] at hb hr hgr ⊢)
 clear hwc
 first
  |(guard_expr zA=zA;have Ed2 := zH hd2; have HB := zH hb; have HG := zH hgr; clear hb hgr hd2)
  |(have Ed2 := zH hd2; have HB := zH hb; have HR := zH hr; have HG := zH hgr; clear hb hr hgr hd2)
 have ga : wc.cell? ⟨g, pa, none⟩ = some (.int .u32 (wr3 a2)) := (HB.cell _).trans (wc3_at' _ _ _ (HAa _));have gb : wc.cell? ⟨g, pb, none⟩ = some (.int .u32 (wr3 b1)) := (HB.cell _).trans (wc3_at' _ _ _ (HAb _));have gc : wc.cell? ⟨g, pc, none⟩ = some (.int .u32 (wr3 c1)) := (HB.cell _).trans (wc3_at' _ _ _ (HAc _));have gd : wc.cell? ⟨g, pd, none⟩ = some (.int .u32 (wr3 d2)) := (HB.cell _).trans (wc3_at' _ _ _ (HAd _));have fa : ∀ i, wc.frozen? ⟨g, i, none⟩ = false := HB.frozen
 first
  |(guard_expr zA=zA
    refine wrZ (fun _ => True) (fun _ _ h => h) (Ords.of [(0, 0), (0, 1), (0, 2), (0, 3), (1, 4), (0, 5), (0, 6), (0, 7), (0, 8), (1, 9), (0, 10), (0, 11), (0, 12), (2, 13)] .fin) trivial ?_
    iterate 13 ((first | refine ords_pure rfl (fun K hK => ?_) | refine ords_read rfl (fun K hK => ?_)); go_simp; refine hK _ ?_; clear hK K))
  |(refine wrZ (fun _ => True) (fun _ _ h => h) (Ords.of [(0, 0), (0, 1), (0, 2), (1, 3), (0, 4), (0, 5), (1, 6), (0, 7), (0, 8), (2, 9)] .fin) trivial ?_
    iterate 9 ((first | refine ords_pure rfl (fun K hK => ?_) | refine ords_read rfl (fun K hK => ?_)); go_simp; refine hK _ ?_; clear hK K))
 refine ords_loud rfl (fun n1 => ?_);go_wp2
 first | (refine ⟨trivial, ?_⟩; refine ords_end (fun n2 => ?_)) | (rintro _ ⟨n2, rfl⟩)
 have hb := ((HB.drewN n1).set_ pc (wv3 (c1 + d2))).drewN n2;rw [wc3_set, HLc.out] at hb;dsimp only at hb
 first
  |(guard_expr zA=zA;have hgr := gdr (grown_set (gdr HG (n1)) (p := ⟨g, pc, none⟩) (.inl rfl) (wv3 (c1 + d2))) n2)
  |(have hr := ((HR.drewN n1).far (p := ⟨g, pc, none⟩) (show g + 1 ≠ g by omega) (wv3 (c1 + d2))).drewN n2
    have hgr := bdr (bput (bdr HG (n1)) (p := ⟨g, pc, none⟩) (show w.heap.size <= g from bZF HGE.symm) (wv3 (c1 + d2))) n2)
 go_wp2_with fail;change Blk (aZD (aZI (aZD wc (n1)) ⟨g, pc, none⟩ (.int .u32 (wr3 ((c1 + d2))))) n2) _ _ _ at hb
 first
  |(guard_expr zA=zA
    change w.grownBy (aZD (aZI (aZD wc (n1)) ⟨g, pc, none⟩ (.int .u32 (wr3 ((c1 + d2))))) n2) _ at hgr;clear ga gb gc gd fa HB HG)
  |(change Blk (aZD (aZI (aZD wc (n1)) ⟨g, pc, none⟩ (.int .u32 (wr3 ((c1 + d2))))) n2) _ _ _ at hr
    change Below _ w (aZD (aZI (aZD wc (n1)) ⟨g, pc, none⟩ (.int .u32 (wr3 ((c1 + d2))))) n2) at hgr;clear ga gb gc gd fa HB HG HR)
 generalize aZD (aZI (aZD wc (n1)) ⟨g, pc, none⟩ (.int .u32 (wr3 ((c1 + d2))))) n2 = wn at *;obtain ⟨c2, hc2⟩ : ∃ c2, c2 = (c1 + d2) := ⟨_, rfl⟩;rw [<- hc2] at hb ⊢;clear wc;obtain ⟨wc, hwc⟩ : ∃ wc, wc = wn := ⟨_, rfl⟩
 first
  |(guard_expr zA=zA;rw [<- hwc] at hb hgr ⊢)
  |(rw [<- hwc] at hb hr hgr ⊢)
 clear hwc
 first
  |(guard_expr zA=zA;have Ec2 := zH hc2; have HB := zH hb; have HG := zH hgr; clear hb hgr hc2)
  |(have Ec2 := zH hc2; have HB := zH hb; have HR := zH hr; have HG := zH hgr; clear hb hr hgr hc2)
 have ga : wc.cell? ⟨g, pa, none⟩ = some (.int .u32 (wr3 a2)) := (HB.cell _).trans (wc3_at' _ _ _ (HAa _));have gb : wc.cell? ⟨g, pb, none⟩ = some (.int .u32 (wr3 b1)) := (HB.cell _).trans (wc3_at' _ _ _ (HAb _));have gc : wc.cell? ⟨g, pc, none⟩ = some (.int .u32 (wr3 c2)) := (HB.cell _).trans (wc3_at' _ _ _ (HAc _));have gd : wc.cell? ⟨g, pd, none⟩ = some (.int .u32 (wr3 d2)) := (HB.cell _).trans (wc3_at' _ _ _ (HAd _));have fa : ∀ i, wc.frozen? ⟨g, i, none⟩ = false := HB.frozen
 first
  |(guard_expr zA=zA
    refine wrZ (fun _ => True) (fun _ _ h => h) (Ords.of [(0, 0), (0, 1), (0, 2), (0, 3), (0, 4), (0, 5), (1, 6), (0, 7), (0, 8), (0, 9), (0, 10), (1, 11), (0, 12), (0, 14), (2, 13), (0, 15), (2, 16)] .fin) trivial ?_
    iterate 14 ((first | refine ords_pure rfl (fun K hK => ?_) | refine ords_read rfl (fun K hK => ?_)); go_simp; refine hK _ ?_; clear hK K))
  |(refine wrZ (fun _ => True) (fun _ _ h => h) (Ords.of [(0, 0), (0, 1), (0, 2), (1, 3), (0, 4), (0, 5), (1, 6), (0, 7), (2, 8), (0, 9), (2, 10)] .fin) trivial ?_
    iterate 8 ((first | refine ords_pure rfl (fun K hK => ?_) | refine ords_read rfl (fun K hK => ?_)); go_simp; refine hK _ ?_; clear hK K))
 refine ords_loud rfl (fun n1 => ?_)
 first
  |(guard_expr zA=zA;go_wp2_with (go_at_call 178; refine (rotl3_7 _ _).mono ?_; rintro e w9 ⟨rfl, rfl⟩))
  |(go_wp2_with (go_at_call 154; refine (r4turn_7 _ _).mono ?_; rintro e w9 ⟨rfl, rfl⟩))
 refine ⟨trivial, ?_⟩;refine ords_pure rfl (fun K hK => ?_); go_simp; refine hK _ ?_; clear hK K;refine ords_loud rfl (fun n2 => ?_);go_wp2
 first | (refine ⟨trivial, ?_⟩; refine ords_end (fun n3 => ?_)) | (rintro _ ⟨n3, rfl⟩)
 have hb := ((HB.drewN (n1 + n2)).set_ pb (wv3 (rot3 (b1 ^^^ c2) 7))).drewN n3;rw [wc3_set, HLb.out] at hb;dsimp only at hb
 first
  |(guard_expr zA=zA
    have hgr := gdr (grown_set (gdr HG ((n1 + n2))) (p := ⟨g, pb, none⟩) (.inl rfl) (wv3 (rot3 (b1 ^^^ c2) 7))) n3;go_wp2_with fail)
  |(have hr := ((HR.drewN (n1 + n2)).far (p := ⟨g, pb, none⟩) (show g + 1 ≠ g by omega) (wv3 (rot3 (b1 ^^^ c2) 7))).drewN n3
    have hgr := bdr (bput (bdr HG ((n1 + n2))) (p := ⟨g, pb, none⟩) (show w.heap.size <= g from bZF HGE.symm) (wv3 (rot3 (b1 ^^^ c2) 7))) n3;go_upto_region 11 with fail)
 change Blk (aZD (aZI (aZD wc ((n1 + n2))) ⟨g, pb, none⟩ (.int .u32 (wr3 ((rot3 (b1 ^^^ c2) 7))))) n3) _ _ _ at hb
 first
  |(guard_expr zA=zA
    change w.grownBy (aZD (aZI (aZD wc ((n1 + n2))) ⟨g, pb, none⟩ (.int .u32 (wr3 ((rot3 (b1 ^^^ c2) 7))))) n3) _ at hgr;clear ga gb gc gd fa HB HG)
  |(change Blk (aZD (aZI (aZD wc ((n1 + n2))) ⟨g, pb, none⟩ (.int .u32 (wr3 ((rot3 (b1 ^^^ c2) 7))))) n3) _ _ _ at hr
    change Below _ w (aZD (aZI (aZD wc ((n1 + n2))) ⟨g, pb, none⟩ (.int .u32 (wr3 ((rot3 (b1 ^^^ c2) 7))))) n3) at hgr;clear ga gb gc gd fa HB HG HR)
 generalize aZD (aZI (aZD wc ((n1 + n2))) ⟨g, pb, none⟩ (.int .u32 (wr3 ((rot3 (b1 ^^^ c2) 7))))) n3 = wn at *;obtain ⟨b2, hb2⟩ : ∃ b2, b2 = (rot3 (b1 ^^^ c2) 7) := ⟨_, rfl⟩;rw [<- hb2] at hb ⊢;clear wc;obtain ⟨wc, hwc⟩ : ∃ wc, wc = wn := ⟨_, rfl⟩
 first
  |(guard_expr zA=zA;rw [<- hwc] at hb hgr ⊢)
  |(rw [<- hwc] at hb hr hgr ⊢)
 clear hwc
 first
  |(guard_expr zA=zA
    have Eb2 := zH hb2; have HB := zH hb; have HG := zH hgr; clear hb hgr hb2;go_end0;refine ⟨rfl, ?_, HG.out⟩)
  |(have Eb2 := zH hb2; have HB := zH hb; have HR := zH hr; have HG := zH hgr; clear hb hr hgr hb2
    have e : (⟨a2, b2, c2, d2⟩ : Qd UInt32) = gm32 ⟨ka, kb, kc, kd⟩ x y := by
     unfold gm32
     dsimp only
     rw [Eb2.out, Ec2.out, Ed2.out, Ea2.out, Eb1.out, Ec1.out, Ed1.out, Ea1.out];simp only [UInt32.add_assoc]
    clear Eb2 Ec2 Ed2 Ea2 Eb1 Ec1 Ed1 Ea1 HLa HLb HLc HLd HAa HAb HAc HAd)
 have h := HB.out
 first
  |(guard_expr zA=zA
    rw [Eb2.out, Ec2.out, Ed2.out, Ea2.out, Eb1.out, Ec1.out, Ed1.out, Ea1.out] at h;exact h)
  |(rw [e] at h
    have H := zH h; clear h HB;go_wp2_with (first
     | (refine aZH rfl 155 _ rfl g rfl 155 (wc3 (lay (gm32 ⟨ka, kb, kc, kd⟩ x y))) (0, 0) _ H.out hu.out rfl hsz.out ?_)
     | (refine aZE rfl 155 _ _ rfl (g + 1) (wc3 (lay (gm32 ⟨ka, kb, kc, kd⟩ x y))) rfl rfl 155 _ HR hsz.out hVs.out hall.out ?_))
    exact aZB (results_cell_tmp rfl _ _ (g + 1) _ _ _ rfl (HR.row _) hu.out rfl hsz.out) rfl ⟨rfl, brow HG.out (by have := HGE.out; omega) _⟩)
 ) : P := h
theorem zS5 {P : Prop} (h : P := by
 have hl := lay_get hp 0 V hV;have HP := zH hp
 first
  |(guard_expr zA=zA)
  |(have ra := fun W => refPlace_any p.a hp.a W; have rb := fun W => refPlace_any p.b hp.b W; have rc := fun W => refPlace_any p.c hp.c W; have rd := fun W => refPlace_any p.d hp.d W
    have u1 : ((p.a : Int) == p.b) = false := by have := hp.ab; simp; omega
    have u2 : ((p.a : Int) == p.c) = false := by have := hp.ac; simp; omega
    have u3 : ((p.a : Int) == p.d) = false := by have := hp.ad; simp; omega
    have u4 : ((p.b : Int) == p.c) = false := by have := hp.bc; simp; omega
    have u5 : ((p.b : Int) == p.d) = false := by have := hp.bd; simp; omega
    have u6 : ((p.c : Int) == p.d) = false := by have := hp.cd; simp; omega)
 obtain ⟨q, hq⟩ : ∃ q, q = p.get 0 V := ⟨_, rfl⟩
 first
  |(guard_expr zA=zA)
  |(have hsz : Hid ((Tryz.prog.info? 97).map (·.size) = some (wcs (p.lay V (gm64 q x y))).size) := sz16w _ (by rw [lay_len, hV])
    have hVs : Hid (16 = (wcs (p.lay V (gm64 q x y))).size) := by show _ = _; rw [wcs_size, lay_len, hV]
    have hu := zH Tryz.underlying97;have hall := zH (wcs_all (p.lay V (gm64 q x y))))
 rw [<- hq] at hl ⊢
 first
  |(guard_expr zA=zA;rw [<- hl] at hg)
  |(rw [<- hl]
    rw [<- hl] at hsz hVs hall;have elay : ∀ r, p.lay (p.lay V q) r = p.lay V r := fun r => by
     obtain ⟨ra, rb, rc, rd⟩ := r;have h1 := lay_a hp V q ra; have h2 := lay_b hp V { q with a := ra } rb; have h3 := lay_c hp V { q with a := ra, b := rb } rc; have h4 := lay_d (p := p) V { q with a := ra, b := rb, c := rc } rd
     show (((((p.lay V q).set p.a ra).set p.b rb).set p.c rc).set p.d rd) = _
     rw [h1, h2, h3, h4]
    rw [elay] at hsz hVs hall ⊢)
 have HAa := zH fun q => at_a hp V q hV
 have HAb := zH fun q => at_b hp V q hV
 have HAc := zH fun q => at_c hp V q hV
 have HAd := zH fun q => at_d hp V q hV
 have HLa := zH (lay_a hp V); have HLb := zH (lay_b hp V); have HLc := zH (lay_c hp V); have HLd := zH (lay_d (p := p) V);have la := hp.a; have lb := hp.b; have lc := hp.c; have ld := hp.d;generalize hlay : p.lay V = lay at *
 first
  |(guard_expr zA=zA;clear hlay hl hp HP hV hq)
  |(clear hlay hl hp HP hV hq elay)
 obtain ⟨pa, pb, pc, pd⟩ := p
 first
  |(guard_expr zA=zA;unfold plv)
  |(skip)
 dsimp only at *;obtain ⟨ka, kb, kc, kd⟩ := q;have i1 : (pa : Int) < 16 := by omega
 have i2 : (pb : Int) < 16 := by omega
 have i3 : (pc : Int) < 16 := by omega
 have i4 : (pd : Int) < 16 := by omega
 have h1 := wrd_add; have h2 := wrd_xor
 first
  |(guard_expr zA=zA
    have HB := zH hg; clear hg;go_enter Tryz.func174, Tryz.ntmps174;go_wp2;go_quiet (fail);have hb := ((HB.alloc (.cells #[.int .i64 pa, .int .i64 pb, .int .i64 pc, .int .i64 pd] 204))).drewN nq;have hgr := only_of_below (bdr (bal (b0 w) (.cells #[.int .i64 pa, .int .i64 pb, .int .i64 pc, .int .i64 pd] 204)) nq) (some g);generalize (w.alloc (.cells #[.int .i64 pa, .int .i64 pb, .int .i64 pc, .int .i64 pd] 204)).drewN nq = wc at *;clear HB;have HB := zH hb; have HG := zH hgr; clear hb hgr;go_wp2_with fail)
  |(obtain ⟨g, hg⟩ : ∃ g, g = w.heap.size := ⟨_, rfl⟩
    have HGE := zH hg;have hb : Blk ((w.alloc (.cells (wcs (lay ⟨ka, kb, kc, kd⟩)) 97)).alloc (.cells z16 97)) g 97 (wcs (lay ⟨ka, kb, kc, kd⟩)) := by rw [hg]; exact (Blk.new _ _ _).alloc _
    have hr : Blk ((w.alloc (.cells (wcs (lay ⟨ka, kb, kc, kd⟩)) 97)).alloc (.cells z16 97)) (g + 1) 97 z16 := by rw [hg]; simpa using Blk.new (w.alloc (.cells (wcs (lay ⟨ka, kb, kc, kd⟩)) 97)) 97 z16
    have hgr : Below w.heap.size w ((w.alloc (.cells (wcs (lay ⟨ka, kb, kc, kd⟩)) 97)).alloc (.cells z16 97)) := bal (bal (b0 w) _) _;unfold z16 at hb hr hgr;go_enter Tryz.func137, Tryz.ntmps137;go_upto_region 1 with fail
    rw [<- hg];generalize (w.alloc (.cells (wcs (lay ⟨ka, kb, kc, kd⟩)) 97)).alloc (.cells #[.int .u64 0, .int .u64 0, .int .u64 0, .int .u64 0, .int .u64 0, .int .u64 0, .int .u64 0, .int .u64 0, .int .u64 0, .int .u64 0, .int .u64 0, .int .u64 0, .int .u64 0, .int .u64 0, .int .u64 0, .int .u64 0] 97) = wc at *;clear hg;have HB := zH hb; have HR := zH hr; have HG := zH hgr; clear hb hr hgr;have RA := zH ra; have RB := zH rb; have RC := zH rc; have RD := zH rd; clear ra rb rc rd;go_wp2_with (first
     | (go_at_call 149; refine (RA _).mono ?_; rintro e w9 ⟨rfl, rfl⟩)
     | (go_at_call 149; refine (RB _).mono ?_; rintro e w9 ⟨rfl, rfl⟩)
     | (go_at_call 149; refine (RC _).mono ?_; rintro e w9 ⟨rfl, rfl⟩)
     | (go_at_call 149; refine (RD _).mono ?_; rintro e w9 ⟨rfl, rfl⟩))
    clear u1 u2 u3 u4 u5 u6 RA RB RC RD)
 have ga : wc.cell? ⟨g, pa, none⟩ = some (.int .u64 (wrd ka)) := (HB.cell _).trans (wcs_at' _ _ _ (HAa _));have gb : wc.cell? ⟨g, pb, none⟩ = some (.int .u64 (wrd kb)) := (HB.cell _).trans (wcs_at' _ _ _ (HAb _));have gc : wc.cell? ⟨g, pc, none⟩ = some (.int .u64 (wrd kc)) := (HB.cell _).trans (wcs_at' _ _ _ (HAc _));have gd : wc.cell? ⟨g, pd, none⟩ = some (.int .u64 (wrd kd)) := (HB.cell _).trans (wcs_at' _ _ _ (HAd _));have fa : ∀ i, wc.frozen? ⟨g, i, none⟩ = false := HB.frozen
 first
  |(guard_expr zA=zA
    refine wrZ (fun _ => True) (fun _ _ h => h) (Ords.of [(0, 0), (0, 1), (0, 2), (0, 3), (1, 4), (0, 5), (0, 6), (0, 7), (0, 8), (1, 9), (0, 10), (0, 11), (0, 12), (0, 13), (0, 14), (2, 15)] .fin) trivial ?_
    iterate 15 ((first | refine ords_pure rfl (fun K hK => ?_) | refine ords_read rfl (fun K hK => ?_)); go_simp; refine hK _ ?_; clear hK K))
  |(refine wrZ (fun _ => True) (fun _ _ h => h) (Ords.of [(0, 0), (0, 1), (0, 2), (1, 3), (0, 4), (0, 5), (1, 6), (0, 7), (0, 8), (0, 9), (0, 10), (2, 11)] .fin) trivial ?_
    iterate 11 ((first | refine ords_pure rfl (fun K hK => ?_) | refine ords_read rfl (fun K hK => ?_)); go_simp; refine hK _ ?_; clear hK K))
 refine ords_loud rfl (fun n1 => ?_);go_wp2
 first | (refine ⟨trivial, ?_⟩; refine ords_end (fun n2 => ?_)) | (rintro _ ⟨n2, rfl⟩)
 first
  |(guard_expr zA=zA;have hb := ((HB.drewN n1).set_ pa (wv (ka + (kb + x)))).drewN n2)
  |(have hb := ((HB.drewN n1).set_ pa (wv (ka + kb + x))).drewN n2)
 rw [wcs_set, HLa.out] at hb;dsimp only at hb
 first
  |(guard_expr zA=zA;have hgr := gdr (grown_set (gdr HG (n1)) (p := ⟨g, pa, none⟩) (.inl rfl) (wv (ka + (kb + x)))) n2)
  |(have hr := ((HR.drewN n1).far (p := ⟨g, pa, none⟩) (show g + 1 ≠ g by omega) (wv (ka + kb + x))).drewN n2
    have hgr := bdr (bput (bdr HG (n1)) (p := ⟨g, pa, none⟩) (show w.heap.size <= g from bZF HGE.symm) (wv (ka + kb + x))) n2)
 go_wp2_with fail
 first
  |(guard_expr zA=zA
    change Blk (aZD (aZI (aZD wc (n1)) ⟨g, pa, none⟩ (.int .u64 (wrd ((ka + (kb + x)))))) n2) _ _ _ at hb;change w.grownBy (aZD (aZI (aZD wc (n1)) ⟨g, pa, none⟩ (.int .u64 (wrd ((ka + (kb + x)))))) n2) _ at hgr;clear ga gb gc gd fa HB HG;generalize aZD (aZI (aZD wc (n1)) ⟨g, pa, none⟩ (.int .u64 (wrd ((ka + (kb + x)))))) n2 = wn at *;obtain ⟨a1, ha1⟩ : ∃ a1, a1 = (ka + (kb + x)) := ⟨_, rfl⟩)
  |(change Blk (aZD (aZI (aZD wc (n1)) ⟨g, pa, none⟩ (.int .u64 (wrd ((ka + kb + x))))) n2) _ _ _ at hb
    change Blk (aZD (aZI (aZD wc (n1)) ⟨g, pa, none⟩ (.int .u64 (wrd ((ka + kb + x))))) n2) _ _ _ at hr;change Below _ w (aZD (aZI (aZD wc (n1)) ⟨g, pa, none⟩ (.int .u64 (wrd ((ka + kb + x))))) n2) at hgr;clear ga gb gc gd fa HB HG HR;generalize aZD (aZI (aZD wc (n1)) ⟨g, pa, none⟩ (.int .u64 (wrd ((ka + kb + x))))) n2 = wn at *;obtain ⟨a1, ha1⟩ : ∃ a1, a1 = (ka + kb + x) := ⟨_, rfl⟩)
 rw [<- ha1] at hb ⊢;clear wc;obtain ⟨wc, hwc⟩ : ∃ wc, wc = wn := ⟨_, rfl⟩
 first
  |(guard_expr zA=zA;rw [<- hwc] at hb hgr ⊢)
  |(rw [<- hwc] at hb hr hgr ⊢)
 clear hwc
 first
  |(guard_expr zA=zA;have Ea1 := zH ha1; have HB := zH hb; have HG := zH hgr; clear hb hgr ha1)
  |(have Ea1 := zH ha1; have HB := zH hb; have HR := zH hr; have HG := zH hgr; clear hb hr hgr ha1)
 have ga : wc.cell? ⟨g, pa, none⟩ = some (.int .u64 (wrd a1)) := (HB.cell _).trans (wcs_at' _ _ _ (HAa _));have gb : wc.cell? ⟨g, pb, none⟩ = some (.int .u64 (wrd kb)) := (HB.cell _).trans (wcs_at' _ _ _ (HAb _));have gc : wc.cell? ⟨g, pc, none⟩ = some (.int .u64 (wrd kc)) := (HB.cell _).trans (wcs_at' _ _ _ (HAc _));have gd : wc.cell? ⟨g, pd, none⟩ = some (.int .u64 (wrd kd)) := (HB.cell _).trans (wcs_at' _ _ _ (HAd _));have fa : ∀ i, wc.frozen? ⟨g, i, none⟩ = false := HB.frozen
 first
  |(guard_expr zA=zA
    refine wrZ (fun _ => True) (fun _ _ h => h) (Ords.of [(0, 0), (0, 1), (0, 2), (0, 3), (0, 4), (0, 5), (1, 6), (0, 7), (0, 8), (0, 9), (0, 10), (1, 11), (0, 12), (0, 14), (2, 13), (0, 15), (2, 16)] .fin) trivial ?_
    iterate 14 ((first | refine ords_pure rfl (fun K hK => ?_) | refine ords_read rfl (fun K hK => ?_)); go_simp; refine hK _ ?_; clear hK K))
  |(refine wrZ (fun _ => True) (fun _ _ h => h) (Ords.of [(0, 0), (0, 1), (0, 2), (1, 3), (0, 4), (0, 5), (1, 6), (0, 7), (2, 8), (0, 9), (2, 10)] .fin) trivial ?_
    iterate 8 ((first | refine ords_pure rfl (fun K hK => ?_) | refine ords_read rfl (fun K hK => ?_)); go_simp; refine hK _ ?_; clear hK K))
 refine ords_loud rfl (fun n1 => ?_)
 first
  |(guard_expr zA=zA;go_wp2_with (go_at_call 177; refine (rotl_32 _ _).mono ?_; rintro e w9 ⟨rfl, rfl⟩))
  |(go_wp2_with (go_at_call 150; refine (turn_32 _ _).mono ?_; rintro e w9 ⟨rfl, m9, rfl⟩))
 refine ⟨trivial, ?_⟩;refine ords_pure rfl (fun K hK => ?_); go_simp; refine hK _ ?_; clear hK K;refine ords_loud rfl (fun n2 => ?_);go_wp2
 first | (refine ⟨trivial, ?_⟩; refine ords_end (fun n3 => ?_)) | (rintro _ ⟨n3, rfl⟩)
 first
  |(guard_expr zA=zA;have hb := ((HB.drewN (n1 + n2)).set_ pd (wv (rotr (kd ^^^ a1) 32))).drewN n3)
  |(have hb := ((HB.drewN (n1 + m9 + n2)).set_ pd (wv (rotr (kd ^^^ a1) 32))).drewN n3)
 rw [wcs_set, HLd.out] at hb;dsimp only at hb
 first
  |(guard_expr zA=zA;have hgr := gdr (grown_set (gdr HG ((n1 + n2))) (p := ⟨g, pd, none⟩) (.inl rfl) (wv (rotr (kd ^^^ a1) 32))) n3)
  |(have hr := ((HR.drewN (n1 + m9 + n2)).far (p := ⟨g, pd, none⟩) (show g + 1 ≠ g by omega) (wv (rotr (kd ^^^ a1) 32))).drewN n3
    have hgr := bdr (bput (bdr HG ((n1 + m9 + n2))) (p := ⟨g, pd, none⟩) (show w.heap.size <= g from bZF HGE.symm) (wv (rotr (kd ^^^ a1) 32))) n3)
 go_wp2_with fail
 first
  |(guard_expr zA=zA
    change Blk (aZD (aZI (aZD wc ((n1 + n2))) ⟨g, pd, none⟩ (.int .u64 (wrd ((rotr (kd ^^^ a1) 32))))) n3) _ _ _ at hb;change w.grownBy (aZD (aZI (aZD wc ((n1 + n2))) ⟨g, pd, none⟩ (.int .u64 (wrd ((rotr (kd ^^^ a1) 32))))) n3) _ at hgr;clear ga gb gc gd fa HB HG;generalize aZD (aZI (aZD wc ((n1 + n2))) ⟨g, pd, none⟩ (.int .u64 (wrd ((rotr (kd ^^^ a1) 32))))) n3 = wn at *)
  |(change Blk (aZD (aZI (aZD wc ((n1 + m9 + n2))) ⟨g, pd, none⟩ (.int .u64 (wrd ((rotr (kd ^^^ a1) 32))))) n3) _ _ _ at hb
    change Blk (aZD (aZI (aZD wc ((n1 + m9 + n2))) ⟨g, pd, none⟩ (.int .u64 (wrd ((rotr (kd ^^^ a1) 32))))) n3) _ _ _ at hr;change Below _ w (aZD (aZI (aZD wc ((n1 + m9 + n2))) ⟨g, pd, none⟩ (.int .u64 (wrd ((rotr (kd ^^^ a1) 32))))) n3) at hgr;clear ga gb gc gd fa HB HG HR;generalize aZD (aZI (aZD wc ((n1 + m9 + n2))) ⟨g, pd, none⟩ (.int .u64 (wrd ((rotr (kd ^^^ a1) 32))))) n3 = wn at *)
 obtain ⟨d1, hd1⟩ : ∃ d1, d1 = (rotr (kd ^^^ a1) 32) := ⟨_, rfl⟩;rw [<- hd1] at hb ⊢;clear wc;obtain ⟨wc, hwc⟩ : ∃ wc, wc = wn := ⟨_, rfl⟩
 first
  |(guard_expr zA=zA;rw [<- hwc] at hb hgr ⊢)
  |(rw [<- hwc] at hb hr hgr ⊢)
 clear hwc
 first
  |(guard_expr zA=zA;have Ed1 := zH hd1; have HB := zH hb; have HG := zH hgr; clear hb hgr hd1)
  |(have Ed1 := zH hd1; have HB := zH hb; have HR := zH hr; have HG := zH hgr; clear hb hr hgr hd1)
 have ga : wc.cell? ⟨g, pa, none⟩ = some (.int .u64 (wrd a1)) := (HB.cell _).trans (wcs_at' _ _ _ (HAa _));have gb : wc.cell? ⟨g, pb, none⟩ = some (.int .u64 (wrd kb)) := (HB.cell _).trans (wcs_at' _ _ _ (HAb _));have gc : wc.cell? ⟨g, pc, none⟩ = some (.int .u64 (wrd kc)) := (HB.cell _).trans (wcs_at' _ _ _ (HAc _));have gd : wc.cell? ⟨g, pd, none⟩ = some (.int .u64 (wrd d1)) := (HB.cell _).trans (wcs_at' _ _ _ (HAd _));have fa : ∀ i, wc.frozen? ⟨g, i, none⟩ = false := HB.frozen
 first
  |(guard_expr zA=zA
    refine wrZ (fun _ => True) (fun _ _ h => h) (Ords.of [(0, 0), (0, 1), (0, 2), (0, 3), (1, 4), (0, 5), (0, 6), (0, 7), (0, 8), (1, 9), (0, 10), (0, 11), (0, 12), (2, 13)] .fin) trivial ?_
    iterate 13 ((first | refine ords_pure rfl (fun K hK => ?_) | refine ords_read rfl (fun K hK => ?_)); go_simp; refine hK _ ?_; clear hK K))
  |(refine wrZ (fun _ => True) (fun _ _ h => h) (Ords.of [(0, 0), (0, 1), (0, 2), (1, 3), (0, 4), (0, 5), (1, 6), (0, 7), (0, 8), (2, 9)] .fin) trivial ?_
    iterate 9 ((first | refine ords_pure rfl (fun K hK => ?_) | refine ords_read rfl (fun K hK => ?_)); go_simp; refine hK _ ?_; clear hK K))
 refine ords_loud rfl (fun n1 => ?_);go_wp2
 first | (refine ⟨trivial, ?_⟩; refine ords_end (fun n2 => ?_)) | (rintro _ ⟨n2, rfl⟩)
 have hb := ((HB.drewN n1).set_ pc (wv (kc + d1))).drewN n2;rw [wcs_set, HLc.out] at hb;dsimp only at hb
 first
  |(guard_expr zA=zA;have hgr := gdr (grown_set (gdr HG (n1)) (p := ⟨g, pc, none⟩) (.inl rfl) (wv (kc + d1))) n2)
  |(have hr := ((HR.drewN n1).far (p := ⟨g, pc, none⟩) (show g + 1 ≠ g by omega) (wv (kc + d1))).drewN n2
    have hgr := bdr (bput (bdr HG (n1)) (p := ⟨g, pc, none⟩) (show w.heap.size <= g from bZF HGE.symm) (wv (kc + d1))) n2)
 go_wp2_with fail;change Blk (aZD (aZI (aZD wc (n1)) ⟨g, pc, none⟩ (.int .u64 (wrd ((kc + d1))))) n2) _ _ _ at hb
 first
  |(guard_expr zA=zA
    change w.grownBy (aZD (aZI (aZD wc (n1)) ⟨g, pc, none⟩ (.int .u64 (wrd ((kc + d1))))) n2) _ at hgr;clear ga gb gc gd fa HB HG)
  |(change Blk (aZD (aZI (aZD wc (n1)) ⟨g, pc, none⟩ (.int .u64 (wrd ((kc + d1))))) n2) _ _ _ at hr
    change Below _ w (aZD (aZI (aZD wc (n1)) ⟨g, pc, none⟩ (.int .u64 (wrd ((kc + d1))))) n2) at hgr;clear ga gb gc gd fa HB HG HR)
 generalize aZD (aZI (aZD wc (n1)) ⟨g, pc, none⟩ (.int .u64 (wrd ((kc + d1))))) n2 = wn at *;obtain ⟨c1, hc1⟩ : ∃ c1, c1 = (kc + d1) := ⟨_, rfl⟩;rw [<- hc1] at hb ⊢;clear wc;obtain ⟨wc, hwc⟩ : ∃ wc, wc = wn := ⟨_, rfl⟩
 first
  |(guard_expr zA=zA;rw [<- hwc] at hb hgr ⊢)
  |(rw [<- hwc] at hb hr hgr ⊢)
 clear hwc
 first
  |(guard_expr zA=zA;have Ec1 := zH hc1; have HB := zH hb; have HG := zH hgr; clear hb hgr hc1)
  |(have Ec1 := zH hc1; have HB := zH hb; have HR := zH hr; have HG := zH hgr; clear hb hr hgr hc1)
 have ga : wc.cell? ⟨g, pa, none⟩ = some (.int .u64 (wrd a1)) := (HB.cell _).trans (wcs_at' _ _ _ (HAa _));have gb : wc.cell? ⟨g, pb, none⟩ = some (.int .u64 (wrd kb)) := (HB.cell _).trans (wcs_at' _ _ _ (HAb _));have gc : wc.cell? ⟨g, pc, none⟩ = some (.int .u64 (wrd c1)) := (HB.cell _).trans (wcs_at' _ _ _ (HAc _));have gd : wc.cell? ⟨g, pd, none⟩ = some (.int .u64 (wrd d1)) := (HB.cell _).trans (wcs_at' _ _ _ (HAd _));have fa : ∀ i, wc.frozen? ⟨g, i, none⟩ = false := HB.frozen
 first
  |(guard_expr zA=zA
    refine wrZ (fun _ => True) (fun _ _ h => h) (Ords.of [(0, 0), (0, 1), (0, 2), (0, 3), (0, 4), (0, 5), (1, 6), (0, 7), (0, 8), (0, 9), (0, 10), (1, 11), (0, 12), (0, 14), (2, 13), (0, 15), (2, 16)] .fin) trivial ?_
    iterate 14 ((first | refine ords_pure rfl (fun K hK => ?_) | refine ords_read rfl (fun K hK => ?_)); go_simp; refine hK _ ?_; clear hK K))
  |(refine wrZ (fun _ => True) (fun _ _ h => h) (Ords.of [(0, 0), (0, 1), (0, 2), (1, 3), (0, 4), (0, 5), (1, 6), (0, 7), (2, 8), (0, 9), (2, 10)] .fin) trivial ?_
    iterate 8 ((first | refine ords_pure rfl (fun K hK => ?_) | refine ords_read rfl (fun K hK => ?_)); go_simp; refine hK _ ?_; clear hK K))
 refine ords_loud rfl (fun n1 => ?_)
 first
  |(guard_expr zA=zA;go_wp2_with (go_at_call 177; refine (rotl_24 _ _).mono ?_; rintro e w9 ⟨rfl, rfl⟩))
  |(go_wp2_with (go_at_call 150; refine (turn_24 _ _).mono ?_; rintro e w9 ⟨rfl, m9, rfl⟩))
 refine ⟨trivial, ?_⟩;refine ords_pure rfl (fun K hK => ?_); go_simp; refine hK _ ?_; clear hK K;refine ords_loud rfl (fun n2 => ?_);go_wp2
 first | (refine ⟨trivial, ?_⟩; refine ords_end (fun n3 => ?_)) | (rintro _ ⟨n3, rfl⟩)
 first
  |(guard_expr zA=zA;have hb := ((HB.drewN (n1 + n2)).set_ pb (wv (rotr (kb ^^^ c1) 24))).drewN n3)
  |(have hb := ((HB.drewN (n1 + m9 + n2)).set_ pb (wv (rotr (kb ^^^ c1) 24))).drewN n3)
 rw [wcs_set, HLb.out] at hb;dsimp only at hb
 first
  |(guard_expr zA=zA;have hgr := gdr (grown_set (gdr HG ((n1 + n2))) (p := ⟨g, pb, none⟩) (.inl rfl) (wv (rotr (kb ^^^ c1) 24))) n3)
  |(have hr := ((HR.drewN (n1 + m9 + n2)).far (p := ⟨g, pb, none⟩) (show g + 1 ≠ g by omega) (wv (rotr (kb ^^^ c1) 24))).drewN n3
    have hgr := bdr (bput (bdr HG ((n1 + m9 + n2))) (p := ⟨g, pb, none⟩) (show w.heap.size <= g from bZF HGE.symm) (wv (rotr (kb ^^^ c1) 24))) n3)
 go_wp2_with fail
 first
  |(guard_expr zA=zA
    change Blk (aZD (aZI (aZD wc ((n1 + n2))) ⟨g, pb, none⟩ (.int .u64 (wrd ((rotr (kb ^^^ c1) 24))))) n3) _ _ _ at hb;change w.grownBy (aZD (aZI (aZD wc ((n1 + n2))) ⟨g, pb, none⟩ (.int .u64 (wrd ((rotr (kb ^^^ c1) 24))))) n3) _ at hgr;clear ga gb gc gd fa HB HG;generalize aZD (aZI (aZD wc ((n1 + n2))) ⟨g, pb, none⟩ (.int .u64 (wrd ((rotr (kb ^^^ c1) 24))))) n3 = wn at *)
  |(change Blk (aZD (aZI (aZD wc ((n1 + m9 + n2))) ⟨g, pb, none⟩ (.int .u64 (wrd ((rotr (kb ^^^ c1) 24))))) n3) _ _ _ at hb
    change Blk (aZD (aZI (aZD wc ((n1 + m9 + n2))) ⟨g, pb, none⟩ (.int .u64 (wrd ((rotr (kb ^^^ c1) 24))))) n3) _ _ _ at hr;change Below _ w (aZD (aZI (aZD wc ((n1 + m9 + n2))) ⟨g, pb, none⟩ (.int .u64 (wrd ((rotr (kb ^^^ c1) 24))))) n3) at hgr;clear ga gb gc gd fa HB HG HR;generalize aZD (aZI (aZD wc ((n1 + m9 + n2))) ⟨g, pb, none⟩ (.int .u64 (wrd ((rotr (kb ^^^ c1) 24))))) n3 = wn at *)
 obtain ⟨b1, hb1⟩ : ∃ b1, b1 = (rotr (kb ^^^ c1) 24) := ⟨_, rfl⟩;rw [<- hb1] at hb ⊢;clear wc;obtain ⟨wc, hwc⟩ : ∃ wc, wc = wn := ⟨_, rfl⟩
 first
  |(guard_expr zA=zA;rw [<- hwc] at hb hgr ⊢)
  |(rw [<- hwc] at hb hr hgr ⊢)
 clear hwc
 first
  |(guard_expr zA=zA;have Eb1 := zH hb1; have HB := zH hb; have HG := zH hgr; clear hb hgr hb1)
  |(have Eb1 := zH hb1; have HB := zH hb; have HR := zH hr; have HG := zH hgr; clear hb hr hgr hb1)
 have ga : wc.cell? ⟨g, pa, none⟩ = some (.int .u64 (wrd a1)) := (HB.cell _).trans (wcs_at' _ _ _ (HAa _));have gb : wc.cell? ⟨g, pb, none⟩ = some (.int .u64 (wrd b1)) := (HB.cell _).trans (wcs_at' _ _ _ (HAb _));have gc : wc.cell? ⟨g, pc, none⟩ = some (.int .u64 (wrd c1)) := (HB.cell _).trans (wcs_at' _ _ _ (HAc _));have gd : wc.cell? ⟨g, pd, none⟩ = some (.int .u64 (wrd d1)) := (HB.cell _).trans (wcs_at' _ _ _ (HAd _));have fa : ∀ i, wc.frozen? ⟨g, i, none⟩ = false := HB.frozen
 first
  |(guard_expr zA=zA
    refine wrZ (fun _ => True) (fun _ _ h => h) (Ords.of [(0, 0), (0, 1), (0, 2), (0, 3), (1, 4), (0, 5), (0, 6), (0, 7), (0, 8), (1, 9), (0, 10), (0, 11), (0, 12), (0, 13), (0, 14), (2, 15)] .fin) trivial ?_
    iterate 15 ((first | refine ords_pure rfl (fun K hK => ?_) | refine ords_read rfl (fun K hK => ?_)); go_simp; refine hK _ ?_; clear hK K))
  |(refine wrZ (fun _ => True) (fun _ _ h => h) (Ords.of [(0, 0), (0, 1), (0, 2), (1, 3), (0, 4), (0, 5), (1, 6), (0, 7), (0, 8), (0, 9), (0, 10), (2, 11)] .fin) trivial ?_
    iterate 11 ((first | refine ords_pure rfl (fun K hK => ?_) | refine ords_read rfl (fun K hK => ?_)); go_simp; refine hK _ ?_; clear hK K))
 refine ords_loud rfl (fun n1 => ?_);go_wp2
 first | (refine ⟨trivial, ?_⟩; refine ords_end (fun n2 => ?_)) | (rintro _ ⟨n2, rfl⟩)
 first
  |(guard_expr zA=zA;have hb := ((HB.drewN n1).set_ pa (wv (a1 + (b1 + y)))).drewN n2)
  |(have hb := ((HB.drewN n1).set_ pa (wv (a1 + b1 + y))).drewN n2)
 rw [wcs_set, HLa.out] at hb;dsimp only at hb
 first
  |(guard_expr zA=zA;have hgr := gdr (grown_set (gdr HG (n1)) (p := ⟨g, pa, none⟩) (.inl rfl) (wv (a1 + (b1 + y)))) n2)
  |(have hr := ((HR.drewN n1).far (p := ⟨g, pa, none⟩) (show g + 1 ≠ g by omega) (wv (a1 + b1 + y))).drewN n2
    have hgr := bdr (bput (bdr HG (n1)) (p := ⟨g, pa, none⟩) (show w.heap.size <= g from bZF HGE.symm) (wv (a1 + b1 + y))) n2)
 go_wp2_with fail
 first
  |(guard_expr zA=zA
    change Blk (aZD (aZI (aZD wc (n1)) ⟨g, pa, none⟩ (.int .u64 (wrd ((a1 + (b1 + y)))))) n2) _ _ _ at hb;change w.grownBy (aZD (aZI (aZD wc (n1)) ⟨g, pa, none⟩ (.int .u64 (wrd ((a1 + (b1 + y)))))) n2) _ at hgr;clear ga gb gc gd fa HB HG;generalize aZD (aZI (aZD wc (n1)) ⟨g, pa, none⟩ (.int .u64 (wrd ((a1 + (b1 + y)))))) n2 = wn at *;obtain ⟨a2, ha2⟩ : ∃ a2, a2 = (a1 + (b1 + y)) := ⟨_, rfl⟩)
  |(change Blk (aZD (aZI (aZD wc (n1)) ⟨g, pa, none⟩ (.int .u64 (wrd ((a1 + b1 + y))))) n2) _ _ _ at hb
    change Blk (aZD (aZI (aZD wc (n1)) ⟨g, pa, none⟩ (.int .u64 (wrd ((a1 + b1 + y))))) n2) _ _ _ at hr;change Below _ w (aZD (aZI (aZD wc (n1)) ⟨g, pa, none⟩ (.int .u64 (wrd ((a1 + b1 + y))))) n2) at hgr;clear ga gb gc gd fa HB HG HR;generalize aZD (aZI (aZD wc (n1)) ⟨g, pa, none⟩ (.int .u64 (wrd ((a1 + b1 + y))))) n2 = wn at *;obtain ⟨a2, ha2⟩ : ∃ a2, a2 = (a1 + b1 + y) := ⟨_, rfl⟩)
 rw [<- ha2] at hb ⊢;clear wc;obtain ⟨wc, hwc⟩ : ∃ wc, wc = wn := ⟨_, rfl⟩
 first
  |(guard_expr zA=zA;rw [<- hwc] at hb hgr ⊢)
  |(rw [<- hwc] at hb hr hgr ⊢)
 clear hwc
 first
  |(guard_expr zA=zA;have Ea2 := zH ha2; have HB := zH hb; have HG := zH hgr; clear hb hgr ha2)
  |(have Ea2 := zH ha2; have HB := zH hb; have HR := zH hr; have HG := zH hgr; clear hb hr hgr ha2)
 have ga : wc.cell? ⟨g, pa, none⟩ = some (.int .u64 (wrd a2)) := (HB.cell _).trans (wcs_at' _ _ _ (HAa _));have gb : wc.cell? ⟨g, pb, none⟩ = some (.int .u64 (wrd b1)) := (HB.cell _).trans (wcs_at' _ _ _ (HAb _));have gc : wc.cell? ⟨g, pc, none⟩ = some (.int .u64 (wrd c1)) := (HB.cell _).trans (wcs_at' _ _ _ (HAc _));have gd : wc.cell? ⟨g, pd, none⟩ = some (.int .u64 (wrd d1)) := (HB.cell _).trans (wcs_at' _ _ _ (HAd _));have fa : ∀ i, wc.frozen? ⟨g, i, none⟩ = false := HB.frozen
 first
  |(guard_expr zA=zA
    refine wrZ (fun _ => True) (fun _ _ h => h) (Ords.of [(0, 0), (0, 1), (0, 2), (0, 3), (0, 4), (0, 5), (1, 6), (0, 7), (0, 8), (0, 9), (0, 10), (1, 11), (0, 12), (0, 14), (2, 13), (0, 15), (2, 16)] .fin) trivial ?_
    iterate 14 ((first | refine ords_pure rfl (fun K hK => ?_) | refine ords_read rfl (fun K hK => ?_)); go_simp; refine hK _ ?_; clear hK K))
  |(refine wrZ (fun _ => True) (fun _ _ h => h) (Ords.of [(0, 0), (0, 1), (0, 2), (1, 3), (0, 4), (0, 5), (1, 6), (0, 7), (2, 8), (0, 9), (2, 10)] .fin) trivial ?_
    iterate 8 ((first | refine ords_pure rfl (fun K hK => ?_) | refine ords_read rfl (fun K hK => ?_)); go_simp; refine hK _ ?_; clear hK K))
 refine ords_loud rfl (fun n1 => ?_)
 first
  |(guard_expr zA=zA;go_wp2_with (go_at_call 177; refine (rotl_16 _ _).mono ?_; rintro e w9 ⟨rfl, rfl⟩))
  |(go_wp2_with (go_at_call 150; refine (turn_16 _ _).mono ?_; rintro e w9 ⟨rfl, m9, rfl⟩))
 refine ⟨trivial, ?_⟩;refine ords_pure rfl (fun K hK => ?_); go_simp; refine hK _ ?_; clear hK K;refine ords_loud rfl (fun n2 => ?_);go_wp2
 first | (refine ⟨trivial, ?_⟩; refine ords_end (fun n3 => ?_)) | (rintro _ ⟨n3, rfl⟩)
 first
  |(guard_expr zA=zA;have hb := ((HB.drewN (n1 + n2)).set_ pd (wv (rotr (d1 ^^^ a2) 16))).drewN n3)
  |(have hb := ((HB.drewN (n1 + m9 + n2)).set_ pd (wv (rotr (d1 ^^^ a2) 16))).drewN n3)
 rw [wcs_set, HLd.out] at hb;dsimp only at hb
 first
  |(guard_expr zA=zA;have hgr := gdr (grown_set (gdr HG ((n1 + n2))) (p := ⟨g, pd, none⟩) (.inl rfl) (wv (rotr (d1 ^^^ a2) 16))) n3)
  |(have hr := ((HR.drewN (n1 + m9 + n2)).far (p := ⟨g, pd, none⟩) (show g + 1 ≠ g by omega) (wv (rotr (d1 ^^^ a2) 16))).drewN n3
    have hgr := bdr (bput (bdr HG ((n1 + m9 + n2))) (p := ⟨g, pd, none⟩) (show w.heap.size <= g from bZF HGE.symm) (wv (rotr (d1 ^^^ a2) 16))) n3)
 go_wp2_with fail
 first
  |(guard_expr zA=zA
    change Blk (aZD (aZI (aZD wc ((n1 + n2))) ⟨g, pd, none⟩ (.int .u64 (wrd ((rotr (d1 ^^^ a2) 16))))) n3) _ _ _ at hb;change w.grownBy (aZD (aZI (aZD wc ((n1 + n2))) ⟨g, pd, none⟩ (.int .u64 (wrd ((rotr (d1 ^^^ a2) 16))))) n3) _ at hgr;clear ga gb gc gd fa HB HG;generalize aZD (aZI (aZD wc ((n1 + n2))) ⟨g, pd, none⟩ (.int .u64 (wrd ((rotr (d1 ^^^ a2) 16))))) n3 = wn at *)
  |(change Blk (aZD (aZI (aZD wc ((n1 + m9 + n2))) ⟨g, pd, none⟩ (.int .u64 (wrd ((rotr (d1 ^^^ a2) 16))))) n3) _ _ _ at hb
    change Blk (aZD (aZI (aZD wc ((n1 + m9 + n2))) ⟨g, pd, none⟩ (.int .u64 (wrd ((rotr (d1 ^^^ a2) 16))))) n3) _ _ _ at hr;change Below _ w (aZD (aZI (aZD wc ((n1 + m9 + n2))) ⟨g, pd, none⟩ (.int .u64 (wrd ((rotr (d1 ^^^ a2) 16))))) n3) at hgr;clear ga gb gc gd fa HB HG HR;generalize aZD (aZI (aZD wc ((n1 + m9 + n2))) ⟨g, pd, none⟩ (.int .u64 (wrd ((rotr (d1 ^^^ a2) 16))))) n3 = wn at *)
 obtain ⟨d2, hd2⟩ : ∃ d2, d2 = (rotr (d1 ^^^ a2) 16) := ⟨_, rfl⟩;rw [<- hd2] at hb ⊢;clear wc;obtain ⟨wc, hwc⟩ : ∃ wc, wc = wn := ⟨_, rfl⟩
 first
  |(guard_expr zA=zA;rw [<- hwc] at hb hgr ⊢)
  |(rw [<- hwc] at hb hr hgr ⊢)
 clear hwc
 first
  |(guard_expr zA=zA;have Ed2 := zH hd2; have HB := zH hb; have HG := zH hgr; clear hb hgr hd2)
  |(have Ed2 := zH hd2; have HB := zH hb; have HR := zH hr; have HG := zH hgr; clear hb hr hgr hd2)
 have ga : wc.cell? ⟨g, pa, none⟩ = some (.int .u64 (wrd a2)) := (HB.cell _).trans (wcs_at' _ _ _ (HAa _));have gb : wc.cell? ⟨g, pb, none⟩ = some (.int .u64 (wrd b1)) := (HB.cell _).trans (wcs_at' _ _ _ (HAb _));have gc : wc.cell? ⟨g, pc, none⟩ = some (.int .u64 (wrd c1)) := (HB.cell _).trans (wcs_at' _ _ _ (HAc _));have gd : wc.cell? ⟨g, pd, none⟩ = some (.int .u64 (wrd d2)) := (HB.cell _).trans (wcs_at' _ _ _ (HAd _));have fa : ∀ i, wc.frozen? ⟨g, i, none⟩ = false := HB.frozen
 first
  |(guard_expr zA=zA
    refine wrZ (fun _ => True) (fun _ _ h => h) (Ords.of [(0, 0), (0, 1), (0, 2), (0, 3), (1, 4), (0, 5), (0, 6), (0, 7), (0, 8), (1, 9), (0, 10), (0, 11), (0, 12), (2, 13)] .fin) trivial ?_
    iterate 13 ((first | refine ords_pure rfl (fun K hK => ?_) | refine ords_read rfl (fun K hK => ?_)); go_simp; refine hK _ ?_; clear hK K))
  |(refine wrZ (fun _ => True) (fun _ _ h => h) (Ords.of [(0, 0), (0, 1), (0, 2), (1, 3), (0, 4), (0, 5), (1, 6), (0, 7), (0, 8), (2, 9)] .fin) trivial ?_
    iterate 9 ((first | refine ords_pure rfl (fun K hK => ?_) | refine ords_read rfl (fun K hK => ?_)); go_simp; refine hK _ ?_; clear hK K))
 refine ords_loud rfl (fun n1 => ?_);go_wp2
 first | (refine ⟨trivial, ?_⟩; refine ords_end (fun n2 => ?_)) | (rintro _ ⟨n2, rfl⟩)
 have hb := ((HB.drewN n1).set_ pc (wv (c1 + d2))).drewN n2;rw [wcs_set, HLc.out] at hb;dsimp only at hb
 first
  |(guard_expr zA=zA;have hgr := gdr (grown_set (gdr HG (n1)) (p := ⟨g, pc, none⟩) (.inl rfl) (wv (c1 + d2))) n2)
  |(have hr := ((HR.drewN n1).far (p := ⟨g, pc, none⟩) (show g + 1 ≠ g by omega) (wv (c1 + d2))).drewN n2
    have hgr := bdr (bput (bdr HG (n1)) (p := ⟨g, pc, none⟩) (show w.heap.size <= g from bZF HGE.symm) (wv (c1 + d2))) n2)
 go_wp2_with fail;change Blk (aZD (aZI (aZD wc (n1)) ⟨g, pc, none⟩ (.int .u64 (wrd ((c1 + d2))))) n2) _ _ _ at hb
 first
  |(guard_expr zA=zA
    change w.grownBy (aZD (aZI (aZD wc (n1)) ⟨g, pc, none⟩ (.int .u64 (wrd ((c1 + d2))))) n2) _ at hgr;clear ga gb gc gd fa HB HG)
  |(change Blk (aZD (aZI (aZD wc (n1)) ⟨g, pc, none⟩ (.int .u64 (wrd ((c1 + d2))))) n2) _ _ _ at hr
    change Below _ w (aZD (aZI (aZD wc (n1)) ⟨g, pc, none⟩ (.int .u64 (wrd ((c1 + d2))))) n2) at hgr;clear ga gb gc gd fa HB HG HR)
 generalize aZD (aZI (aZD wc (n1)) ⟨g, pc, none⟩ (.int .u64 (wrd ((c1 + d2))))) n2 = wn at *;obtain ⟨c2, hc2⟩ : ∃ c2, c2 = (c1 + d2) := ⟨_, rfl⟩;rw [<- hc2] at hb ⊢;clear wc;obtain ⟨wc, hwc⟩ : ∃ wc, wc = wn := ⟨_, rfl⟩
 first
  |(guard_expr zA=zA;rw [<- hwc] at hb hgr ⊢)
  |(rw [<- hwc] at hb hr hgr ⊢)
 clear hwc
 first
  |(guard_expr zA=zA;have Ec2 := zH hc2; have HB := zH hb; have HG := zH hgr; clear hb hgr hc2)
  |(have Ec2 := zH hc2; have HB := zH hb; have HR := zH hr; have HG := zH hgr; clear hb hr hgr hc2)
 have ga : wc.cell? ⟨g, pa, none⟩ = some (.int .u64 (wrd a2)) := (HB.cell _).trans (wcs_at' _ _ _ (HAa _));have gb : wc.cell? ⟨g, pb, none⟩ = some (.int .u64 (wrd b1)) := (HB.cell _).trans (wcs_at' _ _ _ (HAb _));have gc : wc.cell? ⟨g, pc, none⟩ = some (.int .u64 (wrd c2)) := (HB.cell _).trans (wcs_at' _ _ _ (HAc _));have gd : wc.cell? ⟨g, pd, none⟩ = some (.int .u64 (wrd d2)) := (HB.cell _).trans (wcs_at' _ _ _ (HAd _));have fa : ∀ i, wc.frozen? ⟨g, i, none⟩ = false := HB.frozen
 first
  |(guard_expr zA=zA
    refine wrZ (fun _ => True) (fun _ _ h => h) (Ords.of [(0, 0), (0, 1), (0, 2), (0, 3), (0, 4), (0, 5), (1, 6), (0, 7), (0, 8), (0, 9), (0, 10), (1, 11), (0, 12), (0, 14), (2, 13), (0, 15), (2, 16)] .fin) trivial ?_
    iterate 14 ((first | refine ords_pure rfl (fun K hK => ?_) | refine ords_read rfl (fun K hK => ?_)); go_simp; refine hK _ ?_; clear hK K))
  |(refine wrZ (fun _ => True) (fun _ _ h => h) (Ords.of [(0, 0), (0, 1), (0, 2), (1, 3), (0, 4), (0, 5), (1, 6), (0, 7), (2, 8), (0, 9), (2, 10)] .fin) trivial ?_
    iterate 8 ((first | refine ords_pure rfl (fun K hK => ?_) | refine ords_read rfl (fun K hK => ?_)); go_simp; refine hK _ ?_; clear hK K))
 refine ords_loud rfl (fun n1 => ?_)
 first
  |(guard_expr zA=zA;go_wp2_with (go_at_call 177; refine (rotl_63 _ _).mono ?_; rintro e w9 ⟨rfl, rfl⟩))
  |(go_wp2_with (go_at_call 150; refine (turn_63 _ _).mono ?_; rintro e w9 ⟨rfl, m9, rfl⟩))
 refine ⟨trivial, ?_⟩;refine ords_pure rfl (fun K hK => ?_); go_simp; refine hK _ ?_; clear hK K;refine ords_loud rfl (fun n2 => ?_);go_wp2
 first | (refine ⟨trivial, ?_⟩; refine ords_end (fun n3 => ?_)) | (rintro _ ⟨n3, rfl⟩)
 first
  |(guard_expr zA=zA;have hb := ((HB.drewN (n1 + n2)).set_ pb (wv (rotr (b1 ^^^ c2) 63))).drewN n3)
  |(have hb := ((HB.drewN (n1 + m9 + n2)).set_ pb (wv (rotr (b1 ^^^ c2) 63))).drewN n3)
 rw [wcs_set, HLb.out] at hb;dsimp only at hb
 first
  |(guard_expr zA=zA
    have hgr := gdr (grown_set (gdr HG ((n1 + n2))) (p := ⟨g, pb, none⟩) (.inl rfl) (wv (rotr (b1 ^^^ c2) 63))) n3;go_wp2_with fail;change Blk (aZD (aZI (aZD wc ((n1 + n2))) ⟨g, pb, none⟩ (.int .u64 (wrd ((rotr (b1 ^^^ c2) 63))))) n3) _ _ _ at hb;change w.grownBy (aZD (aZI (aZD wc ((n1 + n2))) ⟨g, pb, none⟩ (.int .u64 (wrd ((rotr (b1 ^^^ c2) 63))))) n3) _ at hgr;clear ga gb gc gd fa HB HG;generalize aZD (aZI (aZD wc ((n1 + n2))) ⟨g, pb, none⟩ (.int .u64 (wrd ((rotr (b1 ^^^ c2) 63))))) n3 = wn at *)
  |(have hr := ((HR.drewN (n1 + m9 + n2)).far (p := ⟨g, pb, none⟩) (show g + 1 ≠ g by omega) (wv (rotr (b1 ^^^ c2) 63))).drewN n3
    have hgr := bdr (bput (bdr HG ((n1 + m9 + n2))) (p := ⟨g, pb, none⟩) (show w.heap.size <= g from bZF HGE.symm) (wv (rotr (b1 ^^^ c2) 63))) n3;go_upto_region 11 with fail
    change Blk (aZD (aZI (aZD wc ((n1 + m9 + n2))) ⟨g, pb, none⟩ (.int .u64 (wrd ((rotr (b1 ^^^ c2) 63))))) n3) _ _ _ at hb;change Blk (aZD (aZI (aZD wc ((n1 + m9 + n2))) ⟨g, pb, none⟩ (.int .u64 (wrd ((rotr (b1 ^^^ c2) 63))))) n3) _ _ _ at hr;change Below _ w (aZD (aZI (aZD wc ((n1 + m9 + n2))) ⟨g, pb, none⟩ (.int .u64 (wrd ((rotr (b1 ^^^ c2) 63))))) n3) at hgr;clear ga gb gc gd fa HB HG HR;generalize aZD (aZI (aZD wc ((n1 + m9 + n2))) ⟨g, pb, none⟩ (.int .u64 (wrd ((rotr (b1 ^^^ c2) 63))))) n3 = wn at *)
 obtain ⟨b2, hb2⟩ : ∃ b2, b2 = (rotr (b1 ^^^ c2) 63) := ⟨_, rfl⟩;rw [<- hb2] at hb ⊢;clear wc;obtain ⟨wc, hwc⟩ : ∃ wc, wc = wn := ⟨_, rfl⟩
 first
  |(guard_expr zA=zA;rw [<- hwc] at hb hgr ⊢)
  |(rw [<- hwc] at hb hr hgr ⊢)
 clear hwc
 first
  |(guard_expr zA=zA
    have Eb2 := zH hb2; have HB := zH hb; have HG := zH hgr; clear hb hgr hb2;go_end0;refine ⟨rfl, ?_, HG.out⟩)
  |(have Eb2 := zH hb2; have HB := zH hb; have HR := zH hr; have HG := zH hgr; clear hb hr hgr hb2
    have e : (⟨a2, b2, c2, d2⟩ : Qd UInt64) = gm64 ⟨ka, kb, kc, kd⟩ x y := by
     unfold gm64
     dsimp only
     rw [Eb2.out, Ec2.out, Ed2.out, Ea2.out, Eb1.out, Ec1.out, Ed1.out, Ea1.out];simp only [UInt64.add_assoc]
    clear Eb2 Ec2 Ed2 Ea2 Eb1 Ec1 Ed1 Ea1 HLa HLb HLc HLd HAa HAb HAc HAd)
 have h := HB.out
 first
  |(guard_expr zA=zA
    rw [Eb2.out, Ec2.out, Ed2.out, Ea2.out, Eb1.out, Ec1.out, Ed1.out, Ea1.out] at h;exact h)
  |(rw [e] at h
    have H := zH h; clear h HB;go_wp2_with (first
     | (refine aZH rfl 97 _ rfl g rfl 97 (wcs (lay (gm64 ⟨ka, kb, kc, kd⟩ x y))) (0, 0) _ H.out hu.out rfl hsz.out ?_)
     | (refine aZE rfl 97 _ _ rfl (g + 1) (wcs (lay (gm64 ⟨ka, kb, kc, kd⟩ x y))) rfl rfl 97 _ HR hsz.out hVs.out hall.out ?_))
    exact aZB (results_cell_tmp rfl _ _ (g + 1) _ _ _ rfl (HR.row _) hu.out rfl hsz.out) rfl ⟨rfl, brow HG.out (by have := HGE.out; omega) _⟩)
 ) : P := h
theorem zS6 {P : Prop} (h : P := by
 first
  |(guard_expr zA=zA;have hI : In64 w w base g (s.feed L) s A A c Ab nb cb L := ⟨hL, hnb, hcb, rfl, ⟨hE, Grown2.refl _ _ _, .inl rfl⟩, hr, hfar⟩)
  |(have hI : In32 w w base g (s.feed L) s A A c Ab nb cb L := ⟨hL, hnb, hcb, rfl, ⟨hE, Grown2.refl _ _ _, .inl rfl⟩, hr, hfar⟩)
 generalize s.feed L = S at *;have HI := zH hI; clear hE hr hL hfar hI
 first
  |(guard_expr zA=zA
    have hu := zH Tryz.underlying217; have hu8 := zH Tryz.underlying150;go_enter Tryz.func200, Tryz.ntmps200)
  |(have hu := zH Tryz.underlying217; have hu8 := zH Tryz.underlying154
    go_enter Tryz.func206, Tryz.ntmps206)
 go_wp2_with fail
 first
  |(guard_expr zA=zA;go_loopw [1] (fun b wr => ∃ (s1 : St64) (A1 : Option Addr) (c1 : Nat) (Ab1 : Option Addr) (nl cb1 : Nat) (r : List UInt8), b = .slice Ab1 nl cb1 /\ In64 w wr base g S s1 A A1 c1 Ab1 nl cb1 r) (fun b _ => slLen b))
  |(go_loopw [1] (fun b wr => ∃ (s1 : St32) (A1 : Option Addr) (c1 : Nat) (Ab1 : Option Addr) (nl cb1 : Nat) (r : List UInt8), b = .slice Ab1 nl cb1 /\ In32 w wr base g S s1 A A1 c1 Ab1 nl cb1 r) (fun b _ => slLen b))
 case atStart => exact ⟨s, A, c, Ab, nb, cb, L, rfl, HI.out⟩
 case round =>
  obtain ⟨s1, A1, c1, Ab1, nl, cb1, r, rfl, hI1⟩ := hrel;have hcap := hI1.cap; have hsm := hI1.small;have HI1 := zH hI1; clear hI1 HI
  by_cases hlt : 0 < nl
  ·have hnd : decide ((0 : Int) < nl) = true := by simp; omega
   obtain ⟨c8, c9, c10, c11, c12, c13⟩ := HI1.st.st.cells;generalize hhl : s1.held.length = hn at *;have HHL := zH hhl; clear hhl;go_wp2;go_quiet (fail);go_upto_if 17 with fail
   first
    |(guard_expr zA=zA;go_cut [] from 5 to 88 (fun wx => Wrote64 w wx base g s1.ready A A1 c1))
    |(go_cut [] from 5 to 88 (fun wx => Wrote32 w wx base g s1.ready A A1 c1))
   case first =>
    first
     |(guard_expr zA=zA;by_cases hfull : hn = 128)
     |(by_cases hfull : hn = 64)
    ·first
      |(guard_expr zA=zA;have hbq : ((hn : Int) == 128) = true := by simp; omega)
      |(have hbq : ((hn : Int) == 64) = true := by simp; omega)
     have HE1 := zH HI1.st.st; have HW1 := zH HI1.st
     first
      |(guard_expr zA=zA
        obtain ⟨bq, hadd⟩ := add_any s1.lo s1.hi 128;have z : wrd 128 = 128 := rfl)
      |(obtain ⟨bq, hadd⟩ := add_any s1.lo s1.hi 64
        have z : wrd 64 = 64 := rfl)
     simp only [z] at hadd;clear z
     first
      |(guard_expr zA=zA
        have he := St64.full_eq s1 (HHL.trans hfull);have hFl := comp64_len s1.H (wordsOf s1.held 16) (addLo s1.lo 128) (addHi s1.lo s1.hi 128) false false;have hmix := fun (B : Nat) (W : World) (hB : B <= W.heap.size) (hr : RS cB W B A1 s1.held) => mixBig_any s1.H A1 c1 B s1.held (addLo s1.lo 128) (addHi s1.lo s1.hi 128) false false W HE1.ok.H (HHL.trans hfull) hB hr
        generalize comp64 s1.H (wordsOf s1.held 16) (addLo s1.lo 128) (addHi s1.lo s1.hi 128) false false = F at *;generalize addLo s1.lo 128 = p at *;generalize addHi s1.lo s1.hi 128 = q at *;have HA := zH hadd; have HM := zH hmix; have HEQ := zH he; have HF := zH hFl; have aF := zH (wcs_all F); clear hadd hmix he hFl)
      |(have he := St32.full_eq s1 (HHL.trans hfull)
        have hFl := comp32_len s1.H (words3 s1.held 16) (addLo s1.lo 64) false false;have hmix := fun (B : Nat) (W : World) (hB : B <= W.heap.size) (hr : RS cB W B A1 s1.held) => mixSmall_any s1.H A1 c1 B s1.held (addLo s1.lo 64) (addHi s1.lo s1.hi 64) false false W HE1.ok.H (HHL.trans hfull) hB hr
        generalize comp32 s1.H (words3 s1.held 16) (addLo s1.lo 64) false false = F at *;generalize addLo s1.lo 64 = p at *;generalize addHi s1.lo s1.hi 64 = q at *;have HA := zH hadd; have HM := zH hmix; have HEQ := zH he; have HF := zH hFl; have aF := zH (wc3_all F); clear hadd hmix he hFl)
     go_wp2_with fail;refine wrZ (fun _ => True) (fun _ _ h => h) (Ords.of [(0, 0), (0, 1), (0, 2), (0, 3), (1, 4), (0, 5), (0, 6), (0, 7), (1, 8), (0, 9), (2, 10), (0, 11), (0, 12), (0, 13), (0, 14), (0, 15), (2, 16)] .fin) trivial ?_
     iterate 4 (refine ords_pure rfl (fun K hK => ?_); go_simp; refine hK _ ?_; clear hK K)
     refine ords_readV (v := Value.agg [.int .u64 (wrd s1.lo), .int .u64 (wrd s1.hi)].toArray) rfl rfl (fun m9 => pure_load_mid 217 (.tmp 22) rfl g 8 rfl _ _ ((HE1.drewN (nq + m9)).rangeC) hu.out rfl (by kernel_rfl)) ?_; go_simp
     iterate 5 ((first | refine ords_pure rfl (fun K hK => ?_) | refine ords_read rfl (fun K hK => ?_)); go_simp; refine hK _ ?_; clear hK K)
     refine ords_loud rfl (fun n1 => ?_);go_wp2_with (go_at_call 201; refine (HA _).mono ?_; rintro e w5 ⟨rfl, hb5⟩)
     try (refine ⟨trivial, ?_⟩)
     iterate 5 (refine ords_pure rfl (fun K hK => ?_); go_simp; refine hK _ ?_; clear hK K)
     refine ords_loud rfl (fun n2 => ?_);refine wpList_store_mid rfl 217 (.tmp 33) (.tmp 30) rfl g 8 #[.int .u64 (wrd p), .int .u64 (wrd q)] rfl rfl ((((HE1.drewN _).below hb5).drewN n2).there 8 2 (by omega)) (by kernel_rfl) (by simp [Value.oneCell']) ?_; have hW6 := (((HW1.drewN _).below hb5).drewN n2).count p q; change wpList _ _ _ _ _ (cZI (w5.drewN n2) g 8 [Value.int .u64 (wrd p), Value.int .u64 (wrd q)]); generalize cZI (w5.drewN n2) g 8 [Value.int .u64 (wrd p), Value.int .u64 (wrd q)] = w6 at *; go_wp2_with fail
     first | (refine ⟨trivial, ?_⟩; refine ords_end (fun n3 => ?_)) | (refine ords_end (fun n3 => ?_)) | (rintro _ ⟨n3, rfl⟩)
     have HW6 := zH hW6; clear hW6 hb5 c8 c9 c10 c11 c12 c13;obtain ⟨c8, c9, c10, c11, c12, c13⟩ := HW6.st.cells;dsimp only at c8 c9 c10;rw [HHL.out, hfull] at c10;go_wp2_with fail;refine wrZ (fun _ => True) (fun _ _ h => h) (Ords.of [(0, 0), (0, 1), (0, 2), (0, 3), (1, 4), (0, 5), (0, 6), (0, 7), (1, 8), (0, 9), (0, 10), (0, 11), (1, 12), (0, 13), (0, 14), (0, 15), (1, 16), (2, 17), (0, 18), (0, 19), (2, 20)] .fin) trivial ?_
     iterate 8 ((first | refine ords_pure rfl (fun K hK => ?_) | refine ords_read rfl (fun K hK => ?_)); go_simp; refine hK _ ?_; clear hK K)
     first
      |(guard_expr zA=zA;refine ords_readV (v := Value.agg (wcs s1.H).toList.toArray) rfl rfl (fun m9 => pure_load_mid 150 (.tmp 41) rfl g 0 rfl _ _ ((HW6.st.drewN (n3 + m9)).rangeH) hu8.out rfl (by rw [Array.length_toList]; exact sz8w s1.H HE1.ok.H)) ?_; go_simp)
      |(refine ords_readV (v := Value.agg (wc3 s1.H).toList.toArray) rfl rfl (fun m9 => pure_load_mid 154 (.tmp 41) rfl g 0 rfl _ _ ((HW6.st.drewN (n3 + m9)).rangeH) hu8.out rfl (by rw [Array.length_toList]; exact sz8s s1.H HE1.ok.H)) ?_; go_simp)
     iterate 7 ((first | refine ords_pure rfl (fun K hK => ?_) | refine ords_read rfl (fun K hK => ?_)); go_simp; refine hK _ ?_; clear hK K)
     refine ords_readV (v := Value.agg [.int .u64 (wrd p), .int .u64 (wrd q)].toArray) rfl rfl (fun m9 => pure_load_mid 217 (.tmp 49) rfl g 8 rfl _ _ ((HW6.st.drewN (n3 + m9)).rangeC) hu.out rfl (by kernel_rfl)) ?_; go_simp;refine ords_loud rfl (fun n1 => ?_)
     first
      |(guard_expr zA=zA;go_wp2_with (go_at_call 143; refine (HM _ _ (aZC _) (HW6.st.drewN _).own.reads).mono ?_; rintro e w7 ⟨rfl, hb7⟩))
      |(go_wp2_with (go_at_call 146; refine (HM _ _ (aZC _) (HW6.st.drewN _).own.reads).mono ?_; rintro e w7 ⟨rfl, hb7⟩))
     try (refine ⟨trivial, ?_⟩)
     iterate 2 (refine ords_pure rfl (fun K hK => ?_); go_simp; refine hK _ ?_; clear hK K)
     refine ords_loud rfl (fun n2 => ?_)
     first
      |(guard_expr zA=zA;refine wpList_store_mid rfl 150 (.tmp 53) (.tmp 51) rfl g 0 (wcs F) rfl rfl (by rw [wcs_size, HF.out]; exact (((HW6.st.drewN _).below hb7).drewN _).there 0 8 (by omega)) (sz8w F HF.out) aF.out ?_; have hW8 := (((HW6.drewN _).below hb7).drewN n2).state F HF.out; change wpList _ _ _ _ _ (cZI (w7.drewN n2) g 0 (wcs F).toList); generalize cZI (w7.drewN n2) g 0 (wcs F).toList = w8 at *; go_wp2_with fail)
      |(refine wpList_store_mid rfl 154 (.tmp 53) (.tmp 51) rfl g 0 (wc3 F) rfl rfl (by rw [wc3_size, HF.out]; exact (((HW6.st.drewN _).below hb7).drewN _).there 0 8 (by omega)) (sz8s F HF.out) aF.out ?_; have hW8 := (((HW6.drewN _).below hb7).drewN n2).state F HF.out; change wpList _ _ _ _ _ (cZI (w7.drewN n2) g 0 (wc3 F).toList); generalize cZI (w7.drewN n2) g 0 (wc3 F).toList = w8 at *; go_wp2_with fail)
     first | (refine ⟨trivial, ?_⟩; refine ords_end (fun n3 => ?_)) | (refine ords_end (fun n3 => ?_)) | (rintro _ ⟨n3, rfl⟩)
     have HW8 := zH hW8; clear hW8 hb7 c8 c9 c10 c11 c12 c13;obtain ⟨c8, c9, c10, c11, c12, c13⟩ := HW8.st.cells;dsimp only at c8 c9 c10;rw [HHL.out, hfull] at c10;have hfz := HW8.st.blk.frozen 10;go_wp2_with fail;go_meet;rw [HEQ.out];exact (HW8.drewN _).clear
    ·first
      |(guard_expr zA=zA;have hbq : ((hn : Int) == 128) = false := by simp; omega)
      |(have hbq : ((hn : Int) == 64) = false := by simp; omega)
     go_wp2_with fail;go_meet;have h1 := HI1.st
     first
      |(guard_expr zA=zA;rw [St64.wait_eq s1 (by rw [HHL.out]; exact hfull)])
      |(rw [St32.wait_eq s1 (by rw [HHL.out]; exact hfull)])
     exact ⟨h1.st.drewN _, h1.gr.drewN _, h1.row⟩
   case rest =>
    have hW := hcut
    first
     |(guard_expr zA=zA
       have hrd := (St64.ready_ok HI1.st.st.ok).2;have hfd := St64.feed_step HI1.st.st.ok r (fun e => by have := HI1.len; rw [e] at this; simp at this; omega))
     |(have hrd := (St32.ready_ok HI1.st.st.ok).2
       have hfd := St32.feed_step HI1.st.st.ok r (fun e => by have := HI1.len; rw [e] at this; simp at this; omega))
    rw [HI1.feed] at hfd;generalize s1.ready = s2 at *;have hlr := HI1.len;have HRS := zH HI1.rs; have HFAR := zH HI1.far;have HW := zH hW; have HFD := zH hfd; clear hW hcut hfd HI1 c8 c9 c10 c11 c12 c13;obtain ⟨c8, c9, c10, c11, c12, c13⟩ := HW.st.cells;generalize hml : s2.held.length = m at *
    first
     |(guard_expr zA=zA;obtain ⟨d, hd⟩ : ∃ d, d = 128 - m := ⟨_, rfl⟩)
     |(obtain ⟨d, hd⟩ : ∃ d, d = 64 - m := ⟨_, rfl⟩)
    obtain ⟨t, ht⟩ : ∃ t, t = min nl d := ⟨_, rfl⟩
    first
     |(guard_expr zA=zA;have hdi : (128 : Int) - (m : Int) = (d : Int) := by omega)
     |(have hdi : (64 : Int) - (m : Int) = (d : Int) := by omega)
    have hwd : IntKind.i64.wrap (d : Int) = d := by simp [IntKind.wrap, IntKind.bits, IntKind.signed]; omega
    have hmi : (if d < nl then (d : Int) else (nl : Int)) = (t : Int) := by
     rw [ht]; split <;> omega
    have htn : t <= nl := by omega
    have htc : t <= cb1 := by omega
    first
     |(guard_expr zA=zA;have hmt : m + t <= 128 := by omega)
     |(have hmt : m + t <= 64 := by omega)
    have htp : 0 < t := by omega
    have htk : r.take d = r.take t := by
     rw [ht, <- hlr];rcases Nat.le_total r.length d with h | h
     ·rw [Nat.min_eq_left h, List.take_of_length_le h, List.take_of_length_le (aZC _)]
     ·rw [Nat.min_eq_right h]
    have hdr : r.drop d = r.drop t := by
     rw [ht, <- hlr];rcases Nat.le_total r.length d with h | h
     ·rw [Nat.min_eq_left h, List.drop_eq_nil_of_le h, List.drop_eq_nil_of_le (aZC _)]
     ·rw [Nat.min_eq_right h]
    have HD := zH hd; have HT := zH ht; have HML := zH hml; have HLR := zH hlr; have HTK := zH htk; have HDR := zH hdr; clear hd ht hml hlr htk hdr;go_wp2_with fail;go_quiet (fail);go_wp2_with fail;refine wrZ (fun _ => True) (fun _ _ h => h) (Ords.of [(0, 0), (0, 1), (0, 2), (0, 3), (1, 4), (0, 5), (0, 6), (0, 7), (2, 8), (0, 9), (0, 10), (2, 11)] .fin) trivial ?_
    iterate 8 ((first | refine ords_pure rfl (fun K hK => ?_) | refine ords_read rfl (fun K hK => ?_)); go_simp; refine hK _ ?_; clear hK K)
    refine ords_loud rfl (fun n1 => ?_)
    first
     |(guard_expr zA=zA;refine wpList_appB _ rfl (.tmp 79) (.tmp 82) rfl (HW.drewN (nq + n1)).st.own rfl HML.out (((HRS.take t).keep2 (aZC _) HW.gr HFAR.out).drewN (nq + n1)) rfl (by rw [aZJ, HLR.out]; omega) (by omega) (by have := HW.gr.size; show base <= wc.heap.size; omega) ?_; intro A3 c3 w3 ho3 hg3 hA3; replace hg3 := grown_undrewN (grown_undrewN hg3); have hfz3 := (HW.same hg3).frozen 10; have hc3 := ((HW.same hg3).cell 10).trans (hc64_at s2.H s2.lo s2.hi A1 s2.held.length c1 HW.st.ok.H).2.2.1; have HO3 := zH ho3; have HG3 := zH hg3; have HA3 := zH hA3; clear ho3 hg3 hA3; go_wp2_with fail)
     |(refine wpList_appB _ rfl (.tmp 79) (.tmp 82) rfl (HW.drewN (nq + n1)).st.own rfl HML.out (((HRS.take t).keep2 (aZC _) HW.gr HFAR.out).drewN (nq + n1)) rfl (by rw [aZJ, HLR.out]; omega) (by omega) (by have := HW.gr.size; show base <= wc.heap.size; omega) ?_; intro A3 c3 w3 ho3 hg3 hA3; replace hg3 := grown_undrewN (grown_undrewN hg3); have hfz3 := (HW.same hg3).frozen 10; have hc3 := ((HW.same hg3).cell 10).trans (hc32_at s2.H s2.lo s2.hi A1 s2.held.length c1 HW.st.ok.H).2.2.1; have HO3 := zH ho3; have HG3 := zH hg3; have HA3 := zH hA3; clear ho3 hg3 hA3; go_wp2_with fail)
    try (refine ⟨trivial, ?_⟩)
    iterate 2 (refine ords_pure rfl (fun K hK => ?_); go_simp; refine hK _ ?_; clear hK K)
    refine ords_loud rfl (fun n2 => ?_);go_wp2_with fail
    first | (refine ⟨trivial, ?_⟩; refine ords_end (fun n3 => ?_)) | (refine ords_end (fun n3 => ?_)) | (rintro _ ⟨n3, rfl⟩)
    have hW4 := (HW.app (n := m + t) (m := n2) HO3.out HG3.out HA3.out (by rw [List.length_append, HML.out, aZJ, HLR.out]; omega) hmt).drewN n3;have hfd := HFD.out
    first
     |(guard_expr zA=zA;have hst : s2.take r = { s2 with held := s2.held ++ r.take t } := by unfold St64.take; rw [HML.out, <- HD.out, HTK.out])
     |(have hst : s2.take r = { s2 with held := s2.held ++ r.take t } := by unfold St32.take; rw [HML.out, <- HD.out, HTK.out])
    rw [hst, <- HD.out, HDR.out] at hfd;have hcut2 := HRS.cut (k := t) (cap := cb1) (by rw [HLR.out]; exact htn) (by rw [HLR.out]; exact hcap);have hlen2 : (r.drop t).length = nl - t := by rw [aZS, HLR.out]
    have HC2 := zH hcut2; have HL2 := zH hlen2; have HW4 := zH hW4; have HFD2 := zH hfd; clear hfd hst hcut2 hlen2 hW4;go_wp2_with fail
    case roundEnd =>
    refine ⟨⟨_, _, _, _, _, _, _, rfl, HL2.out, by omega, by omega, HFD2.symm, HW4.out, HC2.out, ?_⟩, by show nl - t < nl; omega⟩;intro a ha
    split at ha
    ·exact HFAR a ha
    ·cases hA1 : Ab1 with
     | none => rw [hA1] at ha; cases ha
     | some a1 =>
      rw [hA1] at ha;simp only [Option.map_some, bZU] at ha;rw [<- ha, block_of_add];exact HFAR a1 hA1
  ·obtain rfl : nl = 0 := by omega
   have hI1 := HI1.out;have hr0 : r = [] := bZA hI1.len;have h1 := hI1.feed
   first
    |(guard_expr zA=zA;rw [hr0, St64.feed_nil] at h1)
    |(rw [hr0, St32.feed_nil] at h1)
   have hE2 := hI1.st;rw [h1] at hE2;go_wp2_with fail;go_end0;exact ⟨rfl, A1, c1, hE2⟩
 ) : P := h
theorem zS7 {P : Prop} (h : P := by
 first
  |(guard_expr zA=zA
    have hen := fun W hrs hrp => refEncode_any true p ls lp W hc hf hls hlp hrs hrp
    have hxl := encL_len true p ls lp (by have h := (chk_range hc).2.2.2.2.2.2.1; rw [hls]; exact h) (by have h := (chk_range hc).2.2.2.2.2.2.2; rw [hlp]; exact h);have hst := fun A c W hr => refStart_any A c (encL true p ls lp) W hxl hr
    change ∀ W, _ -> _ -> Calls Tryz.prog _ #[.int .i64 1, p.v] W _ at hen;have e64 : bOf true = 64 := rfl)
  |(have hen := fun W hrs hrp => refEncode_any false p ls lp W hc hf hls hlp hrs hrp
    have hxl := encL_len false p ls lp (by have h := (chk_range hc).2.2.2.2.2.2.1; rw [hls]; exact h) (by have h := (chk_range hc).2.2.2.2.2.2.2; rw [hlp]; exact h);have hst := fun A c W hr => r4Start_any A c (encL false p ls lp) W hxl hr
    change ∀ W, _ -> _ -> Calls Tryz.prog _ #[.int .i64 2, p.v] W _ at hen;have e64 : bOf false = 32 := rfl)
 simp only [e64] at hen;have c30 : w.cell? ⟨q, 30, none⟩ = some (.bool false) := hb.cell 30;have hql := hb.lt
 first
  |(guard_expr zA=zA
    obtain ⟨H, hH⟩ : ∃ H, H = start64 (encL true p ls lp) := ⟨_, rfl⟩;have hHl : H.length = 8 := by rw [hH]; exact start64_len _)
  |(obtain ⟨H, hH⟩ : ∃ H, H = start32 (encL false p ls lp) := ⟨_, rfl⟩
    have hHl : H.length = 8 := by rw [hH]; exact start32_len _)
 simp only [<- hH] at hst
 first
  |(guard_expr zA=zA;have hw : (HS.start true (encL true p ls lp)).words = H ++ zw 8 := by rw [hH]; rfl)
  |(have hw : (HS.start false (encL false p ls lp)).words = H.map (fun x => x.toUInt64) ++ zw 8 := by rw [hH]; rfl)
 rw [hw]
 first
  |(guard_expr zA=zA
    generalize encL true p ls lp = X at *;obtain ⟨R, hR⟩ : ∃ R, R = H ++ zw 8 := ⟨_, rfl⟩;have hRl : R.length = 16 := by rw [hR, aZN, hHl]; rfl
    have hRH : ∀ k v, k < 8 -> H[k]? = some v -> R[k]? = some v := fun k v hk h => by rw [hR, bZH (by omega), h]
    have hfi : fillU R 8 16 = R := by rw [hR]; exact fillU_half H hHl)
  |(generalize encL false p ls lp = X at *
    obtain ⟨R, hR⟩ : ∃ R, R = H.map (fun x => x.toUInt64) ++ zw 8 := ⟨_, rfl⟩;have hRl : R.length = 16 := by rw [hR, aZN, bZE, hHl]; rfl
    have hRH : ∀ k v, k < 8 -> H[k]? = some v -> R[k]? = some (UInt32.toUInt64 v) := fun k v hk h => by rw [hR, bZH (by rw [bZE]; omega), bZK, h]; rfl
    have hfi : fillU R 8 16 = R := by rw [hR]; exact fillU_half _ (by rw [bZE]; exact hHl))
 rw [<- hR];have HEN := zH hen; have HST := zH hst; have HHL := zH hHl; have HRL := zH hRl; have HRH := zH hRH; have HFI := zH hfi; have HRS := zH hrs; have HRP := zH hrp; have HB := zH hb;clear hen hst hHl hRl hRH hfi hrs hrp hb hc hf hls hlp hxl hH hw hR;have hup := zH Tryz.underlying81; have hu16 := zH Tryz.underlying97
 first
  |(guard_expr zA=zA
    have s8 := zH (sz8w H HHL); have sR := zH (sz16w R HRL); have a8 := zH (wcs_all H); have aR := zH (wcs_all R);have ho8 : Hid (z8.size = (wcs H).size) := by show _ = _; rw [wcs_size, HHL.out]; rfl)
  |(have s8 := zH (sz8s H HHL); have sR := zH (sz16w R HRL); have a8 := zH (wc3_all H); have aR := zH (wcs_all R)
    have ho8 : Hid (z8s.size = (wc3 H).size) := by show _ = _; rw [wc3_size, HHL.out]; rfl)
 have hoR : Hid ((wcs (fillU R 0 16)).size = (wcs R).size) := by show _ = _; rw [wcs_size, wcs_size, fillU_len _ _ _ (by omega) HRL.out, HRL.out]
 have e0 : wcs (fillU R 0 16) = z16 := rfl;unfold Pr.v Pr.cs Sl.v at *;go_enter Tryz.func95, Tryz.ntmps95;go_wp2_with fail;have n0 : Blk ((w.alloc (.cells z16 97)).alloc (.cells z16 97)) w.heap.size 97 (wcs (fillU R 0 16)) := by rw [e0]; exact (Blk.new _ _ _).alloc _
 have n1 : Blk ((w.alloc (.cells z16 97)).alloc (.cells z16 97)) (w.heap.size + 1) 97 (wcs (fillU R 0 16)) := by
  rw [e0]; simpa using Blk.new (w.alloc (.cells z16 97)) 97 z16
 have n4 := bal (bal (b0 w) (.cells z16 97)) (.cells z16 97);unfold z16 at n0 n1 n4;obtain ⟨b, hb⟩ : ∃ b, b = w.heap.size := ⟨_, rfl⟩;rw [<- hb] at n0 n1 ⊢;generalize (w.alloc (.cells #[.int .u64 0, .int .u64 0, .int .u64 0, .int .u64 0, .int .u64 0, .int .u64 0, .int .u64 0, .int .u64 0, .int .u64 0, .int .u64 0, .int .u64 0, .int .u64 0, .int .u64 0, .int .u64 0, .int .u64 0, .int .u64 0] 97)).alloc (.cells #[.int .u64 0, .int .u64 0, .int .u64 0, .int .u64 0, .int .u64 0, .int .u64 0, .int .u64 0, .int .u64 0, .int .u64 0, .int .u64 0, .int .u64 0, .int .u64 0, .int .u64 0, .int .u64 0, .int .u64 0, .int .u64 0] 97) = w0 at *;have N0 := zH n0; have N1 := zH n1; have N4 := zH n4; have hwb : Hid (w.heap.size <= b) := by (show _ <= _; omega)
 clear n0 n1 n4 hb e0;have HQ := zH (HB.below N4 HB.lt)
 first
  |(guard_expr zA=zA;have c0 : w0.cell? ⟨q, 0, none⟩ = some (.int .i64 1) := HQ.cell 0)
  |(have c0 : w0.cell? ⟨q, 0, none⟩ = some (.int .i64 2) := HQ.cell 0)
 have HRNG := zH (fun m => by
  have h := (HQ.drewN m).range 1 11;rw [rn_par] at h;exact h : ∀ m, (w0.drewN m).rangeAt q 1 [.int .i64 p.digest, .int .i64 p.key, .int .i64 p.fanout, .int .i64 p.depth, .int .u32 p.leaf, .int .u64 p.offset, .int .u32 p.xof, .int .i64 p.nd, .int .i64 p.inner, .slice p.salt.A p.salt.n p.salt.c, .slice p.pers.A p.pers.n p.pers.c])
 refine wrZ (fun _ => True) (fun _ _ h => h) (Ords.of [(0, 0), (0, 1), (0, 2), (1, 3), (0, 4), (0, 5), (0, 6), (1, 7), (2, 8), (0, 9), (0, 10), (0, 11), (0, 12), (0, 13)] .fin) trivial ?_
 iterate 7 ((first | refine ords_pure rfl (fun K hK => ?_) | refine ords_read rfl (fun K hK => ?_)); go_simp; refine hK _ ?_; clear hK K)
 refine ords_readV (v := Value.agg [.int .i64 p.digest, .int .i64 p.key, .int .i64 p.fanout, .int .i64 p.depth, .int .u32 p.leaf, .int .u64 p.offset, .int .u32 p.xof, .int .i64 p.nd, .int .i64 p.inner, .slice p.salt.A p.salt.n p.salt.c, .slice p.pers.A p.pers.n p.pers.c].toArray) rfl rfl (fun m9 => pure_load_mid 81 (.tmp 27) rfl q 1 rfl _ _ (HRNG m9) hup.out rfl (by kernel_rfl)) ?_; go_simp;refine ords_loud rfl (fun n1 => ?_);go_wp2_with (go_at_call 81; refine (HEN _ (((HRS.below N4).more N4.size).drewN _) (((HRP.below N4).more N4.size).drewN _)).mono ?_; rintro e1 w1 ⟨A1, c1, rfl, ho1, hb1⟩); have HO1 := zH ho1; have M0 := zH ((N0.drewN _).below hb1 (N0.drewN _).lt); have M1 := zH ((N1.drewN _).below hb1 (N1.drewN _).lt); have M4 := zH (bcall (bdr N4 _) hb1); have MQ := zH ((HQ.drewN _).below hb1 (HQ.drewN _).lt); clear ho1 hb1
 try (refine ⟨trivial, ?_⟩)
 iterate 5 (refine ords_pure rfl (fun K hK => ?_); go_simp; refine hK _ ?_; clear hK K)
 refine ords_end (fun n2 => ?_);have n0 := M0.drewN n2; have n1 := M1.drewN n2; have n4 := bdr M4 n2; have ho1 := HO1.drewN n2
 first
  |(guard_expr zA=zA;have c0 : (w1.drewN n2).cell? ⟨q, 0, none⟩ = some (.int .i64 1) := MQ.cell 0)
  |(have c0 : (w1.drewN n2).cell? ⟨q, 0, none⟩ = some (.int .i64 2) := MQ.cell 0)
 generalize w1.drewN n2 = w2 at *;clear N0 N1 N4 HQ HRNG M0 M1 M4 MQ HO1;have N0 := zH n0; have N1 := zH n1; have N4 := zH n4; have HO1 := zH ho1; clear n0 n1 n4 ho1;go_wp2_with fail;refine (HST A1 c1 _ HO1.reads).mono ?_;rintro e3 w3 ⟨rfl, hb3⟩
 first
  |(guard_expr zA=zA
    have q0 := (N0.below hb3 N0.lt).alloc (.cells z8 150);have q1 := (N1.below hb3 N1.lt).alloc (.cells z8 150);have q4 := bal (bcall N4 hb3) (.cells z8 150);have q3 := Blk.new w3 150 z8)
  |(have q0 := (N0.below hb3 N0.lt).alloc (.cells z8s 154)
    have q1 := (N1.below hb3 N1.lt).alloc (.cells z8s 154);have q4 := bal (bcall N4 hb3) (.cells z8s 154);have q3 := Blk.new w3 154 z8s)
 have hs3 : b + 1 < w3.heap.size := (N1.below hb3 N1.lt).lt;have hw3 : Hid (w.heap.size <= w3.heap.size) := (bcall N4 hb3).size
 first
  |(guard_expr zA=zA;unfold z8 at q0 q1 q3 q4)
  |(unfold z8s at q0 q1 q3 q4)
 have Q3 := zH q3; clear q3 hb3 N0 N1 N4 c0 HO1
 first
  |(guard_expr zA=zA
    go_upto_region 7 with (refine aZE rfl 150 _ _ rfl w3.heap.size (wcs H) rfl rfl 150 _ Q3 s8.out ho8.out a8.out ?_)
    have q3 := Q3.row (wcs H);replace q0 := q0.rowFar (k := w3.heap.size) (by omega) (wcs H); replace q1 := q1.rowFar (k := w3.heap.size) (by omega) (wcs H); replace q4 := brow q4 (g := w3.heap.size) hw3.out (wcs H))
  |(go_upto_region 13 with (refine aZE rfl 154 _ _ rfl w3.heap.size (wc3 H) rfl rfl 154 _ Q3 s8.out ho8.out a8.out ?_)
    have q3 := Q3.row (wc3 H);replace q0 := q0.rowFar (k := w3.heap.size) (by omega) (wc3 H); replace q1 := q1.rowFar (k := w3.heap.size) (by omega) (wc3 H); replace q4 := brow q4 (g := w3.heap.size) hw3.out (wc3 H))
 clear Q3;obtain ⟨g, hg⟩ : ∃ g, g = w3.heap.size := ⟨_, rfl⟩;rw [<- hg] at q0 q1 q3 q4 hs3 ⊢
 first
  |(guard_expr zA=zA;generalize (w3.alloc _).setRow g (wcs H) = w4 at *)
  |(generalize (w3.alloc _).setRow g (wc3 H) = w4 at *)
 have N0 := zH q0; have N1 := zH q1; have N3 := zH q3; have N4 := zH q4;clear q0 q1 q3 q4 hg hw3;go_wp2_with fail
 first
  |(guard_expr zA=zA;go_loopw [8] (fun i wr => ∃ k : Nat, k <= 8 /\ i = .int .i64 k /\ Blk wr b 97 (wcs (fillU R 0 16)) /\ Blk wr (b + 1) 97 (wcs (fillU R k 16)) /\ Blk wr g 150 (wcs H) /\ Below w.heap.size w wr) (fun i _ => 8 - (intOf i).toNat))
  |(go_loopw [11] (fun i wr => ∃ k : Nat, k <= 8 /\ i = .int .i64 k /\ Blk wr b 97 (wcs (fillU R 0 16)) /\ Blk wr (b + 1) 97 (wcs (fillU R k 16)) /\ Blk wr g 154 (wc3 H) /\ Below w.heap.size w wr) (fun i _ => 8 - (intOf i).toNat))
 case atStart => exact ⟨0, by omega, rfl, N0.out, N1.out, N3.out, N4.out⟩
 case round =>
  clear N0 N1 N3 N4;obtain ⟨k, hk, rfl, x0, x1, x3, x4⟩ := hrel;have N0 := zH x0; have N1 := zH x1; have N3 := zH x3; have N4 := zH x4; clear x0 x1 x3 x4
  by_cases hlt : k < 8
  ·obtain ⟨u, hu⟩ : ∃ u, u = H.getD k 0 := ⟨_, rfl⟩
   first
    |(guard_expr zA=zA;have hHk : H[k]? = some u := by rw [hu]; exact getDW H k (by rw [HHL.out]; exact hlt))
    |(have hHk : H[k]? = some u := by rw [hu]; exact getD3 H k (by rw [HHL.out]; exact hlt))
   have hcv := down_up
   first
    |(guard_expr zA=zA;have c3 : wr.cell? ⟨g, k, none⟩ = some (.int .u64 (wrd u)) := by rw [N3.cell]; exact wcs_at' H k u hHk)
    |(have c3 : wr.cell? ⟨g, k, none⟩ = some (.int .u32 (wr3 u)) := by rw [N3.cell]; exact wc3_at' H k u hHk)
   have c1 : wr.cell? ⟨b + 1, k, none⟩ = some (wv ((fillU R k 16).getD k 0)) := (N1.cell k).trans (wcs_get _ _ (by rw [fillU_len R k 16 (by omega) HRL.out]; omega));generalize wv ((fillU R k 16).getD k 0) = old at c1;have f1 : wr.frozen? ⟨b + 1, k, none⟩ = false := N1.frozen k;have hki : (k : Int) < 8 := by omega
   have hk16 : (k : Int) < 16 := by omega
   have hkd : decide ((k : Int) < 8) = true := by simp; omega
   first
    |(guard_expr zA=zA;obtain ⟨v, hv⟩ : ∃ v, v = u := ⟨_, rfl⟩)
    |(obtain ⟨v, hv⟩ : ∃ v, v = (UInt32.toUInt64 u) := ⟨_, rfl⟩)
   have hs1 := N1.set_ k (wv v);rw [fillU_put R k 16 v (by omega) (by rw [hv]; exact HRH.out k u hlt hHk)] at hs1;have hs0 := N0.far (p := ⟨b + 1, k, none⟩) (by show b ≠ b + 1; omega) (wv v);have hs3 := N3.far (p := ⟨b + 1, k, none⟩) (by show g ≠ b + 1; omega) (wv v);have hs4 := bput N4.out (p := ⟨b + 1, k, none⟩) (by have := hwb.out; simp; omega) (wv v);rw [hv] at hs0 hs1 hs3 hs4;have HS0 := zH hs0; have HS1 := zH hs1; have HS3 := zH hs3; have HS4 := zH hs4;clear hs0 hs1 hs3 hs4 hu hHk hv N0 N1 N3 N4;go_wp2_with fail;go_roundw
   case rel => exact ⟨k + 1, by omega, by go_num, HS0.out, HS1.out, HS3.out, HS4.out⟩
   case measure => simp [intOf]; omega
  ·obtain rfl : k = 8 := by omega
   clear hlt hk;have x1 := N1.out;rw [HFI.out] at x1;have X1 := zH x1; clear x1 N1;go_wp2_with (first
    | (refine aZH rfl 97 _ rfl (b + 1) rfl 97 (wcs R) (0, 0) _ X1 hu16.out rfl sR.out ?_)
    | (refine aZE rfl 97 _ _ rfl b (wcs R) rfl rfl 97 _ N0 sR.out hoR.out aR.out ?_))
   exact aZB (aZZ rfl _ _ b _ _ (0, 0) _ rfl (N0.row _) hu16.out rfl sR.out) rfl ⟨rfl, brow N4 hwb.out _⟩
 ) : P := h
theorem zS8 {P : Prop} (h : P := by
 have HH := zH hH; have HM := zH hM;have hIl := initOf_len H lo hi last node hH
 first
  |(guard_expr zA=zA;have hI := fun w => init_any H lo hi last node w hH)
  |(have hI := fun w => refInit_any H lo hi last node w hH)
 unfold comp64;generalize initOf H lo hi last node = V at *;have HI := zH hI; have HVl := zH hIl; clear hI hIl hH hM;have hu8 := zH Tryz.underlying150
 first
  |(guard_expr zA=zA)
  |(have hu16 := zH Tryz.underlying97)
 have s8 := zH (sz8w H HH)
 first
  |(guard_expr zA=zA)
  |(have sM := zH (sz16w M HM))
 have sV := zH (sz16w V HVl);have aV := zH (wcs_all V);have holdV : Hid ((wcs (zw 16)).size = (wcs V).size) := by show _ = _; rw [wcs_size, wcs_size, HVl.out]; rfl
 first
  |(guard_expr zA=zA;go_enter Tryz.func158, Tryz.ntmps158)
  |(go_enter Tryz.func98, Tryz.ntmps98)
 go_upto_region 1 with fail
 first
  |(guard_expr zA=zA
    obtain ⟨w1, hw1⟩ : ∃ w1, w1 = w.alloc (.cells (wcs H) 150) := ⟨_, rfl⟩;obtain ⟨w2, hw2⟩ : ∃ w2, w2 = w1.alloc (.cells (wcs M) 97) := ⟨_, rfl⟩;obtain ⟨w3, hw3⟩ : ∃ w3, w3 = w2.alloc (.cells #[.int .u64 (wrd lo), .int .u64 (wrd hi)] 217) := ⟨_, rfl⟩;obtain ⟨w4, hw4⟩ : ∃ w4, w4 = w3.alloc (.cells (wcs (zw 8)) 150) := ⟨_, rfl⟩;have e4 : (((w.alloc (.cells (wcs H) 150)).alloc (.cells (wcs M) 97)).alloc (.cells #[.int .u64 (wrd lo), .int .u64 (wrd hi)] 217)).alloc (.cells z8 150) = w4 := by rw [hw4, hw3, hw2, hw1]; rfl
    unfold z8 at e4;rw [e4];have n0 : Blk w4 w.heap.size 150 (wcs H) := by rw [hw4, hw3, hw2, hw1]; exact (((Blk.new _ _ _).alloc _).alloc _).alloc _
    have n1 : Blk w4 (w.heap.size + 1) 97 (wcs M) := by
     have : w1.heap.size = w.heap.size + 1 := by rw [hw1]; simp
     rw [<- this, hw4, hw3, hw2]; exact ((Blk.new _ _ _).alloc _).alloc _
    have n2 : Blk w4 (w.heap.size + 1 + 1) 217 #[.int .u64 (wrd lo), .int .u64 (wrd hi)] := by
     have : w2.heap.size = w.heap.size + 1 + 1 := by rw [hw2, hw1]; simp
     rw [<- this, hw4, hw3]; exact (Blk.new _ _ _).alloc _
    have n3 : Blk w4 (w.heap.size + 1 + 1 + 1) 150 (wcs (zw 8)) := by
     have : w3.heap.size = w.heap.size + 1 + 1 + 1 := by rw [hw3, hw2, hw1]; simp
     rw [<- this, hw4]; exact Blk.new _ _ _
    have n4 : Below w.heap.size w w4 := by rw [hw4, hw3, hw2, hw1]; exact bal (bal (bal (bal (b0 _) _) _) _) _
    clear hw1 hw2 hw3 hw4 e4 w1 w2 w3)
  |(have n0 : Blk (((w.alloc (.cells (wcs H) 150)).alloc (.cells (wcs M) 97)).alloc (.cells z8 150)) w.heap.size 150 (wcs H) := ((Blk.new _ _ _).alloc _).alloc _
    have n1 : Blk (((w.alloc (.cells (wcs H) 150)).alloc (.cells (wcs M) 97)).alloc (.cells z8 150)) (w.heap.size + 1) 97 (wcs M) := by
     have := (Blk.new (w.alloc (.cells (wcs H) 150)) 97 (wcs M)).alloc (.cells z8 150); simpa using this
    have n3 : Blk (((w.alloc (.cells (wcs H) 150)).alloc (.cells (wcs M) 97)).alloc (.cells z8 150)) (w.heap.size + 1 + 1) 150 (wcs (zw 8)) := by
     have := Blk.new ((w.alloc (.cells (wcs H) 150)).alloc (.cells (wcs M) 97)) 150 z8; show Blk _ _ _ z8; simpa using this
    have n4 := bal (bal (bal (b0 w) (.cells (wcs H) 150)) (.cells (wcs M) 97)) (.cells z8 150))
 obtain ⟨g0, hg0⟩ : ∃ g, g = w.heap.size := ⟨_, rfl⟩;obtain ⟨g1, hg1⟩ : ∃ g, g = w.heap.size + 1 := ⟨_, rfl⟩
 first
  |(guard_expr zA=zA
    obtain ⟨g2, hg2⟩ : ∃ g, g = w.heap.size + 1 + 1 := ⟨_, rfl⟩;obtain ⟨g3, hg3⟩ : ∃ g, g = w.heap.size + 1 + 1 + 1 := ⟨_, rfl⟩;rw [<- hg3, <- hg2, <- hg1, <- hg0];rw [<- hg0] at n0; rw [<- hg1] at n1; rw [<- hg2] at n2; rw [<- hg3] at n3)
  |(obtain ⟨g3, hg3⟩ : ∃ g, g = w.heap.size + 1 + 1 := ⟨_, rfl⟩
    unfold z8 at n0 n1 n3 n4;rw [<- hg0] at n0; rw [<- hg1] at n1; rw [<- hg3] at n3;rw [<- hg3, <- hg1, <- hg0];generalize ((w.alloc (.cells (wcs H) 150)).alloc (.cells (wcs M) 97)).alloc (.cells #[.int .u64 0, .int .u64 0, .int .u64 0, .int .u64 0, .int .u64 0, .int .u64 0, .int .u64 0, .int .u64 0] 150) = w4 at *)
 have l01 : g0 < g1 := by omega
 first
  |(guard_expr zA=zA
    have l12 : g1 < g2 := by omega
    have l23 : g2 < g3 := by omega)
  |(have l13 : g1 < g3 := by omega)
 have l0 : Hid (w.heap.size <= g0) := by show _ <= _; omega
 first
  |(guard_expr zA=zA
    have N0 := zH n0; have N1 := zH n1; have N2 := zH n2; have N3 := zH n3; have N4 := zH n4;clear n0 n1 n2 n3 n4 hg0 hg1 hg2 hg3;have d0 : w4.cell? ⟨g2, 0, none⟩ = some (.int .u64 (wrd lo)) := N2.cell 0;have d1 : w4.cell? ⟨g2, 1, none⟩ = some (.int .u64 (wrd hi)) := N2.cell 1)
  |(have N0 := zH n0; have N1 := zH n1; have N3 := zH n3; have N4 := zH n4
    clear n0 n1 n3 n4 hg0 hg1 hg3)
 go_wp2_with (refine aZH rfl 150 _ rfl g0 rfl 150 (wcs H) (0, 0) _ N0 hu8.out rfl s8.out ?_);refine (HI _).mono ?_;rintro e w6 ⟨rfl, hb6⟩
 first
  |(guard_expr zA=zA;clear d0 d1)
  |(skip)
 replace N0 := zH (N0.below hb6 N0.lt); replace N1 := zH (N1.below hb6 N1.lt); replace N3 := zH (N3.below hb6 N3.lt); replace N4 := zH (bcall N4 hb6);have l36 : g3 < w6.heap.size := N3.lt
 first
  |(guard_expr zA=zA;clear N2 hb6)
  |(clear hb6)
 have n6 : Blk (w6.alloc (.cells z16 97)) w6.heap.size 97 (wcs (zw 16)) := Blk.new _ _ _;have v0 := N0.alloc (.cells z16 97); have v1 := N1.alloc (.cells z16 97); have v3 := N3.alloc (.cells z16 97); have v4 := bal N4 (.cells z16 97);have l6 := N4.size;obtain ⟨g6, hg6⟩ : ∃ g6, g6 = w6.heap.size := ⟨_, rfl⟩;unfold z16 at n6 v0 v1 v3 v4;have N6 := zH n6; have hw6 : Hid (w.heap.size <= w6.heap.size) := l6; clear n6 l6;go_upto_region 2 with (refine aZE rfl 97 _ _ rfl w6.heap.size (wcs V) rfl rfl 97 _ N6 sV.out holdV.out aV.out ?_)
 have n6 := N6.row (wcs V);replace v0 := v0.rowFar (k := w6.heap.size) (by omega) (wcs V); replace v1 := v1.rowFar (k := w6.heap.size) (by omega) (wcs V); replace v3 := v3.rowFar (k := w6.heap.size) (by omega) (wcs V); replace v4 := brow v4 hw6.out (wcs V);rw [<- hg6] at n6 v0 v1 v3 v4 l36 ⊢;clear N0 N1 N3 N4 N6 sV holdV aV;generalize (w6.alloc (.cells #[.int .u64 0, .int .u64 0, .int .u64 0, .int .u64 0, .int .u64 0, .int .u64 0, .int .u64 0, .int .u64 0, .int .u64 0, .int .u64 0, .int .u64 0, .int .u64 0, .int .u64 0, .int .u64 0, .int .u64 0, .int .u64 0] 97)).setRow g6 (wcs V) = w7 at *;have hl6 : Hid (w.heap.size <= g6) := by show _ <= _; rw [hg6]; exact hw6.out
 clear hg6 hw6;have N0 := zH v0; have N1 := zH v1; have N3 := zH v3; have N4 := zH v4; have N6 := zH n6; clear v0 v1 v3 v4 n6;go_wp2_with fail
 first
  |(guard_expr zA=zA;go_loopw [19] (fun i wr => ∃ k : Nat, k <= 12 /\ i = .int .i64 k /\ Blk wr g6 97 (wcs (roundsTo M k V)) /\ Blk wr g0 150 (wcs H) /\ Blk wr g1 97 (wcs M) /\ Blk wr g3 150 (wcs (zw 8)) /\ Below w.heap.size w wr) (fun i _ => 12 - (intOf i).toNat))
  |(go_loopw [14] (fun i wr => ∃ k : Nat, k <= 12 /\ i = .int .i64 k /\ Blk wr g6 97 (wcs (roundsTo M k V)) /\ Blk wr g0 150 (wcs H) /\ Blk wr g1 97 (wcs M) /\ Blk wr g3 150 (wcs (zw 8)) /\ Below w.heap.size w wr) (fun i _ => 12 - (intOf i).toNat))
 case atStart => exact ⟨0, by omega, rfl, N6.out, N0.out, N1.out, N3.out, N4.out⟩
 case round =>
  clear N0 N1 N3 N4 N6;obtain ⟨k, hk, rfl, x6, x0, x1, x3, x4⟩ := hrel;have N0 := zH x0; have N1 := zH x1; have N3 := zH x3; have N4 := zH x4; have N6 := zH x6; clear x0 x1 x3 x4 x6
  by_cases hlt : k < 12
  ·first
    |(guard_expr zA=zA
      have ht := turn_any g6 g1 k (roundsTo M k V) M wr (by omega) (by rw [roundsTo_len, HVl.out]) HM.out N6.out N1.out;have HT := zH ht; clear ht)
    |(have hRl : (roundsTo M k V).length = 16 := by rw [roundsTo_len, HVl.out]
      have hRl1 : (roundsTo M (k + 1) V).length = 16 := by rw [roundsTo_len, HVl.out]
      have hR := fun W => refRound_any k (roundsTo M k V) M W hlt hRl HM.out
      have e : turn64 M k (roundsTo M k V) = roundsTo M (k + 1) V := rfl;rw [e] at hR;have HR := zH hR;have sR := zH (sz16w _ hRl);have sS := zH (sz16w _ hRl1);have aS := zH (wcs_all (roundsTo M (k + 1) V));have hoS : Hid ((wcs (roundsTo M k V)).size = (wcs (roundsTo M (k + 1) V)).size) := by show _ = _; rw [wcs_size, wcs_size, hRl, hRl1]
      clear hR hRl hRl1 e)
   have hkd : decide ((k : Int) < 12) = true := by simp; omega
   first
    |(guard_expr zA=zA;go_wp2_with (go_at_call 167; refine HT.mono ?_; rintro e w8 ⟨rfl, hz8, hg8⟩; have HZ8 := zH hz8; have HG8 := zH hg8; clear hz8 hg8))
    |(go_wp2_with (first
       | (refine aZH rfl 97 (.tmp 13) rfl g6 rfl 97 (wcs (roundsTo M k V)) (0, 0) _ N6 hu16.out rfl sR.out ?_)
       | (refine aZH rfl 97 (.tmp 7) rfl g1 rfl 97 (wcs M) (0, 0) _ N1 hu16.out rfl sM.out ?_)
       | (go_at_call 120; refine (HR _).mono ?_; rintro e w8 ⟨rfl, hb8⟩; have M6 := zH (N6.below hb8 N6.lt); have HB8 := zH hb8; clear hb8)
       | (refine aZE rfl 97 _ _ rfl g6 (wcs (roundsTo M (k + 1) V)) rfl rfl 97 _ M6 sS.out hoS.out aS.out ?_)))
   go_roundw
   first
    |(guard_expr zA=zA;case rel => exact ⟨k + 1, by omega, by go_num, HZ8.out, N0.grown HG8.out (by simp; omega), N1.grown HG8.out (by simp; omega), N3.grown HG8.out (by simp; omega), bgr N4.out HG8.out hl6.out⟩)
    |(case rel => exact ⟨k + 1, by omega, by go_num, M6.row _, (N0.below HB8.out N0.lt).rowFar (by omega) _, (N1.below HB8.out N1.lt).rowFar (by omega) _, (N3.below HB8.out N3.lt).rowFar (by omega) _, brow (bcall N4.out HB8.out) hl6.out _⟩)
   case measure => simp [intOf]; omega
  ·obtain rfl : k = 12 := by omega
   rw [show ((12 : Nat) : Int) = 12 from rfl];clear hlt hk;obtain ⟨R, hR⟩ : ∃ R, R = roundsTo M 12 V := ⟨_, rfl⟩;have hRl : R.length = 16 := by rw [hR, roundsTo_len, HVl.out]
   have x6 := N6.out;rw [<- hR] at x6;obtain ⟨F, hF⟩ : ∃ F, F = outOf H R := ⟨_, rfl⟩;have hFl : F.length = 8 := by rw [hF, outOf_len]
   have HRl := zH hRl; have HFl := zH hFl; have HF := zH hF; have HR := zH hR; have X6 := zH x6; clear hRl hFl hF hR x6 N6;go_wp2_with fail
   first
    |(guard_expr zA=zA;go_loopw [25] (fun i wr => ∃ k : Nat, k <= 8 /\ i = .int .i64 k /\ Blk wr g0 150 (wcs (halfW F H k)) /\ Blk wr g6 97 (wcs R) /\ Blk wr g3 150 (wcs (zw 8)) /\ Below w.heap.size w wr) (fun i _ => 8 - (intOf i).toNat))
    |(go_loopw [15] (fun i wr => ∃ k : Nat, k <= 8 /\ i = .int .i64 k /\ Blk wr g0 150 (wcs (halfW F H k)) /\ Blk wr g6 97 (wcs R) /\ Blk wr g3 150 (wcs (zw 8)) /\ Below w.heap.size w wr) (fun i _ => 8 - (intOf i).toNat))
   case atStart => exact ⟨0, by omega, rfl, by simpa [halfW] using N0.out, X6.out, N3.out, N4.out⟩
   case round =>
    clear N0 N1 N3 N4 X6;obtain ⟨k, hk, rfl, x0, x6, x3, x4⟩ := hrel;have N0 := zH x0; have N3 := zH x3; have N4 := zH x4; have N6 := zH x6; clear x0 x3 x4 x6
    by_cases hlt : k < 8
    ·have eF := outOf_at H R k hlt
     first
      |(guard_expr zA=zA;rw [<- HF.out] at eF)
      |(rw [<- HF.out, <- UInt64.xor_assoc] at eF)
     obtain ⟨k8, hk8⟩ : ∃ k8, k8 = k + 8 := ⟨_, rfl⟩;rw [<- hk8] at eF;have e8 : (k : Int) + 8 = (k8 : Int) := by omega
     have w8' : IntKind.i64.wrap (k8 : Int) = k8 := by simp [aZU, aZR, aZM]; omega
     obtain ⟨p, hp⟩ : ∃ p, p = H.getD k 0 := ⟨_, rfl⟩;obtain ⟨q, hq⟩ : ∃ q, q = R.getD k 0 := ⟨_, rfl⟩;obtain ⟨r, hr⟩ : ∃ r, r = R.getD k8 0 := ⟨_, rfl⟩;have c0 : wr.cell? ⟨g0, k, none⟩ = some (.int .u64 (wrd p)) := by rw [N0.cell, wcs_at' _ k p (by rw [hp]; exact halfW_at F H k (by rw [HH.out]; exact hlt) (by rw [HH.out, HFl.out]))]
     have c1 : wr.cell? ⟨g6, k, none⟩ = some (.int .u64 (wrd q)) := by rw [N6.cell, wcs_at' _ k q (by rw [hq]; exact getDW R k (by rw [HRl.out]; omega))]
     have c2 : wr.cell? ⟨g6, k8, none⟩ = some (.int .u64 (wrd r)) := by rw [N6.cell, wcs_at' _ k8 r (by rw [hr]; exact getDW R k8 (by rw [HRl.out]; omega))]
     have cf : wr.frozen? ⟨g0, k, none⟩ = false := N0.frozen k;rw [<- hp, <- hq, <- hr] at eF;have EF := zH eF; clear eF hp hq hr;have h2 := wrd_xor;have hki : (k : Int) < 8 := by omega
     have hk8i : (k8 : Int) < 16 := by omega
     have hk16 : (k : Int) < 16 := by omega
     have hkd : decide ((k : Int) < 8) = true := by simp; omega
     clear hk8;go_wp2
     first
      |(guard_expr zA=zA
        refine wrZ (fun _ => True) (fun _ _ h => h) (Ords.of [(0, 0), (0, 1), (1, 2), (0, 3), (0, 4), (1, 5), (0, 6), (0, 7), (0, 8), (1, 9), (0, 10), (0, 11), (0, 12), (2, 13)] .fin) trivial ?_
        iterate 13 ((first | refine ords_pure rfl (fun K hK => ?_) | refine ords_read rfl (fun K hK => ?_)); go_simp; refine hK _ ?_; clear hK K))
      |(refine wrZ (fun _ => True) (fun _ _ h => h) (Ords.of [(0, 0), (0, 1), (0, 2), (1, 3), (0, 4), (0, 5), (1, 6), (0, 7), (0, 8), (0, 9), (0, 10), (1, 11), (0, 12), (0, 13), (2, 14)] .fin) trivial ?_
        iterate 14 ((first | refine ords_pure rfl (fun K hK => ?_) | refine ords_read rfl (fun K hK => ?_)); go_simp; refine hK _ ?_; clear hK K))
     refine ords_loud rfl (fun n1 => ?_);go_wp2
     first | (refine ⟨trivial, ?_⟩; refine ords_end (fun n2 => ?_)) | (rintro _ ⟨n2, rfl⟩)
     go_wp2_with fail;go_roundw
     case rel =>
      first
       |(guard_expr zA=zA;have h0 := ((N0.drewN n1).set_ k (wv (p ^^^ (q ^^^ r)))).drewN n2)
       |(have h0 := ((N0.drewN n1).set_ k (wv (p ^^^ q ^^^ r))).drewN n2)
      rw [wcs_set, halfW_put F H k _ EF.out (by rw [HH.out, HFl.out])] at h0;exact ⟨k + 1, by omega, by go_num, h0, ((N6.drewN n1).far (p := ⟨g0, k, none⟩) (by simp; omega) _).drewN n2, ((N3.drewN n1).far (p := ⟨g0, k, none⟩) (by simp; omega) _).drewN n2, bdr (bput (bdr N4.out n1) (p := ⟨g0, k, none⟩) l0.out _) n2⟩
     case measure => simp [intOf]; omega
    ·obtain rfl : k = 8 := by omega
     clear hlt hk;have x0 := N0.out;rw [halfW_all F H 8 HFl.out HH.out] at x0;have X0 := zH x0; clear x0 N0;have sF := zH (sz8w F HFl);have aF := zH (wcs_all F);have hoF : Hid ((wcs (zw 8)).size = (wcs F).size) := by show _ = _; rw [wcs_size, wcs_size, HFl.out]; rfl
     have hl3 : Hid (w.heap.size <= g3) := by show _ <= _; have := l0.out; omega
     first
      |(guard_expr zA=zA;go_upto_region 12 with fail)
      |(go_upto_region 10 with fail)
     go_wp2_with (first
      | (refine aZH rfl 150 _ rfl g0 rfl 150 (wcs F) (0, 0) _ X0 hu8.out rfl sF.out ?_)
      | (refine aZE rfl 150 _ _ rfl g3 (wcs F) rfl rfl 150 _ N3 sF.out hoF.out aF.out ?_))
     have h9 := HF.out;rw [HR.out] at h9;rw [<- h9];exact aZB (aZZ rfl _ _ g3 _ _ (0, 0) _ rfl (N3.row _) hu8.out rfl sF.out) rfl ⟨rfl, brow N4 hl3.out _⟩
 ) : P := h
end Go.Proofs.YtmapfcdffklopaaGreat

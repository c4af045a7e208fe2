/-
  Call, by the reference. Contracts alone; no statement is claimed here.
-/
import Derived.Test.YtghpofnaojbbkaaGreatRDecS
import Derived.Test.YtghpofnaojbbkaaGreatBu1
namespace Go.Proofs.YtghpofnaojbbkaaGreat
open Go.RowKit
attribute [local go_sem] pureUpon Ords.of

theorem rdecode_any (big ext : Bool) (A : Option Addr) (n c : Nat) (b : List UInt8) (w : World) (hb : b.length = n) (hc : n ≤ c) (hr : RS cB w w.heap.size A b) :
  Calls Tryz.prog 49 #[.int .i64 (kOf big), .slice A n c, .bool ext] w (RDecAns big ext b w) := by
 by_cases hn : n = bOf big
 ·cases big
  ·subst hn
   exact rdecSmall_any ext A c b w hb hc hr
  ·subst hn
   exact rdecBig_any ext A c b w hb hc hr
 ·refine (rdecLen_any big ext A n c w hn).mono ?_
  rintro r w' ⟨e, rfl, he, h⟩
  exact .inr ⟨fun h => hn (by rw [← hb]; exact h.1), e, rfl, he, h⟩
def s1L (big : Bool) (b : List UInt8) : List UInt8 := (b.drop (bOf big / 2)).take (bOf big / 4)
def s2L (big : Bool) (b : List UInt8) : List UInt8 := (b.drop (3 * (bOf big / 4))).take (bOf big / 4)
theorem rdY_any {big ext : Bool} (A : Option Addr) (n c : Nat) (b : List UInt8) (w : World) (h : decOk big ext b) (hb : b.length = n) (hc : n ≤ c) (hr : RS cB w w.heap.size A b) :
  Calls Tryz.prog 49 #[.int .i64 (kOf big), .slice A n c, .bool ext] w fun r w' => ∃ (X : Pr) (s t : Sl), r = .returned (.tuple #[X.v, .int .i64 0]) ∧ X = decPr big ext b s t ∧ Trim (s1L big b) s.n ∧ Trim (s2L big b) t.n ∧ OS cB w' w.heap.size s.A s.c ((s1L big b).take s.n) ∧ OS cB w' w.heap.size t.A t.c ((s2L big b).take t.n) ∧ Below w.heap.size w w' := by
 refine (rdecode_any big ext A n c b w hb hc hr).mono ?_
 rintro r w' (⟨-, A1, t1, c1, A2, t2, c2, rfl, h1, h2, h3, h4, h5⟩ | ⟨h3, -⟩)
 ·exact ⟨_, ⟨A1, t1, c1⟩, ⟨A2, t2, c2⟩, rfl, rfl, h1, h2, h3, h4, h5⟩
 ·exact absurd h h3
theorem rdN_any {big ext : Bool} (A : Option Addr) (n c : Nat) (b : List UInt8) (w : World) (h : ¬ decOk big ext b) (hb : b.length = n) (hc : n ≤ c) (hr : RS cB w w.heap.size A b) :
  Calls Tryz.prog 49 #[.int .i64 (kOf big), .slice A n c, .bool ext] w fun r w' => ∃ (X : Pr) (e : Int), r = .returned (.tuple #[X.v, .int .i64 e]) ∧ (e != 0) = true ∧ Below w.heap.size w w' := by
 refine (rdecode_any big ext A n c b w hb hc hr).mono ?_
 rintro r w' (⟨h3, -⟩ | ⟨-, e, rfl, h3, h4⟩)
 ·exact absurd h3 h
 ·exact ⟨zeroPar, e, rfl, by simpa using h3, h4⟩
set_option maxRecDepth 20000 in
set_option maxHeartbeats 2000000 in
theorem refDecodedNo_any (big : Bool) (A : Option Addr) (n c : Nat) (b : List UInt8) (w : World) (hok : ¬ blkOk big b) (hb : b.length = n) (hc : n ≤ c) (hr : RS cB w w.heap.size A b) :
  Calls Tryz.prog 36 #[.int .i64 (kOf big), .slice A n c] w fun r w' => ∃ (X : Pr) (e : Int), r = .returned (.tuple #[X.v, .int .i64 e]) ∧ (e != 0) = true ∧ Below w.heap.size w w' := by
 have hdf := fun W hr => rdN_any A n c b W (fun h => hok (.inl h)) hb hc hr
 have hdt := fun W hr => rdN_any A n c b W (fun h => hok (.inr h)) hb hc hr
 clear hok
 have HDF := Lib.hid hdf; have HDT := Lib.hid hdt; have HR := Lib.hid hr; clear hdf hdt hr
 generalize kOf big = k at *
 have hu := Lib.hid Tryz.underlying77
 go_enter Tryz.func36, Tryz.ntmps36
 go_wp2_with fail
 have hz : zcs = #[.int .i64 0, .int .i64 0, .int .i64 0, .int .i64 0, .int .u32 0, .int .u64 0, .int .u32 0, .int .i64 0, .int .i64 0, .slice none 0 0, .slice none 0 0] := rfl
 rw [← hz]
 clear hz
 have HK4 := Lib.hid (Blk.new w 77 zcs)
 have HB := Lib.hid (bal (b0 w) (.cells zcs 77))
 generalize w.alloc (.cells zcs 77) = u at *
 refine (HDF.out _ ((HR.out.below HB.out).more HB.out.size)).mono ?_
 rintro e1 u ⟨X, e, rfl, he, hb1⟩
 replace HK4 := Lib.hid (HK4.out.below hb1 HK4.out.lt)
 (try replace HG := Lib.hid (HG.out.below hb1 HG.out.lt))
 replace HB := Lib.hid (bcall HB.out hb1)
 clear hb1
 go_upto_region 2 with (refine wpList_store_row rfl 77 _ _ rfl u.heap.size X.cs rfl rfl 77 zcs (Blk.new _ _ _) (Pr.size _) rfl (Pr.ones _) ?_)
 have HG := Lib.hid ((Blk.new u 77 zcs).row X.cs)
 obtain ⟨g, hg⟩ : ∃ g, g = u.heap.size := ⟨_, rfl⟩
 have HG0 := Lib.hid (show w.heap.size ≤ g by rw [hg]; exact HB.out.size)
 have HNE := Lib.hid (show w.heap.size ≠ g by rw [hg]; exact Nat.ne_of_lt HK4.out.lt)
 replace HK4 := Lib.hid ((HK4.out.alloc (.cells zcs 77)).rowFar (by rw [hg] at HNE; exact HNE.out) X.cs)
 (try replace HO1 := Lib.hid ((HO1.out.alloc (.cells zcs 77)).of_block (fun a ha => setRow_other _ _ _ _ ((HO1.out.alloc (.cells zcs 77)).ne_blk (Blk.new u 77 zcs) (by show 5 ≠ 77; decide) a ha)) : OS cB ((u.alloc (.cells zcs 77)).setRow u.heap.size X.cs) w.heap.size _ _ _))
 (try replace HO2 := Lib.hid ((HO2.out.alloc (.cells zcs 77)).of_block (fun a ha => setRow_other _ _ _ _ ((HO2.out.alloc (.cells zcs 77)).ne_blk (Blk.new u 77 zcs) (by show 5 ≠ 77; decide) a ha)) : OS cB ((u.alloc (.cells zcs 77)).setRow u.heap.size X.cs) w.heap.size _ _ _))
 replace HB := Lib.hid (brow (g := u.heap.size) (bal HB.out (.cells zcs 77)) HB.out.size X.cs)
 have hz : zcs = #[.int .i64 0, .int .i64 0, .int .i64 0, .int .i64 0, .int .u32 0, .int .u64 0, .int .u32 0, .int .i64 0, .int .i64 0, .slice none 0 0, .slice none 0 0] := rfl
 (try rw [← hz])
 clear hz
 rw [← hg] at HG HK4 HB ⊢
 (try rw [← hg] at HO1 HO2)
 clear hg
 generalize (u.alloc (.cells zcs 77)).setRow g X.cs = u at *
 go_wp2_with fail
 refine (HDT.out _ ((HR.out.below HB.out).more HB.out.size)).mono ?_
 rintro e1 u ⟨X, e, rfl, he, hb1⟩
 replace HK4 := Lib.hid (HK4.out.below hb1 HK4.out.lt)
 (try replace HG := Lib.hid (HG.out.below hb1 HG.out.lt))
 replace HB := Lib.hid (bcall HB.out hb1)
 clear hb1
 go_upto_region 4 with (refine wpList_store_row rfl 77 _ _ rfl g X.cs rfl rfl 77 _ HG.out (Pr.size _) rfl (Pr.ones _) ?_)
 (try replace HO1 := Lib.hid (HO1.out.of_block (fun a ha => setRow_other u _ _ X.cs (HO1.out.ne_blk HG.out (by show 5 ≠ 77; decide) a ha))))
 (try replace HO2 := Lib.hid (HO2.out.of_block (fun a ha => setRow_other u _ _ X.cs (HO2.out.ne_blk HG.out (by show 5 ≠ 77; decide) a ha))))
 replace HG := Lib.hid (HG.out.row X.cs)
 replace HK4 := Lib.hid (HK4.out.rowFar HNE.out X.cs)
 replace HB := Lib.hid (brow HB.out HG0.out X.cs)
 generalize u.setRow g X.cs = u at *
 go_wp2_with (first
  | (refine wpList_load_row rfl 77 _ rfl g rfl 77 X.cs (0, 0) _ HG.out hu.out rfl (Pr.size _) ?_)
  | (refine wpList_store_row rfl 77 _ _ rfl w.heap.size X.cs rfl rfl 77 _ HK4.out (Pr.size _) rfl (Pr.ones _) ?_))
 exact bodyPost_ret (results_cell_tmp rfl _ _ w.heap.size 77 X.cs _ rfl (HK4.out.row _) hu.out rfl (Pr.size _)) rfl ⟨X, e, rfl, he, brow HB.out (Nat.le_refl _) _⟩
set_option maxRecDepth 20000 in
set_option maxHeartbeats 2000000 in
theorem refDecoded_any (big : Bool) (A : Option Addr) (n c : Nat) (b : List UInt8) (w : World) (hok : blkOk big b) (hb : b.length = n) (hc : n ≤ c) (hr : RS cB w w.heap.size A b) :
  Calls Tryz.prog 36 #[.int .i64 (kOf big), .slice A n c] w fun r w' => ∃ (X : Pr) (ext : Bool) (s t : Sl), r = .returned (.tuple #[X.v, .int .i64 0]) ∧ (decOk big ext b ∧ X = decPr big ext b s t) ∧ Trim (s1L big b) s.n ∧ Trim (s2L big b) t.n ∧ OS cB w' w.heap.size s.A s.c ((s1L big b).take s.n) ∧ OS cB w' w.heap.size t.A t.c ((s2L big b).take t.n) ∧ Below w.heap.size w w' := by
 by_cases hF : decOk big false b
 ·have hdf := fun W hr => rdY_any A n c b W hF hb hc hr
  have hdt : True := trivial
  have HF := Lib.hid hF
  clear hF hok
  have HDF := Lib.hid hdf; have HDT := Lib.hid hdt; have HR := Lib.hid hr; clear hdf hdt hr
  generalize kOf big = k at *
  have hu := Lib.hid Tryz.underlying77
  go_enter Tryz.func36, Tryz.ntmps36
  go_wp2_with fail
  have hz : zcs = #[.int .i64 0, .int .i64 0, .int .i64 0, .int .i64 0, .int .u32 0, .int .u64 0, .int .u32 0, .int .i64 0, .int .i64 0, .slice none 0 0, .slice none 0 0] := rfl
  rw [← hz]
  clear hz
  have HK4 := Lib.hid (Blk.new w 77 zcs)
  have HB := Lib.hid (bal (b0 w) (.cells zcs 77))
  generalize w.alloc (.cells zcs 77) = u at *
  refine (HDF.out _ ((HR.out.below HB.out).more HB.out.size)).mono ?_
  rintro e1 u ⟨X, s, t, rfl, hX, hT1, hT2, ho1, ho2, hb1⟩
  have HX := Lib.hid hX; have HT1 := Lib.hid hT1; have HT2 := Lib.hid hT2
  have HO1 := Lib.hid (ho1.mono HB.out.size); have HO2 := Lib.hid (ho2.mono HB.out.size)
  replace HK4 := Lib.hid (HK4.out.below hb1 HK4.out.lt)
  (try replace HG := Lib.hid (HG.out.below hb1 HG.out.lt))
  replace HB := Lib.hid (bcall HB.out hb1)
  clear hb1 hX hT1 hT2 ho1 ho2
  replace HX := Lib.hid (And.intro HF.out HX.out)
  go_upto_region 2 with (refine wpList_store_row rfl 77 _ _ rfl u.heap.size X.cs rfl rfl 77 zcs (Blk.new _ _ _) (Pr.size _) rfl (Pr.ones _) ?_)
  have HG := Lib.hid ((Blk.new u 77 zcs).row X.cs)
  obtain ⟨g, hg⟩ : ∃ g, g = u.heap.size := ⟨_, rfl⟩
  have HG0 := Lib.hid (show w.heap.size ≤ g by rw [hg]; exact HB.out.size)
  have HNE := Lib.hid (show w.heap.size ≠ g by rw [hg]; exact Nat.ne_of_lt HK4.out.lt)
  replace HK4 := Lib.hid ((HK4.out.alloc (.cells zcs 77)).rowFar (by rw [hg] at HNE; exact HNE.out) X.cs)
  (try replace HO1 := Lib.hid ((HO1.out.alloc (.cells zcs 77)).of_block (fun a ha => setRow_other _ _ _ _ ((HO1.out.alloc (.cells zcs 77)).ne_blk (Blk.new u 77 zcs) (by show 5 ≠ 77; decide) a ha)) : OS cB ((u.alloc (.cells zcs 77)).setRow u.heap.size X.cs) w.heap.size _ _ _))
  (try replace HO2 := Lib.hid ((HO2.out.alloc (.cells zcs 77)).of_block (fun a ha => setRow_other _ _ _ _ ((HO2.out.alloc (.cells zcs 77)).ne_blk (Blk.new u 77 zcs) (by show 5 ≠ 77; decide) a ha)) : OS cB ((u.alloc (.cells zcs 77)).setRow u.heap.size X.cs) w.heap.size _ _ _))
  replace HB := Lib.hid (brow (g := u.heap.size) (bal HB.out (.cells zcs 77)) HB.out.size X.cs)
  have hz : zcs = #[.int .i64 0, .int .i64 0, .int .i64 0, .int .i64 0, .int .u32 0, .int .u64 0, .int .u32 0, .int .i64 0, .int .i64 0, .slice none 0 0, .slice none 0 0] := rfl
  (try rw [← hz])
  clear hz
  rw [← hg] at HG HK4 HB ⊢
  (try rw [← hg] at HO1 HO2)
  clear hg
  generalize (u.alloc (.cells zcs 77)).setRow g X.cs = u at *
  go_wp2_with (first
   | (refine wpList_load_row rfl 77 _ rfl g rfl 77 X.cs (0, 0) _ HG.out hu.out rfl (Pr.size _) ?_)
   | (refine wpList_store_row rfl 77 _ _ rfl w.heap.size X.cs rfl rfl 77 _ HK4.out (Pr.size _) rfl (Pr.ones _) ?_))
  refine bodyPost_ret (results_cell_tmp rfl _ _ w.heap.size 77 X.cs _ rfl (HK4.out.row _) hu.out rfl (Pr.size _)) rfl ⟨X, false, s, t, rfl, HX.out, HT1.out, HT2.out, ?_, ?_, brow HB.out (Nat.le_refl _) _⟩
  ·exact HO1.out.of_block (fun a ha => setRow_other u _ _ _ (HO1.out.ne_blk HK4.out (by show 5 ≠ 77; decide) a ha))
  ·exact HO2.out.of_block (fun a ha => setRow_other u _ _ _ (HO2.out.ne_blk HK4.out (by show 5 ≠ 77; decide) a ha))
 ·have hT := hok.resolve_left hF
  have hdf := fun W hr => rdN_any A n c b W hF hb hc hr
  have hdt := fun W hr => rdY_any A n c b W hT hb hc hr
  have HF := Lib.hid hT
  clear hF hT hok
  have HDF := Lib.hid hdf; have HDT := Lib.hid hdt; have HR := Lib.hid hr; clear hdf hdt hr
  generalize kOf big = k at *
  have hu := Lib.hid Tryz.underlying77
  go_enter Tryz.func36, Tryz.ntmps36
  go_wp2_with fail
  have hz : zcs = #[.int .i64 0, .int .i64 0, .int .i64 0, .int .i64 0, .int .u32 0, .int .u64 0, .int .u32 0, .int .i64 0, .int .i64 0, .slice none 0 0, .slice none 0 0] := rfl
  rw [← hz]
  clear hz
  have HK4 := Lib.hid (Blk.new w 77 zcs)
  have HB := Lib.hid (bal (b0 w) (.cells zcs 77))
  generalize w.alloc (.cells zcs 77) = u at *
  refine (HDF.out _ ((HR.out.below HB.out).more HB.out.size)).mono ?_
  rintro e1 u ⟨X, e, rfl, he, hb1⟩
  replace HK4 := Lib.hid (HK4.out.below hb1 HK4.out.lt)
  (try replace HG := Lib.hid (HG.out.below hb1 HG.out.lt))
  replace HB := Lib.hid (bcall HB.out hb1)
  clear hb1
  go_upto_region 2 with (refine wpList_store_row rfl 77 _ _ rfl u.heap.size X.cs rfl rfl 77 zcs (Blk.new _ _ _) (Pr.size _) rfl (Pr.ones _) ?_)
  have HG := Lib.hid ((Blk.new u 77 zcs).row X.cs)
  obtain ⟨g, hg⟩ : ∃ g, g = u.heap.size := ⟨_, rfl⟩
  have HG0 := Lib.hid (show w.heap.size ≤ g by rw [hg]; exact HB.out.size)
  have HNE := Lib.hid (show w.heap.size ≠ g by rw [hg]; exact Nat.ne_of_lt HK4.out.lt)
  replace HK4 := Lib.hid ((HK4.out.alloc (.cells zcs 77)).rowFar (by rw [hg] at HNE; exact HNE.out) X.cs)
  (try replace HO1 := Lib.hid ((HO1.out.alloc (.cells zcs 77)).of_block (fun a ha => setRow_other _ _ _ _ ((HO1.out.alloc (.cells zcs 77)).ne_blk (Blk.new u 77 zcs) (by show 5 ≠ 77; decide) a ha)) : OS cB ((u.alloc (.cells zcs 77)).setRow u.heap.size X.cs) w.heap.size _ _ _))
  (try replace HO2 := Lib.hid ((HO2.out.alloc (.cells zcs 77)).of_block (fun a ha => setRow_other _ _ _ _ ((HO2.out.alloc (.cells zcs 77)).ne_blk (Blk.new u 77 zcs) (by show 5 ≠ 77; decide) a ha)) : OS cB ((u.alloc (.cells zcs 77)).setRow u.heap.size X.cs) w.heap.size _ _ _))
  replace HB := Lib.hid (brow (g := u.heap.size) (bal HB.out (.cells zcs 77)) HB.out.size X.cs)
  have hz : zcs = #[.int .i64 0, .int .i64 0, .int .i64 0, .int .i64 0, .int .u32 0, .int .u64 0, .int .u32 0, .int .i64 0, .int .i64 0, .slice none 0 0, .slice none 0 0] := rfl
  (try rw [← hz])
  clear hz
  rw [← hg] at HG HK4 HB ⊢
  (try rw [← hg] at HO1 HO2)
  clear hg
  generalize (u.alloc (.cells zcs 77)).setRow g X.cs = u at *
  go_wp2_with fail
  refine (HDT.out _ ((HR.out.below HB.out).more HB.out.size)).mono ?_
  rintro e1 u ⟨X, s, t, rfl, hX, hT1, hT2, ho1, ho2, hb1⟩
  have HX := Lib.hid hX; have HT1 := Lib.hid hT1; have HT2 := Lib.hid hT2
  have HO1 := Lib.hid (ho1.mono HB.out.size); have HO2 := Lib.hid (ho2.mono HB.out.size)
  replace HK4 := Lib.hid (HK4.out.below hb1 HK4.out.lt)
  (try replace HG := Lib.hid (HG.out.below hb1 HG.out.lt))
  replace HB := Lib.hid (bcall HB.out hb1)
  clear hb1 hX hT1 hT2 ho1 ho2
  replace HX := Lib.hid (And.intro HF.out HX.out)
  go_upto_region 4 with (refine wpList_store_row rfl 77 _ _ rfl g X.cs rfl rfl 77 _ HG.out (Pr.size _) rfl (Pr.ones _) ?_)
  (try replace HO1 := Lib.hid (HO1.out.of_block (fun a ha => setRow_other u _ _ X.cs (HO1.out.ne_blk HG.out (by show 5 ≠ 77; decide) a ha))))
  (try replace HO2 := Lib.hid (HO2.out.of_block (fun a ha => setRow_other u _ _ X.cs (HO2.out.ne_blk HG.out (by show 5 ≠ 77; decide) a ha))))
  replace HG := Lib.hid (HG.out.row X.cs)
  replace HK4 := Lib.hid (HK4.out.rowFar HNE.out X.cs)
  replace HB := Lib.hid (brow HB.out HG0.out X.cs)
  generalize u.setRow g X.cs = u at *
  go_wp2_with (first
   | (refine wpList_load_row rfl 77 _ rfl g rfl 77 X.cs (0, 0) _ HG.out hu.out rfl (Pr.size _) ?_)
   | (refine wpList_store_row rfl 77 _ _ rfl w.heap.size X.cs rfl rfl 77 _ HK4.out (Pr.size _) rfl (Pr.ones _) ?_))
  refine bodyPost_ret (results_cell_tmp rfl _ _ w.heap.size 77 X.cs _ rfl (HK4.out.row _) hu.out rfl (Pr.size _)) rfl ⟨X, true, s, t, rfl, HX.out, HT1.out, HT2.out, ?_, ?_, brow HB.out (Nat.le_refl _) _⟩
  ·exact HO1.out.of_block (fun a ha => setRow_other u _ _ _ (HO1.out.ne_blk HK4.out (by show 5 ≠ 77; decide) a ha))
  ·exact HO2.out.of_block (fun a ha => setRow_other u _ _ _ (HO2.out.ne_blk HK4.out (by show 5 ≠ 77; decide) a ha))
end Go.Proofs.YtghpofnaojbbkaaGreat

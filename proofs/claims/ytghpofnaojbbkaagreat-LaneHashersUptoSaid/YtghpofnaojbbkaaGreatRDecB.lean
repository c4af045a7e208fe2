/-
  Parameters out of a block, by the reference. Contracts alone; no statement is claimed here.
-/
import Derived.Test.YtghpofnaojbbkaaGreatRDecA
import Derived.Test.YtghpofnaojbbkaaGreatRefH
namespace Go.Proofs.YtghpofnaojbbkaaGreat
open Go.RowKit
attribute [local go_sem] pureUpon Ords.of

set_option maxRecDepth 20000 in
set_option maxHeartbeats 2000000 in
theorem refNormalNo_any (k : Int) (p : Pr) (w : World) (hc : chk k p ≠ 0) :
  Calls Tryz.prog 58 #[.int .i64 k, p.v] w fun r w' => r = .returned (.tuple #[zeroPar.v, .int .i64 (chk k p)]) ∧ Below w.heap.size w w' := by
 have hck := fun W => refCheck_any k p W
 have t0 : (chk k p != 0) = true := by simpa using hc
 generalize chk k p = E at *
 have hzs := zeroPar.size
 have hzo := zeroPar.ones
 have hsz : ∀ s t : Sl, (Tryz.prog.info? 77).map (·.size) = some (p.slk s t).cs.size := fun s t => Pr.size _
 have hall : ∀ s t : Sl, (p.slk s t).cs.all (·.oneCell') = true := fun s t => Pr.ones _
 obtain ⟨d, ky, fo, de, le, of, xo, nd, inn, ⟨sA, sn, sc⟩, ⟨pA, pn, pc⟩⟩ := p
 unfold zeroPar Sl.nil at *
 unfold Pr.v Pr.slk Pr.cs Sl.v at *
 dsimp only at *
 have HSZ := Lib.hid hsz; have HALL := Lib.hid hall; have ZS := Lib.hid hzs; have ZO := Lib.hid hzo
 clear hsz hall hzs hzo
 have hu := Lib.hid Tryz.underlying77
 have HCK := Lib.hid hck; clear hck hc HALL
 go_enter Tryz.func58, Tryz.ntmps58
 go_upto_region 1 with fail
 have n0 : Blk ((w.alloc (.cells #[.int .i64 d, .int .i64 ky, .int .i64 fo, .int .i64 de, .int .u32 le, .int .u64 of, .int .u32 xo, .int .i64 nd, .int .i64 inn, .slice sA sn sc, .slice pA pn pc] 77)).alloc (.cells zcs 77)) w.heap.size 77 #[.int .i64 d, .int .i64 ky, .int .i64 fo, .int .i64 de, .int .u32 le, .int .u64 of, .int .u32 xo, .int .i64 nd, .int .i64 inn, .slice sA sn sc, .slice pA pn pc] := (Blk.new _ _ _).alloc _
 have n1 : Blk ((w.alloc (.cells #[.int .i64 d, .int .i64 ky, .int .i64 fo, .int .i64 de, .int .u32 le, .int .u64 of, .int .u32 xo, .int .i64 nd, .int .i64 inn, .slice sA sn sc, .slice pA pn pc] 77)).alloc (.cells zcs 77)) (w.heap.size + 1) 77 zcs := Blk.new2 _ _ _ _
 have n4 := bal (bal (b0 w) (.cells #[.int .i64 d, .int .i64 ky, .int .i64 fo, .int .i64 de, .int .u32 le, .int .u64 of, .int .u32 xo, .int .i64 nd, .int .i64 inn, .slice sA sn sc, .slice pA pn pc] 77)) (.cells zcs 77)
 obtain ⟨g, hg⟩ : ∃ g, g = w.heap.size := ⟨_, rfl⟩
 rw [← hg] at n0 n1 ⊢
 have hz : zcs = #[.int .i64 0, .int .i64 0, .int .i64 0, .int .i64 0, .int .u32 0, .int .u64 0, .int .u32 0, .int .i64 0, .int .i64 0, .slice none 0 0, .slice none 0 0] := rfl
 rw [← hz]
 generalize (w.alloc (.cells #[.int .i64 d, .int .i64 ky, .int .i64 fo, .int .i64 de, .int .u32 le, .int .u64 of, .int .u32 xo, .int .i64 nd, .int .i64 inn, .slice sA sn sc, .slice pA pn pc] 77)).alloc (.cells zcs 77) = u at *
 have hwg : Hid (w.heap.size ≤ g) := by (show _ ≤ _; omega)
 have HK := Lib.hid n0; have HZ := Lib.hid n1; have HB := Lib.hid n4; clear n0 n1 n4 hg hz
 have hs0 := Lib.hid (HSZ.out ⟨sA, sn, sc⟩ ⟨pA, pn, pc⟩)
 go_wp2_with (first
  | (refine wpList_load_row rfl 77 _ rfl g rfl 77 _ (0, 0) _ HK.out hu.out rfl hs0.out ?_)
  | (go_at_call 45; refine (HCK.out _).mono ?_; rintro e1 u ⟨rfl, hb1⟩; replace HK := Lib.hid (HK.out.below hb1 HK.out.lt); replace HZ := Lib.hid (HZ.out.below hb1 HZ.out.lt); replace HB := Lib.hid (bcall HB.out hb1); clear hb1)
  | (refine wpList_store_row rfl 77 _ _ rfl (g + 1) _ rfl rfl 77 _ HZ.out ZS.out rfl ZO.out ?_))
 exact bodyPost_ret (results_cell_tmp rfl _ _ (g + 1) 77 _ _ rfl (HZ.out.row _) hu.out rfl ZS.out) rfl ⟨rfl, brow HB.out (Nat.le_succ_of_le hwg.out) _⟩
set_option maxRecDepth 20000 in
set_option maxHeartbeats 2000000 in
theorem refNormal_any (k : Int) (p : Pr) (ls lp : List UInt8) (w : World) (hc : chk k p = 0) (hls : ls.length = p.salt.n) (hlp : lp.length = p.pers.n) (h1 : p.salt.n ≤ 1024) (h2 : p.pers.n ≤ 1024) (hrs : RS cB w w.heap.size p.salt.A ls) (hrp : RS cB w w.heap.size p.pers.A lp) :
  Calls Tryz.prog 58 #[.int .i64 k, p.v] w fun r w' => ∃ (A1 : Option Addr) (t1 c1 : Nat) (A2 : Option Addr) (t2 c2 : Nat), r = .returned (.tuple #[(p.slk ⟨A1, t1, c1⟩ ⟨A2, t2, c2⟩).v, .int .i64 0]) ∧ Trim ls t1 ∧ Trim lp t2 ∧ OS cB w' w.heap.size A1 c1 (ls.take t1) ∧ OS cB w' w.heap.size A2 c2 (lp.take t2) ∧ Below w.heap.size w w' := by
 have hck := fun W => refCheck_any k p W
 rw [hc] at hck
 have ha := fun W hr => refTrim_any p.salt.A p.salt.c p.salt.n ls W hls h1 hr
 have hb := fun W hr => refTrim_any p.pers.A p.pers.c p.pers.n lp W hlp h2 hr
 clear hc
 have hzs := zeroPar.size
 have hzo := zeroPar.ones
 have hsz : ∀ s t : Sl, (Tryz.prog.info? 77).map (·.size) = some (p.slk s t).cs.size := fun s t => Pr.size _
 have hall : ∀ s t : Sl, (p.slk s t).cs.all (·.oneCell') = true := fun s t => Pr.ones _
 obtain ⟨d, ky, fo, de, le, of, xo, nd, inn, ⟨sA, sn, sc⟩, ⟨pA, pn, pc⟩⟩ := p
 unfold zeroPar Sl.nil at *
 unfold Pr.v Pr.slk Pr.cs Sl.v at *
 dsimp only at *
 have HSZ := Lib.hid hsz; have HALL := Lib.hid hall; have ZS := Lib.hid hzs; have ZO := Lib.hid hzo
 clear hsz hall hzs hzo
 have hu := Lib.hid Tryz.underlying77
 have HCK := Lib.hid hck; have HA := Lib.hid ha; have HBB := Lib.hid hb; have HRS := Lib.hid hrs; have HRP := Lib.hid hrp
 clear hck ha hb hrs hrp hls hlp h1 h2
 go_enter Tryz.func58, Tryz.ntmps58
 go_upto_region 1 with fail
 have n0 : Blk ((w.alloc (.cells #[.int .i64 d, .int .i64 ky, .int .i64 fo, .int .i64 de, .int .u32 le, .int .u64 of, .int .u32 xo, .int .i64 nd, .int .i64 inn, .slice sA sn sc, .slice pA pn pc] 77)).alloc (.cells zcs 77)) w.heap.size 77 #[.int .i64 d, .int .i64 ky, .int .i64 fo, .int .i64 de, .int .u32 le, .int .u64 of, .int .u32 xo, .int .i64 nd, .int .i64 inn, .slice sA sn sc, .slice pA pn pc] := (Blk.new _ _ _).alloc _
 have n1 : Blk ((w.alloc (.cells #[.int .i64 d, .int .i64 ky, .int .i64 fo, .int .i64 de, .int .u32 le, .int .u64 of, .int .u32 xo, .int .i64 nd, .int .i64 inn, .slice sA sn sc, .slice pA pn pc] 77)).alloc (.cells zcs 77)) (w.heap.size + 1) 77 zcs := Blk.new2 _ _ _ _
 have n4 := bal (bal (b0 w) (.cells #[.int .i64 d, .int .i64 ky, .int .i64 fo, .int .i64 de, .int .u32 le, .int .u64 of, .int .u32 xo, .int .i64 nd, .int .i64 inn, .slice sA sn sc, .slice pA pn pc] 77)) (.cells zcs 77)
 obtain ⟨g, hg⟩ : ∃ g, g = w.heap.size := ⟨_, rfl⟩
 rw [← hg] at n0 n1 ⊢
 have hz : zcs = #[.int .i64 0, .int .i64 0, .int .i64 0, .int .i64 0, .int .u32 0, .int .u64 0, .int .u32 0, .int .i64 0, .int .i64 0, .slice none 0 0, .slice none 0 0] := rfl
 rw [← hz]
 generalize (w.alloc (.cells #[.int .i64 d, .int .i64 ky, .int .i64 fo, .int .i64 de, .int .u32 le, .int .u64 of, .int .u32 xo, .int .i64 nd, .int .i64 inn, .slice sA sn sc, .slice pA pn pc] 77)).alloc (.cells zcs 77) = u at *
 have hwg : Hid (w.heap.size ≤ g) := by (show _ ≤ _; omega)
 have HK := Lib.hid n0; have HZ := Lib.hid n1; have HB := Lib.hid n4; clear n0 n1 n4 hg hz
 have hs0 := Lib.hid (HSZ.out ⟨sA, sn, sc⟩ ⟨pA, pn, pc⟩)
 go_upto_region 4 with (first
  | (refine wpList_load_row rfl 77 _ rfl g rfl 77 _ (0, 0) _ HK.out hu.out rfl hs0.out ?_)
  | (go_at_call 45; refine (HCK.out _).mono ?_; rintro e1 u ⟨rfl, hb1⟩; replace HK := Lib.hid (HK.out.below hb1 HK.out.lt); replace HZ := Lib.hid (HZ.out.below hb1 HZ.out.lt); replace HB := Lib.hid (bcall HB.out hb1); clear hb1))
 have hgo := HK.out.lt
 have dC : u.cell? ⟨g, 9, none⟩ = some (.slice sA sn sc) := HK.out.cell 9
 go_upto_region 5 with (go_at_call 70; refine (HA.out _ ((HRS.out.below HB.out).more HB.out.size)).mono ?_; rintro e2 u ⟨A1, t1, c1, rfl, hT1, ho1, hb2⟩; clear dC; replace HK := Lib.hid (HK.out.below hb2 HK.out.lt); replace HZ := Lib.hid (HZ.out.below hb2 HZ.out.lt); have dC : u.cell? ⟨g, 9, none⟩ = some (.slice sA sn sc) := HK.out.cell 9; have f9 := HK.out.frozen 9; have hl9 := HK.out.lt)
 have HO1 := Lib.hid ((ho1.mono HB.out.size).setFar (p := ⟨g, 9, none⟩) (fun a ha he => by have h1 := (ho1.block_lt a ha).1; have h3 : a.block = g := he; omega) (.slice A1 t1 c1))
 replace HK := Lib.hid (HK.out.set_ 9 (.slice A1 t1 c1))
 replace HZ := Lib.hid (HZ.out.far (p := ⟨g, 9, none⟩) (by show g + 1 ≠ g; omega) (.slice A1 t1 c1))
 replace HB := Lib.hid (bput (bcall HB.out hb2) (p := ⟨g, 9, none⟩) hwg.out (.slice A1 t1 c1))
 have HT1 := Lib.hid hT1
 clear hT1 ho1 hb2 hgo dC f9 hl9
 generalize u.setCell ⟨g, 9, none⟩ (.slice A1 t1 c1) = u at *
 have hgo := HK.out.lt
 have dC : u.cell? ⟨g, 10, none⟩ = some (.slice pA pn pc) := HK.out.cell 10
 go_upto_region 6 with (go_at_call 70; refine (HBB.out _ ((HRP.out.below HB.out).more HB.out.size)).mono ?_; rintro e2 u ⟨A2, t2, c2, rfl, hT2, ho2, hb2⟩; clear dC; replace HK := Lib.hid (HK.out.below hb2 HK.out.lt); replace HZ := Lib.hid (HZ.out.below hb2 HZ.out.lt); have dC : u.cell? ⟨g, 10, none⟩ = some (.slice pA pn pc) := HK.out.cell 10; have f9 := HK.out.frozen 10; have hl9 := HK.out.lt)
 have HO2 := Lib.hid ((ho2.mono HB.out.size).setFar (p := ⟨g, 10, none⟩) (fun a ha he => by have h1 := (ho2.block_lt a ha).1; have h3 : a.block = g := he; omega) (.slice A2 t2 c2))
 replace HO1 := Lib.hid ((HO1.out.below hb2 (Nat.le_refl _)).setFar (p := ⟨g, 10, none⟩) (fun a ha he => (HO1.out.below hb2 (Nat.le_refl _)).ne_blk HK.out (by show 5 ≠ 77; decide) a ha he) (.slice A2 t2 c2))
 replace HK := Lib.hid (HK.out.set_ 10 (.slice A2 t2 c2))
 replace HZ := Lib.hid (HZ.out.far (p := ⟨g, 10, none⟩) (by show g + 1 ≠ g; omega) (.slice A2 t2 c2))
 replace HB := Lib.hid (bput (bcall HB.out hb2) (p := ⟨g, 10, none⟩) hwg.out (.slice A2 t2 c2))
 have HT2 := Lib.hid hT2
 clear hT2 ho2 hb2 hgo dC f9 hl9
 generalize u.setCell ⟨g, 10, none⟩ (.slice A2 t2 c2) = u at *
 have hk2 : Blk u g 77 #[.int .i64 d, .int .i64 ky, .int .i64 fo, .int .i64 de, .int .u32 le, .int .u64 of, .int .u32 xo, .int .i64 nd, .int .i64 inn, .slice A1 t1 c1, .slice A2 t2 c2] := HK.out
 clear HK hs0
 have HK := Lib.hid hk2; clear hk2
 have hs0 := Lib.hid (HSZ.out ⟨A1, t1, c1⟩ ⟨A2, t2, c2⟩)
 have ha0 := Lib.hid (HALL.out ⟨A1, t1, c1⟩ ⟨A2, t2, c2⟩)
 go_wp2_with (first
  | (refine wpList_load_row rfl 77 _ rfl g rfl 77 _ (0, 0) _ HK.out hu.out rfl hs0.out ?_)
  | (refine wpList_store_row rfl 77 _ _ rfl (g + 1) _ rfl rfl 77 _ HZ.out hs0.out rfl ha0.out ?_))
 refine bodyPost_ret (results_cell_tmp rfl _ _ (g + 1) 77 _ _ rfl (HZ.out.row _) hu.out rfl hs0.out) rfl ⟨A1, t1, c1, A2, t2, c2, rfl, HT1.out, HT2.out, ?_, ?_, brow HB.out (Nat.le_succ_of_le hwg.out) _⟩
 ·exact HO1.out.of_block (fun a ha => setRow_other u _ _ _ (HO1.out.ne_blk HZ.out (by show 5 ≠ 77; decide) a ha))
 ·exact HO2.out.of_block (fun a ha => setRow_other u _ _ _ (HO2.out.ne_blk HZ.out (by show 5 ≠ 77; decide) a ha))
end Go.Proofs.YtghpofnaojbbkaaGreat

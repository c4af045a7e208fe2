/-
  What all nodes of a lanes' hash share: 'set' of the program. Contracts alone; no statement is claimed here.
-/
import Derived.Test.YtghpofnaojbbkaaGreatLanP
import Derived.Deep.CutRange
namespace Go.Proofs.YtghpofnaojbbkaaGreat
open Go.RowKit
attribute [local go_sem] pureUpon Ords.of

def shC (n blk most : Int) : Array Value := #[.int .i64 n, .int .i64 blk, .int .i64 most]
def setC (n blk most k digest : Int) (key salt pers : Sl) : Array Value := #[.int .i64 n, .int .i64 blk, .int .i64 most, .int .i64 k, .int .i64 digest, .slice key.A key.n key.c, .slice salt.A salt.n salt.c, .slice pers.A pers.n pers.c]
def zset : Array Value := #[.int .i64 0, .int .i64 0, .int .i64 0, .int .i64 0, .int .i64 0, .slice none 0 0, .slice none 0 0, .slice none 0 0]
theorem setC_size (n blk most k digest : Int) (key salt pers : Sl) : (Tryz.prog.info? 50).map (·.size) = some (setC n blk most k digest key salt pers).size := by unfold setC; kernel_rfl
theorem setC_ones (n blk most k digest : Int) (key salt pers : Sl) : (setC n blk most k digest key salt pers).all (·.oneCell') = true := by simp [setC, Value.oneCell']

set_option maxHeartbeats 1000000 in
theorem set_none (k : Int) (d a b c : Value) (h1 : k ≠ 1) (h2 : k ≠ 2) (w : World) :
  Calls Tryz.prog 17 #[.int .i64 k, d, a, b, c] w fun e w' => e = .returned (.tuple #[.agg zset, .int .i64 1]) ∧ Below w.heap.size w w' := by
 have ho := fun W => of_none k h1 h2 W
 have HO := Lib.hid ho; clear ho
 go_enter Tryz.func17, Tryz.ntmps17
 go_wp2_with fail
 refine (HO.out _).mono ?_
 rintro e w1 ⟨rfl, hb1⟩
 have HZ := Lib.hid (((Blk.new w 50 zset).below hb1 (Blk.new w 50 zset).lt).alloc (.cells (shC 0 0 0) 48))
 have HB := Lib.hid (bal (bcall (bal (b0 w) (.cells zset 50)) hb1) (.cells (shC 0 0 0) 48))
 go_wp2_with (refine wpList_store_row rfl 50 _ _ rfl w.heap.size zset rfl rfl 50 zset HZ.out (setC_size 0 0 0 0 0 Sl.nil Sl.nil Sl.nil) rfl (setC_ones 0 0 0 0 0 Sl.nil Sl.nil Sl.nil) ?_)
 exact bodyPost_ret (results_cell_tmp rfl _ _ w.heap.size 50 zset _ rfl (HZ.out.row zset) Tryz.underlying50 rfl (setC_size 0 0 0 0 0 Sl.nil Sl.nil Sl.nil)) rfl ⟨rfl, brow HB.out (Nat.le_refl _) zset⟩

set_option maxRecDepth 20000 in
set_option maxHeartbeats 4000000 in
theorem set_kind (k n blk most digest : Int) (sk ss sp : Sl) (key ls lp : List UInt8) (h0 : 0 ≤ n) (h8 : n ≤ 8)
  (hof : Hid (∀ w : World, Calls Tryz.prog 29 #[.int .i64 k] w fun e w' => e = .returned (.tuple #[.agg (shC n blk most), .bool true]) ∧ Below w.heap.size w w')) (w : World)
  (hk : key.length = sk.n) (hs : ls.length = ss.n) (hp : lp.length = sp.n) (nk : sk.n ≤ 140737488351232) (ns : ss.n ≤ 140737488351232) (np : sp.n ≤ 140737488351232) (rk : RS cB w w.heap.size sk.A key) (rs : RS cB w w.heap.size ss.A ls) (rp : RS cB w w.heap.size sp.A lp) :
  Calls Tryz.prog 17 #[.int .i64 k, .int .i64 digest, .slice sk.A sk.n sk.c, .slice ss.A ss.n ss.c, .slice sp.A sp.n sp.c] w fun e w' => ∃ a b c : Sl, e = .returned (.tuple #[.agg (setC n blk most k digest a b c), .int .i64 (chk k (lanePar n most digest sk.n n b c))]) ∧ a.n = sk.n ∧ b.n = ss.n ∧ c.n = sp.n ∧ OS cB w' w.heap.size a.A a.c key ∧ OS cB w' w.heap.size b.A b.c ls ∧ OS cB w' w.heap.size c.A c.c lp ∧ Below w.heap.size w w' := by
 have HPA := Lib.hid (fun (a b c : Sl) W => setParams_any n blk most k digest n a b c h0 (Int.le_refl _) h8 W)
 have HCK := Lib.hid (fun (b c : Sl) W => check_any k (lanePar n most digest sk.n n b c) W)
 have HK := Lib.hid hk; have HS := Lib.hid hs; have HP := Lib.hid hp; have RK := Lib.hid rk; have RSS := Lib.hid rs; have RP := Lib.hid rp
 clear hk hs hp rk rs rp
 unfold shC at hof
 have hsu2 := Lib.hid Tryz.underlying50
 have hsu := Lib.hid Tryz.underlying48
 go_enter Tryz.func17, Tryz.ntmps17
 go_wp2_with fail
 refine (hof.out _).mono ?_
 rintro e w1 ⟨rfl, hb1⟩
 go_upto_region 4 with fail
 have HRE := Lib.hid (((Blk.new w 50 zset).below hb1 (Blk.new w 50 zset).lt).alloc (.cells (shC n blk most) 48))
 have HSH := Lib.hid (Blk.new w1 48 (shC n blk most))
 have HB := Lib.hid (bal (bcall (bal (b0 w) (.cells zset 50)) hb1) (.cells (shC n blk most) 48))
 have HG := Lib.hid (show w.heap.size < w1.heap.size from (by have := hb1.size; simp at this; omega))
 clear hb1
 unfold shC at *
 obtain ⟨g, hg⟩ : ∃ g, g = w1.heap.size := ⟨_, rfl⟩
 rw [← hg] at HSH HG ⊢
 clear hg
 generalize w1.alloc (.cells #[.int .i64 n, .int .i64 blk, .int .i64 most] 48) = u at *
 clear w1
 refine wp_region_ords (fun w' => Blk w' g 48 #[.int .i64 n, .int .i64 blk, .int .i64 most]) (fun _ n h => h.drewN n) (Ords.of [(0, 0), (0, 1), (0, 2), (0, 3), (0, 5), (0, 7)] (.two 4 10 (Ords.of [] (.two 6 10 (Ords.of [] (.two 8 10 (Ords.of [(0, 9), (2, 10), (2, 11)] .fin) (Ords.of [(2, 8), (0, 9), (2, 11)] .fin))) (Ords.of [(2, 6), (2, 8), (0, 9), (2, 11)] .fin))) (Ords.of [(2, 4), (2, 6), (2, 8), (0, 9), (2, 11)] .fin))) (by kernel_rfl) rfl (by kernel_rfl) (by kernel_rfl) (fun c a d v w h => by cases d <;> exact h) HSH.out ?_
 refine ords_held (v := Value.agg [.int .i64 n, .int .i64 blk, .int .i64 most].toArray) rfl rfl (fun w9 hS => pure_load_mid 48 (.tmp 12) rfl g 0 rfl _ _ hS.whole hsu.out rfl (by kernel_rfl)) ?_; go_simp
 iterate 5 (refine ords_pure rfl (fun K hK => ?_); go_simp; refine hK _ ?_; clear hK K)
 refine ords_two rfl rfl (fun n1 => ?_) (fun n1 => ?_)
 focus
  replace HB := Lib.hid (bdr HB.out n1); replace HSH := Lib.hid (HSH.out.drewN n1); replace HRE := Lib.hid (HRE.out.drewN n1); (try replace OK := Lib.hid (OK.out.drewN n1)); (try replace OSA := Lib.hid (OSA.out.drewN n1)); (try replace OP := Lib.hid (OP.out.drewN n1)); (try replace HST := Lib.hid (HST.out.drewN n1)); generalize u.drewN n1 = u at *
  have HN0 := Lib.hid (OS.nil (cd := cB) u u.heap.size 0 rfl)
  have hz0 := Lib.hid HB.out.size
  (refine wpList_appB _ rfl (.const (.slice none 0 0)) (.tmp 26) rfl HN0.out rfl rfl ((RK.out.below HB.out).more HB.out.size) rfl HK.out (by omega) (Nat.le_refl _) ?_; intro Ak ck u ho hg hA; rw [List.nil_append] at ho)
  have hbu := bapp (b0 _) HN0.out hg
  replace HSH := Lib.hid (HSH.out.below hbu HSH.out.lt); replace HRE := Lib.hid (HRE.out.below hbu HRE.out.lt); (try replace OK := Lib.hid (OK.out.below hbu (Nat.le_refl _))); (try replace OSA := Lib.hid (OSA.out.below hbu (Nat.le_refl _))); (try replace OP := Lib.hid (OP.out.below hbu (Nat.le_refl _))); (try replace HST := Lib.hid (HST.out.below hbu HST.out.lt)); replace HB := Lib.hid (bcall HB.out hbu)
  have OK := Lib.hid (ho.mono hz0.out)
  clear ho hg hA hbu HN0 hz0
  refine ⟨HSH.out, ?_⟩
  go_simp
  refine ords_two rfl rfl (fun n2 => ?_) (fun n2 => ?_)
  focus
   replace HB := Lib.hid (bdr HB.out n2); replace HSH := Lib.hid (HSH.out.drewN n2); replace HRE := Lib.hid (HRE.out.drewN n2); (try replace OK := Lib.hid (OK.out.drewN n2)); (try replace OSA := Lib.hid (OSA.out.drewN n2)); (try replace OP := Lib.hid (OP.out.drewN n2)); (try replace HST := Lib.hid (HST.out.drewN n2)); generalize u.drewN n2 = u at *
   have HN0 := Lib.hid (OS.nil (cd := cB) u u.heap.size 0 rfl)
   have hz0 := Lib.hid HB.out.size
   (refine wpList_appB _ rfl (.const (.slice none 0 0)) (.tmp 28) rfl HN0.out rfl rfl ((RSS.out.below HB.out).more HB.out.size) rfl HS.out (by omega) (Nat.le_refl _) ?_; intro As cs u ho hg hA; rw [List.nil_append] at ho)
   have hbu := bapp (b0 _) HN0.out hg
   replace HSH := Lib.hid (HSH.out.below hbu HSH.out.lt); replace HRE := Lib.hid (HRE.out.below hbu HRE.out.lt); (try replace OK := Lib.hid (OK.out.below hbu (Nat.le_refl _))); (try replace OSA := Lib.hid (OSA.out.below hbu (Nat.le_refl _))); (try replace OP := Lib.hid (OP.out.below hbu (Nat.le_refl _))); (try replace HST := Lib.hid (HST.out.below hbu HST.out.lt)); replace HB := Lib.hid (bcall HB.out hbu)
   have OSA := Lib.hid (ho.mono hz0.out)
   clear ho hg hA hbu HN0 hz0
   refine ⟨HSH.out, ?_⟩
   go_simp
   refine ords_two rfl rfl (fun n3 => ?_) (fun n3 => ?_)
   focus
    replace HB := Lib.hid (bdr HB.out n3); replace HSH := Lib.hid (HSH.out.drewN n3); replace HRE := Lib.hid (HRE.out.drewN n3); (try replace OK := Lib.hid (OK.out.drewN n3)); (try replace OSA := Lib.hid (OSA.out.drewN n3)); (try replace OP := Lib.hid (OP.out.drewN n3)); (try replace HST := Lib.hid (HST.out.drewN n3)); generalize u.drewN n3 = u at *
    have HN0 := Lib.hid (OS.nil (cd := cB) u u.heap.size 0 rfl)
    have hz0 := Lib.hid HB.out.size
    (refine wpList_appB _ rfl (.const (.slice none 0 0)) (.tmp 30) rfl HN0.out rfl rfl ((RP.out.below HB.out).more HB.out.size) rfl HP.out (by omega) (Nat.le_refl _) ?_; intro Ap cp u ho hg hA; rw [List.nil_append] at ho)
    have hbu := bapp (b0 _) HN0.out hg
    replace HSH := Lib.hid (HSH.out.below hbu HSH.out.lt); replace HRE := Lib.hid (HRE.out.below hbu HRE.out.lt); (try replace OK := Lib.hid (OK.out.below hbu (Nat.le_refl _))); (try replace OSA := Lib.hid (OSA.out.below hbu (Nat.le_refl _))); (try replace OP := Lib.hid (OP.out.below hbu (Nat.le_refl _))); (try replace HST := Lib.hid (HST.out.below hbu HST.out.lt)); replace HB := Lib.hid (bcall HB.out hbu)
    have OP := Lib.hid (ho.mono hz0.out)
    clear ho hg hA hbu HN0 hz0
    refine ⟨HSH.out, ?_⟩
    go_simp
    refine ords_pure rfl (fun K hK => ?_); go_simp; refine hK _ ?_; clear hK K
    refine ords_loud rfl (fun n4 => ?_)
    replace HB := Lib.hid (bdr HB.out n4); replace HSH := Lib.hid (HSH.out.drewN n4); replace HRE := Lib.hid (HRE.out.drewN n4); (try replace OK := Lib.hid (OK.out.drewN n4)); (try replace OSA := Lib.hid (OSA.out.drewN n4)); (try replace OP := Lib.hid (OP.out.drewN n4)); (try replace HST := Lib.hid (HST.out.drewN n4)); generalize u.drewN n4 = u at *
    go_wp2_with fail
    have HST := Lib.hid (Blk.new u 50 zset)
    have HNE := Lib.hid (show w.heap.size < u.heap.size ∧ g < u.heap.size from ⟨HRE.out.lt, HSH.out.lt⟩)
    replace HB := Lib.hid (bal HB.out (.cells zset 50))
    replace HSH := Lib.hid (HSH.out.alloc (.cells zset 50)); replace HRE := Lib.hid (HRE.out.alloc (.cells zset 50)); (try replace OK := Lib.hid (OK.out.alloc (.cells zset 50))); (try replace OSA := Lib.hid (OSA.out.alloc (.cells zset 50))); (try replace OP := Lib.hid (OP.out.alloc (.cells zset 50)))
    have hz : zset = #[.int .i64 0, .int .i64 0, .int .i64 0, .int .i64 0, .int .i64 0, .slice none 0 0, .slice none 0 0, .slice none 0 0] := rfl
    rw [← hz]
    clear hz
    obtain ⟨gs, hgs⟩ : ∃ G, G = u.heap.size := ⟨_, rfl⟩
    rw [← hgs] at HST HNE ⊢
    clear hgs
    generalize u.alloc (.cells zset 50) = u at *
    refine ⟨HSH.out, ?_⟩
    go_simp
    refine ords_loud rfl (fun n5 => ?_)
    replace HB := Lib.hid (bdr HB.out n5); replace HSH := Lib.hid (HSH.out.drewN n5); replace HRE := Lib.hid (HRE.out.drewN n5); (try replace OK := Lib.hid (OK.out.drewN n5)); (try replace OSA := Lib.hid (OSA.out.drewN n5)); (try replace OP := Lib.hid (OP.out.drewN n5)); (try replace HST := Lib.hid (HST.out.drewN n5)); generalize u.drewN n5 = u at *
    go_wp2_with (refine wpList_store_row rfl 50 _ _ rfl gs (setC n blk most k digest ⟨Ak, sk.n, ck⟩ ⟨As, ss.n, cs⟩ ⟨Ap, sp.n, cp⟩) rfl rfl 50 zset HST.out (setC_size _ _ _ _ _ _ _ _) rfl (setC_ones _ _ _ _ _ _ _ _) ?_)
    replace OK := Lib.hid (OK.out.of_block (fun a ha => setRow_other _ _ _ _ (OK.out.ne_blk HST.out (by show 5 ≠ 50; decide) a ha)) : OS cB (u.setRow gs (setC n blk most k digest ⟨Ak, sk.n, ck⟩ ⟨As, ss.n, cs⟩ ⟨Ap, sp.n, cp⟩)) w.heap.size _ _ _)
    replace OSA := Lib.hid (OSA.out.of_block (fun a ha => setRow_other _ _ _ _ (OSA.out.ne_blk HST.out (by show 5 ≠ 50; decide) a ha)) : OS cB (u.setRow gs (setC n blk most k digest ⟨Ak, sk.n, ck⟩ ⟨As, ss.n, cs⟩ ⟨Ap, sp.n, cp⟩)) w.heap.size _ _ _)
    replace OP := Lib.hid (OP.out.of_block (fun a ha => setRow_other _ _ _ _ (OP.out.ne_blk HST.out (by show 5 ≠ 50; decide) a ha)) : OS cB (u.setRow gs (setC n blk most k digest ⟨Ak, sk.n, ck⟩ ⟨As, ss.n, cs⟩ ⟨Ap, sp.n, cp⟩)) w.heap.size _ _ _)
    replace HSH := Lib.hid (HSH.out.rowFar (Nat.ne_of_lt HNE.out.2) (setC n blk most k digest ⟨Ak, sk.n, ck⟩ ⟨As, ss.n, cs⟩ ⟨Ap, sp.n, cp⟩))
    replace HRE := Lib.hid (HRE.out.rowFar (Nat.ne_of_lt HNE.out.1) (setC n blk most k digest ⟨Ak, sk.n, ck⟩ ⟨As, ss.n, cs⟩ ⟨Ap, sp.n, cp⟩))
    replace HST := Lib.hid (HST.out.row (setC n blk most k digest ⟨Ak, sk.n, ck⟩ ⟨As, ss.n, cs⟩ ⟨Ap, sp.n, cp⟩))
    replace HB := Lib.hid (brow HB.out (Nat.le_of_lt HNE.out.1) (setC n blk most k digest ⟨Ak, sk.n, ck⟩ ⟨As, ss.n, cs⟩ ⟨Ap, sp.n, cp⟩))
    generalize u.setRow gs (setC n blk most k digest ⟨Ak, sk.n, ck⟩ ⟨As, ss.n, cs⟩ ⟨Ap, sp.n, cp⟩) = u at *
    refine ⟨HSH.out, ?_⟩
    go_simp
    refine ords_end (fun n6 => ?_)
    replace HB := Lib.hid (bdr HB.out n6); replace HSH := Lib.hid (HSH.out.drewN n6); replace HRE := Lib.hid (HRE.out.drewN n6); (try replace OK := Lib.hid (OK.out.drewN n6)); (try replace OSA := Lib.hid (OSA.out.drewN n6)); (try replace OP := Lib.hid (OP.out.drewN n6)); (try replace HST := Lib.hid (HST.out.drewN n6)); generalize u.drewN n6 = u at *
   rotate_left 1
   focus
    replace HB := Lib.hid (bdr HB.out n3); replace HSH := Lib.hid (HSH.out.drewN n3); replace HRE := Lib.hid (HRE.out.drewN n3); (try replace OK := Lib.hid (OK.out.drewN n3)); (try replace OSA := Lib.hid (OSA.out.drewN n3)); (try replace OP := Lib.hid (OP.out.drewN n3)); (try replace HST := Lib.hid (HST.out.drewN n3)); generalize u.drewN n3 = u at *
    go_wp2_with fail
    have HST := Lib.hid (Blk.new u 50 zset)
    have HNE := Lib.hid (show w.heap.size < u.heap.size ∧ g < u.heap.size from ⟨HRE.out.lt, HSH.out.lt⟩)
    replace HB := Lib.hid (bal HB.out (.cells zset 50))
    replace HSH := Lib.hid (HSH.out.alloc (.cells zset 50)); replace HRE := Lib.hid (HRE.out.alloc (.cells zset 50)); (try replace OK := Lib.hid (OK.out.alloc (.cells zset 50))); (try replace OSA := Lib.hid (OSA.out.alloc (.cells zset 50))); (try replace OP := Lib.hid (OP.out.alloc (.cells zset 50)))
    have hz : zset = #[.int .i64 0, .int .i64 0, .int .i64 0, .int .i64 0, .int .i64 0, .slice none 0 0, .slice none 0 0, .slice none 0 0] := rfl
    rw [← hz]
    clear hz
    obtain ⟨gs, hgs⟩ : ∃ G, G = u.heap.size := ⟨_, rfl⟩
    rw [← hgs] at HST HNE ⊢
    clear hgs
    generalize u.alloc (.cells zset 50) = u at *
    refine ⟨HSH.out, ?_⟩
    go_simp
    refine ords_loud rfl (fun n4 => ?_)
    replace HB := Lib.hid (bdr HB.out n4); replace HSH := Lib.hid (HSH.out.drewN n4); replace HRE := Lib.hid (HRE.out.drewN n4); (try replace OK := Lib.hid (OK.out.drewN n4)); (try replace OSA := Lib.hid (OSA.out.drewN n4)); (try replace OP := Lib.hid (OP.out.drewN n4)); (try replace HST := Lib.hid (HST.out.drewN n4)); generalize u.drewN n4 = u at *
    have HN0 := Lib.hid (OS.nil (cd := cB) u u.heap.size 0 rfl)
    have hz0 := Lib.hid HB.out.size
    (refine wpList_appB _ rfl (.const (.slice none 0 0)) (.tmp 30) rfl HN0.out rfl rfl ((RP.out.below HB.out).more HB.out.size) rfl HP.out (by omega) (Nat.le_refl _) ?_; intro Ap cp u ho hg hA; rw [List.nil_append] at ho)
    have hbu := bapp (b0 _) HN0.out hg
    replace HSH := Lib.hid (HSH.out.below hbu HSH.out.lt); replace HRE := Lib.hid (HRE.out.below hbu HRE.out.lt); (try replace OK := Lib.hid (OK.out.below hbu (Nat.le_refl _))); (try replace OSA := Lib.hid (OSA.out.below hbu (Nat.le_refl _))); (try replace OP := Lib.hid (OP.out.below hbu (Nat.le_refl _))); (try replace HST := Lib.hid (HST.out.below hbu HST.out.lt)); replace HB := Lib.hid (bcall HB.out hbu)
    have OP := Lib.hid (ho.mono hz0.out)
    clear ho hg hA hbu HN0 hz0
    refine ⟨HSH.out, ?_⟩
    go_simp
    refine ords_pure rfl (fun K hK => ?_); go_simp; refine hK _ ?_; clear hK K
    refine ords_loud rfl (fun n5 => ?_)
    replace HB := Lib.hid (bdr HB.out n5); replace HSH := Lib.hid (HSH.out.drewN n5); replace HRE := Lib.hid (HRE.out.drewN n5); (try replace OK := Lib.hid (OK.out.drewN n5)); (try replace OSA := Lib.hid (OSA.out.drewN n5)); (try replace OP := Lib.hid (OP.out.drewN n5)); (try replace HST := Lib.hid (HST.out.drewN n5)); generalize u.drewN n5 = u at *
    go_wp2_with (refine wpList_store_row rfl 50 _ _ rfl gs (setC n blk most k digest ⟨Ak, sk.n, ck⟩ ⟨As, ss.n, cs⟩ ⟨Ap, sp.n, cp⟩) rfl rfl 50 zset HST.out (setC_size _ _ _ _ _ _ _ _) rfl (setC_ones _ _ _ _ _ _ _ _) ?_)
    replace OK := Lib.hid (OK.out.of_block (fun a ha => setRow_other _ _ _ _ (OK.out.ne_blk HST.out (by show 5 ≠ 50; decide) a ha)) : OS cB (u.setRow gs (setC n blk most k digest ⟨Ak, sk.n, ck⟩ ⟨As, ss.n, cs⟩ ⟨Ap, sp.n, cp⟩)) w.heap.size _ _ _)
    replace OSA := Lib.hid (OSA.out.of_block (fun a ha => setRow_other _ _ _ _ (OSA.out.ne_blk HST.out (by show 5 ≠ 50; decide) a ha)) : OS cB (u.setRow gs (setC n blk most k digest ⟨Ak, sk.n, ck⟩ ⟨As, ss.n, cs⟩ ⟨Ap, sp.n, cp⟩)) w.heap.size _ _ _)
    replace OP := Lib.hid (OP.out.of_block (fun a ha => setRow_other _ _ _ _ (OP.out.ne_blk HST.out (by show 5 ≠ 50; decide) a ha)) : OS cB (u.setRow gs (setC n blk most k digest ⟨Ak, sk.n, ck⟩ ⟨As, ss.n, cs⟩ ⟨Ap, sp.n, cp⟩)) w.heap.size _ _ _)
    replace HSH := Lib.hid (HSH.out.rowFar (Nat.ne_of_lt HNE.out.2) (setC n blk most k digest ⟨Ak, sk.n, ck⟩ ⟨As, ss.n, cs⟩ ⟨Ap, sp.n, cp⟩))
    replace HRE := Lib.hid (HRE.out.rowFar (Nat.ne_of_lt HNE.out.1) (setC n blk most k digest ⟨Ak, sk.n, ck⟩ ⟨As, ss.n, cs⟩ ⟨Ap, sp.n, cp⟩))
    replace HST := Lib.hid (HST.out.row (setC n blk most k digest ⟨Ak, sk.n, ck⟩ ⟨As, ss.n, cs⟩ ⟨Ap, sp.n, cp⟩))
    replace HB := Lib.hid (brow HB.out (Nat.le_of_lt HNE.out.1) (setC n blk most k digest ⟨Ak, sk.n, ck⟩ ⟨As, ss.n, cs⟩ ⟨Ap, sp.n, cp⟩))
    generalize u.setRow gs (setC n blk most k digest ⟨Ak, sk.n, ck⟩ ⟨As, ss.n, cs⟩ ⟨Ap, sp.n, cp⟩) = u at *
    refine ⟨HSH.out, ?_⟩
    go_simp
    refine ords_end (fun n6 => ?_)
    replace HB := Lib.hid (bdr HB.out n6); replace HSH := Lib.hid (HSH.out.drewN n6); replace HRE := Lib.hid (HRE.out.drewN n6); (try replace OK := Lib.hid (OK.out.drewN n6)); (try replace OSA := Lib.hid (OSA.out.drewN n6)); (try replace OP := Lib.hid (OP.out.drewN n6)); (try replace HST := Lib.hid (HST.out.drewN n6)); generalize u.drewN n6 = u at *
  rotate_left 2
  focus
   replace HB := Lib.hid (bdr HB.out n2); replace HSH := Lib.hid (HSH.out.drewN n2); replace HRE := Lib.hid (HRE.out.drewN n2); (try replace OK := Lib.hid (OK.out.drewN n2)); (try replace OSA := Lib.hid (OSA.out.drewN n2)); (try replace OP := Lib.hid (OP.out.drewN n2)); (try replace HST := Lib.hid (HST.out.drewN n2)); generalize u.drewN n2 = u at *
   go_wp2_with fail
   have HST := Lib.hid (Blk.new u 50 zset)
   have HNE := Lib.hid (show w.heap.size < u.heap.size ∧ g < u.heap.size from ⟨HRE.out.lt, HSH.out.lt⟩)
   replace HB := Lib.hid (bal HB.out (.cells zset 50))
   replace HSH := Lib.hid (HSH.out.alloc (.cells zset 50)); replace HRE := Lib.hid (HRE.out.alloc (.cells zset 50)); (try replace OK := Lib.hid (OK.out.alloc (.cells zset 50))); (try replace OSA := Lib.hid (OSA.out.alloc (.cells zset 50))); (try replace OP := Lib.hid (OP.out.alloc (.cells zset 50)))
   have hz : zset = #[.int .i64 0, .int .i64 0, .int .i64 0, .int .i64 0, .int .i64 0, .slice none 0 0, .slice none 0 0, .slice none 0 0] := rfl
   rw [← hz]
   clear hz
   obtain ⟨gs, hgs⟩ : ∃ G, G = u.heap.size := ⟨_, rfl⟩
   rw [← hgs] at HST HNE ⊢
   clear hgs
   generalize u.alloc (.cells zset 50) = u at *
   refine ⟨HSH.out, ?_⟩
   go_simp
   refine ords_loud rfl (fun n3 => ?_)
   replace HB := Lib.hid (bdr HB.out n3); replace HSH := Lib.hid (HSH.out.drewN n3); replace HRE := Lib.hid (HRE.out.drewN n3); (try replace OK := Lib.hid (OK.out.drewN n3)); (try replace OSA := Lib.hid (OSA.out.drewN n3)); (try replace OP := Lib.hid (OP.out.drewN n3)); (try replace HST := Lib.hid (HST.out.drewN n3)); generalize u.drewN n3 = u at *
   have HN0 := Lib.hid (OS.nil (cd := cB) u u.heap.size 0 rfl)
   have hz0 := Lib.hid HB.out.size
   (refine wpList_appB _ rfl (.const (.slice none 0 0)) (.tmp 28) rfl HN0.out rfl rfl ((RSS.out.below HB.out).more HB.out.size) rfl HS.out (by omega) (Nat.le_refl _) ?_; intro As cs u ho hg hA; rw [List.nil_append] at ho)
   have hbu := bapp (b0 _) HN0.out hg
   replace HSH := Lib.hid (HSH.out.below hbu HSH.out.lt); replace HRE := Lib.hid (HRE.out.below hbu HRE.out.lt); (try replace OK := Lib.hid (OK.out.below hbu (Nat.le_refl _))); (try replace OSA := Lib.hid (OSA.out.below hbu (Nat.le_refl _))); (try replace OP := Lib.hid (OP.out.below hbu (Nat.le_refl _))); (try replace HST := Lib.hid (HST.out.below hbu HST.out.lt)); replace HB := Lib.hid (bcall HB.out hbu)
   have OSA := Lib.hid (ho.mono hz0.out)
   clear ho hg hA hbu HN0 hz0
   refine ⟨HSH.out, ?_⟩
   go_simp
   refine ords_loud rfl (fun n4 => ?_)
   replace HB := Lib.hid (bdr HB.out n4); replace HSH := Lib.hid (HSH.out.drewN n4); replace HRE := Lib.hid (HRE.out.drewN n4); (try replace OK := Lib.hid (OK.out.drewN n4)); (try replace OSA := Lib.hid (OSA.out.drewN n4)); (try replace OP := Lib.hid (OP.out.drewN n4)); (try replace HST := Lib.hid (HST.out.drewN n4)); generalize u.drewN n4 = u at *
   have HN0 := Lib.hid (OS.nil (cd := cB) u u.heap.size 0 rfl)
   have hz0 := Lib.hid HB.out.size
   (refine wpList_appB _ rfl (.const (.slice none 0 0)) (.tmp 30) rfl HN0.out rfl rfl ((RP.out.below HB.out).more HB.out.size) rfl HP.out (by omega) (Nat.le_refl _) ?_; intro Ap cp u ho hg hA; rw [List.nil_append] at ho)
   have hbu := bapp (b0 _) HN0.out hg
   replace HSH := Lib.hid (HSH.out.below hbu HSH.out.lt); replace HRE := Lib.hid (HRE.out.below hbu HRE.out.lt); (try replace OK := Lib.hid (OK.out.below hbu (Nat.le_refl _))); (try replace OSA := Lib.hid (OSA.out.below hbu (Nat.le_refl _))); (try replace OP := Lib.hid (OP.out.below hbu (Nat.le_refl _))); (try replace HST := Lib.hid (HST.out.below hbu HST.out.lt)); replace HB := Lib.hid (bcall HB.out hbu)
   have OP := Lib.hid (ho.mono hz0.out)
   clear ho hg hA hbu HN0 hz0
   refine ⟨HSH.out, ?_⟩
   go_simp
   refine ords_pure rfl (fun K hK => ?_); go_simp; refine hK _ ?_; clear hK K
   refine ords_loud rfl (fun n5 => ?_)
   replace HB := Lib.hid (bdr HB.out n5); replace HSH := Lib.hid (HSH.out.drewN n5); replace HRE := Lib.hid (HRE.out.drewN n5); (try replace OK := Lib.hid (OK.out.drewN n5)); (try replace OSA := Lib.hid (OSA.out.drewN n5)); (try replace OP := Lib.hid (OP.out.drewN n5)); (try replace HST := Lib.hid (HST.out.drewN n5)); generalize u.drewN n5 = u at *
   go_wp2_with (refine wpList_store_row rfl 50 _ _ rfl gs (setC n blk most k digest ⟨Ak, sk.n, ck⟩ ⟨As, ss.n, cs⟩ ⟨Ap, sp.n, cp⟩) rfl rfl 50 zset HST.out (setC_size _ _ _ _ _ _ _ _) rfl (setC_ones _ _ _ _ _ _ _ _) ?_)
   replace OK := Lib.hid (OK.out.of_block (fun a ha => setRow_other _ _ _ _ (OK.out.ne_blk HST.out (by show 5 ≠ 50; decide) a ha)) : OS cB (u.setRow gs (setC n blk most k digest ⟨Ak, sk.n, ck⟩ ⟨As, ss.n, cs⟩ ⟨Ap, sp.n, cp⟩)) w.heap.size _ _ _)
   replace OSA := Lib.hid (OSA.out.of_block (fun a ha => setRow_other _ _ _ _ (OSA.out.ne_blk HST.out (by show 5 ≠ 50; decide) a ha)) : OS cB (u.setRow gs (setC n blk most k digest ⟨Ak, sk.n, ck⟩ ⟨As, ss.n, cs⟩ ⟨Ap, sp.n, cp⟩)) w.heap.size _ _ _)
   replace OP := Lib.hid (OP.out.of_block (fun a ha => setRow_other _ _ _ _ (OP.out.ne_blk HST.out (by show 5 ≠ 50; decide) a ha)) : OS cB (u.setRow gs (setC n blk most k digest ⟨Ak, sk.n, ck⟩ ⟨As, ss.n, cs⟩ ⟨Ap, sp.n, cp⟩)) w.heap.size _ _ _)
   replace HSH := Lib.hid (HSH.out.rowFar (Nat.ne_of_lt HNE.out.2) (setC n blk most k digest ⟨Ak, sk.n, ck⟩ ⟨As, ss.n, cs⟩ ⟨Ap, sp.n, cp⟩))
   replace HRE := Lib.hid (HRE.out.rowFar (Nat.ne_of_lt HNE.out.1) (setC n blk most k digest ⟨Ak, sk.n, ck⟩ ⟨As, ss.n, cs⟩ ⟨Ap, sp.n, cp⟩))
   replace HST := Lib.hid (HST.out.row (setC n blk most k digest ⟨Ak, sk.n, ck⟩ ⟨As, ss.n, cs⟩ ⟨Ap, sp.n, cp⟩))
   replace HB := Lib.hid (brow HB.out (Nat.le_of_lt HNE.out.1) (setC n blk most k digest ⟨Ak, sk.n, ck⟩ ⟨As, ss.n, cs⟩ ⟨Ap, sp.n, cp⟩))
   generalize u.setRow gs (setC n blk most k digest ⟨Ak, sk.n, ck⟩ ⟨As, ss.n, cs⟩ ⟨Ap, sp.n, cp⟩) = u at *
   refine ⟨HSH.out, ?_⟩
   go_simp
   refine ords_end (fun n6 => ?_)
   replace HB := Lib.hid (bdr HB.out n6); replace HSH := Lib.hid (HSH.out.drewN n6); replace HRE := Lib.hid (HRE.out.drewN n6); (try replace OK := Lib.hid (OK.out.drewN n6)); (try replace OSA := Lib.hid (OSA.out.drewN n6)); (try replace OP := Lib.hid (OP.out.drewN n6)); (try replace HST := Lib.hid (HST.out.drewN n6)); generalize u.drewN n6 = u at *
 rotate_left 3
 focus
  replace HB := Lib.hid (bdr HB.out n1); replace HSH := Lib.hid (HSH.out.drewN n1); replace HRE := Lib.hid (HRE.out.drewN n1); (try replace OK := Lib.hid (OK.out.drewN n1)); (try replace OSA := Lib.hid (OSA.out.drewN n1)); (try replace OP := Lib.hid (OP.out.drewN n1)); (try replace HST := Lib.hid (HST.out.drewN n1)); generalize u.drewN n1 = u at *
  go_wp2_with fail
  have HST := Lib.hid (Blk.new u 50 zset)
  have HNE := Lib.hid (show w.heap.size < u.heap.size ∧ g < u.heap.size from ⟨HRE.out.lt, HSH.out.lt⟩)
  replace HB := Lib.hid (bal HB.out (.cells zset 50))
  replace HSH := Lib.hid (HSH.out.alloc (.cells zset 50)); replace HRE := Lib.hid (HRE.out.alloc (.cells zset 50)); (try replace OK := Lib.hid (OK.out.alloc (.cells zset 50))); (try replace OSA := Lib.hid (OSA.out.alloc (.cells zset 50))); (try replace OP := Lib.hid (OP.out.alloc (.cells zset 50)))
  have hz : zset = #[.int .i64 0, .int .i64 0, .int .i64 0, .int .i64 0, .int .i64 0, .slice none 0 0, .slice none 0 0, .slice none 0 0] := rfl
  rw [← hz]
  clear hz
  obtain ⟨gs, hgs⟩ : ∃ G, G = u.heap.size := ⟨_, rfl⟩
  rw [← hgs] at HST HNE ⊢
  clear hgs
  generalize u.alloc (.cells zset 50) = u at *
  refine ⟨HSH.out, ?_⟩
  go_simp
  refine ords_loud rfl (fun n2 => ?_)
  replace HB := Lib.hid (bdr HB.out n2); replace HSH := Lib.hid (HSH.out.drewN n2); replace HRE := Lib.hid (HRE.out.drewN n2); (try replace OK := Lib.hid (OK.out.drewN n2)); (try replace OSA := Lib.hid (OSA.out.drewN n2)); (try replace OP := Lib.hid (OP.out.drewN n2)); (try replace HST := Lib.hid (HST.out.drewN n2)); generalize u.drewN n2 = u at *
  have HN0 := Lib.hid (OS.nil (cd := cB) u u.heap.size 0 rfl)
  have hz0 := Lib.hid HB.out.size
  (refine wpList_appB _ rfl (.const (.slice none 0 0)) (.tmp 26) rfl HN0.out rfl rfl ((RK.out.below HB.out).more HB.out.size) rfl HK.out (by omega) (Nat.le_refl _) ?_; intro Ak ck u ho hg hA; rw [List.nil_append] at ho)
  have hbu := bapp (b0 _) HN0.out hg
  replace HSH := Lib.hid (HSH.out.below hbu HSH.out.lt); replace HRE := Lib.hid (HRE.out.below hbu HRE.out.lt); (try replace OK := Lib.hid (OK.out.below hbu (Nat.le_refl _))); (try replace OSA := Lib.hid (OSA.out.below hbu (Nat.le_refl _))); (try replace OP := Lib.hid (OP.out.below hbu (Nat.le_refl _))); (try replace HST := Lib.hid (HST.out.below hbu HST.out.lt)); replace HB := Lib.hid (bcall HB.out hbu)
  have OK := Lib.hid (ho.mono hz0.out)
  clear ho hg hA hbu HN0 hz0
  refine ⟨HSH.out, ?_⟩
  go_simp
  refine ords_loud rfl (fun n3 => ?_)
  replace HB := Lib.hid (bdr HB.out n3); replace HSH := Lib.hid (HSH.out.drewN n3); replace HRE := Lib.hid (HRE.out.drewN n3); (try replace OK := Lib.hid (OK.out.drewN n3)); (try replace OSA := Lib.hid (OSA.out.drewN n3)); (try replace OP := Lib.hid (OP.out.drewN n3)); (try replace HST := Lib.hid (HST.out.drewN n3)); generalize u.drewN n3 = u at *
  have HN0 := Lib.hid (OS.nil (cd := cB) u u.heap.size 0 rfl)
  have hz0 := Lib.hid HB.out.size
  (refine wpList_appB _ rfl (.const (.slice none 0 0)) (.tmp 28) rfl HN0.out rfl rfl ((RSS.out.below HB.out).more HB.out.size) rfl HS.out (by omega) (Nat.le_refl _) ?_; intro As cs u ho hg hA; rw [List.nil_append] at ho)
  have hbu := bapp (b0 _) HN0.out hg
  replace HSH := Lib.hid (HSH.out.below hbu HSH.out.lt); replace HRE := Lib.hid (HRE.out.below hbu HRE.out.lt); (try replace OK := Lib.hid (OK.out.below hbu (Nat.le_refl _))); (try replace OSA := Lib.hid (OSA.out.below hbu (Nat.le_refl _))); (try replace OP := Lib.hid (OP.out.below hbu (Nat.le_refl _))); (try replace HST := Lib.hid (HST.out.below hbu HST.out.lt)); replace HB := Lib.hid (bcall HB.out hbu)
  have OSA := Lib.hid (ho.mono hz0.out)
  clear ho hg hA hbu HN0 hz0
  refine ⟨HSH.out, ?_⟩
  go_simp
  refine ords_loud rfl (fun n4 => ?_)
  replace HB := Lib.hid (bdr HB.out n4); replace HSH := Lib.hid (HSH.out.drewN n4); replace HRE := Lib.hid (HRE.out.drewN n4); (try replace OK := Lib.hid (OK.out.drewN n4)); (try replace OSA := Lib.hid (OSA.out.drewN n4)); (try replace OP := Lib.hid (OP.out.drewN n4)); (try replace HST := Lib.hid (HST.out.drewN n4)); generalize u.drewN n4 = u at *
  have HN0 := Lib.hid (OS.nil (cd := cB) u u.heap.size 0 rfl)
  have hz0 := Lib.hid HB.out.size
  (refine wpList_appB _ rfl (.const (.slice none 0 0)) (.tmp 30) rfl HN0.out rfl rfl ((RP.out.below HB.out).more HB.out.size) rfl HP.out (by omega) (Nat.le_refl _) ?_; intro Ap cp u ho hg hA; rw [List.nil_append] at ho)
  have hbu := bapp (b0 _) HN0.out hg
  replace HSH := Lib.hid (HSH.out.below hbu HSH.out.lt); replace HRE := Lib.hid (HRE.out.below hbu HRE.out.lt); (try replace OK := Lib.hid (OK.out.below hbu (Nat.le_refl _))); (try replace OSA := Lib.hid (OSA.out.below hbu (Nat.le_refl _))); (try replace OP := Lib.hid (OP.out.below hbu (Nat.le_refl _))); (try replace HST := Lib.hid (HST.out.below hbu HST.out.lt)); replace HB := Lib.hid (bcall HB.out hbu)
  have OP := Lib.hid (ho.mono hz0.out)
  clear ho hg hA hbu HN0 hz0
  refine ⟨HSH.out, ?_⟩
  go_simp
  refine ords_pure rfl (fun K hK => ?_); go_simp; refine hK _ ?_; clear hK K
  refine ords_loud rfl (fun n5 => ?_)
  replace HB := Lib.hid (bdr HB.out n5); replace HSH := Lib.hid (HSH.out.drewN n5); replace HRE := Lib.hid (HRE.out.drewN n5); (try replace OK := Lib.hid (OK.out.drewN n5)); (try replace OSA := Lib.hid (OSA.out.drewN n5)); (try replace OP := Lib.hid (OP.out.drewN n5)); (try replace HST := Lib.hid (HST.out.drewN n5)); generalize u.drewN n5 = u at *
  go_wp2_with (refine wpList_store_row rfl 50 _ _ rfl gs (setC n blk most k digest ⟨Ak, sk.n, ck⟩ ⟨As, ss.n, cs⟩ ⟨Ap, sp.n, cp⟩) rfl rfl 50 zset HST.out (setC_size _ _ _ _ _ _ _ _) rfl (setC_ones _ _ _ _ _ _ _ _) ?_)
  replace OK := Lib.hid (OK.out.of_block (fun a ha => setRow_other _ _ _ _ (OK.out.ne_blk HST.out (by show 5 ≠ 50; decide) a ha)) : OS cB (u.setRow gs (setC n blk most k digest ⟨Ak, sk.n, ck⟩ ⟨As, ss.n, cs⟩ ⟨Ap, sp.n, cp⟩)) w.heap.size _ _ _)
  replace OSA := Lib.hid (OSA.out.of_block (fun a ha => setRow_other _ _ _ _ (OSA.out.ne_blk HST.out (by show 5 ≠ 50; decide) a ha)) : OS cB (u.setRow gs (setC n blk most k digest ⟨Ak, sk.n, ck⟩ ⟨As, ss.n, cs⟩ ⟨Ap, sp.n, cp⟩)) w.heap.size _ _ _)
  replace OP := Lib.hid (OP.out.of_block (fun a ha => setRow_other _ _ _ _ (OP.out.ne_blk HST.out (by show 5 ≠ 50; decide) a ha)) : OS cB (u.setRow gs (setC n blk most k digest ⟨Ak, sk.n, ck⟩ ⟨As, ss.n, cs⟩ ⟨Ap, sp.n, cp⟩)) w.heap.size _ _ _)
  replace HSH := Lib.hid (HSH.out.rowFar (Nat.ne_of_lt HNE.out.2) (setC n blk most k digest ⟨Ak, sk.n, ck⟩ ⟨As, ss.n, cs⟩ ⟨Ap, sp.n, cp⟩))
  replace HRE := Lib.hid (HRE.out.rowFar (Nat.ne_of_lt HNE.out.1) (setC n blk most k digest ⟨Ak, sk.n, ck⟩ ⟨As, ss.n, cs⟩ ⟨Ap, sp.n, cp⟩))
  replace HST := Lib.hid (HST.out.row (setC n blk most k digest ⟨Ak, sk.n, ck⟩ ⟨As, ss.n, cs⟩ ⟨Ap, sp.n, cp⟩))
  replace HB := Lib.hid (brow HB.out (Nat.le_of_lt HNE.out.1) (setC n blk most k digest ⟨Ak, sk.n, ck⟩ ⟨As, ss.n, cs⟩ ⟨Ap, sp.n, cp⟩))
  generalize u.setRow gs (setC n blk most k digest ⟨Ak, sk.n, ck⟩ ⟨As, ss.n, cs⟩ ⟨Ap, sp.n, cp⟩) = u at *
  refine ⟨HSH.out, ?_⟩
  go_simp
  refine ords_end (fun n6 => ?_)
  replace HB := Lib.hid (bdr HB.out n6); replace HSH := Lib.hid (HSH.out.drewN n6); replace HRE := Lib.hid (HRE.out.drewN n6); (try replace OK := Lib.hid (OK.out.drewN n6)); (try replace OSA := Lib.hid (OSA.out.drewN n6)); (try replace OP := Lib.hid (OP.out.drewN n6)); (try replace HST := Lib.hid (HST.out.drewN n6)); generalize u.drewN n6 = u at *
 all_goals
  go_upto_region 5 with fail
  replace HPA := Lib.hid (HPA.out ⟨Ak, sk.n, ck⟩ ⟨As, ss.n, cs⟩ ⟨Ap, sp.n, cp⟩)
  replace HCK := Lib.hid (HCK.out ⟨As, ss.n, cs⟩ ⟨Ap, sp.n, cp⟩)
  have e0 : ∀ W, Calls Tryz.prog 31 #[.agg (setC n blk most k digest ⟨Ak, sk.n, ck⟩ ⟨As, ss.n, cs⟩ ⟨Ap, sp.n, cp⟩), .int .i64 n] W _ := HPA.out
  clear HPA
  have HPA := Lib.hid e0
  clear e0
  generalize hE : chk k (lanePar n most digest sk.n n ⟨As, ss.n, cs⟩ ⟨Ap, sp.n, cp⟩) = E at *
  generalize hPV : (lanePar n most digest sk.n n ⟨As, ss.n, cs⟩ ⟨Ap, sp.n, cp⟩).v = PV at *
  have HE := Lib.hid hE
  clear hE hPV
  have z0 : u.cell? ⟨g, 0, none⟩ = some (.int .i64 n) := HSH.out.cell 0
  refine wp_region_ords (fun w' => Blk w' gs 50 (setC n blk most k digest ⟨Ak, sk.n, ck⟩ ⟨As, ss.n, cs⟩ ⟨Ap, sp.n, cp⟩) ∧ Blk w' g 48 #[.int .i64 n, .int .i64 blk, .int .i64 most]) (fun _ n h => ⟨h.1.drewN n, h.2.drewN n⟩) (Ords.of [(0, 0), (0, 1), (0, 2), (0, 3), (0, 4), (2, 5), (2, 6), (2, 7), (0, 8)] .fin) (by kernel_rfl) rfl (by kernel_rfl) (by kernel_rfl) (fun c a d v w h => by cases d <;> exact h) ⟨HST.out, HSH.out⟩ ?_
  refine ords_held (v := Value.agg ((setC n blk most k digest ⟨Ak, sk.n, ck⟩ ⟨As, ss.n, cs⟩ ⟨Ap, sp.n, cp⟩).toList).toArray) rfl rfl (fun w9 hS => pure_load_mid 50 (.tmp 14) rfl gs 0 rfl _ _ hS.1.whole hsu2.out rfl (setC_size _ _ _ _ _ _ _ _)) ?_; go_simp
  refine ords_pure rfl (fun K hK => ?_); go_simp; refine hK _ ?_; clear hK K
  refine ords_held (v := Value.agg ((setC n blk most k digest ⟨Ak, sk.n, ck⟩ ⟨As, ss.n, cs⟩ ⟨Ap, sp.n, cp⟩).toList).toArray) rfl rfl (fun w9 hS => pure_load_mid 50 (.tmp 14) rfl gs 0 rfl _ _ hS.1.whole hsu2.out rfl (setC_size _ _ _ _ _ _ _ _)) ?_; go_simp
  refine ords_pure rfl (fun K hK => ?_); go_simp; refine hK _ ?_; clear hK K
  refine ords_heldK rfl (fun K K2 hK hK2 => ?_); go_simp; refine ⟨hK2 _ (fun w9 hS => ?_), hK _ ?_⟩; (clear hK hK2 K K2; have q0 : w9.cell? ⟨g, 0, none⟩ = some (.int .i64 n) := hS.2.cell 0; clear hS; go_simp); (clear hK hK2 K K2)
  refine ords_loud rfl (fun n1 => ?_)
  clear z0
  replace HB := Lib.hid (bdr HB.out n1); replace HSH := Lib.hid (HSH.out.drewN n1); replace HRE := Lib.hid (HRE.out.drewN n1); (try replace OK := Lib.hid (OK.out.drewN n1)); (try replace OSA := Lib.hid (OSA.out.drewN n1)); (try replace OP := Lib.hid (OP.out.drewN n1)); (try replace HST := Lib.hid (HST.out.drewN n1)); generalize u.drewN n1 = u at *
  go_wp2_with (go_at_call 31; refine (HPA.out _).mono ?_; rintro e3 u ⟨rfl, hb3⟩; replace HSH := Lib.hid (HSH.out.below hb3 HSH.out.lt); replace HRE := Lib.hid (HRE.out.below hb3 HRE.out.lt); (try replace OK := Lib.hid (OK.out.below hb3 (Nat.le_refl _))); (try replace OSA := Lib.hid (OSA.out.below hb3 (Nat.le_refl _))); (try replace OP := Lib.hid (OP.out.below hb3 (Nat.le_refl _))); (try replace HST := Lib.hid (HST.out.below hb3 HST.out.lt)); replace HB := Lib.hid (bcall HB.out hb3); clear hb3)
  refine ⟨⟨HST.out, HSH.out⟩, ?_⟩
  go_simp
  refine ords_loud rfl (fun n2 => ?_)
  replace HB := Lib.hid (bdr HB.out n2); replace HSH := Lib.hid (HSH.out.drewN n2); replace HRE := Lib.hid (HRE.out.drewN n2); (try replace OK := Lib.hid (OK.out.drewN n2)); (try replace OSA := Lib.hid (OSA.out.drewN n2)); (try replace OP := Lib.hid (OP.out.drewN n2)); (try replace HST := Lib.hid (HST.out.drewN n2)); generalize u.drewN n2 = u at *
  go_wp2_with (go_at_call 30; refine (HCK.out _).mono ?_; rintro e4 u ⟨rfl, hb4⟩; replace HSH := Lib.hid (HSH.out.below hb4 HSH.out.lt); replace HRE := Lib.hid (HRE.out.below hb4 HRE.out.lt); (try replace OK := Lib.hid (OK.out.below hb4 (Nat.le_refl _))); (try replace OSA := Lib.hid (OSA.out.below hb4 (Nat.le_refl _))); (try replace OP := Lib.hid (OP.out.below hb4 (Nat.le_refl _))); (try replace HST := Lib.hid (HST.out.below hb4 HST.out.lt)); replace HB := Lib.hid (bcall HB.out hb4); clear hb4)
  refine ⟨⟨HST.out, HSH.out⟩, ?_⟩
  go_simp
  refine ords_loud rfl (fun n3 => ?_)
  replace HB := Lib.hid (bdr HB.out n3); replace HSH := Lib.hid (HSH.out.drewN n3); replace HRE := Lib.hid (HRE.out.drewN n3); (try replace OK := Lib.hid (OK.out.drewN n3)); (try replace OSA := Lib.hid (OSA.out.drewN n3)); (try replace OP := Lib.hid (OP.out.drewN n3)); (try replace HST := Lib.hid (HST.out.drewN n3)); generalize u.drewN n3 = u at *
  go_wp2_with (refine wpList_store_row rfl 50 _ _ rfl w.heap.size (setC n blk most k digest ⟨Ak, sk.n, ck⟩ ⟨As, ss.n, cs⟩ ⟨Ap, sp.n, cp⟩) rfl rfl 50 zset HRE.out (setC_size _ _ _ _ _ _ _ _) rfl (setC_ones _ _ _ _ _ _ _ _) ?_)
  have HRX := Lib.hid (HRE.out.row (setC n blk most k digest ⟨Ak, sk.n, ck⟩ ⟨As, ss.n, cs⟩ ⟨Ap, sp.n, cp⟩))
  replace OK := Lib.hid (OK.out.of_block (fun a ha => setRow_other _ _ _ _ (OK.out.ne_blk HRE.out (by show 5 ≠ 50; decide) a ha)) : OS cB (u.setRow w.heap.size (setC n blk most k digest ⟨Ak, sk.n, ck⟩ ⟨As, ss.n, cs⟩ ⟨Ap, sp.n, cp⟩)) w.heap.size _ _ _)
  replace OSA := Lib.hid (OSA.out.of_block (fun a ha => setRow_other _ _ _ _ (OSA.out.ne_blk HRE.out (by show 5 ≠ 50; decide) a ha)) : OS cB (u.setRow w.heap.size (setC n blk most k digest ⟨Ak, sk.n, ck⟩ ⟨As, ss.n, cs⟩ ⟨Ap, sp.n, cp⟩)) w.heap.size _ _ _)
  replace OP := Lib.hid (OP.out.of_block (fun a ha => setRow_other _ _ _ _ (OP.out.ne_blk HRE.out (by show 5 ≠ 50; decide) a ha)) : OS cB (u.setRow w.heap.size (setC n blk most k digest ⟨Ak, sk.n, ck⟩ ⟨As, ss.n, cs⟩ ⟨Ap, sp.n, cp⟩)) w.heap.size _ _ _)
  replace HSH := Lib.hid (HSH.out.rowFar (Ne.symm (Nat.ne_of_lt HG.out)) (setC n blk most k digest ⟨Ak, sk.n, ck⟩ ⟨As, ss.n, cs⟩ ⟨Ap, sp.n, cp⟩))
  replace HST := Lib.hid (HST.out.rowFar (Ne.symm (Nat.ne_of_lt HNE.out.1)) (setC n blk most k digest ⟨Ak, sk.n, ck⟩ ⟨As, ss.n, cs⟩ ⟨Ap, sp.n, cp⟩))
  replace HRE := HRX
  replace HB := Lib.hid (brow HB.out (Nat.le_refl _) (setC n blk most k digest ⟨Ak, sk.n, ck⟩ ⟨As, ss.n, cs⟩ ⟨Ap, sp.n, cp⟩))
  clear HRX
  generalize u.setRow w.heap.size (setC n blk most k digest ⟨Ak, sk.n, ck⟩ ⟨As, ss.n, cs⟩ ⟨Ap, sp.n, cp⟩) = u at *
  refine ⟨⟨HST.out, HSH.out⟩, ?_⟩
  go_simp
  refine ords_pure rfl (fun K hK => ?_); go_simp; refine hK _ ?_; clear hK K
  refine ords_end (fun n4 => ?_)
  replace HB := Lib.hid (bdr HB.out n4); replace HSH := Lib.hid (HSH.out.drewN n4); replace HRE := Lib.hid (HRE.out.drewN n4); (try replace OK := Lib.hid (OK.out.drewN n4)); (try replace OSA := Lib.hid (OSA.out.drewN n4)); (try replace OP := Lib.hid (OP.out.drewN n4)); (try replace HST := Lib.hid (HST.out.drewN n4)); generalize u.drewN n4 = u at *
  go_wp2_with fail
  exact bodyPost_ret (results_cell_tmp rfl _ _ w.heap.size 50 (setC n blk most k digest ⟨Ak, sk.n, ck⟩ ⟨As, ss.n, cs⟩ ⟨Ap, sp.n, cp⟩) _ rfl HRE.out Tryz.underlying50 rfl (setC_size _ _ _ _ _ _ _ _)) rfl ⟨⟨Ak, sk.n, ck⟩, ⟨As, ss.n, cs⟩, ⟨Ap, sp.n, cp⟩, by rw [HE.out]; rfl, rfl, rfl, rfl, OK.out, OSA.out, OP.out, HB.out⟩
end Go.Proofs.YtghpofnaojbbkaaGreat

/-
  Y8: contracts and lemmas alone; no statement is claimed here.
-/
import Derived.Test.YtboihcigcfmhhaaGreatY0
import Derived.Test.YtboihcigcfmhhaaGreatY1
import Derived.Test.YtboihcigcfmhhaaGreatY2
import Derived.Test.YtboihcigcfmhhaaGreatY4
import Derived.Laws.CopyOwn
import Derived.Laws.DeepNot64
set_option maxHeartbeats 4000000
set_option maxRecDepth 20000
namespace Go.Proofs.YtboihcigcfmhhaaGreat
open Go.Instr renaming index → cZA
open _root_.UInt8 renaming ofNat → bZZ
open _root_.Bool renaming false_eq_true → bZQ
open Go renaming results_cell_row → aZZ
open _root_.List renaming getElem?_append_right → aZV
open Go.IntKind renaming wrap → aZU
open Go.IntKind renaming bits → aZR
open _root_.List renaming getElem?_eq_getElem → aZP
open _root_.List renaming length_append → aZN
open Go.IntKind renaming signed → aZM
open Go renaming wpList_load_row → aZH
open Go renaming wpList_store_row → aZE
open Go renaming bodyPost_ret → aZB
open Lib renaming hid -> zH
open Go.RowKit
attribute [local go_sem] pureUpon Ords.of
theorem places3_any (w : World) : Calls Tryz.prog 130 #[] w fun e w' => e = .returned (.agg plCells) /\ Below w.heap.size w w' := by
 have hu := zH Tryz.underlying188;have hsz : Hid ((Tryz.prog.info? 188).map (·.size) = some plCells.size) := by show _ = _; kernel_rfl
 have hn := zH (Blk.new w 188 (ics (List.replicate 32 0)));have hall := zH (ics_all [0, 4, 8, 12, 1, 5, 9, 13, 2, 6, 10, 14, 3, 7, 11, 15, 0, 5, 10, 15, 1, 6, 11, 12, 2, 7, 8, 13, 3, 4, 9, 14]);go_enter Tryz.func130, Tryz.ntmps130;go_wp2_with (refine aZE rfl 188 _ _ rfl w.heap.size plCells rfl (by kernel_rfl) 188 _ hn.out hsz.out (by kernel_rfl) hall.out ?_);exact aZB (aZZ rfl _ _ w.heap.size _ _ (0, 0) _ rfl (hn.row _) hu.out rfl hsz.out) rfl ⟨rfl, brow (bal (b0 w) _) (Nat.le_refl _) _⟩
def turnTo32 (M : List UInt32) (s : List Nat) : Nat -> List UInt32 -> List UInt32
  | 0, V => V
  | k + 1, V => (pls k).lay (turnTo32 M s k V) (gm32 ((pls k).get 0 (turnTo32 M s k V)) (M.getD (s.getD (2 * k) 0) 0) (M.getD (s.getD (2 * k + 1) 0) 0))
theorem turnTo32_len (M : List UInt32) (s : List Nat) (k : Nat) (V : List UInt32) : (turnTo32 M s k V).length = V.length := by
 induction k with
 | zero => rfl
 | succ k ih => unfold turnTo32; rw [lay_len, ih]
def turn32 (M : List UInt32) (r : Nat) (V : List UInt32) : List UInt32 := turnTo32 M (sigma r) 8 V
theorem turn32_len (M : List UInt32) (r : Nat) (V : List UInt32) : (turn32 M r V).length = V.length := turnTo32_len _ _ _ _
theorem round3_any (gv gm r : Nat) (V M : List UInt32) (w : World) (hne : gm ≠ gv) (hV : V.length = 16) (hM : M.length = 16) (hv : Blk w gv 140 (wc3 V)) (hm : Blk w gm 140 (wc3 M)) :
  Calls Tryz.prog 119 #[.pointer (some ⟨gv, 0, none⟩), .pointer (some ⟨gm, 0, none⟩), .int .i64 r] w fun e w' => e = .returned (.tuple #[]) /\ Blk w' gv 140 (wc3 (turn32 M r V)) /\ w.grownBy w' (some gv) := by
 have HV := zH hV; have HM := zH hM; have BV := zH hv; have BM := zH hm; clear hV hM hv hm;have hsl := sigma_len r;have hslt := sigma_lt r;have hsg := sigma_any r;unfold turn32;generalize sigma r = S at *;have HSL := zH hsl; have HST := zH hslt; have HSG := zH hsg; clear hsl hslt hsg;have hsz16 : Hid ((Tryz.prog.info? 193).map (·.size) = some (ics S).size) := by show _ = _; rw [ics_size, HSL.out]; kernel_rfl
 have hall16 := zH (ics_all S);have hpl : Hid (∀ w, Calls Tryz.prog 130 #[] w fun e w' => e = .returned (.agg plCells) /\ Below w.heap.size w w') := places3_any;have hix : Hid (∀ k : Nat, k < 8 -> ∀ w, (cZA 188 (.agg plCells) (.int .i64 k)).run Tryz.prog w = .ok (plv (pls k)) w) := index_pl;generalize plCells = PL at *;go_enter Tryz.func119, Tryz.ntmps119;go_wp2_with fail;refine (HSG _).mono ?_;rintro e w1 ⟨rfl, hb1⟩;have q1 := zH (Blk.new w1 193 zi16);have hold : Hid (zi16.size = (ics S).size) := by show _ = _; rw [ics_size, HSL.out]; rfl
 unfold zi16 at q1 hold;go_upto_region 1 with (refine aZE rfl 193 _ _ rfl w1.heap.size (ics S) rfl rfl 193 _ q1.out hsz16.out hold.out hall16.out ?_)
 have hgv := BV.lt; have hgm := BM.lt; have hs1 := hb1.size;have v0 := ((BV.below hb1 hgv).alloc (.cells zi16 193)).rowFar (k := w1.heap.size) (by omega) (ics S);have v1 := ((BM.below hb1 hgm).alloc (.cells zi16 193)).rowFar (k := w1.heap.size) (by omega) (ics S);have v2 := q1.row (ics S);have v3 := only_of_below (brow (bal hb1 (.cells zi16 193)) hs1 (ics S)) (some gv);unfold zi16 at v0 v1 v3;obtain ⟨b, hb⟩ : ∃ b, b = w1.heap.size := ⟨_, rfl⟩;have hvb : gv < b := by omega
 have hmb : gm < b := by omega
 rw [<- hb] at v0 v1 v2 v3 ⊢;clear q1 hold hb hb1 hs1 BV BM hsz16 hall16 HSG;generalize (w1.alloc (.cells #[.int .i64 0, .int .i64 0, .int .i64 0, .int .i64 0, .int .i64 0, .int .i64 0, .int .i64 0, .int .i64 0, .int .i64 0, .int .i64 0, .int .i64 0, .int .i64 0, .int .i64 0, .int .i64 0, .int .i64 0, .int .i64 0] 193)).setRow b (ics S) = w2 at *;have BV := zH v0; have BM := zH v1; have BS := zH v2; have HG := zH v3; clear v0 v1 v2 v3;go_wp2_with fail;refine (hpl.out _).mono ?_;rintro e w3 ⟨rfl, hb3⟩;replace BV := zH (BV.below hb3 BV.lt); replace BM := zH (BM.below hb3 BM.lt); replace BS := zH (BS.below hb3 BS.lt);replace HG : Hid (w.grownBy w3 (some gv)) := grown_below HG hb3;go_wp2_with fail;go_loopw [12] (fun i wr => ∃ k : Nat, k <= 8 /\ i = .int .i64 k /\ Blk wr gv 140 (wc3 (turnTo32 M S k V)) /\ Blk wr gm 140 (wc3 M) /\ Blk wr b 193 (ics S) /\ w.grownBy wr (some gv)) (fun i _ => 8 - (intOf i).toNat)
 case atStart => exact ⟨0, by omega, rfl, BV.out, BM.out, BS.out, HG.out⟩
 case round =>
  clear BV BM BS HG hb3;obtain ⟨k, hk, rfl, x0, x1, x2, x3⟩ := hrel;have BV := zH x0; have BM := zH x1; have BS := zH x2; have HG := zH x3; clear x0 x1 x2 x3
  by_cases hlt : k < 8
  ·have hidx := hix.out k hlt
   have hok := pls_ok k hlt;have hturn : turnTo32 M S (k + 1) V = (pls k).lay (turnTo32 M S k V) (gm32 ((pls k).get 0 (turnTo32 M S k V)) (M.getD (S.getD (2 * k) 0) 0) (M.getD (S.getD (2 * k + 1) 0) 0)) := rfl;have hTl : (turnTo32 M S k V).length = 16 := by rw [turnTo32_len, HV.out]
   obtain ⟨i2, hi2⟩ : ∃ i2, i2 = 2 * k := ⟨_, rfl⟩;obtain ⟨i3, hi3⟩ : ∃ i3, i3 = 2 * k + 1 := ⟨_, rfl⟩;rw [<- hi3, <- hi2] at hturn;have e2 : 2 * (k : Int) = (i2 : Int) := by omega
   have e3 : (i2 : Int) + 1 = (i3 : Int) := by omega
   have l2 : i2 < 16 := by omega
   have l3 : i3 < 16 := by omega
   obtain ⟨s2, hs2⟩ : ∃ s, s = S.getD i2 0 := ⟨_, rfl⟩;obtain ⟨s3, hs3⟩ : ∃ s, s = S.getD i3 0 := ⟨_, rfl⟩;have ls2 : s2 < 16 := by rw [hs2]; exact HST.out i2 l2
   have ls3 : s3 < 16 := by rw [hs3]; exact HST.out i3 l3
   have c2 : wr.cell? ⟨b, i2, none⟩ = some (.int .i64 s2) := by rw [BS.cell, ics_get S i2 (by rw [HSL.out]; exact l2), hs2]; rfl
   have c3 : wr.cell? ⟨b, i3, none⟩ = some (.int .i64 s3) := by rw [BS.cell, ics_get S i3 (by rw [HSL.out]; exact l3), hs3]; rfl
   rw [<- hs2, <- hs3] at hturn;obtain ⟨x, hx⟩ : ∃ x, x = M.getD s2 0 := ⟨_, rfl⟩;obtain ⟨y, hy⟩ : ∃ y, y = M.getD s3 0 := ⟨_, rfl⟩;have m2 : wr.cell? ⟨gm, s2, none⟩ = some (.int .u32 (wr3 x)) := by rw [BM.cell, wc3_get M s2 (by rw [HM.out]; exact ls2), hx]; rfl
   have m3 : wr.cell? ⟨gm, s3, none⟩ = some (.int .u32 (wr3 y)) := by rw [BM.cell, wc3_get M s3 (by rw [HM.out]; exact ls3), hy]; rfl
   rw [<- hx, <- hy] at hturn;obtain ⟨p, hp⟩ : ∃ p, p = pls k := ⟨_, rfl⟩;rw [<- hp] at hidx hok hturn;obtain ⟨pa, pb, pc, pd⟩ := p;unfold plv at hidx;dsimp only at hidx;have HT := zH hturn; have HOK := zH hok; have HTL := zH hTl;clear hturn hok hTl hi2 hi3 hs2 hs3 hx hy hp;have j2 : (i2 : Int) < 16 := by omega
   have j3 : (i3 : Int) < 16 := by omega
   have j4 : (s2 : Int) < 16 := by omega
   have j5 : (s3 : Int) < 16 := by omega
   have hkd : decide ((k : Int) < 8) = true := by simp; omega
   have w2' : IntKind.i64.wrap (i2 : Int) = i2 := by simp [aZU, aZR, aZM]; omega
   have w3' : IntKind.i64.wrap (i3 : Int) = i3 := by simp [aZU, aZR, aZM]; omega
   have hbs : b < wr.heap.size := BS.lt;have hgs : gm < wr.heap.size := BM.lt;go_upto_region 4 with fail
   have hpp : Hid (∀ W, Blk W gv 140 (wc3 (turnTo32 M S k V)) -> Calls Tryz.prog 131 #[.pointer (some ⟨gv, 0, none⟩), .int .i64 pa, .int .i64 pb, .int .i64 pc, .int .i64 pd, .int .u32 (wr3 x), .int .u32 (wr3 y)] W fun e w' => e = .returned (.tuple #[]) /\ Blk w' gv 140 (wc3 (turnTo32 M S (k + 1) V)) /\ W.grownBy w' (some gv)) := by
    show ∀ W, _
    intro W hW;rw [HT.out];exact mixs_any gv ⟨pa, pb, pc, pd⟩ _ x y W HOK HTL hW
   have y0 := zH (BV.alloc (.cells #[.int .i64 pa, .int .i64 pb, .int .i64 pc, .int .i64 pd] 176));refine wrZ (fun _ => True) (fun _ _ h => h) (Ords.of [(0, 0), (0, 1), (1, 2), (0, 3), (1, 4), (0, 5), (1, 6), (0, 7), (1, 8), (0, 9), (0, 10), (0, 11), (0, 12), (1, 13), (0, 14), (0, 15), (1, 16), (0, 17), (0, 18), (0, 19), (0, 20), (0, 21), (1, 22), (0, 23), (0, 24), (1, 25), (2, 26)] .fin) trivial ?_
   iterate 26 ((first | refine ords_pure rfl (fun K hK => ?_) | refine ords_read rfl (fun K hK => ?_)); go_simp; refine hK _ ?_; clear hK K)
   refine ords_loud rfl (fun n1 => ?_);go_wp2_with (go_at_call 131; refine (hpp.out _ (y0.drewN _)).mono ?_; rintro e w6 ⟨rfl, hz6, hg6⟩; have HZ6 := zH hz6; have HG6 := zH hg6; clear hz6 hg6)
   first | (refine ⟨trivial, ?_⟩; refine ords_end (fun n2 => ?_)) | (rintro _ ⟨n2, rfl⟩)
   go_wp2_with fail;go_roundw
   case rel =>
    have g1 := (BM.alloc (.cells #[.int .i64 pa, .int .i64 pb, .int .i64 pc, .int .i64 pd] 176)).drewN n1;have g2 := (BS.alloc (.cells #[.int .i64 pa, .int .i64 pb, .int .i64 pc, .int .i64 pd] 176)).drewN n1;exact ⟨k + 1, by omega, by go_num, HZ6.drewN n2, (g1.grown HG6.out (by simpa using hne)).drewN n2, (g2.grown HG6.out (by simp; omega)).drewN n2, gdr (grown_grown (only_alloc HG.out _) (gdr_in HG6.out)) n2⟩
   case measure => simp [intOf]; omega
  ·obtain rfl : k = 8 := by omega
   go_wp2_with fail;go_end0;exact ⟨rfl, BV.out, HG.out⟩
def iv32 : List UInt32 := [0x6a09e667, 0xbb67ae85, 0x3c6ef372, 0xa54ff53a, 0x510e527f, 0x9b05688c, 0x1f83d9ab, 0x5be0cd19]
theorem iv3_any (w : World) : Calls Tryz.prog 105 #[] w fun e w' => e = .returned (.agg (wc3 iv32)) /\ Below w.heap.size w w' := by
 have hu := zH Tryz.underlying130;have hsz : Hid ((Tryz.prog.info? 130).map (·.size) = some (wc3 iv32).size) := by show _ = _; kernel_rfl
 have hn := zH (Blk.new w 130 #[.int .u32 0, .int .u32 0, .int .u32 0, .int .u32 0, .int .u32 0, .int .u32 0, .int .u32 0, .int .u32 0]);have hall := zH (wc3_all iv32);go_enter Tryz.func105, Tryz.ntmps105;go_wp2_with (refine aZE rfl 130 _ _ rfl w.heap.size (wc3 iv32) rfl (by kernel_rfl) 130 _ hn.out hsz.out (by kernel_rfl) hall.out ?_);exact aZB (aZZ rfl _ _ w.heap.size _ _ (0, 0) _ rfl (hn.row _) hu.out rfl hsz.out) rfl ⟨rfl, brow (bal (b0 w) _) (Nat.le_refl _) _⟩
def lo32 (c : UInt64) : UInt32 := UInt32.ofNat (c.toNat % 4294967296)
def hi32 (c : UInt64) : UInt32 := UInt32.ofNat (c.toNat / 4294967296)
theorem wrap_lo (c : UInt64) : IntKind.u32.wrap (wrd c) = wr3 (lo32 c) := by
 unfold lo32; rw [wr3_ofNat, wrap_u32w]; unfold wrd; omega
theorem wrap_hi (c : UInt64) : IntKind.u32.wrap (wrd c / 4294967296) = wr3 (hi32 c) := by
 have h : c.toNat < 18446744073709551616 := c.toNat_lt;unfold hi32; rw [wr3_ofNat, wrap_u32w]; unfold wrd; omega
def initOf3 (H : List UInt32) (lo hi : UInt32) (last node : Bool) : List UInt32 :=
  let v := ((H ++ iv32).set 12 (0x510e527f ^^^ lo)).set 13 (0x9b05688c ^^^ hi)
  let v := if last then v.set 14 (~~~ 0x1f83d9ab) else v
  if node then v.set 15 (~~~ 0x5be0cd19) else v
theorem wr3_not (x : UInt32) : bits .xor .u32 IntKind.u32.max (wr3 x) = wr3 (~~~x) := by
 show IntKind.u32.wrap ((BitVec.ofInt 32 IntKind.u32.max ^^^ BitVec.ofInt 32 (wr3 x)).toNat : Int) = _
 have h1 : BitVec.ofInt 32 IntKind.u32.max = BitVec.allOnes 32 := by decide
 have hx := wr3_lt x;unfold wr3;rw [h1, BitVec.allOnes_xor, BitVec.toNat_not, ofInt_u32 x.toNat (by omega), UInt32.toNat_not];have : UInt32.size = 4294967296 := rfl;rw [this];simp [aZU, aZR, aZM];omega
theorem sz8s (z : List UInt32) (h : z.length = 8) : (Tryz.prog.info? 130).map (·.size) = some (wc3 z).size := by rw [wc3_size, h]; kernel_rfl
theorem sz16s (z : List UInt32) (h : z.length = 16) : (Tryz.prog.info? 140).map (·.size) = some (wc3 z).size := by rw [wc3_size, h]; kernel_rfl
theorem wpList_copy3 {ops : Array Oper} {rest : List Oper} {o : Oper} {a : Act} {w : World} {Q : Exit -> Act -> World -> Prop} (hgd : o.guard = none) (d s : Operand)
  (ho : o.op = .call { callee := .builtin .copy, args := #[d, s], argTypes := #[171, 171] }) (g off gs n dc sc : Nat) (hd : a.eval d = .slice (some ⟨g, off, none⟩) n dc) (hs : a.eval s = .slice (some ⟨gs, 0, none⟩) n sc)
  (D S : List UInt32) (t ts : TypeId) (hg : Blk w g t (wc3 D)) (hgs : Blk w gs ts (wc3 S)) (hn : S.length = n) (hfit : off + n <= D.length)
  (h : wpList Tryz.prog ops Q rest (a.put o.dst (goInt n)) (w.setRow g (wc3 (D.take off ++ (S ++ D.drop (off + n)))))) : wpList Tryz.prog ops Q (o :: rest) a w := by
 subst hn;have hl : (wc3 S).toList.length = S.length := by simp [wc3]
 refine wpList_copy_own hgd d s 171 171 ho 22 (by kernel_rfl) (by kernel_rfl) g off S.length dc ⟨gs, 0, none⟩ S.length sc hd hs (wc3 D) t hg (wc3 S).toList (by rw [hl]; exact (Nat.min_self _).symm) (fun j v hv => ?_) (by rw [hl, wc3_size]; exact hfit) (fun v hv => ?_) ?_
 ·have e : (⟨gs, 0, none⟩ : Addr).add j = ⟨gs, j, none⟩ := by unfold Addr.add; split <;> simp_all
  rw [e, hgs.cell]; simpa using hv
 ·have := Array.all_eq_true_iff_forall_mem.1 (wc3_all S) v (by simpa using hv); exact this
 ·rw [hl]
  have e : ((wc3 D).toList.take off ++ ((wc3 S).toList ++ (wc3 D).toList.drop (off + S.length))).toArray = wc3 (D.take off ++ (S ++ D.drop (off + S.length))) := by simp [wc3]
  rw [e]; exact h
def z16s : Array Value := #[.int .u32 0, .int .u32 0, .int .u32 0, .int .u32 0, .int .u32 0, .int .u32 0, .int .u32 0, .int .u32 0, .int .u32 0, .int .u32 0, .int .u32 0, .int .u32 0, .int .u32 0, .int .u32 0, .int .u32 0, .int .u32 0]
def zw3 (n : Nat) : List UInt32 := List.replicate n 0
theorem begin3_any (H : List UInt32) (cnt : UInt64) (last node : Bool) (w : World) (hH : H.length = 8) :
  Calls Tryz.prog 118 #[.agg (wc3 H), .int .u64 (wrd cnt), .bool last, .bool node] w fun e w' => e = .returned (.agg (wc3 (initOf3 H (lo32 cnt) (hi32 cnt) last node))) /\ Below w.heap.size w w' := by
 have hcl := wrap_lo cnt; have hch := wrap_hi cnt;generalize lo32 cnt = lo at *;generalize hi32 cnt = hi at *;have HH := zH hH; clear hH;have hG : Hid (initOf3 H lo hi last node = (let v := ((H ++ iv32).set 12 (0x510e527f ^^^ lo)).set 13 (0x9b05688c ^^^ hi); let v := if last then v.set 14 (~~~ 0x1f83d9ab) else v; if node then v.set 15 (~~~ 0x5be0cd19) else v)) := rfl;generalize initOf3 H lo hi last node = G at *;go_enter Tryz.func118, Tryz.ntmps118;go_upto_region 2 with fail
 obtain ⟨w1, hw1⟩ : ∃ w1, w1 = w.alloc (.cells (wc3 H) 130) := ⟨_, rfl⟩;obtain ⟨w3, hw3⟩ : ∃ w3, w3 = w1.alloc (.cells (wc3 (zw3 16)) 140) := ⟨_, rfl⟩;obtain ⟨w4, hw4⟩ : ∃ w4, w4 = w3.alloc (.cells (wc3 (zw3 16)) 140) := ⟨_, rfl⟩;have e4 : ((w.alloc (.cells (wc3 H) 130)).alloc (.cells z16s 140)).alloc (.cells z16s 140) = w4 := by rw [hw4, hw3, hw1]; rfl
 unfold z16s at e4;rw [e4];have n0 : Blk w4 w.heap.size 130 (wc3 H) := by rw [hw4, hw3, hw1]; exact ((Blk.new _ _ _).alloc _).alloc _
 have n2 : Blk w4 (w.heap.size + 1) 140 (wc3 (zw3 16)) := by
  have : w1.heap.size = w.heap.size + 1 := by rw [hw1]; simp
  rw [<- this, hw4, hw3]; exact (Blk.new _ _ _).alloc _
 have n3 : Blk w4 (w.heap.size + 1 + 1) 140 (wc3 (zw3 16)) := by
  have : w3.heap.size = w.heap.size + 1 + 1 := by rw [hw3, hw1]; simp
  rw [<- this, hw4]; exact Blk.new _ _ _
 have n4 : Below w.heap.size w w4 := by rw [hw4, hw3, hw1]; exact bal (bal (bal (b0 _) _) _) _
 clear hw1 hw3 hw4 e4 w1 w3;obtain ⟨g0, hg0⟩ : ∃ g, g = w.heap.size := ⟨_, rfl⟩;obtain ⟨g2, hg2⟩ : ∃ g, g = w.heap.size + 1 := ⟨_, rfl⟩;obtain ⟨g3, hg3⟩ : ∃ g, g = w.heap.size + 1 + 1 := ⟨_, rfl⟩;rw [<- hg3, <- hg2, <- hg0];rw [<- hg0] at n0; rw [<- hg2] at n2; rw [<- hg3] at n3;have l02 : g0 < g2 := by omega
 have l23 : g2 < g3 := by omega
 have l0 : Hid (w.heap.size <= g0) := by show _ <= _; omega
 have N0 := zH n0; have N2 := zH n2; have N3 := zH n3; have N4 := zH n4;clear n0 n2 n3 n4 hg0 hg2 hg3;go_wp2_with fail;refine (iv3_any _).mono ?_;rintro e w6 ⟨rfl, hb6⟩;have l5 := N3.lt;replace N0 := zH (N0.below hb6 N0.lt); replace N2 := zH (N2.below hb6 N2.lt); replace N3 := zH (N3.below hb6 N3.lt); replace N4 := zH (bcall N4 hb6);have l6 := hb6.size;have IVl : Hid (iv32.length = 8) := rfl;have S8 := zH (sz8s iv32 IVl);have AL := zH (wc3_all iv32);have hIV : Hid (iv32 = [0x6a09e667, 0xbb67ae85, 0x3c6ef372, 0xa54ff53a, 0x510e527f, 0x9b05688c, 0x1f83d9ab, 0x5be0cd19]) := rfl;generalize iv32 = I at *;have n6 := zH (Blk.new w6 130 (wc3 (zw3 8)));have hold : Hid ((wc3 (zw3 8)).size = (wc3 I).size) := by show _ = _; rw [wc3_size, wc3_size, IVl.out]; rfl
 change Hid (Blk (w6.alloc (.cells #[.int .u32 0, .int .u32 0, .int .u32 0, .int .u32 0, .int .u32 0, .int .u32 0, .int .u32 0, .int .u32 0] 130)) w6.heap.size 130 (wc3 (zw3 8))) at n6;go_upto_region 3 with (refine aZE rfl 130 _ _ rfl w6.heap.size (wc3 I) rfl rfl 130 _ n6.out S8 hold.out AL ?_)
 have v0 := (N0.alloc (.cells (wc3 (zw3 8)) 130)).rowFar (k := w6.heap.size) (by omega) (wc3 I);have v2 := (N2.alloc (.cells (wc3 (zw3 8)) 130)).rowFar (k := w6.heap.size) (by omega) (wc3 I);have v3 := (N3.alloc (.cells (wc3 (zw3 8)) 130)).rowFar (k := w6.heap.size) (by omega) (wc3 I);have v4 := brow (bal N4 (.cells (wc3 (zw3 8)) 130)) N4.size (wc3 I);have v5 := n6.row (wc3 I);change Blk (World.setRow (w6.alloc (.cells #[.int .u32 0, .int .u32 0, .int .u32 0, .int .u32 0, .int .u32 0, .int .u32 0, .int .u32 0, .int .u32 0] 130)) _ _) _ _ _ at v0;change Blk (World.setRow (w6.alloc (.cells #[.int .u32 0, .int .u32 0, .int .u32 0, .int .u32 0, .int .u32 0, .int .u32 0, .int .u32 0, .int .u32 0] 130)) _ _) _ _ _ at v2;change Blk (World.setRow (w6.alloc (.cells #[.int .u32 0, .int .u32 0, .int .u32 0, .int .u32 0, .int .u32 0, .int .u32 0, .int .u32 0, .int .u32 0] 130)) _ _) _ _ _ at v3;change Below _ _ (World.setRow (w6.alloc (.cells #[.int .u32 0, .int .u32 0, .int .u32 0, .int .u32 0, .int .u32 0, .int .u32 0, .int .u32 0, .int .u32 0] 130)) _ _) at v4;have l36 : g3 < w6.heap.size := by omega
 obtain ⟨g6, hg6⟩ : ∃ g6, g6 = w6.heap.size := ⟨_, rfl⟩;rw [<- hg6] at v0 v2 v3 v4 v5 l36 ⊢;clear n6 hold N0 N2 N3 N4 hg6 hb6 l5 l6;generalize (w6.alloc (.cells #[.int .u32 0, .int .u32 0, .int .u32 0, .int .u32 0, .int .u32 0, .int .u32 0, .int .u32 0, .int .u32 0] 130)).setRow g6 (wc3 I) = w7 at *;have N0 := zH v0; have N2 := zH v2; have N3 := zH v3; have N4 := zH v4; have N5 := zH v5; clear v0 v2 v3 v4 v5;have e1 : (zw3 16).take 0 ++ (H ++ (zw3 16).drop (0 + 8)) = H ++ zw3 8 := rfl;refine wrZ (fun _ => True) (fun _ _ h => h) (Ords.of [(0, 0), (0, 1), (2, 2)] .fin) trivial ?_
 iterate 2 (refine ords_pure rfl (fun K hK => ?_); go_simp; refine hK _ ?_; clear hK K)
 refine ords_loud rfl (fun n1 => ?_);refine wpList_copy3 rfl (.tmp 12) (.tmp 13) rfl g3 0 g0 8 16 8 rfl rfl (zw3 16) H 140 130 (N3.drewN n1) (N0.drewN n1) HH.out (by decide) ?_; rw [e1]; clear e1; go_wp2
 first | (refine ⟨trivial, ?_⟩; refine ords_end (fun n2 => ?_)) | (rintro _ ⟨n2, rfl⟩)
 have v3 := ((N3.drewN n1).row (wc3 (H ++ zw3 8))).drewN n2;have v2 := ((N2.drewN n1).rowFar (k := g3) (by omega) (wc3 (H ++ zw3 8))).drewN n2;have v5 := ((N5.drewN n1).rowFar (k := g3) (by omega) (wc3 (H ++ zw3 8))).drewN n2;have v4 := bdr (brow (bdr N4.out n1) (g := g3) (by have := l0.out; omega) (wc3 (H ++ zw3 8))) n2;clear N0 N2 N3 N4 N5;generalize ((w7.drewN n1).setRow g3 (wc3 (H ++ zw3 8))).drewN n2 = w7 at *;have N2 := zH v2; have N3 := zH v3; have N4 := zH v4; have N5 := zH v5; clear v2 v3 v4 v5;go_upto_region 4 with fail
 have hHz : Hid ((H ++ zw3 8).length = 16) := by show _ = _; rw [aZN, HH.out]; rfl
 have e1 : (H ++ zw3 8).take 8 ++ (I ++ (H ++ zw3 8).drop (8 + 8)) = H ++ I := by
  rw [List.take_left' HH.out, List.drop_eq_nil_of_le (by rw [hHz.out]; omega), List.append_nil]
 refine wrZ (fun _ => True) (fun _ _ h => h) (Ords.of [(0, 0), (0, 1), (2, 2)] .fin) trivial ?_
 iterate 2 (refine ords_pure rfl (fun K hK => ?_); go_simp; refine hK _ ?_; clear hK K)
 refine ords_loud rfl (fun n1 => ?_);refine wpList_copy3 rfl (.tmp 15) (.tmp 16) rfl g3 8 g6 8 8 8 rfl rfl (H ++ zw3 8) I 140 130 (N3.drewN n1) (N5.drewN n1) IVl.out (by rw [hHz.out]; omega) ?_; rw [e1]; clear e1; go_wp2
 first | (refine ⟨trivial, ?_⟩; refine ords_end (fun n2 => ?_)) | (rintro _ ⟨n2, rfl⟩)
 have v3 := ((N3.drewN n1).row (wc3 (H ++ I))).drewN n2;have v2 := ((N2.drewN n1).rowFar (k := g3) (by omega) (wc3 (H ++ I))).drewN n2;have v4 := bdr (brow (bdr N4.out n1) (g := g3) (by have := l0.out; omega) (wc3 (H ++ I))) n2;clear N2 N3 N4 N5 hHz AL S8;generalize ((w7.drewN n1).setRow g3 (wc3 (H ++ I))).drewN n2 = w8 at *;have N2 := zH v2; have N3 := zH v3; have N4 := zH v4; clear v2 v3 v4;obtain ⟨i4, hi4⟩ : ∃ i, i = (0x510e527f : UInt32) := ⟨_, rfl⟩;obtain ⟨i5, hi5⟩ : ∃ i, i = (0x9b05688c : UInt32) := ⟨_, rfl⟩;obtain ⟨i6, hi6⟩ : ∃ i, i = (0x1f83d9ab : UInt32) := ⟨_, rfl⟩;obtain ⟨i7, hi7⟩ : ∃ i, i = (0x5be0cd19 : UInt32) := ⟨_, rfl⟩;have hI := hIV.out;have hGG := hG.out;rw [<- hi4, <- hi5, <- hi6, <- hi7] at hI;rw [<- hi4, <- hi5, <- hi6, <- hi7] at hGG;clear hIV hG hi4 hi5 hi6 hi7;obtain ⟨V, hV⟩ : ∃ V, V = H ++ I := ⟨_, rfl⟩;rw [<- hV] at N3 hGG;have hVl : V.length = 16 := by rw [hV, aZN, HH.out, IVl.out]
 have c12 : w8.cell? ⟨g3, 12, none⟩ = some (.int .u32 (wr3 i4)) := by rw [N3.cell, wc3_at' V 12 i4 (by rw [hV, aZV (by rw [HH.out]; omega), HH.out, hI]; rfl)]
 have c13 : w8.cell? ⟨g3, 13, none⟩ = some (.int .u32 (wr3 i5)) := by rw [N3.cell, wc3_at' V 13 i5 (by rw [hV, aZV (by rw [HH.out]; omega), HH.out, hI]; rfl)]
 have c14 : w8.cell? ⟨g3, 14, none⟩ = some (.int .u32 (wr3 i6)) := by rw [N3.cell, wc3_at' V 14 i6 (by rw [hV, aZV (by rw [HH.out]; omega), HH.out, hI]; rfl)]
 have c15 : w8.cell? ⟨g3, 15, none⟩ = some (.int .u32 (wr3 i7)) := by rw [N3.cell, wc3_at' V 15 i7 (by rw [hV, aZV (by rw [HH.out]; omega), HH.out, hI]; rfl)]
 have ff : ∀ i, w8.frozen? ⟨g3, i, none⟩ = false := N3.frozen;have h2 := wr3_xor;have HV := zH hVl; have HGG := zH hGG; clear hV hVl hI hGG IVl;have h3 := wr3_not;have h3' : ∀ x : UInt32, bits .xor .u32 (if IntKind.u32.signed = true then -1 else IntKind.u32.max) (wr3 x) = wr3 (~~~ x) := wr3_not;have z12 := N3.set_ 12 (wv3 (i4 ^^^ lo));rw [wc3_set] at z12;have z13 := z12.set_ 13 (wv3 (i5 ^^^ hi));rw [wc3_set] at z13;have z14 := z13.set_ 14 (wv3 (~~~ i6));rw [wc3_set] at z14;have z15 := z13.set_ 15 (wv3 (~~~ i7));rw [wc3_set] at z15;have z16s := z14.set_ 15 (wv3 (~~~ i7));rw [wc3_set] at z16s;have Z13 := zH z13; have Z14 := zH z14; have Z15 := zH z15; have Z16 := zH z16s; clear z12 z13 z14 z15 z16s;have hlr : Hid (w.heap.size <= g3) := by show _ <= _; have := l0.out; omega
 have hw13 := bput (bput N4 (p := ⟨g3, 12, none⟩) hlr.out (wv3 (i4 ^^^ lo))) (p := ⟨g3, 13, none⟩) hlr.out (wv3 (i5 ^^^ hi));have hl2 : Hid (w.heap.size <= g2) := by show _ <= _; have := l0.out; omega
 have y2 := (N2.far (p := ⟨g3, 12, none⟩) (by simp; omega) (wv3 (i4 ^^^ lo))).far (p := ⟨g3, 13, none⟩) (by simp; omega) (wv3 (i5 ^^^ hi));have Y2 := zH y2; have HW := zH hw13; have hg23 : g2 ≠ g3 := by omega
 clear y2 hw13 N2 N3 N4;have hu := zH Tryz.underlying140;have hsz : Hid (∀ L : List UInt32, L.length = 16 -> (Tryz.prog.info? 140).map (·.size) = some (wc3 L).size) := sz16s;have hall := zH wc3_all;have hold : Hid (∀ L : List UInt32, L.length = 16 -> (wc3 (zw3 16)).size = (wc3 L).size) := fun L h => by rw [wc3_size, wc3_size, h]; rfl
 cases last <;> cases node
 ·have hg := HGG.out
  simp only [bZQ, if_false] at hg;have HG2 := zH hg; clear hg;have hl : Hid (G.length = 16) := by show _ = _; rw [HG2.out]; simp [HV.out]
  have hz : Hid (Blk ((w8.setCell ⟨g3, 12, none⟩ (.int .u32 (wr3 (i4 ^^^ lo)))).setCell ⟨g3, 13, none⟩ (.int .u32 (wr3 (i5 ^^^ hi)))) g3 140 (wc3 G)) := by show Blk _ _ _ _; rw [HG2.out]; exact Z13.out
  have hy : Hid (Blk ((w8.setCell ⟨g3, 12, none⟩ (.int .u32 (wr3 (i4 ^^^ lo)))).setCell ⟨g3, 13, none⟩ (.int .u32 (wr3 (i5 ^^^ hi)))) g2 140 (wc3 (zw3 16))) := Y2.out;have hx : Hid (Below w.heap.size w ((w8.setCell ⟨g3, 12, none⟩ (.int .u32 (wr3 (i4 ^^^ lo)))).setCell ⟨g3, 13, none⟩ (.int .u32 (wr3 (i5 ^^^ hi))))) := HW.out;go_upto_region 11 with fail
  go_wp2_with (first
   | (refine aZH rfl 140 _ rfl g3 rfl 140 (wc3 G) (0, 0) _ hz.out hu.out rfl (hsz.out G hl.out) ?_)
   | (refine aZE rfl 140 _ _ rfl g2 (wc3 G) rfl rfl 140 _ hy.out (hsz.out G hl.out) (hold.out G hl.out) (hall.out G) ?_))
  exact aZB (aZZ rfl _ _ g2 _ _ (0, 0) _ rfl (hy.row _) hu.out rfl (hsz.out G hl.out)) rfl ⟨rfl, brow hx.out hl2.out _⟩
 ·have hg := HGG.out
  simp only [bZQ, if_false, if_true] at hg;have HG2 := zH hg; clear hg;have hl : Hid (G.length = 16) := by show _ = _; rw [HG2.out]; simp [HV.out]
  have hz : Hid (Blk (((w8.setCell ⟨g3, 12, none⟩ (.int .u32 (wr3 (i4 ^^^ lo)))).setCell ⟨g3, 13, none⟩ (.int .u32 (wr3 (i5 ^^^ hi)))).setCell ⟨g3, 15, none⟩ (.int .u32 (wr3 (~~~ i7)))) g3 140 (wc3 G)) := by show Blk _ _ _ _; rw [HG2.out]; exact Z15.out
  have hy : Hid (Blk (((w8.setCell ⟨g3, 12, none⟩ (.int .u32 (wr3 (i4 ^^^ lo)))).setCell ⟨g3, 13, none⟩ (.int .u32 (wr3 (i5 ^^^ hi)))).setCell ⟨g3, 15, none⟩ (.int .u32 (wr3 (~~~ i7)))) g2 140 (wc3 (zw3 16))) := (Y2.out).far (p := ⟨g3, 15, none⟩) (by simp; omega) _;have hx : Hid (Below w.heap.size w (((w8.setCell ⟨g3, 12, none⟩ (.int .u32 (wr3 (i4 ^^^ lo)))).setCell ⟨g3, 13, none⟩ (.int .u32 (wr3 (i5 ^^^ hi)))).setCell ⟨g3, 15, none⟩ (.int .u32 (wr3 (~~~ i7))))) := bput (HW) (p := ⟨g3, 15, none⟩) hlr.out _;go_upto_region 11 with fail
  go_wp2_with (first
   | (refine aZH rfl 140 _ rfl g3 rfl 140 (wc3 G) (0, 0) _ hz.out hu.out rfl (hsz.out G hl.out) ?_)
   | (refine aZE rfl 140 _ _ rfl g2 (wc3 G) rfl rfl 140 _ hy.out (hsz.out G hl.out) (hold.out G hl.out) (hall.out G) ?_))
  exact aZB (aZZ rfl _ _ g2 _ _ (0, 0) _ rfl (hy.row _) hu.out rfl (hsz.out G hl.out)) rfl ⟨rfl, brow hx.out hl2.out _⟩
 ·have hg := HGG.out
  simp only [bZQ, if_false, if_true] at hg;have HG2 := zH hg; clear hg;have hl : Hid (G.length = 16) := by show _ = _; rw [HG2.out]; simp [HV.out]
  have hz : Hid (Blk (((w8.setCell ⟨g3, 12, none⟩ (.int .u32 (wr3 (i4 ^^^ lo)))).setCell ⟨g3, 13, none⟩ (.int .u32 (wr3 (i5 ^^^ hi)))).setCell ⟨g3, 14, none⟩ (.int .u32 (wr3 (~~~ i6)))) g3 140 (wc3 G)) := by show Blk _ _ _ _; rw [HG2.out]; exact Z14.out
  have hy : Hid (Blk (((w8.setCell ⟨g3, 12, none⟩ (.int .u32 (wr3 (i4 ^^^ lo)))).setCell ⟨g3, 13, none⟩ (.int .u32 (wr3 (i5 ^^^ hi)))).setCell ⟨g3, 14, none⟩ (.int .u32 (wr3 (~~~ i6)))) g2 140 (wc3 (zw3 16))) := (Y2.out).far (p := ⟨g3, 14, none⟩) (by simp; omega) _;have hx : Hid (Below w.heap.size w (((w8.setCell ⟨g3, 12, none⟩ (.int .u32 (wr3 (i4 ^^^ lo)))).setCell ⟨g3, 13, none⟩ (.int .u32 (wr3 (i5 ^^^ hi)))).setCell ⟨g3, 14, none⟩ (.int .u32 (wr3 (~~~ i6))))) := bput (HW) (p := ⟨g3, 14, none⟩) hlr.out _;go_upto_region 11 with fail
  go_wp2_with (first
   | (refine aZH rfl 140 _ rfl g3 rfl 140 (wc3 G) (0, 0) _ hz.out hu.out rfl (hsz.out G hl.out) ?_)
   | (refine aZE rfl 140 _ _ rfl g2 (wc3 G) rfl rfl 140 _ hy.out (hsz.out G hl.out) (hold.out G hl.out) (hall.out G) ?_))
  exact aZB (aZZ rfl _ _ g2 _ _ (0, 0) _ rfl (hy.row _) hu.out rfl (hsz.out G hl.out)) rfl ⟨rfl, brow hx.out hl2.out _⟩
 ·have hg := HGG.out
  simp only [if_true] at hg;have HG2 := zH hg; clear hg;have hl : Hid (G.length = 16) := by show _ = _; rw [HG2.out]; simp [HV.out]
  have hz : Hid (Blk ((((w8.setCell ⟨g3, 12, none⟩ (.int .u32 (wr3 (i4 ^^^ lo)))).setCell ⟨g3, 13, none⟩ (.int .u32 (wr3 (i5 ^^^ hi)))).setCell ⟨g3, 14, none⟩ (.int .u32 (wr3 (~~~ i6)))).setCell ⟨g3, 15, none⟩ (.int .u32 (wr3 (~~~ i7)))) g3 140 (wc3 G)) := by show Blk _ _ _ _; rw [HG2.out]; exact Z16.out
  have hy : Hid (Blk ((((w8.setCell ⟨g3, 12, none⟩ (.int .u32 (wr3 (i4 ^^^ lo)))).setCell ⟨g3, 13, none⟩ (.int .u32 (wr3 (i5 ^^^ hi)))).setCell ⟨g3, 14, none⟩ (.int .u32 (wr3 (~~~ i6)))).setCell ⟨g3, 15, none⟩ (.int .u32 (wr3 (~~~ i7)))) g2 140 (wc3 (zw3 16))) := ((Y2.out).far (p := ⟨g3, 14, none⟩) (by simp; omega) _).far (p := ⟨g3, 15, none⟩) (by simp; omega) _;have hx : Hid (Below w.heap.size w ((((w8.setCell ⟨g3, 12, none⟩ (.int .u32 (wr3 (i4 ^^^ lo)))).setCell ⟨g3, 13, none⟩ (.int .u32 (wr3 (i5 ^^^ hi)))).setCell ⟨g3, 14, none⟩ (.int .u32 (wr3 (~~~ i6)))).setCell ⟨g3, 15, none⟩ (.int .u32 (wr3 (~~~ i7))))) := bput (bput (HW) (p := ⟨g3, 14, none⟩) hlr.out _) (p := ⟨g3, 15, none⟩) hlr.out _;go_upto_region 11 with fail
  go_wp2_with (first
   | (refine aZH rfl 140 _ rfl g3 rfl 140 (wc3 G) (0, 0) _ hz.out hu.out rfl (hsz.out G hl.out) ?_)
   | (refine aZE rfl 140 _ _ rfl g2 (wc3 G) rfl rfl 140 _ hy.out (hsz.out G hl.out) (hold.out G hl.out) (hall.out G) ?_))
  exact aZB (aZZ rfl _ _ g2 _ _ (0, 0) _ rfl (hy.row _) hu.out rfl (hsz.out G hl.out)) rfl ⟨rfl, brow hx.out hl2.out _⟩
def z8s : Array Value := #[.int .u32 0, .int .u32 0, .int .u32 0, .int .u32 0, .int .u32 0, .int .u32 0, .int .u32 0, .int .u32 0]
theorem initOf3_len (H : List UInt32) (lo hi : UInt32) (last node : Bool) (h : H.length = 8) : (initOf3 H lo hi last node).length = 16 := by
 have : (H ++ iv32).length = 16 := by rw [aZN, h]; rfl
 unfold initOf3
 cases last <;> cases node <;> simp [this]
def roundsTo3 (M : List UInt32) : Nat -> List UInt32 -> List UInt32
  | 0, V => V
  | r + 1, V => turn32 M r (roundsTo3 M r V)
theorem roundsTo3_len (M : List UInt32) (r : Nat) (V : List UInt32) : (roundsTo3 M r V).length = V.length := by
 induction r with
 | zero => rfl
 | succ r ih => unfold roundsTo3; rw [turn32_len, ih]
def outOf3 (H V : List UInt32) : List UInt32 := (List.range 8).map fun i => H.getD i 0 ^^^ (V.getD i 0 ^^^ V.getD (i + 8) 0)
theorem outOf3_len (H V : List UInt32) : (outOf3 H V).length = 8 := by simp [outOf3]
theorem outOf3_at (H V : List UInt32) (k : Nat) (hk : k < 8) : (outOf3 H V)[k]? = some (H.getD k 0 ^^^ (V.getD k 0 ^^^ V.getD (k + 8) 0)) := by simp [outOf3, hk]
def comp32 (H M : List UInt32) (cnt : UInt64) (last node : Bool) : List UInt32 := outOf3 H (roundsTo3 M 10 (initOf3 H (lo32 cnt) (hi32 cnt) last node))
theorem comp32_len (H M : List UInt32) (cnt : UInt64) (last node : Bool) : (comp32 H M cnt last node).length = 8 := outOf3_len _ _
def half3 (z x : List UInt32) (k : Nat) : List UInt32 := z.take k ++ x.drop k
theorem half3_put (z x : List UInt32) (k : Nat) (v : UInt32) (hz : z[k]? = some v) (hl : x.length = z.length) : (half3 z x k).set k v = half3 z x (k + 1) := by
 have hk : k < z.length := (List.getElem?_eq_some_iff.1 hz).1;have h1 : (z.take k).length = k := by simp; omega
 unfold half3;rw [List.take_add_one, hz, List.drop_eq_getElem_cons (by omega), List.set_append, if_neg (by rw [h1]; omega), h1, Nat.sub_self, List.set_cons_zero, List.append_assoc]
 rfl
theorem half3_at (z x : List UInt32) (k : Nat) (hk : k < x.length) (hl : x.length = z.length) : (half3 z x k)[k]? = some (x.getD k 0) := by
 have h1 : (z.take k).length = k := by simp; omega
 unfold half3;rw [aZV (by omega), h1, Nat.sub_self, List.getElem?_drop, Nat.add_zero, List.getD_eq_getElem?_getD, aZP hk]
 rfl
theorem half3_all (z x : List UInt32) (n : Nat) (hz : z.length = n) (hx : x.length = n) : half3 z x n = z := by
 unfold half3; rw [List.take_of_length_le (by omega), List.drop_of_length_le (by omega), List.append_nil]
theorem getD3 (l : List UInt32) (k : Nat) (h : k < l.length) : l[k]? = some (l.getD k 0) := by rw [List.getD_eq_getElem?_getD, aZP h]; rfl
theorem end3_any (H R : List UInt32) (w : World) (hH : H.length = 8) (hR : R.length = 16) :
  Calls Tryz.prog 120 #[.agg (wc3 H), .agg (wc3 R)] w fun e w' => e = .returned (.agg (wc3 (outOf3 H R))) /\ Below w.heap.size w w' := by
 have HH := zH hH; have HVl := zH hR; clear hH hR;have hu8 := zH Tryz.underlying130;obtain ⟨F, hF⟩ : ∃ F, F = outOf3 H R := ⟨_, rfl⟩;have hFl : F.length = 8 := by rw [hF, outOf3_len]
 rw [<- hF];have HFl := zH hFl; have HF := zH hF; clear hFl hF;go_enter Tryz.func120, Tryz.ntmps120;go_upto_region 1 with fail
 obtain ⟨w1, hw1⟩ : ∃ w1, w1 = w.alloc (.cells (wc3 H) 130) := ⟨_, rfl⟩;obtain ⟨w3, hw3⟩ : ∃ w3, w3 = w1.alloc (.cells (wc3 R) 140) := ⟨_, rfl⟩;obtain ⟨w4, hw4⟩ : ∃ w4, w4 = w3.alloc (.cells (wc3 (zw3 8)) 130) := ⟨_, rfl⟩;have e4 : ((w.alloc (.cells (wc3 H) 130)).alloc (.cells (wc3 R) 140)).alloc (.cells z8s 130) = w4 := by rw [hw4, hw3, hw1]; rfl
 unfold z8s at e4;rw [e4];have n0 : Blk w4 w.heap.size 130 (wc3 H) := by rw [hw4, hw3, hw1]; exact ((Blk.new _ _ _).alloc _).alloc _
 have n2 : Blk w4 (w.heap.size + 1) 140 (wc3 R) := by
  have : w1.heap.size = w.heap.size + 1 := by rw [hw1]; simp
  rw [<- this, hw4, hw3]; exact (Blk.new _ _ _).alloc _
 have n3 : Blk w4 (w.heap.size + 1 + 1) 130 (wc3 (zw3 8)) := by
  have : w3.heap.size = w.heap.size + 1 + 1 := by rw [hw3, hw1]; simp
  rw [<- this, hw4]; exact Blk.new _ _ _
 have n4 : Below w.heap.size w w4 := by rw [hw4, hw3, hw1]; exact bal (bal (bal (b0 _) _) _) _
 clear hw1 hw3 hw4 e4 w1 w3;obtain ⟨g0, hg0⟩ : ∃ g, g = w.heap.size := ⟨_, rfl⟩;obtain ⟨g1, hg1⟩ : ∃ g, g = w.heap.size + 1 := ⟨_, rfl⟩;obtain ⟨g3, hg3⟩ : ∃ g, g = w.heap.size + 1 + 1 := ⟨_, rfl⟩;rw [<- hg3, <- hg1, <- hg0];rw [<- hg0] at n0; rw [<- hg1] at n2; rw [<- hg3] at n3;have l01 : g0 < g1 := by omega
 have l13 : g1 < g3 := by omega
 have l0 : Hid (w.heap.size <= g0) := by show _ <= _; omega
 have N0 := zH n0; have N6 := zH n2; have N3 := zH n3; have N4 := zH n4;clear n0 n2 n3 n4 hg0 hg1 hg3;go_wp2_with fail;go_loopw [6] (fun i wr => ∃ k : Nat, k <= 8 /\ i = .int .i64 k /\ Blk wr g0 130 (wc3 (half3 F H k)) /\ Blk wr g1 140 (wc3 R) /\ Blk wr g3 130 (wc3 (zw3 8)) /\ Below w.heap.size w wr) (fun i _ => 8 - (intOf i).toNat)
 case atStart => exact ⟨0, by omega, rfl, by simpa [half3] using N0.out, N6.out, N3.out, N4.out⟩
 case round =>
  clear N0 N3 N4 N6;obtain ⟨k, hk, rfl, x0, x6, x3, x4⟩ := hrel;have N0 := zH x0; have N3 := zH x3; have N4 := zH x4; have N6 := zH x6; clear x0 x3 x4 x6
  by_cases hlt : k < 8
  ·have eF := outOf3_at H R k hlt
   rw [<- HF.out] at eF;obtain ⟨k8, hk8⟩ : ∃ k8, k8 = k + 8 := ⟨_, rfl⟩;rw [<- hk8] at eF;have e8 : (k : Int) + 8 = (k8 : Int) := by omega
   have w8' : IntKind.i64.wrap (k8 : Int) = k8 := by simp [aZU, aZR, aZM]; omega
   obtain ⟨p, hp⟩ : ∃ p, p = H.getD k 0 := ⟨_, rfl⟩;obtain ⟨q, hq⟩ : ∃ q, q = R.getD k 0 := ⟨_, rfl⟩;obtain ⟨r, hr⟩ : ∃ r, r = R.getD k8 0 := ⟨_, rfl⟩;have c0 : wr.cell? ⟨g0, k, none⟩ = some (.int .u32 (wr3 p)) := by rw [N0.cell, wc3_at' _ k p (by rw [hp]; exact half3_at F H k (by rw [HH.out]; exact hlt) (by rw [HH.out, HFl.out]))]
   have c1 : wr.cell? ⟨g1, k, none⟩ = some (.int .u32 (wr3 q)) := by rw [N6.cell, wc3_at' _ k q (by rw [hq]; exact getD3 R k (by rw [HVl.out]; omega))]
   have c2 : wr.cell? ⟨g1, k8, none⟩ = some (.int .u32 (wr3 r)) := by rw [N6.cell, wc3_at' _ k8 r (by rw [hr]; exact getD3 R k8 (by rw [HVl.out]; omega))]
   have cf : wr.frozen? ⟨g0, k, none⟩ = false := N0.frozen k;rw [<- hp, <- hq, <- hr] at eF;have EF := zH eF; clear eF hp hq hr;have h2 := wr3_xor;have hki : (k : Int) < 8 := by omega
   have hk8i : (k8 : Int) < 16 := by omega
   have hk16 : (k : Int) < 16 := by omega
   have hkd : decide ((k : Int) < 8) = true := by simp; omega
   clear hk8;go_wp2;refine wrZ (fun _ => True) (fun _ _ h => h) (Ords.of [(0, 0), (0, 1), (1, 2), (0, 3), (0, 4), (1, 5), (0, 6), (0, 7), (0, 8), (1, 9), (0, 10), (0, 11), (0, 12), (2, 13)] .fin) trivial ?_
   iterate 13 ((first | refine ords_pure rfl (fun K hK => ?_) | refine ords_read rfl (fun K hK => ?_)); go_simp; refine hK _ ?_; clear hK K)
   refine ords_loud rfl (fun n1 => ?_);go_wp2
   first | (refine ⟨trivial, ?_⟩; refine ords_end (fun n2 => ?_)) | (rintro _ ⟨n2, rfl⟩)
   go_wp2_with fail;go_roundw
   case rel =>
    have h0 := ((N0.drewN n1).set_ k (wv3 (p ^^^ (q ^^^ r)))).drewN n2;rw [wc3_set, half3_put F H k _ EF.out (by rw [HH.out, HFl.out])] at h0;exact ⟨k + 1, by omega, by go_num, h0, ((N6.drewN n1).far (p := ⟨g0, k, none⟩) (by simp; omega) _).drewN n2, ((N3.drewN n1).far (p := ⟨g0, k, none⟩) (by simp; omega) _).drewN n2, bdr (bput (bdr N4.out n1) (p := ⟨g0, k, none⟩) l0.out _) n2⟩
   case measure => simp [intOf]; omega
  ·obtain rfl : k = 8 := by omega
   clear hlt hk;have x0 := N0.out;rw [half3_all F H 8 HFl.out HH.out] at x0;have X0 := zH x0; clear x0 N0;have sF := zH (sz8s F HFl);have aF := zH (wc3_all F);have hoF : Hid ((wc3 (zw3 8)).size = (wc3 F).size) := by show _ = _; rw [wc3_size, wc3_size, HFl.out]; rfl
   have hl3 : Hid (w.heap.size <= g3) := by show _ <= _; have := l0.out; omega
   go_upto_region 6 with fail
   go_wp2_with (first
    | (refine aZH rfl 130 _ rfl g0 rfl 130 (wc3 F) (0, 0) _ X0 hu8.out rfl sF.out ?_)
    | (refine aZE rfl 130 _ _ rfl g3 (wc3 F) rfl rfl 130 _ N3 sF.out hoF.out aF.out ?_))
   exact aZB (aZZ rfl _ _ g3 _ _ (0, 0) _ rfl (N3.row _) hu8.out rfl sF.out) rfl ⟨rfl, brow N4 hl3.out _⟩
theorem comp3_any (H M : List UInt32) (cnt : UInt64) (last node : Bool) (w : World) (hH : H.length = 8) (hM : M.length = 16) :
  Calls Tryz.prog 107 #[.agg (wc3 H), .agg (wc3 M), .int .u64 (wrd cnt), .bool last, .bool node] w fun e w' => e = .returned (.agg (wc3 (comp32 H M cnt last node))) /\ Below w.heap.size w w' := by
 have HH := zH hH; have HM := zH hM;have hIl := initOf3_len H (lo32 cnt) (hi32 cnt) last node hH;have hI := fun w => begin3_any H cnt last node w hH
 unfold comp32;generalize initOf3 H (lo32 cnt) (hi32 cnt) last node = V at *;have HI := zH hI; have HVl := zH hIl; clear hI hIl hH hM;have hu8 := zH Tryz.underlying130; have hu16 := zH Tryz.underlying140;have s8 := zH (sz8s H HH);have sV := zH (sz16s V HVl);have aV := zH (wc3_all V);have holdV : Hid ((wc3 (zw3 16)).size = (wc3 V).size) := by show _ = _; rw [wc3_size, wc3_size, HVl.out]; rfl
 go_enter Tryz.func107, Tryz.ntmps107;go_upto_region 1 with fail
 obtain ⟨w1, hw1⟩ : ∃ w1, w1 = w.alloc (.cells (wc3 H) 130) := ⟨_, rfl⟩;obtain ⟨w3, hw3⟩ : ∃ w3, w3 = w1.alloc (.cells (wc3 M) 140) := ⟨_, rfl⟩;obtain ⟨w4, hw4⟩ : ∃ w4, w4 = w3.alloc (.cells (wc3 (zw3 8)) 130) := ⟨_, rfl⟩;have e4 : ((w.alloc (.cells (wc3 H) 130)).alloc (.cells (wc3 M) 140)).alloc (.cells z8s 130) = w4 := by rw [hw4, hw3, hw1]; rfl
 unfold z8s at e4;rw [e4];have n0 : Blk w4 w.heap.size 130 (wc3 H) := by rw [hw4, hw3, hw1]; exact ((Blk.new _ _ _).alloc _).alloc _
 have n2 : Blk w4 (w.heap.size + 1) 140 (wc3 M) := by
  have : w1.heap.size = w.heap.size + 1 := by rw [hw1]; simp
  rw [<- this, hw4, hw3]; exact (Blk.new _ _ _).alloc _
 have n3 : Blk w4 (w.heap.size + 1 + 1) 130 (wc3 (zw3 8)) := by
  have : w3.heap.size = w.heap.size + 1 + 1 := by rw [hw3, hw1]; simp
  rw [<- this, hw4]; exact Blk.new _ _ _
 have n4 : Below w.heap.size w w4 := by rw [hw4, hw3, hw1]; exact bal (bal (bal (b0 _) _) _) _
 clear hw1 hw3 hw4 e4 w1 w3;obtain ⟨g0, hg0⟩ : ∃ g, g = w.heap.size := ⟨_, rfl⟩;obtain ⟨g1, hg1⟩ : ∃ g, g = w.heap.size + 1 := ⟨_, rfl⟩;obtain ⟨g3, hg3⟩ : ∃ g, g = w.heap.size + 1 + 1 := ⟨_, rfl⟩;rw [<- hg3, <- hg1, <- hg0];rw [<- hg0] at n0; rw [<- hg1] at n2; rw [<- hg3] at n3;have l01 : g0 < g1 := by omega
 have l13 : g1 < g3 := by omega
 have l0 : Hid (w.heap.size <= g0) := by show _ <= _; omega
 have N0 := zH n0; have N1 := zH n2; have N3 := zH n3; have N4 := zH n4;clear n0 n2 n3 n4 hg0 hg1 hg3;go_wp2_with (refine aZH rfl 130 _ rfl g0 rfl 130 (wc3 H) (0, 0) _ N0 hu8.out rfl s8.out ?_);refine (HI _).mono ?_;rintro e w6 ⟨rfl, hb6⟩;replace N0 := zH (N0.below hb6 N0.lt); replace N1 := zH (N1.below hb6 N1.lt); replace N3 := zH (N3.below hb6 N3.lt); replace N4 := zH (bcall N4 hb6);have l36 : g3 < w6.heap.size := N3.lt;clear hb6;have n6 : Blk (w6.alloc (.cells z16s 140)) w6.heap.size 140 (wc3 (zw3 16)) := Blk.new _ _ _;have v0 := N0.alloc (.cells z16s 140); have v1 := N1.alloc (.cells z16s 140); have v3 := N3.alloc (.cells z16s 140); have v4 := bal N4 (.cells z16s 140);have l6 := N4.size;obtain ⟨g6, hg6⟩ : ∃ g6, g6 = w6.heap.size := ⟨_, rfl⟩;unfold z16s at n6 v0 v1 v3 v4;have N6 := zH n6; have hw6 : Hid (w.heap.size <= w6.heap.size) := l6; clear n6 l6;go_upto_region 2 with (refine aZE rfl 140 _ _ rfl w6.heap.size (wc3 V) rfl rfl 140 _ N6 sV.out holdV.out aV.out ?_)
 have n6 := N6.row (wc3 V);replace v0 := v0.rowFar (k := w6.heap.size) (by omega) (wc3 V); replace v1 := v1.rowFar (k := w6.heap.size) (by omega) (wc3 V); replace v3 := v3.rowFar (k := w6.heap.size) (by omega) (wc3 V); replace v4 := brow v4 hw6.out (wc3 V);rw [<- hg6] at n6 v0 v1 v3 v4 l36 ⊢;clear N0 N1 N3 N4 N6 sV holdV aV;generalize (w6.alloc (.cells #[.int .u32 0, .int .u32 0, .int .u32 0, .int .u32 0, .int .u32 0, .int .u32 0, .int .u32 0, .int .u32 0, .int .u32 0, .int .u32 0, .int .u32 0, .int .u32 0, .int .u32 0, .int .u32 0, .int .u32 0, .int .u32 0] 140)).setRow g6 (wc3 V) = w7 at *;have hl6 : Hid (w.heap.size <= g6) := by show _ <= _; rw [hg6]; exact hw6.out
 clear hg6 hw6;have N0 := zH v0; have N1 := zH v1; have N3 := zH v3; have N4 := zH v4; have N6 := zH n6; clear v0 v1 v3 v4 n6;go_wp2_with fail;go_loopw [18] (fun i wr => ∃ k : Nat, k <= 10 /\ i = .int .i64 k /\ Blk wr g6 140 (wc3 (roundsTo3 M k V)) /\ Blk wr g0 130 (wc3 H) /\ Blk wr g1 140 (wc3 M) /\ Blk wr g3 130 (wc3 (zw3 8)) /\ Below w.heap.size w wr) (fun i _ => 10 - (intOf i).toNat)
 case atStart => exact ⟨0, by omega, rfl, N6.out, N0.out, N1.out, N3.out, N4.out⟩
 case round =>
  clear N0 N1 N3 N4 N6;obtain ⟨k, hk, rfl, x6, x0, x1, x3, x4⟩ := hrel;have N0 := zH x0; have N1 := zH x1; have N3 := zH x3; have N4 := zH x4; have N6 := zH x6; clear x0 x1 x3 x4 x6
  by_cases hlt : k < 10
  ·have ht := round3_any g6 g1 k (roundsTo3 M k V) M wr (by omega) (by rw [roundsTo3_len, HVl.out]) HM.out N6.out N1.out
   have HT := zH ht; clear ht;have hkd : decide ((k : Int) < 10) = true := by simp; omega
   go_wp2_with (go_at_call 119; refine HT.mono ?_; rintro e w8 ⟨rfl, hz8, hg8⟩; have HZ8 := zH hz8; have HG8 := zH hg8; clear hz8 hg8);go_roundw
   case rel => exact ⟨k + 1, by omega, by go_num, HZ8.out, N0.grown HG8.out (by simp; omega), N1.grown HG8.out (by simp; omega), N3.grown HG8.out (by simp; omega), bgr N4.out HG8.out hl6.out⟩
   case measure => simp [intOf]; omega
  ·obtain rfl : k = 10 := by omega
   rw [show ((10 : Nat) : Int) = 10 from rfl];clear hlt hk;obtain ⟨R, hR⟩ : ∃ R, R = roundsTo3 M 10 V := ⟨_, rfl⟩;have hRl : R.length = 16 := by rw [hR, roundsTo3_len, HVl.out]
   have x6 := N6.out;rw [<- hR] at x6;have HRl := zH hRl; have HR := zH hR; have X6 := zH x6; clear hRl hR x6 N6;have sR := zH (sz16s R HRl);have hoF : Hid (∀ F : List UInt32, F.length = 8 -> (wc3 (zw3 8)).size = (wc3 F).size) := fun F h => by rw [wc3_size, wc3_size, h]; rfl
   have hl3 : Hid (w.heap.size <= g3) := by show _ <= _; have := l0.out; omega
   have hE := end3_any H R wr HH HRl.out;obtain ⟨F, hF⟩ : ∃ F, F = outOf3 H R := ⟨_, rfl⟩;have hFl : F.length = 8 := by rw [hF, outOf3_len]
   rw [<- hF] at hE;have hff : F = outOf3 H (roundsTo3 M 10 V) := by rw [hF, HR.out]
   have HE := zH hE; have HFl := zH hFl; have HFF := zH hff; clear hE hFl hF hff;have sF := zH (sz8s F HFl);have aF := zH (wc3_all F);go_upto_region 7 with fail
   go_wp2_with (first
    | (refine aZH rfl 130 _ rfl g0 rfl 130 (wc3 H) (0, 0) _ N0 hu8.out rfl s8.out ?_)
    | (refine aZH rfl 140 _ rfl g6 rfl 140 (wc3 R) (0, 0) _ X6 hu16.out rfl sR.out ?_)
    | (go_at_call 120; refine HE.mono ?_; rintro e w9 ⟨rfl, hb9⟩)
    | (refine aZE rfl 130 _ _ rfl g3 (wc3 F) rfl rfl 130 _ (N3.below hb9 N3.lt) sF.out (hoF.out F HFl) aF.out ?_))
   exact aZB (aZZ rfl _ _ g3 _ _ (0, 0) _ rfl ((N3.below hb9 N3.lt).row _) hu8.out rfl sF.out) rfl ⟨by rw [HFF.out], brow (bcall N4.out hb9) hl3.out _⟩
def word3 (l : List UInt8) : UInt32 := UInt32.ofNat (le l)
theorem word_3 (l : List UInt8) (h : l.length <= 4) : IntKind.u32.wrap (wrd (word l)) = wr3 (word3 l) := by
 have h1 := le_lt l;have h2 : 256 ^ l.length <= 256 ^ 4 := Nat.pow_le_pow_right (by omega) h;rw [wrd_word l (by omega)];unfold word3;rw [wr3_ofNat, wrap_u32w];omega
theorem load32_any (A : Option Addr) (c N at_ B : Nat) (l : List UInt8) (w : World) (hN : l.length = N) (hm : N <= 9223372036854775807) (hr : RS cB w B A l) (hat : at_ + 4 <= N) :
  Calls Tryz.prog 75 #[.slice A N c, .int .i64 at_] w fun e w' => e = .returned (.tuple #[.int .u32 (wr3 (word3 ((l.drop at_).take 4))), .int .i64 0]) /\ w = w' := by
 have h := load_any A c N at_ 4 B l w hN hm hr hat (by omega);have h3 := word_3 ((l.drop at_).take 4) (by simp; omega);rw [show ((4 : Nat) : Int) = 4 from rfl] at h;generalize word ((l.drop at_).take 4) = v at *;generalize word3 ((l.drop at_).take 4) = u at *;have H := zH h; clear h hr hN;go_enter Tryz.func75, Tryz.ntmps75;go_wp2_with (go_at_call 92; refine H.mono ?_; rintro e w1 ⟨rfl, rfl⟩);exact aZB (results_tmp2 rfl _ _ _) rfl ⟨rfl, rfl⟩
def words3 (b : List UInt8) (n : Nat) : List UInt32 := (List.range n).map fun i => word3 ((b.drop (4 * i)).take 4)
theorem words3_len (b : List UInt8) (n : Nat) : (words3 b n).length = n := by simp [words3]
theorem words3_at (b : List UInt8) (n i : Nat) (h : i < n) : (words3 b n)[i]? = some (word3 ((b.drop (4 * i)).take 4)) := by simp [words3, h]
def xor3W (a b : List UInt32) : List UInt32 := List.zipWith (· ^^^ ·) a b
theorem xor3W_len (a b : List UInt32) (h : b.length = a.length) : (xor3W a b).length = a.length := by simp [xor3W, h]
theorem xor3W_at (x y : List UInt32) (k : Nat) (a b : UInt32) (ha : x[k]? = some a) (hb : y[k]? = some b) : (xor3W x y)[k]? = some (a ^^^ b) := by
 unfold xor3W;rw [List.getElem?_zipWith, ha, hb]
def flat3 (z : List UInt32) : List UInt8 := z.flatMap fun w => storeN w.toNat 4
theorem flat3_len (z : List UInt32) : (flat3 z).length = 4 * z.length := by
 induction z with
 | nil => rfl
 | cons a z ih => simp only [flat3, List.flatMap_cons, aZN, storeN_len, List.length_cons] at ih ⊢; omega
theorem flat3_snoc (z : List UInt32) (a : UInt32) : flat3 (z ++ [a]) = flat3 z ++ storeN a.toNat 4 := by simp [flat3]
theorem right_any (A : Option Addr) (c n : Nat) (w : World) : Calls Tryz.prog 103 #[.slice A n c, .int .i64 n] w fun e w' => e = .returned (.int .i64 0) /\ w = w' := by
 have h1 : ¬ (n : Int) < n := by omega
 go_enter Tryz.func103, Tryz.ntmps103;go_wp2;exact aZB (results_tmp rfl _ _ _) rfl ⟨rfl, rfl⟩
theorem wordsInto_any (g n : Nat) (t : TypeId) (A : Option Addr) (c m : Nat) (Z : List UInt32) (x : List UInt8) (B : Nat) (w : World) (hn : n <= 16) (hZ : Z.length = n) (hx : x.length = m) (hm : m = 4 * n) (hB : B <= g) (hr : RS cB w B A x) (hg : Blk w g t (wc3 Z)) :
  Calls Tryz.prog 104 #[.slice (some ⟨g, 0, none⟩) n n, .slice A m c] w fun e w' => e = .returned (.tuple #[]) /\ Blk w' g t (wc3 (words3 x n)) /\ w.grownBy w' (some g) := by
 obtain ⟨M, hM⟩ : ∃ M, M = words3 x n := ⟨_, rfl⟩;have hMl : M.length = n := by rw [hM, words3_len]
 rw [<- hM];have HX := zH hx; have HR := zH hr; have HZ := zH hZ; have HG := zH hg; have HM := zH hM; have HML := zH hMl; have HMM := zH hm; clear hx hr hZ hg hM hMl hm;go_enter Tryz.func104, Tryz.ntmps104;go_wp2_with fail;go_loopw [7] (fun i wr => ∃ k : Nat, k <= n /\ i = .int .i64 k /\ Blk wr g t (wc3 (half3 M Z k)) /\ RS cB wr B A x /\ w.grownBy wr (some g)) (fun i _ => n - (intOf i).toNat)
 case atStart => exact ⟨0, by omega, rfl, by simpa [half3] using HG.out, HR.out, only_of_below (b0 w) _⟩
 case round =>
  obtain ⟨k, hk, rfl, x0, x1, x4⟩ := hrel;have N0 := zH x0; have N1 := zH x1; have N4 := zH x4; clear x0 x1 x4
  by_cases hlt : k < n
  ·have hl := load32_any A c m (4 * k) B x wr HX.out (by have := HMM.out; omega) N1.out (by have := HMM.out; omega)
   have e8 : ((4 * k : Nat) : Int) = 4 * (k : Int) := by omega
   rw [e8] at hl;obtain ⟨v, hv⟩ : ∃ v, v = word3 ((x.drop (4 * k)).take 4) := ⟨_, rfl⟩;have hmk : M[k]? = some v := by rw [HM.out, words3_at x n k hlt, hv]
   rw [<- hv] at hl;have gc : wr.cell? ⟨g, k, none⟩ = some (.int .u32 (wr3 (Z.getD k 0))) := by rw [N0.cell, wc3_at' _ k _ (half3_at M Z k (by rw [HZ.out]; exact hlt) (by rw [HZ.out, HML.out]))]
   have gf : wr.frozen? ⟨g, k, none⟩ = false := N0.frozen k;generalize Z.getD k 0 = old at gc;have HL := zH hl; have HMK := zH hmk; clear hl hv e8 hmk;have hki : (k : Int) < n := by omega
   have hkd : decide ((k : Int) < n) = true := by simp; omega
   go_wp2_with (go_at_call 75; refine HL.mono ?_; rintro e w1 ⟨rfl, rfl⟩)
   case roundEnd =>
    have h1 := N0.set_ k (wv3 v);rw [wc3_set, half3_put M Z k _ HMK.out (by rw [HZ.out, HML.out])] at h1;exact ⟨⟨k + 1, by omega, by go_num, h1, N1.setCell (p := ⟨g, k, none⟩) hB _, grown_set N4.out (p := ⟨g, k, none⟩) (.inl rfl) _⟩, by simp [intOf]; omega⟩
  ·obtain rfl : k = n := by omega
   have x0 := N0.out;rw [half3_all M Z k HML.out HZ.out] at x0;go_wp2_with fail;go_end0;exact ⟨rfl, x0, N4.out⟩
theorem blockWords3_any (A : Option Addr) (c : Nat) (x : List UInt8) (B : Nat) (w : World) (hx : x.length = 64) (hB : B <= w.heap.size) (hr : RS cB w B A x) :
  Calls Tryz.prog 106 #[.slice A 64 c] w fun e w' => e = .returned (.tuple #[.agg (wc3 (words3 x 16)), .int .i64 0]) /\ Below w.heap.size w w' := by
 have HX := zH hx; have HR := zH (hr.more hB); clear hx hr;have hMl : (words3 x 16).length = 16 := words3_len x 16;have hu := zH Tryz.underlying140;have n0 : Blk ((w.alloc (.cells z16s 140)).alloc (.cells z16s 140)) w.heap.size 140 (wc3 (zw3 16)) := (Blk.new _ _ _).alloc _;have n1 : Blk ((w.alloc (.cells z16s 140)).alloc (.cells z16s 140)) (w.heap.size + 1) 140 (wc3 (zw3 16)) := by
  have h := Blk.new (w.alloc (.cells z16s 140)) 140 z16s;rw [show (w.alloc (.cells z16s 140)).heap.size = w.heap.size + 1 by simp] at h;exact h
 have n4 := bal (bal (b0 w) (.cells z16s 140)) (.cells z16s 140);have n5 := HR.below n4;have hw := wordsInto_any (w.heap.size + 1) 16 140 A c 64 (zw3 16) x w.heap.size _ (by omega) rfl HX.out rfl (by omega) n5 n1;generalize words3 x 16 = M at *;have HML := zH hMl; clear hMl;have sM := zH (sz16s M HML);have aM := zH (wc3_all M);have hoM : Hid ((wc3 (zw3 16)).size = (wc3 M).size) := by show _ = _; rw [wc3_size, wc3_size, HML.out]; rfl
 unfold z16s at n0 n1 n4 n5 hw;have N0 := zH n0; have N4 := zH n4; have HW := zH hw; clear n0 n1 n4 n5 hw;go_enter Tryz.func106, Tryz.ntmps106;go_wp2_with fail;refine (right_any A c 64 _).mono ?_;rintro e w1 ⟨rfl, rfl⟩;go_wp2_with fail;refine HW.mono ?_;rintro e w2 ⟨rfl, hz2, hg2⟩;have N1 := zH hz2;have hb2 := bgr N4.out hg2 (by omega);replace N0 := zH (N0.grown hg2 (by simp));have HB2 := zH hb2; clear hz2 hg2 hb2;go_wp2_with (first
  | (refine aZH rfl 140 _ rfl (w.heap.size + 1) rfl 140 (wc3 M) (0, 0) _ N1 hu.out rfl sM.out ?_)
  | (refine aZE rfl 140 _ _ rfl w.heap.size (wc3 M) rfl rfl 140 _ N0 sM.out hoM.out aM.out ?_))
 exact aZB (results_cell_tmp rfl _ _ w.heap.size _ _ _ rfl (N0.row _) hu.out rfl sM.out) rfl ⟨rfl, brow HB2 (Nat.le_refl _) _⟩
def start32 (l : List UInt8) : List UInt32 := xor3W iv32 (words3 l 8)
theorem start32_len (l : List UInt8) : (start32 l).length = 8 := by unfold start32; rw [xor3W_len _ _ (by rw [words3_len]; rfl)]; rfl
theorem start3_any (A : Option Addr) (c : Nat) (x : List UInt8) (B : Nat) (w : World) (hx : x.length = 32) (hB : B <= w.heap.size) (hr : RS cB w B A x) :
  Calls Tryz.prog 84 #[.slice A 32 c] w fun e w' => e = .returned (.tuple #[.agg (wc3 (start32 x)), .int .i64 0]) /\ Below w.heap.size w w' := by
 have HX := zH hx; have HR := zH (hr.more hB); clear hx hr;obtain ⟨S, hS⟩ : ∃ S, S = start32 x := ⟨_, rfl⟩;have hSl : S.length = 8 := by rw [hS, start32_len]
 have hPl : (words3 x 8).length = 8 := words3_len x 8;have hSk : ∀ k, k < 8 -> S[k]? = some (iv32.getD k 0 ^^^ (words3 x 8).getD k 0) := by
  intro k hk;rw [hS];exact xor3W_at iv32 (words3 x 8) k _ _ (getD3 iv32 k hk) (getD3 _ k (by rw [hPl]; exact hk))
 rw [<- hS];have hiv := iv3_any;have hIl : iv32.length = 8 := rfl;have n0 : Blk ((w.alloc (.cells z8s 130)).alloc (.cells z8s 130)) w.heap.size 130 (wc3 (zw3 8)) := (Blk.new _ _ _).alloc _;have n1 : Blk ((w.alloc (.cells z8s 130)).alloc (.cells z8s 130)) (w.heap.size + 1) 130 (wc3 (zw3 8)) := by
  have h := Blk.new (w.alloc (.cells z8s 130)) 130 z8s;rw [show (w.alloc (.cells z8s 130)).heap.size = w.heap.size + 1 by simp] at h;exact h
 have n4 := bal (bal (b0 w) (.cells z8s 130)) (.cells z8s 130);have n5 := HR.below n4;have hw := wordsInto_any (w.heap.size + 1) 8 130 A c 32 (zw3 8) x w.heap.size _ (by omega) rfl HX.out rfl (by omega) n5 n1;generalize iv32 = I at *;generalize words3 x 8 = P at *;have HSK := zH hSk; have HSL := zH hSl; have HIV := zH hiv; have HIL := zH hIl; have HPL := zH hPl; clear hS hSl hSk hiv hIl hPl;have sI := zH (sz8s I HIL);have hu := zH Tryz.underlying130;have sS := zH (sz8s S HSL);have aS := zH (wc3_all S); have aI := zH (wc3_all I);have hoS : Hid ((wc3 (zw3 8)).size = (wc3 S).size) := by show _ = _; rw [wc3_size, wc3_size, HSL.out]; rfl
 have hoI : Hid ((wc3 (zw3 8)).size = (wc3 I).size) := by show _ = _; rw [wc3_size, wc3_size, HIL.out]; rfl
 unfold z8s at n0 n1 n4 n5 hw;have N0 := zH n0; have N4 := zH n4; have HW := zH hw; clear n0 n1 n4 n5 hw;go_enter Tryz.func84, Tryz.ntmps84;go_wp2_with fail;refine (right_any A c 32 _).mono ?_;rintro e w1 ⟨rfl, rfl⟩;go_wp2_with fail;refine HW.mono ?_;rintro e w2 ⟨rfl, hz2, hg2⟩;have N1 := zH hz2;have hb2 := bgr N4.out hg2 (by omega);replace N0 := zH (N0.grown hg2 (by simp));replace N4 := zH hb2; clear hz2 hg2 hb2 HW;go_wp2_with fail;refine (HIV _).mono ?_;rintro e w3 ⟨rfl, hb3⟩;have q0 := (N0.below hb3 N0.lt).alloc (.cells z8s 130);have q1 := (N1.below hb3 N1.lt).alloc (.cells z8s 130);have q4 := bal (bcall N4 hb3) (.cells z8s 130);have q2 : Blk (w3.alloc (.cells z8s 130)) w3.heap.size 130 (wc3 (zw3 8)) := Blk.new _ _ _;have hs3 : w.heap.size + 1 < w3.heap.size := by have := N1.lt; have := hb3.size; omega
 unfold z8s at q0 q1 q2 q4;have Q2 := zH q2; clear q2 hb3 N0 N1 N4;go_upto_region 7 with (refine aZE rfl 130 _ _ rfl w3.heap.size (wc3 I) rfl rfl 130 _ Q2 sI.out hoI.out aI.out ?_)
 have q2 := Q2.row (wc3 I);replace q0 := q0.rowFar (k := w3.heap.size) (by omega) (wc3 I); replace q1 := q1.rowFar (k := w3.heap.size) (by omega) (wc3 I); replace q4 := brow q4 (g := w3.heap.size) (by omega) (wc3 I);obtain ⟨b, hb⟩ : ∃ b, b = w.heap.size := ⟨_, rfl⟩;obtain ⟨b1, hb1⟩ : ∃ b1, b1 = w.heap.size + 1 := ⟨_, rfl⟩;obtain ⟨g, hg⟩ : ∃ g, g = w3.heap.size := ⟨_, rfl⟩;have hwb : Hid (w.heap.size <= b) := by (show _ <= _; omega)
 have l1 : b < b1 := by omega
 have l2 : b1 < g := by omega
 rw [<- hg] at q0 q1 q2 q4 ⊢;rw [<- hb1] at q1 ⊢;rw [<- hb] at q0 ⊢;clear Q2 hb hb1 hg hs3;generalize (w3.alloc (.cells #[.int .u32 0, .int .u32 0, .int .u32 0, .int .u32 0, .int .u32 0, .int .u32 0, .int .u32 0, .int .u32 0] 130)).setRow g (wc3 I) = w4 at *;have N0 := zH q0; have N1 := zH q1; have N2 := zH q2; have N4 := zH q4; clear q0 q1 q2 q4;go_wp2_with fail;go_loopw [18] (fun i wr => ∃ k : Nat, k <= 8 /\ i = .int .i64 k /\ Blk wr b 130 (wc3 (zw3 8)) /\ Blk wr b1 130 (wc3 P) /\ Blk wr g 130 (wc3 (half3 S I k)) /\ Below w.heap.size w wr) (fun i _ => 8 - (intOf i).toNat)
 case atStart => exact ⟨0, by omega, rfl, N0.out, N1.out, by simpa [half3] using N2.out, N4.out⟩
 case round =>
  clear N0 N1 N2 N4;obtain ⟨k, hk, rfl, x0, x1, x2, x4⟩ := hrel;have N0 := zH x0; have N1 := zH x1; have N2 := zH x2; have N4 := zH x4; clear x0 x1 x2 x4
  by_cases hlt : k < 8
  ·have hsk := HSK k hlt
   obtain ⟨q, hq⟩ : ∃ q, q = I.getD k 0 := ⟨_, rfl⟩;obtain ⟨v, hv⟩ : ∃ v, v = P.getD k 0 := ⟨_, rfl⟩;have gc : wr.cell? ⟨g, k, none⟩ = some (.int .u32 (wr3 q)) := by rw [N2.cell, wc3_at' _ k q (by rw [hq]; exact half3_at S I k (by rw [HIL.out]; exact hlt) (by rw [HIL.out, HSL.out]))]
   have gp : wr.cell? ⟨b1, k, none⟩ = some (.int .u32 (wr3 v)) := by rw [N1.cell, wc3_at' _ k v (by rw [hv]; exact getD3 P k (by rw [HPL.out]; exact hlt))]
   have gf : wr.frozen? ⟨g, k, none⟩ = false := N2.frozen k;rw [<- hq, <- hv] at hsk;have HSV := zH hsk; clear hv hsk hq;have h2 := wr3_xor;have hki : (k : Int) < 8 := by omega
   have hkd : decide ((k : Int) < 8) = true := by simp; omega
   go_wp2;refine wrZ (fun _ => True) (fun _ _ h => h) (Ords.of [(0, 0), (0, 1), (1, 2), (0, 3), (0, 4), (1, 5), (0, 6), (0, 7), (2, 8)] .fin) trivial ?_
   iterate 8 ((first | refine ords_pure rfl (fun K hK => ?_) | refine ords_read rfl (fun K hK => ?_)); go_simp; refine hK _ ?_; clear hK K)
   refine ords_loud rfl (fun n1 => ?_);go_wp2
   first | (refine ⟨trivial, ?_⟩; refine ords_end (fun n2 => ?_)) | (rintro _ ⟨n2, rfl⟩)
   go_wp2_with fail;go_roundw
   case rel =>
    have h1 := ((N2.drewN n1).set_ k (wv3 (q ^^^ v))).drewN n2;rw [wc3_set, half3_put S I k _ HSV.out (by rw [HIL.out, HSL.out])] at h1;exact ⟨k + 1, by omega, by go_num, ((N0.drewN n1).far (p := ⟨g, k, none⟩) (by simp; omega) _).drewN n2, ((N1.drewN n1).far (p := ⟨g, k, none⟩) (by simp; omega) _).drewN n2, h1, bdr (bput (bdr N4.out n1) (p := ⟨g, k, none⟩) (by have := hwb.out; simp; omega) _) n2⟩
   case measure => simp [intOf]; omega
  ·obtain rfl : k = 8 := by omega
   clear hlt hk;have x1 := N2.out;rw [half3_all S I 8 HSL.out HIL.out] at x1;have X1 := zH x1; clear x1 N1 N2;go_upto_region 12 with fail
   go_wp2_with (first
    | (refine aZH rfl 130 _ rfl g rfl 130 (wc3 S) (0, 0) _ X1 hu.out rfl sS.out ?_)
    | (refine aZE rfl 130 _ _ rfl b (wc3 S) rfl rfl 130 _ N0 sS.out hoS.out aS.out ?_))
   exact aZB (results_cell_tmp rfl _ _ b _ _ _ rfl (N0.row _) hu.out rfl sS.out) rfl ⟨rfl, brow N4 hwb.out _⟩
theorem index83_0 (x0 x1 x2 x3 x4 x5 x6 x7 : UInt32) (w : World) : (cZA 130 (.agg (wc3 [x0, x1, x2, x3, x4, x5, x6, x7])) (.int .i64 0)).run Tryz.prog w = .ok (wv3 x0) w := by kernel_rfl
theorem index83_1 (x0 x1 x2 x3 x4 x5 x6 x7 : UInt32) (w : World) : (cZA 130 (.agg (wc3 [x0, x1, x2, x3, x4, x5, x6, x7])) (.int .i64 1)).run Tryz.prog w = .ok (wv3 x1) w := by kernel_rfl
theorem index83_2 (x0 x1 x2 x3 x4 x5 x6 x7 : UInt32) (w : World) : (cZA 130 (.agg (wc3 [x0, x1, x2, x3, x4, x5, x6, x7])) (.int .i64 2)).run Tryz.prog w = .ok (wv3 x2) w := by kernel_rfl
theorem index83_3 (x0 x1 x2 x3 x4 x5 x6 x7 : UInt32) (w : World) : (cZA 130 (.agg (wc3 [x0, x1, x2, x3, x4, x5, x6, x7])) (.int .i64 3)).run Tryz.prog w = .ok (wv3 x3) w := by kernel_rfl
theorem index83_4 (x0 x1 x2 x3 x4 x5 x6 x7 : UInt32) (w : World) : (cZA 130 (.agg (wc3 [x0, x1, x2, x3, x4, x5, x6, x7])) (.int .i64 4)).run Tryz.prog w = .ok (wv3 x4) w := by kernel_rfl
theorem index83_5 (x0 x1 x2 x3 x4 x5 x6 x7 : UInt32) (w : World) : (cZA 130 (.agg (wc3 [x0, x1, x2, x3, x4, x5, x6, x7])) (.int .i64 5)).run Tryz.prog w = .ok (wv3 x5) w := by kernel_rfl
theorem index83_6 (x0 x1 x2 x3 x4 x5 x6 x7 : UInt32) (w : World) : (cZA 130 (.agg (wc3 [x0, x1, x2, x3, x4, x5, x6, x7])) (.int .i64 6)).run Tryz.prog w = .ok (wv3 x6) w := by kernel_rfl
theorem index83_7 (x0 x1 x2 x3 x4 x5 x6 x7 : UInt32) (w : World) : (cZA 130 (.agg (wc3 [x0, x1, x2, x3, x4, x5, x6, x7])) (.int .i64 7)).run Tryz.prog w = .ok (wv3 x7) w := by kernel_rfl
theorem index83 (L : List UInt32) (hL : L.length = 8) (k : Nat) (v : UInt32) (hv : L[k]? = some v) (w : World) :
  (cZA 130 (.agg (wc3 L)) (.int .i64 k)).run Tryz.prog w = .ok (.int .u32 (wr3 v)) w := by
 match L, hL with
 | [x0, x1, x2, x3, x4, x5, x6, x7], _ =>
  have hk : k < 8 := by have := (List.getElem?_eq_some_iff.1 hv).1; simpa using this
  have h : k = 0 \/ k = 1 \/ k = 2 \/ k = 3 \/ k = 4 \/ k = 5 \/ k = 6 \/ k = 7 := by omega
  rcases h with rfl | rfl | rfl | rfl | rfl | rfl | rfl | rfl
  ·simp at hv; rw [<- hv]; exact index83_0 x0 x1 x2 x3 x4 x5 x6 x7 w
  ·simp at hv; rw [<- hv]; exact index83_1 x0 x1 x2 x3 x4 x5 x6 x7 w
  ·simp at hv; rw [<- hv]; exact index83_2 x0 x1 x2 x3 x4 x5 x6 x7 w
  ·simp at hv; rw [<- hv]; exact index83_3 x0 x1 x2 x3 x4 x5 x6 x7 w
  ·simp at hv; rw [<- hv]; exact index83_4 x0 x1 x2 x3 x4 x5 x6 x7 w
  ·simp at hv; rw [<- hv]; exact index83_5 x0 x1 x2 x3 x4 x5 x6 x7 w
  ·simp at hv; rw [<- hv]; exact index83_6 x0 x1 x2 x3 x4 x5 x6 x7 w
  ·simp at hv; rw [<- hv]; exact index83_7 x0 x1 x2 x3 x4 x5 x6 x7 w
theorem RS.fresh (w : World) (a b c d : UInt8) : RS cB (w.alloc (.cells #[.int .u8 (byt a), .int .u8 (byt b), .int .u8 (byt c), .int .u8 (byt d)] 5)) (w.heap.size + 1) (some ⟨w.heap.size, 0, none⟩) [a, b, c, d] := by
 have h := Blk.new w 5 #[.int .u8 (byt a), .int .u8 (byt b), .int .u8 (byt c), .int .u8 (byt d)];refine ⟨by simp, fun _ => ⟨_, rfl, by simp, fun j u hu => ?_⟩⟩;have e : (⟨w.heap.size, 0, none⟩ : Addr).add j = ⟨w.heap.size, j, none⟩ := by unfold Addr.add; split <;> simp_all
 rw [e, h.cell]
 match j, hu with
 | 0, hu => simpa [cB] using hu
 | 1, hu => simpa [cB] using hu
 | 2, hu => simpa [cB] using hu
 | 3, hu => simpa [cB] using hu
 | j + 4, hu => simp at hu
theorem low_byte (v : UInt32) (n : Nat) : IntKind.u8.wrap (wr3 v / ((256 ^ n : Nat) : Int)) = byt (bZZ (v.toNat / 256 ^ n % 256)) := by
 rw [byt_ofNat _ (Nat.mod_lt _ (by omega))];unfold wr3;simp only [aZU, aZR, aZM];simp
theorem bytes3_any (S : List UInt32) (w : World) (hS : S.length = 8) :
  Calls Tryz.prog 86 #[.agg (wc3 S)] w fun e w' => ∃ A c, e = .returned (.slice A 32 c) /\ OS cB w' w.heap.size A c (flat3 S) /\ Below w.heap.size w w' := by
 have HS := zH hS; clear hS;have hmk : ∀ (W : World), (Instr.makeSlice 24 (.int .i64 0) (.int .i64 32)).run Tryz.prog W = .ok (.slice (some ⟨W.heap.size, 0, none⟩) 0 32) (W.alloc (.cells (madeCells #[cB.zero] 32) 5)) := fun (W : World) => run_makeS cB_ok .i64 .i64 0 32 (by omega) (by show 1 * 32 <= _; omega) (by omega) W
 have hu := zH Tryz.underlying130;have sS := zH (sz8s S HS);have n0 := zH ((Blk.new w 130 (wc3 S)).alloc (.cells (madeCells #[cB.zero] 32) 5));go_enter Tryz.func86, Tryz.ntmps86;go_wp2_with (refine aZH rfl 130 _ rfl w.heap.size rfl 130 (wc3 S) (0, 0) _ n0.out hu.out rfl sS.out ?_);clear hmk n0;have o0 := OS.madeAt (cd := cB) (base := w.heap.size) (g := w.heap.size + 1) (w.alloc (.cells (wc3 S) 130)) 0 32 0 rfl (by omega) (by unfold maxLen; omega) (by simp) (by simp);have o4 := bal (bal (b0 w) (.cells (wc3 S) 130)) (.cells (madeCells #[cB.zero] 32) 5);have O0 := zH o0; have O4 := zH o4; clear o0 o4;go_loopw [3, 8] (fun o i wr => ∃ (k n : Nat) (A : Option Addr) (c : Nat), k <= 8 /\ i = .int .i64 k /\ n = 4 * k /\ o = .slice A n c /\ OS cB wr w.heap.size A c (flat3 (S.take k)) /\ Below w.heap.size w wr) (fun _ i _ => 8 - (intOf i).toNat)
 case atStart => exact ⟨0, 0, _, 32, by omega, rfl, rfl, rfl, O0.out, O4.out⟩
 case round =>
  clear O0 O4;obtain ⟨k, n, A, c, hk, rfl, hn, rfl, hos, hbw⟩ := hrel;have HO := zH hos; have HN := zH hn; clear hos hn
  by_cases hlt : k < 8
  ·obtain ⟨v, hv⟩ : ∃ v, S[k]? = some v := ⟨_, aZP (by rw [HS.out]; exact hlt)⟩
   have hix := index83 S HS k v hv;have HV := zH hv; clear hv;have y0 := low_byte v 0; have y1 := low_byte v 1; have y2 := low_byte v 2; have y3 := low_byte v 3;have hst : storeN v.toNat 4 = [bZZ (v.toNat / 256 ^ 0 % 256), bZZ (v.toNat / 256 ^ 1 % 256), bZZ (v.toNat / 256 ^ 2 % 256), bZZ (v.toNat / 256 ^ 3 % 256)] := rfl;generalize bZZ (v.toNat / 256 ^ 0 % 256) = p0 at *;generalize bZZ (v.toNat / 256 ^ 1 % 256) = p1 at *;generalize bZZ (v.toNat / 256 ^ 2 % 256) = p2 at *;generalize bZZ (v.toNat / 256 ^ 3 % 256) = p3 at *;have HST := zH hst; clear hst;rw [show ((256 ^ 0 : Nat) : Int) = 1 from rfl, Int.ediv_one] at y0;rw [show ((256 ^ 1 : Nat) : Int) = 256 from rfl] at y1;rw [show ((256 ^ 2 : Nat) : Int) = 65536 from rfl] at y2;rw [show ((256 ^ 3 : Nat) : Int) = 16777216 from rfl] at y3;have hlen : Hid ((flat3 (S.take k)).length = n) := by show _ = _; rw [flat3_len, List.length_take, HS.out, HN.out]; omega
   have hn8 : n <= 32 := by have := HN.out; omega
   have hkd : decide ((k : Int) < 8) = true := by simp; omega
   have hfr := RS.fresh wr p0 p1 p2 p3;have HF := zH hfr; clear hfr;go_wp2_with (at_builtin; refine wpList_appB _ rfl (.tmp 11) (.tmp 23) rfl (HO.alloc _) rfl hlen.out HF.out rfl rfl (by omega) (by have := hbw.size; simp; omega) ?_; intro A3 c3 w7 hown3 hgrow hat; have hw3 := bapp (bal hbw _) (HO.alloc _) hgrow; have HO3 := zH hown3; clear hown3 hgrow hat);go_roundw
   case rel =>
    refine ⟨k + 1, n + 4, A3, c3, by omega, by go_num, by have := HN.out; omega, rfl, ?_, hw3⟩;rw [List.take_add_one, HV.out]
    show OS cB _ _ _ _ (flat3 (S.take k ++ [v]))
    rw [flat3_snoc, HST.out];exact HO3.out
   case measure => simp [intOf]; omega
  ·obtain rfl : k = 8 := by omega
   have hn := HN.out;subst hn;have ho := HO.out;rw [List.take_of_length_le (Nat.le_of_eq HS.out)] at ho;go_wp2_with fail;exact aZB (results_tmp rfl _ _ _) rfl ⟨A, c, rfl, ho, hbw⟩
end Go.Proofs.YtboihcigcfmhhaaGreat

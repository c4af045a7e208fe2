/-
  Y7: contracts and lemmas alone; no statement is claimed here.
-/
import Derived.Test.YtboihcigcfmhhaaGreatY0
import Derived.Test.YtboihcigcfmhhaaGreatY1
import Derived.Test.YtboihcigcfmhhaaGreatY2
import Derived.Test.YtboihcigcfmhhaaGreatY3
import Derived.Laws.CopyOwn
import Derived.Laws.DeepNot64
set_option maxHeartbeats 4000000
set_option maxRecDepth 20000
namespace Go.Proofs.YtboihcigcfmhhaaGreat
open Go.Instr renaming index → cZA
open _root_.List renaming append_nil → bZX
open _root_.Bool renaming false_eq_true → bZQ
open Go renaming results_cell_row → aZZ
open _root_.List renaming getElem?_append_right → aZV
open Go.IntKind renaming wrap → aZU
open Go.IntKind renaming bits → aZR
open _root_.List renaming take_of_length_le → aZQ
open _root_.List renaming getElem?_eq_getElem → aZP
open _root_.List renaming length_append → aZN
open Go.IntKind renaming signed → aZM
open Go renaming wpList_load_row → aZH
open Go renaming wpList_store_row → aZE
open Go renaming bodyPost_ret → aZB
open Lib renaming hid -> zH
open Go.RowKit
attribute [local go_sem] pureUpon Ords.of
def turnTo64 (M : List UInt64) (s : List Nat) : Nat -> List UInt64 -> List UInt64
  | 0, V => V
  | k + 1, V => (pls k).lay (turnTo64 M s k V) (gm64 ((pls k).get 0 (turnTo64 M s k V)) (M.getD (s.getD (2 * k) 0) 0) (M.getD (s.getD (2 * k + 1) 0) 0))
theorem turnTo64_len (M : List UInt64) (s : List Nat) (k : Nat) (V : List UInt64) : (turnTo64 M s k V).length = V.length := by
 induction k with
 | zero => rfl
 | succ k ih => unfold turnTo64; rw [lay_len, ih]
def turn64 (M : List UInt64) (r : Nat) (V : List UInt64) : List UInt64 := turnTo64 M (sigma r) 8 V
theorem turn64_len (M : List UInt64) (r : Nat) (V : List UInt64) : (turn64 M r V).length = V.length := turnTo64_len _ _ _ _
theorem turn_any (gv gm r : Nat) (V M : List UInt64) (w : World) (hne : gm ≠ gv) (hV : V.length = 16) (hM : M.length = 16) (hv : Blk w gv 41 (wcs V)) (hm : Blk w gm 41 (wcs M)) :
  Calls Tryz.prog 117 #[.pointer (some ⟨gv, 0, none⟩), .pointer (some ⟨gm, 0, none⟩), .int .i64 r] w fun e w' => e = .returned (.tuple #[]) /\ Blk w' gv 41 (wcs (turn64 M r V)) /\ w.grownBy w' (some gv) := by
 have HV := zH hV; have HM := zH hM; have BV := zH hv; have BM := zH hm; clear hV hM hv hm;have hsl := sigma_len r;have hslt := sigma_lt r;have hsg := sigma_any r;unfold turn64;generalize sigma r = S at *;have HSL := zH hsl; have HST := zH hslt; have HSG := zH hsg; clear hsl hslt hsg;have hsz16 : Hid ((Tryz.prog.info? 193).map (·.size) = some (ics S).size) := by show _ = _; rw [ics_size, HSL.out]; kernel_rfl
 have hall16 := zH (ics_all S);have hpl : Hid (∀ w, Calls Tryz.prog 128 #[] w fun e w' => e = .returned (.agg plCells) /\ Below w.heap.size w w') := places_any;have hix : Hid (∀ k : Nat, k < 8 -> ∀ w, (cZA 188 (.agg plCells) (.int .i64 k)).run Tryz.prog w = .ok (plv (pls k)) w) := index_pl;generalize plCells = PL at *;go_enter Tryz.func117, Tryz.ntmps117;go_wp2_with fail;refine (HSG _).mono ?_;rintro e w1 ⟨rfl, hb1⟩;have q1 := zH (Blk.new w1 193 zi16);have hold : Hid (zi16.size = (ics S).size) := by show _ = _; rw [ics_size, HSL.out]; rfl
 unfold zi16 at q1 hold;go_upto_region 1 with (refine aZE rfl 193 _ _ rfl w1.heap.size (ics S) rfl rfl 193 _ q1.out hsz16.out hold.out hall16.out ?_)
 have hgv := BV.lt; have hgm := BM.lt; have hs1 := hb1.size;have v0 := ((BV.below hb1 hgv).alloc (.cells zi16 193)).rowFar (k := w1.heap.size) (by omega) (ics S);have v1 := ((BM.below hb1 hgm).alloc (.cells zi16 193)).rowFar (k := w1.heap.size) (by omega) (ics S);have v2 := q1.row (ics S);have v3 := only_of_below (brow (bal hb1 (.cells zi16 193)) hs1 (ics S)) (some gv);unfold zi16 at v0 v1 v3;obtain ⟨b, hb⟩ : ∃ b, b = w1.heap.size := ⟨_, rfl⟩;have hvb : gv < b := by omega
 have hmb : gm < b := by omega
 rw [<- hb] at v0 v1 v2 v3 ⊢;clear q1 hold hb hb1 hs1 BV BM hsz16 hall16 HSG;generalize (w1.alloc (.cells #[.int .i64 0, .int .i64 0, .int .i64 0, .int .i64 0, .int .i64 0, .int .i64 0, .int .i64 0, .int .i64 0, .int .i64 0, .int .i64 0, .int .i64 0, .int .i64 0, .int .i64 0, .int .i64 0, .int .i64 0, .int .i64 0] 193)).setRow b (ics S) = w2 at *;have BV := zH v0; have BM := zH v1; have BS := zH v2; have HG := zH v3; clear v0 v1 v2 v3;go_wp2_with fail;refine (hpl.out _).mono ?_;rintro e w3 ⟨rfl, hb3⟩;replace BV := zH (BV.below hb3 BV.lt); replace BM := zH (BM.below hb3 BM.lt); replace BS := zH (BS.below hb3 BS.lt);replace HG : Hid (w.grownBy w3 (some gv)) := grown_below HG hb3;go_wp2_with fail;go_loopw [12] (fun i wr => ∃ k : Nat, k <= 8 /\ i = .int .i64 k /\ Blk wr gv 41 (wcs (turnTo64 M S k V)) /\ Blk wr gm 41 (wcs M) /\ Blk wr b 193 (ics S) /\ w.grownBy wr (some gv)) (fun i _ => 8 - (intOf i).toNat)
 case atStart => exact ⟨0, by omega, rfl, BV.out, BM.out, BS.out, HG.out⟩
 case round =>
  clear BV BM BS HG hb3;obtain ⟨k, hk, rfl, x0, x1, x2, x3⟩ := hrel;have BV := zH x0; have BM := zH x1; have BS := zH x2; have HG := zH x3; clear x0 x1 x2 x3
  by_cases hlt : k < 8
  ·have hidx := hix.out k hlt
   have hok := pls_ok k hlt;have hturn : turnTo64 M S (k + 1) V = (pls k).lay (turnTo64 M S k V) (gm64 ((pls k).get 0 (turnTo64 M S k V)) (M.getD (S.getD (2 * k) 0) 0) (M.getD (S.getD (2 * k + 1) 0) 0)) := rfl;have hTl : (turnTo64 M S k V).length = 16 := by rw [turnTo64_len, HV.out]
   obtain ⟨i2, hi2⟩ : ∃ i2, i2 = 2 * k := ⟨_, rfl⟩;obtain ⟨i3, hi3⟩ : ∃ i3, i3 = 2 * k + 1 := ⟨_, rfl⟩;rw [<- hi3, <- hi2] at hturn;have e2 : 2 * (k : Int) = (i2 : Int) := by omega
   have e3 : (i2 : Int) + 1 = (i3 : Int) := by omega
   have l2 : i2 < 16 := by omega
   have l3 : i3 < 16 := by omega
   obtain ⟨s2, hs2⟩ : ∃ s, s = S.getD i2 0 := ⟨_, rfl⟩;obtain ⟨s3, hs3⟩ : ∃ s, s = S.getD i3 0 := ⟨_, rfl⟩;have ls2 : s2 < 16 := by rw [hs2]; exact HST.out i2 l2
   have ls3 : s3 < 16 := by rw [hs3]; exact HST.out i3 l3
   have c2 : wr.cell? ⟨b, i2, none⟩ = some (.int .i64 s2) := by rw [BS.cell, ics_get S i2 (by rw [HSL.out]; exact l2), hs2]; rfl
   have c3 : wr.cell? ⟨b, i3, none⟩ = some (.int .i64 s3) := by rw [BS.cell, ics_get S i3 (by rw [HSL.out]; exact l3), hs3]; rfl
   rw [<- hs2, <- hs3] at hturn;obtain ⟨x, hx⟩ : ∃ x, x = M.getD s2 0 := ⟨_, rfl⟩;obtain ⟨y, hy⟩ : ∃ y, y = M.getD s3 0 := ⟨_, rfl⟩;have m2 : wr.cell? ⟨gm, s2, none⟩ = some (.int .u64 (wrd x)) := by rw [BM.cell, wcs_get M s2 (by rw [HM.out]; exact ls2), hx]; rfl
   have m3 : wr.cell? ⟨gm, s3, none⟩ = some (.int .u64 (wrd y)) := by rw [BM.cell, wcs_get M s3 (by rw [HM.out]; exact ls3), hy]; rfl
   rw [<- hx, <- hy] at hturn;obtain ⟨p, hp⟩ : ∃ p, p = pls k := ⟨_, rfl⟩;rw [<- hp] at hidx hok hturn;obtain ⟨pa, pb, pc, pd⟩ := p;unfold plv at hidx;dsimp only at hidx;have HT := zH hturn; have HOK := zH hok; have HTL := zH hTl;clear hturn hok hTl hi2 hi3 hs2 hs3 hx hy hp;have j2 : (i2 : Int) < 16 := by omega
   have j3 : (i3 : Int) < 16 := by omega
   have j4 : (s2 : Int) < 16 := by omega
   have j5 : (s3 : Int) < 16 := by omega
   have hkd : decide ((k : Int) < 8) = true := by simp; omega
   have w2' : IntKind.i64.wrap (i2 : Int) = i2 := by simp [aZU, aZR, aZM]; omega
   have w3' : IntKind.i64.wrap (i3 : Int) = i3 := by simp [aZU, aZR, aZM]; omega
   have hbs : b < wr.heap.size := BS.lt;have hgs : gm < wr.heap.size := BM.lt;go_upto_region 4 with fail
   have hpp : Hid (∀ W, Blk W gv 41 (wcs (turnTo64 M S k V)) -> Calls Tryz.prog 129 #[.pointer (some ⟨gv, 0, none⟩), .agg #[.int .i64 pa, .int .i64 pb, .int .i64 pc, .int .i64 pd], .int .u64 (wrd x), .int .u64 (wrd y)] W fun e w' => e = .returned (.tuple #[]) /\ Blk w' gv 41 (wcs (turnTo64 M S (k + 1) V)) /\ W.grownBy w' (some gv)) := by
    show ∀ W, _
    intro W hW;rw [HT.out];exact step_any gv ⟨pa, pb, pc, pd⟩ _ x y W HOK HTL hW
   have y0 := zH (BV.alloc (.cells #[.int .i64 pa, .int .i64 pb, .int .i64 pc, .int .i64 pd] 176));refine wrZ (fun _ => True) (fun _ _ h => h) (Ords.of [(0, 0), (1, 1), (0, 2), (0, 3), (0, 4), (0, 5), (1, 6), (0, 7), (0, 8), (1, 9), (0, 10), (0, 11), (0, 12), (0, 13), (0, 14), (1, 15), (0, 16), (0, 17), (1, 18), (2, 19)] .fin) trivial ?_
   iterate 19 ((first | refine ords_pure rfl (fun K hK => ?_) | refine ords_read rfl (fun K hK => ?_)); go_simp; refine hK _ ?_; clear hK K)
   refine ords_loud rfl (fun n1 => ?_);go_wp2_with (go_at_call 129; refine (hpp.out _ (y0.drewN _)).mono ?_; rintro e w6 ⟨rfl, hz6, hg6⟩; have HZ6 := zH hz6; have HG6 := zH hg6; clear hz6 hg6);refine ⟨trivial, ?_⟩;refine ords_end (fun n2 => ?_);go_wp2_with fail;go_roundw
   case rel =>
    have g1 := (BM.alloc (.cells #[.int .i64 pa, .int .i64 pb, .int .i64 pc, .int .i64 pd] 176)).drewN n1;have g2 := (BS.alloc (.cells #[.int .i64 pa, .int .i64 pb, .int .i64 pc, .int .i64 pd] 176)).drewN n1;exact ⟨k + 1, by omega, by go_num, HZ6.drewN n2, (g1.grown HG6.out (by simpa using hne)).drewN n2, (g2.grown HG6.out (by simp; omega)).drewN n2, gdr (grown_grown (only_alloc HG.out _) (gdr_in HG6.out)) n2⟩
   case measure => simp [intOf]; omega
  ·obtain rfl : k = 8 := by omega
   go_wp2_with fail;go_end0;exact ⟨rfl, BV.out, HG.out⟩
def initOf (H : List UInt64) (lo hi : UInt64) (last node : Bool) : List UInt64 :=
  let v := ((H ++ iv64).set 12 (0x510e527fade682d1 ^^^ lo)).set 13 (0x9b05688c2b3e6c1f ^^^ hi)
  let v := if last then v.set 14 (~~~ 0x1f83d9abfb41bd6b) else v
  if node then v.set 15 (~~~ 0x5be0cd19137e2179) else v
theorem wrd_not (x : UInt64) : bits .xor .u64 IntKind.u64.max (wrd x) = wrd (~~~x) := by
 show IntKind.u64.wrap ((BitVec.ofInt 64 IntKind.u64.max ^^^ BitVec.ofInt 64 (wrd x)).toNat : Int) = _
 have h1 : BitVec.ofInt 64 IntKind.u64.max = BitVec.allOnes 64 := by decide
 have hx := wrd_lt x;unfold wrd;rw [h1, BitVec.allOnes_xor, BitVec.toNat_not, ofInt_u64 x.toNat (by omega), UInt64.toNat_not];have : UInt64.size = 18446744073709551616 := rfl;rw [this];simp [aZU, aZR, aZM];omega
theorem sz8w (z : List UInt64) (h : z.length = 8) : (Tryz.prog.info? 124).map (·.size) = some (wcs z).size := by rw [wcs_size, h]; kernel_rfl
theorem sz16w (z : List UInt64) (h : z.length = 16) : (Tryz.prog.info? 41).map (·.size) = some (wcs z).size := by rw [wcs_size, h]; kernel_rfl
theorem wpList_copyW {ops : Array Oper} {rest : List Oper} {o : Oper} {a : Act} {w : World} {Q : Exit -> Act -> World -> Prop} (hgd : o.guard = none) (d s : Operand)
  (ho : o.op = .call { callee := .builtin .copy, args := #[d, s], argTypes := #[110, 110] }) (g off gs n dc sc : Nat) (hd : a.eval d = .slice (some ⟨g, off, none⟩) n dc) (hs : a.eval s = .slice (some ⟨gs, 0, none⟩) n sc)
  (D S : List UInt64) (t ts : TypeId) (hg : Blk w g t (wcs D)) (hgs : Blk w gs ts (wcs S)) (hn : S.length = n) (hfit : off + n <= D.length)
  (h : wpList Tryz.prog ops Q rest (a.put o.dst (goInt n)) (w.setRow g (wcs (D.take off ++ (S ++ D.drop (off + n)))))) : wpList Tryz.prog ops Q (o :: rest) a w := by
 subst hn;have hl : (wcs S).toList.length = S.length := by simp [wcs]
 refine wpList_copy_own hgd d s 110 110 ho 23 (by kernel_rfl) (by kernel_rfl) g off S.length dc ⟨gs, 0, none⟩ S.length sc hd hs (wcs D) t hg (wcs S).toList (by rw [hl]; exact (Nat.min_self _).symm) (fun j v hv => ?_) (by rw [hl, wcs_size]; exact hfit) (fun v hv => ?_) ?_
 ·have e : (⟨gs, 0, none⟩ : Addr).add j = ⟨gs, j, none⟩ := by unfold Addr.add; split <;> simp_all
  rw [e, hgs.cell]; simpa using hv
 ·have := Array.all_eq_true_iff_forall_mem.1 (wcs_all S) v (by simpa using hv); exact this
 ·rw [hl]
  have e : ((wcs D).toList.take off ++ ((wcs S).toList ++ (wcs D).toList.drop (off + S.length))).toArray = wcs (D.take off ++ (S ++ D.drop (off + S.length))) := by simp [wcs]
  rw [e]; exact h
def z16 : Array Value := #[.int .u64 0, .int .u64 0, .int .u64 0, .int .u64 0, .int .u64 0, .int .u64 0, .int .u64 0, .int .u64 0, .int .u64 0, .int .u64 0, .int .u64 0, .int .u64 0, .int .u64 0, .int .u64 0, .int .u64 0, .int .u64 0]
def zw (n : Nat) : List UInt64 := List.replicate n 0
theorem init_any (H : List UInt64) (lo hi : UInt64) (last node : Bool) (w : World) (hH : H.length = 8) :
  Calls Tryz.prog 116 #[.agg (wcs H), .agg #[.int .u64 (wrd lo), .int .u64 (wrd hi)], .bool last, .bool node] w fun e w' => e = .returned (.agg (wcs (initOf H lo hi last node))) /\ Below w.heap.size w w' := by
 have HH := zH hH; clear hH;have hG : Hid (initOf H lo hi last node = (let v := ((H ++ iv64).set 12 (0x510e527fade682d1 ^^^ lo)).set 13 (0x9b05688c2b3e6c1f ^^^ hi); let v := if last then v.set 14 (~~~ 0x1f83d9abfb41bd6b) else v; if node then v.set 15 (~~~ 0x5be0cd19137e2179) else v)) := rfl;generalize initOf H lo hi last node = G at *;go_enter Tryz.func116, Tryz.ntmps116;go_upto_region 2 with fail
 obtain ⟨w1, hw1⟩ : ∃ w1, w1 = w.alloc (.cells (wcs H) 124) := ⟨_, rfl⟩;obtain ⟨w2, hw2⟩ : ∃ w2, w2 = w1.alloc (.cells #[.int .u64 (wrd lo), .int .u64 (wrd hi)] 75) := ⟨_, rfl⟩;obtain ⟨w3, hw3⟩ : ∃ w3, w3 = w2.alloc (.cells (wcs (zw 16)) 41) := ⟨_, rfl⟩;obtain ⟨w4, hw4⟩ : ∃ w4, w4 = w3.alloc (.cells (wcs (zw 16)) 41) := ⟨_, rfl⟩;have e4 : (((w.alloc (.cells (wcs H) 124)).alloc (.cells #[.int .u64 (wrd lo), .int .u64 (wrd hi)] 75)).alloc (.cells z16 41)).alloc (.cells z16 41) = w4 := by rw [hw4, hw3, hw2, hw1]; rfl
 unfold z16 at e4;rw [e4];have n0 : Blk w4 w.heap.size 124 (wcs H) := by rw [hw4, hw3, hw2, hw1]; exact (((Blk.new _ _ _).alloc _).alloc _).alloc _
 have n1 : Blk w4 (w.heap.size + 1) 75 #[.int .u64 (wrd lo), .int .u64 (wrd hi)] := by
  have : w1.heap.size = w.heap.size + 1 := by rw [hw1]; simp
  rw [<- this, hw4, hw3, hw2]; exact ((Blk.new _ _ _).alloc _).alloc _
 have n2 : Blk w4 (w.heap.size + 1 + 1) 41 (wcs (zw 16)) := by
  have : w2.heap.size = w.heap.size + 1 + 1 := by rw [hw2, hw1]; simp
  rw [<- this, hw4, hw3]; exact (Blk.new _ _ _).alloc _
 have n3 : Blk w4 (w.heap.size + 1 + 1 + 1) 41 (wcs (zw 16)) := by
  have : w3.heap.size = w.heap.size + 1 + 1 + 1 := by rw [hw3, hw2, hw1]; simp
  rw [<- this, hw4]; exact Blk.new _ _ _
 have n4 : Below w.heap.size w w4 := by rw [hw4, hw3, hw2, hw1]; exact bal (bal (bal (bal (b0 _) _) _) _) _
 clear hw1 hw2 hw3 hw4 e4 w1 w2 w3;obtain ⟨g0, hg0⟩ : ∃ g, g = w.heap.size := ⟨_, rfl⟩;obtain ⟨g1, hg1⟩ : ∃ g, g = w.heap.size + 1 := ⟨_, rfl⟩;obtain ⟨g2, hg2⟩ : ∃ g, g = w.heap.size + 1 + 1 := ⟨_, rfl⟩;obtain ⟨g3, hg3⟩ : ∃ g, g = w.heap.size + 1 + 1 + 1 := ⟨_, rfl⟩;rw [<- hg3, <- hg2, <- hg1, <- hg0];rw [<- hg0] at n0; rw [<- hg1] at n1; rw [<- hg2] at n2; rw [<- hg3] at n3;have l01 : g0 < g1 := by omega
 have l12 : g1 < g2 := by omega
 have l23 : g2 < g3 := by omega
 have l0 : Hid (w.heap.size <= g0) := by show _ <= _; omega
 have N0 := zH n0; have N1 := zH n1; have N2 := zH n2; have N3 := zH n3; have N4 := zH n4;clear n0 n1 n2 n3 n4 hg0 hg1 hg2 hg3;have e1 : (zw 16).take 0 ++ (H ++ (zw 16).drop (0 + 8)) = H ++ zw 8 := rfl;refine wrZ (fun _ => True) (fun _ _ h => h) (Ords.of [(0, 0), (0, 1), (2, 2)] .fin) trivial ?_
 iterate 2 (refine ords_pure rfl (fun K hK => ?_); go_simp; refine hK _ ?_; clear hK K)
 refine ords_loud rfl (fun n1 => ?_);refine wpList_copyW rfl (.tmp 11) (.tmp 12) rfl g3 0 g0 8 16 8 rfl rfl (zw 16) H 41 124 (N3.drewN n1) (N0.drewN n1) HH.out (by decide) ?_; rw [e1]; clear e1; go_wp2
 first | (refine ⟨trivial, ?_⟩; refine ords_end (fun n2 => ?_)) | (rintro _ ⟨n2, rfl⟩)
 have v3 := ((N3.drewN n1).row (wcs (H ++ zw 8))).drewN n2;have v1 := ((N1.drewN n1).rowFar (k := g3) (by omega) (wcs (H ++ zw 8))).drewN n2;have v2 := ((N2.drewN n1).rowFar (k := g3) (by omega) (wcs (H ++ zw 8))).drewN n2;have v4 := bdr (brow (bdr N4.out n1) (g := g3) (by have := l0.out; omega) (wcs (H ++ zw 8))) n2;clear N0 N1 N2 N3 N4;generalize ((w4.drewN n1).setRow g3 (wcs (H ++ zw 8))).drewN n2 = w5 at *;have N1 := zH v1; have N2 := zH v2; have N3 := zH v3; have N4 := zH v4; clear v1 v2 v3 v4;go_wp2_with fail;refine (iv_any _).mono ?_;rintro e w6 ⟨rfl, hb6⟩;have l5 := N3.lt;replace N1 := zH (N1.below hb6 N1.lt); replace N2 := zH (N2.below hb6 N2.lt); replace N3 := zH (N3.below hb6 N3.lt); replace N4 := zH (bcall N4 hb6);have l6 := hb6.size;have IVl : Hid (iv64.length = 8) := rfl;have S8 := zH (sz8w iv64 IVl);have AL := zH (wcs_all iv64);have hIV : Hid (iv64 = [0x6a09e667f3bcc908, 0xbb67ae8584caa73b, 0x3c6ef372fe94f82b, 0xa54ff53a5f1d36f1, 0x510e527fade682d1, 0x9b05688c2b3e6c1f, 0x1f83d9abfb41bd6b, 0x5be0cd19137e2179]) := rfl;generalize iv64 = I at *;have n6 := zH (Blk.new w6 124 (wcs (zw 8)));have hold : Hid ((wcs (zw 8)).size = (wcs I).size) := by show _ = _; rw [wcs_size, wcs_size, IVl.out]; rfl
 change Hid (Blk (w6.alloc (.cells #[.int .u64 0, .int .u64 0, .int .u64 0, .int .u64 0, .int .u64 0, .int .u64 0, .int .u64 0, .int .u64 0] 124)) w6.heap.size 124 (wcs (zw 8))) at n6;go_upto_region 4 with (refine aZE rfl 124 _ _ rfl w6.heap.size (wcs I) rfl rfl 124 _ n6.out S8 hold.out AL ?_)
 have v1 := (N1.alloc (.cells (wcs (zw 8)) 124)).rowFar (k := w6.heap.size) (by omega) (wcs I);have v2 := (N2.alloc (.cells (wcs (zw 8)) 124)).rowFar (k := w6.heap.size) (by omega) (wcs I);have v3 := (N3.alloc (.cells (wcs (zw 8)) 124)).rowFar (k := w6.heap.size) (by omega) (wcs I);have v4 := brow (bal N4 (.cells (wcs (zw 8)) 124)) N4.size (wcs I);have v5 := n6.row (wcs I);change Blk (World.setRow (w6.alloc (.cells #[.int .u64 0, .int .u64 0, .int .u64 0, .int .u64 0, .int .u64 0, .int .u64 0, .int .u64 0, .int .u64 0] 124)) _ _) _ _ _ at v1;change Blk (World.setRow (w6.alloc (.cells #[.int .u64 0, .int .u64 0, .int .u64 0, .int .u64 0, .int .u64 0, .int .u64 0, .int .u64 0, .int .u64 0] 124)) _ _) _ _ _ at v2;change Blk (World.setRow (w6.alloc (.cells #[.int .u64 0, .int .u64 0, .int .u64 0, .int .u64 0, .int .u64 0, .int .u64 0, .int .u64 0, .int .u64 0] 124)) _ _) _ _ _ at v3;change Below _ _ (World.setRow (w6.alloc (.cells #[.int .u64 0, .int .u64 0, .int .u64 0, .int .u64 0, .int .u64 0, .int .u64 0, .int .u64 0, .int .u64 0] 124)) _ _) at v4;have l36 : g3 < w6.heap.size := by omega
 obtain ⟨g6, hg6⟩ : ∃ g6, g6 = w6.heap.size := ⟨_, rfl⟩;rw [<- hg6] at v1 v2 v3 v4 v5 l36 ⊢;clear n6 hold N1 N2 N3 N4 hg6 hb6 l5 l6;generalize (w6.alloc (.cells #[.int .u64 0, .int .u64 0, .int .u64 0, .int .u64 0, .int .u64 0, .int .u64 0, .int .u64 0, .int .u64 0] 124)).setRow g6 (wcs I) = w7 at *;have N1 := zH v1; have N2 := zH v2; have N3 := zH v3; have N4 := zH v4; have N5 := zH v5; clear v1 v2 v3 v4 v5;have hHz : Hid ((H ++ zw 8).length = 16) := by show _ = _; rw [aZN, HH.out]; rfl
 have e1 : (H ++ zw 8).take 8 ++ (I ++ (H ++ zw 8).drop (8 + 8)) = H ++ I := by
  rw [List.take_left' HH.out, List.drop_eq_nil_of_le (by rw [hHz.out]; omega), bZX]
 refine wrZ (fun _ => True) (fun _ _ h => h) (Ords.of [(0, 0), (0, 1), (2, 2)] .fin) trivial ?_
 iterate 2 (refine ords_pure rfl (fun K hK => ?_); go_simp; refine hK _ ?_; clear hK K)
 refine ords_loud rfl (fun n1 => ?_);refine wpList_copyW rfl (.tmp 15) (.tmp 16) rfl g3 8 g6 8 8 8 rfl rfl (H ++ zw 8) I 41 124 (N3.drewN n1) (N5.drewN n1) IVl.out (by rw [hHz.out]; omega) ?_; rw [e1]; clear e1; go_wp2
 first | (refine ⟨trivial, ?_⟩; refine ords_end (fun n2 => ?_)) | (rintro _ ⟨n2, rfl⟩)
 have v3 := ((N3.drewN n1).row (wcs (H ++ I))).drewN n2;have v1 := ((N1.drewN n1).rowFar (k := g3) (by omega) (wcs (H ++ I))).drewN n2;have v2 := ((N2.drewN n1).rowFar (k := g3) (by omega) (wcs (H ++ I))).drewN n2;have v4 := bdr (brow (bdr N4.out n1) (g := g3) (by have := l0.out; omega) (wcs (H ++ I))) n2;clear N1 N2 N3 N4 N5 hHz AL S8;generalize ((w7.drewN n1).setRow g3 (wcs (H ++ I))).drewN n2 = w8 at *;have N1 := zH v1; have N2 := zH v2; have N3 := zH v3; have N4 := zH v4; clear v1 v2 v3 v4;obtain ⟨i4, hi4⟩ : ∃ i, i = (0x510e527fade682d1 : UInt64) := ⟨_, rfl⟩;obtain ⟨i5, hi5⟩ : ∃ i, i = (0x9b05688c2b3e6c1f : UInt64) := ⟨_, rfl⟩;obtain ⟨i6, hi6⟩ : ∃ i, i = (0x1f83d9abfb41bd6b : UInt64) := ⟨_, rfl⟩;obtain ⟨i7, hi7⟩ : ∃ i, i = (0x5be0cd19137e2179 : UInt64) := ⟨_, rfl⟩;have hI := hIV.out;have hGG := hG.out;rw [<- hi4, <- hi5, <- hi6, <- hi7] at hI;rw [<- hi4, <- hi5, <- hi6, <- hi7] at hGG;clear hIV hG hi4 hi5 hi6 hi7;obtain ⟨V, hV⟩ : ∃ V, V = H ++ I := ⟨_, rfl⟩;rw [<- hV] at N3 hGG;have hVl : V.length = 16 := by rw [hV, aZN, HH.out, IVl.out]
 have c12 : w8.cell? ⟨g3, 12, none⟩ = some (.int .u64 (wrd i4)) := by rw [N3.cell, wcs_at' V 12 i4 (by rw [hV, aZV (by rw [HH.out]; omega), HH.out, hI]; rfl)]
 have c13 : w8.cell? ⟨g3, 13, none⟩ = some (.int .u64 (wrd i5)) := by rw [N3.cell, wcs_at' V 13 i5 (by rw [hV, aZV (by rw [HH.out]; omega), HH.out, hI]; rfl)]
 have c14 : w8.cell? ⟨g3, 14, none⟩ = some (.int .u64 (wrd i6)) := by rw [N3.cell, wcs_at' V 14 i6 (by rw [hV, aZV (by rw [HH.out]; omega), HH.out, hI]; rfl)]
 have c15 : w8.cell? ⟨g3, 15, none⟩ = some (.int .u64 (wrd i7)) := by rw [N3.cell, wcs_at' V 15 i7 (by rw [hV, aZV (by rw [HH.out]; omega), HH.out, hI]; rfl)]
 have d0 : w8.cell? ⟨g1, 0, none⟩ = some (.int .u64 (wrd lo)) := N1.cell 0;have d1 : w8.cell? ⟨g1, 1, none⟩ = some (.int .u64 (wrd hi)) := N1.cell 1;have ff : ∀ i, w8.frozen? ⟨g3, i, none⟩ = false := N3.frozen;have h2 := wrd_xor;have HV := zH hVl; have HGG := zH hGG; clear hV hVl hI hGG IVl;have hne : g1 ≠ g3 := by omega
 have h3 := wrd_not;have h3' : ∀ x : UInt64, bits .xor .u64 (if IntKind.u64.signed = true then -1 else IntKind.u64.max) (wrd x) = wrd (~~~ x) := wrd_not;have z12 := N3.set_ 12 (wv (i4 ^^^ lo));rw [wcs_set] at z12;have z13 := z12.set_ 13 (wv (i5 ^^^ hi));rw [wcs_set] at z13;have z14 := z13.set_ 14 (wv (~~~ i6));rw [wcs_set] at z14;have z15 := z13.set_ 15 (wv (~~~ i7));rw [wcs_set] at z15;have z16 := z14.set_ 15 (wv (~~~ i7));rw [wcs_set] at z16;have Z13 := zH z13; have Z14 := zH z14; have Z15 := zH z15; have Z16 := zH z16; clear z12 z13 z14 z15 z16;have hlr : Hid (w.heap.size <= g3) := by show _ <= _; have := l0.out; omega
 have hw13 := bput (bput N4 (p := ⟨g3, 12, none⟩) hlr.out (wv (i4 ^^^ lo))) (p := ⟨g3, 13, none⟩) hlr.out (wv (i5 ^^^ hi));have hl2 : Hid (w.heap.size <= g2) := by show _ <= _; have := l0.out; omega
 have y2 := (N2.far (p := ⟨g3, 12, none⟩) (by simp; omega) (wv (i4 ^^^ lo))).far (p := ⟨g3, 13, none⟩) (by simp; omega) (wv (i5 ^^^ hi));have Y2 := zH y2; have HW := zH hw13; have hg23 : g2 ≠ g3 := by omega
 clear y2 hw13 N1 N2 N3 N4;have hu := zH Tryz.underlying41;have hsz : Hid (∀ L : List UInt64, L.length = 16 -> (Tryz.prog.info? 41).map (·.size) = some (wcs L).size) := sz16w;have hall := zH wcs_all;have hold : Hid (∀ L : List UInt64, L.length = 16 -> (wcs (zw 16)).size = (wcs L).size) := fun L h => by rw [wcs_size, wcs_size, h]; rfl
 cases last <;> cases node
 ·have hg := HGG.out
  simp only [bZQ, if_false] at hg;have HG2 := zH hg; clear hg;have hl : Hid (G.length = 16) := by show _ = _; rw [HG2.out]; simp [HV.out]
  have hz : Hid (Blk ((w8.setCell ⟨g3, 12, none⟩ (.int .u64 (wrd (i4 ^^^ lo)))).setCell ⟨g3, 13, none⟩ (.int .u64 (wrd (i5 ^^^ hi)))) g3 41 (wcs G)) := by show Blk _ _ _ _; rw [HG2.out]; exact Z13.out
  have hy : Hid (Blk ((w8.setCell ⟨g3, 12, none⟩ (.int .u64 (wrd (i4 ^^^ lo)))).setCell ⟨g3, 13, none⟩ (.int .u64 (wrd (i5 ^^^ hi)))) g2 41 (wcs (zw 16))) := Y2.out;have hx : Hid (Below w.heap.size w ((w8.setCell ⟨g3, 12, none⟩ (.int .u64 (wrd (i4 ^^^ lo)))).setCell ⟨g3, 13, none⟩ (.int .u64 (wrd (i5 ^^^ hi))))) := HW.out;go_upto_region 11 with fail
  go_wp2_with (first
   | (refine aZH rfl 41 _ rfl g3 rfl 41 (wcs G) (0, 0) _ hz.out hu.out rfl (hsz.out G hl.out) ?_)
   | (refine aZE rfl 41 _ _ rfl g2 (wcs G) rfl rfl 41 _ hy.out (hsz.out G hl.out) (hold.out G hl.out) (hall.out G) ?_))
  exact aZB (aZZ rfl _ _ g2 _ _ (0, 0) _ rfl (hy.row _) hu.out rfl (hsz.out G hl.out)) rfl ⟨rfl, brow hx.out hl2.out _⟩
 ·have hg := HGG.out
  simp only [bZQ, if_false, if_true] at hg;have HG2 := zH hg; clear hg;have hl : Hid (G.length = 16) := by show _ = _; rw [HG2.out]; simp [HV.out]
  have hz : Hid (Blk (((w8.setCell ⟨g3, 12, none⟩ (.int .u64 (wrd (i4 ^^^ lo)))).setCell ⟨g3, 13, none⟩ (.int .u64 (wrd (i5 ^^^ hi)))).setCell ⟨g3, 15, none⟩ (.int .u64 (wrd (~~~ i7)))) g3 41 (wcs G)) := by show Blk _ _ _ _; rw [HG2.out]; exact Z15.out
  have hy : Hid (Blk (((w8.setCell ⟨g3, 12, none⟩ (.int .u64 (wrd (i4 ^^^ lo)))).setCell ⟨g3, 13, none⟩ (.int .u64 (wrd (i5 ^^^ hi)))).setCell ⟨g3, 15, none⟩ (.int .u64 (wrd (~~~ i7)))) g2 41 (wcs (zw 16))) := (Y2.out).far (p := ⟨g3, 15, none⟩) (by simp; omega) _;have hx : Hid (Below w.heap.size w (((w8.setCell ⟨g3, 12, none⟩ (.int .u64 (wrd (i4 ^^^ lo)))).setCell ⟨g3, 13, none⟩ (.int .u64 (wrd (i5 ^^^ hi)))).setCell ⟨g3, 15, none⟩ (.int .u64 (wrd (~~~ i7))))) := bput (HW) (p := ⟨g3, 15, none⟩) hlr.out _;go_upto_region 11 with fail
  go_wp2_with (first
   | (refine aZH rfl 41 _ rfl g3 rfl 41 (wcs G) (0, 0) _ hz.out hu.out rfl (hsz.out G hl.out) ?_)
   | (refine aZE rfl 41 _ _ rfl g2 (wcs G) rfl rfl 41 _ hy.out (hsz.out G hl.out) (hold.out G hl.out) (hall.out G) ?_))
  exact aZB (aZZ rfl _ _ g2 _ _ (0, 0) _ rfl (hy.row _) hu.out rfl (hsz.out G hl.out)) rfl ⟨rfl, brow hx.out hl2.out _⟩
 ·have hg := HGG.out
  simp only [bZQ, if_false, if_true] at hg;have HG2 := zH hg; clear hg;have hl : Hid (G.length = 16) := by show _ = _; rw [HG2.out]; simp [HV.out]
  have hz : Hid (Blk (((w8.setCell ⟨g3, 12, none⟩ (.int .u64 (wrd (i4 ^^^ lo)))).setCell ⟨g3, 13, none⟩ (.int .u64 (wrd (i5 ^^^ hi)))).setCell ⟨g3, 14, none⟩ (.int .u64 (wrd (~~~ i6)))) g3 41 (wcs G)) := by show Blk _ _ _ _; rw [HG2.out]; exact Z14.out
  have hy : Hid (Blk (((w8.setCell ⟨g3, 12, none⟩ (.int .u64 (wrd (i4 ^^^ lo)))).setCell ⟨g3, 13, none⟩ (.int .u64 (wrd (i5 ^^^ hi)))).setCell ⟨g3, 14, none⟩ (.int .u64 (wrd (~~~ i6)))) g2 41 (wcs (zw 16))) := (Y2.out).far (p := ⟨g3, 14, none⟩) (by simp; omega) _;have hx : Hid (Below w.heap.size w (((w8.setCell ⟨g3, 12, none⟩ (.int .u64 (wrd (i4 ^^^ lo)))).setCell ⟨g3, 13, none⟩ (.int .u64 (wrd (i5 ^^^ hi)))).setCell ⟨g3, 14, none⟩ (.int .u64 (wrd (~~~ i6))))) := bput (HW) (p := ⟨g3, 14, none⟩) hlr.out _;go_upto_region 11 with fail
  go_wp2_with (first
   | (refine aZH rfl 41 _ rfl g3 rfl 41 (wcs G) (0, 0) _ hz.out hu.out rfl (hsz.out G hl.out) ?_)
   | (refine aZE rfl 41 _ _ rfl g2 (wcs G) rfl rfl 41 _ hy.out (hsz.out G hl.out) (hold.out G hl.out) (hall.out G) ?_))
  exact aZB (aZZ rfl _ _ g2 _ _ (0, 0) _ rfl (hy.row _) hu.out rfl (hsz.out G hl.out)) rfl ⟨rfl, brow hx.out hl2.out _⟩
 ·have hg := HGG.out
  simp only [if_true] at hg;have HG2 := zH hg; clear hg;have hl : Hid (G.length = 16) := by show _ = _; rw [HG2.out]; simp [HV.out]
  have hz : Hid (Blk ((((w8.setCell ⟨g3, 12, none⟩ (.int .u64 (wrd (i4 ^^^ lo)))).setCell ⟨g3, 13, none⟩ (.int .u64 (wrd (i5 ^^^ hi)))).setCell ⟨g3, 14, none⟩ (.int .u64 (wrd (~~~ i6)))).setCell ⟨g3, 15, none⟩ (.int .u64 (wrd (~~~ i7)))) g3 41 (wcs G)) := by show Blk _ _ _ _; rw [HG2.out]; exact Z16.out
  have hy : Hid (Blk ((((w8.setCell ⟨g3, 12, none⟩ (.int .u64 (wrd (i4 ^^^ lo)))).setCell ⟨g3, 13, none⟩ (.int .u64 (wrd (i5 ^^^ hi)))).setCell ⟨g3, 14, none⟩ (.int .u64 (wrd (~~~ i6)))).setCell ⟨g3, 15, none⟩ (.int .u64 (wrd (~~~ i7)))) g2 41 (wcs (zw 16))) := ((Y2.out).far (p := ⟨g3, 14, none⟩) (by simp; omega) _).far (p := ⟨g3, 15, none⟩) (by simp; omega) _;have hx : Hid (Below w.heap.size w ((((w8.setCell ⟨g3, 12, none⟩ (.int .u64 (wrd (i4 ^^^ lo)))).setCell ⟨g3, 13, none⟩ (.int .u64 (wrd (i5 ^^^ hi)))).setCell ⟨g3, 14, none⟩ (.int .u64 (wrd (~~~ i6)))).setCell ⟨g3, 15, none⟩ (.int .u64 (wrd (~~~ i7))))) := bput (bput (HW) (p := ⟨g3, 14, none⟩) hlr.out _) (p := ⟨g3, 15, none⟩) hlr.out _;go_upto_region 11 with fail
  go_wp2_with (first
   | (refine aZH rfl 41 _ rfl g3 rfl 41 (wcs G) (0, 0) _ hz.out hu.out rfl (hsz.out G hl.out) ?_)
   | (refine aZE rfl 41 _ _ rfl g2 (wcs G) rfl rfl 41 _ hy.out (hsz.out G hl.out) (hold.out G hl.out) (hall.out G) ?_))
  exact aZB (aZZ rfl _ _ g2 _ _ (0, 0) _ rfl (hy.row _) hu.out rfl (hsz.out G hl.out)) rfl ⟨rfl, brow hx.out hl2.out _⟩
def z8 : Array Value := #[.int .u64 0, .int .u64 0, .int .u64 0, .int .u64 0, .int .u64 0, .int .u64 0, .int .u64 0, .int .u64 0]
theorem initOf_len (H : List UInt64) (lo hi : UInt64) (last node : Bool) (h : H.length = 8) : (initOf H lo hi last node).length = 16 := by
 have : (H ++ iv64).length = 16 := by rw [aZN, h]; rfl
 unfold initOf
 cases last <;> cases node <;> simp [this]
def roundsTo (M : List UInt64) : Nat -> List UInt64 -> List UInt64
  | 0, V => V
  | r + 1, V => turn64 M r (roundsTo M r V)
theorem roundsTo_len (M : List UInt64) (r : Nat) (V : List UInt64) : (roundsTo M r V).length = V.length := by
 induction r with
 | zero => rfl
 | succ r ih => unfold roundsTo; rw [turn64_len, ih]
def outOf (H V : List UInt64) : List UInt64 := (List.range 8).map fun i => H.getD i 0 ^^^ (V.getD i 0 ^^^ V.getD (i + 8) 0)
theorem outOf_len (H V : List UInt64) : (outOf H V).length = 8 := by simp [outOf]
theorem outOf_at (H V : List UInt64) (k : Nat) (hk : k < 8) : (outOf H V)[k]? = some (H.getD k 0 ^^^ (V.getD k 0 ^^^ V.getD (k + 8) 0)) := by simp [outOf, hk]
def comp64 (H M : List UInt64) (lo hi : UInt64) (last node : Bool) : List UInt64 := outOf H (roundsTo M 12 (initOf H lo hi last node))
theorem comp64_len (H M : List UInt64) (lo hi : UInt64) (last node : Bool) : (comp64 H M lo hi last node).length = 8 := outOf_len _ _
def halfW (z x : List UInt64) (k : Nat) : List UInt64 := z.take k ++ x.drop k
theorem halfW_put (z x : List UInt64) (k : Nat) (v : UInt64) (hz : z[k]? = some v) (hl : x.length = z.length) : (halfW z x k).set k v = halfW z x (k + 1) := by
 have hk : k < z.length := (List.getElem?_eq_some_iff.1 hz).1;have h1 : (z.take k).length = k := by simp; omega
 unfold halfW;rw [List.take_add_one, hz, List.drop_eq_getElem_cons (by omega), List.set_append, if_neg (by rw [h1]; omega), h1, Nat.sub_self, List.set_cons_zero, List.append_assoc]
 rfl
theorem halfW_at (z x : List UInt64) (k : Nat) (hk : k < x.length) (hl : x.length = z.length) : (halfW z x k)[k]? = some (x.getD k 0) := by
 have h1 : (z.take k).length = k := by simp; omega
 unfold halfW;rw [aZV (by omega), h1, Nat.sub_self, List.getElem?_drop, Nat.add_zero, List.getD_eq_getElem?_getD, aZP hk]
 rfl
theorem halfW_all (z x : List UInt64) (n : Nat) (hz : z.length = n) (hx : x.length = n) : halfW z x n = z := by
 unfold halfW; rw [aZQ (by omega), List.drop_of_length_le (by omega), bZX]
theorem getDW (l : List UInt64) (k : Nat) (h : k < l.length) : l[k]? = some (l.getD k 0) := by rw [List.getD_eq_getElem?_getD, aZP h]; rfl
theorem comp_any (H M : List UInt64) (lo hi : UInt64) (last node : Bool) (w : World) (hH : H.length = 8) (hM : M.length = 16) :
  Calls Tryz.prog 102 #[.agg (wcs H), .agg (wcs M), .agg #[.int .u64 (wrd lo), .int .u64 (wrd hi)], .bool last, .bool node] w fun e w' => e = .returned (.agg (wcs (comp64 H M lo hi last node))) /\ Below w.heap.size w w' := by
 have HH := zH hH; have HM := zH hM;have hIl := initOf_len H lo hi last node hH;have hI := fun w => init_any H lo hi last node w hH
 unfold comp64;generalize initOf H lo hi last node = V at *;have HI := zH hI; have HVl := zH hIl; clear hI hIl hH hM;have hu8 := zH Tryz.underlying124;have s8 := zH (sz8w H HH);have sV := zH (sz16w V HVl);have aV := zH (wcs_all V);have holdV : Hid ((wcs (zw 16)).size = (wcs V).size) := by show _ = _; rw [wcs_size, wcs_size, HVl.out]; rfl
 go_enter Tryz.func102, Tryz.ntmps102;go_upto_region 1 with fail
 obtain ⟨w1, hw1⟩ : ∃ w1, w1 = w.alloc (.cells (wcs H) 124) := ⟨_, rfl⟩;obtain ⟨w2, hw2⟩ : ∃ w2, w2 = w1.alloc (.cells (wcs M) 41) := ⟨_, rfl⟩;obtain ⟨w3, hw3⟩ : ∃ w3, w3 = w2.alloc (.cells #[.int .u64 (wrd lo), .int .u64 (wrd hi)] 75) := ⟨_, rfl⟩;obtain ⟨w4, hw4⟩ : ∃ w4, w4 = w3.alloc (.cells (wcs (zw 8)) 124) := ⟨_, rfl⟩;have e4 : (((w.alloc (.cells (wcs H) 124)).alloc (.cells (wcs M) 41)).alloc (.cells #[.int .u64 (wrd lo), .int .u64 (wrd hi)] 75)).alloc (.cells z8 124) = w4 := by rw [hw4, hw3, hw2, hw1]; rfl
 unfold z8 at e4;rw [e4];have n0 : Blk w4 w.heap.size 124 (wcs H) := by rw [hw4, hw3, hw2, hw1]; exact (((Blk.new _ _ _).alloc _).alloc _).alloc _
 have n1 : Blk w4 (w.heap.size + 1) 41 (wcs M) := by
  have : w1.heap.size = w.heap.size + 1 := by rw [hw1]; simp
  rw [<- this, hw4, hw3, hw2]; exact ((Blk.new _ _ _).alloc _).alloc _
 have n2 : Blk w4 (w.heap.size + 1 + 1) 75 #[.int .u64 (wrd lo), .int .u64 (wrd hi)] := by
  have : w2.heap.size = w.heap.size + 1 + 1 := by rw [hw2, hw1]; simp
  rw [<- this, hw4, hw3]; exact (Blk.new _ _ _).alloc _
 have n3 : Blk w4 (w.heap.size + 1 + 1 + 1) 124 (wcs (zw 8)) := by
  have : w3.heap.size = w.heap.size + 1 + 1 + 1 := by rw [hw3, hw2, hw1]; simp
  rw [<- this, hw4]; exact Blk.new _ _ _
 have n4 : Below w.heap.size w w4 := by rw [hw4, hw3, hw2, hw1]; exact bal (bal (bal (bal (b0 _) _) _) _) _
 clear hw1 hw2 hw3 hw4 e4 w1 w2 w3;obtain ⟨g0, hg0⟩ : ∃ g, g = w.heap.size := ⟨_, rfl⟩;obtain ⟨g1, hg1⟩ : ∃ g, g = w.heap.size + 1 := ⟨_, rfl⟩;obtain ⟨g2, hg2⟩ : ∃ g, g = w.heap.size + 1 + 1 := ⟨_, rfl⟩;obtain ⟨g3, hg3⟩ : ∃ g, g = w.heap.size + 1 + 1 + 1 := ⟨_, rfl⟩;rw [<- hg3, <- hg2, <- hg1, <- hg0];rw [<- hg0] at n0; rw [<- hg1] at n1; rw [<- hg2] at n2; rw [<- hg3] at n3;have l01 : g0 < g1 := by omega
 have l12 : g1 < g2 := by omega
 have l23 : g2 < g3 := by omega
 have l0 : Hid (w.heap.size <= g0) := by show _ <= _; omega
 have N0 := zH n0; have N1 := zH n1; have N2 := zH n2; have N3 := zH n3; have N4 := zH n4;clear n0 n1 n2 n3 n4 hg0 hg1 hg2 hg3;have d0 : w4.cell? ⟨g2, 0, none⟩ = some (.int .u64 (wrd lo)) := N2.cell 0;have d1 : w4.cell? ⟨g2, 1, none⟩ = some (.int .u64 (wrd hi)) := N2.cell 1;go_wp2_with (refine aZH rfl 124 _ rfl g0 rfl 124 (wcs H) (0, 0) _ N0 hu8.out rfl s8.out ?_);refine (HI _).mono ?_;rintro e w6 ⟨rfl, hb6⟩;clear d0 d1;replace N0 := zH (N0.below hb6 N0.lt); replace N1 := zH (N1.below hb6 N1.lt); replace N3 := zH (N3.below hb6 N3.lt); replace N4 := zH (bcall N4 hb6);have l36 : g3 < w6.heap.size := N3.lt;clear N2 hb6;have n6 : Blk (w6.alloc (.cells z16 41)) w6.heap.size 41 (wcs (zw 16)) := Blk.new _ _ _;have v0 := N0.alloc (.cells z16 41); have v1 := N1.alloc (.cells z16 41); have v3 := N3.alloc (.cells z16 41); have v4 := bal N4 (.cells z16 41);have l6 := N4.size;obtain ⟨g6, hg6⟩ : ∃ g6, g6 = w6.heap.size := ⟨_, rfl⟩;unfold z16 at n6 v0 v1 v3 v4;have N6 := zH n6; have hw6 : Hid (w.heap.size <= w6.heap.size) := l6; clear n6 l6;go_upto_region 2 with (refine aZE rfl 41 _ _ rfl w6.heap.size (wcs V) rfl rfl 41 _ N6 sV.out holdV.out aV.out ?_)
 have n6 := N6.row (wcs V);replace v0 := v0.rowFar (k := w6.heap.size) (by omega) (wcs V); replace v1 := v1.rowFar (k := w6.heap.size) (by omega) (wcs V); replace v3 := v3.rowFar (k := w6.heap.size) (by omega) (wcs V); replace v4 := brow v4 hw6.out (wcs V);rw [<- hg6] at n6 v0 v1 v3 v4 l36 ⊢;clear N0 N1 N3 N4 N6 sV holdV aV;generalize (w6.alloc (.cells #[.int .u64 0, .int .u64 0, .int .u64 0, .int .u64 0, .int .u64 0, .int .u64 0, .int .u64 0, .int .u64 0, .int .u64 0, .int .u64 0, .int .u64 0, .int .u64 0, .int .u64 0, .int .u64 0, .int .u64 0, .int .u64 0] 41)).setRow g6 (wcs V) = w7 at *;have hl6 : Hid (w.heap.size <= g6) := by show _ <= _; rw [hg6]; exact hw6.out
 clear hg6 hw6;have N0 := zH v0; have N1 := zH v1; have N3 := zH v3; have N4 := zH v4; have N6 := zH n6; clear v0 v1 v3 v4 n6;go_wp2_with fail;go_loopw [19] (fun i wr => ∃ k : Nat, k <= 12 /\ i = .int .i64 k /\ Blk wr g6 41 (wcs (roundsTo M k V)) /\ Blk wr g0 124 (wcs H) /\ Blk wr g1 41 (wcs M) /\ Blk wr g3 124 (wcs (zw 8)) /\ Below w.heap.size w wr) (fun i _ => 12 - (intOf i).toNat)
 case atStart => exact ⟨0, by omega, rfl, N6.out, N0.out, N1.out, N3.out, N4.out⟩
 case round =>
  clear N0 N1 N3 N4 N6;obtain ⟨k, hk, rfl, x6, x0, x1, x3, x4⟩ := hrel;have N0 := zH x0; have N1 := zH x1; have N3 := zH x3; have N4 := zH x4; have N6 := zH x6; clear x0 x1 x3 x4 x6
  by_cases hlt : k < 12
  ·have ht := turn_any g6 g1 k (roundsTo M k V) M wr (by omega) (by rw [roundsTo_len, HVl.out]) HM.out N6.out N1.out
   have HT := zH ht; clear ht;have hkd : decide ((k : Int) < 12) = true := by simp; omega
   go_wp2_with (go_at_call 117; refine HT.mono ?_; rintro e w8 ⟨rfl, hz8, hg8⟩; have HZ8 := zH hz8; have HG8 := zH hg8; clear hz8 hg8);go_roundw
   case rel => exact ⟨k + 1, by omega, by go_num, HZ8.out, N0.grown HG8.out (by simp; omega), N1.grown HG8.out (by simp; omega), N3.grown HG8.out (by simp; omega), bgr N4.out HG8.out hl6.out⟩
   case measure => simp [intOf]; omega
  ·obtain rfl : k = 12 := by omega
   rw [show ((12 : Nat) : Int) = 12 from rfl];clear hlt hk;obtain ⟨R, hR⟩ : ∃ R, R = roundsTo M 12 V := ⟨_, rfl⟩;have hRl : R.length = 16 := by rw [hR, roundsTo_len, HVl.out]
   have x6 := N6.out;rw [<- hR] at x6;obtain ⟨F, hF⟩ : ∃ F, F = outOf H R := ⟨_, rfl⟩;have hFl : F.length = 8 := by rw [hF, outOf_len]
   have HRl := zH hRl; have HFl := zH hFl; have HF := zH hF; have HR := zH hR; have X6 := zH x6; clear hRl hFl hF hR x6 N6;go_wp2_with fail;go_loopw [25] (fun i wr => ∃ k : Nat, k <= 8 /\ i = .int .i64 k /\ Blk wr g0 124 (wcs (halfW F H k)) /\ Blk wr g6 41 (wcs R) /\ Blk wr g3 124 (wcs (zw 8)) /\ Below w.heap.size w wr) (fun i _ => 8 - (intOf i).toNat)
   case atStart => exact ⟨0, by omega, rfl, by simpa [halfW] using N0.out, X6.out, N3.out, N4.out⟩
   case round =>
    clear N0 N1 N3 N4 X6;obtain ⟨k, hk, rfl, x0, x6, x3, x4⟩ := hrel;have N0 := zH x0; have N3 := zH x3; have N4 := zH x4; have N6 := zH x6; clear x0 x3 x4 x6
    by_cases hlt : k < 8
    ·have eF := outOf_at H R k hlt
     rw [<- HF.out] at eF;obtain ⟨k8, hk8⟩ : ∃ k8, k8 = k + 8 := ⟨_, rfl⟩;rw [<- hk8] at eF;have e8 : (k : Int) + 8 = (k8 : Int) := by omega
     have w8' : IntKind.i64.wrap (k8 : Int) = k8 := by simp [aZU, aZR, aZM]; omega
     obtain ⟨p, hp⟩ : ∃ p, p = H.getD k 0 := ⟨_, rfl⟩;obtain ⟨q, hq⟩ : ∃ q, q = R.getD k 0 := ⟨_, rfl⟩;obtain ⟨r, hr⟩ : ∃ r, r = R.getD k8 0 := ⟨_, rfl⟩;have c0 : wr.cell? ⟨g0, k, none⟩ = some (.int .u64 (wrd p)) := by rw [N0.cell, wcs_at' _ k p (by rw [hp]; exact halfW_at F H k (by rw [HH.out]; exact hlt) (by rw [HH.out, HFl.out]))]
     have c1 : wr.cell? ⟨g6, k, none⟩ = some (.int .u64 (wrd q)) := by rw [N6.cell, wcs_at' _ k q (by rw [hq]; exact getDW R k (by rw [HRl.out]; omega))]
     have c2 : wr.cell? ⟨g6, k8, none⟩ = some (.int .u64 (wrd r)) := by rw [N6.cell, wcs_at' _ k8 r (by rw [hr]; exact getDW R k8 (by rw [HRl.out]; omega))]
     have cf : wr.frozen? ⟨g0, k, none⟩ = false := N0.frozen k;rw [<- hp, <- hq, <- hr] at eF;have EF := zH eF; clear eF hp hq hr;have h2 := wrd_xor;have hki : (k : Int) < 8 := by omega
     have hk8i : (k8 : Int) < 16 := by omega
     have hk16 : (k : Int) < 16 := by omega
     have hkd : decide ((k : Int) < 8) = true := by simp; omega
     clear hk8;go_wp2;refine wrZ (fun _ => True) (fun _ _ h => h) (Ords.of [(0, 0), (0, 1), (1, 2), (0, 3), (0, 4), (1, 5), (0, 6), (0, 7), (0, 8), (1, 9), (0, 10), (0, 11), (0, 12), (2, 13)] .fin) trivial ?_
     iterate 13 ((first | refine ords_pure rfl (fun K hK => ?_) | refine ords_read rfl (fun K hK => ?_)); go_simp; refine hK _ ?_; clear hK K)
     refine ords_loud rfl (fun n1 => ?_);go_wp2
     first | (refine ⟨trivial, ?_⟩; refine ords_end (fun n2 => ?_)) | (rintro _ ⟨n2, rfl⟩)
     go_wp2_with fail;go_roundw
     case rel =>
      have h0 := ((N0.drewN n1).set_ k (wv (p ^^^ (q ^^^ r)))).drewN n2;rw [wcs_set, halfW_put F H k _ EF.out (by rw [HH.out, HFl.out])] at h0;exact ⟨k + 1, by omega, by go_num, h0, ((N6.drewN n1).far (p := ⟨g0, k, none⟩) (by simp; omega) _).drewN n2, ((N3.drewN n1).far (p := ⟨g0, k, none⟩) (by simp; omega) _).drewN n2, bdr (bput (bdr N4.out n1) (p := ⟨g0, k, none⟩) l0.out _) n2⟩
     case measure => simp [intOf]; omega
    ·obtain rfl : k = 8 := by omega
     clear hlt hk;have x0 := N0.out;rw [halfW_all F H 8 HFl.out HH.out] at x0;have X0 := zH x0; clear x0 N0;have sF := zH (sz8w F HFl);have aF := zH (wcs_all F);have hoF : Hid ((wcs (zw 8)).size = (wcs F).size) := by show _ = _; rw [wcs_size, wcs_size, HFl.out]; rfl
     have hl3 : Hid (w.heap.size <= g3) := by show _ <= _; have := l0.out; omega
     go_upto_region 12 with fail
     go_wp2_with (first
      | (refine aZH rfl 124 _ rfl g0 rfl 124 (wcs F) (0, 0) _ X0 hu8.out rfl sF.out ?_)
      | (refine aZE rfl 124 _ _ rfl g3 (wcs F) rfl rfl 124 _ N3 sF.out hoF.out aF.out ?_))
     have h9 := HF.out;rw [HR.out] at h9;rw [<- h9];exact aZB (aZZ rfl _ _ g3 _ _ (0, 0) _ rfl (N3.row _) hu8.out rfl sF.out) rfl ⟨rfl, brow N4 hl3.out _⟩
def fillU (z : List UInt64) (k n : Nat) : List UInt64 := z.take k ++ List.replicate (n - k) 0
theorem fillU_put (z : List UInt64) (k n : Nat) (v : UInt64) (hk : k < n) (hz : z[k]? = some v) : (wcs (fillU z k n)).setIfInBounds k (wv v) = wcs (fillU z (k + 1) n) := by
 rw [wcs_set]; unfold fillU; rw [fill_put z k n 0 v hk hz]
theorem fillU_len (z : List UInt64) (k n : Nat) (hk : k <= n) (hz : z.length = n) : (fillU z k n).length = n := fill_len z k n 0 hk hz
theorem fillU_all (z : List UInt64) (n : Nat) (hz : z.length = n) : fillU z n n = z := by unfold fillU; rw [Nat.sub_self, List.replicate_zero, bZX, aZQ (by omega)]
theorem fillU_none (z : List UInt64) : wcs (fillU z 0 16) = z16 := rfl
theorem blockWords_any (A : Option Addr) (c : Nat) (x : List UInt8) (B : Nat) (w : World) (hx : x.length = 128) (hB : B <= w.heap.size) (hr : RS cB w B A x) :
  Calls Tryz.prog 101 #[.slice A 128 c] w fun e w' => e = .returned (.tuple #[.agg (wcs (wordsOf x 16)), .int .i64 0]) /\ Below w.heap.size w w' := by
 have HX := zH hx; have HR := zH (hr.more hB); clear hx hr;obtain ⟨M, hM⟩ : ∃ M, M = wordsOf x 16 := ⟨_, rfl⟩;have hMl : M.length = 16 := by rw [hM, wordsOf_len]
 rw [<- hM];have HM := zH hM; have HML := zH hMl; clear hM hMl;have hu := zH Tryz.underlying41;have sM := zH (sz16w M HML);have aM := zH (wcs_all M);have hoM : Hid ((wcs (fillU M 0 16)).size = (wcs M).size) := by show _ = _; rw [wcs_size, wcs_size, fillU_len _ _ _ (by omega) HML.out, HML.out]
 go_enter Tryz.func101, Tryz.ntmps101;go_upto_region 4 with fail
 have n0 : Blk ((w.alloc (.cells z16 41)).alloc (.cells z16 41)) w.heap.size 41 (wcs (fillU M 0 16)) := by rw [fillU_none]; exact (Blk.new _ _ _).alloc _
 have n1 : Blk ((w.alloc (.cells z16 41)).alloc (.cells z16 41)) (w.heap.size + 1) 41 (wcs (fillU M 0 16)) := by
  rw [fillU_none]; simpa using Blk.new (w.alloc (.cells z16 41)) 41 z16
 have n4 := bal (bal (b0 w) (.cells z16 41)) (.cells z16 41);unfold z16 at n0 n1 n4;obtain ⟨b, hb⟩ : ∃ b, b = w.heap.size := ⟨_, rfl⟩;rw [<- hb] at n0 n1 ⊢;generalize (w.alloc (.cells #[.int .u64 0, .int .u64 0, .int .u64 0, .int .u64 0, .int .u64 0, .int .u64 0, .int .u64 0, .int .u64 0, .int .u64 0, .int .u64 0, .int .u64 0, .int .u64 0, .int .u64 0, .int .u64 0, .int .u64 0, .int .u64 0] 41)).alloc (.cells #[.int .u64 0, .int .u64 0, .int .u64 0, .int .u64 0, .int .u64 0, .int .u64 0, .int .u64 0, .int .u64 0, .int .u64 0, .int .u64 0, .int .u64 0, .int .u64 0, .int .u64 0, .int .u64 0, .int .u64 0, .int .u64 0] 41) = w0 at *;have N0 := zH n0; have N1 := zH n1; have N4 := zH n4; have hwb : Hid (w.heap.size <= b) := by (show _ <= _; omega)
 clear n0 n1 n4 hb;go_wp2_with fail;go_loopw [10] (fun i wr => ∃ k : Nat, k <= 16 /\ i = .int .i64 k /\ Blk wr b 41 (wcs (fillU M 0 16)) /\ Blk wr (b + 1) 41 (wcs (fillU M k 16)) /\ Below w.heap.size w wr) (fun i _ => 16 - (intOf i).toNat)
 case atStart => exact ⟨0, by omega, rfl, N0.out, N1.out, N4.out⟩
 case round =>
  clear N0 N1 N4;obtain ⟨k, hk, rfl, x0, x1, x4⟩ := hrel;have N0 := zH x0; have N1 := zH x1; have N4 := zH x4; clear x0 x1 x4
  by_cases hlt : k < 16
  ·have hl := load64_any A c 128 (8 * k) w.heap.size x wr HX.out (by omega) (HR.below N4.out) (by omega)
   have e8 : ((8 * k : Nat) : Int) = 8 * (k : Int) := by omega
   rw [e8] at hl;obtain ⟨v, hv⟩ : ∃ v, v = word ((x.drop (8 * k)).take 8) := ⟨_, rfl⟩;have hmk : M[k]? = some v := by rw [HM.out, wordsOf_at x 16 k hlt, hv]
   rw [<- hv] at hl;have gc : wr.cell? ⟨b + 1, k, none⟩ = some (wv ((fillU M k 16).getD k 0)) := (N1.cell k).trans (wcs_get _ _ (by rw [fillU_len _ _ _ hk HML.out]; exact hlt));have gf : wr.frozen? ⟨b + 1, k, none⟩ = false := N1.frozen k;generalize wv ((fillU M k 16).getD k 0) = old at gc;have HL := zH hl; have HMK := zH hmk; clear hl hv e8 hmk;have hki : (k : Int) < 16 := by omega
   go_wp2_with (go_at_call 72; refine HL.mono ?_; rintro e w1 ⟨rfl, rfl⟩)
   case roundEnd =>
    have h1 := N1.set_ k (wv v);rw [fillU_put _ k 16 v hlt HMK.out] at h1;exact ⟨⟨k + 1, by omega, by go_num, N0.far (p := ⟨b + 1, k, none⟩) (by simp) _, h1, bput N4.out (p := ⟨b + 1, k, none⟩) (by have := hwb.out; simp; omega) _⟩, by simp [intOf]; omega⟩
  ·obtain rfl : k = 16 := by omega
   clear hlt hk;have x1 := N1.out;rw [fillU_all _ 16 HML.out] at x1;have X1 := zH x1; clear x1 N1;go_upto_region 9 with fail
   go_wp2_with (first
    | (refine aZH rfl 41 _ rfl (b + 1) rfl 41 (wcs M) (0, 0) _ X1 hu.out rfl sM.out ?_)
    | (refine aZE rfl 41 _ _ rfl b (wcs M) rfl rfl 41 _ N0 sM.out hoM.out aM.out ?_))
   exact aZB (results_cell_tmp rfl _ _ b _ _ _ rfl (N0.row _) hu.out rfl sM.out) rfl ⟨rfl, brow N4 hwb.out _⟩
def start64 (l : List UInt8) : List UInt64 := xorW iv64 (wordsOf l 8)
theorem start64_len (l : List UInt8) : (start64 l).length = 8 := by unfold start64; rw [xorW_len _ _ (by rw [wordsOf_len]; rfl)]; rfl
theorem start_any (A : Option Addr) (c : Nat) (x : List UInt8) (B : Nat) (w : World) (hx : x.length = 64) (hB : B <= w.heap.size) (hr : RS cB w B A x) :
  Calls Tryz.prog 81 #[.slice A 64 c] w fun e w' => e = .returned (.tuple #[.agg (wcs (start64 x)), .int .i64 0]) /\ Below w.heap.size w w' := by
 have HX := zH hx; have HR := zH (hr.more hB); clear hx hr;obtain ⟨S, hS⟩ : ∃ S, S = start64 x := ⟨_, rfl⟩;have hSl : S.length = 8 := by rw [hS, start64_len]
 have hSk : ∀ k, k < 8 -> S[k]? = some (iv64.getD k 0 ^^^ word ((x.drop (8 * k)).take 8)) := by
  intro k hk;rw [hS];exact xorW_at iv64 (wordsOf x 8) k _ _ (getDW iv64 k hk) (wordsOf_at x 8 k hk)
 rw [<- hS];have hiv := iv_any;have hIl : iv64.length = 8 := rfl;have sI := zH (sz8w iv64 hIl);generalize iv64 = I at *;have HSK := zH hSk; have HSL := zH hSl; have HIV := zH hiv; have HIL := zH hIl; clear hS hSl hSk hiv hIl;have hu := zH Tryz.underlying124;have sS := zH (sz8w S HSL);have aS := zH (wcs_all S); have aI := zH (wcs_all I);have hoS : Hid ((wcs (zw 8)).size = (wcs S).size) := by show _ = _; rw [wcs_size, wcs_size, HSL.out]; rfl
 have hoI : Hid ((wcs (zw 8)).size = (wcs I).size) := by show _ = _; rw [wcs_size, wcs_size, HIL.out]; rfl
 go_enter Tryz.func81, Tryz.ntmps81;go_wp2_with fail;refine (HIV _).mono ?_;rintro e w1 ⟨rfl, hb1⟩;have n0 : Blk (w.alloc (.cells z8 124)) w.heap.size 124 (wcs (zw 8)) := Blk.new _ _ _;have n4 := bal (b0 w) (.cells z8 124);unfold z8 at n0 n4;replace n0 := n0.below hb1 n0.lt;replace n4 := bcall n4 hb1;have n1 : Blk (w1.alloc (.cells z8 124)) w1.heap.size 124 (wcs (zw 8)) := Blk.new _ _ _;replace n0 := n0.alloc (.cells z8 124);replace n4 := bal n4 (.cells z8 124);unfold z8 at n0 n1 n4;have hlt0 : w.heap.size < w1.heap.size := by have := hb1.size; simp at this; omega
 have N1 := zH n1;clear hb1 n1;go_upto_region 4 with (refine aZE rfl 124 _ _ rfl w1.heap.size (wcs I) rfl rfl 124 _ N1 sI.out hoI.out aI.out ?_)
 have n1 := N1.row (wcs I);replace n0 := n0.rowFar (k := w1.heap.size) (by omega) (wcs I); replace n4 := brow n4 (g := w1.heap.size) (by omega) (wcs I);obtain ⟨b, hb⟩ : ∃ b, b = w.heap.size := ⟨_, rfl⟩;obtain ⟨g, hg⟩ : ∃ g, g = w1.heap.size := ⟨_, rfl⟩;have hwb : Hid (w.heap.size <= b) := by (show _ <= _; omega)
 rw [<- hg, <- hb] at hlt0;rw [<- hg] at n0 n1 n4 ⊢;rw [<- hb] at n0 ⊢;clear N1 hb hg;generalize (w1.alloc (.cells #[.int .u64 0, .int .u64 0, .int .u64 0, .int .u64 0, .int .u64 0, .int .u64 0, .int .u64 0, .int .u64 0] 124)).setRow g (wcs I) = w2 at *;have N0 := zH n0; have N1 := zH n1; have N4 := zH n4; clear n0 n1 n4;go_wp2_with fail;go_loopw [13] (fun i wr => ∃ k : Nat, k <= 8 /\ i = .int .i64 k /\ Blk wr b 124 (wcs (zw 8)) /\ Blk wr g 124 (wcs (halfW S I k)) /\ Below w.heap.size w wr) (fun i _ => 8 - (intOf i).toNat)
 case atStart => exact ⟨0, by omega, rfl, N0.out, by simpa [halfW] using N1.out, N4.out⟩
 case round =>
  clear N0 N1 N4;obtain ⟨k, hk, rfl, x0, x1, x4⟩ := hrel;have N0 := zH x0; have N1 := zH x1; have N4 := zH x4; clear x0 x1 x4
  by_cases hlt : k < 8
  ·have hl := load64_any A c 64 (8 * k) w.heap.size x wr HX.out (by omega) (HR.below N4.out) (by omega)
   have e8 : ((8 * k : Nat) : Int) = 8 * (k : Int) := by omega
   rw [e8] at hl;have hsk := HSK k hlt;obtain ⟨v, hv⟩ : ∃ v, v = word ((x.drop (8 * k)).take 8) := ⟨_, rfl⟩;obtain ⟨q, hq⟩ : ∃ q, q = I.getD k 0 := ⟨_, rfl⟩;rw [<- hv] at hl hsk;have gc : wr.cell? ⟨g, k, none⟩ = some (.int .u64 (wrd q)) := by rw [N1.cell, wcs_at' _ k q (by rw [hq]; exact halfW_at S I k (by rw [HIL.out]; exact hlt) (by rw [HIL.out, HSL.out]))]
   have gf : wr.frozen? ⟨g, k, none⟩ = false := N1.frozen k;rw [<- hq] at hsk;have HL := zH hl; have HSV := zH hsk; clear hl hv e8 hsk hq;have h2 := wrd_xor;have hki : (k : Int) < 8 := by omega
   go_wp2_with (go_at_call 72; refine HL.mono ?_; rintro e w3 ⟨rfl, rfl⟩)
   case roundEnd =>
    have h1 := N1.set_ k (wv (q ^^^ v));rw [wcs_set, halfW_put S I k _ HSV.out (by rw [HIL.out, HSL.out])] at h1;exact ⟨⟨k + 1, by omega, by go_num, N0.far (p := ⟨g, k, none⟩) (by simp; omega) _, h1, bput N4.out (p := ⟨g, k, none⟩) (by have := hwb.out; simp; omega) _⟩, by simp [intOf]; omega⟩
  ·obtain rfl : k = 8 := by omega
   clear hlt hk;have x1 := N1.out;rw [halfW_all S I 8 HSL.out HIL.out] at x1;have X1 := zH x1; clear x1 N1;go_upto_region 10 with fail
   go_wp2_with (first
    | (refine aZH rfl 124 _ rfl g rfl 124 (wcs S) (0, 0) _ X1 hu.out rfl sS.out ?_)
    | (refine aZE rfl 124 _ _ rfl b (wcs S) rfl rfl 124 _ N0 sS.out hoS.out aS.out ?_))
   exact aZB (results_cell_tmp rfl _ _ b _ _ _ rfl (N0.row _) hu.out rfl sS.out) rfl ⟨rfl, brow N4 hwb.out _⟩
theorem index8_0 (x0 x1 x2 x3 x4 x5 x6 x7 : UInt64) (w : World) : (cZA 124 (.agg (wcs [x0, x1, x2, x3, x4, x5, x6, x7])) (.int .i64 0)).run Tryz.prog w = .ok (wv x0) w := by kernel_rfl
theorem index8_1 (x0 x1 x2 x3 x4 x5 x6 x7 : UInt64) (w : World) : (cZA 124 (.agg (wcs [x0, x1, x2, x3, x4, x5, x6, x7])) (.int .i64 1)).run Tryz.prog w = .ok (wv x1) w := by kernel_rfl
theorem index8_2 (x0 x1 x2 x3 x4 x5 x6 x7 : UInt64) (w : World) : (cZA 124 (.agg (wcs [x0, x1, x2, x3, x4, x5, x6, x7])) (.int .i64 2)).run Tryz.prog w = .ok (wv x2) w := by kernel_rfl
theorem index8_3 (x0 x1 x2 x3 x4 x5 x6 x7 : UInt64) (w : World) : (cZA 124 (.agg (wcs [x0, x1, x2, x3, x4, x5, x6, x7])) (.int .i64 3)).run Tryz.prog w = .ok (wv x3) w := by kernel_rfl
theorem index8_4 (x0 x1 x2 x3 x4 x5 x6 x7 : UInt64) (w : World) : (cZA 124 (.agg (wcs [x0, x1, x2, x3, x4, x5, x6, x7])) (.int .i64 4)).run Tryz.prog w = .ok (wv x4) w := by kernel_rfl
theorem index8_5 (x0 x1 x2 x3 x4 x5 x6 x7 : UInt64) (w : World) : (cZA 124 (.agg (wcs [x0, x1, x2, x3, x4, x5, x6, x7])) (.int .i64 5)).run Tryz.prog w = .ok (wv x5) w := by kernel_rfl
theorem index8_6 (x0 x1 x2 x3 x4 x5 x6 x7 : UInt64) (w : World) : (cZA 124 (.agg (wcs [x0, x1, x2, x3, x4, x5, x6, x7])) (.int .i64 6)).run Tryz.prog w = .ok (wv x6) w := by kernel_rfl
theorem index8_7 (x0 x1 x2 x3 x4 x5 x6 x7 : UInt64) (w : World) : (cZA 124 (.agg (wcs [x0, x1, x2, x3, x4, x5, x6, x7])) (.int .i64 7)).run Tryz.prog w = .ok (wv x7) w := by kernel_rfl
theorem index8 (L : List UInt64) (hL : L.length = 8) (k : Nat) (v : UInt64) (hv : L[k]? = some v) (w : World) :
  (cZA 124 (.agg (wcs L)) (.int .i64 k)).run Tryz.prog w = .ok (.int .u64 (wrd v)) w := by
 match L, hL with
 | [x0, x1, x2, x3, x4, x5, x6, x7], _ =>
  have hk : k < 8 := by have := (List.getElem?_eq_some_iff.1 hv).1; simpa using this
  have h : k = 0 \/ k = 1 \/ k = 2 \/ k = 3 \/ k = 4 \/ k = 5 \/ k = 6 \/ k = 7 := by omega
  rcases h with rfl | rfl | rfl | rfl | rfl | rfl | rfl | rfl
  ·simp at hv; rw [<- hv]; exact index8_0 x0 x1 x2 x3 x4 x5 x6 x7 w
  ·simp at hv; rw [<- hv]; exact index8_1 x0 x1 x2 x3 x4 x5 x6 x7 w
  ·simp at hv; rw [<- hv]; exact index8_2 x0 x1 x2 x3 x4 x5 x6 x7 w
  ·simp at hv; rw [<- hv]; exact index8_3 x0 x1 x2 x3 x4 x5 x6 x7 w
  ·simp at hv; rw [<- hv]; exact index8_4 x0 x1 x2 x3 x4 x5 x6 x7 w
  ·simp at hv; rw [<- hv]; exact index8_5 x0 x1 x2 x3 x4 x5 x6 x7 w
  ·simp at hv; rw [<- hv]; exact index8_6 x0 x1 x2 x3 x4 x5 x6 x7 w
  ·simp at hv; rw [<- hv]; exact index8_7 x0 x1 x2 x3 x4 x5 x6 x7 w
theorem bytes_any (S : List UInt64) (w : World) (hS : S.length = 8) :
  Calls Tryz.prog 83 #[.agg (wcs S)] w fun e w' => ∃ A c, e = .returned (.slice A 64 c) /\ OS cB w' w.heap.size A c (flat S) /\ Below w.heap.size w w' := by
 have HS := zH hS; clear hS;have hmk : ∀ (W : World), (Instr.makeSlice 24 (.int .i64 0) (.int .i64 64)).run Tryz.prog W = .ok (.slice (some ⟨W.heap.size, 0, none⟩) 0 64) (W.alloc (.cells (madeCells #[cB.zero] 64) 5)) := fun (W : World) => run_makeS cB_ok .i64 .i64 0 64 (by omega) (by show 1 * 64 <= _; omega) (by omega) W
 have hu := zH Tryz.underlying124;have sS := zH (sz8w S HS);have n0 := zH ((Blk.new w 124 (wcs S)).alloc (.cells (madeCells #[cB.zero] 64) 5));go_enter Tryz.func83, Tryz.ntmps83;go_wp2_with (refine aZH rfl 124 _ rfl w.heap.size rfl 124 (wcs S) (0, 0) _ n0.out hu.out rfl sS.out ?_);clear hmk n0;have o0 := OS.madeAt (cd := cB) (base := w.heap.size) (g := w.heap.size + 1) (w.alloc (.cells (wcs S) 124)) 0 64 0 rfl (by omega) (by unfold maxLen; omega) (by simp) (by simp);have o4 := bal (bal (b0 w) (.cells (wcs S) 124)) (.cells (madeCells #[cB.zero] 64) 5);have O0 := zH o0; have O4 := zH o4; clear o0 o4;go_loopw [3, 8] (fun o i wr => ∃ (k n : Nat) (A : Option Addr) (c : Nat), k <= 8 /\ i = .int .i64 k /\ n = 8 * k /\ o = .slice A n c /\ OS cB wr w.heap.size A c (flat (S.take k)) /\ Below w.heap.size w wr) (fun _ i _ => 8 - (intOf i).toNat)
 case atStart => exact ⟨0, 0, _, 64, by omega, rfl, rfl, rfl, O0.out, O4.out⟩
 case round =>
  clear O0 O4;obtain ⟨k, n, A, c, hk, rfl, hn, rfl, hos, hbw⟩ := hrel;have HO := zH hos; have HN := zH hn; clear hos hn
  by_cases hlt : k < 8
  ·obtain ⟨v, hv⟩ : ∃ v, S[k]? = some v := ⟨_, aZP (by rw [HS.out]; exact hlt)⟩
   have hix := index8 S HS k v hv;have HV := zH hv; clear hv;have hlen : Hid ((flat (S.take k)).length = n) := by show _ = _; rw [flat_len, List.length_take, HS.out, HN.out]; omega
   have hn8 : n <= 64 := by have := HN.out; omega
   have hkd : decide ((k : Int) < 8) = true := by simp; omega
   go_wp2_with (first
    | (go_at_call 57; refine (store64_any v _).mono ?_; rintro e w6 ⟨A6, c6, rfl, ho6, hb6⟩; have HO6 := zH ho6; clear ho6)
    | (at_builtin; refine wpList_appB _ rfl (.tmp 11) (.tmp 13) rfl (HO.below hb6 (Nat.le_refl _)) rfl hlen.out HO6.reads rfl (storeN_len _ _) (by omega) (by have := hbw.size; have := hb6.size; omega) ?_; intro A3 c3 w7 hown3 hgrow hat; have hw3 := bapp (bcall hbw hb6) (HO.below hb6 (Nat.le_refl _)) hgrow; have HO3 := zH hown3; clear hown3 hgrow hat))
   go_roundw
   case rel =>
    refine ⟨k + 1, n + 8, A3, c3, by omega, by go_num, by have := HN.out; omega, rfl, ?_, hw3⟩;rw [List.take_add_one, HV.out]
    show OS cB _ _ _ _ (flat (S.take k ++ [v]))
    rw [flat_snoc];exact HO3.out
   case measure => simp [intOf]; omega
  ·obtain rfl : k = 8 := by omega
   have hn := HN.out;subst hn;have ho := HO.out;rw [aZQ (Nat.le_of_eq HS.out)] at ho;go_wp2_with fail;exact aZB (results_tmp rfl _ _ _) rfl ⟨A, c, rfl, ho, hbw⟩
end Go.Proofs.YtboihcigcfmhhaaGreat

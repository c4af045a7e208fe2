/-
  Z7: contracts and lemmas alone; no statement is claimed here.
-/
import Derived.Test.YtmapfcdffklopaaGreatZx
import Derived.Test.YtmapfcdffklopaaGreatZxb
import Derived.Test.YtmapfcdffklopaaGreatZxc
import Derived.Test.YtmapfcdffklopaaGreatZ0
import Derived.Test.YtmapfcdffklopaaGreatZ1
import Derived.Test.YtmapfcdffklopaaGreatZ5
import Derived.Test.YtmapfcdffklopaaGreatZ2
import Derived.Laws.CopyOwn
import Derived.Laws.DeepNot64
set_option maxHeartbeats 4000000
set_option maxRecDepth 20000
namespace Go.Proofs.YtmapfcdffklopaaGreat
open Go.Instr renaming index → cZA
open _root_.List renaming append_nil → bZX
open _root_.Bool renaming false_eq_true → bZQ
open Go renaming results_cell_row → aZZ
open _root_.List renaming getElem?_append_right → aZV
open Go.IntKind renaming wrap → aZU
open Go.IntKind renaming bits → aZR
open _root_.List renaming take_of_length_le → aZQ
open _root_.List renaming getElem?_eq_getElem → aZP
open _root_.List renaming length_append → aZN
open Go.IntKind renaming signed → aZM
open Go renaming wpList_load_row → aZH
open Go renaming wpList_store_row → aZE
open Go renaming bodyPost_ret → aZB
open Lib renaming hid -> zH
open Go.RowKit
attribute [local go_sem] pureUpon Ords.of
def turnTo64 (M : List UInt64) (s : List Nat) : Nat -> List UInt64 -> List UInt64
  | 0, V => V
  | k + 1, V => (pls k).lay (turnTo64 M s k V) (gm64 ((pls k).get 0 (turnTo64 M s k V)) (M.getD (s.getD (2 * k) 0) 0) (M.getD (s.getD (2 * k + 1) 0) 0))
theorem turnTo64_len (M : List UInt64) (s : List Nat) (k : Nat) (V : List UInt64) : (turnTo64 M s k V).length = V.length := by
 induction k with
 | zero => rfl
 | succ k ih => unfold turnTo64; rw [lay_len, ih]
def turn64 (M : List UInt64) (r : Nat) (V : List UInt64) : List UInt64 := turnTo64 M (sigma r) 8 V
theorem turn64_len (M : List UInt64) (r : Nat) (V : List UInt64) : (turn64 M r V).length = V.length := turnTo64_len _ _ _ _
theorem turn_any (gv gm r : Nat) (V M : List UInt64) (w : World) (hne : gm ≠ gv) (hV : V.length = 16) (hM : M.length = 16) (hv : Blk w gv 97 (wcs V)) (hm : Blk w gm 97 (wcs M)) :
  Calls Tryz.prog 167 #[.pointer (some ⟨gv, 0, none⟩), .pointer (some ⟨gm, 0, none⟩), .int .i64 r] w fun e w' => e = .returned (.tuple #[]) /\ Blk w' gv 97 (wcs (turn64 M r V)) /\ w.grownBy w' (some gv) := by open kA in exact zS9
def initOf (H : List UInt64) (lo hi : UInt64) (last node : Bool) : List UInt64 :=
  let v := ((H ++ iv64).set 12 (0x510e527fade682d1 ^^^ lo)).set 13 (0x9b05688c2b3e6c1f ^^^ hi)
  let v := if last then v.set 14 (~~~ 0x1f83d9abfb41bd6b) else v
  if node then v.set 15 (~~~ 0x5be0cd19137e2179) else v
theorem wrd_not (x : UInt64) : bits .xor .u64 IntKind.u64.max (wrd x) = wrd (~~~x) := by
 show IntKind.u64.wrap ((BitVec.ofInt 64 IntKind.u64.max ^^^ BitVec.ofInt 64 (wrd x)).toNat : Int) = _
 have h1 : BitVec.ofInt 64 IntKind.u64.max = BitVec.allOnes 64 := by decide
 have hx := wrd_lt x;unfold wrd;rw [h1, BitVec.allOnes_xor, BitVec.toNat_not, ofInt_u64 x.toNat (by omega), UInt64.toNat_not];have : UInt64.size = 18446744073709551616 := rfl;rw [this];simp [aZU, aZR, aZM];omega
theorem sz8w (z : List UInt64) (h : z.length = 8) : (Tryz.prog.info? 150).map (·.size) = some (wcs z).size := by rw [wcs_size, h]; kernel_rfl
theorem sz16w (z : List UInt64) (h : z.length = 16) : (Tryz.prog.info? 97).map (·.size) = some (wcs z).size := by rw [wcs_size, h]; kernel_rfl
theorem wpList_copyW {ops : Array Oper} {rest : List Oper} {o : Oper} {a : Act} {w : World} {Q : Exit -> Act -> World -> Prop} (hgd : o.guard = none) (d s : Operand)
  (ho : o.op = .call { callee := .builtin .copy, args := #[d, s], argTypes := #[159, 159] }) (g off gs n dc sc : Nat) (hd : a.eval d = .slice (some ⟨g, off, none⟩) n dc) (hs : a.eval s = .slice (some ⟨gs, 0, none⟩) n sc)
  (D S : List UInt64) (t ts : TypeId) (hg : Blk w g t (wcs D)) (hgs : Blk w gs ts (wcs S)) (hn : S.length = n) (hfit : off + n <= D.length)
  (h : wpList Tryz.prog ops Q rest (a.put o.dst (goInt n)) (w.setRow g (wcs (D.take off ++ (S ++ D.drop (off + n)))))) : wpList Tryz.prog ops Q (o :: rest) a w := by
 subst hn;have hl : (wcs S).toList.length = S.length := by simp [wcs]
 refine wpList_copy_own hgd d s 159 159 ho 31 (by kernel_rfl) (by kernel_rfl) g off S.length dc ⟨gs, 0, none⟩ S.length sc hd hs (wcs D) t hg (wcs S).toList (by rw [hl]; exact (Nat.min_self _).symm) (fun j v hv => ?_) (by rw [hl, wcs_size]; exact hfit) (fun v hv => ?_) ?_
 ·have e : (⟨gs, 0, none⟩ : Addr).add j = ⟨gs, j, none⟩ := by unfold Addr.add; split <;> simp_all
  rw [e, hgs.cell]; simpa using hv
 ·have := Array.all_eq_true_iff_forall_mem.1 (wcs_all S) v (by simpa using hv); exact this
 ·rw [hl]
  have e : ((wcs D).toList.take off ++ ((wcs S).toList ++ (wcs D).toList.drop (off + S.length))).toArray = wcs (D.take off ++ (S ++ D.drop (off + S.length))) := by simp [wcs]
  rw [e]; exact h
def z16 : Array Value := #[.int .u64 0, .int .u64 0, .int .u64 0, .int .u64 0, .int .u64 0, .int .u64 0, .int .u64 0, .int .u64 0, .int .u64 0, .int .u64 0, .int .u64 0, .int .u64 0, .int .u64 0, .int .u64 0, .int .u64 0, .int .u64 0]
def zw (n : Nat) : List UInt64 := List.replicate n 0
theorem init_any (H : List UInt64) (lo hi : UInt64) (last node : Bool) (w : World) (hH : H.length = 8) :
  Calls Tryz.prog 166 #[.agg (wcs H), .agg #[.int .u64 (wrd lo), .int .u64 (wrd hi)], .bool last, .bool node] w fun e w' => e = .returned (.agg (wcs (initOf H lo hi last node))) /\ Below w.heap.size w w' := by open kA in exact zS12
def z8 : Array Value := #[.int .u64 0, .int .u64 0, .int .u64 0, .int .u64 0, .int .u64 0, .int .u64 0, .int .u64 0, .int .u64 0]
theorem initOf_len (H : List UInt64) (lo hi : UInt64) (last node : Bool) (h : H.length = 8) : (initOf H lo hi last node).length = 16 := by
 have : (H ++ iv64).length = 16 := by rw [aZN, h]; rfl
 unfold initOf
 cases last <;> cases node <;> simp [this]
def roundsTo (M : List UInt64) : Nat -> List UInt64 -> List UInt64
  | 0, V => V
  | r + 1, V => turn64 M r (roundsTo M r V)
theorem roundsTo_len (M : List UInt64) (r : Nat) (V : List UInt64) : (roundsTo M r V).length = V.length := by
 induction r with
 | zero => rfl
 | succ r ih => unfold roundsTo; rw [turn64_len, ih]
def outOf (H V : List UInt64) : List UInt64 := (List.range 8).map fun i => H.getD i 0 ^^^ (V.getD i 0 ^^^ V.getD (i + 8) 0)
theorem outOf_len (H V : List UInt64) : (outOf H V).length = 8 := by simp [outOf]
theorem outOf_at (H V : List UInt64) (k : Nat) (hk : k < 8) : (outOf H V)[k]? = some (H.getD k 0 ^^^ (V.getD k 0 ^^^ V.getD (k + 8) 0)) := by simp [outOf, hk]
def comp64 (H M : List UInt64) (lo hi : UInt64) (last node : Bool) : List UInt64 := outOf H (roundsTo M 12 (initOf H lo hi last node))
theorem comp64_len (H M : List UInt64) (lo hi : UInt64) (last node : Bool) : (comp64 H M lo hi last node).length = 8 := outOf_len _ _
def halfW (z x : List UInt64) (k : Nat) : List UInt64 := z.take k ++ x.drop k
theorem halfW_put (z x : List UInt64) (k : Nat) (v : UInt64) (hz : z[k]? = some v) (hl : x.length = z.length) : (halfW z x k).set k v = halfW z x (k + 1) := by open kA in exact zS78
theorem halfW_at (z x : List UInt64) (k : Nat) (hk : k < x.length) (hl : x.length = z.length) : (halfW z x k)[k]? = some (x.getD k 0) := by
 have h1 : (z.take k).length = k := by simp; omega
 unfold halfW;rw [aZV (by omega), h1, Nat.sub_self, List.getElem?_drop, Nat.add_zero, List.getD_eq_getElem?_getD, aZP hk]
 rfl
theorem halfW_all (z x : List UInt64) (n : Nat) (hz : z.length = n) (hx : x.length = n) : halfW z x n = z := by
 unfold halfW; rw [aZQ (by omega), List.drop_of_length_le (by omega), bZX]
theorem getDW (l : List UInt64) (k : Nat) (h : k < l.length) : l[k]? = some (l.getD k 0) := by rw [List.getD_eq_getElem?_getD, aZP h]; rfl
theorem comp_any (H M : List UInt64) (lo hi : UInt64) (last node : Bool) (w : World) (hH : H.length = 8) (hM : M.length = 16) :
  Calls Tryz.prog 158 #[.agg (wcs H), .agg (wcs M), .agg #[.int .u64 (wrd lo), .int .u64 (wrd hi)], .bool last, .bool node] w fun e w' => e = .returned (.agg (wcs (comp64 H M lo hi last node))) /\ Below w.heap.size w w' := by open kA in exact zS8
def fillU (z : List UInt64) (k n : Nat) : List UInt64 := z.take k ++ List.replicate (n - k) 0
theorem fillU_put (z : List UInt64) (k n : Nat) (v : UInt64) (hk : k < n) (hz : z[k]? = some v) : (wcs (fillU z k n)).setIfInBounds k (wv v) = wcs (fillU z (k + 1) n) := by
 rw [wcs_set]; unfold fillU; rw [fill_put z k n 0 v hk hz]
theorem fillU_len (z : List UInt64) (k n : Nat) (hk : k <= n) (hz : z.length = n) : (fillU z k n).length = n := fill_len z k n 0 hk hz
theorem fillU_all (z : List UInt64) (n : Nat) (hz : z.length = n) : fillU z n n = z := by unfold fillU; rw [Nat.sub_self, List.replicate_zero, bZX, aZQ (by omega)]
theorem fillU_none (z : List UInt64) : wcs (fillU z 0 16) = z16 := rfl
theorem blockWords_any (A : Option Addr) (c : Nat) (x : List UInt8) (B : Nat) (w : World) (hx : x.length = 128) (hB : B <= w.heap.size) (hr : RS cB w B A x) :
  Calls Tryz.prog 157 #[.slice A 128 c] w fun e w' => e = .returned (.tuple #[.agg (wcs (wordsOf x 16)), .int .i64 0]) /\ Below w.heap.size w w' := by open kA in exact zS19
def start64 (l : List UInt8) : List UInt64 := xorW iv64 (wordsOf l 8)
theorem start64_len (l : List UInt8) : (start64 l).length = 8 := by unfold start64; rw [xorW_len _ _ (by rw [wordsOf_len]; rfl)]; rfl
theorem start_any (A : Option Addr) (c : Nat) (x : List UInt8) (B : Nat) (w : World) (hx : x.length = 64) (hB : B <= w.heap.size) (hr : RS cB w B A x) :
  Calls Tryz.prog 142 #[.slice A 64 c] w fun e w' => e = .returned (.tuple #[.agg (wcs (start64 x)), .int .i64 0]) /\ Below w.heap.size w w' := by open kA in exact zS55
theorem index8_0 (x0 x1 x2 x3 x4 x5 x6 x7 : UInt64) (w : World) : (cZA 150 (.agg (wcs [x0, x1, x2, x3, x4, x5, x6, x7])) (.int .i64 0)).run Tryz.prog w = .ok (wv x0) w := by kernel_rfl
theorem index8_1 (x0 x1 x2 x3 x4 x5 x6 x7 : UInt64) (w : World) : (cZA 150 (.agg (wcs [x0, x1, x2, x3, x4, x5, x6, x7])) (.int .i64 1)).run Tryz.prog w = .ok (wv x1) w := by kernel_rfl
theorem index8_2 (x0 x1 x2 x3 x4 x5 x6 x7 : UInt64) (w : World) : (cZA 150 (.agg (wcs [x0, x1, x2, x3, x4, x5, x6, x7])) (.int .i64 2)).run Tryz.prog w = .ok (wv x2) w := by kernel_rfl
theorem index8_3 (x0 x1 x2 x3 x4 x5 x6 x7 : UInt64) (w : World) : (cZA 150 (.agg (wcs [x0, x1, x2, x3, x4, x5, x6, x7])) (.int .i64 3)).run Tryz.prog w = .ok (wv x3) w := by kernel_rfl
theorem index8_4 (x0 x1 x2 x3 x4 x5 x6 x7 : UInt64) (w : World) : (cZA 150 (.agg (wcs [x0, x1, x2, x3, x4, x5, x6, x7])) (.int .i64 4)).run Tryz.prog w = .ok (wv x4) w := by kernel_rfl
theorem index8_5 (x0 x1 x2 x3 x4 x5 x6 x7 : UInt64) (w : World) : (cZA 150 (.agg (wcs [x0, x1, x2, x3, x4, x5, x6, x7])) (.int .i64 5)).run Tryz.prog w = .ok (wv x5) w := by kernel_rfl
theorem index8_6 (x0 x1 x2 x3 x4 x5 x6 x7 : UInt64) (w : World) : (cZA 150 (.agg (wcs [x0, x1, x2, x3, x4, x5, x6, x7])) (.int .i64 6)).run Tryz.prog w = .ok (wv x6) w := by kernel_rfl
theorem index8_7 (x0 x1 x2 x3 x4 x5 x6 x7 : UInt64) (w : World) : (cZA 150 (.agg (wcs [x0, x1, x2, x3, x4, x5, x6, x7])) (.int .i64 7)).run Tryz.prog w = .ok (wv x7) w := by kernel_rfl
theorem index8 (L : List UInt64) (hL : L.length = 8) (k : Nat) (v : UInt64) (hv : L[k]? = some v) (w : World) :
  (cZA 150 (.agg (wcs L)) (.int .i64 k)).run Tryz.prog w = .ok (.int .u64 (wrd v)) w := by
 match L, hL with
 | [x0, x1, x2, x3, x4, x5, x6, x7], _ =>
  have hk : k < 8 := by have := (List.getElem?_eq_some_iff.1 hv).1; simpa using this
  have h : k = 0 \/ k = 1 \/ k = 2 \/ k = 3 \/ k = 4 \/ k = 5 \/ k = 6 \/ k = 7 := by omega
  rcases h with rfl | rfl | rfl | rfl | rfl | rfl | rfl | rfl
  ·simp at hv; rw [<- hv]; exact index8_0 x0 x1 x2 x3 x4 x5 x6 x7 w
  ·simp at hv; rw [<- hv]; exact index8_1 x0 x1 x2 x3 x4 x5 x6 x7 w
  ·simp at hv; rw [<- hv]; exact index8_2 x0 x1 x2 x3 x4 x5 x6 x7 w
  ·simp at hv; rw [<- hv]; exact index8_3 x0 x1 x2 x3 x4 x5 x6 x7 w
  ·simp at hv; rw [<- hv]; exact index8_4 x0 x1 x2 x3 x4 x5 x6 x7 w
  ·simp at hv; rw [<- hv]; exact index8_5 x0 x1 x2 x3 x4 x5 x6 x7 w
  ·simp at hv; rw [<- hv]; exact index8_6 x0 x1 x2 x3 x4 x5 x6 x7 w
  ·simp at hv; rw [<- hv]; exact index8_7 x0 x1 x2 x3 x4 x5 x6 x7 w
theorem bytes_any (S : List UInt64) (w : World) (hS : S.length = 8) :
  Calls Tryz.prog 144 #[.agg (wcs S)] w fun e w' => ∃ A c, e = .returned (.slice A 64 c) /\ OS cB w' w.heap.size A c (flat S) /\ Below w.heap.size w w' := by
 have HS := zH hS; clear hS;have hmk : ∀ (W : World), (Instr.makeSlice 22 (.int .i64 0) (.int .i64 64)).run Tryz.prog W = .ok (.slice (some ⟨W.heap.size, 0, none⟩) 0 64) (W.alloc (.cells (madeCells #[cB.zero] 64) 5)) := fun (W : World) => run_makeS cB_ok .i64 .i64 0 64 (by omega) (by show 1 * 64 <= _; omega) (by omega) W
 have hu := zH Tryz.underlying150;have sS := zH (sz8w S HS);have n0 := zH ((Blk.new w 150 (wcs S)).alloc (.cells (madeCells #[cB.zero] 64) 5));go_enter Tryz.func144, Tryz.ntmps144;go_wp2_with (refine aZH rfl 150 _ rfl w.heap.size rfl 150 (wcs S) (0, 0) _ n0.out hu.out rfl sS.out ?_);clear hmk n0;have o0 := OS.madeAt (cd := cB) (base := w.heap.size) (g := w.heap.size + 1) (w.alloc (.cells (wcs S) 150)) 0 64 0 rfl (by omega) (by unfold maxLen; omega) (by simp) (by simp);have o4 := bal (bal (b0 w) (.cells (wcs S) 150)) (.cells (madeCells #[cB.zero] 64) 5);have O0 := zH o0; have O4 := zH o4; clear o0 o4;go_loopw [3, 8] (fun o i wr => ∃ (k n : Nat) (A : Option Addr) (c : Nat), k <= 8 /\ i = .int .i64 k /\ n = 8 * k /\ o = .slice A n c /\ OS cB wr w.heap.size A c (flat (S.take k)) /\ Below w.heap.size w wr) (fun _ i _ => 8 - (intOf i).toNat)
 case atStart => exact ⟨0, 0, _, 64, by omega, rfl, rfl, rfl, O0.out, O4.out⟩
 case round =>
  open kA in exact zS68
end Go.Proofs.YtmapfcdffklopaaGreat

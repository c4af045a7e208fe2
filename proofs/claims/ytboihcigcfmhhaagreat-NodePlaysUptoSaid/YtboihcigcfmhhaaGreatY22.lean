/-
  Y22: contracts and lemmas alone; no statement is claimed here.
-/
import Derived.Test.YtboihcigcfmhhaaGreatY0
import Derived.Test.YtboihcigcfmhhaaGreatY2
import Derived.Test.YtboihcigcfmhhaaGreatY19
set_option maxHeartbeats 4000000
set_option maxRecDepth 100000
namespace Go.Proofs.YtboihcigcfmhhaaGreat
open Go.Ending renaming returned → bZR
open Go renaming wpList_store_row → aZE
open Lib renaming hid -> zH
open Go.RowKit
theorem turn_32 (x : UInt64) (w : World) :
  Calls Tryz.prog 122 #[.int .u64 (wrd x), .int .i64 32] w fun e w' => e = .returned (.int .u64 (wrd (rotr x 32))) /\ ∃ n, w' = w.drewN n := by
 have h2 := rot_form' x 32 (by omega);go_enter Tryz.func122, Tryz.ntmps122;go_wp2;go_quiet (fail);go_wp2;go_ret;exact ⟨congrArg (fun n => bZR (Value.int .u64 n)) h2, _, rfl⟩
theorem turn_24 (x : UInt64) (w : World) :
  Calls Tryz.prog 122 #[.int .u64 (wrd x), .int .i64 24] w fun e w' => e = .returned (.int .u64 (wrd (rotr x 24))) /\ ∃ n, w' = w.drewN n := by
 have h2 := rot_form' x 24 (by omega);go_enter Tryz.func122, Tryz.ntmps122;go_wp2;go_quiet (fail);go_wp2;go_ret;exact ⟨congrArg (fun n => bZR (Value.int .u64 n)) h2, _, rfl⟩
theorem turn_16 (x : UInt64) (w : World) :
  Calls Tryz.prog 122 #[.int .u64 (wrd x), .int .i64 16] w fun e w' => e = .returned (.int .u64 (wrd (rotr x 16))) /\ ∃ n, w' = w.drewN n := by
 have h2 := rot_form' x 16 (by omega);go_enter Tryz.func122, Tryz.ntmps122;go_wp2;go_quiet (fail);go_wp2;go_ret;exact ⟨congrArg (fun n => bZR (Value.int .u64 n)) h2, _, rfl⟩
theorem turn_63 (x : UInt64) (w : World) :
  Calls Tryz.prog 122 #[.int .u64 (wrd x), .int .i64 63] w fun e w' => e = .returned (.int .u64 (wrd (rotr x 63))) /\ ∃ n, w' = w.drewN n := by
 have h2 := rot_form' x 63 (by omega);go_enter Tryz.func122, Tryz.ntmps122;go_wp2;go_quiet (fail);go_wp2;go_ret;exact ⟨congrArg (fun n => bZR (Value.int .u64 n)) h2, _, rfl⟩
attribute [local go_sem] pureUpon Ords.of
theorem refRest10_any (r : Nat) (w : World) : Calls Tryz.prog 124 #[.int .i64 r, .int .i64 10] w fun e w' => e = .returned (.int .i64 ((r % 10 : Nat) : Int)) /\ w' = w := by
 obtain ⟨s, hs⟩ : ∃ s, s = r % 10 := ⟨_, rfl⟩;have q1 : (r : Int).tmod 10 = (s : Int) := by rw [hs]; rfl
 have hs10 : s < 10 := by rw [hs]; exact Nat.mod_lt _ (by omega)
 have q2 : ¬ (s : Int) < 0 := by omega
 rw [<- hs];clear hs;go_enter Tryz.func124, Tryz.ntmps124;go_wp2;go_ret;exact ⟨rfl, rfl⟩
theorem refDigit_any (d : Nat) (h : d < 16) (w : World) : Calls Tryz.prog 123 #[.int .u8 (byt (hexd d))] w fun e w' => e = .returned (.int .i64 d) /\ w' = w := by
 have e0 : byt (hexd 0) = 48 := by decide
 have e1 : byt (hexd 1) = 49 := by decide
 have e2 : byt (hexd 2) = 50 := by decide
 have e3 : byt (hexd 3) = 51 := by decide
 have e4 : byt (hexd 4) = 52 := by decide
 have e5 : byt (hexd 5) = 53 := by decide
 have e6 : byt (hexd 6) = 54 := by decide
 have e7 : byt (hexd 7) = 55 := by decide
 have e8 : byt (hexd 8) = 56 := by decide
 have e9 : byt (hexd 9) = 57 := by decide
 have e10 : byt (hexd 10) = 97 := by decide
 have e11 : byt (hexd 11) = 98 := by decide
 have e12 : byt (hexd 12) = 99 := by decide
 have e13 : byt (hexd 13) = 100 := by decide
 have e14 : byt (hexd 14) = 101 := by decide
 have e15 : byt (hexd 15) = 102 := by decide
 have : d = 0 \/ d = 1 \/ d = 2 \/ d = 3 \/ d = 4 \/ d = 5 \/ d = 6 \/ d = 7 \/ d = 8 \/ d = 9 \/ d = 10 \/ d = 11 \/ d = 12 \/ d = 13 \/ d = 14 \/ d = 15 := by omega
 rcases this with rfl | rfl | rfl | rfl | rfl | rfl | rfl | rfl | rfl | rfl | rfl | rfl | rfl | rfl | rfl | rfl <;> (first | rw [e0] | rw [e1] | rw [e2] | rw [e3] | rw [e4] | rw [e5] | rw [e6] | rw [e7] | rw [e8] | rw [e9] | rw [e10] | rw [e11] | rw [e12] | rw [e13] | rw [e14] | rw [e15]) <;> clear e0 e1 e2 e3 e4 e5 e6 e7 e8 e9 e10 e11 e12 e13 e14 e15 <;> (go_enter Tryz.func123, Tryz.ntmps123) <;> go_wp2 <;> go_ret <;> exact ⟨rfl, rfl⟩
def rowsS : ByteArray := ⟨((([48, 49, 50, 51, 52, 53, 54, 55, 56, 57, 97, 98, 99, 100, 101, 102, 101, 97, 52, 56, 57, 102, 100, 54, 49, 99, 48, 50, 98, 55, 53, 51, 98, 56, 99, 48, 53, 50, 102, 100].append [97, 101, 51, 54, 55, 49, 57, 52, 55, 57, 51, 49, 100, 99, 98, 101, 50, 54, 53, 97, 52, 48, 102, 56, 57, 48, 53, 55, 50, 52, 97, 102, 101, 49, 98, 99, 54, 56, 51, 100]).append ([50, 99, 54, 97, 48, 98, 56, 51, 52, 100, 55, 53, 102, 101, 49, 57, 99, 53, 49, 102, 101, 100, 52, 97, 48, 55, 54, 51, 57, 50, 56, 98, 100, 98, 55, 101, 99, 49, 51, 57].append [53, 48, 102, 52, 56, 54, 50, 97, 54, 102, 101, 57, 98, 51, 48, 56, 99, 50, 100, 55, 49, 52, 97, 53, 97, 50, 56, 52, 55, 54, 49, 53, 102, 98, 57, 101, 51, 99, 100, 48])) : List UInt8).toArray⟩
theorem rows_at : ∀ r, r < 10 -> ∀ i, i < 16 -> rowsS.data[16 * r + i]? = some (hexd ((sigma r).getD i 0)) := by decide +kernel
theorem rows_size : rowsS.size = 160 := by decide +kernel
theorem index_rows (r i : Nat) (hr : r < 10) (hi : i < 16) (w : World) : (Instr.index 9 (.string rowsS) (.int .i64 ((16 * r + i : Nat) : Int))).run Tryz.prog w = .ok (.int .u8 (byt (hexd ((sigma r).getD i 0)))) w := by
 have h := rows_at r hr i hi;have hs := rows_size;generalize rowsS = S at *;rw [run_index_string w 9 S .i64 _ Tryz.underlying9, dif_pos (by omega)];have h2 : S[16 * r + i]'(by omega) = hexd ((sigma r).getD i 0) := by
  have := Array.getElem?_eq_some_iff.1 h;exact this.2
 congr 2
 unfold byt;rw [<- h2]
 rfl
theorem wpList_rows {ops : Array Oper} {rest : List Oper} {o : Oper} {a : Act} {w : World} {Q : Exit -> Act -> World -> Prop} (hgd : o.guard = none) (y : Operand) (ho : o.op = .index 9 (.const (.string rowsS)) y) (r i : Nat) (hr : r < 10) (hi : i < 16)
  (hy : a.eval y = .int .i64 ((16 * r + i : Nat) : Int)) (h : wpList Tryz.prog ops Q rest (a.put o.dst (.int .u8 (byt (hexd ((sigma r).getD i 0))))) w) : wpList Tryz.prog ops Q (o :: rest) a w :=
 wpList_plain hgd fun _ hK => by
  have e : a.eval (.const (.string rowsS)) = .string rowsS := rfl;have h2 := index_rows r i hr hi w;generalize rowsS = S at *;unfold Oper.wp execOp;simp only [ho, e, hy, Sem.run_bind, Sem.run_pure, h2, Result.andThen_ok];exact hK _ _ h
theorem refSigma_any (r i : Nat) (hi : i < 16) (w : World) : Calls Tryz.prog 113 #[.int .i64 r, .int .i64 i] w fun e w' => e = .returned (.int .i64 ((sigma r).getD i 0)) /\ w' = w := by
 have hR := refRest10_any r w;have hlt := sigma_lt r i hi;have e : sigma (r % 10) = sigma r := by unfold sigma; rw [Nat.mod_mod]
 have h10 : r % 10 < 10 := Nat.mod_lt _ (by omega);rw [<- e] at hlt ⊢;generalize r % 10 = s at *;have hD := refDigit_any _ hlt w;clear e;obtain ⟨j, hj⟩ : ∃ j, j = 16 * s := ⟨_, rfl⟩;obtain ⟨n, hn⟩ : ∃ n, n = j + i := ⟨_, rfl⟩;have x1 : (16 : Int) * s = (j : Int) := by omega
 have x2 : (j : Int) + i = (n : Int) := by omega
 have x3 : IntKind.i64.wrap (j : Int) = j := by simp [IntKind.wrap, IntKind.bits, IntKind.signed]; omega
 have x4 : IntKind.i64.wrap (n : Int) = n := by simp [IntKind.wrap, IntKind.bits, IntKind.signed]; omega
 have HN : Hid (n = 16 * s + i) := by show _ = _; omega
 clear hj hn;have HR := zH hR; have HD := zH hD; clear hR hD;go_enter Tryz.func113, Tryz.ntmps113;go_wp2_with (first
  | (go_at_call 124; refine HR.mono ?_; rintro e w1 ⟨rfl, rfl⟩)
  | (refine wpList_rows rfl (.tmp 9) rfl s i h10 hi (by rw [<- HN.out]; rfl) ?_)
  | (go_at_call 123; refine HD.mono ?_; rintro e w2 ⟨rfl, rfl⟩))
 exact bodyPost_ret (results_tmp rfl _ _ _) rfl ⟨rfl, rfl⟩
theorem refIV_any (k : Nat) (hk : k < 8) (w : World) : Calls Tryz.prog 108 #[.int .i64 k] w fun e w' => e = .returned (.int .u64 (wrd (iv64.getD k 0))) /\ Below w.heap.size w w' := by
 have q1 : (k : Int).tmod 8 = (k : Int) := by rw [Int.tmod_eq_emod_of_nonneg (by omega)]; omega
 have hn := zH (Blk.new w 124 #[.int .u64 0, .int .u64 0, .int .u64 0, .int .u64 0, .int .u64 0, .int .u64 0, .int .u64 0, .int .u64 0]);have hsz : Hid ((Tryz.prog.info? 124).map (·.size) = some (wcs iv64).size) := by show _ = _; kernel_rfl
 have hall := zH (wcs_all iv64);have hc := (hn.row (wcs iv64)).cell k;rw [wcs_get _ _ hk] at hc;generalize hv : iv64.getD k 0 = v at *;change World.cell? _ _ = some (Value.int .u64 (wrd v)) at hc;have h0 : (0 : Int) <= k /\ (k : Int) < 8 := by omega
 obtain ⟨h0, h8⟩ := h0;clear hv;go_enter Tryz.func108, Tryz.ntmps108;go_wp2_with (refine aZE rfl 124 _ _ rfl w.heap.size (wcs iv64) rfl (by kernel_rfl) 124 _ hn.out hsz.out (by kernel_rfl) hall.out ?_);go_ret;exact ⟨rfl, brow (bal (b0 w) _) (Nat.le_refl _) _⟩
theorem refPlaces_any (k : Nat) (hk : k < 8) (w : World) : Calls Tryz.prog 111 #[.int .i64 k] w fun e w' => e = .returned (plv (pls k)) /\ Below w.heap.size w w' := by
 have h0 : (0 : Int) <= k /\ (k : Int) < 8 := by omega
 obtain ⟨h0, h8⟩ := h0;have hm : (k : Int).tmod 8 = k := by rw [Int.tmod_eq_emod_of_nonneg h0]; omega
 obtain ⟨w1, hw1⟩ : ∃ w1, w1 = w.alloc (.cells #[.int .i64 0, .int .i64 0, .int .i64 0, .int .i64 0] 176) := ⟨_, rfl⟩;have s1 : w1.heap.size = w.heap.size + 1 := by rw [hw1]; simp
 have T0 : Blk (w1.alloc (.cells #[.int .i64 0, .int .i64 0, .int .i64 0, .int .i64 0, .int .i64 0, .int .i64 0, .int .i64 0, .int .i64 0, .int .i64 0, .int .i64 0, .int .i64 0, .int .i64 0, .int .i64 0, .int .i64 0, .int .i64 0, .int .i64 0, .int .i64 0, .int .i64 0, .int .i64 0, .int .i64 0, .int .i64 0, .int .i64 0, .int .i64 0, .int .i64 0, .int .i64 0, .int .i64 0, .int .i64 0, .int .i64 0, .int .i64 0, .int .i64 0, .int .i64 0, .int .i64 0] 188)) (w.heap.size + 1) 188 #[.int .i64 0, .int .i64 0, .int .i64 0, .int .i64 0, .int .i64 0, .int .i64 0, .int .i64 0, .int .i64 0, .int .i64 0, .int .i64 0, .int .i64 0, .int .i64 0, .int .i64 0, .int .i64 0, .int .i64 0, .int .i64 0, .int .i64 0, .int .i64 0, .int .i64 0, .int .i64 0, .int .i64 0, .int .i64 0, .int .i64 0, .int .i64 0, .int .i64 0, .int .i64 0, .int .i64 0, .int .i64 0, .int .i64 0, .int .i64 0, .int .i64 0, .int .i64 0] := by have := Blk.new w1 188 #[.int .i64 0, .int .i64 0, .int .i64 0, .int .i64 0, .int .i64 0, .int .i64 0, .int .i64 0, .int .i64 0, .int .i64 0, .int .i64 0, .int .i64 0, .int .i64 0, .int .i64 0, .int .i64 0, .int .i64 0, .int .i64 0, .int .i64 0, .int .i64 0, .int .i64 0, .int .i64 0, .int .i64 0, .int .i64 0, .int .i64 0, .int .i64 0, .int .i64 0, .int .i64 0, .int .i64 0, .int .i64 0, .int .i64 0, .int .i64 0, .int .i64 0, .int .i64 0]; rwa [s1] at this
 have T := T0.row plCells;have Y := (((Blk.new w 176 #[.int .i64 0, .int .i64 0, .int .i64 0, .int .i64 0])));rw [<- hw1] at Y;replace Y := (Y.alloc (.cells #[.int .i64 0, .int .i64 0, .int .i64 0, .int .i64 0, .int .i64 0, .int .i64 0, .int .i64 0, .int .i64 0, .int .i64 0, .int .i64 0, .int .i64 0, .int .i64 0, .int .i64 0, .int .i64 0, .int .i64 0, .int .i64 0, .int .i64 0, .int .i64 0, .int .i64 0, .int .i64 0, .int .i64 0, .int .i64 0, .int .i64 0, .int .i64 0, .int .i64 0, .int .i64 0, .int .i64 0, .int .i64 0, .int .i64 0, .int .i64 0, .int .i64 0, .int .i64 0] 188)).rowFar (k := w.heap.size + 1) (by omega) plCells;have a0 : ∀ j, j < 8 -> plCells[j * 4]? = some (.int .i64 (pls j).a) /\ plCells[j * 4 + 1]? = some (.int .i64 (pls j).b) /\ plCells[j * 4 + 2]? = some (.int .i64 (pls j).c) /\ plCells[j * 4 + 3]? = some (.int .i64 (pls j).d) := by
  intro j hj;have h : j = 0 \/ j = 1 \/ j = 2 \/ j = 3 \/ j = 4 \/ j = 5 \/ j = 6 \/ j = 7 := by omega
  rcases h with rfl | rfl | rfl | rfl | rfl | rfl | rfl | rfl <;> exact ⟨rfl, rfl, rfl, rfl⟩
 obtain ⟨a0, a1, a2, a3⟩ := a0 k hk;have c0 := (T.cell (k * 4)).trans a0;have c1 := (T.cell (k * 4 + 1)).trans a1;have c2 := (T.cell (k * 4 + 2)).trans a2;have c3 := (T.cell (k * 4 + 3)).trans a3;clear a0 a1 a2 a3 T;obtain ⟨p, hp⟩ : ∃ p, p = pls k := ⟨_, rfl⟩;rw [<- hp];rw [<- hp] at c0 c1 c2 c3;clear hp;rw [hw1] at c0 c1 c2 c3 Y T0;have Y := zH Y; have T0 := zH T0;go_enter Tryz.func111, Tryz.ntmps111;have hsz : (Tryz.prog.info? 188).map (·.size) = some plCells.size := by kernel_rfl
 have hall : plCells.all (·.oneCell') = true := by kernel_rfl
 have hsz4 : (Tryz.prog.info? 176).map (·.size) = some (#[Value.int .i64 p.a, .int .i64 p.b, .int .i64 p.c, .int .i64 p.d]).size := by kernel_rfl
 have hall4 : (#[Value.int .i64 p.a, .int .i64 p.b, .int .i64 p.c, .int .i64 p.d]).all (·.oneCell') = true := by simp [Value.oneCell']
 have hu : Tryz.prog.underlying 176 = some (.array 4 3) := by kernel_rfl
 go_wp2_with (first
  | (refine aZE rfl 188 _ _ rfl (w.heap.size + 1) plCells rfl rfl 188 _ T0 hsz rfl hall ?_)
  | (refine aZE rfl 176 _ _ rfl w.heap.size #[Value.int .i64 p.a, .int .i64 p.b, .int .i64 p.c, .int .i64 p.d] rfl rfl 176 _ Y.out hsz4 rfl hall4 ?_))
 refine bodyPost_ret (results_cell_row rfl _ _ w.heap.size _ _ _ _ rfl (Y.row _) hu rfl hsz4) rfl ⟨rfl, ?_⟩;exact below_row (below_row (((Below.refl _ _).alloc (Nat.le_refl _) _).alloc (by simp) _) (by omega) _) (Nat.le_refl _) _
end Go.Proofs.YtboihcigcfmhhaaGreat

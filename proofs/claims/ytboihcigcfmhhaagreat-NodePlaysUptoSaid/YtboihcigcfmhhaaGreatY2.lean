/-
  Y2: contracts and lemmas alone; no statement is claimed here.
-/
import Derived.Test.YtboihcigcfmhhaaGreatY0
import Derived.Outline
import Derived.Deep.CutRange
import Derived.Great.BuildSlice
set_option maxHeartbeats 4000000
set_option maxRecDepth 40000
namespace Go.Proofs.YtboihcigcfmhhaaGreat
open Go renaming results_cell_row → aZZ
open Go renaming wpList_store_row → aZE
open Lib renaming hid -> zH
open Go.RowKit
attribute [local go_sem] pureUpon Ords.of
def iv64 : List UInt64 := [0x6a09e667f3bcc908, 0xbb67ae8584caa73b, 0x3c6ef372fe94f82b, 0xa54ff53a5f1d36f1, 0x510e527fade682d1, 0x9b05688c2b3e6c1f, 0x1f83d9abfb41bd6b, 0x5be0cd19137e2179]
theorem iv_any (w : World) : Calls Tryz.prog 100 #[] w fun e w' => e = .returned (.agg (wcs iv64)) /\ Below w.heap.size w w' := by
 have hu := zH Tryz.underlying124;have hsz : Hid ((Tryz.prog.info? 124).map (·.size) = some (wcs iv64).size) := by show _ = _; kernel_rfl
 have hn := zH (Blk.new w 124 #[.int .u64 0, .int .u64 0, .int .u64 0, .int .u64 0, .int .u64 0, .int .u64 0, .int .u64 0, .int .u64 0]);have hall := zH (wcs_all iv64);go_enter Tryz.func100, Tryz.ntmps100;go_wp2_with (refine aZE rfl 124 _ _ rfl w.heap.size (wcs iv64) rfl (by kernel_rfl) 124 _ hn.out hsz.out (by kernel_rfl) hall.out ?_);exact bodyPost_ret (aZZ rfl _ _ w.heap.size _ _ (0, 0) _ rfl (hn.row _) hu.out rfl hsz.out) rfl ⟨rfl, brow (bal (b0 w) _) (Nat.le_refl _) _⟩
def plCells : Array Value := ics [0, 4, 8, 12, 1, 5, 9, 13, 2, 6, 10, 14, 3, 7, 11, 15, 0, 5, 10, 15, 1, 6, 11, 12, 2, 7, 8, 13, 3, 4, 9, 14]
theorem index_pl (k : Nat) (hk : k < 8) (w : World) : (Instr.index 188 (.agg plCells) (.int .i64 k)).run Tryz.prog w = .ok (plv (pls k)) w := by
 have h : k = 0 \/ k = 1 \/ k = 2 \/ k = 3 \/ k = 4 \/ k = 5 \/ k = 6 \/ k = 7 := by omega
 rcases h with rfl | rfl | rfl | rfl | rfl | rfl | rfl | rfl <;> (show _ = _; kernel_rfl)
theorem places_any (w : World) : Calls Tryz.prog 128 #[] w fun e w' => e = .returned (.agg plCells) /\ Below w.heap.size w w' := by
 have hu := zH Tryz.underlying188;have hsz : Hid ((Tryz.prog.info? 188).map (·.size) = some plCells.size) := by show _ = _; kernel_rfl
 have hn := zH (Blk.new w 188 (ics (List.replicate 32 0)));have hall := zH (ics_all [0, 4, 8, 12, 1, 5, 9, 13, 2, 6, 10, 14, 3, 7, 11, 15, 0, 5, 10, 15, 1, 6, 11, 12, 2, 7, 8, 13, 3, 4, 9, 14]);go_enter Tryz.func128, Tryz.ntmps128;go_wp2_with (refine aZE rfl 188 _ _ rfl w.heap.size plCells rfl (by kernel_rfl) 188 _ hn.out hsz.out (by kernel_rfl) hall.out ?_);exact bodyPost_ret (aZZ rfl _ _ w.heap.size _ _ (0, 0) _ rfl (hn.row _) hu.out rfl hsz.out) rfl ⟨rfl, brow (bal (b0 w) _) (Nat.le_refl _) _⟩
def zi16 : Array Value := #[.int .i64 0, .int .i64 0, .int .i64 0, .int .i64 0, .int .i64 0, .int .i64 0, .int .i64 0, .int .i64 0, .int .i64 0, .int .i64 0, .int .i64 0, .int .i64 0, .int .i64 0, .int .i64 0, .int .i64 0, .int .i64 0]
def sigCells : Array Value := ics sigmas.flatten
theorem sig_part : ∀ n, n < 10 -> ((sigCells.extract (n * 16) (n * 16 + 16)).toList = (ics (sigmas.getD n [])).toList) := by
 intro n hn;have h : n = 0 \/ n = 1 \/ n = 2 \/ n = 3 \/ n = 4 \/ n = 5 \/ n = 6 \/ n = 7 \/ n = 8 \/ n = 9 := by omega
 rcases h with rfl | rfl | rfl | rfl | rfl | rfl | rfl | rfl | rfl | rfl <;> (show _ = _; kernel_rfl)
def z160 : Array Value := ics (List.replicate 160 0)
theorem sigma_any (r : Nat) (w : World) : Calls Tryz.prog 127 #[.int .i64 r] w fun e w' => e = .returned (.agg (ics (sigma r))) /\ Below w.heap.size w w' := by
 obtain ⟨s, hs⟩ : ∃ s, s = r % 10 := ⟨_, rfl⟩;have hs10 : s < 10 := by rw [hs]; exact Nat.mod_lt _ (by omega)
 have q1 : (r : Int).tmod 10 = (s : Int) := by rw [hs]; rfl
 have q2 : (r : Int) % 10 = (s : Int) := by rw [hs]; rfl
 have q3 : ((s : Int) + 10).tmod 10 = (s : Int) := by
  have : ((s + 10 : Nat) : Int).tmod 10 = (((s + 10) % 10 : Nat) : Int) := rfl;rw [show (s : Int) + 10 = ((s + 10 : Nat) : Int) by omega, this]; omega
 have q4 : ((s : Int) + 10) % 10 = (s : Int) := by omega
 have hsi : (s : Int) < 10 := by omega
 have hSl := sigma_len r;have hp := sig_part s hs10;obtain ⟨S, hS⟩ : ∃ S, S = sigma r := ⟨_, rfl⟩;rw [<- hS] at hSl ⊢;have e : sigmas.getD s [] = S := by rw [hS, hs]; rfl
 rw [e] at hp;clear hS e;have HP := zH hp; have HSL := zH hSl; clear hp hSl hs;have hu := zH Tryz.underlying193;have hsz : Hid ((Tryz.prog.info? 199).map (·.size) = some sigCells.size) := by show _ = _; kernel_rfl
 have hsz16 : Hid ((Tryz.prog.info? 193).map (·.size) = some (ics S).size) := by show _ = _; rw [ics_size, HSL.out]; kernel_rfl
 have hall := zH (ics_all sigmas.flatten);have hall16 := zH (ics_all S);go_enter Tryz.func127, Tryz.ntmps127;go_upto_region 1 with fail
 obtain ⟨b, hb⟩ : ∃ b, b = w.heap.size := ⟨_, rfl⟩;have q5 : Blk (w.alloc (.cells zi16 193)) b 193 zi16 := by rw [hb]; exact Blk.new _ _ _
 have q6 := bal (b0 w) (.cells zi16 193);have q7 : (w.alloc (.cells zi16 193)).heap.size = b + 1 := by rw [hb]; simp
 rw [<- hb];unfold zi16 at q5 q6 q7;have HB := zH hb; clear hb;generalize w.alloc (.cells #[.int .i64 0, .int .i64 0, .int .i64 0, .int .i64 0, .int .i64 0, .int .i64 0, .int .i64 0, .int .i64 0, .int .i64 0, .int .i64 0, .int .i64 0, .int .i64 0, .int .i64 0, .int .i64 0, .int .i64 0, .int .i64 0] 193) = w0 at *;have T0 : Blk (w0.alloc (.cells Tryz.zeroCells199 199)) (b + 1) 199 Tryz.zeroCells199 := by rw [<- q7]; exact Blk.new _ _ _
 have Q5 := zH (q5.alloc (.cells Tryz.zeroCells199 199)); have Q6 := zH (bal q6 (.cells Tryz.zeroCells199 199)); have T0 := zH T0; clear q5 q6;go_upto_region 2 with (first
  | (refine wpList_buildTo rfl 199 _ rfl _ rfl sigCells (by kernel_rfl) ?_)
  | (refine aZE rfl 199 _ _ rfl (b + 1) sigCells rfl (by kernel_rfl) 199 _ T0 hsz.out (by kernel_rfl) hall.out ?_))
 have t1 := T0.row sigCells;have t2 := (Q5.out).rowFar (k := b + 1) (by omega) sigCells;have t3 := brow Q6.out (g := b + 1) (by rw [HB.out]; omega) sigCells;clear T0 Q5 Q6 q7;generalize (w0.alloc (.cells Tryz.zeroCells199 199)).setRow (b + 1) sigCells = w1 at *;have hr := t1.range (s * 16) 16;rw [HP.out] at hr;have HR := zH hr; have T2 := zH t2; have T3 := zH t3; clear hr t1 t2 t3;have hszl : Hid ((Tryz.prog.info? 193).map (·.size) = some (ics S).toList.length) := by show _ = _; rw [Array.length_toList]; exact hsz16.out
 have hold : Hid ((#[.int .i64 0, .int .i64 0, .int .i64 0, .int .i64 0, .int .i64 0, .int .i64 0, .int .i64 0, .int .i64 0, .int .i64 0, .int .i64 0, .int .i64 0, .int .i64 0, .int .i64 0, .int .i64 0, .int .i64 0, .int .i64 0] : Array Value).size = (ics S).size) := by show _ = _; rw [ics_size, HSL.out]; rfl
 go_wp2_with (first
  | (refine wpList_load_mid rfl 193 _ rfl (b + 1) (s * 16) rfl (ics S).toList _ HR.out hu.out rfl hszl.out ?_; rw [Array.toArray_toList])
  | (refine aZE rfl 193 _ _ rfl b (ics S) rfl rfl 193 _ T2 hsz16.out hold.out hall16.out ?_))
 exact bodyPost_ret (aZZ rfl _ _ b _ _ (0, 0) _ rfl (T2.row _) hu.out rfl hsz16.out) rfl ⟨rfl, brow T3.out (by rw [HB.out]; exact Nat.le_refl _) _⟩
end Go.Proofs.YtboihcigcfmhhaaGreat

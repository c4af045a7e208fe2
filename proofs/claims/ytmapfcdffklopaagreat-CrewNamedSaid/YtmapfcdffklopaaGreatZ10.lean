/-
  Z10: contracts and lemmas alone; no statement is claimed here.
-/
import Derived.Test.YtmapfcdffklopaaGreatZx
import Derived.Test.YtmapfcdffklopaaGreatZxb
import Derived.Test.YtmapfcdffklopaaGreatZxc
import Derived.Test.YtmapfcdffklopaaGreatZ8
import Derived.Test.YtmapfcdffklopaaGreatZ5
import Derived.Deep.CutRange
/- The reference's smaller half: words, turning, places. -/
set_option maxHeartbeats 8000000
set_option maxRecDepth 20000
namespace Go.Proofs.YtmapfcdffklopaaGreat
open _root_.List renaming set_append → cZG
open Go.Ending renaming returned → bZR
open _root_.Bool renaming false_eq_true → bZQ
open _root_.Nat renaming le_of_eq → bZF
open Go renaming results_cell_row → aZZ
open _root_.List renaming getElem?_append_right → aZV
open Go.IntKind renaming wrap → aZU
open Go.IntKind renaming bits → aZR
open _root_.List renaming getElem?_eq_getElem → aZP
open Go.IntKind renaming signed → aZM
open Go.World renaming setCell → aZI
open Go renaming wpList_load_row → aZH
open _root_.Option.some renaming inj → aZF
open Go renaming wpList_store_row → aZE
open Go.World renaming drewN → aZD
open Go renaming bodyPost_ret → aZB
open Lib renaming hid -> zH
open Go.RowKit
attribute [local go_sem] pureUpon Ords.of
theorem r4IV_any (w : World) : Calls Tryz.prog 135 #[] w fun e w' => e = .returned (.agg (wc3 iv32)) /\ Below w.heap.size w w' := by exact zS58
theorem word3_four (a b c d : UInt8) : IntKind.u32.wrap (IntKind.u32.wrap (IntKind.u32.wrap (byt a + byt b * 256) + byt c * 65536) + byt d * 16777216) = wr3 (word3 [a, b, c, d]) := by
 have ha := a.toNat_lt; have hb := b.toNat_lt; have hc := c.toNat_lt; have hd := d.toNat_lt;have e : le [a, b, c, d] = a.toNat + 256 * (b.toNat + 256 * (c.toNat + 256 * (d.toNat + 256 * 0))) := rfl;unfold word3;rw [wr3_ofNat, e];unfold byt;simp only [wrap_u32w];omega
theorem r4load_any (A : Option Addr) (c N at_ B : Nat) (l : List UInt8) (w : World) (hN : l.length = N) (hm : N <= 1000000) (hr : RS cB w B A l) (hat : at_ + 4 <= N) :
  Calls Tryz.prog 121 #[.slice A N c, .int .i64 at_] w fun e w' => e = .returned (.int .u32 (wr3 (word3 ((l.drop at_).take 4)))) /\ Below w.heap.size w w' := by
 obtain ⟨i1, hi1⟩ : ∃ i, i = at_ + 1 := ⟨_, rfl⟩;obtain ⟨i2, hi2⟩ : ∃ i, i = at_ + 2 := ⟨_, rfl⟩;obtain ⟨i3, hi3⟩ : ∃ i, i = at_ + 3 := ⟨_, rfl⟩;obtain ⟨ad, x0, hA, _, e0, c0⟩ := hr.at_ (k := at_) (by omega);obtain ⟨ad1, x1, hA1, _, e1, c1⟩ := hr.at_ (k := i1) (by omega);obtain ⟨ad2, x2, hA2, _, e2, c2⟩ := hr.at_ (k := i2) (by omega);obtain ⟨ad3, x3, hA3, _, e3, c3⟩ := hr.at_ (k := i3) (by omega);subst hA
 cases hA1; cases hA2; cases hA3
 have hl : (l.drop at_).take 4 = [x0, x1, x2, x3] := by
  have h0 : at_ < l.length := by omega
  have h1 : at_ + 1 < l.length := by omega
  have h2 : at_ + 1 + 1 < l.length := by omega
  have h3 : at_ + 1 + 1 + 1 < l.length := by omega
  rw [hi1, aZP h1] at e1;rw [hi2, aZP h2] at e2;rw [hi3, aZP h3] at e3;rw [aZP h0] at e0;rw [List.drop_eq_getElem_cons h0, List.take_succ_cons, List.drop_eq_getElem_cons h1, List.take_succ_cons, List.drop_eq_getElem_cons h2, List.take_succ_cons, List.drop_eq_getElem_cons h3, List.take_succ_cons, List.take_zero, aZF e0, aZF e1, aZF e2, aZF e3]
 rw [hl, <- word3_four];change w.cell? (ad.add at_) = some (.int .u8 (byt x0)) at c0;change w.cell? (ad.add i1) = some (.int .u8 (byt x1)) at c1;change w.cell? (ad.add i2) = some (.int .u8 (byt x2)) at c2;change w.cell? (ad.add i3) = some (.int .u8 (byt x3)) at c3;have k0 : (at_ : Int) < N := by omega
 have k1 : (i1 : Int) < N := by omega
 have k2 : (i2 : Int) < N := by omega
 have k3 : (i3 : Int) < N := by omega
 have m1 : (at_ : Int) + 1 = i1 := by omega
 have m2 : (at_ : Int) + 2 = i2 := by omega
 have m3 : (at_ : Int) + 3 = i3 := by omega
 have w1 : IntKind.i64.wrap (i1 : Int) = i1 := by simp [aZU, aZR, aZM]; omega
 have w2 : IntKind.i64.wrap (i2 : Int) = i2 := by simp [aZU, aZR, aZM]; omega
 have w3 : IntKind.i64.wrap (i3 : Int) = i3 := by simp [aZU, aZR, aZM]; omega
 have r0 := byt_range x0; have r1 := byt_range x1; have r2 := byt_range x2; have r3 := byt_range x3;have s0 : IntKind.u32.wrap (byt x0) = byt x0 := by rw [wrap_u32w]; omega
 have s1 : IntKind.u32.wrap (byt x1) = byt x1 := by rw [wrap_u32w]; omega
 have s2 : IntKind.u32.wrap (byt x2) = byt x2 := by rw [wrap_u32w]; omega
 have s3 : IntKind.u32.wrap (byt x3) = byt x3 := by rw [wrap_u32w]; omega
 have s4 : IntKind.u32.wrap (byt x1 * 256) = byt x1 * 256 := by rw [wrap_u32w]; omega
 have s5 : IntKind.u32.wrap (byt x2 * 65536) = byt x2 * 65536 := by rw [wrap_u32w]; omega
 have s6 : IntKind.u32.wrap (byt x3 * 16777216) = byt x3 * 16777216 := by rw [wrap_u32w]; omega
 clear hl e0 e1 e2 e3 hi1 hi2 hi3 hr hN hat r0 r1 r2 r3;go_enter Tryz.func121, Tryz.ntmps121;go_wp2_with fail;refine wrZ (fun _ => True) (fun _ _ h => h) (Ords.of [(0, 0), (0, 1), (0, 2), (1, 3), (0, 4), (0, 5), (0, 6), (0, 7), (0, 8), (1, 9), (0, 10), (0, 11), (0, 12), (0, 13), (0, 14), (0, 15), (0, 16), (1, 17), (0, 18), (0, 19), (0, 20), (0, 21), (0, 22), (0, 23), (0, 24), (1, 25), (0, 26), (0, 27), (0, 28), (0, 29)] .fin) trivial ?_
 iterate 30 ((first | refine ords_pure rfl (fun K hK => ?_) | refine ords_read rfl (fun K hK => ?_)); go_simp; refine hK _ ?_; clear hK K)
 refine ords_end (fun n1 => ?_);go_wp2;exact aZB (results_tmp rfl _ _ _) rfl ⟨rfl, bdr (b0 w) _⟩
theorem r4turn_16 (x : UInt32) (w : World) :
      Calls Tryz.prog 154 #[.int .u32 (wr3 x), .int .i64 16] w fun e w' => e = .returned (.int .u32 (wr3 (rot3 x 16))) /\ w = w' := by
    have h2 := rot3_form' x 16 (by omega);go_enter Tryz.func154, Tryz.ntmps154;go_wp2;go_ret;exact ⟨congrArg (fun n => bZR (Value.int .u32 n)) h2, rfl⟩
theorem r4turn_12 (x : UInt32) (w : World) :
        Calls Tryz.prog 154 #[.int .u32 (wr3 x), .int .i64 12] w fun e w' => e = .returned (.int .u32 (wr3 (rot3 x 12))) /\ w = w' := by
      have h2 := rot3_form' x 12 (by omega);go_enter Tryz.func154, Tryz.ntmps154;go_wp2;go_ret;exact ⟨congrArg (fun n => bZR (Value.int .u32 n)) h2, rfl⟩
theorem r4turn_8 (x : UInt32) (w : World) :
          Calls Tryz.prog 154 #[.int .u32 (wr3 x), .int .i64 8] w fun e w' => e = .returned (.int .u32 (wr3 (rot3 x 8))) /\ w = w' := by
        have h2 := rot3_form' x 8 (by omega);go_enter Tryz.func154, Tryz.ntmps154;go_wp2;go_ret;exact ⟨congrArg (fun n => bZR (Value.int .u32 n)) h2, rfl⟩
theorem r4turn_7 (x : UInt32) (w : World) :
            Calls Tryz.prog 154 #[.int .u32 (wr3 x), .int .i64 7] w fun e w' => e = .returned (.int .u32 (wr3 (rot3 x 7))) /\ w = w' := by
          have h2 := rot3_form' x 7 (by omega);go_enter Tryz.func154, Tryz.ntmps154;go_wp2;go_ret;exact ⟨congrArg (fun n => bZR (Value.int .u32 n)) h2, rfl⟩
theorem r4four_any (k : Nat) (hk : k < 8) (w : World) :
  Calls Tryz.prog 139 #[.int .i64 k] w fun e w' => e = .returned (.tuple #[.int .i64 (pls k).a, .int .i64 (pls k).b, .int .i64 (pls k).c, .int .i64 (pls k).d]) /\ w = w' := by
 have h : k = 0 \/ k = 1 \/ k = 2 \/ k = 3 \/ k = 4 \/ k = 5 \/ k = 6 \/ k = 7 := by omega
 clear hk;rcases h with rfl | rfl | rfl | rfl | rfl | rfl | rfl | rfl <;> (go_enter Tryz.func139, Tryz.ntmps139) <;> go_wp2 <;> exact aZB (results_tmp4 rfl _ _ _) rfl ⟨rfl, rfl⟩
theorem r4places_any (p : Pl) (w : World) (hp : p.Ok) :
  Calls Tryz.prog 153 #[.int .i64 p.a, .int .i64 p.b, .int .i64 p.c, .int .i64 p.d] w fun e w' => e = .returned (.bool true) /\ Below w.heap.size w w' := by
 obtain ⟨L, hL⟩ : ∃ L, L = [p.a, p.b, p.c, p.d] := ⟨_, rfl⟩;have hl : L.length = 4 := by rw [hL]; rfl
 have hlt16 : ∀ k, k < 4 -> L.getD k 0 < 16 := by
  intro k hk;have h : k = 0 \/ k = 1 \/ k = 2 \/ k = 3 := by omega
  rw [hL];rcases h with rfl | rfl | rfl | rfl
  ·exact hp.a
  ·exact hp.b
  ·exact hp.c
  ·exact hp.d
 have hne : ∀ j k, j < k -> k < 4 -> L.getD k 0 ≠ L.getD j 0 := by
  intro j k hj hk;have h : k = 1 /\ j = 0 \/ k = 2 /\ j = 0 \/ k = 2 /\ j = 1 \/ k = 3 /\ j = 0 \/ k = 3 /\ j = 1 \/ k = 3 /\ j = 2 := by omega
  rw [hL];rcases h with ⟨rfl, rfl⟩ | ⟨rfl, rfl⟩ | ⟨rfl, rfl⟩ | ⟨rfl, rfl⟩ | ⟨rfl, rfl⟩ | ⟨rfl, rfl⟩
  ·exact Ne.symm hp.ab
  ·exact Ne.symm hp.ac
  ·exact Ne.symm hp.bc
  ·exact Ne.symm hp.ad
  ·exact Ne.symm hp.bd
  ·exact Ne.symm hp.cd
 have n0 : Blk (w.alloc (.cells #[.int .i64 p.a, .int .i64 p.b, .int .i64 p.c, .int .i64 p.d] 3)) w.heap.size 3 (ics L) := by rw [hL]; exact Blk.new _ _ _
 have n4 := bal (b0 w) (.cells #[.int .i64 p.a, .int .i64 p.b, .int .i64 p.c, .int .i64 p.d] 3);obtain ⟨g, hg⟩ : ∃ g, g = w.heap.size := ⟨_, rfl⟩;obtain ⟨pa, pb, pc, pd⟩ := p;dsimp only at *;have HL := zH hl; have HLT := zH hlt16; have HNE := zH hne;clear hl hlt16 hne hL hp;go_enter Tryz.func153, Tryz.ntmps153;go_wp2_with fail;rw [<- hg] at n0 ⊢;generalize w.alloc (.cells #[.int .i64 pa, .int .i64 pb, .int .i64 pc, .int .i64 pd] 3) = w0 at *;have N0 := zH n0; have N4 := zH n4; have HG : Hid (w.heap.size <= g) := (by show _ <= _; omega);clear n0 n4 hg;go_loopw [10] (fun i wr => ∃ k : Nat, k <= 4 /\ i = .int .i64 k /\ Blk wr g 3 (ics L) /\ Below w.heap.size w wr) (fun i _ => 4 - (intOf i).toNat)
 case atStart => exact ⟨0, by omega, rfl, N0.out, N4.out⟩
 case round =>
  clear N0 N4;obtain ⟨k, hk, rfl, x0, x4⟩ := hrel;have N0 := zH x0; have N4 := zH x4; clear x0 x4;obtain ⟨wo, rfl⟩ : ∃ wo : World, wo = wr := ⟨_, rfl⟩
  by_cases hlt : k < 4
  ·obtain ⟨x, hx⟩ : ∃ x, x = L.getD k 0 := ⟨_, rfl⟩
   have hx16 : x < 16 := by rw [hx]; exact HLT.out k hlt
   have c0 : wo.cell? ⟨g, k, none⟩ = some (.int .i64 x) := by rw [N0.cell, ics_get L k (by rw [HL.out]; exact hlt), hx]; rfl
   have t0 : decide ((x : Int) < 0) = false := by simp
   have t1 : decide (15 < (x : Int)) = false := by simp; omega
   have hk4 : (k : Int) < 4 := by omega
   have hkd : decide ((k : Int) < 4) = true := by simp; omega
   have HX := zH hx; clear hx;go_wp2_with fail;clear c0;go_loopw [11] (fun i wr => ∃ j : Nat, j <= k /\ i = .int .i64 j /\ Blk wr g 3 (ics L) /\ Below w.heap.size w wr) (fun i _ => k - (intOf i).toNat)
   case atStart => exact ⟨0, by omega, rfl, N0.out, N4.out⟩
   case round =>
    clear N0 N4;obtain ⟨j, hj, rfl, x0, x4⟩ := hrel;have N0 := zH x0; have N4 := zH x4; clear x0 x4
    by_cases hjt : j < k
    ·obtain ⟨y, hy⟩ : ∃ y, y = L.getD j 0 := ⟨_, rfl⟩
     have c0 : wr.cell? ⟨g, k, none⟩ = some (.int .i64 x) := by rw [N0.cell, ics_get L k (by rw [HL.out]; exact hlt), HX.out]; rfl
     have c1 : wr.cell? ⟨g, j, none⟩ = some (.int .i64 y) := by rw [N0.cell, ics_get L j (by rw [HL.out]; omega), hy]; rfl
     have hxy : ((x : Int) == (y : Int)) = false := by have := HNE.out j k hjt hlt; rw [<- HX.out, <- hy] at this; simp; omega
     have hj4 : (j : Int) < 4 := by omega
     have hjd : decide ((j : Int) < k) = true := by simp; omega
     have HY := zH hy; clear hy;go_wp2_with fail;refine wrZ (fun _ => True) (fun _ _ h => h) (Ords.of [(0, 0), (0, 1), (0, 2), (1, 3), (0, 4), (0, 5), (0, 6), (1, 7), (0, 8)] .fin) trivial ?_
     iterate 9 ((first | refine ords_pure rfl (fun K hK => ?_) | refine ords_read rfl (fun K hK => ?_)); go_simp; refine hK _ ?_; clear hK K)
     refine ords_end (fun n1 => ?_);go_wp2_with fail;go_roundw
     case rel => exact ⟨j + 1, by omega, by go_num, N0.drewN _, bdr N4.out _⟩
     case measure => simp [intOf]; omega
    ·obtain rfl : j = k := by omega
     go_wp2_with fail;go_roundw
     case rel => exact ⟨j + 1, by omega, by go_num, N0.out, N4.out⟩
     case measure => simp [intOf]; omega
  ·obtain rfl : k = 4 := by omega
   go_wp2_with fail;exact aZB (results_tmp rfl _ _ _) rfl ⟨rfl, N4.out⟩
theorem r4G_any (p : Pl) (V : List UInt32) (x y : UInt32) (w : World) (hp : p.Ok) (hV : V.length = 16) :
  Calls Tryz.prog 140 #[.agg (wc3 V), .int .i64 p.a, .int .i64 p.b, .int .i64 p.c, .int .i64 p.d, .int .u32 (wr3 x), .int .u32 (wr3 y)] w fun e w' => e = .returned (.tuple #[.agg (wc3 (p.lay V (gm32 (p.get 0 V) x y))), .int .i64 0]) /\ Below w.heap.size w w' := by exact zS4
theorem r4Round_any (r : Nat) (V M : List UInt32) (w : World) (hr : r < 10) (hV : V.length = 16) (hM : M.length = 16) :
  Calls Tryz.prog 123 #[.agg (wc3 V), .agg (wc3 M), .int .i64 r] w fun e w' => e = .returned (.tuple #[.agg (wc3 (turn32 M r V)), .int .i64 0]) /\ Below w.heap.size w w' := by open kA in exact zS10
def fill3 (z : List UInt32) (k n : Nat) : List UInt32 := z.take k ++ List.replicate (n - k) 0
theorem fill3_len (z : List UInt32) (k n : Nat) (hk : k <= n) (hz : z.length = n) : (fill3 z k n).length = n := fill_len z k n 0 hk hz
theorem fill3_all (z : List UInt32) (n : Nat) (hz : z.length = n) : fill3 z n n = z := by unfold fill3; rw [Nat.sub_self, List.replicate_zero, List.append_nil, List.take_of_length_le (by omega)]
theorem fill3_set (z : List UInt32) (k n : Nat) (v : UInt32) (hk : k < n) (hn : z.length = n) (hz : z[k]? = some v) : (fill3 z k n).set k v = fill3 z (k + 1) n := by
 have h1 : (z.take k).length = k := by simp; omega
 unfold fill3;rw [List.take_add_one, hz, cZG, if_neg (by rw [h1]; omega), h1, Nat.sub_self, show n - k = (n - (k + 1)) + 1 by omega, List.replicate_succ, List.set_cons_zero, List.append_assoc]
 rfl
theorem fill3_put (z : List UInt32) (k n : Nat) (v : UInt32) (hk : k < n) (hn : z.length = n) (hz : z[k]? = some v) : (wc3 (fill3 z k n)).setIfInBounds k (wv3 v) = wc3 (fill3 z (k + 1) n) := by
 rw [wc3_set, fill3_set z k n v hk hn hz]
def halves3 (H I : List UInt32) (k : Nat) : List UInt32 := fill3 H k 8 ++ fill3 I k 8
theorem halves3_len (H I : List UInt32) (k : Nat) (hk : k <= 8) (hH : H.length = 8) (hI : I.length = 8) : (halves3 H I k).length = 16 := by
 unfold halves3; rw [List.length_append, fill3_len H k 8 hk hH, fill3_len I k 8 hk hI]
theorem halves3_all (H I : List UInt32) (hH : H.length = 8) (hI : I.length = 8) : halves3 H I 8 = H ++ I := by unfold halves3; rw [fill3_all H 8 hH, fill3_all I 8 hI]
theorem halves3_put (H I : List UInt32) (k : Nat) (u v : UInt32) (hk : k < 8) (hH : H.length = 8) (hI : I.length = 8) (hu : H[k]? = some u) (hv : I[k]? = some v) : ((halves3 H I k).set k u).set (k + 8) v = halves3 H I (k + 1) := by
 have l1 := fill3_len H k 8 (by omega) hH;have l2 := fill3_len H (k + 1) 8 (by omega) hH;unfold halves3;rw [cZG, if_pos (by omega), fill3_set H k 8 u hk hH hu, cZG, if_neg (by omega), l2, show k + 8 - 8 = k by omega, fill3_set I k 8 v hk hI hv]
theorem wr3_not' (x : UInt32) : bits .xor .u32 (wr3 x) 4294967295 = wr3 (~~~x) := by
 have h := wr3_xor x 4294967295;have e : wr3 4294967295 = 4294967295 := rfl;rw [e] at h;rw [h]
 congr 1
 exact UInt32.xor_neg_one
theorem r4Begin_any (H : List UInt32) (cnt : UInt64) (last node : Bool) (w : World) (hH : H.length = 8) :
  Calls Tryz.prog 122 #[.agg (wc3 H), .int .u64 (wrd cnt), .bool last, .bool node] w fun e w' => e = .returned (.agg (wc3 (initOf3 H (lo32 cnt) (hi32 cnt) last node))) /\ Below w.heap.size w w' := by
 have HH := zH hH; clear hH;have hwl := wrap_lo cnt;have hwh := wrap_hi cnt;generalize lo32 cnt = lo at *;generalize hi32 cnt = hi at *;have hG : Hid (initOf3 H lo hi last node = (let v := ((H ++ iv32).set 12 (0x510e527f ^^^ lo)).set 13 (0x9b05688c ^^^ hi); let v := if last then v.set 14 (~~~ 0x1f83d9ab) else v; if node then v.set 15 (~~~ 0x5be0cd19) else v)) := rfl;generalize initOf3 H lo hi last node = G at *;have IVl : Hid (iv32.length = 8) := rfl;have hIV : Hid (iv32 = [0x6a09e667, 0xbb67ae85, 0x3c6ef372, 0xa54ff53a, 0x510e527f, 0x9b05688c, 0x1f83d9ab, 0x5be0cd19]) := rfl;have hiv := zH r4IV_any;generalize iv32 = I at *;have sI := zH (sz8s I IVl);have aI := zH (wc3_all I);have hoI : Hid ((wc3 (zw3 8)).size = (wc3 I).size) := by show _ = _; rw [wc3_size, wc3_size, IVl.out]; rfl
 go_enter Tryz.func122, Tryz.ntmps122;go_upto_region 2 with fail
 have n1 : Blk (((w.alloc (.cells (wc3 H) 154)).alloc (.cells z16s 155)).alloc (.cells z16s 155)) w.heap.size 154 (wc3 H) := ((Blk.new _ _ _).alloc _).alloc _;have n2 : Blk (((w.alloc (.cells (wc3 H) 154)).alloc (.cells z16s 155)).alloc (.cells z16s 155)) (w.heap.size + 1) 155 (wc3 (zw3 16)) := by
  have := (Blk.new (w.alloc (.cells (wc3 H) 154)) 155 z16s).alloc (.cells z16s 155); show Blk _ _ _ z16s; simpa using this
 have n3 : Blk (((w.alloc (.cells (wc3 H) 154)).alloc (.cells z16s 155)).alloc (.cells z16s 155)) (w.heap.size + 1 + 1) 155 (wc3 (halves3 H I 0)) := by
  have := Blk.new ((w.alloc (.cells (wc3 H) 154)).alloc (.cells z16s 155)) 155 z16s; show Blk _ _ _ z16s; simpa using this
 have n4 := bal (bal (bal (b0 w) (.cells (wc3 H) 154)) (.cells z16s 155)) (.cells z16s 155);obtain ⟨g, hg⟩ : ∃ g, g = w.heap.size := ⟨_, rfl⟩;unfold z16s at n1 n2 n3 n4;rw [<- hg] at n1 n2 n3 ⊢;generalize ((w.alloc (.cells (wc3 H) 154)).alloc (.cells #[.int .u32 0, .int .u32 0, .int .u32 0, .int .u32 0, .int .u32 0, .int .u32 0, .int .u32 0, .int .u32 0, .int .u32 0, .int .u32 0, .int .u32 0, .int .u32 0, .int .u32 0, .int .u32 0, .int .u32 0, .int .u32 0] 155)).alloc (.cells #[.int .u32 0, .int .u32 0, .int .u32 0, .int .u32 0, .int .u32 0, .int .u32 0, .int .u32 0, .int .u32 0, .int .u32 0, .int .u32 0, .int .u32 0, .int .u32 0, .int .u32 0, .int .u32 0, .int .u32 0, .int .u32 0] 155) = w0 at *;have l0 : Hid (w.heap.size <= g) := by (show _ <= _; omega)
 obtain ⟨g2, hg2⟩ : ∃ g2, g2 = g + 1 := ⟨_, rfl⟩;obtain ⟨g3, hg3⟩ : ∃ g3, g3 = g + 1 + 1 := ⟨_, rfl⟩;rw [<- hg3, <- hg2];rw [<- hg2] at n2;rw [<- hg3] at n3;have l12 : g < g2 := by omega
 have l23 : g2 < g3 := by omega
 have N1 := zH n1; have N2 := zH n2; have N3 := zH n3; have N4 := zH n4;clear n1 n2 n3 n4 hg hg2 hg3;go_wp2_with fail;refine (hiv.out _).mono ?_;rintro e w5 ⟨rfl, hb5⟩;have l5 : g3 < w5.heap.size := (N3.below hb5 N3.lt).lt;have n5 := Blk.new w5 154 z8s;have v1 := (N1.below hb5 N1.lt).alloc (.cells z8s 154);have v2 := (N2.below hb5 N2.lt).alloc (.cells z8s 154);have v3 := (N3.below hb5 N3.lt).alloc (.cells z8s 154);have v4 := bal (bcall N4 hb5) (.cells z8s 154);have l6 := (bcall N4 hb5).size;unfold z8s at n5 v1 v2 v3 v4;have N5 := zH n5; have L6 := zH l6; clear n5 l6 hb5 N1 N2 N3 N4;go_upto_region 3 with (refine aZE rfl 154 _ _ rfl w5.heap.size (wc3 I) rfl rfl 154 _ N5 sI.out hoI.out aI.out ?_)
 have n5 := N5.row (wc3 I);obtain ⟨g5, hg5⟩ : ∃ g5, g5 = w5.heap.size := ⟨_, rfl⟩;replace v1 := v1.rowFar (k := w5.heap.size) (by omega) (wc3 I); replace v2 := v2.rowFar (k := w5.heap.size) (by omega) (wc3 I); replace v3 := v3.rowFar (k := w5.heap.size) (by omega) (wc3 I); replace v4 := brow v4 L6.out (wc3 I);rw [<- hg5] at n5 v1 v2 v3 v4 l5 ⊢;clear N5;generalize (w5.alloc (.cells #[.int .u32 0, .int .u32 0, .int .u32 0, .int .u32 0, .int .u32 0, .int .u32 0, .int .u32 0, .int .u32 0] 154)).setRow g5 (wc3 I) = w6 at *;clear hg5 L6;have N1 := zH v1; have N2 := zH v2; have N3 := zH v3; have N4 := zH v4; have N5 := zH n5; clear v1 v2 v3 v4 n5;go_wp2_with fail;go_loopw [11] (fun i wr => ∃ k : Nat, k <= 8 /\ i = .int .i64 k /\ Blk wr g 154 (wc3 H) /\ Blk wr g2 155 (wc3 (zw3 16)) /\ Blk wr g3 155 (wc3 (halves3 H I k)) /\ Blk wr g5 154 (wc3 I) /\ Below w.heap.size w wr) (fun i _ => 8 - (intOf i).toNat)
 case atStart => exact ⟨0, by omega, rfl, N1.out, N2.out, N3.out, N5.out, N4.out⟩
 case round =>
  clear N1 N2 N3 N4 N5;obtain ⟨k, hk, rfl, x1, x2, x3, x5, x4⟩ := hrel;have N1 := zH x1; have N2 := zH x2; have N3 := zH x3; have N4 := zH x4; have N5 := zH x5; clear x1 x2 x3 x4 x5
  by_cases hlt : k < 8
  ·open kA in exact zS60
  ·exact zS15
theorem r4End_any (H R : List UInt32) (w : World) (hH : H.length = 8) (hR : R.length = 16) :
  Calls Tryz.prog 124 #[.agg (wc3 H), .agg (wc3 R)] w fun e w' => e = .returned (.agg (wc3 (outOf3 H R))) /\ Below w.heap.size w w' := by exact zS22
theorem r4F_any (H M : List UInt32) (cnt : UInt64) (last node : Bool) (w : World) (hH : H.length = 8) (hM : M.length = 16) :
  Calls Tryz.prog 100 #[.agg (wc3 H), .agg (wc3 M), .int .u64 (wrd cnt), .bool last, .bool node] w fun e w' => e = .returned (.agg (wc3 (comp32 H M cnt last node))) /\ Below w.heap.size w w' := by exact zS20
theorem r4Words_any (A : Option Addr) (c : Nat) (x : List UInt8) (w : World) (hx : x.length = 64) (hr : RS cB w w.heap.size A x) :
  Calls Tryz.prog 99 #[.slice A 64 c] w fun e w' => e = .returned (.tuple #[.agg (wc3 (words3 x 16)), .int .i64 0]) /\ Below w.heap.size w w' := by
 have HX := zH hx; have HR := zH hr; clear hx hr;obtain ⟨M, hM⟩ : ∃ M, M = words3 x 16 := ⟨_, rfl⟩;have hMl : M.length = 16 := by rw [hM, words3_len]
 rw [<- hM];have HM := zH hM; have HML := zH hMl; clear hM hMl;have hu := zH Tryz.underlying155;have sM := zH (sz16s M HML);have aM := zH (wc3_all M);have hoM : Hid ((wc3 (fill3 M 0 16)).size = (wc3 M).size) := by show _ = _; rw [wc3_size, wc3_size, fill3_len _ _ _ (by omega) HML.out, HML.out]
 have e0 : wc3 (fill3 M 0 16) = z16s := rfl;go_enter Tryz.func99, Tryz.ntmps99;go_upto_region 2 with fail
 have n0 : Blk ((w.alloc (.cells z16s 155)).alloc (.cells z16s 155)) w.heap.size 155 (wc3 (fill3 M 0 16)) := by rw [e0]; exact (Blk.new _ _ _).alloc _
 have n1 : Blk ((w.alloc (.cells z16s 155)).alloc (.cells z16s 155)) (w.heap.size + 1) 155 (wc3 (fill3 M 0 16)) := by
  rw [e0]; simpa using Blk.new (w.alloc (.cells z16s 155)) 155 z16s
 have n4 := bal (bal (b0 w) (.cells z16s 155)) (.cells z16s 155);clear e0;unfold z16s at n0 n1 n4;obtain ⟨b, hb⟩ : ∃ b, b = w.heap.size := ⟨_, rfl⟩;rw [<- hb] at n0 n1 ⊢;generalize (w.alloc (.cells #[.int .u32 0, .int .u32 0, .int .u32 0, .int .u32 0, .int .u32 0, .int .u32 0, .int .u32 0, .int .u32 0, .int .u32 0, .int .u32 0, .int .u32 0, .int .u32 0, .int .u32 0, .int .u32 0, .int .u32 0, .int .u32 0] 155)).alloc (.cells #[.int .u32 0, .int .u32 0, .int .u32 0, .int .u32 0, .int .u32 0, .int .u32 0, .int .u32 0, .int .u32 0, .int .u32 0, .int .u32 0, .int .u32 0, .int .u32 0, .int .u32 0, .int .u32 0, .int .u32 0, .int .u32 0] 155) = w0 at *;have N0 := zH n0; have N1 := zH n1; have N4 := zH n4; have hwb : Hid (w.heap.size <= b) := by (show _ <= _; omega)
 clear n0 n1 n4 hb;go_wp2_with fail;go_loopw [5] (fun i wr => ∃ k : Nat, k <= 16 /\ i = .int .i64 k /\ Blk wr b 155 (wc3 (fill3 M 0 16)) /\ Blk wr (b + 1) 155 (wc3 (fill3 M k 16)) /\ Below w.heap.size w wr) (fun i _ => 16 - (intOf i).toNat)
 case atStart => exact ⟨0, by omega, rfl, N0.out, N1.out, N4.out⟩
 case round =>
  clear N0 N1 N4;obtain ⟨k, hk, rfl, x0, x1, x4⟩ := hrel;have N0 := zH x0; have N1 := zH x1; have N4 := zH x4; clear x0 x1 x4
  by_cases hlt : k < 16
  ·have hl := r4load_any A c 64 (4 * k) w.heap.size x wr HX.out (by omega) (HR.below N4.out) (by omega)
   have e8 : ((4 * k : Nat) : Int) = 4 * (k : Int) := by omega
   rw [e8] at hl;obtain ⟨v, hv⟩ : ∃ v, v = word3 ((x.drop (4 * k)).take 4) := ⟨_, rfl⟩;have hmk : M[k]? = some v := by rw [HM.out, words3_at x 16 k hlt, hv]
   rw [<- hv] at hl;have HL := zH hl; have HMK := zH hmk; clear hl hv e8 hmk;have hki : (k : Int) < 16 := by omega
   have hkd : decide ((k : Int) < 16) = true := by simp; omega
   go_wp2_with (go_at_call 121; refine HL.mono ?_; rintro e w4 ⟨rfl, hb4⟩; have n1 := N1.below hb4 N1.lt; have gc : w4.cell? ⟨b + 1, k, none⟩ = some (wv3 ((fill3 M k 16).getD k 0)) := (n1.cell k).trans (wc3_get _ _ (by rw [fill3_len _ _ _ hk HML.out]; exact hlt)); have gf : w4.frozen? ⟨b + 1, k, none⟩ = false := n1.frozen k; generalize wv3 ((fill3 M k 16).getD k 0) = old at gc; have N1' := zH n1; have HB4 := zH hb4; clear n1 hb4);go_roundw
   case rel =>
    have h1 := N1'.set_ k (wv3 v);rw [fill3_put _ k 16 v hlt HML.out HMK.out] at h1;exact ⟨k + 1, by omega, by go_num, (N0.below HB4.out N0.lt).far (p := ⟨b + 1, k, none⟩) (by simp) _, h1, bput (bcall N4.out HB4.out) (p := ⟨b + 1, k, none⟩) (by have := hwb.out; simp; omega) _⟩
   case measure => simp [intOf]; omega
  ·obtain rfl : k = 16 := by omega
   clear hlt hk;have x1 := N1.out;rw [fill3_all _ 16 HML.out] at x1;have X1 := zH x1; clear x1 N1;go_upto_region 10 with fail
   go_wp2_with (first
    | (refine aZH rfl 155 _ rfl (b + 1) rfl 155 (wc3 M) (0, 0) _ X1 hu.out rfl sM.out ?_)
    | (refine aZE rfl 155 _ _ rfl b (wc3 M) rfl rfl 155 _ N0 sM.out hoM.out aM.out ?_))
   exact aZB (results_cell_tmp rfl _ _ b _ _ _ rfl (N0.row _) hu.out rfl sM.out) rfl ⟨rfl, brow N4 hwb.out _⟩
theorem r4Start_any (A : Option Addr) (c : Nat) (x : List UInt8) (w : World) (hx : x.length = 32) (hr : RS cB w w.heap.size A x) :
  Calls Tryz.prog 117 #[.slice A 32 c] w fun e w' => e = .returned (.tuple #[.agg (wc3 (start32 x)), .int .i64 0]) /\ Below w.heap.size w w' := by
 have HX := zH hx; have HR := zH hr; clear hx hr;obtain ⟨S, hS⟩ : ∃ S, S = start32 x := ⟨_, rfl⟩;have hSl : S.length = 8 := by rw [hS, start32_len]
 have hSk : ∀ k, k < 8 -> S[k]? = some (iv32.getD k 0 ^^^ word3 ((x.drop (4 * k)).take 4)) := by
  intro k hk;rw [hS];exact xor3W_at iv32 (words3 x 8) k _ _ (getD3 iv32 k hk) (words3_at x 8 k hk)
 rw [<- hS];have hiv := r4IV_any;have hil : iv32.length = 8 := rfl;generalize iv32 = I at *;have HSK := zH hSk; have HSL := zH hSl; have HIV := zH hiv; have HIL := zH hil; clear hS hSl hSk hiv hil;have hu := zH Tryz.underlying154;have sS := zH (sz8s S HSL);have aS := zH (wc3_all S);have sI := zH (sz8s I HIL);have aI := zH (wc3_all I);have hoI : Hid ((wc3 (fill3 S 0 8)).size = (wc3 I).size) := by show _ = _; rw [wc3_size, wc3_size, fill3_len _ _ _ (by omega) HSL.out, HIL.out]
 have e0 : wc3 (fill3 S 0 8) = z8s := rfl;have hoS : Hid ((wc3 (fill3 S 0 8)).size = (wc3 S).size) := by show _ = _; rw [wc3_size, wc3_size, fill3_len _ _ _ (by omega) HSL.out, HSL.out]
 go_enter Tryz.func117, Tryz.ntmps117;go_upto_region 2 with fail
 have n0 : Blk ((w.alloc (.cells z8s 154)).alloc (.cells z8s 154)) w.heap.size 154 (wc3 (fill3 S 0 8)) := by rw [e0]; exact (Blk.new _ _ _).alloc _
 have n1 : Blk ((w.alloc (.cells z8s 154)).alloc (.cells z8s 154)) (w.heap.size + 1) 154 (wc3 (fill3 S 0 8)) := by
  rw [e0]; simpa using Blk.new (w.alloc (.cells z8s 154)) 154 z8s
 have n4 := bal (bal (b0 w) (.cells z8s 154)) (.cells z8s 154);clear e0;unfold z8s at n0 n1 n4;obtain ⟨b, hb⟩ : ∃ b, b = w.heap.size := ⟨_, rfl⟩;rw [<- hb] at n0 n1 ⊢;generalize (w.alloc (.cells #[.int .u32 0, .int .u32 0, .int .u32 0, .int .u32 0, .int .u32 0, .int .u32 0, .int .u32 0, .int .u32 0] 154)).alloc (.cells #[.int .u32 0, .int .u32 0, .int .u32 0, .int .u32 0, .int .u32 0, .int .u32 0, .int .u32 0, .int .u32 0] 154) = w0 at *;have N0 := zH n0; have N1 := zH n1; have N4 := zH n4; have hwb : Hid (w.heap.size <= b) := by (show _ <= _; omega)
 clear n0 n1 n4 hb;go_upto_region 7 with (first
  | (go_at_call 135; refine (HIV _).mono ?_; rintro e w3 ⟨rfl, hb3⟩; have M0 := zH (N0.below hb3 N0.lt); have M1 := zH (N1.below hb3 N1.lt); have M4 := zH (bcall N4 hb3); clear hb3)
  | (refine aZE rfl 154 _ _ rfl (b + 1) (wc3 I) rfl rfl 154 _ M1 sI.out hoI.out aI.out ?_))
 have h0 := M0.rowFar (k := b + 1) (by omega) (wc3 I);have h1 := M1.row (wc3 I);have h4 := brow M4.out (g := b + 1) (by have := hwb.out; omega) (wc3 I);clear N0 N1 N4 M0 M1 M4;generalize w3.setRow (b + 1) (wc3 I) = w5 at *;have N0 := zH h0; have N1 := zH h1; have N4 := zH h4; clear h0 h1 h4;go_wp2_with fail;go_loopw [5] (fun i wr => ∃ k : Nat, k <= 8 /\ i = .int .i64 k /\ Blk wr b 154 (wc3 (fill3 S 0 8)) /\ Blk wr (b + 1) 154 (wc3 (half3 S I k)) /\ Below w.heap.size w wr) (fun i _ => 8 - (intOf i).toNat)
 case atStart => exact ⟨0, by omega, rfl, N0.out, by simpa [half3] using N1.out, N4.out⟩
 case round =>
  clear N0 N1 N4;obtain ⟨k, hk, rfl, x0, x1, x4⟩ := hrel;have N0 := zH x0; have N1 := zH x1; have N4 := zH x4; clear x0 x1 x4
  by_cases hlt : k < 8
  ·have hl := fun n => r4load_any A c 32 (4 * k) w.heap.size x (wr.drewN n) HX.out (by omega) ((HR.below N4.out).drewN n) (by omega)
   have e8 : ((4 * k : Nat) : Int) = 4 * (k : Int) := by omega
   rw [e8] at hl;have hsk := HSK k hlt;obtain ⟨v, hv⟩ : ∃ v, v = word3 ((x.drop (4 * k)).take 4) := ⟨_, rfl⟩;obtain ⟨q, hq⟩ : ∃ q, q = I.getD k 0 := ⟨_, rfl⟩;rw [<- hv] at hl hsk;rw [<- hq] at hsk;have c1 : wr.cell? ⟨b + 1, k, none⟩ = some (.int .u32 (wr3 q)) := by rw [N1.cell, wc3_at' _ k q (by rw [hq]; exact half3_at S I k (by rw [HIL.out]; exact hlt) (by rw [HIL.out, HSL.out]))]
   have HL := zH hl; have HSV := zH hsk; clear hl hv e8 hsk hq;have h2 := wr3_xor;have hki : (k : Int) < 8 := by omega
   have hkd : decide ((k : Int) < 8) = true := by simp; omega
   have w4' : IntKind.i64.wrap (4 * (k : Int)) = 4 * (k : Int) := by simp [aZU, aZR, aZM]; omega
   go_wp2_with fail;refine wrZ (fun _ => True) (fun _ _ h => h) (Ords.of [(0, 0), (0, 1), (0, 2), (0, 4), (0, 5), (0, 6)] (.two 3 7 (Ords.of [(2, 7), (0, 8), (0, 9), (2, 10)] .fin) (Ords.of [(2, 3), (0, 8), (0, 9), (2, 10)] .fin))) trivial ?_
   iterate 6 (refine ords_pure rfl (fun K hK => ?_); go_simp; refine hK _ ?_; clear hK K)
   refine ords_two rfl rfl (fun n1 => ?_) (fun n1 => ?_)
   ·open kA in exact zS37
   ·exact zS37
  ·obtain rfl : k = 8 := by omega
   clear hlt hk;have x1 := N1.out;rw [half3_all S I 8 HSL.out HIL.out] at x1;have X1 := zH x1; clear x1 N1;go_upto_region 11 with fail
   go_wp2_with (first
    | (refine aZH rfl 154 _ rfl (b + 1) rfl 154 (wc3 S) (0, 0) _ X1 hu.out rfl sS.out ?_)
    | (refine aZE rfl 154 _ _ rfl b (wc3 S) rfl rfl 154 _ N0 sS.out hoS.out aS.out ?_))
   exact aZB (results_cell_tmp rfl _ _ b _ _ _ rfl (N0.row _) hu.out rfl sS.out) rfl ⟨rfl, brow N4 hwb.out _⟩
end Go.Proofs.YtmapfcdffklopaaGreat

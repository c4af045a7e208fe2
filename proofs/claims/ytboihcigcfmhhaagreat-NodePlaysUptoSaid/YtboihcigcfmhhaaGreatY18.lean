/-
  Y18: contracts and lemmas alone; no statement is claimed here.
-/
import Derived.Test.YtboihcigcfmhhaaGreatY0
import Derived.Outline
import Derived.Test.YtboihcigcfmhhaaGreatY13
import Derived.Test.YtboihcigcfmhhaaGreatY5
set_option maxHeartbeats 4000000
set_option maxRecDepth 20000
namespace Go.Proofs.YtboihcigcfmhhaaGreat
open _root_.List renaming take_of_length_le → aZQ
open Go.IntKind renaming signed → aZM
open _root_.List renaming length_take → aZJ
open Go renaming results_tmp2 → aZG
open _root_.Option.some renaming inj → aZF
open Go renaming bodyPost_ret → aZB
open Lib renaming hid -> zH
open Go.RowKit
theorem refLoad_any (A : Option Addr) (c N at_ n B : Nat) (l : List UInt8) (w : World) (hN : l.length = N) (hm : N <= 9223372036854775807) (hr : RS cB w B A l) (hat : at_ + n <= N) (hn : n <= 8) :
  Calls Tryz.prog 93 #[.slice A N c, .int .i64 at_, .int .i64 n] w fun e w' => e = .returned (.tuple #[.int .u64 (wrd (word ((l.drop at_).take n))), .int .i64 0]) /\ w = w' := by
 rw [wrd_word _ (by simp; omega)];have HN := zH hN; have HR := zH hr; clear hN hr;have g1 : ¬ (at_ : Int) < 0 := by omega
 have g2 : ¬ (N : Int) < at_ := by omega
 have g3 : ¬ (N : Int) - at_ < n := by omega
 go_enter Tryz.func93, Tryz.ntmps93;go_wp2;go_loop [8, 9] (fun v i => ∃ (j x : Nat), j <= n /\ i = .int .i64 ((j : Int) - 1) /\ v = .int .u64 x /\ x = le ((l.drop (at_ + j)).take (n - j))) (fun _ i => (intOf i + 1).toNat)
 case atStart => exact ⟨n, 0, by omega, rfl, rfl, by simp [le]⟩
 case round =>
  obtain ⟨j, x, hj, rfl, rfl, hx⟩ := hrel;have HX := zH hx; clear hx
  by_cases hlt : 0 < j
  ·obtain ⟨i, rfl⟩ : ∃ i, j = i + 1 := ⟨j - 1, by omega⟩
   obtain ⟨ad, b, rfl, -, eb, gb⟩ := HR.at_ (k := at_ + i) (by rw [HN.out]; omega);change w.cell? (ad.add (at_ + i)) = some (.int .u8 (byt b)) at gb;have EB := zH eb; clear eb;have gk : (at_ : Int) + i < N := by omega
   have ei : ((i + 1 : Nat) : Int) - 1 = (i : Int) := by omega
   have r1 := byt_range b;obtain ⟨r1, r2⟩ := r1;rw [ei];go_wp2
   case roundEnd =>
    have e3 : n - i = (n - (i + 1)) + 1 := by omega
    have e : (l.drop (at_ + i)).take (n - i) = b :: (l.drop (at_ + (i + 1))).take (n - (i + 1)) := by
     have hl : at_ + i < l.length := by have := HN.out; omega
     rw [e3, List.drop_eq_getElem_cons hl, List.take_succ_cons];have : l[at_ + i] = b := by have := EB.out; rw [List.getElem?_eq_getElem hl] at this; exact aZF this
     rw [this]; rfl
    have hx : x < 256 ^ (n - (i + 1)) := by
     have := le_lt ((l.drop (at_ + (i + 1))).take (n - (i + 1)));rw [<- HX.out] at this;have e4 : ((l.drop (at_ + (i + 1))).take (n - (i + 1))).length = n - (i + 1) := by simp; have := HN.out; omega
     rwa [e4] at this
    refine ⟨⟨i, b.toNat + 256 * x, by omega, rfl, by rw [ld_back x (n - (i + 1)) b (by omega) hx], ?_⟩, by simp [intOf]⟩;rw [e, HX.out]; rfl
  ·obtain rfl : j = 0 := by omega
   go_wp2;exact aZB (aZG rfl _ _ _) rfl ⟨by rw [HX.out]; simp only [Nat.add_zero, Nat.sub_zero]; rfl, rfl⟩
theorem refStore_any (x : UInt64) (n : Nat) (hn : n <= 8) (w : World) :
  Calls Tryz.prog 40 #[.int .u64 (wrd x), .int .i64 n] w fun e w' => ∃ A c, e = .returned (.slice A n c) /\ OS cB w' w.heap.size A c (storeN x.toNat n) /\ Below w.heap.size w w' := by
 obtain ⟨y, hy⟩ : ∃ y : Nat, y = x.toNat := ⟨_, rfl⟩;have hw : wrd x = (y : Int) := by rw [hy]; rfl
 have hy2 : y < 18446744073709551616 := by rw [hy]; exact x.toNat_lt
 rw [hw, <- hy];clear hw hy;go_enter Tryz.func40, Tryz.ntmps40;go_wp2;go_loopw [0, 5, 6] (fun v o i wr => ∃ (k z : Nat) (A : Option Addr) (c : Nat), k <= n /\ i = .int .i64 k /\ v = .int .u64 z /\ z = y / 256 ^ k /\ z <= y /\ o = .slice A k c /\ OS cB wr w.heap.size A c (storeN y k) /\ Below w.heap.size w wr) (fun _ _ i _ => n - (intOf i).toNat)
 case atStart => exact ⟨0, y, none, 0, by omega, rfl, rfl, by simp, Nat.le_refl _, rfl, OS.nil _ _ _ rfl, b0 _⟩
 case round =>
  obtain ⟨k, z, A, c, hk, rfl, rfl, hz, hzy, rfl, hos, hbw⟩ := hrel;have HO := zH hos; have HZ := zH hz; clear hos hz
  by_cases hlt : k < n
  ·have hz2 : z < 18446744073709551616 := by omega
   have z1 : (z : Int).tmod 256 = ((z % 256 : Nat) : Int) := rfl;have z2 : (z : Int) % 256 = ((z % 256 : Nat) : Int) := rfl;have z3 : (z : Int).tdiv 256 = ((z / 256 : Nat) : Int) := rfl;have z4 : (z : Int) / 256 = ((z / 256 : Nat) : Int) := rfl;have z5 : z % 256 < 256 := Nat.mod_lt _ (by omega);obtain ⟨q, hq⟩ : ∃ q, q = z % 256 := ⟨_, rfl⟩;obtain ⟨r, hr⟩ : ∃ r, r = z / 256 := ⟨_, rfl⟩;have hrz : r <= z := by rw [hr]; exact Nat.div_le_self _ _
   rw [<- hq] at z1 z2 z5;rw [<- hr] at z3 z4;have HQ := zH hq; have HRR := zH hr; clear hq hr;go_wp2_with (at_builtin; refine wpList_appB1 _ rfl (.tmp 12) (.tmp 16) rfl (HO.alloc _) rfl (storeN_len y k) rfl (cnew _ _ _ rfl) (UInt8.ofNat q) (by rw [byt_ofNat q z5]) (by omega) (by have := hbw.size; simp; omega) ?_; intro A3 c3 w3 hown3 hgrow hat; have hw3 := bapp (bal hbw _) (HO.alloc _) hgrow; have HO3 := zH hown3; clear hown3 hgrow hat);go_roundw
   case rel =>
    refine ⟨k + 1, r, A3, c3, by omega, by go_num, rfl, ?_, by omega, rfl, ?_, hw3⟩
    ·rw [HRR.out, HZ.out, Nat.div_div_eq_div_mul, Nat.pow_succ]
    ·rw [storeN_succ, <- HZ.out, <- HQ.out]; exact HO3.out
   case measure => simp [intOf]; omega
  ·obtain rfl : k = n := by omega
   go_wp2;exact aZB (results_tmp rfl _ _ _) rfl ⟨A, c, rfl, HO.out, hbw⟩
attribute [local go_sem] pureUpon Ords.of
theorem refMost_any (big : Bool) (w : World) : Calls Tryz.prog 53 #[.int .i64 (kOf big)] w fun e w' => e = .returned (.int .i64 (bOf big : Nat)) /\ w = w' := by
 cases big
 ·exact most_small w
 ·exact most_big w
theorem refSize_any (big : Bool) (w : World) : Calls Tryz.prog 59 #[.int .i64 (kOf big)] w fun e w' => e = .returned (.int .i64 (bOf big : Nat)) /\ w = w' := by
 have hm := zH (refMost_any big);generalize kOf big = kk at *;go_enter Tryz.func59, Tryz.ntmps59;go_wp2_with (go_at_call 53; refine (hm.out _).mono ?_; rintro e w1 ⟨rfl, rfl⟩);exact aZB (results_tmp rfl _ _ _) rfl ⟨rfl, rfl⟩
theorem refField_1_1 (w : World) : Calls Tryz.prog 60 #[.int .i64 1, .int .i64 1] w fun e w' => e = .returned (.tuple #[.int .i64 0, .int .i64 1]) /\ w = w' := by
  go_enter Tryz.func60, Tryz.ntmps60;go_wp2;exact aZB (aZG rfl _ _ _) rfl ⟨rfl, rfl⟩
theorem refField_1_2 (w : World) : Calls Tryz.prog 60 #[.int .i64 1, .int .i64 2] w fun e w' => e = .returned (.tuple #[.int .i64 1, .int .i64 1]) /\ w = w' := by
      go_enter Tryz.func60, Tryz.ntmps60;go_wp2;exact aZB (aZG rfl _ _ _) rfl ⟨rfl, rfl⟩
theorem refField_1_3 (w : World) : Calls Tryz.prog 60 #[.int .i64 1, .int .i64 3] w fun e w' => e = .returned (.tuple #[.int .i64 2, .int .i64 1]) /\ w = w' := by
        go_enter Tryz.func60, Tryz.ntmps60;go_wp2;exact aZB (aZG rfl _ _ _) rfl ⟨rfl, rfl⟩
theorem refField_1_4 (w : World) : Calls Tryz.prog 60 #[.int .i64 1, .int .i64 4] w fun e w' => e = .returned (.tuple #[.int .i64 3, .int .i64 1]) /\ w = w' := by
          go_enter Tryz.func60, Tryz.ntmps60;go_wp2;exact aZB (aZG rfl _ _ _) rfl ⟨rfl, rfl⟩
theorem refField_1_5 (w : World) : Calls Tryz.prog 60 #[.int .i64 1, .int .i64 5] w fun e w' => e = .returned (.tuple #[.int .i64 4, .int .i64 4]) /\ w = w' := by
            go_enter Tryz.func60, Tryz.ntmps60;go_wp2;exact aZB (aZG rfl _ _ _) rfl ⟨rfl, rfl⟩
theorem refField_1_6 (w : World) : Calls Tryz.prog 60 #[.int .i64 1, .int .i64 6] w fun e w' => e = .returned (.tuple #[.int .i64 8, .int .i64 8]) /\ w = w' := by
              go_enter Tryz.func60, Tryz.ntmps60;go_wp2;exact aZB (aZG rfl _ _ _) rfl ⟨rfl, rfl⟩
theorem refField_1_7 (w : World) : Calls Tryz.prog 60 #[.int .i64 1, .int .i64 7] w fun e w' => e = .returned (.tuple #[.int .i64 12, .int .i64 4]) /\ w = w' := by
                go_enter Tryz.func60, Tryz.ntmps60;go_wp2;exact aZB (aZG rfl _ _ _) rfl ⟨rfl, rfl⟩
theorem refField_1_8 (w : World) : Calls Tryz.prog 60 #[.int .i64 1, .int .i64 8] w fun e w' => e = .returned (.tuple #[.int .i64 16, .int .i64 1]) /\ w = w' := by
                  go_enter Tryz.func60, Tryz.ntmps60;go_wp2;exact aZB (aZG rfl _ _ _) rfl ⟨rfl, rfl⟩
theorem refField_1_9 (w : World) : Calls Tryz.prog 60 #[.int .i64 1, .int .i64 9] w fun e w' => e = .returned (.tuple #[.int .i64 17, .int .i64 1]) /\ w = w' := by
                    go_enter Tryz.func60, Tryz.ntmps60;go_wp2;exact aZB (aZG rfl _ _ _) rfl ⟨rfl, rfl⟩
theorem refField_2_1 (w : World) : Calls Tryz.prog 60 #[.int .i64 2, .int .i64 1] w fun e w' => e = .returned (.tuple #[.int .i64 0, .int .i64 1]) /\ w = w' := by
                      go_enter Tryz.func60, Tryz.ntmps60;go_wp2;exact aZB (aZG rfl _ _ _) rfl ⟨rfl, rfl⟩
theorem refField_2_2 (w : World) : Calls Tryz.prog 60 #[.int .i64 2, .int .i64 2] w fun e w' => e = .returned (.tuple #[.int .i64 1, .int .i64 1]) /\ w = w' := by
                        go_enter Tryz.func60, Tryz.ntmps60;go_wp2;exact aZB (aZG rfl _ _ _) rfl ⟨rfl, rfl⟩
theorem refField_2_3 (w : World) : Calls Tryz.prog 60 #[.int .i64 2, .int .i64 3] w fun e w' => e = .returned (.tuple #[.int .i64 2, .int .i64 1]) /\ w = w' := by
                          go_enter Tryz.func60, Tryz.ntmps60;go_wp2;exact aZB (aZG rfl _ _ _) rfl ⟨rfl, rfl⟩
theorem refField_2_4 (w : World) : Calls Tryz.prog 60 #[.int .i64 2, .int .i64 4] w fun e w' => e = .returned (.tuple #[.int .i64 3, .int .i64 1]) /\ w = w' := by
                            go_enter Tryz.func60, Tryz.ntmps60;go_wp2;exact aZB (aZG rfl _ _ _) rfl ⟨rfl, rfl⟩
theorem refField_2_5 (w : World) : Calls Tryz.prog 60 #[.int .i64 2, .int .i64 5] w fun e w' => e = .returned (.tuple #[.int .i64 4, .int .i64 4]) /\ w = w' := by
                              go_enter Tryz.func60, Tryz.ntmps60;go_wp2;exact aZB (aZG rfl _ _ _) rfl ⟨rfl, rfl⟩
theorem refField_2_6 (w : World) : Calls Tryz.prog 60 #[.int .i64 2, .int .i64 6] w fun e w' => e = .returned (.tuple #[.int .i64 8, .int .i64 6]) /\ w = w' := by
                                go_enter Tryz.func60, Tryz.ntmps60;go_wp2;exact aZB (aZG rfl _ _ _) rfl ⟨rfl, rfl⟩
theorem refField_2_7 (w : World) : Calls Tryz.prog 60 #[.int .i64 2, .int .i64 7] w fun e w' => e = .returned (.tuple #[.int .i64 12, .int .i64 2]) /\ w = w' := by
                                  go_enter Tryz.func60, Tryz.ntmps60;go_wp2;exact aZB (aZG rfl _ _ _) rfl ⟨rfl, rfl⟩
theorem refField_2_8 (w : World) : Calls Tryz.prog 60 #[.int .i64 2, .int .i64 8] w fun e w' => e = .returned (.tuple #[.int .i64 14, .int .i64 1]) /\ w = w' := by
                                    go_enter Tryz.func60, Tryz.ntmps60;go_wp2;exact aZB (aZG rfl _ _ _) rfl ⟨rfl, rfl⟩
theorem refField_2_9 (w : World) : Calls Tryz.prog 60 #[.int .i64 2, .int .i64 9] w fun e w' => e = .returned (.tuple #[.int .i64 15, .int .i64 1]) /\ w = w' := by
                                      go_enter Tryz.func60, Tryz.ntmps60;go_wp2;exact aZB (aZG rfl _ _ _) rfl ⟨rfl, rfl⟩
theorem refFieldAt_any (big : Bool) (f k : Nat) (hf : f = k + 1) (hk : k < 9) : ∃ at_ size : Nat, (rowTab big).getD k (0, 0, 0) = (f, at_, size) /\ at_ + size <= bOf big /\ size <= 8 /\
  ∀ w, Calls Tryz.prog 60 #[.int .i64 (kOf big), .int .i64 f] w fun e w' => e = .returned (.tuple #[.int .i64 at_, .int .i64 size]) /\ w = w' := by
 subst hf;have h : k = 0 \/ k = 1 \/ k = 2 \/ k = 3 \/ k = 4 \/ k = 5 \/ k = 6 \/ k = 7 \/ k = 8 := by omega
 clear hk
 cases big
 ·rcases h with rfl | rfl | rfl | rfl | rfl | rfl | rfl | rfl | rfl
  ·exact ⟨0, 1, rfl, by decide, by decide, refField_2_1⟩
  ·exact ⟨1, 1, rfl, by decide, by decide, refField_2_2⟩
  ·exact ⟨2, 1, rfl, by decide, by decide, refField_2_3⟩
  ·exact ⟨3, 1, rfl, by decide, by decide, refField_2_4⟩
  ·exact ⟨4, 4, rfl, by decide, by decide, refField_2_5⟩
  ·exact ⟨8, 6, rfl, by decide, by decide, refField_2_6⟩
  ·exact ⟨12, 2, rfl, by decide, by decide, refField_2_7⟩
  ·exact ⟨14, 1, rfl, by decide, by decide, refField_2_8⟩
  ·exact ⟨15, 1, rfl, by decide, by decide, refField_2_9⟩
 ·rcases h with rfl | rfl | rfl | rfl | rfl | rfl | rfl | rfl | rfl
  ·exact ⟨0, 1, rfl, by decide, by decide, refField_1_1⟩
  ·exact ⟨1, 1, rfl, by decide, by decide, refField_1_2⟩
  ·exact ⟨2, 1, rfl, by decide, by decide, refField_1_3⟩
  ·exact ⟨3, 1, rfl, by decide, by decide, refField_1_4⟩
  ·exact ⟨4, 4, rfl, by decide, by decide, refField_1_5⟩
  ·exact ⟨8, 8, rfl, by decide, by decide, refField_1_6⟩
  ·exact ⟨12, 4, rfl, by decide, by decide, refField_1_7⟩
  ·exact ⟨16, 1, rfl, by decide, by decide, refField_1_8⟩
  ·exact ⟨17, 1, rfl, by decide, by decide, refField_1_9⟩
theorem refLay_any (g base c n at_ size : Nat) (l : List UInt8) (x : UInt64) (w : World) (ho : OS cB w base (some ⟨g, 0, none⟩) c l) (hl : l.length = n) (hn : n <= 1024) (hat : at_ + size <= n) (hs8 : size <= 8) :
  Calls Tryz.prog 61 #[.slice (some ⟨g, 0, none⟩) n c, .int .i64 at_, .int .i64 size, .int .u64 (wrd x)] w fun e w' => e = .returned (.tuple #[]) /\ OS cB w' base (some ⟨g, 0, none⟩) c (putL l at_ x.toNat size) /\ w.grownBy w' (some g) := by
 obtain ⟨y, hy⟩ : ∃ y : Nat, y = x.toNat := ⟨_, rfl⟩;have hw : wrd x = (y : Int) := by rw [hy]; rfl
 have hy2 : y < 18446744073709551616 := by rw [hy]; exact x.toNat_lt
 rw [hw, <- hy];clear hw hy;have HO0 := zH ho; have HL := zH hl; clear ho hl;go_enter Tryz.func61, Tryz.ntmps61;go_wp2_with fail;go_loopw [8] (fun i wr => ∃ k : Nat, k <= size /\ i = .int .i64 k /\ OS cB wr base (some ⟨g, 0, none⟩) c (putL l at_ y k) /\ w.grownBy wr (some g)) (fun i _ => size - (intOf i).toNat)
 case atStart => exact ⟨0, Nat.zero_le _, rfl, HO0.out, World.grownBy.refl w _⟩
 case round =>
  obtain ⟨k, hk, rfl, hos, hgr⟩ := hrel;have HO := zH hos; have HG := zH hgr; clear hos hgr
  by_cases hlt : k < size
  ·obtain ⟨g', z, e1, -, -, -, gc, gf⟩ := HO.at_ (k := at_ + k) (by rw [putL_len, HL.out]; omega)
   injection e1 with e1; injection e1 with e1; subst e1
   have hkd : decide ((k : Int) < size) = true := by simp; omega
   obtain ⟨j, hj⟩ : ∃ j, j = at_ + k := ⟨_, rfl⟩;have hji : (at_ : Int) + (k : Int) = (j : Int) := by omega
   have hjw : IntKind.i64.wrap (j : Int) = j := by simp [IntKind.wrap, IntKind.bits, aZM]; omega
   have hjn : j < n := by omega
   have hkw : IntKind.u64.wrap (k : Int) = k := by rw [wrap_u64]; omega
   have hkw8 : IntKind.u64.wrap (8 * (k : Int)) = 8 * (k : Int) := by rw [wrap_u64]; omega
   rw [<- hj] at gc gf;have HJ := zH hj; clear hj;go_wp2
   case roundEnd =>
    have h1 := HO.set j (UInt8.ofNat (y / 256 ^ k % 256));rw [storeN_byte];have h2 : putL l at_ y (k + 1) = (putL l at_ y k).set j (UInt8.ofNat (y / 256 ^ k % 256)) := by rw [HJ.out]; rfl
    exact ⟨⟨k + 1, by omega, by go_num, by rw [h2]; exact h1, grown_setCells [_] j HG.out⟩, by simp [intOf]; omega⟩
  ·obtain rfl : k = size := by omega
   go_wp2;go_end0;exact ⟨rfl, HO.out, HG.out⟩
theorem over_put (L m : List UInt8) (at_ k : Nat) (x : UInt8) (hx : m[k]? = some x) (hk : at_ + k < L.length) : (over L at_ (m.take k)).set (at_ + k) x = over L at_ (m.take (k + 1)) := by
 have hl : k < m.length := (List.getElem?_eq_some_iff.1 hx).1;have h1 : (m.take k).length = k := by rw [aZJ]; omega
 have h2 : (m.take (k + 1)).length = k + 1 := by rw [aZJ]; omega
 have h3 : (L.take at_).length = at_ := by rw [aZJ]; omega
 unfold over;rw [h1, h2, List.take_add_one, hx, List.set_append, if_neg (by rw [h3]; omega), h3, Nat.add_sub_cancel_left, List.set_append, if_neg (by rw [h1]; omega), h1, Nat.sub_self, List.drop_eq_getElem_cons (by omega), List.set_cons_zero];simp [Nat.add_assoc]
theorem over_none (L m : List UInt8) (at_ : Nat) : over L at_ (m.take 0) = L := over_nil L at_
theorem encTo_skip {big : Bool} {p : Pr} {k at_ size : Nat} (hr : (rowTab big).getD k (0, 0, 0) = (7, at_, size)) (hx : p.xof = 0) : encTo big p (k + 1) = encTo big p k := by
 show (if _ then _ else _) = _
 rw [hr, if_pos ⟨rfl, hx⟩]
theorem encTo_put {big : Bool} {p : Pr} {k f at_ size : Nat} (hr : (rowTab big).getD k (0, 0, 0) = (f, at_, size)) (hx : ¬ (f = 7 /\ p.xof = 0)) : encTo big p (k + 1) = putL (encTo big p k) at_ (fieldV p f).toNat size := by
 show (if _ then _ else _) = _
 rw [hr, if_neg hx]
def fieldCells (p : Pr) : Array Value := #[.int .u64 p.digest, .int .u64 p.key, .int .u64 p.fanout, .int .u64 p.depth, .int .u64 p.leaf, .int .u64 p.offset, .int .u64 p.xof, .int .u64 p.nd, .int .u64 p.inner]
theorem fieldCells_at (p : Pr) (k : Nat) (hk : k < 9) : (fieldCells p)[k]? = some (.int .u64 (fieldI p (k + 1))) := by
 have h : k = 0 \/ k = 1 \/ k = 2 \/ k = 3 \/ k = 4 \/ k = 5 \/ k = 6 \/ k = 7 \/ k = 8 := by omega
 rcases h with rfl | rfl | rfl | rfl | rfl | rfl | rfl | rfl | rfl <;> rfl
theorem refEncode_any (big : Bool) (p : Pr) (ls lp : List UInt8) (w : World) (hc : chk (kOf big) p = 0) (hf : p.Fit) (hls : ls.length = p.salt.n) (hlp : lp.length = p.pers.n) (hrs : RS cB w w.heap.size p.salt.A ls) (hrp : RS cB w w.heap.size p.pers.A lp) :
  Calls Tryz.prog 38 #[.int .i64 (kOf big), p.v] w fun e w' => ∃ A c, e = .returned (.tuple #[.slice A (bOf big) c, .int .i64 0]) /\ OS cB w' w.heap.size A c (encL big p ls lp) /\ Below w.heap.size w w' := by
 have hck := fun W => refCheck_any (kOf big) p W
 simp only [hc] at hck;have hsz := fun W => refSize_any big W
 have hmo := fun W => refMost_any big W
 have hpl := fun f k hf hk => refFieldAt_any big f k hf hk
 obtain ⟨hr1, hr2, hr3, hr4, hr5, hr6, hr7, hr8⟩ := chk_range hc;have hfv := fun f => wrd_field hc hf f
 have hfl := hf.leaf; have hfo := hf.offset; have hfx := hf.xof;obtain ⟨q, hq, hq16⟩ : ∃ q, bOf big = 4 * q /\ q <= 16 := by cases big; exact ⟨8, rfl, by decide⟩; exact ⟨16, rfl, by decide⟩
 have hel : encL big p ls lp = over (over (encTo big p 9) (2 * q) ls) (3 * q) lp := by
  unfold encL;rw [hq, show 4 * q / 2 = 2 * q by omega, show 4 * q / 4 = q by omega]
 have hl9 := encTo_len big p;obtain ⟨n, hn⟩ : ∃ n, n = bOf big := ⟨_, rfl⟩;have he0 : encTo big p 0 = List.replicate n 0 := by rw [hn]; rfl
 have HE0 := zH he0; clear he0;rw [<- hn] at hsz hmo hq hl9 hr1 hr2 hr6 hr7 hr8 ⊢;simp only [<- hn] at hpl;have hmk : ∀ W : World, (Instr.makeSlice 24 (.int .i64 n) (.int .i64 n)).run Tryz.prog W = .ok (.slice (some ⟨W.heap.size, 0, none⟩) n n) (W.alloc (.cells (zB n) 5)) := fun W => make_zB n (by omega) W
 have w1' : IntKind.u64.wrap p.digest = p.digest := by rw [wrap_u64]; omega
 have w2' : IntKind.u64.wrap p.key = p.key := by rw [wrap_u64]; omega
 have w3' : IntKind.u64.wrap p.fanout = p.fanout := by rw [wrap_u64]; omega
 have w4' : IntKind.u64.wrap p.depth = p.depth := by rw [wrap_u64]; omega
 have w5' : IntKind.u64.wrap p.leaf = p.leaf := by rw [wrap_u64]; omega
 have w7' : IntKind.u64.wrap p.xof = p.xof := by rw [wrap_u64]; omega
 have w8' : IntKind.u64.wrap p.nd = p.nd := by rw [wrap_u64]; omega
 have w9' : IntKind.u64.wrap p.inner = p.inner := by rw [wrap_u64]; omega
 have hfc := fieldCells_at p;have hfc0 : fieldCells p = #[.int .u64 p.digest, .int .u64 p.key, .int .u64 p.fanout, .int .u64 p.depth, .int .u64 p.leaf, .int .u64 p.offset, .int .u64 p.xof, .int .u64 p.nd, .int .u64 p.inner] := rfl;generalize fieldCells p = FC at *;have HLS := zH hls; have HLP := zH hlp; have HRS := zH hrs; have HRP := zH hrp; have HFV := zH hfv; have HEL := zH hel; have HL9 := zH hl9; have HQ := zH hq; have HFC := zH hfc; have HFC0 := zH hfc0; have HR7 := zH hr7; have HR8 := zH hr8;clear hls hlp hrs hrp hf hc hfv hel hl9 hq hfc hfc0 hr1 hr2 hr3 hr4 hr5 hr6 hr7 hr8 hfl hfo hfx hn;unfold Pr.v Pr.cs Sl.v at *;have HCK := zH hck; have HSZ := zH hsz; have HMO := zH hmo; have HPL := zH hpl; clear hck hsz hmo hpl;generalize kOf big = kk at *;go_enter Tryz.func38, Tryz.ntmps38;go_wp2_with (first
  | (go_at_call 31; refine (HCK.out _).mono ?_; rintro e w1 ⟨rfl, hbw1⟩; (first | refine withN hbw1 ?_ | refine withD hbw1 ?_ | refine with0 hbw1 ?_); intro hcw1 hfw1; have z0w1 : w.heap.size < w1.heap.size := (by have := hbw1.size; (try simp at this); omega))
  | (go_at_call 59; refine (HSZ _).mono ?_; rintro e w9 ⟨rfl, rfl⟩))
 have hz1 : w.heap.size < w1.heap.size := z0w1;have hb1 := Blk.new w 26 #[.int .i64 p.digest, .int .i64 p.key, .int .i64 p.fanout, .int .i64 p.depth, .int .u32 p.leaf, .int .u64 p.offset, .int .u32 p.xof, .int .i64 p.nd, .int .i64 p.inner, .slice p.salt.A p.salt.n p.salt.c, .slice p.pers.A p.pers.n p.pers.c];have hb2 := ((hb1.below hbw1 (by simp)).alloc (.cells (zB n) 5)).alloc (.cells FC 23);have hW1 := bcall (bal (b0 w) _) hbw1;have hW2 := bal (bal hW1 (.cells (zB n) 5)) (.cells FC 23);have hn64 : n <= 64 := by have := HQ.out; omega
 have ho2 := (OS.madeAt (cd := cB) (base := w.heap.size) w1 n n 0 rfl (by omega) (by unfold maxLen; omega) (Nat.le_of_lt hz1) rfl).alloc (.cells FC 23);change OS cB ((w1.alloc (.cells (zB n) 5)).alloc (.cells FC 23)) _ _ _ _ at ho2;have hv2 := Blk.new (w1.alloc (.cells (zB n) 5)) 23 FC;have e2 : (w1.alloc (.cells (zB n) 5)).heap.size = w1.heap.size + 1 := by simp
 rw [e2] at hv2;rw [<- HFC0.out];obtain ⟨b, hb⟩ : ∃ b, b = w.heap.size := ⟨_, rfl⟩;obtain ⟨gb, hgb⟩ : ∃ g, g = w1.heap.size := ⟨_, rfl⟩;obtain ⟨gv, hgv⟩ : ∃ g, g = w1.heap.size + 1 := ⟨_, rfl⟩;rw [<- hgv, <- hgb, <- hb];rw [<- hb] at hb2 ho2 hW2; rw [<- hgb] at ho2; rw [<- hgv] at hv2;have l1 : b < gb := by omega
 have l2 : gb < gv := by omega
 generalize (w1.alloc (.cells (zB n) 5)).alloc (.cells FC 23) = w2 at *;have HB := zH hb2; have HV := zH hv2; have HO := zH ho2; have HW := zH hW2; have HBE := zH hb;clear hb1 hb2 hv2 ho2 hW1 hW2 hbw1 hcw1 hfw1 e2 hmk z0w1 hz1 hgb hgv hb HCK HSZ w1' w2' w3' w4' w5' w7' w8' w9';have HBS : Hid (b <= w2.heap.size) := by (show _ <= _; rw [HBE.out]; exact HW.size)
 have HN1 : Hid (some b ≠ some gb) := by (show _ ≠ _; intro h; have := aZF h; omega)
 have HN2 : Hid (some gv ≠ some gb) := by (show _ ≠ _; intro h; have := aZF h; omega)
 go_loopw [9] (fun i wr => ∃ k f : Nat, k <= 9 /\ f = k + 1 /\ i = .int .i64 f /\ OS cB wr b (some ⟨gb, 0, none⟩) n (encTo big p k) /\ w2.grownBy wr (some gb)) (fun i _ => 10 - (intOf i).toNat)
 case atStart => exact ⟨0, 1, Nat.zero_le _, rfl, rfl, by rw [HE0.out]; exact HO.out, World.grownBy.refl _ _⟩
 case round =>
  obtain ⟨k, f, hk, hfk, rfl, hos, hgr⟩ := hrel;have HOS := zH hos; have HGR := zH hgr; clear hos hgr
  by_cases hlt : k < 9
  ·obtain ⟨at_, size, hrow, hfit, hs8, hpc⟩ := HPL f k hfk hlt
   have hlay := refLay_any gb b n n at_ size (encTo big p k) (fieldV p f) wr HOS.out (HL9.out k) (by omega) hfit hs8;have c6 : wr.cell? ⟨b, 6, none⟩ = some (.int .u32 p.xof) := (HB.grown HGR HN1).cell 6;have cv : wr.cell? ⟨gv, k, none⟩ = some (.int .u64 (wrd (fieldV p f))) := by rw [HFV.out f, hfk, <- HFC.out k hlt]; exact (HV.grown HGR.out HN2.out).cell k
   have hfd : decide ((f : Int) <= 9) = true := by simp; omega
   have hf1 : (f : Int) - 1 = (k : Int) := by omega
   have hk9 : (k : Int) < 9 := by omega
   have HLAY := zH hlay; have HPC := zH hpc; have HROW := zH hrow; have HFK := zH hfk; clear hlay hpc hrow
   by_cases h7 : f = 7
   ·have h70 : ((f : Int) == 7) = true := by simp; omega
    by_cases hx : p.xof = 0
    ·have hx0 : (p.xof == 0) = true := by simpa using hx
     have he : encTo big p (k + 1) = encTo big p k := encTo_skip (by rw [HROW.out, h7]) hx;have HE := zH he; clear hx he h7 hfk;go_wp2_with fail
     case roundEnd => exact ⟨⟨k + 1, f + 1, by omega, by have := HFK.out; omega, by go_num, by rw [HE.out]; exact HOS.out, HGR.out⟩, by have := HFK.out; simp [intOf]; omega⟩
    ·have hx0 : (p.xof == 0) = false := by simpa using hx
     have he := encTo_put HROW (show ¬ (f = 7 /\ p.xof = 0) from fun h => hx h.2);have HE := zH he; clear hx he h7 hfk;go_wp2_with (first
      | (go_at_call 60; refine (HPC _).mono ?_; rintro e3 w3 ⟨rfl, rfl⟩)
      | (go_at_call 61; refine HLAY.mono ?_; rintro e4 w4 ⟨rfl, ho4, hg4⟩; have HO4 := zH ho4; have HG4 := zH hg4; clear ho4 hg4))
     case roundEnd => exact ⟨⟨k + 1, f + 1, by omega, by have := HFK.out; omega, by go_num, by rw [HE.out]; exact HO4.out, grown_grown HGR.out HG4.out⟩, by have := HFK.out; simp [intOf]; omega⟩
   ·have h70 : ((f : Int) == 7) = false := by simp; omega
    have he := encTo_put HROW (show ¬ (f = 7 /\ p.xof = 0) from fun h => h7 h.1);have HE := zH he; clear he h7 hfk;go_wp2_with (first
     | (go_at_call 60; refine (HPC _).mono ?_; rintro e3 w3 ⟨rfl, rfl⟩)
     | (go_at_call 61; refine HLAY.mono ?_; rintro e4 w4 ⟨rfl, ho4, hg4⟩; have HO4 := zH ho4; have HG4 := zH hg4; clear ho4 hg4))
    case roundEnd => exact ⟨⟨k + 1, f + 1, by omega, by have := HFK.out; omega, by go_num, by rw [HE.out]; exact HO4.out, grown_grown HGR.out HG4.out⟩, by have := HFK.out; simp [intOf]; omega⟩
  ·obtain rfl : k = 9 := by omega
   subst hfk;rw [show (((9 + 1 : Nat)) : Int) = 10 from rfl];clear HV HN2 HPL hlt hk;have hq4 : (n : Int).tdiv 4 = q := by rw [Int.tdiv_eq_ediv_of_nonneg (by omega)]; have := HQ.out; omega
   have hq4' : (n : Int) / 4 = q := by have := HQ.out; omega
   obtain ⟨L9, hL9⟩ : ∃ L, L = encTo big p 9 := ⟨_, rfl⟩;have hl9 := HL9 9;have hos9 := HOS.out;have hel := HEL.out;rw [<- hL9] at hl9 hos9 hel;obtain ⟨q2, hq2⟩ : ∃ q2, q2 = 2 * q := ⟨_, rfl⟩;obtain ⟨q3, hq3⟩ : ∃ q3, q3 = 3 * q := ⟨_, rfl⟩;rw [<- hq2, <- hq3] at hel;have m2 : 2 * (q : Int) = (q2 : Int) := by omega
   have m3 : 3 * (q : Int) = (q3 : Int) := by omega
   have mw : IntKind.i64.wrap (q : Int) = q := by simp [IntKind.wrap, IntKind.bits, aZM]; omega
   have mw2 : IntKind.i64.wrap (q2 : Int) = q2 := by simp [IntKind.wrap, IntKind.bits, aZM]; omega
   have mw3 : IntKind.i64.wrap (q3 : Int) = q3 := by simp [IntKind.wrap, IntKind.bits, aZM]; omega
   have hs4 : q2 + p.salt.n <= n := by have := HQ.out; have := HR7.out; omega
   have hp4 : q3 + p.pers.n <= n := by have := HQ.out; have := HR8.out; omega
   have hrs := HRS.out; have hrp := HRP.out;rw [<- HBE.out] at hrs hrp;have hrs2 := hrs.below HW.out; have hrp2 := hrp.below HW.out;have HL9' := zH hl9; have HEL' := zH hel; have HOS9 := zH hos9; have HRS2 := zH hrs2; have HRP2 := zH hrp2;clear hL9 hl9 hos9 hel hrs hrp hrs2 hrp2 HRS HRP HOS HEL HL9 hq2 hq3;go_wp2_with (go_at_call 53; refine (HMO _).mono ?_; rintro e9 w9 ⟨rfl, rfl⟩);go_loopw [13] (fun i wr => ∃ k : Nat, k <= p.salt.n /\ i = .int .i64 k /\ OS cB wr b (some ⟨gb, 0, none⟩) n (over L9 q2 (ls.take k)) /\ w2.grownBy wr (some gb)) (fun i _ => p.salt.n - (intOf i).toNat)
   case atStart => exact ⟨0, Nat.zero_le _, rfl, by rw [over_none]; exact HOS9.out, HGR.out⟩
   case round =>
    clear HGR HOS9;obtain ⟨k, hk, rfl, hos, hgr⟩ := hrel;have c9 := (HB.grown hgr HN1).cell 9;change World.cell? _ _ = some (.slice p.salt.A p.salt.n p.salt.c) at c9;have hrs := HRS2.grown hgr HBS.out (fun g h => by have := aZF h; omega);have HOS := zH hos; have HGR := zH hgr; clear hos hgr
    by_cases hlt : k < p.salt.n
    ·obtain ⟨ad, x, hA, -, hlx, hcx⟩ := hrs.at_ (k := k) (by rw [HLS.out]; exact hlt)
     change wr.cell? (ad.add k) = some (.int .u8 (byt x)) at hcx;rw [hA] at c9;obtain ⟨g', z, e1, -, -, -, gc, gf⟩ := HOS.at_ (k := q2 + k) (by rw [over_len _ _ _ (by rw [HL9'.out, aZJ, HLS.out]; omega), HL9'.out]; omega);injection e1 with e1; injection e1 with e1; subst e1
     have hset := over_put L9 ls q2 k x hlx (by rw [HL9'.out]; omega);obtain ⟨j, hj⟩ : ∃ j, j = q2 + k := ⟨_, rfl⟩;rw [<- hj] at gc gf hset;have hji : (q2 : Int) + (k : Int) = (j : Int) := by omega
     have hjw : IntKind.i64.wrap (j : Int) = j := by simp [IntKind.wrap, IntKind.bits, aZM]; omega
     have hjn : j < n := by omega
     have hkd : decide ((k : Int) < p.salt.n) = true := by simp; omega
     have HSET := zH hset; clear hset hlx hrs hA hj;go_wp2_with fail
     case roundEnd =>
      have h1 := HOS.set j x;rw [HSET.out] at h1;exact ⟨⟨k + 1, by omega, by go_num, h1, grown_setCells [_] j HGR.out⟩, by simp [intOf]; omega⟩
    ·obtain rfl : k = p.salt.n := by omega
     clear hrs;obtain ⟨L, hL⟩ : ∃ L, L = over L9 q2 ls := ⟨_, rfl⟩;have hos := HOS.out;rw [aZQ (Nat.le_of_eq HLS.out), <- hL] at hos;have hll : L.length = n := by rw [hL, over_len _ _ _ (by rw [HL9'.out, HLS.out]; exact hs4), HL9'.out]
     have hel := HEL'.out;rw [<- hL] at hel;have HOS9 := zH hos; have HLL := zH hll; have HEL := zH hel; clear hos hll hel hL HOS HEL' HL9' hlt hk;go_wp2_with fail;clear c9;go_loopw [14] (fun i wr => ∃ k : Nat, k <= p.pers.n /\ i = .int .i64 k /\ OS cB wr b (some ⟨gb, 0, none⟩) n (over L q3 (lp.take k)) /\ w2.grownBy wr (some gb)) (fun i _ => p.pers.n - (intOf i).toNat)
     case atStart => exact ⟨0, Nat.zero_le _, rfl, by rw [over_none]; exact HOS9.out, HGR.out⟩
     case round =>
      clear HGR HOS9;obtain ⟨k, hk, rfl, hos, hgr⟩ := hrel;have c10 := (HB.grown hgr HN1).cell 10;change World.cell? _ _ = some (.slice p.pers.A p.pers.n p.pers.c) at c10;have hrp := HRP2.grown hgr HBS.out (fun g h => by have := aZF h; omega);have HOS := zH hos; have HGR := zH hgr; clear hos hgr
      by_cases hlt : k < p.pers.n
      ·obtain ⟨ad, x, hA, -, hlx, hcx⟩ := hrp.at_ (k := k) (by rw [HLP.out]; exact hlt)
       change wr.cell? (ad.add k) = some (.int .u8 (byt x)) at hcx;rw [hA] at c10;obtain ⟨g', z, e1, -, -, -, gc, gf⟩ := HOS.at_ (k := q3 + k) (by rw [over_len _ _ _ (by rw [HLL.out, aZJ, HLP.out]; omega), HLL.out]; omega);injection e1 with e1; injection e1 with e1; subst e1
       have hset := over_put L lp q3 k x hlx (by rw [HLL.out]; omega);obtain ⟨j, hj⟩ : ∃ j, j = q3 + k := ⟨_, rfl⟩;rw [<- hj] at gc gf hset;have hji : (q3 : Int) + (k : Int) = (j : Int) := by omega
       have hjw : IntKind.i64.wrap (j : Int) = j := by simp [IntKind.wrap, IntKind.bits, aZM]; omega
       have hjn : j < n := by omega
       have hkd : decide ((k : Int) < p.pers.n) = true := by simp; omega
       have HSET := zH hset; clear hset hlx hrp hA hj;go_wp2_with fail
       case roundEnd =>
        have h1 := HOS.set j x;rw [HSET.out] at h1;exact ⟨⟨k + 1, by omega, by go_num, h1, grown_setCells [_] j HGR.out⟩, by simp [intOf]; omega⟩
      ·obtain rfl : k = p.pers.n := by omega
       clear hrp;have hos := HOS.out;rw [aZQ (Nat.le_of_eq HLP.out), <- HEL.out] at hos;have hW : Below b w wr := HW.grown HGR.out HBS.out (fun g h => by have := aZF h; omega);rw [HBE.out] at hos hW;have HOS9 := zH hos; have HWW := zH hW; clear hos hW;go_wp2_with fail;exact aZB (aZG rfl _ _ _) rfl ⟨_, _, rfl, HOS9.out, HWW.out⟩
theorem refBlock_any (big : Bool) (w : World) : Calls Tryz.prog 47 #[.int .i64 (kOf big)] w fun e w' => e = .returned (.int .i64 (2 * bOf big : Nat)) /\ w = w' := by
 cases big with
 | true =>
  show Calls _ _ #[.int .i64 1] w _
  go_enter Tryz.func47, Tryz.ntmps47;go_wp2_with fail;exact aZB (results_tmp rfl _ _ _) rfl ⟨rfl, rfl⟩
 | false =>
  show Calls _ _ #[.int .i64 2] w _
  go_enter Tryz.func47, Tryz.ntmps47;go_wp2_with fail;exact aZB (results_tmp rfl _ _ _) rfl ⟨rfl, rfl⟩
theorem refFull_any (big : Bool) (w : World) : Calls Tryz.prog 34 #[.int .i64 (kOf big)] w fun e w' => e = .returned (.int .i64 (bOf big : Nat)) /\ w = w' := by
 cases big with
 | true =>
  show Calls _ _ #[.int .i64 1] w _
  go_enter Tryz.func34, Tryz.ntmps34;go_wp2_with fail;exact aZB (results_tmp rfl _ _ _) rfl ⟨rfl, rfl⟩
 | false =>
  show Calls _ _ #[.int .i64 2] w _
  go_enter Tryz.func34, Tryz.ntmps34;go_wp2_with fail;exact aZB (results_tmp rfl _ _ _) rfl ⟨rfl, rfl⟩
theorem addHi_keep (lo hi n : UInt64) (h : lo.toNat <= (lo + n).toNat) : addHi lo hi n = hi := by
 have h1 : lo.toNat < 18446744073709551616 := lo.toNat_lt;have h2 : n.toNat < 18446744073709551616 := n.toNat_lt;rw [UInt64.toNat_add] at h;unfold addHi cyOf;have : (lo.toNat + n.toNat + (0 : UInt64).toNat) / 18446744073709551616 = 0 := by show (lo.toNat + n.toNat + 0) / _ = 0; omega
 rw [this];exact UInt64.add_zero hi
theorem addHi_more (lo hi n : UInt64) (h : ¬ lo.toNat <= (lo + n).toNat) : addHi lo hi n = hi + 1 := by
 have h1 : lo.toNat < 18446744073709551616 := lo.toNat_lt;have h2 : n.toNat < 18446744073709551616 := n.toNat_lt;rw [UInt64.toNat_add] at h;unfold addHi cyOf;have : (lo.toNat + n.toNat + (0 : UInt64).toNat) / 18446744073709551616 = 1 := by show (lo.toNat + n.toNat + 0) / _ = 1; omega
 rw [this]
 rfl
theorem refAdd_any (lo hi n : UInt64) (w : World) :
  Calls Tryz.prog 44 #[.int .u64 (wrd lo), .int .u64 (wrd hi), .int .u64 (wrd n)] w fun e w' => ∃ b, e = .returned (.tuple #[.int .u64 (wrd (addLo lo n)), .int .u64 (wrd (addHi lo hi n)), .bool b]) /\ w = w' := by
 have h1 := wrd_add lo n;have h2 := wrd_add hi 1;have e1 : wrd 1 = 1 := rfl;rw [e1] at h2;unfold addLo
 by_cases h : lo.toNat <= (lo + n).toNat
 ·have hk := addHi_keep lo hi n h
  have t : decide (wrd lo <= wrd (lo + n)) = true := decide_eq_true (Int.ofNat_le.2 h);rw [hk];generalize lo + n = s at *;clear hk h2 e1 h;go_enter Tryz.func44, Tryz.ntmps44;go_wp2_with fail;exact aZB (results_tmp3 rfl _ _ _) rfl ⟨_, rfl, rfl⟩
 ·have hk := addHi_more lo hi n h
  have t : decide (wrd lo <= wrd (lo + n)) = false := decide_eq_false (fun hh => h (Int.ofNat_le.1 hh));rw [hk];generalize lo + n = s at *;generalize hi + 1 = i at *;clear hk e1 h;go_enter Tryz.func44, Tryz.ntmps44;go_wp2_with fail;exact aZB (results_tmp3 rfl _ _ _) rfl ⟨_, rfl, rfl⟩
def cutL (m : List UInt8) (at_ n : Nat) : List UInt8 := padTo ((m.drop at_).take n) n
theorem cutL_len (m : List UInt8) (at_ n : Nat) : (cutL m at_ n).length = n := padTo_len _ _ (by rw [aZJ]; omega)
theorem cutL_in (m : List UInt8) (at_ n k : Nat) (x : UInt8) (hk : k < n) (hx : m[at_ + k]? = some x) : (cutL m at_ n)[k]? = some x := by
 have hl := (List.getElem?_eq_some_iff.1 hx).1;unfold cutL padTo;rw [List.getElem?_append_left (by rw [aZJ, List.length_drop]; omega), List.getElem?_take_of_lt hk, List.getElem?_drop, hx]
theorem cutL_out (m : List UInt8) (at_ n k : Nat) (hk : k < n) (hx : m.length <= at_ + k) : (cutL m at_ n)[k]? = some 0 := by
 unfold cutL padTo;rw [List.getElem?_append_right (by rw [aZJ, List.length_drop]; omega), List.getElem?_replicate_of_lt (by rw [aZJ, List.length_drop]; omega)]
theorem take_more {α : Type} (l : List α) (k : Nat) (x : α) (h : l[k]? = some x) : l.take (k + 1) = l.take k ++ [x] := by rw [List.take_add_one, h]; rfl
theorem refCut_any (A : Option Addr) (N c at_ n : Nat) (m : List UInt8) (w : World) (hm : m.length = N) (hN : N <= 140737488355328) (hat : at_ <= N) (hn : n <= 1024) (hr : RS cB w w.heap.size A m) :
  Calls Tryz.prog 46 #[.slice A N c, .int .i64 at_, .int .i64 n] w fun e w' => ∃ A' c', e = .returned (.slice A' n c') /\ OS cB w' w.heap.size A' c' (cutL m at_ n) /\ Below w.heap.size w w' := by
 have hin := fun k x hk hx => cutL_in m at_ n k x hk hx
 have hout := fun k hk hx => cutL_out m at_ n k hk hx
 have hcl := cutL_len m at_ n;rw [hm] at hout;obtain ⟨C, hC⟩ : ∃ C, C = cutL m at_ n := ⟨_, rfl⟩;simp only [<- hC] at hin hout hcl ⊢;have HIN := zH hin; have HOUT := zH hout; have HCL := zH hcl; have HR := zH hr; have HM := zH hm;clear hin hout hcl hC hr hm;go_enter Tryz.func46, Tryz.ntmps46;go_wp2_with fail;go_loopw [7, 8] (fun o i wr => ∃ (k : Nat) (A' : Option Addr) (c' : Nat), k <= n /\ i = .int .i64 k /\ o = .slice A' k c' /\ OS cB wr w.heap.size A' c' (C.take k) /\ Below w.heap.size w wr) (fun _ i _ => n - (intOf i).toNat)
 case atStart => exact ⟨0, none, 0, Nat.zero_le _, rfl, rfl, OS.nil _ _ _ rfl, b0 _⟩
 case round =>
  obtain ⟨k, A1, c1, hk, rfl, rfl, hos, hbw⟩ := hrel;have HO := zH hos; have HB := zH hbw; clear hos hbw
  by_cases hlt : k < n
  ·have hkd : decide ((k : Int) < n) = true := by simp; omega
   have hkl : Hid ((C.take k).length = k) := by show _ = _; rw [aZJ, HCL.out]; omega
   obtain ⟨j, hj⟩ : ∃ j, j = at_ + k := ⟨_, rfl⟩;have hji : (at_ : Int) + (k : Int) = (j : Int) := by omega
   have hjw : IntKind.i64.wrap (j : Int) = j := by simp [IntKind.wrap, IntKind.bits, aZM]; omega
   have HJ := zH hj
   by_cases hjN : j < N
   ·obtain ⟨ad, x, rfl, -, hlx, hcx⟩ := (HR.below HB.out).at_ (k := j) (by rw [HM.out]; exact hjN)
    change wr.cell? (ad.add j) = some (.int .u8 (byt x)) at hcx;have htk := take_more C k x (HIN.out k x hlt (by rw [<- hj]; exact hlx));have HTK := zH htk;have hjd : decide ((j : Int) < N) = true := by simp; omega
    clear hj htk hlx;go_wp2_with (at_builtin; refine wpList_appB1 _ rfl (.tmp 27) (.tmp 29) rfl (HO.alloc _) rfl hkl.out rfl (cnew _ _ _ rfl) x rfl (by omega) (by have := HB.size; simp; omega) ?_; intro A3 c3 w3 hown3 hgrow hat; have HW3 := zH (bapp (bal HB.out _) (HO.alloc _) hgrow); have HO3 := zH hown3; clear hown3 hgrow hat);go_roundw
    case rel => exact ⟨k + 1, A3, c3, by omega, by go_num, rfl, by rw [HTK.out]; exact HO3.out, HW3.out⟩
    case measure => simp [intOf]; omega
   ·have htk := take_more C k 0 (HOUT.out k hlt (by rw [<- hj]; omega))
    have HTK := zH htk;have hjd : decide ((j : Int) < N) = false := by simp; omega
    clear hj htk;go_wp2_with (at_builtin; refine wpList_appB1 _ rfl (.tmp 27) (.tmp 29) rfl (HO.alloc _) rfl hkl.out rfl (cnew _ _ _ rfl) 0 rfl (by omega) (by have := HB.size; simp; omega) ?_; intro A3 c3 w3 hown3 hgrow hat; have HW3 := zH (bapp (bal HB.out _) (HO.alloc _) hgrow); have HO3 := zH hown3; clear hown3 hgrow hat);go_roundw
    case rel => exact ⟨k + 1, A3, c3, by omega, by go_num, rfl, by rw [HTK.out]; exact HO3.out, HW3.out⟩
    case measure => simp [intOf]; omega
  ·obtain rfl : k = n := by omega
   have hos := HO.out;rw [aZQ (Nat.le_of_eq HCL.out)] at hos;have HO2 := zH hos; clear hos;go_wp2_with fail;exact aZB (results_tmp rfl _ _ _) rfl ⟨_, _, rfl, HO2.out, HB.out⟩
inductive HS
  | big (H : List UInt64)
  | small (H : List UInt32)
namespace HS
def k : HS -> Bool
  | big _ => true
  | small _ => false
def words : HS -> List UInt64
  | big H => H ++ zw 8
  | small H => H.map (fun x => x.toUInt64) ++ zw 8
def Ok : HS -> Prop
  | big H => H.length = 8
  | small H => H.length = 8
def mix : HS -> List UInt8 -> UInt64 -> UInt64 -> Bool -> Bool -> HS
  | big H, x, lo, hi, l, n => big (comp64 H (wordsOf x 16) lo hi l n)
  | small H, x, lo, _, l, n => small (comp32 H (words3 x 16) lo l n)
def bytes : HS -> List UInt8
  | big H => flat H
  | small H => flat3 H
theorem mix_k (S : HS) (x : List UInt8) (lo hi : UInt64) (l n : Bool) : (S.mix x lo hi l n).k = S.k := by cases S <;> rfl
theorem mix_ok (S : HS) (x : List UInt8) (lo hi : UInt64) (l n : Bool) : (S.mix x lo hi l n).Ok := by
 cases S
 ·exact comp64_len _ _ _ _ _ _
 ·exact comp32_len _ _ _ _ _
theorem words_len {S : HS} (h : S.Ok) : S.words.length = 16 := by
 cases S <;> (show (_ ++ zw 8).length = 16; simp [zw]; exact h)
end HS
def bytesTo (L : List UInt64) (q k : Nat) : List UInt8 := (L.take k).flatMap fun x => storeN x.toNat q
theorem bytesTo_len (L : List UInt64) (q k : Nat) (hk : k <= L.length) : (bytesTo L q k).length = k * q := by
 have : ∀ l : List UInt64, (l.flatMap fun x => storeN x.toNat q).length = l.length * q := by
  intro l
  induction l with
  | nil => simp
  | cons a l ih => simp only [List.flatMap_cons, List.length_append, storeN_len, ih, List.length_cons, Nat.succ_mul]; omega
 unfold bytesTo;rw [this, aZJ]
 congr 1
 omega
theorem bytesTo_more (L : List UInt64) (q k : Nat) (x : UInt64) (h : L[k]? = some x) : bytesTo L q (k + 1) = bytesTo L q k ++ storeN x.toNat q := by
 unfold bytesTo;rw [take_more L k x h, List.flatMap_append];simp
theorem HS.bytes_eq {S : HS} (h : S.Ok) : S.bytes = bytesTo S.words (bOf S.k / 8) 8 := by
 cases S with
 | big H =>
  rw [show bOf (HS.big H).k / 8 = 8 from congrArg (· / 8) (show bOf (HS.big H).k = 64 from rfl)]
  show flat H = ((H ++ zw 8).take 8).flatMap _
  rw [List.take_append_of_le_length (Nat.le_of_eq (Eq.symm h)), aZQ (Nat.le_of_eq h)]
  rfl
 | small H =>
  have h1 : (H.map (fun x : UInt32 => x.toUInt64)).length = 8 := by rw [List.length_map]; exact h
  rw [show bOf (HS.small H).k / 8 = 4 from congrArg (· / 8) (show bOf (HS.small H).k = 32 from rfl)]
  show flat3 H = ((H.map (fun x : UInt32 => x.toUInt64) ++ zw 8).take 8).flatMap _
  rw [List.take_append_of_le_length (by omega), aZQ (by omega)];unfold flat3;rw [List.flatMap_map]
  rfl
theorem refBytesW_any (big : Bool) (L : List UInt64) (q : Nat) (w : World) (hL : L.length = 16) (hq : bOf big = 8 * q) (hq8 : q <= 8) :
  Calls Tryz.prog 39 #[.int .i64 (kOf big), .agg (wcs L)] w fun e w' => ∃ A c, e = .returned (.slice A (8 * q) c) /\ OS cB w' w.heap.size A c (bytesTo L q 8) /\ Below w.heap.size w w' := by
 have hfu := fun W => refFull_any big W
 rw [hq] at hfu;have HFU := zH hfu; have HL := zH hL; clear hfu hL hq;generalize kOf big = kk at *;have n0 := Blk.new w 41 (wcs L);have n4 := bal (b0 w) (.cells (wcs L) 41);have hqd : ((8 * q : Nat) : Int).tdiv 8 = q := by rw [Int.tdiv_eq_ediv_of_nonneg (by omega)]; omega
 have hqd' : ((8 * q : Nat) : Int) / 8 = q := by omega
 obtain ⟨q8, hq8e⟩ : ∃ q8, q8 = 8 * q := ⟨_, rfl⟩;rw [<- hq8e] at hqd hqd' HFU;obtain ⟨g, hg⟩ : ∃ g, g = w.heap.size := ⟨_, rfl⟩;go_enter Tryz.func39, Tryz.ntmps39;go_wp2_with fail;rw [<- hg] at n0 ⊢;generalize w.alloc (.cells (wcs L) 41) = w0 at *;have N0 := zH n0; have N4 := zH n4; have HQ := zH hq8e; clear n0 n4 hg hq8e;go_loopw [5, 6] (fun o i wr => ∃ (k m : Nat) (A : Option Addr) (c : Nat), k <= 8 /\ i = .int .i64 k /\ m = k * q /\ o = .slice A m c /\ OS cB wr w.heap.size A c (bytesTo L q k) /\ Blk wr g 41 (wcs L) /\ Below w.heap.size w wr) (fun _ i _ => 8 - (intOf i).toNat)
 case atStart => exact ⟨0, 0, none, 0, Nat.zero_le _, rfl, (Nat.zero_mul _).symm, rfl, OS.nil _ _ _ rfl, N0.out, N4.out⟩
 case round =>
  clear N0 N4;obtain ⟨k, m, A, c, hk, rfl, hm, rfl, hos, x0, x4⟩ := hrel;have HO := zH hos; have N0 := zH x0; have N4 := zH x4; have HM := zH hm; clear hos x0 x4
  by_cases hlt : k < 8
  ·have hkd : decide ((k : Int) < 8) = true := by simp; omega
   have hki : (k : Int) < 16 := by omega
   have hmb : m <= 64 := by rw [hm]; exact Nat.le_trans (Nat.mul_le_mul hk hq8) (by decide)
   obtain ⟨v, hv⟩ : ∃ v, v = L.getD k 0 := ⟨_, rfl⟩;have hLk : L[k]? = some v := by rw [hv]; exact getDW L k (by rw [HL.out]; omega)
   have HMO := zH (bytesTo_more L q k v hLk);have HBL := zH (show (bytesTo L q k).length = m by rw [hm]; exact bytesTo_len L q k (by rw [HL.out]; omega));have HLK := zH (wcs_at' L k v hLk);have c0 : wr.cell? ⟨g, k, none⟩ = some (.int .u64 (wrd v)) := (N0.cell _).trans HLK.out;clear hm hv hLk;go_wp2_with fail;refine wrZ (fun w' => Blk w' g 41 (wcs L)) (fun _ n h => h.drewN n) (Ords.of [(0, 0), (0, 1), (0, 2), (0, 3), (0, 4), (2, 5), (0, 6), (2, 7), (2, 8), (0, 9)] .fin) N0 ?_
   iterate 3 (refine ords_pure rfl (fun K hK => ?_); go_simp; refine hK _ ?_; clear hK K)
   refine ords_heldK rfl (fun K K2 hK hK2 => ?_); go_simp; refine ⟨hK2 _ (fun w9 hS => ?_), hK _ ?_⟩; (clear hK hK2 K K2; have q0 : w9.cell? ⟨g, k, none⟩ = some (.int .u64 (wrd v)) := (hS.cell _).trans HLK.out; go_simp); (clear hK hK2 K K2);refine ords_pure rfl (fun K hK => ?_); go_simp; refine hK _ ?_; clear hK K;refine ords_loud rfl (fun n1 => ?_);go_wp2_with (go_at_call 34; refine (HFU _).mono ?_; rintro e1 w1 ⟨rfl, rfl⟩);refine ⟨N0.drewN _, ?_⟩;refine ords_pure rfl (fun K hK => ?_); go_simp; refine hK _ ?_; clear hK K;refine ords_loud rfl (fun n2 => ?_);go_wp2_with (go_at_call 40; refine (refStore_any v q hq8 _).mono ?_; rintro e2 w2 ⟨A2, c2, rfl, ho2, hb2⟩);have HO2 := zH ho2; have HP := zH ((HO.drewN _).below hb2 (Nat.le_refl _)); have N2 := zH ((N0.drewN _).below hb2 (N0.drewN _).lt); have HB2 := zH (bcall (bdr N4 _) hb2); clear ho2 hb2;refine ⟨N2.out, ?_⟩;refine ords_loud rfl (fun n3 => ?_)
   (refine wpList_appB _ rfl (.tmp 11) (.tmp 18) rfl (HP.drewN _) rfl HBL.out (HO2.reads.drewN _) rfl (storeN_len _ _) (by omega) HB2.size ?_; intro A3 c3 w3 ho3 hg3 hA3)
   have N3 := zH ((N2.drewN _).grown hg3 (HP.ne_row N2 (by show 5 ≠ 41; decide))); have HO3 := zH ho3; have HB3 := zH (bapp (bdr HB2 _) (HP.drewN _) hg3); clear ho3 hg3 hA3;go_wp2;refine ⟨N3.out, ?_⟩;refine ords_pure rfl (fun K hK => ?_); go_simp; refine hK _ ?_; clear hK K;refine ords_end (fun n4 => ?_);go_wp2_with fail;go_roundw
   case rel => exact ⟨k + 1, m + q, A3, c3, by omega, by go_num, by have := HM.out; rw [this, Nat.succ_mul], rfl, by rw [HMO.out]; exact HO3.drewN _, N3.drewN _, bdr HB3.out _⟩
   case measure => simp [intOf]; omega
  ·obtain rfl : k = 8 := by omega
   subst hm;go_wp2_with fail;exact aZB (results_tmp rfl _ _ _) rfl ⟨_, _, rfl, HO.out, N4.out⟩
theorem refBytes_any (S : HS) (w : World) (hS : S.Ok) :
  Calls Tryz.prog 39 #[.int .i64 (kOf S.k), .agg (wcs S.words)] w fun e w' => ∃ A c, e = .returned (.slice A (bOf S.k) c) /\ OS cB w' w.heap.size A c S.bytes /\ Below w.heap.size w w' := by
 rw [HS.bytes_eq hS]
 cases S with
 | big H => rw [show bOf (HS.big H).k = 8 * 8 from rfl, show 8 * 8 / 8 = 8 from rfl]; exact refBytesW_any true _ 8 w (HS.words_len hS) rfl (by decide)
 | small H => rw [show bOf (HS.small H).k = 8 * 4 from rfl, show 8 * 4 / 8 = 4 from rfl]; exact refBytesW_any false _ 4 w (HS.words_len hS) rfl (by decide)
end Go.Proofs.YtboihcigcfmhhaaGreat

/-
  Y6: contracts and lemmas alone; no statement is claimed here.
-/
import Derived.Test.YtmapfcdffklopaaGreatY0
import Derived.Outline
namespace Go.Proofs.YtmapfcdffklopaaGreat
open Go.RowKit

set_option maxHeartbeats 1000000 in
theorem refLoad_any (A : Option Addr) (c N at_ n B : Nat) (l : List UInt8) (w : World) (hN : l.length = N) (hm : N ≤ 9223372036854775807) (hr : RS cB w B A l) (hat : at_ + n ≤ N) (hn : n ≤ 8) :
  Calls Tryz.prog 118 #[.slice A N c, .int .i64 at_, .int .i64 n] w fun e w' => e = .returned (.tuple #[.int .u64 (wrd (word ((l.drop at_).take n))), .int .i64 0]) ∧ w = w' := by
 rw [wrd_word _ (by simp; omega)]
 have HN := Lib.hid hN; have HR := Lib.hid hr; clear hN hr
 have g1 : ¬ (at_ : Int) < 0 := by omega
 have g2 : ¬ (N : Int) < at_ := by omega
 have g3 : ¬ (N : Int) - at_ < n := by omega
 go_enter Tryz.func118, Tryz.ntmps118
 go_wp2
 go_loop [8, 9] (fun v i => ∃ (j x : Nat), j ≤ n ∧ i = .int .i64 ((j : Int) - 1) ∧ v = .int .u64 x ∧ x = le ((l.drop (at_ + j)).take (n - j))) (fun _ i => (intOf i + 1).toNat)
 case atStart => exact ⟨n, 0, by omega, rfl, rfl, by simp [le]⟩
 case round =>
  obtain ⟨j, x, hj, rfl, rfl, hx⟩ := hrel
  have HX := Lib.hid hx; clear hx
  by_cases hlt : 0 < j
  ·obtain ⟨i, rfl⟩ : ∃ i, j = i + 1 := ⟨j - 1, by omega⟩
   obtain ⟨ad, b, rfl, -, eb, gb⟩ := HR.out.at_ (k := at_ + i) (by rw [HN.out]; omega)
   change w.cell? (ad.add (at_ + i)) = some (.int .u8 (byt b)) at gb
   have EB := Lib.hid eb; clear eb
   have gk : (at_ : Int) + i < N := by omega
   have ei : ((i + 1 : Nat) : Int) - 1 = (i : Int) := by omega
   have r1 := byt_range b
   obtain ⟨r1, r2⟩ := r1
   rw [ei]
   go_wp2
   case roundEnd =>
    have e3 : n - i = (n - (i + 1)) + 1 := by omega
    have e : (l.drop (at_ + i)).take (n - i) = b :: (l.drop (at_ + (i + 1))).take (n - (i + 1)) := by
     have hl : at_ + i < l.length := by have := HN.out; omega
     rw [e3, List.drop_eq_getElem_cons hl, List.take_succ_cons]
     have : l[at_ + i] = b := by have := EB.out; rw [List.getElem?_eq_getElem hl] at this; exact Option.some.inj this
     rw [this]; rfl
    have hx : x < 256 ^ (n - (i + 1)) := by
     have := le_lt ((l.drop (at_ + (i + 1))).take (n - (i + 1)))
     rw [← HX.out] at this
     have e4 : ((l.drop (at_ + (i + 1))).take (n - (i + 1))).length = n - (i + 1) := by simp; have := HN.out; omega
     rwa [e4] at this
    refine ⟨⟨i, b.toNat + 256 * x, by omega, rfl, by rw [ld_back x (n - (i + 1)) b (by omega) hx], ?_⟩, by simp [intOf]⟩
    rw [e, HX.out]; rfl
  ·obtain rfl : j = 0 := by omega
   go_wp2
   exact bodyPost_ret (results_tmp2 rfl _ _ _) rfl ⟨by rw [HX.out]; simp only [Nat.add_zero, Nat.sub_zero]; rfl, rfl⟩

set_option maxHeartbeats 1000000 in
theorem refStore_any (x : UInt64) (n : Nat) (hn : n ≤ 8) (w : World) :
  Calls Tryz.prog 96 #[.int .u64 (wrd x), .int .i64 n] w fun e w' => ∃ A c, e = .returned (.slice A n c) ∧ OS cB w' w.heap.size A c (storeN x.toNat n) ∧ Below w.heap.size w w' := by
 obtain ⟨y, hy⟩ : ∃ y : Nat, y = x.toNat := ⟨_, rfl⟩
 have hw : wrd x = (y : Int) := by rw [hy]; rfl
 have hy2 : y < 18446744073709551616 := by rw [hy]; exact x.toNat_lt
 rw [hw, ← hy]
 clear hw hy
 go_enter Tryz.func96, Tryz.ntmps96
 go_wp2
 go_loopw [0, 5, 6] (fun v o i wr => ∃ (k z : Nat) (A : Option Addr) (c : Nat), k ≤ n ∧ i = .int .i64 k ∧ v = .int .u64 z ∧ z = y / 256 ^ k ∧ z ≤ y ∧ o = .slice A k c ∧ OS cB wr w.heap.size A c (storeN y k) ∧ Below w.heap.size w wr) (fun _ _ i _ => n - (intOf i).toNat)
 case atStart => exact ⟨0, y, none, 0, by omega, rfl, rfl, by simp, Nat.le_refl _, rfl, OS.nil _ _ _ rfl, b0 _⟩
 case round =>
  obtain ⟨k, z, A, c, hk, rfl, rfl, hz, hzy, rfl, hos, hbw⟩ := hrel
  have HO := Lib.hid hos; have HZ := Lib.hid hz; clear hos hz
  by_cases hlt : k < n
  ·have hz2 : z < 18446744073709551616 := by omega
   have z1 : (z : Int).tmod 256 = ((z % 256 : Nat) : Int) := rfl
   have z2 : (z : Int) % 256 = ((z % 256 : Nat) : Int) := rfl
   have z3 : (z : Int).tdiv 256 = ((z / 256 : Nat) : Int) := rfl
   have z4 : (z : Int) / 256 = ((z / 256 : Nat) : Int) := rfl
   have z5 : z % 256 < 256 := Nat.mod_lt _ (by omega)
   obtain ⟨q, hq⟩ : ∃ q, q = z % 256 := ⟨_, rfl⟩
   obtain ⟨r, hr⟩ : ∃ r, r = z / 256 := ⟨_, rfl⟩
   have hrz : r ≤ z := by rw [hr]; exact Nat.div_le_self _ _
   rw [← hq] at z1 z2 z5
   rw [← hr] at z3 z4
   have HQ := Lib.hid hq; have HRR := Lib.hid hr; clear hq hr
   go_wp2_with (at_builtin; refine wpList_appB1 _ rfl (.tmp 12) (.tmp 16) rfl (HO.out.alloc _) rfl (storeN_len y k) rfl (cnew _ _ _ rfl) (UInt8.ofNat q) (by rw [byt_ofNat q z5]) (by omega) (by have := hbw.size; simp; omega) ?_; intro A3 c3 w3 hown3 hgrow hat; have hw3 := bapp (bal hbw _) (HO.out.alloc _) hgrow; have HO3 := Lib.hid hown3; clear hown3 hgrow hat)
   go_roundw
   case rel =>
    refine ⟨k + 1, r, A3, c3, by omega, by go_num, rfl, ?_, by omega, rfl, ?_, hw3⟩
    ·rw [HRR.out, HZ.out, Nat.div_div_eq_div_mul, Nat.pow_succ]
    ·rw [storeN_succ, ← HZ.out, ← HQ.out]; exact HO3.out
   case measure => simp [intOf]; omega
  ·obtain rfl : k = n := by omega
   go_wp2
   exact bodyPost_ret (results_tmp rfl _ _ _) rfl ⟨A, c, rfl, HO.out, hbw⟩
end Go.Proofs.YtmapfcdffklopaaGreat

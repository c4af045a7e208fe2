/-
  Words out of bytes, by the program and by the reference. Contracts alone; no statement is claimed here.
-/
import Derived.Test.YtnkngaicegcejaaLoadP
import Derived.Test.YtnkngaicegcejaaKit
import Derived.Outline
namespace Go.Proofs.Ytnkngaicegcejaa
open Go.RowKit

set_option maxHeartbeats 1000000 in
theorem load_any (A : Option Addr) (c N at_ n B : Nat) (l : List UInt8) (w : World) (hN : l.length = N) (hm : N ≤ 9223372036854775807) (hr : RS cB w B A l) (hat : at_ + n ≤ N) (hn : n ≤ 8) :
    Calls Try.prog 87 #[.slice A N c, .int .i64 at_, .int .i64 n] w fun e w' => e = .returned (.tuple #[.int .u64 (wrd (word ((l.drop at_).take n))), .int .i64 0]) ∧ w = w' := by
  rw [wrd_word _ (by simp; omega)]
  have HN := Lib.hid hN; have HR := Lib.hid hr; clear hN hr
  have g1 : ¬ (at_ : Int) < 0 := by omega
  have g2 : ¬ (N : Int) < at_ := by omega
  have g3 : ¬ (N : Int) - at_ < n := by omega
  go_enter Try.func87, Try.ntmps87
  go_wp2
  go_loop [8, 25] (fun v i => ∃ (k x : Nat), k ≤ n ∧ i = .int .i64 k ∧ v = .int .u64 x ∧ x = le ((l.drop at_).take k)) (fun _ i => n - (intOf i).toNat)
  case atStart => exact ⟨0, 0, by omega, rfl, rfl, by simp [le]⟩
  case round =>
    obtain ⟨k, x, hk, rfl, rfl, hx⟩ := hrel
    have HX := Lib.hid hx; clear hx
    by_cases hlt : k < n
    · obtain ⟨ad, b, rfl, -, eb, gb⟩ := HR.out.at_ (k := at_ + k) (by rw [HN.out]; omega)
      change w.cell? (ad.add (at_ + k)) = some (.int .u8 (byt b)) at gb
      have EB := Lib.hid eb; clear eb
      have gk : (at_ : Int) + k < N := by omega
      have r1 := byt_range b
      obtain ⟨r1, r2⟩ := r1
      go_wp2
      case roundEnd =>
        have hx : x < 256 ^ k := by
          have := le_lt ((l.drop at_).take k)
          rw [← HX.out] at this
          have e : ((l.drop at_).take k).length = k := by simp; have := HN.out; omega
          rwa [e] at this
        refine ⟨⟨k + 1, x + 256 ^ k * b.toNat, by omega, by go_num, by rw [ld_step x k b (by omega) hx], ?_⟩, by simp [intOf]; omega⟩
        have e : (l.drop at_).take (k + 1) = (l.drop at_).take k ++ [b] := by
          rw [List.take_add_one, List.getElem?_drop, EB.out]; rfl
        rw [e, le_snoc, ← HX.out]
        have e2 : ((l.drop at_).take k).length = k := by simp; have := HN.out; omega
        rw [e2]
    · obtain rfl : k = n := by omega
      go_wp2
      exact bodyPost_ret (results_tmp2 rfl _ _ _) rfl ⟨by rw [HX.out]; rfl, rfl⟩

theorem load64_any (A : Option Addr) (c N at_ B : Nat) (l : List UInt8) (w : World) (hN : l.length = N) (hm : N ≤ 9223372036854775807) (hr : RS cB w B A l) (hat : at_ + 8 ≤ N) :
    Calls Try.prog 83 #[.slice A N c, .int .i64 at_] w fun e w' => e = .returned (.tuple #[.int .u64 (wrd (word ((l.drop at_).take 8))), .int .i64 0]) ∧ w = w' := by
  have h := load_any A c N at_ 8 B l w hN hm hr hat (Nat.le_refl _)
  have H := Lib.hid h; clear h hr hN
  go_enter Try.func83, Try.ntmps83
  go_wp2_with (go_at_call 87; refine H.out.mono ?_; rintro e w1 ⟨rfl, rfl⟩)
  exact bodyPost_ret (results_tmp2 rfl _ _ _) rfl ⟨rfl, rfl⟩

set_option maxHeartbeats 1000000 in
theorem refLoad_any (A : Option Addr) (c N at_ n B : Nat) (l : List UInt8) (w : World) (hN : l.length = N) (hm : N ≤ 9223372036854775807) (hr : RS cB w B A l) (hat : at_ + n ≤ N) (hn : n ≤ 8) :
    Calls Try.prog 70 #[.slice A N c, .int .i64 at_, .int .i64 n] w fun e w' => e = .returned (.tuple #[.int .u64 (wrd (word ((l.drop at_).take n))), .int .i64 0]) ∧ w = w' := by
  rw [wrd_word _ (by simp; omega)]
  have HN := Lib.hid hN; have HR := Lib.hid hr; clear hN hr
  have g1 : ¬ (at_ : Int) < 0 := by omega
  have g2 : ¬ (N : Int) < at_ := by omega
  have g3 : ¬ (N : Int) - at_ < n := by omega
  go_enter Try.func70, Try.ntmps70
  go_wp2
  go_loop [8, 9] (fun v i => ∃ (j x : Nat), j ≤ n ∧ i = .int .i64 ((j : Int) - 1) ∧ v = .int .u64 x ∧ x = le ((l.drop (at_ + j)).take (n - j))) (fun _ i => (intOf i + 1).toNat)
  case atStart => exact ⟨n, 0, by omega, rfl, rfl, by simp [le]⟩
  case round =>
    obtain ⟨j, x, hj, rfl, rfl, hx⟩ := hrel
    have HX := Lib.hid hx; clear hx
    by_cases hlt : 0 < j
    · obtain ⟨i, rfl⟩ : ∃ i, j = i + 1 := ⟨j - 1, by omega⟩
      obtain ⟨ad, b, rfl, -, eb, gb⟩ := HR.out.at_ (k := at_ + i) (by rw [HN.out]; omega)
      change w.cell? (ad.add (at_ + i)) = some (.int .u8 (byt b)) at gb
      have EB := Lib.hid eb; clear eb
      have gk : (at_ : Int) + i < N := by omega
      have ei : ((i + 1 : Nat) : Int) - 1 = (i : Int) := by omega
      have r1 := byt_range b
      obtain ⟨r1, r2⟩ := r1
      rw [ei]
      go_wp2
      case roundEnd =>
        have e3 : n - i = (n - (i + 1)) + 1 := by omega
        have e : (l.drop (at_ + i)).take (n - i) = b :: (l.drop (at_ + (i + 1))).take (n - (i + 1)) := by
          have hl : at_ + i < l.length := by have := HN.out; omega
          rw [e3, List.drop_eq_getElem_cons hl, List.take_succ_cons]
          have : l[at_ + i] = b := by have := EB.out; rw [List.getElem?_eq_getElem hl] at this; exact Option.some.inj this
          rw [this]; rfl
        have hx : x < 256 ^ (n - (i + 1)) := by
          have := le_lt ((l.drop (at_ + (i + 1))).take (n - (i + 1)))
          rw [← HX.out] at this
          have e4 : ((l.drop (at_ + (i + 1))).take (n - (i + 1))).length = n - (i + 1) := by simp; have := HN.out; omega
          rwa [e4] at this
        refine ⟨⟨i, b.toNat + 256 * x, by omega, rfl, by rw [ld_back x (n - (i + 1)) b (by omega) hx], ?_⟩, by simp [intOf]⟩
        rw [e, HX.out]; rfl
    · obtain rfl : j = 0 := by omega
      go_wp2
      exact bodyPost_ret (results_tmp2 rfl _ _ _) rfl ⟨by rw [HX.out]; simp only [Nat.add_zero, Nat.sub_zero]; rfl, rfl⟩

set_option maxHeartbeats 1000000 in
theorem store64_any (x : UInt64) (w : World) :
    Calls Try.prog 84 #[.int .u64 (wrd x)] w fun e w' => ∃ A c, e = .returned (.slice A 8 c) ∧ OS cB w' w.heap.size A c (storeN x.toNat 8) ∧ Below w.heap.size w w' := by
  have hmk : ∀ (W : World), (Instr.makeSlice 22 (.int .i64 8) (.int .i64 8)).run Try.prog W = .ok (.slice (some ⟨W.heap.size, 0, none⟩) 8 8) (W.alloc (.cells (madeCells #[cB.zero] 8) 5)) := fun (W : World) => run_makeS cB_ok .i64 .i64 8 8 (Nat.le_refl _) (by show 1 * 8 ≤ _; omega) (by omega) W
  obtain ⟨y, hy⟩ : ∃ y : Nat, y = x.toNat := ⟨_, rfl⟩
  have hw : wrd x = (y : Int) := by rw [hy]; rfl
  have hy2 : y < 18446744073709551616 := by rw [hy]; exact x.toNat_lt
  rw [hw, ← hy]
  clear hw hy
  go_enter Try.func84, Try.ntmps84
  go_wp2
  obtain ⟨b, hb⟩ : ∃ b, b = w.heap.size := ⟨_, rfl⟩
  rw [← hb]
  have HB := Lib.hid hb; clear hb hmk
  go_loopw [6] (fun i wr => ∃ k : Nat, k ≤ 8 ∧ i = .int .i64 k ∧ OS cB wr b (some ⟨b, 0, none⟩) 8 (storeN y k ++ List.replicate (8 - k) 0) ∧ Below b w wr) (fun i _ => 8 - (intOf i).toNat)
  case atStart => exact ⟨0, by omega, rfl, OS.madeAt (cd := cB) w 8 8 0 rfl (Nat.le_refl _) (by unfold maxLen; omega) (Nat.le_of_eq HB.out) HB.out.symm, by rw [HB.out]; exact bal (b0 _) _⟩
  case round =>
    obtain ⟨k, hk, rfl, hos, hbw⟩ := hrel
    have HO := Lib.hid hos; clear hos
    by_cases hlt : k < 8
    · have hl : (storeN y k ++ List.replicate (8 - k) (0 : UInt8)).length = 8 := by simp [storeN]; omega
      obtain ⟨g, z, e1, -, -, -, gc, gf⟩ := HO.out.at_ (k := k) (by rw [hl]; exact hlt)
      injection e1 with e1; injection e1 with e1; subst e1
      clear hl
      go_wp2
      case roundEnd =>
        have h1 := HO.out.set k (UInt8.ofNat (y / 256 ^ k % 256))
        rw [storeN_put y k 8 hlt] at h1
        rw [storeN_byte]
        exact ⟨⟨k + 1, by omega, by go_num, h1, below_put hbw (Nat.le_refl _)⟩, by simp [intOf]; omega⟩
    · obtain rfl : k = 8 := by omega
      go_wp2
      have h1 := HO.out
      rw [Nat.sub_self, List.replicate_zero, List.append_nil] at h1
      have hB := HB.out
      subst hB
      exact bodyPost_ret (results_tmp rfl _ _ _) rfl ⟨_, 8, rfl, h1, hbw⟩

set_option maxHeartbeats 1000000 in
theorem refStore_any (x : UInt64) (n : Nat) (hn : n ≤ 8) (w : World) :
    Calls Try.prog 72 #[.int .u64 (wrd x), .int .i64 n] w fun e w' => ∃ A c, e = .returned (.slice A n c) ∧ OS cB w' w.heap.size A c (storeN x.toNat n) ∧ Below w.heap.size w w' := by
  obtain ⟨y, hy⟩ : ∃ y : Nat, y = x.toNat := ⟨_, rfl⟩
  have hw : wrd x = (y : Int) := by rw [hy]; rfl
  have hy2 : y < 18446744073709551616 := by rw [hy]; exact x.toNat_lt
  rw [hw, ← hy]
  clear hw hy
  go_enter Try.func72, Try.ntmps72
  go_wp2
  go_loopw [0, 5, 6] (fun v o i wr => ∃ (k z : Nat) (A : Option Addr) (c : Nat), k ≤ n ∧ i = .int .i64 k ∧ v = .int .u64 z ∧ z = y / 256 ^ k ∧ z ≤ y ∧ o = .slice A k c ∧ OS cB wr w.heap.size A c (storeN y k) ∧ Below w.heap.size w wr) (fun _ _ i _ => n - (intOf i).toNat)
  case atStart => exact ⟨0, y, none, 0, by omega, rfl, rfl, by simp, Nat.le_refl _, rfl, OS.nil _ _ _ rfl, b0 _⟩
  case round =>
    obtain ⟨k, z, A, c, hk, rfl, rfl, hz, hzy, rfl, hos, hbw⟩ := hrel
    have HO := Lib.hid hos; have HZ := Lib.hid hz; clear hos hz
    by_cases hlt : k < n
    · have hz2 : z < 18446744073709551616 := by omega
      have z1 : (z : Int).tmod 256 = ((z % 256 : Nat) : Int) := rfl
      have z2 : (z : Int) % 256 = ((z % 256 : Nat) : Int) := rfl
      have z3 : (z : Int).tdiv 256 = ((z / 256 : Nat) : Int) := rfl
      have z4 : (z : Int) / 256 = ((z / 256 : Nat) : Int) := rfl
      have z5 : z % 256 < 256 := Nat.mod_lt _ (by omega)
      obtain ⟨q, hq⟩ : ∃ q, q = z % 256 := ⟨_, rfl⟩
      obtain ⟨r, hr⟩ : ∃ r, r = z / 256 := ⟨_, rfl⟩
      have hrz : r ≤ z := by rw [hr]; exact Nat.div_le_self _ _
      rw [← hq] at z1 z2 z5
      rw [← hr] at z3 z4
      have HQ := Lib.hid hq; have HRR := Lib.hid hr; clear hq hr
      go_wp2_with (at_builtin; refine wpList_appB1 _ rfl (.tmp 12) (.tmp 16) rfl (HO.out.alloc _) rfl (storeN_len y k) rfl (cnew _ _ _ rfl) (UInt8.ofNat q) (by rw [byt_ofNat q z5]) (by omega) (by have := hbw.size; simp; omega) ?_; intro A3 c3 w3 hown3 hgrow hat; have hw3 := bapp (bal hbw _) (HO.out.alloc _) hgrow; have HO3 := Lib.hid hown3; clear hown3 hgrow hat)
      go_roundw
      case rel =>
        refine ⟨k + 1, r, A3, c3, by omega, by go_num, rfl, ?_, by omega, rfl, ?_, hw3⟩
        · rw [HRR.out, HZ.out, Nat.div_div_eq_div_mul, Nat.pow_succ]
        · rw [storeN_succ, ← HZ.out, ← HQ.out]; exact HO3.out
      case measure => simp [intOf]; omega
    · obtain rfl : k = n := by omega
      go_wp2
      exact bodyPost_ret (results_tmp rfl _ _ _) rfl ⟨A, c, rfl, HO.out, hbw⟩
end Go.Proofs.Ytnkngaicegcejaa

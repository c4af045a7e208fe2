/-
  One block laid over another, by the program and by the reference. Contracts alone; no statement is claimed here.
-/
import Derived.Test.YtnkngaicegcejaaKit
import Derived.Test.YtnkngaicegcejaaTab
import Derived.Outline
namespace Go.Proofs.Ytnkngaicegcejaa
open Go.RowKit
attribute [local go_sem] pureUpon Ords.of

def xorB (x y : List UInt8) : List UInt8 := List.zipWith (· ^^^ ·) x y
theorem xorB_len (x y : List UInt8) (h : y.length = x.length) : (xorB x y).length = x.length := by simp [xorB, h]
theorem xorB_at (x y : List UInt8) (k : Nat) (a b : UInt8) (ha : x[k]? = some a) (hb : y[k]? = some b) : (xorB x y)[k]? = some (a ^^^ b) := by
  unfold xorB
  rw [List.getElem?_zipWith, ha, hb]

/-- slice values by their lengths -/
structure Ln where
  A : Option Addr
  n : Nat
  c : Nat
def Ln.v (s : Ln) : Value := .slice s.A s.n s.c
set_option maxHeartbeats 1000000 in
theorem blocks_any (g m : Nat) (l : List Ln) (w : World) (hm : l.length = m) (hm8 : m ≤ 8) (hc : ∀ (i : Nat) (s : Ln), l[i]? = some s → w.cell? ⟨g, i, none⟩ = some s.v) :
    Calls Try.prog 63 #[.slice (some ⟨g, 0, none⟩) m m] w fun e w' => e = .returned (.bool (l.all fun s => s.n == 1024)) ∧ w = w' := by
  have HM := Lib.hid hm; have HC := Lib.hid hc; clear hm hc
  go_enter Try.func63, Try.ntmps63
  go_wp2
  go_loop [7] (fun i => ∃ k : Nat, k ≤ m ∧ i = .int .i64 k ∧ (l.take k).all (fun s => s.n == 1024) = true) (fun i => m - (intOf i).toNat)
  case atStart => exact ⟨0, by omega, rfl, rfl⟩
  case round =>
    obtain ⟨k, hk, rfl, hall⟩ := hrel
    have HA := Lib.hid hall; clear hall
    by_cases hlt : k < m
    · obtain ⟨s, hs⟩ : ∃ s, l[k]? = some s := ⟨_, List.getElem?_eq_getElem (by rw [HM.out]; exact hlt)⟩
      have gc := HC.out k s hs
      have HS := Lib.hid hs; clear hs
      have hn : l.take (k + 1) = l.take k ++ [s] := by rw [List.take_add_one, HS.out]; rfl
      have HNN := Lib.hid hn; clear hn
      obtain ⟨sA, sn, sc⟩ := s
      unfold Ln.v at gc
      dsimp only at gc
      by_cases h1 : sn = 1024
      · subst h1
        go_wp2
        go_round
        case rel => exact ⟨k + 1, by omega, by go_num, by rw [HNN.out, List.all_append, HA.out]; rfl⟩
        case measure => simp [intOf]; omega
      · have h2 : ¬ (sn : Int) = 1024 := by omega
        go_wp2
        refine bodyPost_ret (results_tmp rfl _ _ _) rfl ⟨?_, rfl⟩
        have : l.all (fun s => s.n == 1024) = false := by
          rw [List.all_eq_false]
          exact ⟨_, List.mem_of_getElem? HS.out, by simpa using h1⟩
        rw [this]; rfl
    · obtain rfl : k = m := by omega
      go_wp2
      refine bodyPost_ret (results_tmp rfl _ _ _) rfl ⟨?_, rfl⟩
      have h := HA.out
      rw [List.take_of_length_le (Nat.le_of_eq HM.out)] at h
      rw [h]; rfl

theorem blocks2 (a b : Ln) (w : World) : Calls Try.prog 63 #[.slice (some ⟨w.heap.size, 0, none⟩) 2 2] (w.alloc (.cells #[a.v, b.v] 22)) fun e w' => e = .returned (.bool (a.n == 1024 && b.n == 1024)) ∧ w.alloc (.cells #[a.v, b.v] 22) = w' := by
  refine (blocks_any w.heap.size 2 [a, b] _ rfl (by omega) (fun i s hs => ?_)).mono fun e w' ⟨he, hw⟩ => ⟨by rw [he]; simp, hw⟩
  have hb := Blk.new w 22 #[a.v, b.v]
  rw [hb.cell]
  match i, hs with
  | 0, hs => simp at hs; subst hs; rfl
  | 1, hs => simp at hs; subst hs; rfl
theorem blocks3 (a b c : Ln) (w : World) : Calls Try.prog 63 #[.slice (some ⟨w.heap.size, 0, none⟩) 3 3] (w.alloc (.cells #[a.v, b.v, c.v] 22)) fun e w' => e = .returned (.bool (a.n == 1024 && b.n == 1024 && c.n == 1024)) ∧ w.alloc (.cells #[a.v, b.v, c.v] 22) = w' := by
  refine (blocks_any w.heap.size 3 [a, b, c] _ rfl (by omega) (fun i s hs => ?_)).mono fun e w' ⟨he, hw⟩ => ⟨by rw [he]; simp [Bool.and_assoc], hw⟩
  have hb := Blk.new w 22 #[a.v, b.v, c.v]
  rw [hb.cell]
  match i, hs with
  | 0, hs => simp at hs; subst hs; rfl
  | 1, hs => simp at hs; subst hs; rfl
  | 2, hs => simp at hs; subst hs; rfl

set_option maxRecDepth 20000 in
set_option maxHeartbeats 1000000 in
theorem xorP_yes (A1 A2 : Option Addr) (c1 c2 : Nat) (x y : List UInt8) (w : World) (hx : x.length = 1024) (hy : y.length = 1024) (hr1 : RS cB w w.heap.size A1 x) (hr2 : RS cB w w.heap.size A2 y) :
    Calls Try.prog 33 #[.slice A1 1024 c1, .slice A2 1024 c2] w fun e w' => ∃ A c, e = .returned (.tuple #[.slice A 1024 c, .int .i64 0]) ∧ OS cB w' w.heap.size A c (xorB x y) ∧ Below w.heap.size w w' := by
  have HX := Lib.hid hx; have HY := Lib.hid hy; have HR1 := Lib.hid hr1; have HR2 := Lib.hid hr2; clear hx hy hr1 hr2
  have hmk : ∀ (W : World), (Instr.makeSlice 22 (.int .i64 1024) (.int .i64 1024)).run Try.prog W = .ok (.slice (some ⟨W.heap.size, 0, none⟩) 1024 1024) (W.alloc (.cells (madeCells #[cB.zero] 1024) 5)) := fun (W : World) => run_makeS cB_ok .i64 .i64 1024 1024 (Nat.le_refl _) (by show 1 * 1024 ≤ _; omega) (by omega) W
  go_enter Try.func33, Try.ntmps33
  go_wp2_with (go_at_call 63; refine (blocks2 ⟨A1, 1024, c1⟩ ⟨A2, 1024, c2⟩ w).mono ?_; rintro e w1 ⟨rfl, rfl⟩)
  obtain ⟨b, hb⟩ : ∃ b, b = w.heap.size + 1 := ⟨_, rfl⟩
  rw [← hb]
  have hwb : w.heap.size ≤ b := by omega
  have HB := Lib.hid hb; clear hb hmk
  go_loopw [16] (fun i wr => ∃ (k : Nat) (L : List UInt8), k ≤ 1024 ∧ i = .int .i64 k ∧ L = (xorB x y).take k ++ List.replicate (1024 - k) 0 ∧ OS cB wr w.heap.size (some ⟨b, 0, none⟩) 1024 L ∧ Below w.heap.size w wr) (fun i _ => 1024 - (intOf i).toNat)
  case atStart =>
    refine ⟨0, _, by omega, rfl, rfl, ?_, bal (bal (b0 _) _) _⟩
    exact OS.madeAt (cd := cB) _ 1024 1024 0 rfl (Nat.le_refl _) (by unfold maxLen; omega) (by simp) (by rw [HB.out]; simp)
  case round =>
    obtain ⟨k, L, hk, rfl, hL, hos, hbw⟩ := hrel
    have HO := Lib.hid hos; have HL := Lib.hid hL; clear hos hL
    by_cases hlt : k < 1024
    · obtain ⟨a1, p, rfl, -, ep, gp⟩ := (HR1.out.below hbw).at_ (k := k) (by rw [HX.out]; exact hlt)
      obtain ⟨a2, q, rfl, -, eq, gq⟩ := (HR2.out.below hbw).at_ (k := k) (by rw [HY.out]; exact hlt)
      have hl : L.length = 1024 := by rw [HL.out]; simp [xorB, HX.out, HY.out]; omega
      obtain ⟨g, z, e1, hbase, -, -, gc, gf⟩ := HO.out.at_ (k := k) (by rw [hl]; exact hlt)
      injection e1 with e1; injection e1 with e1; subst e1
      change wr.cell? (a1.add k) = some (.int .u8 (byt p)) at gp
      change wr.cell? (a2.add k) = some (.int .u8 (byt q)) at gq
      have EP := Lib.hid ep; have EQ := Lib.hid eq; have HLL := Lib.hid hl; clear ep eq hl
      have hxor := byt_xor p q
      go_wp2
      refine wp_region_ords (fun _ => True) (fun _ _ h => h) (Ords.of [(0, 0), (0, 1), (0, 2), (0, 3), (0, 4), (1, 5), (0, 6), (0, 7), (0, 8), (1, 9), (0, 10), (0, 11), (2, 12)] .fin) (by kernel_rfl) rfl (by kernel_rfl) (by kernel_rfl) (fun c a d v w h => by cases d <;> exact h) trivial ?_
      refine ords_pure rfl (fun K hK => ?_); go_simp; refine hK _ ?_; clear hK K
      refine ords_pure rfl (fun K hK => ?_); go_simp; refine hK _ ?_; clear hK K
      refine ords_pure rfl (fun K hK => ?_); go_simp; refine hK _ ?_; clear hK K
      refine ords_pure rfl (fun K hK => ?_); go_simp; refine hK _ ?_; clear hK K
      refine ords_pure rfl (fun K hK => ?_); go_simp; refine hK _ ?_; clear hK K
      refine ords_read rfl (fun K hK => ?_); go_simp; refine hK _ ?_; clear hK K
      refine ords_pure rfl (fun K hK => ?_); go_simp; refine hK _ ?_; clear hK K
      refine ords_pure rfl (fun K hK => ?_); go_simp; refine hK _ ?_; clear hK K
      refine ords_pure rfl (fun K hK => ?_); go_simp; refine hK _ ?_; clear hK K
      refine ords_read rfl (fun K hK => ?_); go_simp; refine hK _ ?_; clear hK K
      refine ords_pure rfl (fun K hK => ?_); go_simp; refine hK _ ?_; clear hK K
      refine ords_pure rfl (fun K hK => ?_); go_simp; refine hK _ ?_; clear hK K
      refine ords_loud rfl (fun n1 => ?_)
      go_wp2
      refine ⟨trivial, ?_⟩
      refine ords_end (fun n2 => ?_)
      go_wp2
      case roundEnd =>
        have h1 := ((HO.out.drewN n1).set k (p ^^^ q)).drewN n2
        rw [HL.out, fill_put (xorB x y) k 1024 0 _ hlt (xorB_at x y k p q EP.out EQ.out)] at h1
        exact ⟨⟨k + 1, _, by omega, by go_num, rfl, h1, bdr (bput (bdr hbw n1) hbase _) n2⟩, by simp [intOf]; omega⟩
    · obtain rfl : k = 1024 := by omega
      go_wp2
      have h1 := HO.out
      rw [HL.out, Nat.sub_self, List.replicate_zero, List.append_nil, List.take_of_length_le (by rw [xorB_len x y (HY.out.trans HX.out.symm), HX.out]; exact Nat.le_refl _)] at h1
      exact bodyPost_ret (results_tmp2 rfl _ _ _) rfl ⟨_, _, rfl, h1, hbw⟩

theorem xorP_no (A1 A2 : Option Addr) (n1 n2 c1 c2 : Nat) (h : (n1 == 1024 && n2 == 1024) = false) (w : World) :
    Calls Try.prog 33 #[.slice A1 n1 c1, .slice A2 n2 c2] w fun e w' => e = .returned (.tuple #[.slice none 0 0, .int .i64 1]) ∧ Below w.heap.size w w' := by
  have hb := blocks2 ⟨A1, n1, c1⟩ ⟨A2, n2, c2⟩
  unfold Ln.v at hb
  dsimp only at hb
  rw [h] at hb
  have HB := Lib.hid hb; clear hb h
  go_enter Try.func33, Try.ntmps33
  go_wp2_with (go_at_call 63; refine (HB.out w).mono ?_; rintro e w1 ⟨rfl, rfl⟩)
  exact bodyPost_ret (results_tmp2 rfl _ _ _) rfl ⟨rfl, bal (b0 _) _⟩

set_option maxRecDepth 20000 in
set_option maxHeartbeats 1000000 in
theorem xorR_yes (A1 A2 : Option Addr) (c1 c2 : Nat) (x y : List UInt8) (w : World) (hx : x.length = 1024) (hy : y.length = 1024) (hr1 : RS cB w w.heap.size A1 x) (hr2 : RS cB w w.heap.size A2 y) :
    Calls Try.prog 34 #[.slice A1 1024 c1, .slice A2 1024 c2] w fun e w' => ∃ A c, e = .returned (.tuple #[.slice A 1024 c, .int .i64 0]) ∧ OS cB w' w.heap.size A c (xorB x y) ∧ Below w.heap.size w w' := by
  have HX := Lib.hid hx; have HY := Lib.hid hy; have HR1 := Lib.hid hr1; have HR2 := Lib.hid hr2; clear hx hy hr1 hr2
  have hz : (xorB x y).length = 1024 := by rw [xorB_len x y (HY.out.trans HX.out.symm), HX.out]
  have HZ := Lib.hid hz; clear hz
  go_enter Try.func34, Try.ntmps34
  go_wp2
  go_loopw [6, 7] (fun o i wr => ∃ (k : Nat) (A : Option Addr) (c : Nat), k ≤ 1024 ∧ i = .int .i64 k ∧ o = .slice A k c ∧ OS cB wr w.heap.size A c ((xorB x y).take k) ∧ Below w.heap.size w wr) (fun _ i _ => 1024 - (intOf i).toNat)
  case atStart => exact ⟨0, none, 0, by omega, rfl, rfl, OS.nil _ _ _ rfl, b0 _⟩
  case round =>
    obtain ⟨k, A, c, hk, rfl, rfl, hos, hbw⟩ := hrel
    have HO := Lib.hid hos; clear hos
    by_cases hlt : k < 1024
    · obtain ⟨a1, p, rfl, -, ep, gp⟩ := (HR1.out.below hbw).at_ (k := k) (by rw [HX.out]; exact hlt)
      obtain ⟨a2, q, rfl, -, eq, gq⟩ := (HR2.out.below hbw).at_ (k := k) (by rw [HY.out]; exact hlt)
      change wr.cell? (a1.add k) = some (.int .u8 (byt p)) at gp
      change wr.cell? (a2.add k) = some (.int .u8 (byt q)) at gq
      have EP := Lib.hid ep; have EQ := Lib.hid eq; clear ep eq
      have hxor := byt_xor p q
      have hl : Hid (((xorB x y).take k).length = k) := by show _ = _; simp; have := HZ.out; omega
      go_wp2
      refine wp_region_ords (fun _ => True) (fun _ _ h => h) (Ords.of [(0, 0), (0, 1), (0, 2), (0, 3), (1, 4), (0, 5), (0, 6), (0, 7), (1, 8), (0, 9), (2, 10), (2, 11), (0, 12)] .fin) (by kernel_rfl) rfl (by kernel_rfl) (by kernel_rfl) (fun c a d v w h => by cases d <;> exact h) trivial ?_
      refine ords_pure rfl (fun K hK => ?_); go_simp; refine hK _ ?_; clear hK K
      refine ords_pure rfl (fun K hK => ?_); go_simp; refine hK _ ?_; clear hK K
      refine ords_pure rfl (fun K hK => ?_); go_simp; refine hK _ ?_; clear hK K
      refine ords_pure rfl (fun K hK => ?_); go_simp; refine hK _ ?_; clear hK K
      refine ords_read rfl (fun K hK => ?_); go_simp; refine hK _ ?_; clear hK K
      refine ords_pure rfl (fun K hK => ?_); go_simp; refine hK _ ?_; clear hK K
      refine ords_pure rfl (fun K hK => ?_); go_simp; refine hK _ ?_; clear hK K
      refine ords_pure rfl (fun K hK => ?_); go_simp; refine hK _ ?_; clear hK K
      refine ords_read rfl (fun K hK => ?_); go_simp; refine hK _ ?_; clear hK K
      refine ords_pure rfl (fun K hK => ?_); go_simp; refine hK _ ?_; clear hK K
      refine ords_loud rfl (fun n1 => ?_)
      go_wp2
      refine ⟨trivial, ?_⟩
      refine ords_loud rfl (fun n2 => ?_)
      refine wpList_appB1 _ rfl (.tmp 20) (.tmp 30) rfl (((HO.out.drewN n1).alloc _).drewN n2) rfl hl.out rfl (cnew _ _ _ rfl) (p ^^^ q) rfl (by omega) (by have := hbw.size; simp; omega) ?_; intro A3 c3 w3 hown3 hgrow hat; have hw3 := bapp (bal (bdr hbw n1) _) ((HO.out.drewN n1).alloc _) (grown_undrewN hgrow); have HO3 := Lib.hid hown3; clear hown3 hgrow hat; go_wp2
      refine ⟨trivial, ?_⟩
      refine ords_pure rfl (fun K hK => ?_); go_simp; refine hK _ ?_; clear hK K
      refine ords_end (fun n3 => ?_)
      go_wp2
      case roundEnd =>
        refine ⟨⟨k + 1, A3, c3, by omega, by go_num, rfl, ?_, bdr hw3 _⟩, by simp [intOf]; omega⟩
        rw [List.take_add_one, xorB_at x y k p q EP.out EQ.out]
        exact HO3.out.drewN _
    · obtain rfl : k = 1024 := by omega
      go_wp2
      have h1 := HO.out
      rw [List.take_of_length_le (Nat.le_of_eq HZ.out)] at h1
      exact bodyPost_ret (results_tmp2 rfl _ _ _) rfl ⟨_, _, rfl, h1, hbw⟩

theorem xorR_no (A1 A2 : Option Addr) (n1 n2 c1 c2 : Nat) (h : (n1 == 1024 && n2 == 1024) = false) (w : World) :
    Calls Try.prog 34 #[.slice A1 n1 c1, .slice A2 n2 c2] w fun e w' => e = .returned (.tuple #[.slice none 0 0, .int .i64 1]) ∧ Below w.heap.size w w' := by
  by_cases h1 : n1 = 1024
  · have h2 : ¬ (n2 : Int) = 1024 := by simp [h1] at h; omega
    subst h1
    clear h
    go_enter Try.func34, Try.ntmps34
    go_wp2
    exact bodyPost_ret (results_tmp2 rfl _ _ _) rfl ⟨rfl, b0 _⟩
  · have h2 : ¬ (n1 : Int) = 1024 := by omega
    clear h h1
    go_enter Try.func34, Try.ntmps34
    go_wp2
    exact bodyPost_ret (results_tmp2 rfl _ _ _) rfl ⟨rfl, b0 _⟩
end Go.Proofs.Ytnkngaicegcejaa

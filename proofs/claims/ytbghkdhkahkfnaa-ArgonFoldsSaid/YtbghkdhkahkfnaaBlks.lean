/-
  Are they blocks? Mix that is refused. Contracts alone; no statement is claimed here.
-/
import Derived.Test.YtbghkdhkahkfnaaCoreA
import Derived.Outline
namespace Go.Proofs.Ytbghkdhkahkfnaa
open Go.RowKit
attribute [local go_sem] pureUpon Ords.of

structure Ln where
  A : Option Addr
  n : Nat
  c : Nat
def Ln.v (s : Ln) : Value := .slice s.A s.n s.c
set_option maxHeartbeats 1000000 in
theorem blocks_any (g m : Nat) (l : List Ln) (w : World) (hm : l.length = m) (hm8 : m ≤ 8) (hc : ∀ (i : Nat) (s : Ln), l[i]? = some s → w.cell? ⟨g, i, none⟩ = some s.v) :
  Calls Try.prog 23 #[.slice (some ⟨g, 0, none⟩) m m] w fun e w' => e = .returned (.bool (l.all fun s => s.n == 1024)) ∧ w = w' := by
 have HM := Lib.hid hm; have HC := Lib.hid hc; clear hm hc
 go_enter Try.func23, Try.ntmps23
 go_wp2
 go_loop [7] (fun i => ∃ k : Nat, k ≤ m ∧ i = .int .i64 k ∧ (l.take k).all (fun s => s.n == 1024) = true) (fun i => m - (intOf i).toNat)
 case atStart => exact ⟨0, by omega, rfl, rfl⟩
 case round =>
  obtain ⟨k, hk, rfl, hall⟩ := hrel
  have HA := Lib.hid hall; clear hall
  by_cases hlt : k < m
  ·obtain ⟨s, hs⟩ : ∃ s, l[k]? = some s := ⟨_, List.getElem?_eq_getElem (by rw [HM.out]; exact hlt)⟩
   have gc := HC.out k s hs
   have HS := Lib.hid hs; clear hs
   have hn : l.take (k + 1) = l.take k ++ [s] := by rw [List.take_add_one, HS.out]; rfl
   have HNN := Lib.hid hn; clear hn
   obtain ⟨sA, sn, sc⟩ := s
   unfold Ln.v at gc
   dsimp only at gc
   by_cases h1 : sn = 1024
   ·subst h1
    go_wp2
    go_round
    case rel => exact ⟨k + 1, by omega, by go_num, by rw [HNN.out, List.all_append, HA.out]; rfl⟩
    case measure => simp [intOf]; omega
   ·have h2 : ¬ (sn : Int) = 1024 := by omega
    go_wp2
    refine bodyPost_ret (results_tmp rfl _ _ _) rfl ⟨?_, rfl⟩
    have : l.all (fun s => s.n == 1024) = false := by
     rw [List.all_eq_false]
     exact ⟨_, List.mem_of_getElem? HS.out, by simpa using h1⟩
    rw [this]; rfl
  ·obtain rfl : k = m := by omega
   go_wp2
   refine bodyPost_ret (results_tmp rfl _ _ _) rfl ⟨?_, rfl⟩
   have h := HA.out
   rw [List.take_of_length_le (Nat.le_of_eq HM.out)] at h
   rw [h]; rfl

theorem blocks2 (a b : Ln) (w : World) : Calls Try.prog 23 #[.slice (some ⟨w.heap.size, 0, none⟩) 2 2] (w.alloc (.cells #[a.v, b.v] 24)) fun e w' => e = .returned (.bool (a.n == 1024 && b.n == 1024)) ∧ w.alloc (.cells #[a.v, b.v] 24) = w' := by
 refine (blocks_any w.heap.size 2 [a, b] _ rfl (by omega) (fun i s hs => ?_)).mono fun e w' ⟨he, hw⟩ => ⟨by rw [he]; simp, hw⟩
 have hb := Blk.new w 24 #[a.v, b.v]
 rw [hb.cell]
 match i, hs with
 | 0, hs => simp at hs; subst hs; rfl
 | 1, hs => simp at hs; subst hs; rfl
end Go.Proofs.Ytbghkdhkahkfnaa

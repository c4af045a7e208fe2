/-
  LaneJoins, the law, and how its argument is opened. Contracts alone; no statement is claimed here.
-/
import Derived.Test.YtnkngaicegcejaaJoinR
import Derived.Test.YtnkngaicegcejaaLaw8a
import Derived.Test.YtnkngaicegcejaaFrame
import Derived.Test.YtnkngaicegcejaaBulk
import Derived.Deep.Matrix
namespace Go.Proofs.Ytnkngaicegcejaa
open Go.ChangeShapes Go.WideShapes Go.ChangeAt Go.RowKit

def ub (z : Int) : UInt8 := UInt8.ofNat z.toNat
theorem byt_ub {z : Int} (h : (Lit.int .u8 z).wf = true) : byt (ub z) = z := by
  have : 0 ≤ z ∧ z ≤ 255 := by simpa [Lit.wf, IntKind.min, IntKind.max, IntKind.signed, IntKind.bits] using h
  unfold byt ub
  rw [UInt8.toNat_ofNat', Nat.mod_eq_of_lt (by omega)]
  omega

set_option maxRecDepth 100000 in
theorem open_lanes {H : Type} {enc : TypeId × Value → H} {W : World} {base : Nat} {v : Value} {d : DataW H} {p : List MemPlace}
    (hv : Value.okWide Try.prog W .any base 24 v) (h : DataW.Trod enc Try.prog W 0 (fun _ => true) true 24 v d p) (hlt : ∀ x ∈ p, x.block < W.heap.size) :
    ∃ (A : Option Addr) (c n : Nat) (l : List SV), v = .slice A n c ∧ l.length = n ∧ n ≤ c ∧ In2 W W.heap.size A l ∧ total (lls l) ≤ Rows.uptoBulk d := by
  obtain ⟨a0, len, cap, rfl⟩ := okWide_slice Try.underlying24 hv
  obtain ⟨fuel, hf⟩ := h
  rcases Go.Deep.open_int_rows Try.underlying24 Try.underlying22 Try.underlying5 (by kernel_rfl) (by kernel_rfl) hf with ⟨hcs, _⟩ | ⟨a, len', cap', A, L, C, Z, hcs, _, hl, hm, hx, hall⟩
  · simp [Value.cells] at hcs
    obtain ⟨rfl, rfl, rfl⟩ := hcs
    exact ⟨none, 0, 0, [], rfl, rfl, Nat.le_refl _, ⟨RS.nil _, fun i s hs => by simp at hs⟩, by simp [lls, total]⟩
  · simp [Value.cells] at hcs
    obtain ⟨rfl, rfl, rfl⟩ := hcs
    simp only [Prod.mk.injEq] at hx
    obtain ⟨hd, hp⟩ := hx
    have hlen : ∀ r, r < cap → (((Z r).take (L r)).map ub).length = L r := fun r hr => by
      obtain ⟨_, h1, _, h3, _⟩ := hall r hr
      simp; omega
    refine ⟨some a, cap, len, (List.range len).map fun r => ⟨A r, C r, ((Z r).take (L r)).map ub⟩, rfl, by simp, hl, ⟨⟨by simp, fun hn => ⟨a, rfl, ?_, ?_⟩⟩, ?_⟩, ?_⟩
    · have hz0 : 0 < cap := by simp at hn; omega
      refine hlt (.cell a.block a.off) ?_
      rw [hp]
      exact List.mem_append_left _ (MemPlace.mem_row.2 ⟨0, hz0, by simp⟩)
    · intro j u hu
      rw [List.getElem?_map, List.getElem?_map] at hu
      rcases Nat.lt_or_ge j len with hj | hj
      · rw [List.getElem?_range hj] at hu
        simp only [Option.map_some, Option.some.injEq] at hu
        subst hu
        rw [(hall j (by omega)).1]
        show _ = some (Value.slice (A j) (((Z j).take (L j)).map ub).length (C j))
        rw [hlen j (by omega)]
      · rw [List.getElem?_eq_none (by simpa using hj)] at hu
        simp at hu
    · intro i s hs
      rcases Nat.lt_or_ge i len with hj | hj
      · rw [List.getElem?_map, List.getElem?_range hj] at hs
        simp only [Option.map_some, Option.some.injEq] at hs
        subst hs
        obtain ⟨_, h1, h2, h3, h4, h5, h6⟩ := hall i (by omega)
        dsimp only
        refine ⟨⟨by simp, fun hn => ?_⟩, by rw [hlen i (by omega)]; exact h1, h2⟩
        rw [hlen i (by omega)] at hn
        cases hA : A i with
        | none => have := h5 hA; omega
        | some a' =>
          obtain ⟨_, h7⟩ := h6 a' hA
          refine ⟨a', rfl, ?_, ?_⟩
          · refine hlt (.cell a'.block a'.off) ?_
            rw [hp]
            refine List.mem_append_right _ (List.mem_flatMap.2 ⟨i, List.mem_range.2 (by omega), ?_⟩)
            rw [hA]
            show _ ∈ MemPlace.row a' (Z i).length
            exact MemPlace.mem_row.2 ⟨0, by omega, by simp⟩
          · intro j u hu
            rw [List.getElem?_map, List.getElem?_map, List.getElem?_take] at hu
            split at hu
            · rename_i hjL
              have hjz : j < (Z i).length := by omega
              rw [List.getElem?_eq_getElem hjz] at hu
              simp only [Option.map_some, Option.some.injEq] at hu
              subst hu
              rw [h7 j (by omega), List.getD_eq_getElem?_getD, List.getElem?_eq_getElem hjz]
              show _ = some (Value.int .u8 (byt (ub (Z i)[j])))
              rw [byt_ub (h4 _ (List.getElem_mem hjz))]
              rfl
            · simp at hu
      · rw [List.getElem?_eq_none (by simpa using hj)] at hs
        cases hs
    · rw [hd]
      simp only [Rows.uptoBulk]
      have key : ∀ (m : Nat), m ≤ len → total (lls ((List.range m).map fun r => (⟨A r, C r, ((Z r).take (L r)).map ub⟩ : SV))) ≤ Rows.uptoBulkAll ((List.range m).map fun r => Go.Deep.intRow (H := H) .u8 (A r) (L r) (Z r)) := by
        intro m
        induction m with
        | zero => intro _; simp [lls, total]
        | succ m ih =>
          intro hm
          have ih := ih (by omega)
          rw [List.range_succ, List.map_append, List.map_append, bulks.append]
          simp only [lls, total, List.map_append, List.sum_append, List.map_cons, List.map_nil, Rows.uptoBulkAll] at ih ⊢
          obtain ⟨_, h1, h2, h3, h4, h5, h6⟩ := hall m (by omega)
          have hL := hlen m (by omega)
          have hb : L m ≤ Rows.uptoBulk (Go.Deep.intRow (H := H) .u8 (A m) (L m) (Z m)) := by
            unfold Go.Deep.intRow
            cases hA : A m with
            | none => have := h5 hA; omega
            | some a' =>
              dsimp only
              have := bulks.slice_le (H := H) (lits .u8 ((Z m).take (L m))) (lits .u8 ((Z m).drop (L m)))
              have e1 : (lits (H := H) .u8 ((Z m).take (L m))).length = L m := by simp [lits]; omega
              omega
          simp only [hL, List.sum_cons, List.sum_nil]
          omega
      have := key len (Nat.le_refl _)
      omega

theorem joinP_none (k : Int) (h1 : k ≠ 1) (h2 : k ≠ 2) (A : Option Addr) (c N : Nat) (w : World) :
    Calls Try.prog 25 #[.int .i64 k, .slice A N c] w fun e w' => e = .returned (.tuple #[.slice none 0 0, .int .i64 1]) ∧ Below w.heap.size w w' := by
  go_enter Try.func25, Try.ntmps25
  go_wp2_with (go_at_call 46; refine (of_none k h1 h2 _).mono ?_; rintro e w1 ⟨rfl, hbw⟩)
  exact bodyPost_ret (results_tmp2 rfl _ _ _) rfl ⟨rfl, bal hbw _⟩
theorem joinR_none (k : Int) (h1 : k ≠ 1) (h2 : k ≠ 2) (A : Option Addr) (c N : Nat) (w : World) :
    Calls Try.prog 26 #[.int .i64 k, .slice A N c] w fun e w' => e = .returned (.tuple #[.slice none 0 0, .int .i64 1]) ∧ Below w.heap.size w w' := by
  go_enter Try.func26, Try.ntmps26
  go_wp2_with (go_at_call 44; refine (count_none k h1 h2 _).mono ?_; rintro e w1 ⟨rfl, rfl⟩)
  exact bodyPost_ret (results_tmp2 rfl _ _ _) rfl ⟨rfl, b0 _⟩

/-- both joins, for every kind -/
def joinsE (k : Int) (l : List SV) : Int := if k = 1 then joinE 4 128 (lls l) else if k = 2 then joinE 8 64 (lls l) else 1
def joinsL (k : Int) (l : List SV) : List UInt8 := if k = 1 then joinL 4 128 (lls l) else if k = 2 then joinL 8 64 (lls l) else []
theorem joinsP (k : Int) (A : Option Addr) (c N : Nat) (l : List SV) (w : World) (hN : l.length = N) (hc : N ≤ c) (hr : In2 w w.heap.size A l) (ht : total (lls l) ≤ 1048576) :
    Calls Try.prog 25 #[.int .i64 k, .slice A N c] w fun e w' => ∃ A1 c1 m, e = .returned (.tuple #[.slice A1 m c1, .int .i64 (joinsE k l)]) ∧ m = (joinsL k l).length ∧ OS cB w' w.heap.size A1 c1 (joinsL k l) ∧ Below w.heap.size w w' := by
  unfold joinsE joinsL
  by_cases h1 : k = 1
  · subst h1; simp only [if_true]; exact joinP_any 1 4 128 64 (.inl ⟨rfl, rfl⟩) (Lib.hid of_big) A c N l w hN hc hr ht
  · by_cases h2 : k = 2
    · subst h2; simp only [if_neg h1, if_true]; exact joinP_any 2 8 64 32 (.inr ⟨rfl, rfl⟩) (Lib.hid of_small) A c N l w hN hc hr ht
    · simp only [if_neg h1, if_neg h2]
      exact (joinP_none k h1 h2 A c N w).mono fun e w' ⟨he, hb⟩ => ⟨none, 0, 0, he, rfl, OS.nil _ _ _ rfl, hb⟩
theorem joinsR (k : Int) (A : Option Addr) (c N : Nat) (l : List SV) (w : World) (hN : l.length = N) (hc : N ≤ c) (hr : In2 w w.heap.size A l) (ht : total (lls l) ≤ 1048576) :
    Calls Try.prog 26 #[.int .i64 k, .slice A N c] w fun e w' => ∃ A1 c1 m, e = .returned (.tuple #[.slice A1 m c1, .int .i64 (joinsE k l)]) ∧ m = (joinsL k l).length ∧ OS cB w' w.heap.size A1 c1 (joinsL k l) ∧ Below w.heap.size w w' := by
  unfold joinsE joinsL
  by_cases h1 : k = 1
  · subst h1; simp only [if_true]; exact joinR_any 1 4 128 (.inl ⟨rfl, rfl⟩) (Lib.hid count_big) (Lib.hid block_big) A c N l w hN hc hr ht
  · by_cases h2 : k = 2
    · subst h2; simp only [if_neg h1, if_true]; exact joinR_any 2 8 64 (.inr ⟨rfl, rfl⟩) (Lib.hid count_small) (Lib.hid block_small) A c N l w hN hc hr ht
    · simp only [if_neg h1, if_neg h2]
      exact (joinR_none k h1 h2 A c N w).mono fun e w' ⟨he, hb⟩ => ⟨none, 0, 0, he, rfl, OS.nil _ _ _ rfl, hb⟩
theorem joinsL_le (k : Int) (l : List SV) : (joinsL k l).length ≤ total (lls l) := by
  unfold joinsL joinL
  repeat' split
  all_goals simp [joinTo]

set_option maxHeartbeats 2000000 in
theorem joins_law (k : Int) (A : Option Addr) (c N : Nat) (l : List SV) (w : World) (hN : l.length = N) (hc : N ≤ c) (hr : In2 w w.heap.size A l) (ht : total (lls l) ≤ 1048576) :
    Calls Try.prog 5 #[.int .i64 k, .slice A N c] w fun e w' => e = .returned (.bool true) ∧ Below w.heap.size w w' := by
  have hJ := joinsL_le k l
  have hP := joinsP k A c N l w hN hc hr ht
  have hR := fun W (hb : Below w.heap.size w W) => joinsR k A c N l W hN hc ((hr.below hb).more hb.size) ht
  generalize joinsE k l = E at *
  generalize joinsL k l = J at *
  have HP := Lib.hid hP; have HR := Lib.hid hR; have HJ := Lib.hid hJ; have HT := Lib.hid ht; clear hP hR hJ hr ht hN
  go_enter Try.func5, Try.ntmps5
  go_wp2_with (first
    | (go_at_call 25; refine HP.out.mono ?_; rintro e w1 ⟨A1, c1, m1, rfl, hm1, ho1, hb1⟩; have HO1 := Lib.hid ho1; have HM1 := Lib.hid hm1; clear ho1 hm1)
    | (go_at_call 26; refine (HR.out _ hb1).mono ?_; rintro e w2 ⟨A2, c2, m2, rfl, hm2, ho2, hb2⟩; have HO2 := Lib.hid ho2; have HM2 := Lib.hid hm2; clear ho2 hm2)
    | (go_at_call 17; refine (same_any A1 A2 c1 c2 J J w2.heap.size w2.heap.size m1 m2 w2 HM1.out.symm HM2.out.symm (by have := HJ.out; have := HT.out; have := HM1.out; omega) (((HO1.out.below hb2 (Nat.le_refl _)).reads)) (HO2.out.reads)).mono ?_; rintro e w3 ⟨rfl, n3, rfl⟩))
  refine bodyPost_ret (results_tmp rfl _ _ _) rfl ⟨?_, bdr (bcall hb1 hb2) _⟩
  exact ret_true (by simp)
end Go.Proofs.Ytnkngaicegcejaa

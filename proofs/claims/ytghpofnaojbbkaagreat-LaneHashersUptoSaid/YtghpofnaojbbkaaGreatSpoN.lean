/-
  Layer 8's statements: bytes without room are spoiled. Contracts alone; no statement is claimed here.
-/
import Derived.Test.YtghpofnaojbbkaaGreatLaw8a
import Derived.ArgAppend
namespace Go.Proofs.YtghpofnaojbbkaaGreat
open Go.RowKit

set_option maxRecDepth 100000 in
theorem wpList_appN {w : World} {ops : Array Oper} {rest : List Oper} {o : Oper} {a : Act} {Q : Exit → Act → World → Prop} (hgd : o.guard = none) (s x : Operand)
  (ho : o.op = .call { callee := .builtin .append, args := #[s, x], argTypes := #[22, 22] })
  {base c n g : Nat} {l : List UInt8} (hown : OS cB w base (some ⟨g, 0, none⟩) c l) (hs : a.eval s = .slice (some ⟨g, 0, none⟩) n n) (hn : l.length = n) {gx : Nat} {X : Int} (hx : a.eval x = .slice (some ⟨gx, 0, none⟩) 1 1) (hcell : w.cell? ⟨gx, 0, none⟩ = some (.int .u8 X)) (y : UInt8) (hX : X = byt y)
  (hlen : n + 1 ≤ 140737488355328)
  (h : ∀ A1 c1 w1, OS cB w1 w.heap.size A1 c1 (l ++ [y]) → w.grownBy w1 none → wpList Tryz.prog ops Q rest (a.put o.dst (.slice A1 (n + 1) c1)) w1) : wpList Tryz.prog ops Q (o :: rest) a w := by
 subst hX
 subst hn
 obtain ⟨i, hi, hz, hz1, hz2⟩ := info_parts cB_ok.info
 refine wpList_append_grows w hgd s x _ ho cB.e i cB.zero 1 cB.bytes cB_ok.under hi hz hz1 hz2 rfl (by decide) (some ⟨g, 0, none⟩) l.length l.length (l.map cB.enc) hs (fun h => by cases h) (by simp) ?_ ⟨gx, 0, none⟩ 1 1 [cB.enc y] hx rfl ?_ ?_ (by omega) (by simp only [maxLen]; omega) (by show (l.length + 1) * 1 ≤ _; omega) ?_
 ·intro b hb j u hu
  injection hb with hb
  subst hb
  obtain ⟨ad, e, -, hc⟩ := hown.reads.2 (by have h := (List.getElem?_eq_some_iff.1 hu).1; rw [List.length_map] at h; exact Nat.lt_of_le_of_lt (Nat.zero_le _) h)
  injection e with e
  subst e
  exact hc j u hu
 ·intro j u hu
  cases j with
  | zero => simp at hu; subst hu; exact hcell
  | succ j => simp at hu
 ·intro u hu
  simp at hu
  subst hu
  rfl
 ·intro v' w' h1 h2
  have hv : ∃ A1 c1, v' = .slice A1 (l.length + 1) c1 := by
   rcases h1.2 with ⟨rfl, h0⟩ | ⟨g, cap, cur, rfl, _⟩
   ·omega
   ·exact ⟨_, _, rfl⟩
  obtain ⟨A1, c1, rfl⟩ := hv
  refine h A1 c1 w' ?_ h2
  unfold OS
  rw [List.length_append, List.map_append]
  exact h1
set_option maxHeartbeats 1000000 in
theorem spoilN_any (g c n base : Nat) (l : List UInt8) (w : World) (hn : l.length = n) (hm : n ≤ 140737488355000) (hown : OS cB w base (some ⟨g, 0, none⟩) c l) :
  Calls Tryz.prog 7 #[.slice (some ⟨g, 0, none⟩) n n] w fun e w' => e = .returned (.tuple #[]) ∧ w.grownBy w' (some g) := by
 have HN := Lib.hid hn; clear hn
 go_enter Tryz.func7, Tryz.ntmps7
 go_wp2
 go_loopw [2] (fun i wr => ∃ (k : Nat) (L : List UInt8), k ≤ n ∧ i = .int .i64 k ∧ L.length = n ∧ OS cB wr base (some ⟨g, 0, none⟩) c L ∧ w.grownBy wr (some g)) (fun i _ => n - (intOf i).toNat)
 case atStart => exact ⟨0, l, by omega, rfl, HN.out, hown, World.grownBy.refl _ _⟩
 case round =>
  obtain ⟨k, L, hk, rfl, hL, hown2, hg⟩ := hrel
  have HL := Lib.hid hL; clear hL hown
  by_cases hlt : k < n
  ·obtain ⟨g', x, hA, -, hgl, ex, gc, gf⟩ := hown2.at_ (k := k) (by rw [HL.out]; exact hlt)
   injection hA with hA; injection hA with hA
   subst hA
   have EX := Lib.hid ex; clear ex
   change wr.cell? ⟨g, k, none⟩ = some (.int .u8 (byt x)) at gc
   have rx := byt_range x
   go_wp2
   go_roundw
   case rel =>
    have h90 := byt_xor x 90
    have := hown2.set k (x ^^^ 90)
    refine ⟨k + 1, L.set k (x ^^^ 90), by omega, by go_num, by rw [List.length_set]; exact HL.out, ?_, grown_set (p := ⟨g, k, none⟩) hg (.inl rfl) _⟩
    rw [show (Value.int IntKind.u8 (bits BinOp.xor IntKind.u8 (byt x) 90)) = cB.enc (x ^^^ 90) from congrArg (Value.int IntKind.u8) h90]
    exact this
   case measure => simp [intOf]; omega
  ·have e : k = n := by omega
   have E := Lib.hid e; clear e
   go_wp2
   go_loopw [0, 3] (fun v i wr => ∃ (k : Nat) (A' : Option Addr) (c' : Nat) (L : List UInt8), k ≤ 70 ∧ i = .int .i64 k ∧ L.length = n + k ∧ ((k = 0 ∧ v = .slice (some ⟨g, 0, none⟩) n n ∧ OS cB wr base (some ⟨g, 0, none⟩) c L) ∨ (v = .slice A' (n + k) c' ∧ OS cB wr w.heap.size A' c' L)) ∧ w.grownBy wr (some g)) (fun _ i _ => 70 - (intOf i).toNat)
   case atStart => exact ⟨0, none, 0, L, by omega, rfl, HL.out, .inl ⟨rfl, rfl, hown2⟩, hg⟩
   case round =>
    clear hown2 hg HL
    obtain ⟨k, A2, c2, L, hk, rfl, hL, hor, hg⟩ := hrel
    have HL := Lib.hid hL; clear hL
    by_cases hlt : k < 70
    ·have hy : (17 : Int) + k = byt (UInt8.ofNat (17 + k)) := by
      unfold byt
      rw [UInt8.toNat_ofNat', Nat.mod_eq_of_lt (by omega)]
      omega
     obtain ⟨y, hyy⟩ : ∃ y, y = UInt8.ofNat (17 + k) := ⟨_, rfl⟩
     rw [← hyy] at hy
     have HY := Lib.hid hy; clear hy hyy
     rcases hor with ⟨h0, rfl, hown2⟩ | ⟨rfl, hown2⟩
     ·have HK0 := Lib.hid h0
      have HL0 : Hid (L.length = n) := Lib.hid (by rw [HL.out, h0]; rfl)
      clear h0
      go_wp2_with (at_builtin; refine wpList_appN rfl (.tmp 22) (.tmp 26) rfl (hown2.alloc _) rfl HL0.out rfl (by rw [World.cell?_alloc_at _ _ _ _ rfl]; rfl) y HY.out (by omega) ?_; intro A3 c3 w3 hown3 hgrow)
      have hg3 : w.grownBy w3 (some g) := ⟨hgrow.os.trans (only_alloc hg _).os, hgrow.tape.trans (only_alloc hg _).tape, hgrow.output.trans (only_alloc hg _).output, Nat.le_trans (only_alloc hg _).size hgrow.size, fun b hb hne => (hgrow.block b (Nat.lt_of_lt_of_le hb (only_alloc hg _).size) (by simp)).trans ((only_alloc hg _).block b hb hne)⟩
      have hm3 := hown3.mono (B := w.heap.size) (by have := hg.size; simp; omega)
      go_roundw
      case rel => exact ⟨k + 1, A3, c3, L ++ [y], by omega, by go_num, by rw [List.length_append, HL.out]; rfl, .inr ⟨by rw [HK0.out], hm3⟩, hg3⟩
      case measure => simp [intOf]; omega
     ·go_wp2_with (at_builtin; refine wpList_appB1 _ rfl (.tmp 22) (.tmp 26) rfl (hown2.alloc _) rfl HL.out rfl (by rw [World.cell?_alloc_at _ _ _ _ rfl]; rfl) y HY.out (by omega) (by have := hg.size; simp; omega) ?_; intro A3 c3 w3 hown3 hgrow hat)
      have hg3 := grown_app (only_alloc hg _) (hown2.alloc _) (fun ad h => .inr (hown2.block_lt ad h).1) hgrow
      go_roundw
      case rel => exact ⟨k + 1, A3, c3, L ++ [y], by omega, by go_num, by rw [List.length_append, HL.out]; rfl, .inr ⟨rfl, hown3⟩, hg3⟩
      case measure => simp [intOf]; omega
    ·rcases hor with ⟨h0, rfl, hown2⟩ | ⟨rfl, hown2⟩
     ·omega
     ·go_wp2
      go_end0
      exact ⟨rfl, hg⟩
end Go.Proofs.YtghpofnaojbbkaaGreat

/-
  Argon's Fill by the program, whatever it is asked. Contracts alone; no statement is claimed here.
-/
import Derived.Test.YtbghkdhkahkfnaaAFilM
namespace Go.Proofs.Ytbghkdhkahkfnaa
open Go.RowKit
attribute [local go_sem] pureUpon Ords.of

theorem OutsA.at_ {w : World} {H : Nat} {T : Nat → List UInt8} {m : Nat} {A : Option Addr} {c : Nat} {l : List SV} (h : OutsA w H T m A c l) {i : Nat} (hi : i < m) : ∃ g B k, A = some ⟨g, 0, none⟩ ∧ g < w.heap.size ∧ w.cell? ⟨g, i, none⟩ = some (.slice B (T i).length k) ∧ RS cB w w.heap.size B (T i) := by
 obtain ⟨g, s, rfl, -, h1, h2, h3, -⟩ := h.row.at_ (k := i) (by rw [h.len]; exact hi)
 obtain ⟨e, c', h4⟩ := h.own i s h2
 refine ⟨g, s.A, s.c, rfl, h1, ?_, ?_⟩
 ·rw [h3, ← e]; rfl
 ·rw [← e]; exact h4.reads
theorem fillPno_any (a : Ar) (h : ¬ a.ok) (As : Option Addr) (ns cs : Nat) (w : World) :
  Calls Try.prog 7 #[a.v, .slice As ns cs] w fun r w' => r = .returned (.tuple #[.slice none 0 0, .int .i64 200]) ∧ Below w.heap.size w w' := by
 have hma := fun W => may_any a W
 rw [decide_eq_false h] at hma
 have HMA := Lib.hid hma
 have hau := Lib.hid Try.underlying23
 have HBX := Lib.hid (Blk.new w 23 (argC a))
 have HBA := Lib.hid (bal (b0 w) (.cells (argC a) 23))
 clear hma h
 go_enter Try.func7, Try.ntmps7
 go_wp2_with first
  | (refine wpList_load_row rfl 23 _ rfl w.heap.size rfl 23 (argC a) (0, 0) _ HBX.out hau.out rfl (argC_size a) ?_)
  | (go_at_call 16; refine (HMA.out _).mono ?_; rintro e3 w3 ⟨rfl, hb3⟩; have HB3 := Lib.hid (bcall HBA.out hb3); clear hb3)
 exact bodyPost_ret (results_tmp2 rfl _ _ _) rfl ⟨rfl, HB3.out⟩
set_option maxRecDepth 20000 in
theorem fillPshort_any (a : Ar) (h : a.ok) (As : Option Addr) (ns cs : Nat) (hn : ns ≠ 64) (w : World) :
  Calls Try.prog 7 #[a.v, .slice As ns cs] w fun r w' => r = .returned (.tuple #[.slice none 0 0, .int .i64 1]) ∧ Below w.heap.size w w' := by
 have hma := fun W => may_any a W
 rw [decide_eq_true h] at hma
 have HMA := Lib.hid hma
 have t1 : ((ns : Int) == 64) = false := by simp; omega
 have hau := Lib.hid Try.underlying23
 have HBX := Lib.hid (Blk.new w 23 (argC a))
 have HBA := Lib.hid (bal (b0 w) (.cells (argC a) 23))
 clear hma h hn
 go_enter Try.func7, Try.ntmps7
 go_wp2_with first
  | (refine wpList_load_row rfl 23 _ rfl w.heap.size rfl 23 (argC a) (0, 0) _ HBX.out hau.out rfl (argC_size a) ?_)
  | (go_at_call 16; refine (HMA.out _).mono ?_; rintro e3 w3 ⟨rfl, hb3⟩; have HB3 := Lib.hid (bcall HBA.out hb3); clear hb3)
 exact bodyPost_ret (results_tmp2 rfl _ _ _) rfl ⟨rfl, HB3.out⟩
def fllN (a : Ar) (n : Nat) : Nat := if a.ok then (if n = 64 then a.ln * a.cl else 0) else 0
def fllE (a : Ar) (n : Nat) : Int := if a.ok then (if n = 64 then 0 else 1) else 200
theorem Ar.c0 {a : Ar} (h : a.ok) : 0 < a.cl := by have := (Ar.n h).s2; unfold Ar.cl; omega
theorem rowM_len (a : Ar) (st : List UInt8) (i : Nat) : (rowM a (fullM a st) i).length = 1024 := allM_len a _ (startM_len st) a.passes.toNat _ _
theorem fillPS_any (a : Ar) (As : Option Addr) (ns cs : Nat) (st : List UInt8) (w : World) (hs : st.length = ns) (hr : RS cB w w.heap.size As st) :
  Calls Try.prog 7 #[a.v, .slice As ns cs] w fun r w' => ∃ A cap l, r = .returned (.tuple #[.slice A (fllN a ns) cap, .int .i64 (fllE a ns)]) ∧ OutsA w' w.heap.size (rowM a (fullM a st)) (fllN a ns) A cap l ∧ Below w.heap.size w w' := by
 unfold fllN fllE
 by_cases h : a.ok
 ·by_cases hn : ns = 64
  ·subst hn
   rw [if_pos h, if_pos h, if_pos rfl, if_pos rfl]
   exact fillP_any a h As cs st w hs hr
  ·rw [if_pos h, if_pos h, if_neg hn, if_neg hn]
   exact (fillPshort_any a h As ns cs hn w).mono fun r w' ⟨h1, h2⟩ => ⟨none, 0, [], h1, OutsA.empty _ _ _, h2⟩
 ·rw [if_neg h, if_neg h]
  exact (fillPno_any a h As ns cs w).mono fun r w' ⟨h1, h2⟩ => ⟨none, 0, [], h1, OutsA.empty _ _ _, h2⟩
end Go.Proofs.Ytbghkdhkahkfnaa

/-
  append(x, make([]byte, n)...): noughts behind a row of the call's own, whether there is room or not. Lemmas alone; no statement is claimed here.
-/
import Derived.Test.YtlnnfijdldkpiaaCoreB
namespace Go.Proofs.Ytlnnfijdldkpiaa
open Go.RowKit

theorem run_noughts_any (w : World) {base g c n m : Nat} {l : List UInt8} (hown : OS cB w base (some ⟨g, 0, none⟩) c l) (hn : l.length = n) (hm : n + m ≤ 140737488355328) (hb : base ≤ w.heap.size) (ty : TypeId) :
    ∃ g' c' w', (Builtin.append_ #[24, 3] ty #[.slice (some ⟨g, 0, none⟩) n c, .int .i64 m]).run Try.prog w = .ok (.slice (some ⟨g', 0, none⟩) (n + m) c') w' ∧ OS cB w' base (some ⟨g', 0, none⟩) c' (l ++ List.replicate m 0) ∧ w.grownBy w' (some g) := by
  by_cases hroom : n + m ≤ c
  · obtain ⟨w', h1, h2, h3⟩ := run_noughts w hown hn hroom (by omega) ty
    exact ⟨g, c, w', h1, h2, h3⟩
  · subst hn
    have hcells : ∀ j v, (l.map cB.enc)[j]? = some v → w.cell? ((⟨g, 0, none⟩ : Addr).add j) = some v := World.ownsRow.cells (show w.ownsRow base cB.e 1 (.slice (some ⟨g, 0, none⟩) l.length c) l.length (l.map cB.enc) from hown) (g := g) rfl
    obtain ⟨i, hi, hz, hz1, hz2⟩ := info_parts cB_ok.info
    change Try.prog.info? 5 = some i at hi
    change i.zero = some (.int .u8 0) at hz
    change i.bytes = 1 at hz2
    have hul : Try.prog.underlying 24 = some (.slice 5) := cB_ok.under
    have hui : Try.prog.underlying 3 = some (.int .i64) := by kernel_rfl
    have hw : IntKind.i64.wrap (m : Int) = m := by simp [IntKind.wrap, IntKind.bits, IntKind.signed]; omega
    have has : ∀ k : Int, (asIntOf (Value.int .i64 k)).run Try.prog w = .ok (.i64, k) w := fun _ => rfl
    have hcl : (Value.int .u8 0).cells = #[Value.int .u8 0] := rfl
    have hbig2 : ¬ (281474976710656 : Int) < m := by omega
    have hneg : ¬ (m : Int) < 0 := by omega
    have h0 : m ≠ 0 := by have h := hown.len_le.1; omega
    have h63' : ¬ (9223372036854775807 < ((l.length : Int) + (m : Int))) := by omega
    have hfit : Builtin.nextslicecap (l.length + m) c * 1 ≤ 281474976710656 := growslice_fits (by omega) (by omega)
    have h48' : ¬ (281474976710656 < Builtin.nextslicecap (l.length + m) c) := by omega
    have hfo := run_firstCells_some (P := Try.prog) w.drew 1 l.length ⟨g, 0, none⟩ l.length c (l.map cB.enc) (by simp) (by simpa using hcells)
    have hge := grownCap_ge w (l.length + m) c 5
    have hcm : grownCap w (l.length + m) c 5 ≤ maxLen := grownCap_le_maxLen w (l.length + m) c 5 (by unfold maxLen; omega)
    refine ⟨w.heap.size, grownCap w (l.length + m) c 5, w.drew.alloc (.cells ((l.map cB.enc).toArray ++ Builtin.zeroCells #[.int .u8 0] m ++ Builtin.zeroCells #[.int .u8 0] (grownCap w (l.length + m) c 5 - (l.length + m))) 5), ?_, ?_, ?_⟩
    · simp [Builtin.append_, run_underlying hul, run_underlying hui, sizeOf, typeInfo, zeroValue, hi, hz, hz1, hz2, asInt, has, hw, hneg, hbig2, hroom, h0, hcl, h63', h48', Question.forced, hfo, newRow, grownCap]
    · have hzc : (Builtin.zeroCells #[Value.int .u8 0] m).toList = List.replicate m (Value.int .u8 0) := by
        apply List.ext_getElem
        · simp [Builtin.zeroCells]
        · intro j h1 h2
          simp [Builtin.zeroCells, Nat.mod_one]
      refine ⟨by simp, .inr ⟨w.heap.size, _, _, by simp, hb, heap_alloc_new w.drew _, by simpa using hge, hcm, ?_, ?_⟩⟩
      · simp only [Array.size_append, List.size_toArray, List.length_map, Builtin.zeroCells, Array.size_map, Array.size_range, List.size_toArray, List.length_cons, List.length_nil]
        omega
      · simp only [Array.toList_append, List.append_assoc, hzc, List.length_append, List.length_replicate, Nat.mul_one, List.map_append, List.map_replicate]
        rw [← List.append_assoc, List.take_append_of_le_length (by simp), List.take_of_length_le (by simp)]
        rfl
    · exact ⟨rfl, rfl, rfl, by simp, fun k hk _ => heap_alloc_old w.drew _ hk⟩
theorem wpList_noughtsA {w : World} {ops : Array Oper} {rest : List Oper} {o : Oper} {a : Act} {Q : Exit → Act → World → Prop} (hgd : o.guard = none) (s x : Operand)
    (ho : o.op = .call { callee := .builtin .append, args := #[s, x], argTypes := #[24, 3] }) {base g c n m : Nat} {l : List UInt8} (hown : OS cB w base (some ⟨g, 0, none⟩) c l) (hs : a.eval s = .slice (some ⟨g, 0, none⟩) n c) (hx : a.eval x = .int .i64 m)
    (hn : l.length = n) (hm : n + m ≤ 140737488355328) (hb : base ≤ w.heap.size)
    (h : ∀ g' c' w1, OS cB w1 base (some ⟨g', 0, none⟩) c' (l ++ List.replicate m 0) → w.grownBy w1 (some g) → wpList Try.prog ops Q rest (a.put o.dst (.slice (some ⟨g', 0, none⟩) (n + m) c')) w1) : wpList Try.prog ops Q (o :: rest) a w :=
  wpList_plain hgd fun _ hK => by
    obtain ⟨g', c', w1, hrun, h2, h3⟩ := run_noughts_any w hown hn hm hb o.type
    unfold Oper.wp execOp
    simp only [ho, resolve, invoke, builtin, Sem.run_bind, Sem.run_pure, Result.andThen_ok, List.map_toArray, List.map_cons, List.map_nil, hs, hx]
    rw [hrun]
    exact hK _ _ (h g' c' w1 h2 h3)
end Go.Proofs.Ytlnnfijdldkpiaa

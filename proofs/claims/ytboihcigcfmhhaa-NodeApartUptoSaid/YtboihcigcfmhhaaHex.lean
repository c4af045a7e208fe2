/-
  Hex of the reference. Contracts alone; no statement is claimed here.
-/
import Derived.Test.YtboihcigcfmhhaaCoreB
import Derived.Laws.IdiomStrings
import Derived.Lib.BufferRead
namespace Go.Proofs.Ytboihcigcfmhhaa
open Go.RowKit
attribute [local go_sem] pureUpon Ords.of

/-- a new row that is told by its elements -/
theorem OS.lit {α : Type} {cd : Cod α} (w : World) (l : List α) (cs : Array Value) (n : Nat) (hcs : cs = (l.map cd.enc).toArray) (hn : l.length = n) (hm : n ≤ maxLen) : OS cd (w.alloc (.cells cs cd.e)) w.heap.size (some ⟨w.heap.size, 0, none⟩) n l := by
  subst hcs; subst hn
  exact ⟨by simp, .inr ⟨w.heap.size, l.length, _, rfl, Nat.le_refl _, heap_alloc_new w _, Nat.le_refl _, hm, by simp, by rw [Nat.mul_one]; exact List.take_of_length_le (by simp)⟩⟩
def hexd (n : Nat) : UInt8 := [48, 49, 50, 51, 52, 53, 54, 55, 56, 57, 97, 98, 99, 100, 101, 102].getD n 0
def hexL : List UInt8 → List UInt8
  | [] => []
  | b :: l => hexd (b.toNat / 16) :: hexd (b.toNat % 16) :: hexL l
theorem hexL_snoc : ∀ (l : List UInt8) (b : UInt8), hexL (l ++ [b]) = hexL l ++ [hexd (b.toNat / 16), hexd (b.toNat % 16)]
  | [], _ => rfl
  | c :: l, b => by
    show hexd _ :: hexd _ :: hexL (l ++ [b]) = _
    rw [hexL_snoc l b]
    rfl
theorem hexL_len : ∀ l : List UInt8, (hexL l).length = 2 * l.length
  | [] => rfl
  | _ :: l => by
    show (hexL l).length + 1 + 1 = 2 * (l.length + 1)
    rw [hexL_len l]; omega
theorem index_hex (n : Nat) (h : n < 16) (k : IntKind) (w : World) : (Instr.index 9 (.string ⟨#[48, 49, 50, 51, 52, 53, 54, 55, 56, 57, 97, 98, 99, 100, 101, 102]⟩) (.int k n)).run Try.prog w = .ok (.int .u8 (byt (hexd n))) w := by
  have : n = 0 ∨ n = 1 ∨ n = 2 ∨ n = 3 ∨ n = 4 ∨ n = 5 ∨ n = 6 ∨ n = 7 ∨ n = 8 ∨ n = 9 ∨ n = 10 ∨ n = 11 ∨ n = 12 ∨ n = 13 ∨ n = 14 ∨ n = 15 := by omega
  rcases this with rfl | rfl | rfl | rfl | rfl | rfl | rfl | rfl | rfl | rfl | rfl | rfl | rfl | rfl | rfl | rfl <;> (show _ = _; kernel_rfl)
theorem pure_index_hex {o : Oper} {a : Act} {w : World} (y : Operand) (ho : o.op = .index 9 (.const (.string ⟨#[48, 49, 50, 51, 52, 53, 54, 55, 56, 57, 97, 98, 99, 100, 101, 102]⟩)) y) (n : Nat) (h : n < 16) (k : IntKind) (hy : a.eval y = .int k n) :
    pureUpon w (.int .u8 (byt (hexd n))) ((execOp a.eval o).run Try.prog w) := by
  have e : a.eval (.const (.string ⟨#[48, 49, 50, 51, 52, 53, 54, 55, 56, 57, 97, 98, 99, 100, 101, 102]⟩)) = .string ⟨#[48, 49, 50, 51, 52, 53, 54, 55, 56, 57, 97, 98, 99, 100, 101, 102]⟩ := rfl
  unfold execOp
  simp only [ho, e, hy, Sem.run_bind, Sem.run_pure, index_hex n h k w, Result.andThen_ok]
  exact ⟨rfl, rfl⟩
theorem take_snocL (l : List UInt8) (k : Nat) (b : UInt8) (h : l[k]? = some b) : l.take (k + 1) = l.take k ++ [b] := by rw [List.take_add_one, h]; rfl
/-- string(b) -/
theorem run_string {w : World} {B n c : Nat} {A : Option Addr} {l : List UInt8} (h : RS cB w B A l) (hl : l.length = n) :
    (convert 24 9 (.slice A n c)).run Try.prog w = .ok (.string ⟨l.toArray⟩) w := by
  subst hl
  cases A with
  | none =>
    have h0 : l = [] := by
      rcases Nat.eq_zero_or_pos l.length with h0 | h0
      · exact List.eq_nil_of_length_eq_zero h0
      · obtain ⟨a, e, _⟩ := h.2 h0; cases e
    subst h0
    exact Lib.run_convert_nil_bytes w _ _ 5 c Try.underlying24 Try.underlying5 Try.underlying9
  | some a =>
    refine run_convert_bytes_back w _ _ 5 a c l Try.underlying24 Try.underlying5 Try.underlying9 (fun j hj => ?_)
    obtain ⟨ad, x, e, _, hx, hcell⟩ := h.at_ hj
    cases e
    rw [hcell]
    have : l[j]? = some l[j] := List.getElem?_eq_getElem hj
    rw [hx] at this
    cases this
    rfl

theorem RS.marked (W : World) (l : List UInt8) (cs : Array Value) (fr : Nat × Nat) (g : Nat) (hcs : cs = (l.map cB.enc).toArray) (hg : W.heap.size = g) : RS cB (W.alloc (.cells cs cB.e fr)) (W.alloc (.cells cs cB.e fr)).heap.size (some ⟨g, 0, none⟩) l := by
  subst hcs; subst hg
  refine ⟨by simp, fun _ => ⟨_, rfl, by simp, fun j u hu => ?_⟩⟩
  have e : (⟨W.heap.size, 0, none⟩ : Addr).add j = ⟨W.heap.size, j, none⟩ := by unfold Addr.add; split <;> simp_all
  rw [e, cell_of_row _ _ j _ cB.e fr (heap_alloc_new W _)]
  simpa using hu
set_option maxRecDepth 20000 in
set_option maxHeartbeats 1000000 in
theorem hex_any (A : Option Addr) (n c : Nat) (l : List UInt8) (w : World) (hl : l.length = n) (hn : n ≤ 1048576) (hr : RS cB w w.heap.size A l) :
    Calls Try.prog 15 #[.slice A n c] w fun e w' => e = .returned (.string ⟨(hexL l).toArray⟩) ∧ Below w.heap.size w w' := by
  have HL := Lib.hid hl; have HR := Lib.hid hr; clear hl hr
  go_enter Try.func15, Try.ntmps15
  go_wp2_with fail
  go_loopw [3, 4] (fun v i wr => ∃ (k : Nat) (Ao : Option Addr) (co : Nat), k ≤ n ∧ i = .int .i64 k ∧ v = .slice Ao (2 * k) co ∧ OS cB wr w.heap.size Ao co (hexL (l.take k)) ∧ Below w.heap.size w wr) (fun _ i _ => n - (intOf i).toNat)
  case atStart => exact ⟨0, none, 0, Nat.zero_le _, rfl, rfl, OS.nil _ _ _ rfl, b0 _⟩
  case round =>
    obtain ⟨k, Ao, co, hk, rfl, rfl, hos, hbw⟩ := hrel
    have HO := Lib.hid hos; have HB := Lib.hid hbw; clear hos hbw
    by_cases hlt : k < n
    · have hkd : decide ((k : Int) < n) = true := by simp; omega
      obtain ⟨ad, b, rfl, hab, hgl, hgc⟩ := (HR.out.below HB.out).at_ (k := k) (by rw [HL.out]; exact hlt)
      have hgc2 : wr.cell? (ad.add k) = some (.int .u8 (byt b)) := hgc
      have hby := byt_range b
      obtain ⟨d1, hd1⟩ : ∃ d1 : Nat, b.toNat / 16 = d1 := ⟨_, rfl⟩
      obtain ⟨d2, hd2⟩ : ∃ d2 : Nat, b.toNat % 16 = d2 := ⟨_, rfl⟩
      have hb0 : byt b = (b.toNat : Int) := rfl
      have hl1 : d1 < 16 := by have := b.toNat_lt; omega
      have hl2 : d2 < 16 := by omega
      have q1 : byt b / 16 = (d1 : Int) := by omega
      have q2 : (byt b).tdiv 16 = (d1 : Int) := by rw [Int.tdiv_eq_ediv_of_nonneg hby.1]; exact q1
      have q3 : byt b % 16 = (d2 : Int) := by omega
      have q4 : (byt b).tmod 16 = (d2 : Int) := by rw [Int.tmod_eq_emod_of_nonneg hby.1]; exact q3
      have q5 : IntKind.u8.wrap (d1 : Int) = d1 := by simp [IntKind.wrap, IntKind.bits, IntKind.signed]; omega
      have q6 : IntKind.u8.wrap (d2 : Int) = d2 := by simp [IntKind.wrap, IntKind.bits, IntKind.signed]; omega
      clear hb0
      have HG := Lib.hid hgl; clear hgl hgc
      have hsnoc := hexL_snoc (l.take k) b
      rw [← take_snocL l k b HG.out, hd1, hd2] at hsnoc
      clear hd1 hd2
      have HS := Lib.hid hsnoc; clear hsnoc
      have hrow := (OS.lit (cd := cB) wr [hexd d1, hexd d2] #[.int .u8 (byt (hexd d1)), .int .u8 (byt (hexd d2))] 2 rfl rfl (by decide)).reads
      have HRW := Lib.hid hrow; clear hrow
      have HLN := Lib.hid (show (hexL (l.take k)).length = 2 * k by rw [hexL_len, List.length_take, HL.out, Nat.min_eq_left hk])
      have HE := Lib.hid (show 2 * k + 2 = 2 * (k + 1) by omega)
      go_wp2
      refine wp_region_ords (fun _ => True) (fun _ _ h => h) (Ords.of [(0, 0), (0, 1), (0, 2), (0, 3), (1, 4), (0, 5), (1, 6), (0, 7), (0, 8), (0, 9), (1, 10), (0, 11), (1, 12), (2, 13), (2, 14), (0, 15)] .fin) (by kernel_rfl) rfl (by kernel_rfl) (by kernel_rfl) (fun c a d v w h => by cases d <;> exact h) trivial ?_
      iterate 4 (refine ords_pure rfl (fun K hK => ?_); go_simp; refine hK _ ?_; clear hK K)
      refine ords_read rfl (fun K hK => ?_); go_simp; refine hK _ ?_; clear hK K
      refine ords_pure rfl (fun K hK => ?_); go_simp; refine hK _ ?_; clear hK K
      refine ords_readV (v := Value.int .u8 (byt (hexd d1))) rfl rfl (fun m9 => pure_index_hex (.tmp 16) rfl d1 hl1 .u8 rfl) ?_; go_simp
      iterate 3 (refine ords_pure rfl (fun K hK => ?_); go_simp; refine hK _ ?_; clear hK K)
      refine ords_read rfl (fun K hK => ?_); go_simp; refine hK _ ?_; clear hK K
      refine ords_pure rfl (fun K hK => ?_); go_simp; refine hK _ ?_; clear hK K
      refine ords_readV (v := Value.int .u8 (byt (hexd d2))) rfl rfl (fun m9 => pure_index_hex (.tmp 22) rfl d2 hl2 .u8 rfl) ?_; go_simp
      refine ords_loud rfl (fun n1 => ?_)
      go_wp2
      try (refine ⟨trivial, ?_⟩)
      refine ords_loud rfl (fun n2 => ?_)
      (refine wpList_appB _ rfl (.tmp 11) (.tmp 24) rfl ((HO.out.alloc _).drewN (n1 + n2)) rfl HLN.out (HRW.out.drewN (n1 + n2)) rfl rfl (by omega) (by have := HB.out.size; simp; omega) ?_; intro A2 c2 w2 ho2 hg2 hA2; rw [HE.out]; have HO2 := Lib.hid ho2; have HG2 := Lib.hid hg2; clear ho2 hg2 hA2; go_wp2)
      try (refine ⟨trivial, ?_⟩)
      refine ords_pure rfl (fun K hK => ?_); go_simp; refine hK _ ?_; clear hK K
      refine ords_end (fun n3 => ?_)
      go_wp2
      case roundEnd =>
        exact ⟨⟨k + 1, A2, c2, by omega, by go_num, rfl, by rw [HS.out]; exact HO2.out.drewN _, bdr (bapp (bdr (bal (bdr HB.out n1) _) n2) (((HO.out.drewN n1).alloc _).drewN n2) HG2.out) n3⟩, by simp [intOf]; omega⟩
    · obtain rfl : k = n := by omega
      have hs := run_string (c := co) HO.out.reads (by rw [hexL_len, List.take_of_length_le (by rw [HL.out]; exact Nat.le_refl _), HL.out])
      rw [List.take_of_length_le (by rw [HL.out]; exact Nat.le_refl _)] at hs
      go_wp2
      exact bodyPost_ret (results_tmp rfl _ _ _) rfl ⟨rfl, HB.out⟩
end Go.Proofs.Ytboihcigcfmhhaa

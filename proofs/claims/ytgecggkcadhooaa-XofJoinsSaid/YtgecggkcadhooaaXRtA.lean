/-
  awake of layer 7. Contracts alone; no statement is claimed here.
-/
import Derived.Test.YtgecggkcadhooaaXofN
import Derived.Test.YtgecggkcadhooaaLaw7
namespace Go.Proofs.Ytgecggkcadhooaa
open Go.RowKit
attribute [local go_sem] pureUpon Ords.of

set_option maxRecDepth 20000 in
theorem xnone_any (p : Nat) (cs : Array Value) (w : World) (hb : Blk w p 48 cs) (f : Fn) (xs ys : Array Value) (h : cs[76]? = some (.func f xs ys)) :
    Calls Try.prog 41 #[.pointer (some ⟨p, 0, none⟩)] w fun r w' => r = .returned (.bool false) ∧ w = w' := by
  have c76 : w.cell? ⟨p, 76, none⟩ = some (.func f xs ys) := (hb.cell 76).trans h
  have hbo : ∀ W, Sem.run Try.prog (Go.binOp .eql 33 (.func f xs ys) .nilFunc) W = .ok (.bool false) W := by intro W; rfl
  clear hb h
  go_enter Try.func41, Try.ntmps41
  go_wp2_with fail
  exact bodyPost_ret (results_tmp rfl _ _ _) rfl ⟨rfl, rfl⟩
set_option maxRecDepth 20000 in
set_option maxHeartbeats 1000000 in
theorem xleft_any (p : Nat) (k f c t : Int) (kn : Bool) (kv sv pv nv rv : Value) (pos hv : Int) (fn : Fn) (xs ys : Array Value) (now : List UInt8) (cs : Array Value) (w : World) (hb : Blk w p 48 cs) (hx : XC cs k f c t kn kv sv pv nv rv pos hv (.func fn xs ys) now) (h0 : 0 ≤ t - pos ∧ t - pos < 18446744073709551616) :
    Calls Try.prog 15 #[.pointer (some ⟨p, 0, none⟩)] w fun r w' => r = .returned (.int .u64 (t - pos)) ∧ Below w.heap.size w w' := by
  have hno := fun W hb => xnone_any p cs W hb fn xs ys hx.c76
  have hw : IntKind.u64.wrap (t - pos) = t - pos := by rw [wrap_u64]; omega
  have hpl := hb.lt
  have d3 : w.cell? ⟨p, 3, none⟩ = some (.int .u64 t) := (hb.cell 3).trans hx.c3
  have d10 : w.cell? ⟨p, 10, none⟩ = some (.int .u64 pos) := (hb.cell 10).trans hx.c10
  have HNO := Lib.hid hno; have HB := Lib.hid hb; clear hno hb hx h0
  go_enter Try.func15, Try.ntmps15
  go_wp2_with (go_at_call 41; refine (HNO.out _ HB.out).mono ?_; rintro e1 w1 ⟨rfl, rfl⟩)
  refine wp_region_B (Ords.of [(0, 0), (0, 1), (0, 2), (0, 3), (0, 4), (0, 5), (0, 6), (0, 7), (0, 8), (0, 9), (0, 10)] .fin) (by kernel_rfl) rfl (by kernel_rfl) (by kernel_rfl) (fun c a d v w h => by cases d <;> exact h) ?_
  refine ords_pure rfl (fun K hK => ?_); go_simp; refine hK _ ?_; clear hK K
  refine ords_pure rfl (fun K hK => ?_); go_simp; refine hK _ ?_; clear hK K
  refine ords_pure rfl (fun K hK => ?_); go_simp; refine hK _ ?_; clear hK K
  refine ords_pure rfl (fun K hK => ?_); go_simp; refine hK _ ?_; clear hK K
  refine ords_heldK rfl (fun K K2 hK hK2 => ?_); go_simp; refine ⟨hK2 _ (fun w9 hS => ?_), hK _ ?_⟩; (clear hK hK2 K K2; (first | refine withN hS ?_ | refine withD hS ?_ | refine with0 hS ?_); intro hcS hfS; go_simp); (clear hK hK2 K K2)
  refine ords_pure rfl (fun K hK => ?_); go_simp; refine hK _ ?_; clear hK K
  refine ords_pure rfl (fun K hK => ?_); go_simp; refine hK _ ?_; clear hK K
  refine ords_pure rfl (fun K hK => ?_); go_simp; refine hK _ ?_; clear hK K
  refine ords_heldK rfl (fun K K2 hK hK2 => ?_); go_simp; refine ⟨hK2 _ (fun w9 hS => ?_), hK _ ?_⟩; (clear hK hK2 K K2; (first | refine withN hS ?_ | refine withD hS ?_ | refine with0 hS ?_); intro hcS hfS; go_simp); (clear hK hK2 K K2)
  refine ords_pure rfl (fun K hK => ?_); go_simp; refine hK _ ?_; clear hK K
  refine ords_pure rfl (fun K hK => ?_); go_simp; refine hK _ ?_; clear hK K
  refine ords_end (fun n1 => ?_)
  go_wp2_with fail
  exact bodyPost_ret (results_tmp rfl _ _ _) rfl ⟨rfl, bdr (b0 w) _⟩
/-- awake of layer 7 -/
theorem awake7_any (w : World) : Calls Try.prog 9 #[] w fun e w' => e = .returned (.bool true) ∧ Below w.heap.size w w' := by
  have hnew := fun W => xnew_any true (-1) [] [] [] none 0 0 ⟨none, 0, 0⟩ ⟨none, 0, 0⟩ W (by decide) rfl rfl (RS.nil _) (RS.nil _) rfl (RS.nil _)
  change ∀ W, Calls Try.prog _ #[.int .i64 1, .int .i64 (-1), .slice none 0 0, .slice none 0 0, .slice none 0 0] W _ at hnew
  have HNEW := Lib.hid hnew; clear hnew
  go_enter Try.func9, Try.ntmps9
  go_wp2_with fail
  refine (HNEW.out _).mono ?_
  rintro e1 w1 ⟨g, cs, Ak2, ck2, s2, p2, q, F, rfl, hX1, hb1⟩
  obtain ⟨now, -, hx⟩ := hX1.xc
  have HL := Lib.hid (fun W hb => xleft_any g _ _ _ _ _ _ _ _ _ _ _ _ _ _ _ _ cs W hb hx (by decide)); have HBK := Lib.hid hX1.blk; have HB1 := Lib.hid hb1; clear hX1 hb1 hx
  go_wp2_with (go_at_call 15; refine (HL.out _ HBK.out).mono ?_; rintro e2 w2 ⟨rfl, hb2⟩; have HB2 := Lib.hid (bcall HB1.out hb2); clear hb2; rw [show xTotal (kOf true) (-1) - 0 = 274877906944 from rfl])
  exact bodyPost_ret (results_tmp rfl _ _ _) rfl ⟨rfl, HB2.out⟩
theorem rootS_len (k len : Int) (nk : Nat) (s t : Sl) (ls lp key data : List UInt8) : (rootS k len nk s t ls lp key data).1.length ≤ 64 := by
  unfold rootS
  split
  · exact Nat.zero_le _
  · refine hash_ways (P := fun R => R.1.length ≤ 64) k _ ls lp key false _ data (fun _ => Nat.zero_le _) (fun _ _ _ _ _ => Nat.zero_le _) (fun _ _ _ _ _ => Nat.zero_le _) (fun big _ _ _ n _ hn => ?_)
    rw [List.length_take]
    have := bOf_le big
    omega
end Go.Proofs.Ytgecggkcadhooaa

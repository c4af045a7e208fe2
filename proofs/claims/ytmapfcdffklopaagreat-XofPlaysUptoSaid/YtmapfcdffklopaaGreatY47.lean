/-
  Y47: contracts and lemmas alone; no statement is claimed here.
-/
import Derived.Test.YtmapfcdffklopaaGreatY46
import Derived.Test.YtmapfcdffklopaaGreatY23
import Derived.Test.YtmapfcdffklopaaGreatY28
import Derived.Deep.MidRow
namespace Go.Proofs.YtmapfcdffklopaaGreat
open Go.RowKit
attribute [local go_sem] pureUpon Ords.of

theorem le_sum7 {x : Nat} : ∀ {l : List Nat}, x ∈ l → x ≤ l.sum
 | [], h => by cases h
 | y :: r, h => by
  rcases List.mem_cons.1 h with rfl | h
  ·simp
  ·have := le_sum7 h; simp; omega
structure Op7 where
  what : Int
  s : Sl
  l : List UInt8
  n : Int
  b : Nat
def Scr7 (H : Nat) (W : World) (A : Option Addr) (os : List Op7) : Prop :=
  ∀ i o, os[i]? = some o → ∃ g f, A = some ⟨g, f, none⟩ ∧ g < H ∧ W.rangeAt g (f + i * 4) (opC o.what o.s.A o.s.n o.s.c o.n o.b).toList ∧ o.l.length = o.s.n ∧ RS cB W H o.s.A o.l ∧ o.b < 18446744073709551616
theorem Scr7.below {H : Nat} {W W' : World} {A : Option Addr} {os : List Op7} (h : Scr7 H W A os) (hb : Below H W W') : Scr7 H W' A os := fun i o ho => by
 obtain ⟨g, f, h1, h2, h3, h4, h5, h6⟩ := h i o ho
 exact ⟨g, f, h1, h2, fun j v hj => by rw [hb.cell (p := ⟨g, f + i * 4 + j, none⟩) h2]; exact h3 j v hj, h4, h5.below hb, h6⟩
def ops7W (os : List Op7) : Nat := (os.map (fun o => o.l.length)).sum
theorem ops7W_take (os : List Op7) (k : Nat) (o : Op7) (h : os[k]? = some o) : ops7W (os.take (k + 1)) = ops7W (os.take k) + o.l.length := by
 unfold ops7W
 rw [List.take_add_one, h]
 simp
theorem ops7W_le : ∀ (os : List Op7) (k : Nat), ops7W (os.take k) ≤ ops7W os
 | [], k => by simp [ops7W]
 | o :: r, 0 => by simp [ops7W]
 | o :: r, k + 1 => by have := ops7W_le r k; simp [ops7W] at this ⊢; omega
open Go.ChangeShapes Go.WideShapes Go.ChangeAt in
set_option maxRecDepth 100000 in
theorem open_ops7 {H : Type} {enc : TypeId × Value → H} {W : World} {base : Nat} {v : Value} {d : DataW H} {p : List MemPlace} {ts : List TypeId} {ds : List (DataW H)}
  (hv : Value.okWide Tryz.prog W .any base 25 v) (h : DataW.Trod enc Tryz.prog W 0 (fun _ => true) true 25 v d p) (hlt : ∀ x ∈ p, x.block < W.heap.size)
  (hsz : (DataW.weightsEach Tryz.prog ts ds).all (· ≤ reachBytes) = true) {j : Nat} (ht : ts[j]? = some 25) (hd : ds[j]? = some d) :
  ∃ (A : Option Addr) (n c : Nat) (os : List Op7), v = .slice A n c ∧ os.length = n ∧ n ≤ c ∧ c < Rows.uptoBulk d ∧ ops7W os < Rows.uptoBulk d ∧ Scr7 W.heap.size W A os := by
 obtain ⟨a0, len, cap, rfl⟩ := okWide_slice Tryz.underlying25 hv
 obtain ⟨A, n, c, e1, h1, h2, h3, bs, hl, hs, hel⟩ := gotB_slice Tryz.underlying25 (gotB_top h hlt hsz ht hd)
 have c2 : Tryz.prog.cellsOf 33 = 4 := by kernel_rfl
 have ci : Tryz.prog.cellsOf 3 = 1 := by kernel_rfl
 have cu : Tryz.prog.cellsOf 31 = 1 := by kernel_rfl
 have cb : Tryz.prog.cellsOf 22 = 1 := by kernel_rfl
 rw [c2] at h3 hel
 obtain ⟨os, q1, q2, q3⟩ := build (fun o : Op7 => o.l.length) bs (fun i o => ∃ g f, A = some ⟨g, f, none⟩ ∧ g < W.heap.size ∧ W.rangeAt g (f + i * 4) (opC o.what o.s.A o.s.n o.s.c o.n o.b).toList ∧ o.l.length = o.s.n ∧ RS cB W W.heap.size o.s.A o.l ∧ o.b < 18446744073709551616) (fun i b hb => by
  obtain ⟨a, cl, ha, hc, hg⟩ := hel i b hb
  obtain ⟨hcl, bs2, hb1, hb2, hf⟩ := gotB_struct Tryz.underlying33 hg
  obtain ⟨b0, hb0, g0⟩ := hf 0 _ rfl
  obtain ⟨b1, hb1', g1⟩ := hf 1 _ rfl
  obtain ⟨b2, hb2', g2⟩ := hf 2 _ rfl
  obtain ⟨b3, hb3', g3⟩ := hf 3 _ rfl
  have g0 : GotB enc W 3 ((cl.drop 0).take (Tryz.prog.cellsOf 3)) b0 := g0
  rw [ci] at g0
  obtain ⟨k, e0, _⟩ := got_int Tryz.underlying3 g0.got
  have g1 : GotB enc W 22 ((cl.drop 1).take (Tryz.prog.cellsOf 22)) b1 := g1
  rw [cb] at g1
  obtain ⟨A1, n1, c1, l1, e1, hl1, hn1, hc1, hr1⟩ := gotB_bytes g1
  have g2 : GotB enc W 3 ((cl.drop 2).take (Tryz.prog.cellsOf 3)) b2 := g2
  rw [ci] at g2
  obtain ⟨n2, e2, _⟩ := got_int Tryz.underlying3 g2.got
  have g3 : GotB enc W 31 ((cl.drop 3).take (Tryz.prog.cellsOf 31)) b3 := g3
  rw [cu] at g3
  obtain ⟨n3, e3, w3⟩ := got_int Tryz.underlying31 g3.got
  have w4 : 0 ≤ n3 ∧ n3 < 18446744073709551616 := by
   simp [Lit.wf, IntKind.min, IntKind.max, IntKind.signed, IntKind.bits] at w3
   omega
  obtain ⟨n4, rfl⟩ : ∃ n4 : Nat, n3 = n4 := ⟨n3.toNat, by omega⟩
  have hb1s : b1 ≤ b := by
   have : b1 ≤ bs2.sum := le_sum7 (List.mem_of_getElem? hb1')
   omega
  have hi : i < n := by rw [← hl]; exact (List.getElem?_eq_some_iff.1 hb).1
  have hcl4 : cl = [Value.int .i64 k, .slice A1 n1 c1, .int .i64 n2, .int .u64 n4] := by
   have hl4 : cl.length = 4 := hcl.trans c2
   match cl, hl4 with
   | [x0, x1, x2, x3], _ =>
    simp at e0 e1 e2 e3
    subst e0 e1 e2 e3
    rfl
  obtain ⟨g, f, sp⟩ := a
  have hsp : sp = none := by
   have h0l : 0 < bs.length := Nat.lt_of_le_of_lt (Nat.zero_le i) (List.getElem?_eq_some_iff.1 hb).1
   obtain ⟨a', cl', ha', hc', hg'⟩ := hel 0 _ (List.getElem?_eq_getElem h0l)
   rw [ha] at ha'
   cases ha'
   have hcl' : cl'.length = 4 := (gotB_struct Tryz.underlying33 hg').1.trans c2
   obtain ⟨v0, hv0⟩ : ∃ v0, cl'[0]? = some v0 := ⟨_, List.getElem?_eq_getElem (by omega)⟩
   have h0 := hc' 0 v0 hv0
   rw [show (⟨g, f, sp⟩ : Addr).add (0 * 4 + 0) = ⟨g, f, sp⟩ from rfl] at h0
   cases sp with
   | none => rfl
   | some x =>
    exfalso
    unfold World.cell? at h0
    revert h0
    split <;> simp
  subst hsp
  exact ⟨⟨k, ⟨A1, n1, c1⟩, l1, n2, n4⟩, by show l1.length ≤ b; omega, g, f, ha, h3 (by decide) _ ha (by omega), fun j v hj => by
   have := hc j v (by rw [hcl4]; exact hj)
   rw [Addr.add_mid, ← Nat.add_assoc] at this
   exact this, hl1, hr1, by show n4 < _; omega⟩)
 exact ⟨A, n, c, os, (List.cons.inj (show [Value.slice a0 len cap] = [Value.slice A n c] from e1)).1, by omega, h1, h2, by unfold ops7W; omega, q3⟩
end Go.Proofs.YtmapfcdffklopaaGreat

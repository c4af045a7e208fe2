/-
  Y45: contracts and lemmas alone; no statement is claimed here.
-/
import Derived.Test.YtboihcigcfmhhaaGreatY44
import Derived.Test.YtboihcigcfmhhaaGreatY9
import Derived.Deep.MidRow
namespace Go.Proofs.YtboihcigcfmhhaaGreat
open Go.RowKit
attribute [local go_sem] pureUpon Ords.of
theorem step5_any {H : Nat} {w0 w : World} {p q : Nat} {m : NPm} {t : NSt} {R F : List Nat} {Am : Option Addr} {nm cm : Nat} (h : PN H w0 w p q m t t R F Am nm cm) (hm : m.Ok) (what : Int) (Ad : Option Addr) (nd cd : Nat) (on : Bool) (most : Int) (data : List UInt8) (hdl : data.length = nd) (hnd : nd <= cd) (hcd : cd <= 9223372036854775807) (hrd : RS cB w H Ad data) (hlen : nm + nd <= 140737488355200) :
  Calls Tryz.prog 6 #[.pointer (some ⟨p, 0, none⟩), .pointer (some ⟨q, 0, none⟩), .agg (opC5 what Ad nd cd on most)] w fun r w' => ∃ p' t' R' F' Am' nm' cm', r = .returned (.tuple #[.pointer (some ⟨p', 0, none⟩), .pointer (some ⟨q, 0, none⟩), .bool true]) /\ PN H w0 w' p' q m t' t' R' F' Am' nm' cm' /\ nm' <= nm + nd := by
 have htd : t.data.length < 2 ^ 60 := by have h1 := h.r.len; rw [List.length_append] at h1; omega
 by_cases h0 : what = 0
 ·subst h0; exact step5_write h Ad nd cd on most data hdl hrd hlen
 by_cases h1 : what = 1
 ·subst h1; exact step5_last h Ad nd cd on most
 by_cases h2 : what = 2
 ·subst h2; exact step5_sum h Ad nd cd on most hm (by omega)
 by_cases h3 : what = 3
 ·subst h3; exact step5_out h Ad nd cd on most hm (by omega)
 by_cases h4 : what = 4
 ·subst h4; exact step5_written h Ad nd cd on most
 by_cases h5 : what = 5
 ·subst h5; exact step5_copy h Ad nd cd on most data hdl hnd hcd hrd
 by_cases h6 : what = 6
 ·subst h6; exact step5_reset h Ad nd cd on most hm
 by_cases h7 : what = 7
 ·subst h7; exact step5_save h Ad nd cd on most hm (by omega)
 by_cases h8 : what = 8
 ·subst h8; exact step5_load h Ad nd cd on most hm htd
 exact step5_none h Ad nd cd on most what (fun k hk e => by
  have : k = 0 \/ k = 1 \/ k = 2 \/ k = 3 \/ k = 4 \/ k = 5 \/ k = 6 \/ k = 7 \/ k = 8 := by omega
  rcases this with rfl | rfl | rfl | rfl | rfl | rfl | rfl | rfl | rfl
  ·exact h0 e
  ·exact h1 e
  ·exact h2 e
  ·exact h3 e
  ·exact h4 e
  ·exact h5 e
  ·exact h6 e
  ·exact h7 e
  ·exact h8 e)
theorem le_sum5 {x : Nat} : ∀ {l : List Nat}, x ∈ l -> x <= l.sum
 | [], h => by cases h
 | y :: r, h => by
  rcases List.mem_cons.1 h with rfl | h
  ·simp
  ·have := le_sum5 h; simp; omega
structure Op5 where
  what : Int
  s : Sl
  l : List UInt8
  on : Bool
  most : Int
def Scr5 (H : Nat) (W : World) (A : Option Addr) (os : List Op5) : Prop :=
  ∀ i o, os[i]? = some o -> ∃ g f, A = some ⟨g, f, none⟩ /\ g < H /\ W.rangeAt g (f + i * 4) (opC5 o.what o.s.A o.s.n o.s.c o.on o.most).toList /\ o.l.length = o.s.n /\ RS cB W H o.s.A o.l /\ o.s.n <= o.s.c /\ o.s.c <= 9223372036854775807
theorem Scr5.below {H : Nat} {W W' : World} {A : Option Addr} {os : List Op5} (h : Scr5 H W A os) (hb : Below H W W') : Scr5 H W' A os := fun i o ho => by
 obtain ⟨g, f, h1, h2, h3, h4, h5, h6⟩ := h i o ho;exact ⟨g, f, h1, h2, fun j v hj => by rw [hb.cell (p := ⟨g, f + i * 4 + j, none⟩) h2]; exact h3 j v hj, h4, h5.below hb, h6⟩
def ops5W (os : List Op5) : Nat := (os.map (fun o => o.l.length)).sum
theorem ops5W_take (os : List Op5) (k : Nat) (o : Op5) (h : os[k]? = some o) : ops5W (os.take (k + 1)) = ops5W (os.take k) + o.l.length := by
 unfold ops5W;rw [List.take_add_one, h];simp
theorem ops5W_le : ∀ (os : List Op5) (k : Nat), ops5W (os.take k) <= ops5W os
 | [], k => by simp [ops5W]
 | o :: r, 0 => by simp [ops5W]
 | o :: r, k + 1 => by have := ops5W_le r k; simp [ops5W] at this ⊢; omega
open Go.ChangeShapes Go.WideShapes Go.ChangeAt in
set_option maxRecDepth 100000 in
theorem open_ops5 {H : Type} {enc : TypeId × Value -> H} {W : World} {base : Nat} {v : Value} {d : DataW H} {p : List MemPlace} {ts : List TypeId} {ds : List (DataW H)}
  (hv : Value.okWide Tryz.prog W .any base 29 v) (h : DataW.Trod enc Tryz.prog W 0 (fun _ => true) true 29 v d p) (hlt : ∀ x ∈ p, x.block < W.heap.size)
  (hsz : (DataW.weightsEach Tryz.prog ts ds).all (· <= reachBytes) = true) {j : Nat} (ht : ts[j]? = some 29) (hd : ds[j]? = some d) (hub : Rows.uptoBulk d <= 9223372036854775807) :
  ∃ (A : Option Addr) (n c : Nat) (os : List Op5), v = .slice A n c /\ os.length = n /\ n <= c /\ c < Rows.uptoBulk d /\ ops5W os < Rows.uptoBulk d /\ Scr5 W.heap.size W A os := by
 obtain ⟨a0, len, cap, rfl⟩ := okWide_slice Tryz.underlying29 hv;obtain ⟨A, n, c, e1, h1, h2, h3, bs, hl, hs, hel⟩ := gotB_slice Tryz.underlying29 (gotB_top h hlt hsz ht hd);have c2 : Tryz.prog.cellsOf 36 = 4 := by kernel_rfl
 have ci : Tryz.prog.cellsOf 3 = 1 := by kernel_rfl
 have cu : Tryz.prog.cellsOf 4 = 1 := by kernel_rfl
 have cb : Tryz.prog.cellsOf 24 = 1 := by kernel_rfl
 rw [c2] at h3 hel;obtain ⟨os, q1, q2, q3⟩ := build (fun o : Op5 => o.l.length) bs (fun i o => ∃ g f, A = some ⟨g, f, none⟩ /\ g < W.heap.size /\ W.rangeAt g (f + i * 4) (opC5 o.what o.s.A o.s.n o.s.c o.on o.most).toList /\ o.l.length = o.s.n /\ RS cB W W.heap.size o.s.A o.l /\ o.s.n <= o.s.c /\ o.s.c <= 9223372036854775807) (fun i b hb => by
  obtain ⟨a, cl, ha, hc, hg⟩ := hel i b hb;obtain ⟨hcl, bs2, hb1, hb2, hf⟩ := gotB_struct Tryz.underlying36 hg;obtain ⟨b0, hb0, g0⟩ := hf 0 _ rfl;obtain ⟨b1, hb1', g1⟩ := hf 1 _ rfl;obtain ⟨b2, hb2', g2⟩ := hf 2 _ rfl;obtain ⟨b3, hb3', g3⟩ := hf 3 _ rfl;have g0 : GotB enc W 3 ((cl.drop 0).take (Tryz.prog.cellsOf 3)) b0 := g0;rw [ci] at g0;obtain ⟨k, e0, _⟩ := got_int Tryz.underlying3 g0.got;have g1 : GotB enc W 24 ((cl.drop 1).take (Tryz.prog.cellsOf 24)) b1 := g1;rw [cb] at g1;obtain ⟨A1, n1, c1, l1, e1, hl1, hn1, hc1, hr1⟩ := gotB_bytes g1;have g2 : GotB enc W 4 ((cl.drop 2).take (Tryz.prog.cellsOf 4)) b2 := g2;rw [cu] at g2;obtain ⟨n2, e2⟩ := got_bool Tryz.underlying4 g2.got;have g3 : GotB enc W 3 ((cl.drop 3).take (Tryz.prog.cellsOf 3)) b3 := g3;rw [ci] at g3;obtain ⟨n4, e3, _⟩ := got_int Tryz.underlying3 g3.got;have hb1s : b1 <= b := by
   have : b1 <= bs2.sum := le_sum5 (List.mem_of_getElem? hb1');omega
  have hi : i < n := by rw [<- hl]; exact (List.getElem?_eq_some_iff.1 hb).1
  have hcl4 : cl = [Value.int .i64 k, .slice A1 n1 c1, .bool n2, .int .i64 n4] := by
   have hl4 : cl.length = 4 := hcl.trans c2
   match cl, hl4 with
   | [x0, x1, x2, x3], _ =>
    simp at e0 e1 e2 e3;subst e0 e1 e2 e3
    rfl
  obtain ⟨g, f, sp⟩ := a;have hsp : sp = none := by
   have h0l : 0 < bs.length := Nat.lt_of_le_of_lt (Nat.zero_le i) (List.getElem?_eq_some_iff.1 hb).1;obtain ⟨a', cl', ha', hc', hg'⟩ := hel 0 _ (List.getElem?_eq_getElem h0l);rw [ha] at ha'
   cases ha'
   have hcl' : cl'.length = 4 := (gotB_struct Tryz.underlying36 hg').1.trans c2;obtain ⟨v0, hv0⟩ : ∃ v0, cl'[0]? = some v0 := ⟨_, List.getElem?_eq_getElem (by omega)⟩;have h0 := hc' 0 v0 hv0;rw [show (⟨g, f, sp⟩ : Addr).add (0 * 4 + 0) = ⟨g, f, sp⟩ from rfl] at h0
   cases sp with
   | none => rfl
   | some x =>
    exfalso
    unfold World.cell? at h0
    revert h0
    split <;> simp
  subst hsp;exact ⟨⟨k, ⟨A1, n1, c1⟩, l1, n2, n4⟩, by show l1.length <= b; omega, g, f, ha, h3 (by decide) _ ha (by omega), fun j v hj => by
   have := hc j v (by rw [hcl4]; exact hj);rw [Addr.add_mid, <- Nat.add_assoc] at this;exact this, hl1, hr1, by show n1 <= c1 /\ c1 <= _; have hb7 := le_sum5 (List.mem_of_getElem? hb); omega⟩)
 exact ⟨A, n, c, os, (List.cons.inj (show [Value.slice a0 len cap] = [Value.slice A n c] from e1)).1, by omega, h1, h2, by unfold ops5W; omega, q3⟩
end Go.Proofs.YtboihcigcfmhhaaGreat

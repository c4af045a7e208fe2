/-
  Calls of the program: the calls of all nodes. Contracts alone; no statement is claimed here.
-/
import Derived.Test.YtghpofnaojbbkaaGreatLCalP
import Derived.Test.YtghpofnaojbbkaaGreatLSet
import Derived.Test.YtghpofnaojbbkaaGreatBu2
import Derived.Test.YtghpofnaojbbkaaGreatBu1
namespace Go.Proofs.YtghpofnaojbbkaaGreat
open Go.RowKit
attribute [local go_sem] pureUpon Ords.of

theorem apart_fresh {s : Sl} {R : Option Nat} {B : Nat} (h : ∀ a, s.A = some a → B ≤ a.block) (hR : ∀ g, R = some g → g < B) : s.apart R := fun _ a ha e => Nat.lt_irrefl _ (Nat.lt_of_lt_of_le (hR _ e) (h a ha))
theorem apart_old {s : Sl} {R : Option Nat} {B : Nat} {w : World} {l : List UInt8} (h : RS cB w B s.A l) (hl : l.length = s.n) (hR : ∀ g, R = some g → B ≤ g) : s.apart R := fun hn a ha e => Nat.lt_irrefl _ (Nat.lt_of_lt_of_le (h.lowC (by rw [hl]; exact hn) a ha) (hR _ e))
theorem row_ge {α : Type} {cd : Cod α} {w : World} {H c : Nat} {A : Option Addr} {l : List α} (h : OS cd w H A c l) : ∀ g, A.map (·.block) = some g → H ≤ g ∧ g < w.heap.size := by
 intro g e
 cases hA : A with
 | none => rw [hA] at e; cases e
 | some a => rw [hA] at e; have := h.block_lt a hA; have e2 : a.block = g := Option.some.inj e; rw [← e2]; exact this
theorem crow_ge {w : World} {H c : Nat} {A : Option Addr} {l : List CC} (h : CO w H A c l) : ∀ g, A.map (·.block) = some g → H ≤ g ∧ g < w.heap.size := by
 intro g e
 cases hA : A with
 | none => rw [hA] at e; cases e
 | some a => rw [hA] at e; have := h.block_lt a hA; have e2 : a.block = g := Option.some.inj e; rw [← e2]; exact this
theorem callC_size (x : CC) : (Tryz.prog.info? 61).map (·.size) = some x.cs.size := by unfold CC.cs callV; kernel_rfl
theorem LP.blk_len (P : LP) (he : P.err = 0) (i : Nat) : (P.blk i).length = bOf P.big := by
 obtain ⟨-, -, -, -, -, -, h7, h8⟩ := chk_range he
 exact encL_len P.big _ P.ls P.lp h7 h8
theorem bsz {H : Nat} {a b : World} (h : H = a.heap.size) (hb : Below H a b) : H ≤ b.heap.size := by rw [h]; exact hb.size
theorem below_appC {B base : Nat} {a w w' : World} {A : Option Addr} {c : Nat} {l : List CC} (h : Below B a w) (hown : CO w base A c l) (hg : w.grownBy w' (A.map (·.block))) (hB : B ≤ base) (hs : B ≤ w.heap.size) : Below B a w' := by
 refine h.grown hg hs (fun g e => ?_)
 exact Nat.le_trans hB (crow_ge hown g e).1
theorem num8 (k : Nat) : Value.int .i64 ((k : Int) + 1) = .int .i64 ((k + 1 : Nat) : Int) := rfl
theorem kindOf_of (big : Bool) (w : World) : Calls Tryz.prog 29 #[.int .i64 (kOf big)] w fun e w' => e = .returned (.tuple #[.agg (shC (lnOf big) (blOf big) (bOf big)), .bool true]) ∧ Below w.heap.size w w' := by
 cases big with
 | true => exact of_big w
 | false => exact of_small w
structure LIn (w : World) (P : LP) (sk ss sp sd : Sl) : Prop where
  hk : P.key.length = sk.n
  hs : P.ls.length = ss.n
  hp : P.lp.length = sp.n
  hd : P.data.length = sd.n
  nk : sk.n ≤ 140737488351232
  ns : ss.n ≤ 140737488351232
  np : sp.n ≤ 140737488351232
  nd : sd.n ≤ 140737488351232
  dc : sd.n ≤ sd.c ∧ sd.c ≤ 9223372036854775807
  rk : RS cB w w.heap.size sk.A P.key
  rs : RS cB w w.heap.size ss.A P.ls
  rp : RS cB w w.heap.size sp.A P.lp
  rd : RS cB w w.heap.size sd.A P.data
theorem lset_any (P : LP) (sk ss sp sd : Sl) (w : World) (h : LIn w P sk ss sp sd) :
  Calls Tryz.prog 17 #[.int .i64 (kOf P.big), .int .i64 P.digest, .slice sk.A sk.n sk.c, .slice ss.A ss.n ss.c, .slice sp.A sp.n sp.c] w fun e w' => ∃ a b c : Sl, e = .returned (.tuple #[.agg (setC (lnOf P.big) (blOf P.big) (bOf P.big) (kOf P.big) P.digest a b c), .int .i64 P.err]) ∧ a.n = sk.n ∧ b.n = ss.n ∧ c.n = sp.n ∧ OS cB w' w.heap.size a.A a.c P.key ∧ OS cB w' w.heap.size b.A b.c P.ls ∧ OS cB w' w.heap.size c.A c.c P.lp ∧ Below w.heap.size w w' := by
 have h8 := lnOf_pos P.big
 refine (set_kind (kOf P.big) (lnOf P.big) (blOf P.big) (bOf P.big) P.digest sk ss sp P.key P.ls P.lp (by omega) (by omega) (Lib.hid (kindOf_of P.big)) w h.hk h.hs h.hp h.nk h.ns h.np h.rk h.rs h.rp).mono ?_
 rintro e w' ⟨a, b, c, rfl, ha, hb, hc, r⟩
 refine ⟨a, b, c, ?_, ha, hb, hc, r⟩
 rw [← P.chk_eq (lnOf P.big) (Nat.le_refl _) b c (by rw [h.hs, hb]) (by rw [h.hp, hc])]
 unfold LP.par
 rw [h.hk]
end Go.Proofs.YtghpofnaojbbkaaGreat

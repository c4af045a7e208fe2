/-
  Y36: contracts and lemmas alone; no statement is claimed here.
-/
import Derived.Test.YtmapfcdffklopaaGreatY35
namespace Go.Proofs.YtmapfcdffklopaaGreat
open Go.RowKit

def Xm.readS (m : Xm) (root : List UInt8) (pos : Nat) (n : Nat) : List UInt8 × Int := if 0 < n ∧ m.T - pos = 0 then ([], 70) else (m.row root pos (min n (m.T - pos)), 0)
theorem XTk.gives {w : World} {p : Nat} {m : Xm} {msg : List UInt8} {F : List Nat} (hX : XTk w p m msg F) : ∃ (wr : UInt64) (e : Eng) (Ak : Option Addr) (ck : Nat) (s pp : Sl) (q : Nat) (F0 : List Nat), m.ls.length = s.n ∧ m.lp.length = pp.n ∧
  (Calls Tryz.prog 29 #[.pointer (some ⟨p, 0, none⟩)] w fun r w' => r = .returned (.bool false) ∧ w = w') ∧
  (Calls Tryz.prog 44 #[.pointer (some ⟨p, 0, none⟩)] w fun r w' => r = .returned (.tuple #[]) ∧ ∃ cs' Ar cr hv now, XG w' 0 p m.big m.len m.key m.ls m.lp wr e (m.root msg) 0 cs' Ak ck s pp q F0 Ar cr hv now ∧ But [p] w w' ∧ Fresh F (xfoot p F0 Ak s.A pp.A Ar) w) := by
 obtain ⟨wr, cs, Ak, ck, s, pp, q, F0, h, rfl⟩ := hX
 obtain ⟨now, -, hx⟩ := h.xc
 refine ⟨wr, m.e0.feed msg, Ak, ck, s, pp, q, F0, h.hls, h.hlp, xnone_any p cs w h.blk _ _ _ hx.c76, ?_⟩
 refine (xgive_any 0 p m.big m.len m.key m.ls m.lp wr (m.e0.feed msg) cs Ak ck s pp q F0 w h (Nat.zero_le _) (m.e0_full msg) (by rw [Eng.out_len, m.e0_full])).mono ?_
 rintro r w' ⟨rfl, cs', Ar, cr, hv, now, h', hb, hA⟩
 exact ⟨rfl, cs', Ar, cr, hv, now, h', hb, xfoot_more (fun k hk => .inl hk) (fun a ha => .inr (hA a ha))⟩
theorem XGv.gives {w : World} {p : Nat} {m : Xm} {root : List UInt8} {pos : Nat} {F : List Nat} (hX : XGv w p m root pos F) : ∃ (wr : UInt64) (e : Eng) (Ak : Option Addr) (ck : Nat) (s pp : Sl) (q : Nat) (F0 : List Nat), m.ls.length = s.n ∧ m.lp.length = pp.n ∧
  (Calls Tryz.prog 29 #[.pointer (some ⟨p, 0, none⟩)] w fun r w' => r = .returned (.bool false) ∧ w = w') ∧
  (Calls Tryz.prog 44 #[.pointer (some ⟨p, 0, none⟩)] w fun r w' => r = .returned (.tuple #[]) ∧ ∃ cs' Ar cr hv now, XG w' 0 p m.big m.len m.key m.ls m.lp wr e root pos cs' Ak ck s pp q F0 Ar cr hv now ∧ But [p] w w' ∧ Fresh F (xfoot p F0 Ak s.A pp.A Ar) w) := by
 obtain ⟨wr, e, cs, Ak, ck, s, pp, q, F0, Ar, cr, hv, now, h, rfl⟩ := hX
 refine ⟨wr, e, Ak, ck, s, pp, q, F0, h.hls, h.hlp, xnone_any p cs w h.blk _ _ _ h.xc.c76, ?_⟩
 refine (xgiven_any 0 p m.big m.len m.key m.ls m.lp wr e root pos cs Ak ck s pp q F0 Ar cr hv now w h).mono ?_
 rintro r w' ⟨rfl, rfl⟩
 exact ⟨rfl, cs, Ar, cr, hv, now, h, But.refl _ _, Fresh.refl _ _⟩
theorem xRead_core (p : Nat) (m : Xm) (hm : m.Ok) (wr : UInt64) (e : Eng) (root : List UInt8) (pos n : Nat) (Ak : Option Addr) (ck : Nat) (s pp : Sl) (q : Nat) (F F0 : List Nat) (w : World) (hn : n ≤ 65536) (hpo : pos ≤ m.T) (hls : m.ls.length = s.n) (hlp : m.lp.length = pp.n)
  (hno : Calls Tryz.prog 29 #[.pointer (some ⟨p, 0, none⟩)] w fun r w' => r = .returned (.bool false) ∧ w = w')
  (hgi : Calls Tryz.prog 44 #[.pointer (some ⟨p, 0, none⟩)] w fun r w' => r = .returned (.tuple #[]) ∧ ∃ cs' Ar cr hv now, XG w' 0 p m.big m.len m.key m.ls m.lp wr e root pos cs' Ak ck s pp q F0 Ar cr hv now ∧ But [p] w w' ∧ Fresh F (xfoot p F0 Ak s.A pp.A Ar) w) :
  Calls Tryz.prog 26 #[.pointer (some ⟨p, 0, none⟩), .int .i64 n] w fun r w' => ∃ A k cc, r = .returned (.tuple #[.slice A k cc, .int .i64 (m.readS root pos n).2]) ∧ (m.readS root pos n).1.length = k ∧ k ≤ cc ∧ OS cB w' w.heap.size A cc (m.readS root pos n).1 ∧
   ∃ F', XGv w' p m root (pos + k) F' ∧ Fresh F F' w ∧ But [p] w w' ∧ (∀ a, A = some a → a.block ∉ F') := by
 have h37 := hm.T37
 have hs4 : 4 * s.n ≤ bOf m.big := by rw [← hls]; exact hm.s4
 have hp4 : 4 * pp.n ≤ bOf m.big := by rw [← hlp]; exact hm.p4
 by_cases h0 : 0 < n
 ·by_cases hL : m.T - pos = 0
  ·have e1 : m.readS root pos n = ([], 70) := by unfold Xm.readS; rw [if_pos ⟨h0, hL⟩]
   refine (xreadEnd_of (fun Ar => Fresh F (xfoot p F0 Ak s.A pp.A Ar) w) 0 p m.big m.len m.key m.ls m.lp wr e root n m.T Ak ck s pp q F0 w pos hn h0 hm.T (by omega) hno hgi).mono ?_
   rintro r w' ⟨rfl, cs', Ar, cr, hv, now, h, hb, hF⟩
   rw [e1]
   exact ⟨none, 0, 0, rfl, rfl, Nat.le_refl _, OS.nil _ _ _ rfl, _, ⟨_, _, _, _, _, _, _, _, _, _, _, _, _, h, rfl⟩, hF, hb, fun a ha => by cases ha⟩
  ·have e1 : m.readS root pos n = (m.row root pos (min n (m.T - pos)), 0) := by unfold Xm.readS; rw [if_neg (fun h => hL h.2)]
   by_cases hle : n ≤ m.T - pos
   ·rw [Nat.min_eq_left hle] at e1
    refine (xread_of (fun Ar => Fresh F (xfoot p F0 Ak s.A pp.A Ar) w) 0 p m.big m.len m.key m.ls m.lp wr e root pos n m.T (m.T - pos) Ak ck s pp q F0 w hn rfl hm.T h37 hpo rfl h0 hle hm.T2.2 hm.C hm.C2 hs4 hp4 hno hgi).mono ?_
    rintro r w' ⟨A, cc, rfl, hcc, ho, cs', Ar, cr, hv, now, h, hb, hF, hd⟩
    rw [e1]
    exact ⟨A, n, cc, rfl, m.row_len _ _ _, hcc, ho, _, ⟨_, _, _, _, _, _, _, _, _, _, _, _, _, h, rfl⟩, hF, hb, hd⟩
   ·rw [Nat.min_eq_right (by omega)] at e1
    refine (xreadCut_of (fun Ar => Fresh F (xfoot p F0 Ak s.A pp.A Ar) w) 0 p m.big m.len m.key m.ls m.lp wr e root pos n (m.T - pos) m.T (m.T - pos) Ak ck s pp q F0 w hn rfl (by omega) rfl hm.T h37 hpo rfl (by omega) hm.T2.2 hm.C hm.C2 hs4 hp4 hno hgi).mono ?_
    rintro r w' ⟨A, cc, rfl, hcc, ho, cs', Ar, cr, hv, now, h, hb, hF, hd⟩
    rw [e1]
    exact ⟨A, m.T - pos, cc, rfl, m.row_len _ _ _, hcc, ho, _, ⟨_, _, _, _, _, _, _, _, _, _, _, _, _, h, rfl⟩, hF, hb, hd⟩
 ·obtain rfl : n = 0 := by omega
  have e1 : m.readS root pos 0 = ([], 0) := by unfold Xm.readS; rw [if_neg (fun h => absurd h.1 (by omega)), Nat.zero_min]; rfl
  refine (xreadNil_of (fun Ar => Fresh F (xfoot p F0 Ak s.A pp.A Ar) w) 0 p m.big m.len m.key m.ls m.lp wr e root pos m.T Ak ck s pp q F0 w hm.T h37 hpo hno hgi).mono ?_
  rintro r w' ⟨rfl, cs', Ar, cr, hv, now, h, hb, hF⟩
  rw [e1]
  exact ⟨none, 0, 0, rfl, rfl, Nat.le_refl _, OS.nil _ _ _ rfl, _, ⟨_, _, _, _, _, _, _, _, _, _, _, _, _, h, rfl⟩, hF, hb, fun a ha => by cases ha⟩
theorem xSkip_core (p : Nat) (m : Xm) (hm : m.Ok) (wr : UInt64) (e : Eng) (root : List UInt8) (pos n : Nat) (Ak : Option Addr) (ck : Nat) (s pp : Sl) (q : Nat) (F F0 : List Nat) (w : World) (hn : n < 18446744073709551616) (hpo : pos ≤ m.T)
  (hno : Calls Tryz.prog 29 #[.pointer (some ⟨p, 0, none⟩)] w fun r w' => r = .returned (.bool false) ∧ w = w')
  (hgi : Calls Tryz.prog 44 #[.pointer (some ⟨p, 0, none⟩)] w fun r w' => r = .returned (.tuple #[]) ∧ ∃ cs' Ar cr hv now, XG w' 0 p m.big m.len m.key m.ls m.lp wr e root pos cs' Ak ck s pp q F0 Ar cr hv now ∧ But [p] w w' ∧ Fresh F (xfoot p F0 Ak s.A pp.A Ar) w) :
  Calls Tryz.prog 23 #[.pointer (some ⟨p, 0, none⟩), .int .u64 n] w fun r w' => r = .returned (.tuple #[.int .u64 (skipS m.T pos n).1, .int .i64 (skipS m.T pos n).2]) ∧ ∃ F', XGv w' p m root (pos + (skipS m.T pos n).1) F' ∧ Fresh F F' w ∧ But [p] w w' := by
 refine (xskip_of (fun Ar => Fresh F (xfoot p F0 Ak s.A pp.A Ar) w) 0 p m.big m.len m.key m.ls m.lp wr e root pos n m.T Ak ck s pp q F0 w hn rfl hm.T hm.T37 hpo hno hgi).mono ?_
 rintro r w' ⟨rfl, cs', Ar, cr, hv, now, h, hb, hF⟩
 exact ⟨rfl, _, ⟨_, _, _, _, _, _, _, _, _, _, _, _, _, h, rfl⟩, hF, hb⟩
section
variable {w : World} {p : Nat} {m : Xm} {msg root : List UInt8} {pos : Nat} {F : List Nat}
theorem XTk.read (hX : XTk w p m msg F) (hm : m.Ok) (n : Nat) (hn : n ≤ 65536) :
  Calls Tryz.prog 26 #[.pointer (some ⟨p, 0, none⟩), .int .i64 n] w fun r w' => ∃ A k cc, r = .returned (.tuple #[.slice A k cc, .int .i64 (m.readS (m.root msg) 0 n).2]) ∧ (m.readS (m.root msg) 0 n).1.length = k ∧ k ≤ cc ∧ OS cB w' w.heap.size A cc (m.readS (m.root msg) 0 n).1 ∧
   ∃ F', XGv w' p m (m.root msg) (0 + k) F' ∧ Fresh F F' w ∧ But [p] w w' ∧ (∀ a, A = some a → a.block ∉ F') := by
 obtain ⟨wr, e, Ak, ck, s, pp, q, F0, h1, h2, h3, h4⟩ := hX.gives
 exact xRead_core p m hm wr e _ 0 n Ak ck s pp q F F0 w hn (Nat.zero_le _) h1 h2 h3 h4
theorem XGv.read (hX : XGv w p m root pos F) (hm : m.Ok) (hpo : pos ≤ m.T) (n : Nat) (hn : n ≤ 65536) :
  Calls Tryz.prog 26 #[.pointer (some ⟨p, 0, none⟩), .int .i64 n] w fun r w' => ∃ A k cc, r = .returned (.tuple #[.slice A k cc, .int .i64 (m.readS root pos n).2]) ∧ (m.readS root pos n).1.length = k ∧ k ≤ cc ∧ OS cB w' w.heap.size A cc (m.readS root pos n).1 ∧
   ∃ F', XGv w' p m root (pos + k) F' ∧ Fresh F F' w ∧ But [p] w w' ∧ (∀ a, A = some a → a.block ∉ F') := by
 obtain ⟨wr, e, Ak, ck, s, pp, q, F0, h1, h2, h3, h4⟩ := hX.gives
 exact xRead_core p m hm wr e _ pos n Ak ck s pp q F F0 w hn hpo h1 h2 h3 h4
theorem XTk.skip (hX : XTk w p m msg F) (hm : m.Ok) (n : Nat) (hn : n < 18446744073709551616) :
  Calls Tryz.prog 23 #[.pointer (some ⟨p, 0, none⟩), .int .u64 n] w fun r w' => r = .returned (.tuple #[.int .u64 (skipS m.T 0 n).1, .int .i64 (skipS m.T 0 n).2]) ∧ ∃ F', XGv w' p m (m.root msg) (0 + (skipS m.T 0 n).1) F' ∧ Fresh F F' w ∧ But [p] w w' := by
 obtain ⟨wr, e, Ak, ck, s, pp, q, F0, h1, h2, h3, h4⟩ := hX.gives
 exact xSkip_core p m hm wr e _ 0 n Ak ck s pp q F F0 w hn (Nat.zero_le _) h3 h4
theorem XGv.skip (hX : XGv w p m root pos F) (hm : m.Ok) (hpo : pos ≤ m.T) (n : Nat) (hn : n < 18446744073709551616) :
  Calls Tryz.prog 23 #[.pointer (some ⟨p, 0, none⟩), .int .u64 n] w fun r w' => r = .returned (.tuple #[.int .u64 (skipS m.T pos n).1, .int .i64 (skipS m.T pos n).2]) ∧ ∃ F', XGv w' p m root (pos + (skipS m.T pos n).1) F' ∧ Fresh F F' w ∧ But [p] w w' := by
 obtain ⟨wr, e, Ak, ck, s, pp, q, F0, h1, h2, h3, h4⟩ := hX.gives
 exact xSkip_core p m hm wr e _ pos n Ak ck s pp q F F0 w hn hpo h3 h4
theorem XGv.posle (hX : XGv w p m root pos F) : pos ≤ m.T := by obtain ⟨_, _, _, _, _, _, _, _, _, _, _, _, _, h, _⟩ := hX; exact h.hpos
end
end Go.Proofs.YtmapfcdffklopaaGreat
namespace Go.Proofs.YtmapfcdffklopaaGreat
open Go.RowKit
attribute [local go_sem] pureUpon Ords.of

set_option maxRecDepth 20000 in
set_option maxHeartbeats 1000000 in
theorem xnewBad_any (k len : Int) (Ak : Option Addr) (nk ck : Nat) (s p : Sl) (w : World) (hv : xValid k len nk s p ≠ 0) :
  Calls Tryz.prog 17 #[.int .i64 k, .int .i64 len, .slice Ak nk ck, s.v, p.v] w fun r w' => r = .returned (.tuple #[.pointer none, .int .i64 (xValid k len nk s p)]) ∧ Below w.heap.size w w' := by
 have hva := fun W => xvalid_any k len Ak nk ck s p W
 generalize xValid k len nk s p = x at *
 have t1 : (x != 0) = true := by simpa using hv
 have HVA := Lib.hid hva; clear hva hv
 unfold shCells at HVA
 obtain ⟨f, hf⟩ : ∃ f, f = mostOf k := ⟨_, rfl⟩
 rw [← hf] at HVA
 clear hf
 unfold Sl.v at *
 go_enter Tryz.func17, Tryz.ntmps17
 go_wp2_with fail
 refine (HVA.out _).mono ?_
 rintro e1 w1 ⟨c, t, kn, rfl, -, hb1⟩
 have HB := Lib.hid (bal hb1 (.cells #[.int .i64 k, .int .i64 f, .int .u32 c, .int .u64 t, .bool kn] 67)); clear hb1
 go_wp2_with fail
 exact bodyPost_ret (results_tmp2 rfl _ _ _) rfl ⟨rfl, HB.out⟩
def takeS (k len : Int) (key data : List UInt8) (fr0 : Nat) (n : Int) : List UInt8 × Int :=
  if xValid k len key.length noSl noSl ≠ 0 then ([], xValid k len key.length noSl noSl) else
  if n < 0 ∨ 65536 < n then ([], 1) else
  if 0 < n ∧ (Xm.mk (decide (k = 1)) len key [] []).T ≤ fr0 then ([], 70) else
  ((Xm.mk (decide (k = 1)) len key [] []).row ((Xm.mk (decide (k = 1)) len key [] []).root data) fr0 (min n.toNat ((Xm.mk (decide (k = 1)) len key [] []).T - fr0)), 0)
end Go.Proofs.YtmapfcdffklopaaGreat

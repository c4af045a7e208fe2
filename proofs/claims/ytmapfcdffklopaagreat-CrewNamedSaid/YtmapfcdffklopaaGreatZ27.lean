/-
  Z27: contracts and lemmas alone; no statement is claimed here.
-/
import Derived.Test.YtmapfcdffklopaaGreatZxc
import Derived.Test.YtmapfcdffklopaaGreatZ12
import Derived.Test.YtmapfcdffklopaaGreatZ25
namespace Go.Proofs.YtmapfcdffklopaaGreat
open _root_.List renaming eq_nil_of_length_eq_zero → bZA
open _root_.Nat renaming zero_le → aZY
open _root_.List renaming take_of_length_le → aZQ
open _root_.List renaming length_append → aZN
open _root_.Nat renaming le_refl → aZC
theorem St64.feed_append : ∀ (n : Nat) (s : St64) (a b : List UInt8), s.Ok -> a.length <= n -> s.feed (a ++ b) = (s.feed a).feed b
 | 0, s, a, b, _, ha => by
  obtain rfl : a = [] := bZA (by omega)
  rfl
 | n + 1, s, a, b, hs, ha => by
  by_cases h0 : a = []
  ·subst h0; rfl
  have h1 := St64.ready_ok hs;have hl : 0 < a.length := List.length_pos_iff.2 h0;rw [St64.feed_step hs (a ++ b) (by simp [h0]), St64.feed_step hs a h0];generalize hr : s.ready = r at *;obtain ⟨hr1, hr2⟩ := h1
  by_cases hk : 128 - r.held.length <= a.length
  ·have e1 : (a ++ b).drop (128 - r.held.length) = a.drop (128 - r.held.length) ++ b := List.drop_append_of_le_length hk
   have e2 : r.take (a ++ b) = r.take a := by
    unfold St64.take;rw [List.take_append_of_le_length hk]
   rw [e1, e2];exact St64.feed_append n _ _ b (St64.take_ok hr1 _) (by rw [List.length_drop]; omega)
  ·have e0 : a.drop (128 - r.held.length) = [] := List.drop_eq_nil_of_le (by omega)
   rw [e0, St64.feed_nil]
   by_cases hb : b = []
   ·subst hb
    rw [List.append_nil, e0]
   ·have hok := St64.take_ok hr1 a
    have hheld : (r.take a).held = r.held ++ a := by
     show r.held ++ a.take (128 - r.held.length) = _
     rw [aZQ (by omega)]
    have hlen : (r.take a).held.length = r.held.length + a.length := by rw [hheld, aZN]
    have hready : (r.take a).ready = r.take a := by
     unfold St64.ready;rw [if_neg (by omega)]
    rw [St64.feed_step hok b hb, hready];have e3 : (r.take a).take b = r.take (a ++ b) := by
     unfold St64.take
     dsimp only
     rw [aZQ (l := a) (by omega), List.take_append, aZQ (l := a) (by omega), aZN, List.append_assoc, show 128 - r.held.length - a.length = 128 - (r.held.length + a.length) by omega]
    rw [e3, hlen, List.drop_append, e0, List.nil_append, show 128 - r.held.length - a.length = 128 - (r.held.length + a.length) by omega]
theorem St32.feed_append : ∀ (n : Nat) (s : St32) (a b : List UInt8), s.Ok -> a.length <= n -> s.feed (a ++ b) = (s.feed a).feed b
 | 0, s, a, b, _, ha => by
  obtain rfl : a = [] := bZA (by omega)
  rfl
 | n + 1, s, a, b, hs, ha => by
  by_cases h0 : a = []
  ·subst h0; rfl
  have h1 := St32.ready_ok hs;have hl : 0 < a.length := List.length_pos_iff.2 h0;rw [St32.feed_step hs (a ++ b) (by simp [h0]), St32.feed_step hs a h0];generalize hr : s.ready = r at *;obtain ⟨hr1, hr2⟩ := h1
  by_cases hk : 64 - r.held.length <= a.length
  ·have e1 : (a ++ b).drop (64 - r.held.length) = a.drop (64 - r.held.length) ++ b := List.drop_append_of_le_length hk
   have e2 : r.take (a ++ b) = r.take a := by
    unfold St32.take;rw [List.take_append_of_le_length hk]
   rw [e1, e2];exact St32.feed_append n _ _ b (St32.take_ok hr1 _) (by rw [List.length_drop]; omega)
  ·have e0 : a.drop (64 - r.held.length) = [] := List.drop_eq_nil_of_le (by omega)
   rw [e0, St32.feed_nil]
   by_cases hb : b = []
   ·subst hb
    rw [List.append_nil, e0]
   ·have hok := St32.take_ok hr1 a
    have hheld : (r.take a).held = r.held ++ a := by
     show r.held ++ a.take (64 - r.held.length) = _
     rw [aZQ (by omega)]
    have hlen : (r.take a).held.length = r.held.length + a.length := by rw [hheld, aZN]
    have hready : (r.take a).ready = r.take a := by
     unfold St32.ready;rw [if_neg (by omega)]
    rw [St32.feed_step hok b hb, hready];have e3 : (r.take a).take b = r.take (a ++ b) := by
     unfold St32.take
     dsimp only
     rw [aZQ (l := a) (by omega), List.take_append, aZQ (l := a) (by omega), aZN, List.append_assoc, show 64 - r.held.length - a.length = 64 - (r.held.length + a.length) by omega]
    rw [e3, hlen, List.drop_append, e0, List.nil_append, show 64 - r.held.length - a.length = 64 - (r.held.length + a.length) by omega]
def Eng.Ok : Eng -> Prop
  | .big s => s.Ok
  | .small s => s.Ok
theorem Eng.feed_append (e : Eng) (h : e.Ok) (a b : List UInt8) : e.feed (a ++ b) = (e.feed a).feed b := by
 cases e with
 | big s => exact congrArg Eng.big (St64.feed_append _ s a b h (aZC _))
 | small s => exact congrArg Eng.small (St32.feed_append _ s a b h (aZC _))
theorem Eng.feed_nil (e : Eng) : e.feed [] = e := by cases e <;> rfl
theorem Eng.feed_ok (e : Eng) (h : e.Ok) (a : List UInt8) : (e.feed a).Ok := by
 cases e with
 | big s => exact St64.feed_ok _ a h (aZC _)
 | small s => exact St32.feed_ok _ a h (aZC _)
theorem startOf_ok (big : Bool) (x : List UInt8) : (startOf big x).Ok := by
 cases big with
 | true => exact ⟨start64_len x, aZY _⟩
 | false => exact ⟨start32_len x, aZY _⟩
theorem startK_ok (big : Bool) (x key : List UInt8) : (startK big x key).Ok := by
 unfold startK
 split
 ·exact startOf_ok big x
 ·exact Eng.feed_ok _ (startOf_ok big x) _
open Go.RowKit
structure Xm where
  big : Bool
  len : Int
  key : List UInt8
  ls : List UInt8
  lp : List UInt8
def Xm.T (m : Xm) : Nat := totN (kOf m.big) m.len
structure Xm.Ok (m : Xm) : Prop where
  T : xTotal (kOf m.big) m.len = m.T
  C : xCode (kOf m.big) m.len = codN (kOf m.big) m.len
  T2 : 1 <= m.T /\ m.T <= bOf m.big * 4294967296
  C2 : 1 <= codN (kOf m.big) m.len /\ codN (kOf m.big) m.len <= codeMax m.big
  s4 : 4 * m.ls.length <= bOf m.big
  p4 : 4 * m.lp.length <= bOf m.big
  val : ∀ s p : Sl, s.n = m.ls.length -> p.n = m.lp.length -> xValid (kOf m.big) m.len m.key.length s p = 0
theorem Xm.Ok.of {m : Xm} {s p : Sl} (hs : s.n = m.ls.length) (hp : p.n = m.lp.length) (h : xValid (kOf m.big) m.len m.key.length s p = 0) : m.Ok := by
 have ho := xOK_of h;obtain ⟨big, hb, -, hT, hC, hT2, hC2⟩ := xnums ho;have e : m.big = big := by cases hm : m.big <;> cases big <;> first | rfl | (rw [hm] at hb; exact absurd hb (by decide))
 subst e;obtain ⟨h1, h2⟩ := xsalts h;refine ⟨hT, hC, hT2, hC2, by rw [<- hs]; exact h1, by rw [<- hp]; exact h2, fun s' p' e1 e2 => ?_⟩
 by_cases hk : mostOf (kOf m.big) < m.key.length
 ·rw [xValid_key ho hk] at h; exact absurd h (by decide)
 ·rw [xValid_chk ho hk] at h ⊢
  rw [<- h];unfold chk rootP
  dsimp only
  rw [e1, e2, hs, hp]
theorem Xm.Ok.T37 {m : Xm} (h : m.Ok) : m.T <= 274877906944 := by have h1 := h.T2.2; have h2 := (bOf_le m.big).2; generalize bOf m.big = b at h1 h2; generalize m.T = t at h1 ⊢; omega
def Xm.e0 (m : Xm) : Eng := startK m.big (encL m.big (rootP (kOf m.big) m.len m.key.length noSl noSl) m.ls m.lp) m.key
theorem Xm.e0_ok (m : Xm) : m.e0.Ok := startK_ok _ _ _
theorem Xm.e0_full (m : Xm) (msg : List UInt8) : (m.e0.feed msg).full = bOf m.big := by rw [Eng.feed_full]; exact startK_full _ _ _
def Xm.root (m : Xm) (msg : List UInt8) : List UInt8 := ((m.e0.feed msg).out false).take (bOf m.big)
theorem Xm.root_len (m : Xm) (msg : List UInt8) : (m.root msg).length = bOf m.big := by
 unfold Xm.root;rw [List.length_take, Eng.out_len, Xm.e0_full, Nat.min_self]
def Xm.P (m : Xm) (root : List UInt8) (i : Nat) : List UInt8 := pieceL m.big m.len m.ls m.lp root i
def Xm.row (m : Xm) (root : List UInt8) (pos n : Nat) : List UInt8 := rowOf (bOf m.big) (m.P root) pos n
theorem Xm.row_len (m : Xm) (root : List UInt8) (pos n : Nat) : (m.row root pos n).length = n := rowOf_len _ _ _ _
def Fresh (F F' : List Nat) (w : World) : Prop := ∀ k, k ∈ F' -> k ∈ F \/ w.heap.size <= k
theorem Fresh.refl (F : List Nat) (w : World) : Fresh F F w := fun _ h => .inl h
section
variable {w w' : World} {base p : Nat} {big : Bool} {len : Int} {key ls lp : List UInt8} {wr : UInt64} {e : Eng} {root : List UInt8} {pos : Nat} {cs : Array Value} {Ak : Option Addr} {ck : Nat} {s pp : Sl} {q : Nat} {F : List Nat} {Ar : Option Addr} {cr : Nat} {hv : Int} {now : List UInt8}
theorem XT.mono (h : XT w base p big len key ls lp wr e cs Ak ck s pp q F) {B : Nat} (hB : B <= base) : XT w B p big len key ls lp wr e cs Ak ck s pp q F :=
 ⟨h.blk, h.xc, h.hls, h.hlp, h.ok.mono hB, h.os.mono hB, h.op.mono hB, h.fk, h.fs, h.fp, h.nd, Nat.le_trans hB h.hp, fun k hk => Nat.le_trans hB (h.hF k hk), h.pF⟩
theorem XT.flt (h : XT w base p big len key ls lp wr e cs Ak ck s pp q F) : ∀ k, k ∈ xfoot p F Ak s.A pp.A none -> k < w.heap.size := by exact zS76
theorem XT.low (h : XT w base p big len key ls lp wr e cs Ak ck s pp q F) : ∀ k, k ∈ xfoot p F Ak s.A pp.A none -> base <= k := by exact zS77
theorem xfoot_more {F' : List Nat} {Ar' : Option Addr} (hF : ∀ k, k ∈ F' -> k ∈ F \/ w.heap.size <= k) (hA : ∀ a, Ar' = some a -> a.block ∈ xfoot p F Ak s.A pp.A Ar \/ w.heap.size <= a.block) : Fresh (xfoot p F Ak s.A pp.A Ar) (xfoot p F' Ak s.A pp.A Ar') w := by
 intro k hk;rcases mem_xfoot.1 hk with h1 | h1 | h1 | h1 | h1 | ⟨a, h1, h2⟩
 ·exact .inl (mem_xfoot.2 (.inl h1))
 ·rcases hF k h1 with h2 | h2
  ·exact .inl (mem_xfoot.2 (.inr (.inl h2)))
  ·exact .inr h2
 ·exact .inl (mem_xfoot.2 (.inr (.inr (.inl h1))))
 ·exact .inl (mem_xfoot.2 (.inr (.inr (.inr (.inl h1)))))
 ·exact .inl (mem_xfoot.2 (.inr (.inr (.inr (.inr (.inl h1))))))
 ·subst h2; exact hA a h1
end
def XTk (w : World) (p : Nat) (m : Xm) (msg : List UInt8) (F : List Nat) : Prop :=
  ∃ (wr : UInt64) (cs : Array Value) (Ak : Option Addr) (ck : Nat) (s pp : Sl) (q : Nat) (F0 : List Nat), XT w 0 p m.big m.len m.key m.ls m.lp wr (m.e0.feed msg) cs Ak ck s pp q F0 /\ F = xfoot p F0 Ak s.A pp.A none
def XGv (w : World) (p : Nat) (m : Xm) (root : List UInt8) (pos : Nat) (F : List Nat) : Prop :=
  ∃ (wr : UInt64) (e : Eng) (cs : Array Value) (Ak : Option Addr) (ck : Nat) (s pp : Sl) (q : Nat) (F0 : List Nat) (Ar : Option Addr) (cr : Nat) (hv : Int) (now : List UInt8), XG w 0 p m.big m.len m.key m.ls m.lp wr e root pos cs Ak ck s pp q F0 Ar cr hv now /\ F = xfoot p F0 Ak s.A pp.A Ar
section
variable {w w' : World} {p : Nat} {m : Xm} {msg root : List UInt8} {pos : Nat} {F G : List Nat}
theorem XTk.lt (h : XTk w p m msg F) : ∀ k, k ∈ F -> k < w.heap.size := by obtain ⟨_, _, _, _, _, _, _, _, h, rfl⟩ := h; exact h.flt
theorem XTk.here (h : XTk w p m msg F) : p ∈ F := by obtain ⟨_, _, _, _, _, _, _, _, _, rfl⟩ := h; exact mem_xfoot.2 (.inl rfl)
end
theorem xNew (m : Xm) (hm : m.Ok) (Ak : Option Addr) (nk ck : Nat) (s p : Sl) (w : World) (hls : m.ls.length = s.n) (hlp : m.lp.length = p.n) (hrs : RS cB w w.heap.size s.A m.ls) (hrp : RS cB w w.heap.size p.A m.lp) (hk : m.key.length = nk) (hrk : RS cB w w.heap.size Ak m.key) :
  Calls Tryz.prog 17 #[.int .i64 (kOf m.big), .int .i64 m.len, .slice Ak nk ck, s.v, p.v] w fun r w' => ∃ g F, r = .returned (.tuple #[.pointer (some ⟨g, 0, none⟩), .int .i64 0]) /\ XTk w' g m [] F /\ (∀ k, k ∈ F -> w.heap.size <= k) /\ Below w.heap.size w w' := by
 refine (xnew_any m.big m.len m.ls m.lp m.key Ak nk ck s p w (by rw [<- hk]; exact hm.val s p hls.symm hlp.symm) hls hlp hrs hrp hk hrk).mono ?_;rintro r w' ⟨g, cs, Ak2, ck2, s2, p2, q, F, rfl, h, hb⟩;have e : startK m.big (encL m.big (rootP (kOf m.big) m.len nk s2 p2) m.ls m.lp) m.key = m.e0.feed [] := by rw [Eng.feed_nil, <- hk]; rfl
 rw [e] at h;exact ⟨g, _, rfl, ⟨_, _, _, _, _, _, _, _, h.mono (aZY _), rfl⟩, h.low, hb⟩
theorem xWrite {p : Nat} {m : Xm} {msg : List UInt8} {F : List Nat} (Ab : Option Addr) (nb cb : Nat) (L : List UInt8) (w : World) (hX : XTk w p m msg F) (hL : L.length = nb) (hnb : nb <= cb) (hcb : cb <= 9223372036854775807) (hr : RS cB w w.heap.size Ab L) (hfar : L ≠ [] -> ∀ a, Ab = some a -> a.block ∉ F) :
  Calls Tryz.prog 21 #[.pointer (some ⟨p, 0, none⟩), .slice Ab nb cb] w fun r w' => r = .returned (.int .i64 0) /\ ∃ F', XTk w' p m (msg ++ L) F' /\ Fresh F F' w /\ But F w w' := by
 obtain ⟨wr, cs, Ak, ck, s, pp, q, F0, h, rfl⟩ := hX;refine (xwrite_any 0 p m.big m.len m.key m.ls m.lp wr (m.e0.feed msg) cs Ak ck s pp q F0 Ab nb cb L w h (aZY _) hL hnb hcb hr (fun h1 a h2 h3 => hfar h1 a h2 (mem_xfoot.2 (.inr (.inl h3))))).mono ?_;rintro r w' ⟨rfl, F', h', hF', hb⟩;rw [<- Eng.feed_append _ m.e0_ok] at h';exact ⟨rfl, _, ⟨_, _, _, _, _, _, _, _, h', rfl⟩, xfoot_more hF' (fun a h1 => by cases h1), hb.more (fun k hk => .inl (mem_xfoot.2 (.inr (.inl hk))))⟩
def Xm.readS (m : Xm) (root : List UInt8) (pos : Nat) (n : Nat) : List UInt8 × Int := if 0 < n /\ m.T - pos = 0 then ([], 70) else (m.row root pos (min n (m.T - pos)), 0)
theorem XTk.gives {w : World} {p : Nat} {m : Xm} {msg : List UInt8} {F : List Nat} (hX : XTk w p m msg F) : ∃ (wr : UInt64) (e : Eng) (Ak : Option Addr) (ck : Nat) (s pp : Sl) (q : Nat) (F0 : List Nat), m.ls.length = s.n /\ m.lp.length = pp.n /\
  (Calls Tryz.prog 29 #[.pointer (some ⟨p, 0, none⟩)] w fun r w' => r = .returned (.bool false) /\ w = w') /\
  (Calls Tryz.prog 44 #[.pointer (some ⟨p, 0, none⟩)] w fun r w' => r = .returned (.tuple #[]) /\ ∃ cs' Ar cr hv now, XG w' 0 p m.big m.len m.key m.ls m.lp wr e (m.root msg) 0 cs' Ak ck s pp q F0 Ar cr hv now /\ But [p] w w' /\ Fresh F (xfoot p F0 Ak s.A pp.A Ar) w) := by
 obtain ⟨wr, cs, Ak, ck, s, pp, q, F0, h, rfl⟩ := hX;obtain ⟨now, -, hx⟩ := h.xc;refine ⟨wr, m.e0.feed msg, Ak, ck, s, pp, q, F0, h.hls, h.hlp, xnone_any p cs w h.blk _ _ _ hx.c76, ?_⟩;refine (xgive_any 0 p m.big m.len m.key m.ls m.lp wr (m.e0.feed msg) cs Ak ck s pp q F0 w h (aZY _) (m.e0_full msg) (by rw [Eng.out_len, m.e0_full])).mono ?_;rintro r w' ⟨rfl, cs', Ar, cr, hv, now, h', hb, hA⟩;exact ⟨rfl, cs', Ar, cr, hv, now, h', hb, xfoot_more (fun k hk => .inl hk) (fun a ha => .inr (hA a ha))⟩
theorem XGv.gives {w : World} {p : Nat} {m : Xm} {root : List UInt8} {pos : Nat} {F : List Nat} (hX : XGv w p m root pos F) : ∃ (wr : UInt64) (e : Eng) (Ak : Option Addr) (ck : Nat) (s pp : Sl) (q : Nat) (F0 : List Nat), m.ls.length = s.n /\ m.lp.length = pp.n /\
  (Calls Tryz.prog 29 #[.pointer (some ⟨p, 0, none⟩)] w fun r w' => r = .returned (.bool false) /\ w = w') /\
  (Calls Tryz.prog 44 #[.pointer (some ⟨p, 0, none⟩)] w fun r w' => r = .returned (.tuple #[]) /\ ∃ cs' Ar cr hv now, XG w' 0 p m.big m.len m.key m.ls m.lp wr e root pos cs' Ak ck s pp q F0 Ar cr hv now /\ But [p] w w' /\ Fresh F (xfoot p F0 Ak s.A pp.A Ar) w) := by
 obtain ⟨wr, e, cs, Ak, ck, s, pp, q, F0, Ar, cr, hv, now, h, rfl⟩ := hX;refine ⟨wr, e, Ak, ck, s, pp, q, F0, h.hls, h.hlp, xnone_any p cs w h.blk _ _ _ h.xc.c76, ?_⟩;refine (xgiven_any 0 p m.big m.len m.key m.ls m.lp wr e root pos cs Ak ck s pp q F0 Ar cr hv now w h).mono ?_;rintro r w' ⟨rfl, rfl⟩;exact ⟨rfl, cs, Ar, cr, hv, now, h, But.refl _ _, Fresh.refl _ _⟩
theorem xRead_core (p : Nat) (m : Xm) (hm : m.Ok) (wr : UInt64) (e : Eng) (root : List UInt8) (pos n : Nat) (Ak : Option Addr) (ck : Nat) (s pp : Sl) (q : Nat) (F F0 : List Nat) (w : World) (hn : n <= 65536) (hpo : pos <= m.T) (hls : m.ls.length = s.n) (hlp : m.lp.length = pp.n)
  (hno : Calls Tryz.prog 29 #[.pointer (some ⟨p, 0, none⟩)] w fun r w' => r = .returned (.bool false) /\ w = w')
  (hgi : Calls Tryz.prog 44 #[.pointer (some ⟨p, 0, none⟩)] w fun r w' => r = .returned (.tuple #[]) /\ ∃ cs' Ar cr hv now, XG w' 0 p m.big m.len m.key m.ls m.lp wr e root pos cs' Ak ck s pp q F0 Ar cr hv now /\ But [p] w w' /\ Fresh F (xfoot p F0 Ak s.A pp.A Ar) w) :
  Calls Tryz.prog 26 #[.pointer (some ⟨p, 0, none⟩), .int .i64 n] w fun r w' => ∃ A k cc, r = .returned (.tuple #[.slice A k cc, .int .i64 (m.readS root pos n).2]) /\ (m.readS root pos n).1.length = k /\ k <= cc /\ OS cB w' w.heap.size A cc (m.readS root pos n).1 /\
   ∃ F', XGv w' p m root (pos + k) F' /\ Fresh F F' w /\ But [p] w w' /\ (∀ a, A = some a -> a.block ∉ F') := by
 have h37 := hm.T37;have hs4 : 4 * s.n <= bOf m.big := by rw [<- hls]; exact hm.s4
 have hp4 : 4 * pp.n <= bOf m.big := by rw [<- hlp]; exact hm.p4
 by_cases h0 : 0 < n
 ·by_cases hL : m.T - pos = 0
  ·have e1 : m.readS root pos n = ([], 70) := by unfold Xm.readS; rw [if_pos ⟨h0, hL⟩]
   refine (xreadEnd_of (fun Ar => Fresh F (xfoot p F0 Ak s.A pp.A Ar) w) 0 p m.big m.len m.key m.ls m.lp wr e root n m.T Ak ck s pp q F0 w pos hn h0 hm.T (by omega) hno hgi).mono ?_;rintro r w' ⟨rfl, cs', Ar, cr, hv, now, h, hb, hF⟩;rw [e1];exact ⟨none, 0, 0, rfl, rfl, aZC _, OS.nil _ _ _ rfl, _, ⟨_, _, _, _, _, _, _, _, _, _, _, _, _, h, rfl⟩, hF, hb, fun a ha => by cases ha⟩
  ·have e1 : m.readS root pos n = (m.row root pos (min n (m.T - pos)), 0) := by unfold Xm.readS; rw [if_neg (fun h => hL h.2)]
   by_cases hle : n <= m.T - pos
   ·rw [Nat.min_eq_left hle] at e1
    refine (xread_of (fun Ar => Fresh F (xfoot p F0 Ak s.A pp.A Ar) w) 0 p m.big m.len m.key m.ls m.lp wr e root pos n m.T (m.T - pos) Ak ck s pp q F0 w hn rfl hm.T h37 hpo rfl h0 hle hm.T2.2 hm.C hm.C2 hs4 hp4 hno hgi).mono ?_;rintro r w' ⟨A, cc, rfl, hcc, ho, cs', Ar, cr, hv, now, h, hb, hF, hd⟩;rw [e1];exact ⟨A, n, cc, rfl, m.row_len _ _ _, hcc, ho, _, ⟨_, _, _, _, _, _, _, _, _, _, _, _, _, h, rfl⟩, hF, hb, hd⟩
   ·rw [Nat.min_eq_right (by omega)] at e1
    refine (xreadCut_of (fun Ar => Fresh F (xfoot p F0 Ak s.A pp.A Ar) w) 0 p m.big m.len m.key m.ls m.lp wr e root pos n (m.T - pos) m.T (m.T - pos) Ak ck s pp q F0 w hn rfl (by omega) rfl hm.T h37 hpo rfl (by omega) hm.T2.2 hm.C hm.C2 hs4 hp4 hno hgi).mono ?_;rintro r w' ⟨A, cc, rfl, hcc, ho, cs', Ar, cr, hv, now, h, hb, hF, hd⟩;rw [e1];exact ⟨A, m.T - pos, cc, rfl, m.row_len _ _ _, hcc, ho, _, ⟨_, _, _, _, _, _, _, _, _, _, _, _, _, h, rfl⟩, hF, hb, hd⟩
 ·obtain rfl : n = 0 := by omega
  have e1 : m.readS root pos 0 = ([], 0) := by unfold Xm.readS; rw [if_neg (fun h => absurd h.1 (by omega)), Nat.zero_min]; rfl
  refine (xreadNil_of (fun Ar => Fresh F (xfoot p F0 Ak s.A pp.A Ar) w) 0 p m.big m.len m.key m.ls m.lp wr e root pos m.T Ak ck s pp q F0 w hm.T h37 hpo hno hgi).mono ?_;rintro r w' ⟨rfl, cs', Ar, cr, hv, now, h, hb, hF⟩;rw [e1];exact ⟨none, 0, 0, rfl, rfl, aZC _, OS.nil _ _ _ rfl, _, ⟨_, _, _, _, _, _, _, _, _, _, _, _, _, h, rfl⟩, hF, hb, fun a ha => by cases ha⟩
theorem xSkip_core (p : Nat) (m : Xm) (hm : m.Ok) (wr : UInt64) (e : Eng) (root : List UInt8) (pos n : Nat) (Ak : Option Addr) (ck : Nat) (s pp : Sl) (q : Nat) (F F0 : List Nat) (w : World) (hn : n < 18446744073709551616) (hpo : pos <= m.T)
  (hno : Calls Tryz.prog 29 #[.pointer (some ⟨p, 0, none⟩)] w fun r w' => r = .returned (.bool false) /\ w = w')
  (hgi : Calls Tryz.prog 44 #[.pointer (some ⟨p, 0, none⟩)] w fun r w' => r = .returned (.tuple #[]) /\ ∃ cs' Ar cr hv now, XG w' 0 p m.big m.len m.key m.ls m.lp wr e root pos cs' Ak ck s pp q F0 Ar cr hv now /\ But [p] w w' /\ Fresh F (xfoot p F0 Ak s.A pp.A Ar) w) :
  Calls Tryz.prog 23 #[.pointer (some ⟨p, 0, none⟩), .int .u64 n] w fun r w' => r = .returned (.tuple #[.int .u64 (skipS m.T pos n).1, .int .i64 (skipS m.T pos n).2]) /\ ∃ F', XGv w' p m root (pos + (skipS m.T pos n).1) F' /\ Fresh F F' w /\ But [p] w w' := by
 refine (xskip_of (fun Ar => Fresh F (xfoot p F0 Ak s.A pp.A Ar) w) 0 p m.big m.len m.key m.ls m.lp wr e root pos n m.T Ak ck s pp q F0 w hn rfl hm.T hm.T37 hpo hno hgi).mono ?_;rintro r w' ⟨rfl, cs', Ar, cr, hv, now, h, hb, hF⟩;exact ⟨rfl, _, ⟨_, _, _, _, _, _, _, _, _, _, _, _, _, h, rfl⟩, hF, hb⟩
section
variable {w : World} {p : Nat} {m : Xm} {msg root : List UInt8} {pos : Nat} {F : List Nat}
theorem XGv.read (hX : XGv w p m root pos F) (hm : m.Ok) (hpo : pos <= m.T) (n : Nat) (hn : n <= 65536) :
  Calls Tryz.prog 26 #[.pointer (some ⟨p, 0, none⟩), .int .i64 n] w fun r w' => ∃ A k cc, r = .returned (.tuple #[.slice A k cc, .int .i64 (m.readS root pos n).2]) /\ (m.readS root pos n).1.length = k /\ k <= cc /\ OS cB w' w.heap.size A cc (m.readS root pos n).1 /\
   ∃ F', XGv w' p m root (pos + k) F' /\ Fresh F F' w /\ But [p] w w' /\ (∀ a, A = some a -> a.block ∉ F') := by
 obtain ⟨wr, e, Ak, ck, s, pp, q, F0, h1, h2, h3, h4⟩ := hX.gives;exact xRead_core p m hm wr e _ pos n Ak ck s pp q F F0 w hn hpo h1 h2 h3 h4
theorem XTk.skip (hX : XTk w p m msg F) (hm : m.Ok) (n : Nat) (hn : n < 18446744073709551616) :
  Calls Tryz.prog 23 #[.pointer (some ⟨p, 0, none⟩), .int .u64 n] w fun r w' => r = .returned (.tuple #[.int .u64 (skipS m.T 0 n).1, .int .i64 (skipS m.T 0 n).2]) /\ ∃ F', XGv w' p m (m.root msg) (0 + (skipS m.T 0 n).1) F' /\ Fresh F F' w /\ But [p] w w' := by
 obtain ⟨wr, e, Ak, ck, s, pp, q, F0, h1, h2, h3, h4⟩ := hX.gives;exact xSkip_core p m hm wr e _ 0 n Ak ck s pp q F F0 w hn (aZY _) h3 h4
theorem XGv.posle (hX : XGv w p m root pos F) : pos <= m.T := by obtain ⟨_, _, _, _, _, _, _, _, _, _, _, _, _, h, _⟩ := hX; exact h.hpos
theorem XTk.total (hX : XTk w p m msg F) (hm : m.Ok) : w.cell? ⟨p, 3, none⟩ = some (.int .u64 m.T) := by
 obtain ⟨_, _, _, _, _, _, _, _, h, _⟩ := hX;obtain ⟨_, _, hx⟩ := h.xc;rw [<- hm.T];exact (h.blk.cell 3).trans hx.c3
end
end Go.Proofs.YtmapfcdffklopaaGreat

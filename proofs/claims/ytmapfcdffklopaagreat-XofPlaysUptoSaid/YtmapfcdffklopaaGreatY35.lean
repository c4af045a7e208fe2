/-
  Y35: contracts and lemmas alone; no statement is claimed here.
-/
import Derived.Test.YtmapfcdffklopaaGreatY34
import Derived.Test.YtmapfcdffklopaaGreatY16
namespace Go.Proofs.YtmapfcdffklopaaGreat
open Go.RowKit

structure Xm where
  big : Bool
  len : Int
  key : List UInt8
  ls : List UInt8
  lp : List UInt8
def Xm.T (m : Xm) : Nat := totN (kOf m.big) m.len
structure Xm.Ok (m : Xm) : Prop where
  T : xTotal (kOf m.big) m.len = m.T
  C : xCode (kOf m.big) m.len = codN (kOf m.big) m.len
  T2 : 1 ≤ m.T ∧ m.T ≤ bOf m.big * 4294967296
  C2 : 1 ≤ codN (kOf m.big) m.len ∧ codN (kOf m.big) m.len ≤ codeMax m.big
  s4 : 4 * m.ls.length ≤ bOf m.big
  p4 : 4 * m.lp.length ≤ bOf m.big
  val : ∀ s p : Sl, s.n = m.ls.length → p.n = m.lp.length → xValid (kOf m.big) m.len m.key.length s p = 0
theorem Xm.Ok.of {m : Xm} {s p : Sl} (hs : s.n = m.ls.length) (hp : p.n = m.lp.length) (h : xValid (kOf m.big) m.len m.key.length s p = 0) : m.Ok := by
 have ho := xOK_of h
 obtain ⟨big, hb, -, hT, hC, hT2, hC2⟩ := xnums ho
 have e : m.big = big := by cases hm : m.big <;> cases big <;> first | rfl | (rw [hm] at hb; exact absurd hb (by decide))
 subst e
 obtain ⟨h1, h2⟩ := xsalts h
 refine ⟨hT, hC, hT2, hC2, by rw [← hs]; exact h1, by rw [← hp]; exact h2, fun s' p' e1 e2 => ?_⟩
 by_cases hk : mostOf (kOf m.big) < m.key.length
 ·rw [xValid_key ho hk] at h; exact absurd h (by decide)
 ·rw [xValid_chk ho hk] at h ⊢
  rw [← h]
  unfold chk rootP
  dsimp only
  rw [e1, e2, hs, hp]
theorem Xm.Ok.T37 {m : Xm} (h : m.Ok) : m.T ≤ 274877906944 := by have h1 := h.T2.2; have h2 := (bOf_le m.big).2; generalize bOf m.big = b at h1 h2; generalize m.T = t at h1 ⊢; omega
def Xm.e0 (m : Xm) : Eng := startK m.big (encL m.big (rootP (kOf m.big) m.len m.key.length noSl noSl) m.ls m.lp) m.key
theorem Xm.e0_ok (m : Xm) : m.e0.Ok := startK_ok _ _ _
theorem Xm.e0_full (m : Xm) (msg : List UInt8) : (m.e0.feed msg).full = bOf m.big := by rw [Eng.feed_full]; exact startK_full _ _ _
def Xm.root (m : Xm) (msg : List UInt8) : List UInt8 := ((m.e0.feed msg).out false).take (bOf m.big)
theorem Xm.root_len (m : Xm) (msg : List UInt8) : (m.root msg).length = bOf m.big := by
 unfold Xm.root
 rw [List.length_take, Eng.out_len, Xm.e0_full, Nat.min_self]
def Xm.P (m : Xm) (root : List UInt8) (i : Nat) : List UInt8 := pieceL m.big m.len m.ls m.lp root i
def Xm.row (m : Xm) (root : List UInt8) (pos n : Nat) : List UInt8 := rowOf (bOf m.big) (m.P root) pos n
theorem Xm.row_len (m : Xm) (root : List UInt8) (pos n : Nat) : (m.row root pos n).length = n := rowOf_len _ _ _ _
def Fresh (F F' : List Nat) (w : World) : Prop := ∀ k, k ∈ F' → k ∈ F ∨ w.heap.size ≤ k
theorem Fresh.refl (F : List Nat) (w : World) : Fresh F F w := fun _ h => .inl h

section
variable {w w' : World} {base p : Nat} {big : Bool} {len : Int} {key ls lp : List UInt8} {wr : UInt64} {e : Eng} {root : List UInt8} {pos : Nat} {cs : Array Value} {Ak : Option Addr} {ck : Nat} {s pp : Sl} {q : Nat} {F : List Nat} {Ar : Option Addr} {cr : Nat} {hv : Int} {now : List UInt8}
theorem XT.mono (h : XT w base p big len key ls lp wr e cs Ak ck s pp q F) {B : Nat} (hB : B ≤ base) : XT w B p big len key ls lp wr e cs Ak ck s pp q F :=
 ⟨h.blk, h.xc, h.hls, h.hlp, h.ok.mono hB, h.os.mono hB, h.op.mono hB, h.fk, h.fs, h.fp, h.nd, Nat.le_trans hB h.hp, fun k hk => Nat.le_trans hB (h.hF k hk), h.pF⟩
theorem XT.flt (h : XT w base p big len key ls lp wr e cs Ak ck s pp q F) : ∀ k, k ∈ xfoot p F Ak s.A pp.A none → k < w.heap.size := by
 intro k hk
 rcases mem_xfoot.1 hk with h1 | h1 | ⟨a, h1, h2⟩ | ⟨a, h1, h2⟩ | ⟨a, h1, h2⟩ | ⟨a, h1, h2⟩
 ·rw [h1]; exact h.blk.lt
 ·exact h.nd.lt _ h1
 ·rw [← h2]; exact (h.ok.block_lt a h1).2
 ·rw [← h2]; exact (h.os.block_lt a h1).2
 ·rw [← h2]; exact (h.op.block_lt a h1).2
 ·cases h1
theorem XT.low (h : XT w base p big len key ls lp wr e cs Ak ck s pp q F) : ∀ k, k ∈ xfoot p F Ak s.A pp.A none → base ≤ k := by
 intro k hk
 rcases mem_xfoot.1 hk with h1 | h1 | ⟨a, h1, h2⟩ | ⟨a, h1, h2⟩ | ⟨a, h1, h2⟩ | ⟨a, h1, h2⟩
 ·rw [h1]; exact h.hp
 ·exact h.hF _ h1
 ·rw [← h2]; exact (h.ok.block_lt a h1).1
 ·rw [← h2]; exact (h.os.block_lt a h1).1
 ·rw [← h2]; exact (h.op.block_lt a h1).1
 ·cases h1
theorem XT.fbut {G : List Nat} (h : XT w base p big len key ls lp wr e cs Ak ck s pp q F) (hb : But G w w') (hd : ∀ k, k ∈ xfoot p F Ak s.A pp.A none → k ∉ G) : XT w' base p big len key ls lp wr e cs Ak ck s pp q F :=
 ⟨h.blk.but hb (hd _ (mem_xfoot.2 (.inl rfl))), h.xc, h.hls, h.hlp, h.ok.but hb (fun a ha => hd _ (mem_xfoot.2 (.inr (.inr (.inl ⟨a, ha, rfl⟩))))), h.os.but hb (fun a ha => hd _ (mem_xfoot.2 (.inr (.inr (.inr (.inl ⟨a, ha, rfl⟩)))))), h.op.but hb (fun a ha => hd _ (mem_xfoot.2 (.inr (.inr (.inr (.inr (.inl ⟨a, ha, rfl⟩))))))), h.fk, h.fs, h.fp,
  h.nd.but hb (fun _ hk => hd _ (mem_xfoot.2 (.inr (.inl hk)))), h.hp, h.hF, h.pF⟩
theorem xfoot_more {F' : List Nat} {Ar' : Option Addr} (hF : ∀ k, k ∈ F' → k ∈ F ∨ w.heap.size ≤ k) (hA : ∀ a, Ar' = some a → a.block ∈ xfoot p F Ak s.A pp.A Ar ∨ w.heap.size ≤ a.block) : Fresh (xfoot p F Ak s.A pp.A Ar) (xfoot p F' Ak s.A pp.A Ar') w := by
 intro k hk
 rcases mem_xfoot.1 hk with h1 | h1 | h1 | h1 | h1 | ⟨a, h1, h2⟩
 ·exact .inl (mem_xfoot.2 (.inl h1))
 ·rcases hF k h1 with h2 | h2
  ·exact .inl (mem_xfoot.2 (.inr (.inl h2)))
  ·exact .inr h2
 ·exact .inl (mem_xfoot.2 (.inr (.inr (.inl h1))))
 ·exact .inl (mem_xfoot.2 (.inr (.inr (.inr (.inl h1)))))
 ·exact .inl (mem_xfoot.2 (.inr (.inr (.inr (.inr (.inl h1))))))
 ·subst h2; exact hA a h1
end
def XTk (w : World) (p : Nat) (m : Xm) (msg : List UInt8) (F : List Nat) : Prop :=
  ∃ (wr : UInt64) (cs : Array Value) (Ak : Option Addr) (ck : Nat) (s pp : Sl) (q : Nat) (F0 : List Nat), XT w 0 p m.big m.len m.key m.ls m.lp wr (m.e0.feed msg) cs Ak ck s pp q F0 ∧ F = xfoot p F0 Ak s.A pp.A none
def XGv (w : World) (p : Nat) (m : Xm) (root : List UInt8) (pos : Nat) (F : List Nat) : Prop :=
  ∃ (wr : UInt64) (e : Eng) (cs : Array Value) (Ak : Option Addr) (ck : Nat) (s pp : Sl) (q : Nat) (F0 : List Nat) (Ar : Option Addr) (cr : Nat) (hv : Int) (now : List UInt8), XG w 0 p m.big m.len m.key m.ls m.lp wr e root pos cs Ak ck s pp q F0 Ar cr hv now ∧ F = xfoot p F0 Ak s.A pp.A Ar
section
variable {w w' : World} {p : Nat} {m : Xm} {msg root : List UInt8} {pos : Nat} {F G : List Nat}
theorem XTk.lt (h : XTk w p m msg F) : ∀ k, k ∈ F → k < w.heap.size := by obtain ⟨_, _, _, _, _, _, _, _, h, rfl⟩ := h; exact h.flt
theorem XGv.lt (h : XGv w p m root pos F) : ∀ k, k ∈ F → k < w.heap.size := by obtain ⟨_, _, _, _, _, _, _, _, _, _, _, _, _, h, rfl⟩ := h; exact h.lt
theorem XTk.here (h : XTk w p m msg F) : p ∈ F := by obtain ⟨_, _, _, _, _, _, _, _, _, rfl⟩ := h; exact mem_xfoot.2 (.inl rfl)
theorem XGv.here (h : XGv w p m root pos F) : p ∈ F := by obtain ⟨_, _, _, _, _, _, _, _, _, _, _, _, _, _, rfl⟩ := h; exact mem_xfoot.2 (.inl rfl)
theorem XTk.but (h : XTk w p m msg F) (hb : But G w w') (hd : ∀ k, k ∈ F → k ∉ G) : XTk w' p m msg F := by
 obtain ⟨a1, a2, a3, a4, a5, a6, a7, a8, h, rfl⟩ := h
 exact ⟨a1, a2, a3, a4, a5, a6, a7, a8, h.fbut hb hd, rfl⟩
theorem XGv.but (h : XGv w p m root pos F) (hb : But G w w') (hd : ∀ k, k ∈ F → k ∉ G) : XGv w' p m root pos F := by
 obtain ⟨a1, a2, a3, a4, a5, a6, a7, a8, a9, a10, a11, a12, a13, h, rfl⟩ := h
 exact ⟨a1, a2, a3, a4, a5, a6, a7, a8, a9, a10, a11, a12, a13, h.but hb hd, rfl⟩
theorem XTk.below (h : XTk w p m msg F) (hb : Below w.heap.size w w') : XTk w' p m msg F := h.but (But.of hb []) (fun _ _ hm => by cases hm)
end
theorem xNew (m : Xm) (hm : m.Ok) (Ak : Option Addr) (nk ck : Nat) (s p : Sl) (w : World) (hls : m.ls.length = s.n) (hlp : m.lp.length = p.n) (hrs : RS cB w w.heap.size s.A m.ls) (hrp : RS cB w w.heap.size p.A m.lp) (hk : m.key.length = nk) (hrk : RS cB w w.heap.size Ak m.key) :
  Calls Tryz.prog 17 #[.int .i64 (kOf m.big), .int .i64 m.len, .slice Ak nk ck, s.v, p.v] w fun r w' => ∃ g F, r = .returned (.tuple #[.pointer (some ⟨g, 0, none⟩), .int .i64 0]) ∧ XTk w' g m [] F ∧ (∀ k, k ∈ F → w.heap.size ≤ k) ∧ Below w.heap.size w w' := by
 refine (xnew_any m.big m.len m.ls m.lp m.key Ak nk ck s p w (by rw [← hk]; exact hm.val s p hls.symm hlp.symm) hls hlp hrs hrp hk hrk).mono ?_
 rintro r w' ⟨g, cs, Ak2, ck2, s2, p2, q, F, rfl, h, hb⟩
 have e : startK m.big (encL m.big (rootP (kOf m.big) m.len nk s2 p2) m.ls m.lp) m.key = m.e0.feed [] := by rw [Eng.feed_nil, ← hk]; rfl
 rw [e] at h
 exact ⟨g, _, rfl, ⟨_, _, _, _, _, _, _, _, h.mono (Nat.zero_le _), rfl⟩, h.low, hb⟩
theorem xWrite {p : Nat} {m : Xm} {msg : List UInt8} {F : List Nat} (Ab : Option Addr) (nb cb : Nat) (L : List UInt8) (w : World) (hX : XTk w p m msg F) (hL : L.length = nb) (hnb : nb ≤ cb) (hcb : cb ≤ 9223372036854775807) (hr : RS cB w w.heap.size Ab L) (hfar : L ≠ [] → ∀ a, Ab = some a → a.block ∉ F) :
  Calls Tryz.prog 21 #[.pointer (some ⟨p, 0, none⟩), .slice Ab nb cb] w fun r w' => r = .returned (.int .i64 0) ∧ ∃ F', XTk w' p m (msg ++ L) F' ∧ Fresh F F' w ∧ But F w w' := by
 obtain ⟨wr, cs, Ak, ck, s, pp, q, F0, h, rfl⟩ := hX
 refine (xwrite_any 0 p m.big m.len m.key m.ls m.lp wr (m.e0.feed msg) cs Ak ck s pp q F0 Ab nb cb L w h (Nat.zero_le _) hL hnb hcb hr (fun h1 a h2 h3 => hfar h1 a h2 (mem_xfoot.2 (.inr (.inl h3))))).mono ?_
 rintro r w' ⟨rfl, F', h', hF', hb⟩
 rw [← Eng.feed_append _ m.e0_ok] at h'
 exact ⟨rfl, _, ⟨_, _, _, _, _, _, _, _, h', rfl⟩, xfoot_more hF' (fun a h1 => by cases h1), hb.more (fun k hk => .inl (mem_xfoot.2 (.inr (.inl hk))))⟩
end Go.Proofs.YtmapfcdffklopaaGreat

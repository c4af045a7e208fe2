/-
  Y40: contracts and lemmas alone; no statement is claimed here.
-/
import Derived.Test.YtboihcigcfmhhaaGreatY16
import Derived.Test.YtboihcigcfmhhaaGreatY34
import Derived.Test.YtboihcigcfmhhaaGreatY39
namespace Go.Proofs.YtboihcigcfmhhaaGreat
open _root_.Nat renaming lt_of_lt_of_le → aZO
open Lib renaming hid -> zH
open Go.RowKit
attribute [local go_sem] pureUpon Ords.of
set_option maxRecDepth 20000 in
set_option maxHeartbeats 4000000 in
theorem resetS_any (p d : Nat) (big last : Bool) (x key : List UInt8) (wr : UInt64) (e : Eng) (R F : List Nat) (w : World) (hN : NdS w p big d x key last wr e R F) (hx : x.length = bOf big) (hk : key.length <= 2 * bOf big) :
  Calls Tryz.prog 22 #[.pointer (some ⟨p, 0, none⟩)] w fun r w' => r = .returned (.int .i64 0) /\ ∃ F', NdS w' p big d x key false 0 (startK big x key) R F' /\ (∀ k, k ∈ F' -> k ∈ F \/ w.heap.size <= k) /\ But F w w' := by
 obtain ⟨Ax, Ak, nx, nk, cx, ck, g, A, c, hNN, rfl, rfl⟩ := hN;have hb := hNN.blk;have hno := fun (T : TypeId) (v : Value) h6 => noneSame_any p T v _ w hb h6
 have hno2 := hno e.T (.pointer (some ⟨g, 0, none⟩)) rfl;have hbe := beginF_any p 0 d big last wr _ x key Ax Ak nx nk cx ck w hb hNN.lx (by rw [<- hNN.lx]; exact hx.symm) hNN.lk (by rw [<- hNN.lk]; exact hk) (hNN.ox.mono (Nat.zero_le _)) (hNN.ok.mono (Nat.zero_le _)) (Nat.zero_le _);have HNO := zH hno2; have HBE := zH hbe;clear hno hno2 hbe hb hNN hx hk;go_enter Tryz.func22, Tryz.ntmps22;go_wp2_with (first
  | (go_at_call 27; refine HNO.mono ?_; rintro e0 w0 ⟨rfl, rfl⟩)
  | (go_at_call 35; refine HBE.mono ?_; rintro e1 w1 ⟨rfl, g1, A1, c1, hN1, hgr, hg1, hA1⟩))
 refine bodyPost_ret (results_tmp rfl _ _ _) rfl ⟨rfl, p :: g1 :: obl A1, ⟨Ax, Ak, nx, nk, cx, ck, g1, A1, c1, hN1, rfl, rfl⟩, ?_, But.grown2 hgr (fun k hk => by injection hk with hk; exact mem_wf.2 (.inl hk.symm)) (fun k hk => by cases hk)⟩;intro k hk;rcases mem_wf.1 hk with h | h | ⟨a, h1, h2⟩
 ·exact .inl (mem_wf.2 (.inl h))
 ·exact .inr (by rw [h]; exact hg1)
 ·exact .inr (by rw [<- h2]; exact hA1 a h1)
structure NPm where
  big : Bool
  d : Nat
  pr : Pr
  ls : List UInt8
  lp : List UInt8
  key : List UInt8
  Ak : Option Addr
  nk : Nat
  ck : Nat
structure NSt where
  last : Bool
  data : List UInt8
namespace NPm
def x (m : NPm) : List UInt8 := encL m.big m.pr m.ls m.lp
def e (m : NPm) (data : List UInt8) : Eng := (startK m.big m.x m.key).feed data
structure Ok (m : NPm) : Prop where
  chk : chk (kOf m.big) m.pr = 0
  fit : m.pr.Fit
  d : m.pr.digest = m.d
  ls : m.ls.length = m.pr.salt.n
  lp : m.lp.length = m.pr.pers.n
  key : m.key.length = m.nk
  keyd : m.nk = 0 \/ (m.nk : Int) = m.pr.key
section
variable {m : NPm} (h : m.Ok)
include h
theorem Ok.nkb : m.nk <= bOf m.big := by have := chk_range h.chk; rcases h.keyd with h1 | h1 <;> omega
theorem Ok.db : 1 <= m.d /\ m.d <= bOf m.big := by have := chk_range h.chk; have := h.d; omega
theorem Ok.xlen : m.x.length = bOf m.big := by
 have hr := chk_range h.chk; have h1 := h.ls; have h2 := h.lp;exact encL_len m.big m.pr m.ls m.lp (by omega) (by omega)
omit h in
theorem full_ (data : List UInt8) : (m.e data).full = bOf m.big := by unfold e; rw [Eng.feed_full, startK_full]
theorem Ok.sv (data : List UInt8) (hd : data.length < 2 ^ 60) : (m.e data).Sv m.big m.x m.key :=
 sv_fed m.big m.x m.key data h.xlen (by have := h.nkb; rw [h.key]; omega) hd
omit h in
theorem feed_ (a b : List UInt8) : (m.e a).feed b = m.e (a ++ b) := (Eng.feed_append (startK m.big m.x m.key) (startK_ok m.big _ _) a b).symm
omit h in
theorem e_nil : m.e [] = startK m.big m.x m.key := by unfold e; cases startK m.big m.x m.key <;> rfl
end
end NPm
def NX (w : World) (p : Nat) (m : NPm) (t : NSt) (R F : List Nat) : Prop := NdS w p m.big m.d m.x m.key t.last (UInt64.ofNat t.data.length) (m.e t.data) R F
def NR (w : World) (H q : Nat) (m : NPm) (t : NSt) (Am : Option Addr) (nm cm : Nat) : Prop := ∃ base, H <= base /\ RN w base q m.big m.pr m.ls m.lp m.key m.Ak m.nk m.ck t.last (keyL m.big m.key ++ t.data) Am nm cm (UInt64.ofNat t.data.length) /\ RS cB w H m.pr.salt.A m.ls /\ RS cB w H m.pr.pers.A m.lp
section
variable {w w' : World} {H q nm cm : Nat} {m : NPm} {t : NSt} {Am : Option Addr} {G : List Nat}
theorem NR.blk (h : NR w H q m t Am nm cm) : Blk w q 43 (rnCells m.big m.pr (.slice m.Ak m.nk m.ck) t.last (.slice Am nm cm) (UInt64.ofNat t.data.length)) := by obtain ⟨_, _, h, _⟩ := h; exact h.blk
theorem NR.lo (h : NR w H q m t Am nm cm) : H <= q := by obtain ⟨_, h1, h, _⟩ := h; exact Nat.le_trans h1 h.lo
theorem NR.own (h : NR w H q m t Am nm cm) : OS cB w H Am cm (keyL m.big m.key ++ t.data) := by obtain ⟨_, h1, h, _⟩ := h; exact h.own.mono h1
theorem NR.len (h : NR w H q m t Am nm cm) : (keyL m.big m.key ++ t.data).length = nm := by obtain ⟨_, _, h, _⟩ := h; exact h.len
theorem NR.ky (h : NR w H q m t Am nm cm) (h0 : m.key ≠ []) : ∀ a, m.Ak = some a -> a.block < w.heap.size /\ a.block ≠ q /\ ∀ b, Am = some b -> b.block ≠ a.block := by
 obtain ⟨base, h1, h, _⟩ := h;intro a ha;obtain ⟨c, y, hA, hlt, -, -⟩ := h.key.at_ (k := 0) (List.length_pos_iff.2 h0);rw [hA] at ha; injection ha with ha
 rw [<- ha];have h2 := h.lo; have h3 := h.blk.lt;exact ⟨by omega, by omega, fun b hb e => by have := (h.own.block_lt b hb).1; omega⟩
theorem NR.but (h : NR w H q m t Am nm cm) (hb : But G w w') (hq : q ∉ G) (hA : ∀ a, Am = some a -> a.block ∉ G) (hK : m.key ≠ [] -> ∀ a, m.Ak = some a -> a.block ∉ G) (hG : ∀ k, k ∈ G -> H <= k) : NR w' H q m t Am nm cm := by
 obtain ⟨base, h1, h, h2, h3⟩ := h;have hl : base <= w.heap.size := Nat.le_trans h.lo (Nat.le_of_lt h.blk.lt);have hB := hb.toBelow (Nat.le_trans h1 hl) hG;have hk : RS cB w' base m.Ak m.key := by
  by_cases h0 : m.key = []
  ·have h4 := h.key
   rw [h0] at h4 ⊢;exact ⟨rfl, fun hn => absurd hn (by decide)⟩
  ·exact h.key.but hl hb (hK h0)
 exact ⟨base, h1, ⟨h.blk.but hb hq, h.lo, (h2.below hB).more h1, (h3.below hB).more h1, hk, h.own.but hb hA, h.len, h.far⟩, h2.below hB, h3.below hB⟩
end
structure PN (H : Nat) (w0 w : World) (p q : Nat) (m : NPm) (t t2 : NSt) (R F : List Nat) (Am : Option Addr) (nm cm : Nat) : Prop where
  x : NX w p m t R F
  r : NR w H q m t2 Am nm cm
  hF : ∀ k, k ∈ F -> H <= k
  hR : ∀ k, k ∈ R -> H <= k
  qF : q ∉ F
  qR : q ∉ R
  aF : ∀ b, Am = some b -> b.block ∉ F
  aR : ∀ b, Am = some b -> b.block ∉ R
  aK : m.key ≠ [] -> ∀ a, m.Ak = some a -> a.block ∉ F /\ a.block ∉ R
  bel : Below H w0 w
section
variable {H : Nat} {w0 w w' : World} {p q : Nat} {m : NPm} {t t2 : NSt} {R F G : List Nat} {Am : Option Addr} {nm cm : Nat}
theorem PN.hH (h : PN H w0 w p q m t t2 R F Am nm cm) : H <= w.heap.size := Nat.le_trans h.r.lo (Nat.le_of_lt h.r.blk.lt)
theorem PN.fresh (h : PN H w0 w p q m t t2 R F Am nm cm) {k : Nat} (hk : w.heap.size <= k) : H <= k /\ k ∉ F /\ k ∉ R /\ k ≠ q /\ (∀ b, Am = some b -> b.block ≠ k) /\ (m.key ≠ [] -> ∀ a, m.Ak = some a -> a.block ≠ k) :=
 ⟨Nat.le_trans h.hH hk, fun hm => Nat.lt_irrefl _ (aZO (NdS.lt h.x k hm) hk), fun hm => Nat.lt_irrefl _ (aZO (NdS.ltR h.x k hm) hk), fun e => Nat.lt_irrefl _ (aZO h.r.blk.lt (e ▸ hk)), fun b hb e => Nat.lt_irrefl _ (aZO (h.r.own.block_lt b hb).2 (e ▸ hk)), fun h0 a ha e => Nat.lt_irrefl _ (aZO (h.r.ky h0 a ha).1 (e ▸ hk))⟩
theorem PN.but (h : PN H w0 w p q m t t2 R F Am nm cm) (hb : But G w w') (hG : ∀ k, k ∈ G -> H <= k /\ k ∉ F /\ k ∉ R /\ k ≠ q /\ (∀ b, Am = some b -> b.block ≠ k) /\ (m.key ≠ [] -> ∀ a, m.Ak = some a -> a.block ≠ k)) : PN H w0 w' p q m t t2 R F Am nm cm :=
 ⟨NdS.but h.x hb (fun k hk hg => (hG k hg).2.2.1 hk) (fun k hk hg => (hG k hg).2.1 hk), h.r.but hb (fun hg => (hG _ hg).2.2.2.1 rfl) (fun a ha hg => (hG _ hg).2.2.2.2.1 a ha rfl) (fun h0 a ha hg => (hG _ hg).2.2.2.2.2 h0 a ha rfl) (fun k hk => (hG k hk).1), h.hF, h.hR, h.qF, h.qR, h.aF, h.aR, h.aK, h.bel.trans (hb.toBelow h.hH (fun k hk => (hG k hk).1))⟩
theorem PN.below (h : PN H w0 w p q m t t2 R F Am nm cm) (hb : Below w.heap.size w w') : PN H w0 w' p q m t t2 R F Am nm cm := h.but (But.of hb []) (fun _ hk => by cases hk)
theorem PN.ref (h : PN H w0 w p q m t t2 R F Am nm cm) {p' : Nat} {t' : NSt} {R' F' G : List Nat} (hx : NX w' p' m t' R' F') (hf : ∀ k, k ∈ F' -> k ∈ F \/ w.heap.size <= k) (hr : ∀ k, k ∈ R' -> k ∈ R \/ w.heap.size <= k) (hb : But G w w') (hG : ∀ k, k ∈ G -> k ∈ F \/ w.heap.size <= k) :
  PN H w0 w' p' q m t' t2 R' F' Am nm cm := by
 have hGH : ∀ k, k ∈ G -> H <= k := fun k hk => by
  rcases hG k hk with h1 | h1
  ·exact h.hF k h1
  ·exact (h.fresh h1).1
 refine ⟨hx, h.r.but hb (fun hg => ?_) (fun a ha hg => ?_) (fun h0 a ha hg => ?_) hGH, fun k hk => ?_, fun k hk => ?_, fun hk => ?_, fun hk => ?_, fun b hb hk => ?_, fun b hb hk => ?_, fun h0 a ha => ⟨fun hk => ?_, fun hk => ?_⟩, h.bel.trans (hb.toBelow h.hH hGH)⟩
 ·rcases hG _ hg with h1 | h1
  ·exact h.qF h1
  ·exact (h.fresh h1).2.2.2.1 rfl
 ·rcases hG _ hg with h1 | h1
  ·exact h.aF a ha h1
  ·exact (h.fresh h1).2.2.2.2.1 a ha rfl
 ·rcases hG _ hg with h1 | h1
  ·exact (h.aK h0 a ha).1 h1
  ·exact (h.fresh h1).2.2.2.2.2 h0 a ha rfl
 ·rcases hf k hk with h1 | h1
  ·exact h.hF k h1
  ·exact (h.fresh h1).1
 ·rcases hr k hk with h1 | h1
  ·exact h.hR k h1
  ·exact (h.fresh h1).1
 ·rcases hf _ hk with h1 | h1
  ·exact h.qF h1
  ·exact (h.fresh h1).2.2.2.1 rfl
 ·rcases hr _ hk with h1 | h1
  ·exact h.qR h1
  ·exact (h.fresh h1).2.2.2.1 rfl
 ·rcases hf _ hk with h1 | h1
  ·exact h.aF b hb h1
  ·exact (h.fresh h1).2.2.2.2.1 b hb rfl
 ·rcases hr _ hk with h1 | h1
  ·exact h.aR b hb h1
  ·exact (h.fresh h1).2.2.2.2.1 b hb rfl
 ·rcases hf _ hk with h1 | h1
  ·exact (h.aK h0 a ha).1 h1
  ·exact (h.fresh h1).2.2.2.2.2 h0 a ha rfl
 ·rcases hr _ hk with h1 | h1
  ·exact (h.aK h0 a ha).2 h1
  ·exact (h.fresh h1).2.2.2.2.2 h0 a ha rfl
theorem PN.went (h : PN H w0 w p q m t t2 R F Am nm cm) {t3 : NSt} {Am' : Option Addr} {nm' cm' : Nat} {G : List Nat} (hr : NR w' H q m t3 Am' nm' cm') (hb : But G w w') (hG : ∀ k, k ∈ G -> k = q \/ k ∈ obl Am \/ w.heap.size <= k) (hA : ∀ b, Am' = some b -> b.block ∈ obl Am \/ w.heap.size <= b.block) :
  PN H w0 w' p q m t t3 R F Am' nm' cm' := by
 have hn : ∀ k, k ∈ G -> H <= k /\ k ∉ F /\ k ∉ R := fun k hk => by
  rcases hG k hk with h1 | h1 | h1
  ·rw [h1]; exact ⟨h.r.lo, h.qF, h.qR⟩
  ·obtain ⟨b, h2, h3⟩ := mem_obl.1 h1
   rw [<- h3]; exact ⟨(h.r.own.block_lt b h2).1, h.aF b h2, h.aR b h2⟩
  ·exact ⟨(h.fresh h1).1, (h.fresh h1).2.1, (h.fresh h1).2.2.1⟩
 refine ⟨NdS.but h.x hb (fun k hk hg => (hn k hg).2.2 hk) (fun k hk hg => (hn k hg).2.1 hk), hr, h.hF, h.hR, h.qF, h.qR, fun b hb hk => ?_, fun b hb hk => ?_, h.aK, h.bel.trans (hb.toBelow h.hH (fun k hg => (hn k hg).1))⟩
 ·rcases hA b hb with h1 | h1
  ·obtain ⟨c, h2, h3⟩ := mem_obl.1 h1; exact h.aF c h2 (by rw [h3]; exact hk)
  ·exact (h.fresh h1).2.1 hk
 ·rcases hA b hb with h1 | h1
  ·obtain ⟨c, h2, h3⟩ := mem_obl.1 h1; exact h.aR c h2 (by rw [h3]; exact hk)
  ·exact (h.fresh h1).2.2.1 hk
end
end Go.Proofs.YtboihcigcfmhhaaGreat

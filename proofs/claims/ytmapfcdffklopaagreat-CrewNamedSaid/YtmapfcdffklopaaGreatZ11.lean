/-
  Z11: contracts and lemmas alone; no statement is claimed here.
-/
import Derived.Test.YtmapfcdffklopaaGreatZx
import Derived.Test.YtmapfcdffklopaaGreatZxc
import Derived.Test.YtmapfcdffklopaaGreatZ0
import Derived.Test.YtmapfcdffklopaaGreatZ1
import Derived.Test.YtmapfcdffklopaaGreatZ9
import Derived.Deep.CutRange
set_option maxHeartbeats 4000000
set_option maxRecDepth 20000
namespace Go.Proofs.YtmapfcdffklopaaGreat
open Go.World renaming setCells → cZI
open _root_.Option.some renaming injEq → bZU
open _root_.UInt64 renaming ofNat → bZD
open _root_.List renaming eq_nil_of_length_eq_zero → bZA
open _root_.List renaming length_drop → aZS
open _root_.List renaming length_take → aZJ
open Go renaming wpList_store_row → aZE
open _root_.Nat renaming le_refl → aZC
open Lib renaming hid -> zH
structure St32 where
  H : List UInt32
  lo : UInt64
  hi : UInt64
  held : List UInt8
def St32.full (s : St32) : St32 := ⟨comp32 s.H (words3 s.held 16) (addLo s.lo 64) false false, addLo s.lo 64, addHi s.lo s.hi 64, []⟩
def St32.ready (s : St32) : St32 := if s.held.length = 64 then s.full else s
def St32.take (s : St32) (b : List UInt8) : St32 := { s with held := s.held ++ b.take (64 - s.held.length) }
def St32.feedN : Nat -> St32 -> List UInt8 -> St32
  | 0, s, _ => s
  | k + 1, s, b => if b = [] then s else St32.feedN k (s.ready.take b) (b.drop (64 - s.ready.held.length))
def St32.feed (s : St32) (b : List UInt8) : St32 := s.feedN b.length b
structure St32.Ok (s : St32) : Prop where
  H : s.H.length = 8
  held : s.held.length <= 64
theorem St32.full_ok (s : St32) : s.full.Ok := ⟨comp32_len _ _ _ _ _, Nat.zero_le _⟩
theorem St32.ready_ok {s : St32} (h : s.Ok) : s.ready.Ok /\ s.ready.held.length < 64 := by
 unfold St32.ready
 by_cases h1 : s.held.length = 64
 ·rw [if_pos h1]; exact ⟨s.full_ok, by show 0 < 64; omega⟩
 ·rw [if_neg h1]; exact ⟨h, by have := h.held; omega⟩
theorem St32.take_ok {s : St32} (h : s.Ok) (b : List UInt8) : (s.take b).Ok := ⟨h.H, by unfold St32.take; dsimp only; rw [List.length_append, aZJ]; have := h.held; omega⟩
theorem St32.feedN_more : ∀ (n k : Nat) (s : St32) (b : List UInt8), s.Ok -> b.length <= n -> n <= k -> s.feedN k b = s.feedN n b
 | 0, k, s, b, _, hb, _ => by
  have : b = [] := bZA (by omega);subst this
  cases k <;> simp [St32.feedN]
 | n + 1, 0, _, _, _, _, h => by omega
 | n + 1, k + 1, s, b, hs, hb, hk => by
  unfold St32.feedN
  by_cases h0 : b = []
  ·rw [if_pos h0, if_pos h0]
  ·rw [if_neg h0, if_neg h0]
   have h1 := St32.ready_ok hs;refine St32.feedN_more n k _ _ (St32.take_ok h1.1 _) ?_ (by omega);rw [aZS]; omega
theorem St32.feed_nil (s : St32) : s.feed [] = s := rfl
theorem St32.feed_step {s : St32} (h : s.Ok) (b : List UInt8) (hb : b ≠ []) : s.feed b = (s.ready.take b).feed (b.drop (64 - s.ready.held.length)) := by
 have hl : 0 < b.length := List.length_pos_iff.2 hb;obtain ⟨k, hk⟩ : ∃ k, b.length = k + 1 := ⟨b.length - 1, by omega⟩;have h1 := St32.ready_ok h;have e : s.feed b = s.feedN (k + 1) b := by unfold St32.feed; rw [hk]
 rw [e];unfold St32.feedN;rw [if_neg hb];exact St32.feedN_more _ _ _ _ (St32.take_ok h1.1 _) (by rw [aZS]; exact aZC _) (by rw [aZS]; omega)
theorem St32.feed_ok : ∀ (n : Nat) {s : St32} (b : List UInt8), s.Ok -> b.length <= n -> (s.feed b).Ok
 | 0, s, b, h, hb => by
  have : b = [] := bZA (by omega);subst this; exact h
 | n + 1, s, b, h, hb => by
  by_cases h0 : b = []
  ·subst h0; exact h
  ·rw [St32.feed_step h b h0]
   have h1 := St32.ready_ok h;have hl : 0 < b.length := List.length_pos_iff.2 h0;exact St32.feed_ok n _ (St32.take_ok h1.1 _) (by rw [aZS]; omega)
open Go.RowKit
attribute [local go_sem] pureUpon Ords.of
def hc32 (H : List UInt32) (lo hi : UInt64) (A : Option Addr) (n c : Nat) : Array Value :=
  (H.map wv3 ++ [Value.int .u64 (wrd lo), Value.int .u64 (wrd hi), Value.slice A n c, Value.int .i64 64, Value.func (.func 146) #[] #[], Value.func (.func 147) #[] #[]]).toArray
theorem hc32_size (H : List UInt32) (lo hi : UInt64) (A : Option Addr) (n c : Nat) (hH : H.length = 8) : (hc32 H lo hi A n c).size = 14 := by
 unfold hc32; simp [hH]
theorem hc32_count (H : List UInt32) (lo hi lo' hi' : UInt64) (A : Option Addr) (n c : Nat) (hH : H.length = 8) : laidOver (hc32 H lo hi A n c) 8 [.int .u64 (wrd lo'), .int .u64 (wrd hi')] = hc32 H lo' hi' A n c := by
 apply Array.ext';rw [laidOver_list _ _ _ (by rw [hc32_size _ _ _ _ _ _ hH]; show 10 <= 14; omega)];unfold hc32;simp [hH, List.drop_append]
theorem hc32_state (H F : List UInt32) (lo hi : UInt64) (A : Option Addr) (n c : Nat) (hH : H.length = 8) (hF : F.length = 8) : laidOver (hc32 H lo hi A n c) 0 (wc3 F).toList = hc32 F lo hi A n c := by
 apply Array.ext';have h8 : (wc3 F).toList.length = 8 := by unfold wc3; simp [hF]
 rw [laidOver_list _ _ _ (by rw [hc32_size _ _ _ _ _ _ hH, h8]; omega), h8];unfold hc32 wc3;simp [hH]
theorem hc32_held (H : List UInt32) (lo hi : UInt64) (A A' : Option Addr) (n c n' c' : Nat) (hH : H.length = 8) : (hc32 H lo hi A n c).setIfInBounds 10 (.slice A' n' c') = hc32 H lo hi A' n' c' := by
 apply Array.ext';unfold hc32;simp [hH]
structure E32 (w : World) (base g : Nat) (s : St32) (A : Option Addr) (c : Nat) : Prop where
  blk : Blk w g 226 (hc32 s.H s.lo s.hi A s.held.length c)
  own : OS cB w base A c s.held
  ok : s.Ok
  far : ∀ a, A = some a -> a.block ≠ g
theorem E32.drewN {w : World} {base g c : Nat} {s : St32} {A : Option Addr} (h : E32 w base g s A c) (n : Nat) : E32 (w.drewN n) base g s A c := ⟨h.blk.drewN n, h.own.drewN n, h.ok, h.far⟩
theorem E32.below {w w' : World} {base g c : Nat} {s : St32} {A : Option Addr} (h : E32 w base g s A c) (hb : Below w.heap.size w w') : E32 w' base g s A c := ⟨h.blk.below hb h.blk.lt, h.own.below hb (aZC _), h.ok, h.far⟩
theorem hc32_h (H : List UInt32) (lo hi : UInt64) (A : Option Addr) (n c : Nat) (hH : H.length = 8) : ((hc32 H lo hi A n c).extract 0 (0 + 8)).toList = (wc3 H).toList := by
 unfold hc32 wc3;simp [hH]
theorem hc32_at (H : List UInt32) (lo hi : UInt64) (A : Option Addr) (n c : Nat) (hH : H.length = 8) :
  (hc32 H lo hi A n c)[8]? = some (.int .u64 (wrd lo)) /\ (hc32 H lo hi A n c)[9]? = some (.int .u64 (wrd hi)) /\ (hc32 H lo hi A n c)[10]? = some (.slice A n c) /\ (hc32 H lo hi A n c)[11]? = some (.int .i64 64) /\
  (hc32 H lo hi A n c)[12]? = some (.func (.func 146) #[] #[]) /\ (hc32 H lo hi A n c)[13]? = some (.func (.func 147) #[] #[]) := by
 unfold hc32;have h : (H.map wv3).length = 8 := by simp [hH]
 refine ⟨?_, ?_, ?_, ?_, ?_, ?_⟩ <;> (simp [h])
theorem hc32_c (H : List UInt32) (lo hi : UInt64) (A : Option Addr) (n c : Nat) (hH : H.length = 8) : ((hc32 H lo hi A n c).extract 8 (8 + 2)).toList = [.int .u64 (wrd lo), .int .u64 (wrd hi)] := by
 unfold hc32;simp [hH]
theorem E32.count {w : World} {base g c : Nat} {s : St32} {A : Option Addr} (h : E32 w base g s A c) (lo hi : UInt64) : E32 (w.setCells g 8 [.int .u64 (wrd lo), .int .u64 (wrd hi)]) base g { s with lo := lo, hi := hi } A c := by
 refine ⟨?_, h.own.setCellsFar _ _ h.far, ⟨h.ok.H, h.ok.held⟩, h.far⟩;have h1 := h.blk.setCells [.int .u64 (wrd lo), .int .u64 (wrd hi)] 8
 rwa [hc32_count _ _ _ _ _ _ _ _ h.ok.H] at h1
theorem E32.state {w : World} {base g c : Nat} {s : St32} {A : Option Addr} (h : E32 w base g s A c) (F : List UInt32) (hF : F.length = 8) : E32 (w.setCells g 0 (wc3 F).toList) base g { s with H := F } A c := by
 refine ⟨?_, h.own.setCellsFar _ _ h.far, ⟨hF, h.ok.held⟩, h.far⟩;have h1 := h.blk.setCells (wc3 F).toList 0
 rwa [hc32_state _ _ _ _ _ _ _ h.ok.H hF] at h1
theorem E32.put {w : World} {base g c c' n : Nat} {s : St32} {A A' : Option Addr} {l : List UInt8} (hb : Blk w g 226 (hc32 s.H s.lo s.hi A s.held.length c)) (hH : s.H.length = 8) (ho : OS cB w base A' c' l) (hl : l.length <= 64) (hn : l.length = n) : E32 (w.setCell ⟨g, 10, none⟩ (.slice A' n c')) base g { s with held := l } A' c' := by
 subst hn;have hf := ho.ne_blk hb (by decide);refine ⟨?_, ho.setFar hf _, ⟨hH, hl⟩, hf⟩;have h1 := hb.set_ 10 (.slice A' l.length c')
 rwa [hc32_held _ _ _ _ _ _ _ _ _ hH] at h1
theorem E32.cells {w : World} {base g c : Nat} {s : St32} {A : Option Addr} (h : E32 w base g s A c) : w.cell? ⟨g, 8, none⟩ = some (.int .u64 (wrd s.lo)) /\ w.cell? ⟨g, 9, none⟩ = some (.int .u64 (wrd s.hi)) /\ w.cell? ⟨g, 10, none⟩ = some (.slice A s.held.length c) /\ w.cell? ⟨g, 11, none⟩ = some (.int .i64 64) /\
  w.cell? ⟨g, 12, none⟩ = some (.func (.func 146) #[] #[]) /\ w.cell? ⟨g, 13, none⟩ = some (.func (.func 147) #[] #[]) := by
 obtain ⟨k8, k9, k10, k11, k12, k13⟩ := hc32_at s.H s.lo s.hi A s.held.length c h.ok.H;exact ⟨(h.blk.cell 8).trans k8, (h.blk.cell 9).trans k9, (h.blk.cell 10).trans k10, (h.blk.cell 11).trans k11, (h.blk.cell 12).trans k12, (h.blk.cell 13).trans k13⟩
theorem E32.rangeC {w : World} {base g c : Nat} {s : St32} {A : Option Addr} (h : E32 w base g s A c) : w.rangeAt g 8 [.int .u64 (wrd s.lo), .int .u64 (wrd s.hi)] := by
 have h1 := h.blk.range 8 2
 rwa [hc32_c _ _ _ _ _ _ h.ok.H] at h1
theorem E32.rangeH {w : World} {base g c : Nat} {s : St32} {A : Option Addr} (h : E32 w base g s A c) : w.rangeAt g 0 (wc3 s.H).toList := by
 have h1 := h.blk.range 0 8
 rwa [hc32_h _ _ _ _ _ _ h.ok.H] at h1
theorem E32.there {w : World} {base g c : Nat} {s : St32} {A : Option Addr} (h : E32 w base g s A c) (o n : Nat) (hn : o + n <= 14) : w.there g o n := h.blk.there o n (by rw [hc32_size _ _ _ _ _ _ h.ok.H]; exact hn)
theorem St32.full_eq (s : St32) (hs : s.held.length = 64) : s.ready = { s with H := comp32 s.H (words3 s.held 16) (addLo s.lo 64) false false, lo := addLo s.lo 64, hi := addHi s.lo s.hi 64, held := [] } := by
 unfold St32.ready St32.full;rw [if_pos hs]
theorem St32.wait_eq (s : St32) (hs : s.held.length ≠ 64) : s.ready = s := by
 unfold St32.ready;rw [if_neg hs]
structure Wrote32 (w w' : World) (base g : Nat) (s : St32) (A A' : Option Addr) (c' : Nat) : Prop where
  st : E32 w' base g s A' c'
  gr : Grown2 w w' (some g) (A.map (·.block))
  row : A'.map (·.block) = A.map (·.block) \/ ∀ a, A' = some a -> w.heap.size <= a.block
section
variable {w w1 w2 : World} {base g : Nat} {s : St32} {A A1 : Option Addr} {c1 : Nat}
theorem Wrote32.drewN (h : Wrote32 w w1 base g s A A1 c1) (n : Nat) : Wrote32 w (w1.drewN n) base g s A A1 c1 := ⟨h.st.drewN n, h.gr.drewN n, h.row⟩
theorem Wrote32.below (h : Wrote32 w w1 base g s A A1 c1) (hb : Below w1.heap.size w1 w2) : Wrote32 w w2 base g s A A1 c1 := ⟨h.st.below hb, h.gr.below hb, h.row⟩
theorem Wrote32.count (h : Wrote32 w w1 base g s A A1 c1) (lo hi : UInt64) : Wrote32 w (w1.setCells g 8 [.int .u64 (wrd lo), .int .u64 (wrd hi)]) base g { s with lo := lo, hi := hi } A A1 c1 := ⟨h.st.count lo hi, h.gr.setCells _ _, h.row⟩
theorem Wrote32.state (h : Wrote32 w w1 base g s A A1 c1) (F : List UInt32) (hF : F.length = 8) : Wrote32 w (w1.setCells g 0 (wc3 F).toList) base g { s with H := F } A A1 c1 := ⟨h.st.state F hF, h.gr.setCells _ _, h.row⟩
theorem Wrote32.clear (h : Wrote32 w w1 base g s A A1 c1) : Wrote32 w (w1.setCell ⟨g, 10, none⟩ (.slice A1 (0 : Nat) c1)) base g { s with held := [] } A A1 c1 := by
 have ho := h.st.own.take 0 (Nat.zero_le _);rw [List.take_zero] at ho;exact ⟨E32.put h.st.blk h.st.ok.H ho (Nat.zero_le _) rfl, h.gr.setCell rfl _, h.row⟩
theorem Wrote32.same (h : Wrote32 w w1 base g s A A1 c1) (hg : w1.grownBy w2 (A1.map (·.block))) : Blk w2 g 226 (hc32 s.H s.lo s.hi A1 s.held.length c1) :=
 h.st.blk.grown hg (by
  intro e
  cases hA1 : A1 with
  | none => rw [hA1] at e; cases e
  | some a => rw [hA1] at e; simp only [Option.map_some, bZU] at e; exact h.st.far a hA1 e.symm)
theorem Wrote32.app (h : Wrote32 w w1 base g s A A1 c1) {A3 : Option Addr} {c3 n m : Nat} {k : List UInt8} (ho : OS cB w2 base A3 c3 (s.held ++ k)) (hg : w1.grownBy w2 (A1.map (·.block))) (hA : A3.map (·.block) = A1.map (·.block) \/ A3.map (·.block) = some w1.heap.size) (hn : (s.held ++ k).length = n) (hl : n <= 64) :
  Wrote32 w ((w2.drewN m).setCell ⟨g, 10, none⟩ (.slice A3 n c3)) base g { s with held := s.held ++ k } A A3 c3 := by exact zS52
end
structure In32 (w wr : World) (base g : Nat) (S s1 : St32) (A A1 : Option Addr) (c1 : Nat) (Ab1 : Option Addr) (n1 cb1 : Nat) (r : List UInt8) : Prop where
  len : r.length = n1
  cap : n1 <= cb1
  small : cb1 <= 9223372036854775807
  feed : s1.feed r = S
  st : Wrote32 w wr base g s1 A A1 c1
  rs : RS cB w w.heap.size Ab1 r
  far : ∀ a, Ab1 = some a -> some a.block ≠ some g /\ some a.block ≠ A.map (·.block)
theorem write32_any (g base : Nat) (s : St32) (A : Option Addr) (c : Nat) (Ab : Option Addr) (nb cb : Nat) (L : List UInt8) (w : World) (hE : E32 w base g s A c) (hb : base <= w.heap.size) (hL : L.length = nb) (hnb : nb <= cb) (hcb : cb <= 9223372036854775807) (hr : RS cB w w.heap.size Ab L)
  (hfar : ∀ a, Ab = some a -> some a.block ≠ some g /\ some a.block ≠ A.map (·.block)) :
  Calls Tryz.prog 206 #[.pointer (some ⟨g, 0, none⟩), .slice Ab nb cb] w fun e w' => e = .returned (.tuple #[]) /\ ∃ A' c', Wrote32 w w' base g (s.feed L) A A' c' := by exact zS6
def St32.last (s : St32) (node : Bool) : List UInt32 := comp32 s.H (words3 (padTo s.held 64) 16) (addLo s.lo (bZD s.held.length)) true node
def St32.out (s : St32) (node : Bool) : List UInt8 := flat3 (s.last node)
theorem St32.last_len (s : St32) (node : Bool) : (s.last node).length = 8 := comp32_len _ _ _ _ _
theorem out32_any (g base : Nat) (s : St32) (A : Option Addr) (c : Nat) (node : Bool) (w : World) (hE : E32 w base g s A c) :
  Calls Tryz.prog 204 #[.pointer (some ⟨g, 0, none⟩), .bool node] w fun e w' => ∃ A' c', e = .returned (.slice A' 32 c') /\ OS cB w' w.heap.size A' c' (s.out node) /\ Below w.heap.size w w' := by exact zS3
end Go.Proofs.YtmapfcdffklopaaGreat

/-
  Z9: contracts and lemmas alone; no statement is claimed here.
-/
import Derived.Test.YtmapfcdffklopaaGreatZx
import Derived.Test.YtmapfcdffklopaaGreatZxc
import Derived.Test.YtmapfcdffklopaaGreatZ0
import Derived.Test.YtmapfcdffklopaaGreatZ1
import Derived.Test.YtmapfcdffklopaaGreatZ7
import Derived.Test.YtmapfcdffklopaaGreatZ8
import Derived.Deep.CutRange
set_option maxHeartbeats 4000000
set_option maxRecDepth 20000
namespace Go.Proofs.YtmapfcdffklopaaGreat
open Go.World renaming setCells → cZI
open _root_.Option.some renaming injEq → bZU
open _root_.UInt64 renaming ofNat → bZD
open _root_.List renaming eq_nil_of_length_eq_zero → bZA
open _root_.List renaming length_drop → aZS
open _root_.List renaming length_take → aZJ
open Go renaming wpList_load_row → aZH
open Go renaming wpList_store_row → aZE
open _root_.Nat renaming le_refl → aZC
open Lib renaming hid -> zH
open Go.RowKit
attribute [local go_sem] pureUpon Ords.of
theorem mixBig_any (H : List UInt64) (A : Option Addr) (c B : Nat) (x : List UInt8) (lo hi : UInt64) (last node : Bool) (w : World) (hH : H.length = 8) (hx : x.length = 128) (hB : B <= w.heap.size) (hr : RS cB w B A x) :
  Calls Tryz.prog 143 #[.agg (wcs H), .slice A 128 c, .agg #[.int .u64 (wrd lo), .int .u64 (wrd hi)], .bool last, .bool node] w fun e w' => e = .returned (.agg (wcs (comp64 H (wordsOf x 16) lo hi last node))) /\ Below w.heap.size w w' := by open kA in exact zS45
theorem mixSmall_any (H : List UInt32) (A : Option Addr) (c B : Nat) (x : List UInt8) (lo hi : UInt64) (last node : Bool) (w : World) (hH : H.length = 8) (hx : x.length = 64) (hB : B <= w.heap.size) (hr : RS cB w B A x) :
  Calls Tryz.prog 146 #[.agg (wc3 H), .slice A 64 c, .agg #[.int .u64 (wrd lo), .int .u64 (wrd hi)], .bool last, .bool node] w fun e w' => e = .returned (.agg (wc3 (comp32 H (words3 x 16) lo last node))) /\ Below w.heap.size w w' := by exact zS45
structure St64 where
  H : List UInt64
  lo : UInt64
  hi : UInt64
  held : List UInt8
def St64.full (s : St64) : St64 := ⟨comp64 s.H (wordsOf s.held 16) (addLo s.lo 128) (addHi s.lo s.hi 128) false false, addLo s.lo 128, addHi s.lo s.hi 128, []⟩
def St64.ready (s : St64) : St64 := if s.held.length = 128 then s.full else s
def St64.take (s : St64) (b : List UInt8) : St64 := { s with held := s.held ++ b.take (128 - s.held.length) }
def St64.feedN : Nat -> St64 -> List UInt8 -> St64
  | 0, s, _ => s
  | k + 1, s, b => if b = [] then s else St64.feedN k (s.ready.take b) (b.drop (128 - s.ready.held.length))
def St64.feed (s : St64) (b : List UInt8) : St64 := s.feedN b.length b
structure St64.Ok (s : St64) : Prop where
  H : s.H.length = 8
  held : s.held.length <= 128
theorem St64.full_ok (s : St64) : s.full.Ok := ⟨comp64_len _ _ _ _ _ _, Nat.zero_le _⟩
theorem St64.ready_ok {s : St64} (h : s.Ok) : s.ready.Ok /\ s.ready.held.length < 128 := by
 unfold St64.ready
 by_cases h1 : s.held.length = 128
 ·rw [if_pos h1]; exact ⟨s.full_ok, by show 0 < 128; omega⟩
 ·rw [if_neg h1]; exact ⟨h, by have := h.held; omega⟩
theorem St64.take_ok {s : St64} (h : s.Ok) (b : List UInt8) : (s.take b).Ok := ⟨h.H, by unfold St64.take; dsimp only; rw [List.length_append, aZJ]; have := h.held; omega⟩
theorem St64.feedN_more : ∀ (n k : Nat) (s : St64) (b : List UInt8), s.Ok -> b.length <= n -> n <= k -> s.feedN k b = s.feedN n b
 | 0, k, s, b, _, hb, _ => by
  have : b = [] := bZA (by omega);subst this
  cases k <;> simp [St64.feedN]
 | n + 1, 0, _, _, _, _, h => by omega
 | n + 1, k + 1, s, b, hs, hb, hk => by
  unfold St64.feedN
  by_cases h0 : b = []
  ·rw [if_pos h0, if_pos h0]
  ·rw [if_neg h0, if_neg h0]
   have h1 := St64.ready_ok hs;refine St64.feedN_more n k _ _ (St64.take_ok h1.1 _) ?_ (by omega);rw [aZS]; omega
theorem St64.feed_nil (s : St64) : s.feed [] = s := rfl
theorem St64.feed_step {s : St64} (h : s.Ok) (b : List UInt8) (hb : b ≠ []) : s.feed b = (s.ready.take b).feed (b.drop (128 - s.ready.held.length)) := by
 have hl : 0 < b.length := List.length_pos_iff.2 hb;obtain ⟨k, hk⟩ : ∃ k, b.length = k + 1 := ⟨b.length - 1, by omega⟩;have h1 := St64.ready_ok h;have e : s.feed b = s.feedN (k + 1) b := by unfold St64.feed; rw [hk]
 rw [e];unfold St64.feedN;rw [if_neg hb];exact St64.feedN_more _ _ _ _ (St64.take_ok h1.1 _) (by rw [aZS]; exact aZC _) (by rw [aZS]; omega)
theorem St64.feed_ok : ∀ (n : Nat) {s : St64} (b : List UInt8), s.Ok -> b.length <= n -> (s.feed b).Ok
 | 0, s, b, h, hb => by
  have : b = [] := bZA (by omega);subst this; exact h
 | n + 1, s, b, h, hb => by
  by_cases h0 : b = []
  ·subst h0; exact h
  ·rw [St64.feed_step h b h0]
   have h1 := St64.ready_ok h;have hl : 0 < b.length := List.length_pos_iff.2 h0;exact St64.feed_ok n _ (St64.take_ok h1.1 _) (by rw [aZS]; omega)
def hc64 (H : List UInt64) (lo hi : UInt64) (A : Option Addr) (n c : Nat) : Array Value :=
  (H.map wv ++ [Value.int .u64 (wrd lo), Value.int .u64 (wrd hi), Value.slice A n c, Value.int .i64 128, Value.func (.func 143) #[] #[], Value.func (.func 144) #[] #[]]).toArray
theorem hc64_size (H : List UInt64) (lo hi : UInt64) (A : Option Addr) (n c : Nat) (hH : H.length = 8) : (hc64 H lo hi A n c).size = 14 := by
 unfold hc64; simp [hH]
theorem hc64_count (H : List UInt64) (lo hi lo' hi' : UInt64) (A : Option Addr) (n c : Nat) (hH : H.length = 8) : laidOver (hc64 H lo hi A n c) 8 [.int .u64 (wrd lo'), .int .u64 (wrd hi')] = hc64 H lo' hi' A n c := by
 apply Array.ext';rw [laidOver_list _ _ _ (by rw [hc64_size _ _ _ _ _ _ hH]; show 10 <= 14; omega)];unfold hc64;simp [hH, List.drop_append]
theorem hc64_state (H F : List UInt64) (lo hi : UInt64) (A : Option Addr) (n c : Nat) (hH : H.length = 8) (hF : F.length = 8) : laidOver (hc64 H lo hi A n c) 0 (wcs F).toList = hc64 F lo hi A n c := by
 apply Array.ext';have h8 : (wcs F).toList.length = 8 := by unfold wcs; simp [hF]
 rw [laidOver_list _ _ _ (by rw [hc64_size _ _ _ _ _ _ hH, h8]; omega), h8];unfold hc64 wcs;simp [hH]
theorem hc64_held (H : List UInt64) (lo hi : UInt64) (A A' : Option Addr) (n c n' c' : Nat) (hH : H.length = 8) : (hc64 H lo hi A n c).setIfInBounds 10 (.slice A' n' c') = hc64 H lo hi A' n' c' := by
 apply Array.ext';unfold hc64;simp [hH]
structure E64 (w : World) (base g : Nat) (s : St64) (A : Option Addr) (c : Nat) : Prop where
  blk : Blk w g 219 (hc64 s.H s.lo s.hi A s.held.length c)
  own : OS cB w base A c s.held
  ok : s.Ok
  far : ∀ a, A = some a -> a.block ≠ g
theorem E64.drewN {w : World} {base g c : Nat} {s : St64} {A : Option Addr} (h : E64 w base g s A c) (n : Nat) : E64 (w.drewN n) base g s A c := ⟨h.blk.drewN n, h.own.drewN n, h.ok, h.far⟩
theorem E64.below {w w' : World} {base g c : Nat} {s : St64} {A : Option Addr} (h : E64 w base g s A c) (hb : Below w.heap.size w w') : E64 w' base g s A c := ⟨h.blk.below hb h.blk.lt, h.own.below hb (aZC _), h.ok, h.far⟩
theorem hc64_h (H : List UInt64) (lo hi : UInt64) (A : Option Addr) (n c : Nat) (hH : H.length = 8) : ((hc64 H lo hi A n c).extract 0 (0 + 8)).toList = (wcs H).toList := by
 unfold hc64 wcs;simp [hH]
theorem hc64_at (H : List UInt64) (lo hi : UInt64) (A : Option Addr) (n c : Nat) (hH : H.length = 8) :
  (hc64 H lo hi A n c)[8]? = some (.int .u64 (wrd lo)) /\ (hc64 H lo hi A n c)[9]? = some (.int .u64 (wrd hi)) /\ (hc64 H lo hi A n c)[10]? = some (.slice A n c) /\ (hc64 H lo hi A n c)[11]? = some (.int .i64 128) /\
  (hc64 H lo hi A n c)[12]? = some (.func (.func 143) #[] #[]) /\ (hc64 H lo hi A n c)[13]? = some (.func (.func 144) #[] #[]) := by
 unfold hc64;have h : (H.map wv).length = 8 := by simp [hH]
 refine ⟨?_, ?_, ?_, ?_, ?_, ?_⟩ <;> (simp [h])
theorem hc64_c (H : List UInt64) (lo hi : UInt64) (A : Option Addr) (n c : Nat) (hH : H.length = 8) : ((hc64 H lo hi A n c).extract 8 (8 + 2)).toList = [.int .u64 (wrd lo), .int .u64 (wrd hi)] := by
 unfold hc64;simp [hH]
theorem E64.count {w : World} {base g c : Nat} {s : St64} {A : Option Addr} (h : E64 w base g s A c) (lo hi : UInt64) : E64 (w.setCells g 8 [.int .u64 (wrd lo), .int .u64 (wrd hi)]) base g { s with lo := lo, hi := hi } A c := by
 refine ⟨?_, h.own.setCellsFar _ _ h.far, ⟨h.ok.H, h.ok.held⟩, h.far⟩;have h1 := h.blk.setCells [.int .u64 (wrd lo), .int .u64 (wrd hi)] 8
 rwa [hc64_count _ _ _ _ _ _ _ _ h.ok.H] at h1
theorem E64.state {w : World} {base g c : Nat} {s : St64} {A : Option Addr} (h : E64 w base g s A c) (F : List UInt64) (hF : F.length = 8) : E64 (w.setCells g 0 (wcs F).toList) base g { s with H := F } A c := by
 refine ⟨?_, h.own.setCellsFar _ _ h.far, ⟨hF, h.ok.held⟩, h.far⟩;have h1 := h.blk.setCells (wcs F).toList 0
 rwa [hc64_state _ _ _ _ _ _ _ h.ok.H hF] at h1
theorem E64.put {w : World} {base g c c' n : Nat} {s : St64} {A A' : Option Addr} {l : List UInt8} (hb : Blk w g 219 (hc64 s.H s.lo s.hi A s.held.length c)) (hH : s.H.length = 8) (ho : OS cB w base A' c' l) (hl : l.length <= 128) (hn : l.length = n) : E64 (w.setCell ⟨g, 10, none⟩ (.slice A' n c')) base g { s with held := l } A' c' := by
 subst hn;have hf := ho.ne_blk hb (by decide);refine ⟨?_, ho.setFar hf _, ⟨hH, hl⟩, hf⟩;have h1 := hb.set_ 10 (.slice A' l.length c')
 rwa [hc64_held _ _ _ _ _ _ _ _ _ hH] at h1
theorem E64.cells {w : World} {base g c : Nat} {s : St64} {A : Option Addr} (h : E64 w base g s A c) : w.cell? ⟨g, 8, none⟩ = some (.int .u64 (wrd s.lo)) /\ w.cell? ⟨g, 9, none⟩ = some (.int .u64 (wrd s.hi)) /\ w.cell? ⟨g, 10, none⟩ = some (.slice A s.held.length c) /\ w.cell? ⟨g, 11, none⟩ = some (.int .i64 128) /\
  w.cell? ⟨g, 12, none⟩ = some (.func (.func 143) #[] #[]) /\ w.cell? ⟨g, 13, none⟩ = some (.func (.func 144) #[] #[]) := by
 obtain ⟨k8, k9, k10, k11, k12, k13⟩ := hc64_at s.H s.lo s.hi A s.held.length c h.ok.H;exact ⟨(h.blk.cell 8).trans k8, (h.blk.cell 9).trans k9, (h.blk.cell 10).trans k10, (h.blk.cell 11).trans k11, (h.blk.cell 12).trans k12, (h.blk.cell 13).trans k13⟩
theorem E64.rangeC {w : World} {base g c : Nat} {s : St64} {A : Option Addr} (h : E64 w base g s A c) : w.rangeAt g 8 [.int .u64 (wrd s.lo), .int .u64 (wrd s.hi)] := by
 have h1 := h.blk.range 8 2
 rwa [hc64_c _ _ _ _ _ _ h.ok.H] at h1
theorem E64.rangeH {w : World} {base g c : Nat} {s : St64} {A : Option Addr} (h : E64 w base g s A c) : w.rangeAt g 0 (wcs s.H).toList := by
 have h1 := h.blk.range 0 8
 rwa [hc64_h _ _ _ _ _ _ h.ok.H] at h1
theorem E64.there {w : World} {base g c : Nat} {s : St64} {A : Option Addr} (h : E64 w base g s A c) (o n : Nat) (hn : o + n <= 14) : w.there g o n := h.blk.there o n (by rw [hc64_size _ _ _ _ _ _ h.ok.H]; exact hn)
theorem St64.full_eq (s : St64) (hs : s.held.length = 128) : s.ready = { s with H := comp64 s.H (wordsOf s.held 16) (addLo s.lo 128) (addHi s.lo s.hi 128) false false, lo := addLo s.lo 128, hi := addHi s.lo s.hi 128, held := [] } := by
 unfold St64.ready St64.full;rw [if_pos hs]
theorem St64.wait_eq (s : St64) (hs : s.held.length ≠ 128) : s.ready = s := by
 unfold St64.ready;rw [if_neg hs]
structure Wrote64 (w w' : World) (base g : Nat) (s : St64) (A A' : Option Addr) (c' : Nat) : Prop where
  st : E64 w' base g s A' c'
  gr : Grown2 w w' (some g) (A.map (·.block))
  row : A'.map (·.block) = A.map (·.block) \/ ∀ a, A' = some a -> w.heap.size <= a.block
section
variable {w w1 w2 : World} {base g : Nat} {s : St64} {A A1 : Option Addr} {c1 : Nat}
theorem Wrote64.drewN (h : Wrote64 w w1 base g s A A1 c1) (n : Nat) : Wrote64 w (w1.drewN n) base g s A A1 c1 := ⟨h.st.drewN n, h.gr.drewN n, h.row⟩
theorem Wrote64.below (h : Wrote64 w w1 base g s A A1 c1) (hb : Below w1.heap.size w1 w2) : Wrote64 w w2 base g s A A1 c1 := ⟨h.st.below hb, h.gr.below hb, h.row⟩
theorem Wrote64.count (h : Wrote64 w w1 base g s A A1 c1) (lo hi : UInt64) : Wrote64 w (w1.setCells g 8 [.int .u64 (wrd lo), .int .u64 (wrd hi)]) base g { s with lo := lo, hi := hi } A A1 c1 := ⟨h.st.count lo hi, h.gr.setCells _ _, h.row⟩
theorem Wrote64.state (h : Wrote64 w w1 base g s A A1 c1) (F : List UInt64) (hF : F.length = 8) : Wrote64 w (w1.setCells g 0 (wcs F).toList) base g { s with H := F } A A1 c1 := ⟨h.st.state F hF, h.gr.setCells _ _, h.row⟩
theorem Wrote64.clear (h : Wrote64 w w1 base g s A A1 c1) : Wrote64 w (w1.setCell ⟨g, 10, none⟩ (.slice A1 (0 : Nat) c1)) base g { s with held := [] } A A1 c1 := by
 have ho := h.st.own.take 0 (Nat.zero_le _);rw [List.take_zero] at ho;exact ⟨E64.put h.st.blk h.st.ok.H ho (Nat.zero_le _) rfl, h.gr.setCell rfl _, h.row⟩
theorem Wrote64.same (h : Wrote64 w w1 base g s A A1 c1) (hg : w1.grownBy w2 (A1.map (·.block))) : Blk w2 g 219 (hc64 s.H s.lo s.hi A1 s.held.length c1) :=
 h.st.blk.grown hg (by
  intro e
  cases hA1 : A1 with
  | none => rw [hA1] at e; cases e
  | some a => rw [hA1] at e; simp only [Option.map_some, bZU] at e; exact h.st.far a hA1 e.symm)
theorem Wrote64.app (h : Wrote64 w w1 base g s A A1 c1) {A3 : Option Addr} {c3 n m : Nat} {k : List UInt8} (ho : OS cB w2 base A3 c3 (s.held ++ k)) (hg : w1.grownBy w2 (A1.map (·.block))) (hA : A3.map (·.block) = A1.map (·.block) \/ A3.map (·.block) = some w1.heap.size) (hn : (s.held ++ k).length = n) (hl : n <= 128) :
  Wrote64 w ((w2.drewN m).setCell ⟨g, 10, none⟩ (.slice A3 n c3)) base g { s with held := s.held ++ k } A A3 c3 := by open kA in exact zS52
end
structure In64 (w wr : World) (base g : Nat) (S s1 : St64) (A A1 : Option Addr) (c1 : Nat) (Ab1 : Option Addr) (n1 cb1 : Nat) (r : List UInt8) : Prop where
  len : r.length = n1
  cap : n1 <= cb1
  small : cb1 <= 9223372036854775807
  feed : s1.feed r = S
  st : Wrote64 w wr base g s1 A A1 c1
  rs : RS cB w w.heap.size Ab1 r
  far : ∀ a, Ab1 = some a -> some a.block ≠ some g /\ some a.block ≠ A.map (·.block)
theorem write64_any (g base : Nat) (s : St64) (A : Option Addr) (c : Nat) (Ab : Option Addr) (nb cb : Nat) (L : List UInt8) (w : World) (hE : E64 w base g s A c) (hb : base <= w.heap.size) (hL : L.length = nb) (hnb : nb <= cb) (hcb : cb <= 9223372036854775807) (hr : RS cB w w.heap.size Ab L)
  (hfar : ∀ a, Ab = some a -> some a.block ≠ some g /\ some a.block ≠ A.map (·.block)) :
  Calls Tryz.prog 200 #[.pointer (some ⟨g, 0, none⟩), .slice Ab nb cb] w fun e w' => e = .returned (.tuple #[]) /\ ∃ A' c', Wrote64 w w' base g (s.feed L) A A' c' := by open kA in exact zS6
def St64.last (s : St64) (node : Bool) : List UInt64 := comp64 s.H (wordsOf (padTo s.held 128) 16) (addLo s.lo (bZD s.held.length)) (addHi s.lo s.hi (bZD s.held.length)) true node
def St64.out (s : St64) (node : Bool) : List UInt8 := flat (s.last node)
theorem St64.last_len (s : St64) (node : Bool) : (s.last node).length = 8 := comp64_len _ _ _ _ _ _
theorem out64_any (g base : Nat) (s : St64) (A : Option Addr) (c : Nat) (node : Bool) (w : World) (hE : E64 w base g s A c) :
  Calls Tryz.prog 198 #[.pointer (some ⟨g, 0, none⟩), .bool node] w fun e w' => ∃ A' c', e = .returned (.slice A' 64 c') /\ OS cB w' w.heap.size A' c' (s.out node) /\ Below w.heap.size w w' := by open kA in exact zS3
end Go.Proofs.YtmapfcdffklopaaGreat

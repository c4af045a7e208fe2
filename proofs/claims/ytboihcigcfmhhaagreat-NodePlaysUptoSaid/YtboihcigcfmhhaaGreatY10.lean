/-
  Y10: contracts and lemmas alone; no statement is claimed here.
-/
import Derived.Test.YtboihcigcfmhhaaGreatY0
import Derived.Test.YtboihcigcfmhhaaGreatY1
import Derived.Test.YtboihcigcfmhhaaGreatY7
import Derived.Test.YtboihcigcfmhhaaGreatY8
import Derived.Deep.CutRange
set_option maxHeartbeats 4000000
set_option maxRecDepth 20000
namespace Go.Proofs.YtboihcigcfmhhaaGreat
open Go.World renaming setCells → cZI
open _root_.Option.some renaming injEq → bZU
open _root_.UInt64 renaming ofNat → bZD
open _root_.List renaming eq_nil_of_length_eq_zero → bZA
open _root_.List renaming length_drop → aZS
open _root_.List renaming length_take → aZJ
open Go renaming wpList_load_row → aZH
open Go renaming wpList_store_row → aZE
open _root_.Nat renaming le_refl → aZC
open Lib renaming hid -> zH
open Go.RowKit
attribute [local go_sem] pureUpon Ords.of
theorem mixBig_any (H : List UInt64) (A : Option Addr) (c B : Nat) (x : List UInt8) (lo hi : UInt64) (last node : Bool) (w : World) (hH : H.length = 8) (hx : x.length = 128) (hB : B <= w.heap.size) (hr : RS cB w B A x) :
  Calls Tryz.prog 82 #[.agg (wcs H), .slice A 128 c, .agg #[.int .u64 (wrd lo), .int .u64 (wrd hi)], .bool last, .bool node] w fun e w' => e = .returned (.agg (wcs (comp64 H (wordsOf x 16) lo hi last node))) /\ Below w.heap.size w w' := by
 have hMl := wordsOf_len x 16;have HH := zH hH; have HX := zH hx; have HR := zH (hr.more hB); clear hH hx hr;obtain ⟨w1, hw1⟩ : ∃ w1, w1 = w.alloc (.cells (wcs H) 124) := ⟨_, rfl⟩;obtain ⟨w2, hw2⟩ : ∃ w2, w2 = w1.alloc (.cells #[.int .u64 (wrd lo), .int .u64 (wrd hi)] 75) := ⟨_, rfl⟩;obtain ⟨w3, hw3⟩ : ∃ w3, w3 = w2.alloc (.cells (wcs (zw 8)) 124) := ⟨_, rfl⟩;have e4 : ((w.alloc (.cells (wcs H) 124)).alloc (.cells #[.int .u64 (wrd lo), .int .u64 (wrd hi)] 75)).alloc (.cells z8 124) = w3 := by rw [hw3, hw2, hw1]; rfl
 unfold z8 at e4;have n0 : Blk w3 w.heap.size 124 (wcs H) := by rw [hw3, hw2, hw1]; exact ((Blk.new _ _ _).alloc _).alloc _
 have n1 : Blk w3 (w.heap.size + 1) 75 #[.int .u64 (wrd lo), .int .u64 (wrd hi)] := by
  have : w1.heap.size = w.heap.size + 1 := by rw [hw1]; simp
  rw [<- this, hw3, hw2]; exact (Blk.new _ _ _).alloc _
 have n2 : Blk w3 (w.heap.size + 1 + 1) 124 (wcs (zw 8)) := by
  have : w2.heap.size = w.heap.size + 1 + 1 := by rw [hw2, hw1]; simp
  rw [<- this, hw3]; exact Blk.new _ _ _
 have n4 : Below w.heap.size w w3 := by rw [hw3, hw2, hw1]; exact bal (bal (bal (b0 _) _) _) _
 have hbw := blockWords_any A c x w.heap.size w3 HX n4.size (HR.below n4);have hcomp := fun W => comp_any H (wordsOf x 16) lo hi last node W HH hMl
 have hFl := comp64_len H (wordsOf x 16) lo hi last node;generalize wordsOf x 16 = M at *;generalize comp64 H M lo hi last node = F at *;clear hw1 hw2 hw3 w1 w2;have hu8 := zH Tryz.underlying124; have hu16 := zH Tryz.underlying41;have s8 := zH (sz8w H HH); have sM := zH (sz16w M hMl); have sF := zH (sz8w F hFl);have aM := zH (wcs_all M); have aF := zH (wcs_all F);have hoM : Hid ((wcs (zw 16)).size = (wcs M).size) := by show _ = _; rw [wcs_size, wcs_size, hMl]; rfl
 have hoF : Hid ((wcs (zw 8)).size = (wcs F).size) := by show _ = _; rw [wcs_size, wcs_size, hFl]; rfl
 have N0 := zH n0; have N1 := zH n1; have N2 := zH n2; have N4 := zH n4; have HW := zH hbw; have HC := zH hcomp; clear n0 n1 n2 n4 hbw hcomp hMl hFl;have E4 := zH e4; clear e4;go_enter Tryz.func82, Tryz.ntmps82;go_upto_region 1 with fail
 rw [E4.out];go_wp2_with fail;refine HW.mono ?_;rintro e w5 ⟨rfl, hb5⟩;have q0 := (N0.below hb5 N0.lt).alloc (.cells z16 41);have q1 := (N1.below hb5 N1.lt).alloc (.cells z16 41);have q2 := (N2.below hb5 N2.lt).alloc (.cells z16 41);have q4 := bal (bcall N4 hb5) (.cells z16 41);have q3 : Blk (w5.alloc (.cells z16 41)) w5.heap.size 41 (wcs (zw 16)) := Blk.new _ _ _;have hs5 : w.heap.size + 1 + 1 < w5.heap.size := by have := N2.lt; have := hb5.size; omega
 unfold z16 at q0 q1 q2 q3 q4;have Q3 := zH q3; clear q3 hb5 N0 N1 N2 N4;go_upto_region 2 with (refine aZE rfl 41 _ _ rfl w5.heap.size (wcs M) rfl rfl 41 _ Q3 sM.out hoM.out aM.out ?_)
 have q3 := Q3.row (wcs M);replace q0 := q0.rowFar (k := w5.heap.size) (by omega) (wcs M); replace q1 := q1.rowFar (k := w5.heap.size) (by omega) (wcs M); replace q2 := q2.rowFar (k := w5.heap.size) (by omega) (wcs M); replace q4 := brow q4 (g := w5.heap.size) (by omega) (wcs M);clear Q3;generalize (w5.alloc (.cells #[.int .u64 0, .int .u64 0, .int .u64 0, .int .u64 0, .int .u64 0, .int .u64 0, .int .u64 0, .int .u64 0, .int .u64 0, .int .u64 0, .int .u64 0, .int .u64 0, .int .u64 0, .int .u64 0, .int .u64 0, .int .u64 0] 41)).setRow w5.heap.size (wcs M) = w6 at *;have Q0 := zH q0; have Q2 := zH q2; have Q3 := zH q3; have Q4 := zH q4;have d0 : w6.cell? ⟨w.heap.size + 1, 0, none⟩ = some (.int .u64 (wrd lo)) := q1.cell 0;have d1 : w6.cell? ⟨w.heap.size + 1, 1, none⟩ = some (.int .u64 (wrd hi)) := q1.cell 1;clear q0 q1 q2 q3 q4;go_wp2_with (first
  | (refine aZH rfl 124 _ rfl w.heap.size rfl 124 (wcs H) (0, 0) _ Q0 hu8.out rfl s8.out ?_)
  | (refine aZH rfl 41 _ rfl w5.heap.size rfl 41 (wcs M) (0, 0) _ Q3 hu16.out rfl sM.out ?_)
  | (go_at_call 102; refine (HC _).mono ?_; rintro e w7 ⟨rfl, hb7⟩)
  | (refine aZE rfl 124 _ _ rfl (w.heap.size + 1 + 1) (wcs F) rfl rfl 124 _ (Q2.below hb7 Q2.lt) sF.out hoF.out aF.out ?_))
 exact bodyPost_ret (results_cell_row rfl _ _ (w.heap.size + 1 + 1) _ _ (0, 0) _ rfl ((Q2.below hb7 Q2.lt).row _) hu8.out rfl sF.out) rfl ⟨rfl, brow (bcall Q4.out hb7) (by omega) _⟩
theorem mixSmall_any (H : List UInt32) (A : Option Addr) (c B : Nat) (x : List UInt8) (lo hi : UInt64) (last node : Bool) (w : World) (hH : H.length = 8) (hx : x.length = 64) (hB : B <= w.heap.size) (hr : RS cB w B A x) :
  Calls Tryz.prog 85 #[.agg (wc3 H), .slice A 64 c, .agg #[.int .u64 (wrd lo), .int .u64 (wrd hi)], .bool last, .bool node] w fun e w' => e = .returned (.agg (wc3 (comp32 H (words3 x 16) lo last node))) /\ Below w.heap.size w w' := by
 have hMl := words3_len x 16;have HH := zH hH; have HX := zH hx; have HR := zH (hr.more hB); clear hH hx hr;obtain ⟨w1, hw1⟩ : ∃ w1, w1 = w.alloc (.cells (wc3 H) 130) := ⟨_, rfl⟩;obtain ⟨w2, hw2⟩ : ∃ w2, w2 = w1.alloc (.cells #[.int .u64 (wrd lo), .int .u64 (wrd hi)] 75) := ⟨_, rfl⟩;obtain ⟨w3, hw3⟩ : ∃ w3, w3 = w2.alloc (.cells (wc3 (zw3 8)) 130) := ⟨_, rfl⟩;have e4 : ((w.alloc (.cells (wc3 H) 130)).alloc (.cells #[.int .u64 (wrd lo), .int .u64 (wrd hi)] 75)).alloc (.cells z8s 130) = w3 := by rw [hw3, hw2, hw1]; rfl
 unfold z8s at e4;have n0 : Blk w3 w.heap.size 130 (wc3 H) := by rw [hw3, hw2, hw1]; exact ((Blk.new _ _ _).alloc _).alloc _
 have n1 : Blk w3 (w.heap.size + 1) 75 #[.int .u64 (wrd lo), .int .u64 (wrd hi)] := by
  have : w1.heap.size = w.heap.size + 1 := by rw [hw1]; simp
  rw [<- this, hw3, hw2]; exact (Blk.new _ _ _).alloc _
 have n2 : Blk w3 (w.heap.size + 1 + 1) 130 (wc3 (zw3 8)) := by
  have : w2.heap.size = w.heap.size + 1 + 1 := by rw [hw2, hw1]; simp
  rw [<- this, hw3]; exact Blk.new _ _ _
 have n4 : Below w.heap.size w w3 := by rw [hw3, hw2, hw1]; exact bal (bal (bal (b0 _) _) _) _
 have hbw := blockWords3_any A c x w.heap.size w3 HX n4.size (HR.below n4);have hcomp := fun W => comp3_any H (words3 x 16) lo last node W HH hMl
 have hFl := comp32_len H (words3 x 16) lo last node;generalize words3 x 16 = M at *;generalize comp32 H M lo last node = F at *;clear hw1 hw2 hw3 w1 w2;have hu8 := zH Tryz.underlying130; have hu16 := zH Tryz.underlying140;have s8 := zH (sz8s H HH); have sM := zH (sz16s M hMl); have sF := zH (sz8s F hFl);have aM := zH (wc3_all M); have aF := zH (wc3_all F);have hoM : Hid ((wc3 (zw3 16)).size = (wc3 M).size) := by show _ = _; rw [wc3_size, wc3_size, hMl]; rfl
 have hoF : Hid ((wc3 (zw3 8)).size = (wc3 F).size) := by show _ = _; rw [wc3_size, wc3_size, hFl]; rfl
 have N0 := zH n0; have N1 := zH n1; have N2 := zH n2; have N4 := zH n4; have HW := zH hbw; have HC := zH hcomp; clear n0 n1 n2 n4 hbw hcomp hMl hFl;have E4 := zH e4; clear e4;go_enter Tryz.func85, Tryz.ntmps85;go_upto_region 1 with fail
 rw [E4.out];go_wp2_with fail;refine HW.mono ?_;rintro e w5 ⟨rfl, hb5⟩;have q0 := (N0.below hb5 N0.lt).alloc (.cells z16s 140);have q1 := (N1.below hb5 N1.lt).alloc (.cells z16s 140);have q2 := (N2.below hb5 N2.lt).alloc (.cells z16s 140);have q4 := bal (bcall N4 hb5) (.cells z16s 140);have q3 : Blk (w5.alloc (.cells z16s 140)) w5.heap.size 140 (wc3 (zw3 16)) := Blk.new _ _ _;have hs5 : w.heap.size + 1 + 1 < w5.heap.size := by have := N2.lt; have := hb5.size; omega
 unfold z16s at q0 q1 q2 q3 q4;have Q3 := zH q3; clear q3 hb5 N0 N1 N2 N4;go_upto_region 2 with (refine aZE rfl 140 _ _ rfl w5.heap.size (wc3 M) rfl rfl 140 _ Q3 sM.out hoM.out aM.out ?_)
 have q3 := Q3.row (wc3 M);replace q0 := q0.rowFar (k := w5.heap.size) (by omega) (wc3 M); replace q1 := q1.rowFar (k := w5.heap.size) (by omega) (wc3 M); replace q2 := q2.rowFar (k := w5.heap.size) (by omega) (wc3 M); replace q4 := brow q4 (g := w5.heap.size) (by omega) (wc3 M);clear Q3;generalize (w5.alloc (.cells #[.int .u32 0, .int .u32 0, .int .u32 0, .int .u32 0, .int .u32 0, .int .u32 0, .int .u32 0, .int .u32 0, .int .u32 0, .int .u32 0, .int .u32 0, .int .u32 0, .int .u32 0, .int .u32 0, .int .u32 0, .int .u32 0] 140)).setRow w5.heap.size (wc3 M) = w6 at *;have Q0 := zH q0; have Q2 := zH q2; have Q3 := zH q3; have Q4 := zH q4;have d0 : w6.cell? ⟨w.heap.size + 1, 0, none⟩ = some (.int .u64 (wrd lo)) := q1.cell 0;have d1 : w6.cell? ⟨w.heap.size + 1, 1, none⟩ = some (.int .u64 (wrd hi)) := q1.cell 1;clear q0 q1 q2 q3 q4;go_wp2_with (first
  | (refine aZH rfl 130 _ rfl w.heap.size rfl 130 (wc3 H) (0, 0) _ Q0 hu8.out rfl s8.out ?_)
  | (refine aZH rfl 140 _ rfl w5.heap.size rfl 140 (wc3 M) (0, 0) _ Q3 hu16.out rfl sM.out ?_)
  | (go_at_call 107; refine (HC _).mono ?_; rintro e w7 ⟨rfl, hb7⟩)
  | (refine aZE rfl 130 _ _ rfl (w.heap.size + 1 + 1) (wc3 F) rfl rfl 130 _ (Q2.below hb7 Q2.lt) sF.out hoF.out aF.out ?_))
 exact bodyPost_ret (results_cell_row rfl _ _ (w.heap.size + 1 + 1) _ _ (0, 0) _ rfl ((Q2.below hb7 Q2.lt).row _) hu8.out rfl sF.out) rfl ⟨rfl, brow (bcall Q4.out hb7) (by omega) _⟩
structure St64 where
  H : List UInt64
  lo : UInt64
  hi : UInt64
  held : List UInt8
def St64.full (s : St64) : St64 := ⟨comp64 s.H (wordsOf s.held 16) (addLo s.lo 128) (addHi s.lo s.hi 128) false false, addLo s.lo 128, addHi s.lo s.hi 128, []⟩
def St64.ready (s : St64) : St64 := if s.held.length = 128 then s.full else s
def St64.take (s : St64) (b : List UInt8) : St64 := { s with held := s.held ++ b.take (128 - s.held.length) }
def St64.feedN : Nat -> St64 -> List UInt8 -> St64
  | 0, s, _ => s
  | k + 1, s, b => if b = [] then s else St64.feedN k (s.ready.take b) (b.drop (128 - s.ready.held.length))
def St64.feed (s : St64) (b : List UInt8) : St64 := s.feedN b.length b
structure St64.Ok (s : St64) : Prop where
  H : s.H.length = 8
  held : s.held.length <= 128
theorem St64.full_ok (s : St64) : s.full.Ok := ⟨comp64_len _ _ _ _ _ _, Nat.zero_le _⟩
theorem St64.ready_ok {s : St64} (h : s.Ok) : s.ready.Ok /\ s.ready.held.length < 128 := by
 unfold St64.ready
 by_cases h1 : s.held.length = 128
 ·rw [if_pos h1]; exact ⟨s.full_ok, by show 0 < 128; omega⟩
 ·rw [if_neg h1]; exact ⟨h, by have := h.held; omega⟩
theorem St64.take_ok {s : St64} (h : s.Ok) (b : List UInt8) : (s.take b).Ok := ⟨h.H, by unfold St64.take; dsimp only; rw [List.length_append, aZJ]; have := h.held; omega⟩
theorem St64.feedN_more : ∀ (n k : Nat) (s : St64) (b : List UInt8), s.Ok -> b.length <= n -> n <= k -> s.feedN k b = s.feedN n b
 | 0, k, s, b, _, hb, _ => by
  have : b = [] := bZA (by omega);subst this
  cases k <;> simp [St64.feedN]
 | n + 1, 0, _, _, _, _, h => by omega
 | n + 1, k + 1, s, b, hs, hb, hk => by
  unfold St64.feedN
  by_cases h0 : b = []
  ·rw [if_pos h0, if_pos h0]
  ·rw [if_neg h0, if_neg h0]
   have h1 := St64.ready_ok hs;refine St64.feedN_more n k _ _ (St64.take_ok h1.1 _) ?_ (by omega);rw [aZS]; omega
theorem St64.feed_nil (s : St64) : s.feed [] = s := rfl
theorem St64.feed_step {s : St64} (h : s.Ok) (b : List UInt8) (hb : b ≠ []) : s.feed b = (s.ready.take b).feed (b.drop (128 - s.ready.held.length)) := by
 have hl : 0 < b.length := List.length_pos_iff.2 hb;obtain ⟨k, hk⟩ : ∃ k, b.length = k + 1 := ⟨b.length - 1, by omega⟩;have h1 := St64.ready_ok h;have e : s.feed b = s.feedN (k + 1) b := by unfold St64.feed; rw [hk]
 rw [e];unfold St64.feedN;rw [if_neg hb];exact St64.feedN_more _ _ _ _ (St64.take_ok h1.1 _) (by rw [aZS]; exact aZC _) (by rw [aZS]; omega)
theorem St64.feed_ok : ∀ (n : Nat) {s : St64} (b : List UInt8), s.Ok -> b.length <= n -> (s.feed b).Ok
 | 0, s, b, h, hb => by
  have : b = [] := bZA (by omega);subst this; exact h
 | n + 1, s, b, h, hb => by
  by_cases h0 : b = []
  ·subst h0; exact h
  ·rw [St64.feed_step h b h0]
   have h1 := St64.ready_ok h;have hl : 0 < b.length := List.length_pos_iff.2 h0;exact St64.feed_ok n _ (St64.take_ok h1.1 _) (by rw [aZS]; omega)
def hc64 (H : List UInt64) (lo hi : UInt64) (A : Option Addr) (n c : Nat) : Array Value :=
  (H.map wv ++ [Value.int .u64 (wrd lo), Value.int .u64 (wrd hi), Value.slice A n c, Value.int .i64 128, Value.func (.func 82) #[] #[], Value.func (.func 83) #[] #[]]).toArray
theorem hc64_size (H : List UInt64) (lo hi : UInt64) (A : Option Addr) (n c : Nat) (hH : H.length = 8) : (hc64 H lo hi A n c).size = 14 := by
 unfold hc64; simp [hH]
theorem hc64_count (H : List UInt64) (lo hi lo' hi' : UInt64) (A : Option Addr) (n c : Nat) (hH : H.length = 8) : laidOver (hc64 H lo hi A n c) 8 [.int .u64 (wrd lo'), .int .u64 (wrd hi')] = hc64 H lo' hi' A n c := by
 apply Array.ext';rw [laidOver_list _ _ _ (by rw [hc64_size _ _ _ _ _ _ hH]; show 10 <= 14; omega)];unfold hc64;simp [hH, List.drop_append]
theorem hc64_state (H F : List UInt64) (lo hi : UInt64) (A : Option Addr) (n c : Nat) (hH : H.length = 8) (hF : F.length = 8) : laidOver (hc64 H lo hi A n c) 0 (wcs F).toList = hc64 F lo hi A n c := by
 apply Array.ext';have h8 : (wcs F).toList.length = 8 := by unfold wcs; simp [hF]
 rw [laidOver_list _ _ _ (by rw [hc64_size _ _ _ _ _ _ hH, h8]; omega), h8];unfold hc64 wcs;simp [hH]
theorem hc64_held (H : List UInt64) (lo hi : UInt64) (A A' : Option Addr) (n c n' c' : Nat) (hH : H.length = 8) : (hc64 H lo hi A n c).setIfInBounds 10 (.slice A' n' c') = hc64 H lo hi A' n' c' := by
 apply Array.ext';unfold hc64;simp [hH]
structure E64 (w : World) (base g : Nat) (s : St64) (A : Option Addr) (c : Nat) : Prop where
  blk : Blk w g 128 (hc64 s.H s.lo s.hi A s.held.length c)
  own : OS cB w base A c s.held
  ok : s.Ok
  far : ∀ a, A = some a -> a.block ≠ g
theorem E64.drewN {w : World} {base g c : Nat} {s : St64} {A : Option Addr} (h : E64 w base g s A c) (n : Nat) : E64 (w.drewN n) base g s A c := ⟨h.blk.drewN n, h.own.drewN n, h.ok, h.far⟩
theorem E64.below {w w' : World} {base g c : Nat} {s : St64} {A : Option Addr} (h : E64 w base g s A c) (hb : Below w.heap.size w w') : E64 w' base g s A c := ⟨h.blk.below hb h.blk.lt, h.own.below hb (aZC _), h.ok, h.far⟩
theorem hc64_h (H : List UInt64) (lo hi : UInt64) (A : Option Addr) (n c : Nat) (hH : H.length = 8) : ((hc64 H lo hi A n c).extract 0 (0 + 8)).toList = (wcs H).toList := by
 unfold hc64 wcs;simp [hH]
theorem hc64_at (H : List UInt64) (lo hi : UInt64) (A : Option Addr) (n c : Nat) (hH : H.length = 8) :
  (hc64 H lo hi A n c)[8]? = some (.int .u64 (wrd lo)) /\ (hc64 H lo hi A n c)[9]? = some (.int .u64 (wrd hi)) /\ (hc64 H lo hi A n c)[10]? = some (.slice A n c) /\ (hc64 H lo hi A n c)[11]? = some (.int .i64 128) /\
  (hc64 H lo hi A n c)[12]? = some (.func (.func 82) #[] #[]) /\ (hc64 H lo hi A n c)[13]? = some (.func (.func 83) #[] #[]) := by
 unfold hc64;have h : (H.map wv).length = 8 := by simp [hH]
 refine ⟨?_, ?_, ?_, ?_, ?_, ?_⟩ <;> (simp [h])
theorem hc64_c (H : List UInt64) (lo hi : UInt64) (A : Option Addr) (n c : Nat) (hH : H.length = 8) : ((hc64 H lo hi A n c).extract 8 (8 + 2)).toList = [.int .u64 (wrd lo), .int .u64 (wrd hi)] := by
 unfold hc64;simp [hH]
theorem E64.count {w : World} {base g c : Nat} {s : St64} {A : Option Addr} (h : E64 w base g s A c) (lo hi : UInt64) : E64 (w.setCells g 8 [.int .u64 (wrd lo), .int .u64 (wrd hi)]) base g { s with lo := lo, hi := hi } A c := by
 refine ⟨?_, h.own.setCellsFar _ _ h.far, ⟨h.ok.H, h.ok.held⟩, h.far⟩;have h1 := h.blk.setCells [.int .u64 (wrd lo), .int .u64 (wrd hi)] 8
 rwa [hc64_count _ _ _ _ _ _ _ _ h.ok.H] at h1
theorem E64.state {w : World} {base g c : Nat} {s : St64} {A : Option Addr} (h : E64 w base g s A c) (F : List UInt64) (hF : F.length = 8) : E64 (w.setCells g 0 (wcs F).toList) base g { s with H := F } A c := by
 refine ⟨?_, h.own.setCellsFar _ _ h.far, ⟨hF, h.ok.held⟩, h.far⟩;have h1 := h.blk.setCells (wcs F).toList 0
 rwa [hc64_state _ _ _ _ _ _ _ h.ok.H hF] at h1
theorem E64.put {w : World} {base g c c' n : Nat} {s : St64} {A A' : Option Addr} {l : List UInt8} (hb : Blk w g 128 (hc64 s.H s.lo s.hi A s.held.length c)) (hH : s.H.length = 8) (ho : OS cB w base A' c' l) (hl : l.length <= 128) (hn : l.length = n) : E64 (w.setCell ⟨g, 10, none⟩ (.slice A' n c')) base g { s with held := l } A' c' := by
 subst hn;have hf := ho.ne_blk hb (by decide);refine ⟨?_, ho.setFar hf _, ⟨hH, hl⟩, hf⟩;have h1 := hb.set_ 10 (.slice A' l.length c')
 rwa [hc64_held _ _ _ _ _ _ _ _ _ hH] at h1
theorem E64.cells {w : World} {base g c : Nat} {s : St64} {A : Option Addr} (h : E64 w base g s A c) : w.cell? ⟨g, 8, none⟩ = some (.int .u64 (wrd s.lo)) /\ w.cell? ⟨g, 9, none⟩ = some (.int .u64 (wrd s.hi)) /\ w.cell? ⟨g, 10, none⟩ = some (.slice A s.held.length c) /\ w.cell? ⟨g, 11, none⟩ = some (.int .i64 128) /\
  w.cell? ⟨g, 12, none⟩ = some (.func (.func 82) #[] #[]) /\ w.cell? ⟨g, 13, none⟩ = some (.func (.func 83) #[] #[]) := by
 obtain ⟨k8, k9, k10, k11, k12, k13⟩ := hc64_at s.H s.lo s.hi A s.held.length c h.ok.H;exact ⟨(h.blk.cell 8).trans k8, (h.blk.cell 9).trans k9, (h.blk.cell 10).trans k10, (h.blk.cell 11).trans k11, (h.blk.cell 12).trans k12, (h.blk.cell 13).trans k13⟩
theorem E64.rangeC {w : World} {base g c : Nat} {s : St64} {A : Option Addr} (h : E64 w base g s A c) : w.rangeAt g 8 [.int .u64 (wrd s.lo), .int .u64 (wrd s.hi)] := by
 have h1 := h.blk.range 8 2
 rwa [hc64_c _ _ _ _ _ _ h.ok.H] at h1
theorem E64.rangeH {w : World} {base g c : Nat} {s : St64} {A : Option Addr} (h : E64 w base g s A c) : w.rangeAt g 0 (wcs s.H).toList := by
 have h1 := h.blk.range 0 8
 rwa [hc64_h _ _ _ _ _ _ h.ok.H] at h1
theorem E64.there {w : World} {base g c : Nat} {s : St64} {A : Option Addr} (h : E64 w base g s A c) (o n : Nat) (hn : o + n <= 14) : w.there g o n := h.blk.there o n (by rw [hc64_size _ _ _ _ _ _ h.ok.H]; exact hn)
theorem St64.full_eq (s : St64) (hs : s.held.length = 128) : s.ready = { s with H := comp64 s.H (wordsOf s.held 16) (addLo s.lo 128) (addHi s.lo s.hi 128) false false, lo := addLo s.lo 128, hi := addHi s.lo s.hi 128, held := [] } := by
 unfold St64.ready St64.full;rw [if_pos hs]
theorem St64.wait_eq (s : St64) (hs : s.held.length ≠ 128) : s.ready = s := by
 unfold St64.ready;rw [if_neg hs]
structure Wrote64 (w w' : World) (base g : Nat) (s : St64) (A A' : Option Addr) (c' : Nat) : Prop where
  st : E64 w' base g s A' c'
  gr : Grown2 w w' (some g) (A.map (·.block))
  row : A'.map (·.block) = A.map (·.block) \/ ∀ a, A' = some a -> w.heap.size <= a.block
section
variable {w w1 w2 : World} {base g : Nat} {s : St64} {A A1 : Option Addr} {c1 : Nat}
theorem Wrote64.drewN (h : Wrote64 w w1 base g s A A1 c1) (n : Nat) : Wrote64 w (w1.drewN n) base g s A A1 c1 := ⟨h.st.drewN n, h.gr.drewN n, h.row⟩
theorem Wrote64.below (h : Wrote64 w w1 base g s A A1 c1) (hb : Below w1.heap.size w1 w2) : Wrote64 w w2 base g s A A1 c1 := ⟨h.st.below hb, h.gr.below hb, h.row⟩
theorem Wrote64.count (h : Wrote64 w w1 base g s A A1 c1) (lo hi : UInt64) : Wrote64 w (w1.setCells g 8 [.int .u64 (wrd lo), .int .u64 (wrd hi)]) base g { s with lo := lo, hi := hi } A A1 c1 := ⟨h.st.count lo hi, h.gr.setCells _ _, h.row⟩
theorem Wrote64.state (h : Wrote64 w w1 base g s A A1 c1) (F : List UInt64) (hF : F.length = 8) : Wrote64 w (w1.setCells g 0 (wcs F).toList) base g { s with H := F } A A1 c1 := ⟨h.st.state F hF, h.gr.setCells _ _, h.row⟩
theorem Wrote64.clear (h : Wrote64 w w1 base g s A A1 c1) : Wrote64 w (w1.setCell ⟨g, 10, none⟩ (.slice A1 (0 : Nat) c1)) base g { s with held := [] } A A1 c1 := by
 have ho := h.st.own.take 0 (Nat.zero_le _);rw [List.take_zero] at ho;exact ⟨E64.put h.st.blk h.st.ok.H ho (Nat.zero_le _) rfl, h.gr.setCell rfl _, h.row⟩
theorem Wrote64.same (h : Wrote64 w w1 base g s A A1 c1) (hg : w1.grownBy w2 (A1.map (·.block))) : Blk w2 g 128 (hc64 s.H s.lo s.hi A1 s.held.length c1) :=
 h.st.blk.grown hg (by
  intro e
  cases hA1 : A1 with
  | none => rw [hA1] at e; cases e
  | some a => rw [hA1] at e; simp only [Option.map_some, bZU] at e; exact h.st.far a hA1 e.symm)
theorem Wrote64.app (h : Wrote64 w w1 base g s A A1 c1) {A3 : Option Addr} {c3 n m : Nat} {k : List UInt8} (ho : OS cB w2 base A3 c3 (s.held ++ k)) (hg : w1.grownBy w2 (A1.map (·.block))) (hA : A3.map (·.block) = A1.map (·.block) \/ A3.map (·.block) = some w1.heap.size) (hn : (s.held ++ k).length = n) (hl : n <= 128) :
  Wrote64 w ((w2.drewN m).setCell ⟨g, 10, none⟩ (.slice A3 n c3)) base g { s with held := s.held ++ k } A A3 c3 := by
 have hb := (h.same hg).drewN m;refine ⟨E64.put hb h.st.ok.H (ho.drewN m) (by rw [hn]; exact hl) hn, ((h.gr.grown hg ?_).drewN m).setCell rfl _, ?_⟩
 ·rcases h.row with e | e
  ·exact .inr (.inl e)
  ·refine .inr (.inr fun k hk => ?_)
   cases hA1 : A1 with
   | none => rw [hA1] at hk; cases hk
   | some a => rw [hA1] at hk; simp only [Option.map_some, bZU] at hk; have := e a hA1; omega
 ·rcases hA with hA | hA
  ·rcases h.row with e | e
   ·exact .inl (hA.trans e)
   ·refine .inr fun a ha => ?_
    subst ha
    cases hA1 : A1 with
    | none => rw [hA1] at hA; cases hA
    | some a1 => rw [hA1] at hA; simp only [Option.map_some, bZU] at hA; have := e a1 hA1; omega
  ·refine .inr fun a ha => ?_
   subst ha;simp only [Option.map_some, bZU] at hA;have := h.gr.size;omega
end
structure In64 (w wr : World) (base g : Nat) (S s1 : St64) (A A1 : Option Addr) (c1 : Nat) (Ab1 : Option Addr) (n1 cb1 : Nat) (r : List UInt8) : Prop where
  len : r.length = n1
  cap : n1 <= cb1
  small : cb1 <= 9223372036854775807
  feed : s1.feed r = S
  st : Wrote64 w wr base g s1 A A1 c1
  rs : RS cB w w.heap.size Ab1 r
  far : ∀ a, Ab1 = some a -> some a.block ≠ some g /\ some a.block ≠ A.map (·.block)
theorem write64_any (g base : Nat) (s : St64) (A : Option Addr) (c : Nat) (Ab : Option Addr) (nb cb : Nat) (L : List UInt8) (w : World) (hE : E64 w base g s A c) (hb : base <= w.heap.size) (hL : L.length = nb) (hnb : nb <= cb) (hcb : cb <= 9223372036854775807) (hr : RS cB w w.heap.size Ab L)
  (hfar : ∀ a, Ab = some a -> some a.block ≠ some g /\ some a.block ≠ A.map (·.block)) :
  Calls Tryz.prog 153 #[.pointer (some ⟨g, 0, none⟩), .slice Ab nb cb] w fun e w' => e = .returned (.tuple #[]) /\ ∃ A' c', Wrote64 w w' base g (s.feed L) A A' c' := by
 have hI : In64 w w base g (s.feed L) s A A c Ab nb cb L := ⟨hL, hnb, hcb, rfl, ⟨hE, Grown2.refl _ _ _, .inl rfl⟩, hr, hfar⟩;generalize s.feed L = S at *;have HI := zH hI; clear hE hr hL hfar hI;have hu := zH Tryz.underlying75; have hu8 := zH Tryz.underlying124;go_enter Tryz.func153, Tryz.ntmps153;go_wp2_with fail;go_loopw [1] (fun b wr => ∃ (s1 : St64) (A1 : Option Addr) (c1 : Nat) (Ab1 : Option Addr) (nl cb1 : Nat) (r : List UInt8), b = .slice Ab1 nl cb1 /\ In64 w wr base g S s1 A A1 c1 Ab1 nl cb1 r) (fun b _ => slLen b)
 case atStart => exact ⟨s, A, c, Ab, nb, cb, L, rfl, HI.out⟩
 case round =>
  obtain ⟨s1, A1, c1, Ab1, nl, cb1, r, rfl, hI1⟩ := hrel;have hcap := hI1.cap; have hsm := hI1.small;have HI1 := zH hI1; clear hI1 HI
  by_cases hlt : 0 < nl
  ·have hnd : decide ((0 : Int) < nl) = true := by simp; omega
   obtain ⟨c8, c9, c10, c11, c12, c13⟩ := HI1.st.st.cells;generalize hhl : s1.held.length = hn at *;have HHL := zH hhl; clear hhl;go_wp2;go_quiet (fail);go_upto_if 17 with fail
   go_cut [] from 5 to 88 (fun wx => Wrote64 w wx base g s1.ready A A1 c1)
   case first =>
    by_cases hfull : hn = 128
    ·have hbq : ((hn : Int) == 128) = true := by simp; omega
     have HE1 := zH HI1.st.st; have HW1 := zH HI1.st;obtain ⟨bq, hadd⟩ := add_any s1.lo s1.hi 128;have z : wrd 128 = 128 := rfl;simp only [z] at hadd;clear z;have he := St64.full_eq s1 (HHL.trans hfull);have hFl := comp64_len s1.H (wordsOf s1.held 16) (addLo s1.lo 128) (addHi s1.lo s1.hi 128) false false;have hmix := fun (B : Nat) (W : World) (hB : B <= W.heap.size) (hr : RS cB W B A1 s1.held) => mixBig_any s1.H A1 c1 B s1.held (addLo s1.lo 128) (addHi s1.lo s1.hi 128) false false W HE1.ok.H (HHL.trans hfull) hB hr
     generalize comp64 s1.H (wordsOf s1.held 16) (addLo s1.lo 128) (addHi s1.lo s1.hi 128) false false = F at *;generalize addLo s1.lo 128 = p at *;generalize addHi s1.lo s1.hi 128 = q at *;have HA := zH hadd; have HM := zH hmix; have HEQ := zH he; have HF := zH hFl; have aF := zH (wcs_all F); clear hadd hmix he hFl;go_wp2_with fail;refine wrZ (fun _ => True) (fun _ _ h => h) (Ords.of [(0, 0), (0, 1), (0, 2), (0, 3), (1, 4), (0, 5), (0, 6), (0, 7), (1, 8), (0, 9), (2, 10), (0, 11), (0, 12), (0, 13), (0, 14), (0, 15), (2, 16)] .fin) trivial ?_
     iterate 4 (refine ords_pure rfl (fun K hK => ?_); go_simp; refine hK _ ?_; clear hK K)
     refine ords_readV (v := Value.agg [.int .u64 (wrd s1.lo), .int .u64 (wrd s1.hi)].toArray) rfl rfl (fun m9 => pure_load_mid 75 (.tmp 22) rfl g 8 rfl _ _ ((HE1.drewN (nq + m9)).rangeC) hu.out rfl (by kernel_rfl)) ?_; go_simp
     iterate 5 ((first | refine ords_pure rfl (fun K hK => ?_) | refine ords_read rfl (fun K hK => ?_)); go_simp; refine hK _ ?_; clear hK K)
     refine ords_loud rfl (fun n1 => ?_);go_wp2_with (go_at_call 154; refine (HA _).mono ?_; rintro e w5 ⟨rfl, hb5⟩)
     try (refine ⟨trivial, ?_⟩)
     iterate 5 (refine ords_pure rfl (fun K hK => ?_); go_simp; refine hK _ ?_; clear hK K)
     refine ords_loud rfl (fun n2 => ?_);refine wpList_store_mid rfl 75 (.tmp 33) (.tmp 30) rfl g 8 #[.int .u64 (wrd p), .int .u64 (wrd q)] rfl rfl ((((HE1.drewN _).below hb5).drewN n2).there 8 2 (by omega)) (by kernel_rfl) (by simp [Value.oneCell']) ?_; have hW6 := (((HW1.drewN _).below hb5).drewN n2).count p q; change wpList _ _ _ _ _ (cZI (w5.drewN n2) g 8 [Value.int .u64 (wrd p), Value.int .u64 (wrd q)]); generalize cZI (w5.drewN n2) g 8 [Value.int .u64 (wrd p), Value.int .u64 (wrd q)] = w6 at *; go_wp2_with fail
     first | (refine ⟨trivial, ?_⟩; refine ords_end (fun n3 => ?_)) | (refine ords_end (fun n3 => ?_)) | (rintro _ ⟨n3, rfl⟩)
     have HW6 := zH hW6; clear hW6 hb5 c8 c9 c10 c11 c12 c13;obtain ⟨c8, c9, c10, c11, c12, c13⟩ := HW6.st.cells;dsimp only at c8 c9 c10;rw [HHL.out, hfull] at c10;go_wp2_with fail;refine wrZ (fun _ => True) (fun _ _ h => h) (Ords.of [(0, 0), (0, 1), (0, 2), (0, 3), (1, 4), (0, 5), (0, 6), (0, 7), (1, 8), (0, 9), (0, 10), (0, 11), (1, 12), (0, 13), (0, 14), (0, 15), (1, 16), (2, 17), (0, 18), (0, 19), (2, 20)] .fin) trivial ?_
     iterate 8 ((first | refine ords_pure rfl (fun K hK => ?_) | refine ords_read rfl (fun K hK => ?_)); go_simp; refine hK _ ?_; clear hK K)
     refine ords_readV (v := Value.agg (wcs s1.H).toList.toArray) rfl rfl (fun m9 => pure_load_mid 124 (.tmp 41) rfl g 0 rfl _ _ ((HW6.st.drewN (n3 + m9)).rangeH) hu8.out rfl (by rw [Array.length_toList]; exact sz8w s1.H HE1.ok.H)) ?_; go_simp
     iterate 7 ((first | refine ords_pure rfl (fun K hK => ?_) | refine ords_read rfl (fun K hK => ?_)); go_simp; refine hK _ ?_; clear hK K)
     refine ords_readV (v := Value.agg [.int .u64 (wrd p), .int .u64 (wrd q)].toArray) rfl rfl (fun m9 => pure_load_mid 75 (.tmp 49) rfl g 8 rfl _ _ ((HW6.st.drewN (n3 + m9)).rangeC) hu.out rfl (by kernel_rfl)) ?_; go_simp;refine ords_loud rfl (fun n1 => ?_);go_wp2_with (go_at_call 82; refine (HM _ _ (aZC _) (HW6.st.drewN _).own.reads).mono ?_; rintro e w7 ⟨rfl, hb7⟩)
     try (refine ⟨trivial, ?_⟩)
     iterate 2 (refine ords_pure rfl (fun K hK => ?_); go_simp; refine hK _ ?_; clear hK K)
     refine ords_loud rfl (fun n2 => ?_);refine wpList_store_mid rfl 124 (.tmp 53) (.tmp 51) rfl g 0 (wcs F) rfl rfl (by rw [wcs_size, HF.out]; exact (((HW6.st.drewN _).below hb7).drewN _).there 0 8 (by omega)) (sz8w F HF.out) aF.out ?_; have hW8 := (((HW6.drewN _).below hb7).drewN n2).state F HF.out; change wpList _ _ _ _ _ (cZI (w7.drewN n2) g 0 (wcs F).toList); generalize cZI (w7.drewN n2) g 0 (wcs F).toList = w8 at *; go_wp2_with fail
     first | (refine ⟨trivial, ?_⟩; refine ords_end (fun n3 => ?_)) | (refine ords_end (fun n3 => ?_)) | (rintro _ ⟨n3, rfl⟩)
     have HW8 := zH hW8; clear hW8 hb7 c8 c9 c10 c11 c12 c13;obtain ⟨c8, c9, c10, c11, c12, c13⟩ := HW8.st.cells;dsimp only at c8 c9 c10;rw [HHL.out, hfull] at c10;have hfz := HW8.st.blk.frozen 10;go_wp2_with fail;go_meet;rw [HEQ.out];exact (HW8.drewN _).clear
    ·have hbq : ((hn : Int) == 128) = false := by simp; omega
     go_wp2_with fail;go_meet;have h1 := HI1.st;rw [St64.wait_eq s1 (by rw [HHL.out]; exact hfull)];exact ⟨h1.st.drewN _, h1.gr.drewN _, h1.row⟩
   case rest =>
    have hW := hcut;have hrd := (St64.ready_ok HI1.st.st.ok).2;have hfd := St64.feed_step HI1.st.st.ok r (fun e => by have := HI1.len; rw [e] at this; simp at this; omega);rw [HI1.feed] at hfd;generalize s1.ready = s2 at *;have hlr := HI1.len;have HRS := zH HI1.rs; have HFAR := zH HI1.far;have HW := zH hW; have HFD := zH hfd; clear hW hcut hfd HI1 c8 c9 c10 c11 c12 c13;obtain ⟨c8, c9, c10, c11, c12, c13⟩ := HW.st.cells;generalize hml : s2.held.length = m at *;obtain ⟨d, hd⟩ : ∃ d, d = 128 - m := ⟨_, rfl⟩;obtain ⟨t, ht⟩ : ∃ t, t = min nl d := ⟨_, rfl⟩;have hdi : (128 : Int) - (m : Int) = (d : Int) := by omega
    have hwd : IntKind.i64.wrap (d : Int) = d := by simp [IntKind.wrap, IntKind.bits, IntKind.signed]; omega
    have hmi : (if d < nl then (d : Int) else (nl : Int)) = (t : Int) := by
     rw [ht]; split <;> omega
    have htn : t <= nl := by omega
    have htc : t <= cb1 := by omega
    have hmt : m + t <= 128 := by omega
    have htp : 0 < t := by omega
    have htk : r.take d = r.take t := by
     rw [ht, <- hlr];rcases Nat.le_total r.length d with h | h
     ·rw [Nat.min_eq_left h, List.take_of_length_le h, List.take_of_length_le (aZC _)]
     ·rw [Nat.min_eq_right h]
    have hdr : r.drop d = r.drop t := by
     rw [ht, <- hlr];rcases Nat.le_total r.length d with h | h
     ·rw [Nat.min_eq_left h, List.drop_eq_nil_of_le h, List.drop_eq_nil_of_le (aZC _)]
     ·rw [Nat.min_eq_right h]
    have HD := zH hd; have HT := zH ht; have HML := zH hml; have HLR := zH hlr; have HTK := zH htk; have HDR := zH hdr; clear hd ht hml hlr htk hdr;go_wp2_with fail;go_quiet (fail);go_wp2_with fail;refine wrZ (fun _ => True) (fun _ _ h => h) (Ords.of [(0, 0), (0, 1), (0, 2), (0, 3), (1, 4), (0, 5), (0, 6), (0, 7), (2, 8), (0, 9), (0, 10), (2, 11)] .fin) trivial ?_
    iterate 8 ((first | refine ords_pure rfl (fun K hK => ?_) | refine ords_read rfl (fun K hK => ?_)); go_simp; refine hK _ ?_; clear hK K)
    refine ords_loud rfl (fun n1 => ?_);refine wpList_appB _ rfl (.tmp 79) (.tmp 82) rfl (HW.drewN (nq + n1)).st.own rfl HML.out (((HRS.take t).keep2 (aZC _) HW.gr HFAR.out).drewN (nq + n1)) rfl (by rw [aZJ, HLR.out]; omega) (by omega) (by have := HW.gr.size; show base <= wc.heap.size; omega) ?_; intro A3 c3 w3 ho3 hg3 hA3; replace hg3 := grown_undrewN (grown_undrewN hg3); have hfz3 := (HW.same hg3).frozen 10; have hc3 := ((HW.same hg3).cell 10).trans (hc64_at s2.H s2.lo s2.hi A1 s2.held.length c1 HW.st.ok.H).2.2.1; have HO3 := zH ho3; have HG3 := zH hg3; have HA3 := zH hA3; clear ho3 hg3 hA3; go_wp2_with fail
    try (refine ⟨trivial, ?_⟩)
    iterate 2 (refine ords_pure rfl (fun K hK => ?_); go_simp; refine hK _ ?_; clear hK K)
    refine ords_loud rfl (fun n2 => ?_);go_wp2_with fail
    first | (refine ⟨trivial, ?_⟩; refine ords_end (fun n3 => ?_)) | (refine ords_end (fun n3 => ?_)) | (rintro _ ⟨n3, rfl⟩)
    have hW4 := (HW.app (n := m + t) (m := n2) HO3.out HG3.out HA3.out (by rw [List.length_append, HML.out, aZJ, HLR.out]; omega) hmt).drewN n3;have hfd := HFD.out;have hst : s2.take r = { s2 with held := s2.held ++ r.take t } := by unfold St64.take; rw [HML.out, <- HD.out, HTK.out]
    rw [hst, <- HD.out, HDR.out] at hfd;have hcut2 := HRS.cut (k := t) (cap := cb1) (by rw [HLR.out]; exact htn) (by rw [HLR.out]; exact hcap);have hlen2 : (r.drop t).length = nl - t := by rw [aZS, HLR.out]
    have HC2 := zH hcut2; have HL2 := zH hlen2; have HW4 := zH hW4; have HFD2 := zH hfd; clear hfd hst hcut2 hlen2 hW4;go_wp2_with fail
    case roundEnd =>
    refine ⟨⟨_, _, _, _, _, _, _, rfl, HL2.out, by omega, by omega, HFD2.symm, HW4.out, HC2.out, ?_⟩, by show nl - t < nl; omega⟩;intro a ha
    split at ha
    ·exact HFAR a ha
    ·cases hA1 : Ab1 with
     | none => rw [hA1] at ha; cases ha
     | some a1 =>
      rw [hA1] at ha;simp only [Option.map_some, bZU] at ha;rw [<- ha, block_of_add];exact HFAR a1 hA1
  ·obtain rfl : nl = 0 := by omega
   have hI1 := HI1.out;have hr0 : r = [] := bZA hI1.len;have h1 := hI1.feed;rw [hr0, St64.feed_nil] at h1;have hE2 := hI1.st;rw [h1] at hE2;go_wp2_with fail;go_end0;exact ⟨rfl, A1, c1, hE2⟩
def St64.last (s : St64) (node : Bool) : List UInt64 := comp64 s.H (wordsOf (padTo s.held 128) 16) (addLo s.lo (bZD s.held.length)) (addHi s.lo s.hi (bZD s.held.length)) true node
def St64.out (s : St64) (node : Bool) : List UInt8 := flat (s.last node)
theorem St64.last_len (s : St64) (node : Bool) : (s.last node).length = 8 := comp64_len _ _ _ _ _ _
theorem out64_any (g base : Nat) (s : St64) (A : Option Addr) (c : Nat) (node : Bool) (w : World) (hE : E64 w base g s A c) :
  Calls Tryz.prog 151 #[.pointer (some ⟨g, 0, none⟩), .bool node] w fun e w' => ∃ A' c', e = .returned (.slice A' 64 c') /\ OS cB w' w.heap.size A' c' (s.out node) /\ Below w.heap.size w w' := by
 have hFl := s.last_len node;obtain ⟨bq, hadd⟩ := add_any s.lo s.hi (bZD s.held.length);have hm := hE.ok.held;have hz : wrd (bZD s.held.length) = (s.held.length : Int) := by rw [wrd_ofNat]; omega
 rw [hz] at hadd;have hmix := fun (A' : Option Addr) (c' : Nat) (B : Nat) (W : World) (hB : B <= W.heap.size) (hr : RS cB W B A' (padTo s.held 128)) => mixBig_any s.H A' c' B (padTo s.held 128) (addLo s.lo (bZD s.held.length)) (addHi s.lo s.hi (bZD s.held.length)) true node W hE.ok.H (padTo_len _ _ hm) hB hr
 change ∀ (A' : Option Addr) (c' : Nat) (B : Nat) (W : World) (hB : B <= W.heap.size) (hr : RS cB W B A' (padTo s.held 128)), Calls Tryz.prog 82 #[.agg (wcs s.H), .slice A' 128 c', .agg #[.int .u64 (wrd (addLo s.lo (bZD s.held.length))), .int .u64 (wrd (addHi s.lo s.hi (bZD s.held.length)))], .bool true, .bool node] W fun e w' => e = .returned (.agg (wcs (s.last node))) /\ Below W.heap.size W w' at hmix
 unfold St64.out;generalize s.last node = F at *;generalize addLo s.lo (bZD s.held.length) = p at *;generalize addHi s.lo s.hi (bZD s.held.length) = q at *;have hpd := fun (W : World) (hr : RS cB W W.heap.size A s.held) => padded_any A c 128 s.held.length s.held W rfl hm (by omega) hr
 have hby := fun (W : World) => bytes_any F W hFl
 obtain ⟨c8, c9, c10, c11, c12, c13⟩ := hE.cells;generalize hhl : s.held.length = m at *;have hwm : IntKind.u64.wrap (m : Int) = m := by simp [IntKind.wrap, IntKind.bits, IntKind.signed]; omega
 have hgs := hE.blk.lt;have HE := zH hE; have HA := zH hadd; have HM := zH hmix; have HP := zH hpd; have HB := zH hby; have HHL := zH hhl; clear hE hadd hmix hpd hby hhl hz hFl;have hu := zH Tryz.underlying75; have hu8 := zH Tryz.underlying124;have hz2 : (Tryz.prog.info? 75).map (·.size) = some #[Value.int .u64 (wrd p), Value.int .u64 (wrd q)].size := by kernel_rfl
 have ha2 : (#[Value.int .u64 (wrd p), Value.int .u64 (wrd q)].all (·.oneCell')) = true := by simp [Value.oneCell']
 have HZ2 := zH hz2; have HA2 := zH ha2; clear hz2 ha2;go_enter Tryz.func151, Tryz.ntmps151;go_upto_region 1 with fail
 go_cut [5, 6] from 7 to 45 (fun u _ wx => ∃ gl, u = .pointer (some ⟨gl, 0, none⟩) /\ w.heap.size <= gl /\ Blk wx gl 75 #[.int .u64 (wrd p), .int .u64 (wrd q)] /\ Below w.heap.size w wx)
 case first =>
  refine wp_region_B (Ords.of [(0, 0), (0, 1), (0, 2), (0, 3), (0, 4), (0, 5), (0, 6), (0, 7), (0, 8), (0, 9)] (.two 10 14 (Ords.of [(0, 11), (0, 12), (0, 13), (2, 14), (2, 15), (0, 16)] .fin) (Ords.of [(2, 10), (0, 11), (0, 12), (0, 13), (2, 15), (0, 16)] .fin))) (by kernel_rfl) rfl (by kernel_rfl) (by kernel_rfl) (fun c a d v w h => by cases d <;> exact h) ?_
  iterate 3 (refine ords_pure rfl (fun K hK => ?_); go_simp; refine hK _ ?_; clear hK K)
  refine ords_held (v := Value.agg [.int .u64 (wrd s.lo), .int .u64 (wrd s.hi)].toArray) rfl rfl (fun w9 hS => pure_load_mid 75 (.tmp 10) rfl g 8 rfl _ _ ((HE.below hS).rangeC) hu.out rfl (by kernel_rfl)) ?_; go_simp
  iterate 3 (refine ords_pure rfl (fun K hK => ?_); go_simp; refine hK _ ?_; clear hK K)
  refine ords_heldK rfl (fun K K2 hK hK2 => ?_); go_simp; refine ⟨hK2 _ (fun w9 hS => ?_), hK _ ?_⟩; (clear hK hK2 K K2; (first | refine withN hS ?_ | refine withD hS ?_ | refine with0 hS ?_); intro hcS hfS; go_simp); (clear hK hK2 K K2)
  iterate 2 (refine ords_pure rfl (fun K hK => ?_); go_simp; refine hK _ ?_; clear hK K)
  refine ords_two rfl rfl (fun n1 => ?_) (fun n1 => ?_)
  ·go_wp2_with (go_at_call 154; refine (HA _).mono ?_; rintro e w5 ⟨rfl, hb5⟩); refine ⟨(by first | exact bcall (bdr (b0 w) _) hb5 | exact bcall (bdr (bal (bdr (b0 w) _) _) _) hb5), ?_⟩
   iterate 3 (refine ords_pure rfl (fun K hK => ?_); go_simp; refine hK _ ?_; clear hK K)
   refine ords_loud rfl (fun n2 => ?_);go_wp2; refine ⟨(by first | exact bal (bdr (b0 w) _) _ | exact bal (bdr (bcall (bdr (b0 w) _) hb5) _) _), ?_⟩;refine ords_loud rfl (fun n3 => ?_);have hs5 := hb5.size; (first | (refine aZE rfl 75 _ _ rfl w5.heap.size #[Value.int .u64 (wrd p), Value.int .u64 (wrd q)] rfl rfl 75 _ ((Blk.new (w5.drewN n2) 75 _).drewN n3) HZ2.out rfl HA2.out ?_; have hB6 := (((Blk.new (w5.drewN n2) 75 #[Value.int .u64 0, Value.int .u64 0]).drewN n3).row #[Value.int .u64 (wrd p), Value.int .u64 (wrd q)]); have hW6 := brow (bdr (bal (bdr (bcall (bdr (b0 w) n1) hb5) n2) (.cells #[Value.int .u64 0, Value.int .u64 0] 75)) n3) hs5 #[Value.int .u64 (wrd p), Value.int .u64 (wrd q)]; have hl6 : w.heap.size <= w5.heap.size := hs5) | (refine aZE rfl 75 _ _ rfl w.heap.size #[Value.int .u64 (wrd p), Value.int .u64 (wrd q)] rfl rfl 75 _ ((((Blk.new (w.drewN n1) 75 _).drewN n2).below hb5 (by simp)).drewN n3) HZ2.out rfl HA2.out ?_; have hB6 := (((((Blk.new (w.drewN n1) 75 #[Value.int .u64 0, Value.int .u64 0]).drewN n2).below hb5 (by simp)).drewN n3).row #[Value.int .u64 (wrd p), Value.int .u64 (wrd q)]); have hW6 := brow (bdr (bcall (bdr (bal (bdr (b0 w) n1) (.cells #[Value.int .u64 0, Value.int .u64 0] 75)) n2) hb5) n3) (aZC _) #[Value.int .u64 (wrd p), Value.int .u64 (wrd q)]; have hl6 : w.heap.size <= w.heap.size := aZC _)); have HB6 := zH hB6; have HW6 := zH hW6; have HL6 := zH hl6; clear hB6 hW6 hl6; go_wp2; refine ⟨HW6.out, ?_⟩;refine ords_pure rfl (fun K hK => ?_); go_simp; refine hK _ ?_; clear hK K;refine ords_end (fun n4 => ?_);go_wp2; go_meet; exact ⟨_, rfl, HL6.out, HB6.drewN _, bdr HW6 _⟩
  ·go_wp2; refine ⟨(by first | exact bal (bdr (b0 w) _) _ | exact bal (bdr (bcall (bdr (b0 w) _) hb5) _) _), ?_⟩
   refine ords_loud rfl (fun n2 => ?_);go_wp2_with (go_at_call 154; refine (HA _).mono ?_; rintro e w5 ⟨rfl, hb5⟩); refine ⟨(by first | exact bcall (bdr (b0 w) _) hb5 | exact bcall (bdr (bal (bdr (b0 w) _) _) _) hb5), ?_⟩
   iterate 3 (refine ords_pure rfl (fun K hK => ?_); go_simp; refine hK _ ?_; clear hK K)
   refine ords_loud rfl (fun n3 => ?_);have hs5 := hb5.size; (first | (refine aZE rfl 75 _ _ rfl w5.heap.size #[Value.int .u64 (wrd p), Value.int .u64 (wrd q)] rfl rfl 75 _ ((Blk.new (w5.drewN n2) 75 _).drewN n3) HZ2.out rfl HA2.out ?_; have hB6 := (((Blk.new (w5.drewN n2) 75 #[Value.int .u64 0, Value.int .u64 0]).drewN n3).row #[Value.int .u64 (wrd p), Value.int .u64 (wrd q)]); have hW6 := brow (bdr (bal (bdr (bcall (bdr (b0 w) n1) hb5) n2) (.cells #[Value.int .u64 0, Value.int .u64 0] 75)) n3) hs5 #[Value.int .u64 (wrd p), Value.int .u64 (wrd q)]; have hl6 : w.heap.size <= w5.heap.size := hs5) | (refine aZE rfl 75 _ _ rfl w.heap.size #[Value.int .u64 (wrd p), Value.int .u64 (wrd q)] rfl rfl 75 _ ((((Blk.new (w.drewN n1) 75 _).drewN n2).below hb5 (by simp)).drewN n3) HZ2.out rfl HA2.out ?_; have hB6 := (((((Blk.new (w.drewN n1) 75 #[Value.int .u64 0, Value.int .u64 0]).drewN n2).below hb5 (by simp)).drewN n3).row #[Value.int .u64 (wrd p), Value.int .u64 (wrd q)]); have hW6 := brow (bdr (bcall (bdr (bal (bdr (b0 w) n1) (.cells #[Value.int .u64 0, Value.int .u64 0] 75)) n2) hb5) n3) (aZC _) #[Value.int .u64 (wrd p), Value.int .u64 (wrd q)]; have hl6 : w.heap.size <= w.heap.size := aZC _)); have HB6 := zH hB6; have HW6 := zH hW6; have HL6 := zH hl6; clear hB6 hW6 hl6; go_wp2; refine ⟨HW6.out, ?_⟩;refine ords_pure rfl (fun K hK => ?_); go_simp; refine hK _ ?_; clear hK K;refine ords_end (fun n4 => ?_);go_wp2; go_meet; exact ⟨_, rfl, HL6.out, HB6.drewN _, bdr HW6 _⟩
 case rest =>
  obtain ⟨gl, rfl, hgl, hbl, hwc⟩ := hcut;have hE2 := HE.below hwc;have hlt := hbl.lt;clear c8 c9 c10 c11 c12 c13;obtain ⟨c8, c9, c10, c11, c12, c13⟩ := hE2.cells;rw [HHL.out] at c10;have hgs2 := hE2.blk.lt;have HE2 := zH hE2; have HBL := zH hbl; have HWC := zH hwc; clear hE2 hbl hwc HE;go_wp2_with fail;refine wp_region_B (Ords.of [(0, 0), (0, 1), (0, 2), (0, 3), (0, 4), (0, 5), (0, 6), (0, 7), (0, 8), (0, 9), (0, 10), (0, 11), (0, 12), (0, 13), (0, 14), (0, 15), (0, 16), (0, 17), (0, 18), (0, 19), (0, 21), (0, 22), (2, 20), (2, 23), (2, 24), (0, 25)] .fin) (by kernel_rfl) rfl (by kernel_rfl) (by kernel_rfl) (fun c a d v w h => by cases d <;> exact h) ?_
  iterate 2 (refine ords_pure rfl (fun K hK => ?_); go_simp; refine hK _ ?_; clear hK K; refine ords_pure rfl (fun K hK => ?_); go_simp; refine hK _ ?_; clear hK K; refine ords_pure rfl (fun K hK => ?_); go_simp; refine hK _ ?_; clear hK K; refine ords_heldK rfl (fun K K2 hK hK2 => ?_); go_simp; refine ⟨hK2 _ (fun w9 hS => ?_), hK _ ?_⟩; (clear hK hK2 K K2; (first | refine withN hS ?_ | refine withD hS ?_ | refine with0 hS ?_); intro hcS hfS; go_simp); (clear hK hK2 K K2))
  iterate 3 (refine ords_pure rfl (fun K hK => ?_); go_simp; refine hK _ ?_; clear hK K)
  refine ords_held (v := Value.agg (wcs s.H).toList.toArray) rfl rfl (fun w9 hS => pure_load_mid 124 (.tmp 31) rfl g 0 rfl _ _ ((HE2.below hS).rangeH) hu8.out rfl (by rw [Array.length_toList]; exact sz8w s.H HE2.ok.H)) ?_; go_simp
  iterate 2 (refine ords_pure rfl (fun K hK => ?_); go_simp; refine hK _ ?_; clear hK K; refine ords_pure rfl (fun K hK => ?_); go_simp; refine hK _ ?_; clear hK K; refine ords_pure rfl (fun K hK => ?_); go_simp; refine hK _ ?_; clear hK K; refine ords_heldK rfl (fun K K2 hK hK2 => ?_); go_simp; refine ⟨hK2 _ (fun w9 hS => ?_), hK _ ?_⟩; (clear hK hK2 K K2; (first | refine withN hS ?_ | refine withD hS ?_ | refine with0 hS ?_); intro hcS hfS; go_simp); (clear hK hK2 K K2))
  refine ords_held (v := Value.agg [.int .u64 (wrd p), .int .u64 (wrd q)].toArray) rfl rfl (fun w9 hS => pure_load_mid 75 (.tmp 5) rfl gl 0 rfl _ _ (HBL.below hS hlt).whole hu.out rfl (by kernel_rfl)) ?_; go_simp;refine ords_pure rfl (fun K hK => ?_); go_simp; refine hK _ ?_; clear hK K;refine ords_loud rfl (fun n1 => ?_);go_wp2_with (go_at_call 56; refine (HP _ (HE2.drewN _).own.reads).mono ?_; rintro e w5 ⟨A5, c5, rfl, ho5, hb5⟩); have HO5 := zH ho5; have HB5 := zH (bcall (bdr (b0 wc) _) hb5); clear ho5 hb5; refine ⟨HB5.out, ?_⟩;refine ords_loud rfl (fun n2 => ?_);go_wp2_with (go_at_call 82; refine (HM A5 c5 _ _ (aZC _) (HO5.drewN _).reads).mono ?_; rintro e w6 ⟨rfl, hb6⟩); have HB6 := zH (bcall (bdr HB5 _) hb6); clear hb6; refine ⟨HB6.out, ?_⟩;refine ords_loud rfl (fun n3 => ?_);go_wp2_with (go_at_call 83; refine (HB _).mono ?_; rintro e w7 ⟨A7, c7, rfl, ho7, hb7⟩); have HO7 := zH (ho7.mono (show w.heap.size <= _ from Nat.le_trans HWC.size HB6.size)); have HB7 := zH (bcall (bdr HB6 _) hb7); clear ho7 hb7; refine ⟨HB7.out, ?_⟩;refine ords_pure rfl (fun K hK => ?_); go_simp; refine hK _ ?_; clear hK K;refine ords_end (fun n4 => ?_);go_wp2; exact bodyPost_ret (results_tmp rfl _ _ _) rfl ⟨A7, c7, rfl, HO7.drewN _, bdr (bcall HWC HB7) _⟩
end Go.Proofs.YtboihcigcfmhhaaGreat

/-
  Y13: contracts and lemmas alone; no statement is claimed here.
-/
import Derived.Test.YtboihcigcfmhhaaGreatY1
import Derived.Test.YtboihcigcfmhhaaGreatY12
import Derived.Test.YtboihcigcfmhhaaGreatY5
import Derived.Deep.MidRow
set_option maxHeartbeats 4000000
set_option maxRecDepth 20000
namespace Go.Proofs.YtboihcigcfmhhaaGreat
open Go renaming wpList_load_mid → aZX
open Go renaming results_tmp2 → aZG
open _root_.Option.some renaming inj → aZF
open _root_.Nat renaming le_refl → aZC
open Go renaming bodyPost_ret → aZB
open Lib renaming hid -> zH
open Go.RowKit
attribute [local go_sem] pureUpon Ords.of
structure Pr.Fit (p : Pr) : Prop where
  leaf : 0 <= p.leaf /\ p.leaf < 4294967296
  offset : 0 <= p.offset /\ p.offset < 18446744073709551616
  xof : 0 <= p.xof /\ p.xof < 4294967296
def fieldI (p : Pr) (f : Nat) : Int :=
  if f = 1 then p.digest else if f = 2 then p.key else if f = 3 then p.fanout else if f = 4 then p.depth else if f = 5 then p.leaf else if f = 6 then p.offset else if f = 7 then p.xof else if f = 8 then p.nd else p.inner
def fieldV (p : Pr) (f : Nat) : UInt64 := UInt64.ofNat (fieldI p f).toNat
def encTo (big : Bool) (p : Pr) : Nat -> List UInt8
  | 0 => List.replicate (bOf big) 0
  | k + 1 => let r := (rowTab big).getD k (0, 0, 0); if r.1 = 7 /\ p.xof = 0 then encTo big p k else putL (encTo big p k) r.2.1 (fieldV p r.1).toNat r.2.2
theorem encTo_len (big : Bool) (p : Pr) : ∀ k, (encTo big p k).length = bOf big
 | 0 => List.length_replicate
 | k + 1 => by
  unfold encTo
  dsimp only
  split
  ·exact encTo_len big p k
  ·rw [putL_len]; exact encTo_len big p k
def encL (big : Bool) (p : Pr) (ls lp : List UInt8) : List UInt8 := over (over (encTo big p 9) (bOf big / 2) ls) (3 * (bOf big / 4)) lp
theorem encL_len (big : Bool) (p : Pr) (ls lp : List UInt8) (h1 : 4 * ls.length <= bOf big) (h2 : 4 * lp.length <= bOf big) : (encL big p ls lp).length = bOf big := by
 unfold encL;rw [over_len _ _ _ (by rw [over_len _ _ _ (by rw [encTo_len]; cases big <;> simp [bOf] at * <;> omega), encTo_len]; cases big <;> simp [bOf] at * <;> omega), over_len _ _ _ (by rw [encTo_len]; cases big <;> simp [bOf] at * <;> omega), encTo_len]
theorem chk_range {big : Bool} {p : Pr} (h : chk (kOf big) p = 0) : (1 <= p.digest /\ p.digest <= bOf big) /\ (0 <= p.key /\ p.key <= bOf big) /\ (0 <= p.fanout /\ p.fanout <= 255) /\ (0 <= p.depth /\ p.depth <= 255) /\ (0 <= p.nd /\ p.nd <= 255) /\ (0 <= p.inner /\ p.inner <= bOf big) /\ 4 * p.salt.n <= bOf big /\ 4 * p.pers.n <= bOf big := by
 have e : mostOf (kOf big) = bOf big := by cases big <;> rfl
 have e0 : 0 < bOf big := by cases big <;> decide
 unfold chk at h;rw [e] at h;generalize bOf big = n at *
 repeat (split at h; · exact absurd h (by decide))
 refine ⟨?_, ?_, ?_, ?_, ?_, ?_, ?_, ?_⟩ <;> omega
theorem field_ok {big : Bool} {p : Pr} (h : chk (kOf big) p = 0) (hf : p.Fit) (f : Nat) : 0 <= fieldI p f /\ fieldI p f < 18446744073709551616 := by
 obtain ⟨h1, h2, h3, h4, h5, h6, -, -⟩ := chk_range h;have hb : (bOf big : Int) <= 64 := by cases big <;> decide
 have := hf.leaf; have := hf.offset; have := hf.xof;unfold fieldI
 repeat' split
 all_goals omega
theorem wrd_field {big : Bool} {p : Pr} (h : chk (kOf big) p = 0) (hf : p.Fit) (f : Nat) : wrd (fieldV p f) = fieldI p f := by
 have := field_ok h hf f;unfold fieldV;rw [wrd_ofNat];omega
theorem value_any {big : Bool} {p : Pr} (h : chk (kOf big) p = 0) (hf : p.Fit) (f : Nat) (h1 : 1 <= f /\ f <= 9) (w : World) : Calls Tryz.prog 52 #[p.v, .int .i64 f] w fun e w' => e = .returned (.int .u64 (wrd (fieldV p f))) /\ Below w.heap.size w w' := by
 have h2 := field_ok h hf;rw [wrd_field h hf];have : f = 1 \/ f = 2 \/ f = 3 \/ f = 4 \/ f = 5 \/ f = 6 \/ f = 7 \/ f = 8 \/ f = 9 := by omega
 rcases this with rfl | rfl | rfl | rfl | rfl | rfl | rfl | rfl | rfl
 ·exact value_1 p w (h2 1)
 ·exact value_2 p w (h2 2)
 ·exact value_3 p w (h2 3)
 ·exact value_4 p w (h2 4)
 ·exact value_5 p w (h2 5)
 ·exact value_6 p w (h2 6)
 ·exact value_7 p w (h2 7)
 ·exact value_8 p w (h2 8)
 ·exact value_9 p w (h2 9)
theorem row_at (big : Bool) (k : Nat) (hk : k < 9) : ∃ (f at_ size : Nat) (s : ByteArray) (e : Int), (rowTab big).getD k (0, 0, 0) = (f, at_, size) /\ 1 <= f /\ f <= 9 /\ at_ + size <= bOf big /\ size <= 8 /\
  ((rowCells big).extract (k * 5) (k * 5 + 5)).toList = [.int .i64 f, .int .i64 at_, .int .i64 size, .string s, .int .i64 e] := by
 have : k = 0 \/ k = 1 \/ k = 2 \/ k = 3 \/ k = 4 \/ k = 5 \/ k = 6 \/ k = 7 \/ k = 8 := by omega
 cases big <;> rcases this with rfl | rfl | rfl | rfl | rfl | rfl | rfl | rfl | rfl <;> exact ⟨_, _, _, _, _, rfl, by decide, by decide, by decide, by decide, rfl⟩
def zB (n : Nat) : Array Value := madeCells #[cB.zero] n
theorem make_zB (n : Nat) (hn : n <= 1024) (W : World) : (Instr.makeSlice 24 (.int .i64 n) (.int .i64 n)).run Tryz.prog W = .ok (.slice (some ⟨W.heap.size, 0, none⟩) n n) (W.alloc (.cells (zB n) 5)) :=
 run_makeS cB_ok .i64 .i64 n n (aZC _) (by show 1 * n <= _; omega) (by omega) W
theorem encodeBig_any (p : Pr) (ls lp : List UInt8) (w : World) (hc : chk 1 p = 0) (hf : p.Fit) (hls : ls.length = p.salt.n) (hlp : lp.length = p.pers.n) (hrs : RS cB w w.heap.size p.salt.A ls) (hrp : RS cB w w.heap.size p.pers.A lp) :
    Calls Tryz.prog 29 #[.int .i64 1, p.v] w fun e w' => ∃ A c, e = .returned (.tuple #[.slice A 64 c, .int .i64 0]) /\ OS cB w' w.heap.size A c (encL true p ls lp) /\ Below w.heap.size w w' := by
  have hck := fun W => check_any 1 p W
  have hval := fun f h1 W => value_any (big := true) hc hf f h1 W
  have hro := fun W => rowsBig_any W
  have hrg := chk_range (big := true) hc;have hmk : ∀ W : World, (Instr.makeSlice 24 (.int .i64 64) (.int .i64 64)).run Tryz.prog W = .ok (.slice (some ⟨W.heap.size, 0, none⟩) 64 64) (W.alloc (.cells (zB 64) 5)) := fun W => make_zB 64 (by decide) W
  simp only [hc] at hck;have HLS := zH hls; have HLP := zH hlp; have HRS := zH hrs; have HRP := zH hrp; have HF := zH hf; have HC := zH hc; have HRG := zH hrg; clear hls hlp hrs hrp hf hc hrg;unfold Pr.v Pr.cs Sl.v at *;have HCK := zH hck; have HV := zH hval; have HRO := zH hro; clear hck hval hro;go_enter Tryz.func29, Tryz.ntmps29;go_wp2_with (first
    | (go_at_call 48; refine (HCK.out _).mono ?_; rintro e w1 ⟨rfl, hbw1⟩; (first | refine withN hbw1 ?_ | refine withD hbw1 ?_ | refine with0 hbw1 ?_); intro hcw1 hfw1; have z0w1 : w.heap.size < w1.heap.size := (by have := hbw1.size; (try simp at this); omega))
    | (go_at_call 49; refine (sizes_big _).mono ?_; rintro e w9 ⟨rfl, rfl⟩)
    | (go_at_call 50; refine (HRO.out _).mono ?_; rintro e w2 ⟨gr, rfl, hgr, hbr, hbw2⟩; (first | refine withN hbw2 ?_ | refine withD hbw2 ?_ | refine with0 hbw2 ?_); intro hcw2 hfw2; have z0w2 : w.heap.size < w2.heap.size := (by have := hbw2.size; (try simp at this); omega)))
  have hb1 := Blk.new w 26 #[.int .i64 p.digest, .int .i64 p.key, .int .i64 p.fanout, .int .i64 p.depth, .int .u32 p.leaf, .int .u64 p.offset, .int .u32 p.xof, .int .i64 p.nd, .int .i64 p.inner, .slice p.salt.A p.salt.n p.salt.c, .slice p.pers.A p.pers.n p.pers.c];have hz1 : w.heap.size < w1.heap.size := z0w1;have hb2 := ((hb1.below hbw1 (by simp)).alloc (.cells (zB 64) 5)).below hbw2 (by simp; omega);have hW1 := bcall (bal (b0 w) _) hbw1;have hW2 := bcall (bal hW1 (.cells (zB 64) 5)) hbw2;have ho2 := (OS.madeAt (cd := cB) (base := w.heap.size) w1 64 64 0 rfl (by decide) (by unfold maxLen; omega) (Nat.le_of_lt hz1) rfl).below hbw2 (aZC _);have hg2 : w1.heap.size < gr := by have : (w1.alloc (.cells (zB 64) 5)).heap.size <= gr := hgr; simp at this; omega
  generalize w1.heap.size = gb at *;have HB := zH hb2; have HR := zH hbr; have HW := zH hW2; have HO := zH ho2;clear hb1 hb2 hW1 hW2 ho2 hbr hbw1 hbw2 hcw1 hfw1 hcw2 hfw2 hgr hmk z0w2;go_loopw [30] (fun i wr => ∃ k : Nat, k <= 9 /\ i = .int .i64 k /\ OS cB wr w.heap.size (some ⟨gb, 0, none⟩) 64 (encTo true p k) /\ w2.grownBy wr (some gb)) (fun i _ => 9 - (intOf i).toNat)
  case atStart => exact ⟨0, Nat.zero_le _, rfl, HO.out, World.grownBy.refl _ _⟩
  case round =>
    obtain ⟨k, hk, rfl, hos, hgr⟩ := hrel;have hne1 : some w.heap.size ≠ some gb := by intro h; have := aZF h; omega
    have hne2 : some gr ≠ some gb := by intro h; have := aZF h; omega
    have hbp := HB.grown hgr hne1;have hbr := HR.grown hgr hne2
    by_cases hlt : k < 9
    · obtain ⟨f, at_, size, s, e, hrow, hf1, hf9, hfit, hs8, hcells⟩ := row_at true k hlt
      have hrg := hbr.range (k * 5) 5;rw [hcells] at hrg;have HRG2 := zH hrg; have HROW := zH hrow; have HBP := zH hbp; have HOS := zH hos; have HGR := zH hgr;have c6 : wr.cell? ⟨w.heap.size, 6, none⟩ = some (.int .u32 p.xof) := hbp.cell 6;have hbl := hbp.lt;clear hrg hrow hbp hbr hos hgr hcells;have hkd : decide ((k : Int) < 9) = true := by simp; omega
      have hk5 : (k : Int) * 5 = ((k * 5 : Nat) : Int) := by omega
      have hgb : gb < wr.heap.size := (HOS.block_lt _ rfl).2
      by_cases h7 : f = 7
      · subst h7
        by_cases hx : p.xof = 0
        · have hx0 : (p.xof == 0) = true := by simpa using hx
          have HX := zH hx; clear hx;go_wp2_with (refine aZX rfl 102 (.tmp 32) rfl gr (k * 5) rfl [.int .i64 _, .int .i64 at_, .int .i64 size, .string s, .int .i64 e] _ HRG2 Tryz.underlying102 rfl (by kernel_rfl) ?_)
          case roundEnd => exact ⟨⟨k + 1, by omega, by go_num, by have e1 : encTo true p (k + 1) = encTo true p k := by { show (if _ then _ else _) = _; rw [HROW.out, if_pos ⟨rfl, HX.out⟩] }
                                                                  rw [e1]; exact HOS.alloc _, only_alloc HGR.out _⟩, by simp [intOf]; omega⟩
        · have hx0 : (p.xof == 0) = false := by simpa using hx
          have HX := zH (show ¬ (7 = 7 /\ p.xof = 0) from fun h => hx h.2); clear hx;go_wp2_with (refine aZX rfl 102 (.tmp 32) rfl gr (k * 5) rfl [.int .i64 _, .int .i64 at_, .int .i64 size, .string s, .int .i64 e] _ HRG2 Tryz.underlying102 rfl (by kernel_rfl) ?_);have hbr8 := Blk.new wr 102 #[.int .i64 ((7 : Nat) : Int), .int .i64 at_, .int .i64 size, .string s, .int .i64 e];have hbp8 := HBP.alloc (.cells #[.int .i64 ((7 : Nat) : Int), .int .i64 at_, .int .i64 size, .string s, .int .i64 e] 102);have hos8 := HOS.alloc (.cells #[.int .i64 ((7 : Nat) : Int), .int .i64 at_, .int .i64 size, .string s, .int .i64 e] 102);have hgr8 := only_alloc HGR (.cells #[.int .i64 ((7 : Nat) : Int), .int .i64 at_, .int .i64 size, .string s, .int .i64 e] 102);clear c6
          try simp only [Int.cast_ofNat_Int] at hbr8 hbp8 hos8 hgr8
          generalize wr.alloc (.cells #[.int .i64 _, .int .i64 at_, .int .i64 size, .string s, .int .i64 e] 102) = W8 at *;have hnq : some wr.heap.size ≠ some gb := by intro h; have := aZF h; omega
          generalize wr.heap.size = gq at *;have HBR8 := zH hbr8; have HBP8 := zH hbp8; have HOS8 := zH hos8; have HGR8 := zH hgr8; have HNQ := zH hnq; have HN1 := zH hne1; clear hbr8 hbp8 hos8 hgr8 hnq hne1 hne2;have hu := zH Tryz.underlying26;have p0 : W8.cell? ⟨gq, 0, none⟩ = some (.int .i64 (7 : Nat)) := HBR8.cell 0;have p1 : W8.cell? ⟨gq, 1, none⟩ = some (.int .i64 at_) := HBR8.cell 1;have p2 : W8.cell? ⟨gq, 2, none⟩ = some (.int .i64 size) := HBR8.cell 2;refine wrZ (fun W' => W8.grownBy W' (some gb)) (fun _ n h => only_drewN h n) (Ords.of [(0, 0), (0, 1), (0, 2), (0, 3), (0, 4), (0, 5), (0, 6), (0, 7), (2, 8), (2, 9)] .fin) (World.grownBy.refl _ _) ?_
          iterate 2 (refine ords_pure rfl (fun K hK => ?_); go_simp; refine hK _ ?_; clear hK K)
          refine ords_heldK rfl (fun K K2 hK hK2 => ?_); go_simp; refine ⟨hK2 _ (fun w9 hS => ?_), hK _ ?_⟩; (clear hK hK2 K K2; have q0 : w9.cell? ⟨gq, 0, none⟩ = some (.int .i64 (7 : Nat)) := (HBR8.grown hS HNQ).cell 0; have q1 : w9.cell? ⟨gq, 1, none⟩ = some (.int .i64 at_) := (HBR8.grown hS HNQ).cell 1; have q2 : w9.cell? ⟨gq, 2, none⟩ = some (.int .i64 size) := (HBR8.grown hS HNQ).cell 2; go_simp); (clear hK hK2 K K2);refine ords_pure rfl (fun K hK => ?_); go_simp; refine hK _ ?_; clear hK K;refine ords_heldK rfl (fun K K2 hK hK2 => ?_); go_simp; refine ⟨hK2 _ (fun w9 hS => ?_), hK _ ?_⟩; (clear hK hK2 K K2; have q0 : w9.cell? ⟨gq, 0, none⟩ = some (.int .i64 (7 : Nat)) := (HBR8.grown hS HNQ).cell 0; have q1 : w9.cell? ⟨gq, 1, none⟩ = some (.int .i64 at_) := (HBR8.grown hS HNQ).cell 1; have q2 : w9.cell? ⟨gq, 2, none⟩ = some (.int .i64 size) := (HBR8.grown hS HNQ).cell 2; go_simp); (clear hK hK2 K K2);refine ords_held (v := Value.agg [.int .i64 p.digest, .int .i64 p.key, .int .i64 p.fanout, .int .i64 p.depth, .int .u32 p.leaf, .int .u64 p.offset, .int .u32 p.xof, .int .i64 p.nd, .int .i64 p.inner, .slice p.salt.A p.salt.n p.salt.c, .slice p.pers.A p.pers.n p.pers.c].toArray) rfl rfl (fun w9 hS => pure_load_mid 26 (.tmp 3) rfl w.heap.size 0 rfl _ _ (HBP8.grown hS HN1).whole hu.out rfl (by kernel_rfl)) ?_; go_simp;refine ords_pure rfl (fun K hK => ?_); go_simp; refine hK _ ?_; clear hK K;refine ords_heldK rfl (fun K K2 hK hK2 => ?_); go_simp; refine ⟨hK2 _ (fun w9 hS => ?_), hK _ ?_⟩; (clear hK hK2 K K2; have q0 : w9.cell? ⟨gq, 0, none⟩ = some (.int .i64 (7 : Nat)) := (HBR8.grown hS HNQ).cell 0; have q1 : w9.cell? ⟨gq, 1, none⟩ = some (.int .i64 at_) := (HBR8.grown hS HNQ).cell 1; have q2 : w9.cell? ⟨gq, 2, none⟩ = some (.int .i64 size) := (HBR8.grown hS HNQ).cell 2; go_simp); (clear hK hK2 K K2);refine ords_loud rfl (fun n1 => ?_);go_wp2_with (go_at_call 52; refine (HV.out 7 ⟨by omega, by omega⟩ _).mono ?_; rintro e5 w5 ⟨rfl, hb5⟩); have hb5' := undrN hb5; have HB5 := zH hb5'; clear hb5 hb5'; refine ⟨only_of_below HB5.out _, ?_⟩;refine ords_loud rfl (fun n2 => ?_);go_wp2_with (go_at_call 51; refine (put_any gb w.heap.size 64 64 at_ size (encTo true p k) (fieldV p 7) _ ((HOS8.below HB5.out (aZC _)).drewN n2) (encTo_len true p k) (by decide) (by simpa [bOf] using hfit) hs8).mono ?_; rintro e6 w6 ⟨rfl, ho6, hg6⟩); have HO6 := zH ho6; have HG6 := zH (grown_grown (only_of_below HB5.out (some gb)) (gdr_in hg6)); clear ho6 hg6; refine ⟨HG6.out, ?_⟩;refine ords_end (fun n3 => ?_);go_wp2
          case roundEnd =>
            have e1 : encTo true p (k + 1) = putL (encTo true p k) at_ (fieldV p 7).toNat size := by
              show (if _ then _ else _) = _
              rw [HROW.out]; exact if_neg (fun h => HX.out ⟨(by first | exact h.1 | trivial), h.2⟩)
            exact ⟨⟨k + 1, by omega, by go_num, by rw [e1]; exact HO6.drewN _, gdr (grown_grown HGR8.out HG6.out) _⟩, by simp [intOf]; omega⟩
      · have h70 : ((f : Int) == 7) = false := by simp; omega
        have HX := zH (show ¬ (f = 7 /\ p.xof = 0) from fun h => h7 h.1); clear h7;go_wp2_with (refine aZX rfl 102 (.tmp 32) rfl gr (k * 5) rfl [.int .i64 _, .int .i64 at_, .int .i64 size, .string s, .int .i64 e] _ HRG2 Tryz.underlying102 rfl (by kernel_rfl) ?_);have hbr8 := Blk.new wr 102 #[.int .i64 ((f : Nat) : Int), .int .i64 at_, .int .i64 size, .string s, .int .i64 e];have hbp8 := HBP.alloc (.cells #[.int .i64 ((f : Nat) : Int), .int .i64 at_, .int .i64 size, .string s, .int .i64 e] 102);have hos8 := HOS.alloc (.cells #[.int .i64 ((f : Nat) : Int), .int .i64 at_, .int .i64 size, .string s, .int .i64 e] 102);have hgr8 := only_alloc HGR (.cells #[.int .i64 ((f : Nat) : Int), .int .i64 at_, .int .i64 size, .string s, .int .i64 e] 102);clear c6
        try simp only [Int.cast_ofNat_Int] at hbr8 hbp8 hos8 hgr8
        generalize wr.alloc (.cells #[.int .i64 _, .int .i64 at_, .int .i64 size, .string s, .int .i64 e] 102) = W8 at *;have hnq : some wr.heap.size ≠ some gb := by intro h; have := aZF h; omega
        generalize wr.heap.size = gq at *;have HBR8 := zH hbr8; have HBP8 := zH hbp8; have HOS8 := zH hos8; have HGR8 := zH hgr8; have HNQ := zH hnq; have HN1 := zH hne1; clear hbr8 hbp8 hos8 hgr8 hnq hne1 hne2;have hu := zH Tryz.underlying26;have p0 : W8.cell? ⟨gq, 0, none⟩ = some (.int .i64 (f : Nat)) := HBR8.cell 0;have p1 : W8.cell? ⟨gq, 1, none⟩ = some (.int .i64 at_) := HBR8.cell 1;have p2 : W8.cell? ⟨gq, 2, none⟩ = some (.int .i64 size) := HBR8.cell 2;refine wrZ (fun W' => W8.grownBy W' (some gb)) (fun _ n h => only_drewN h n) (Ords.of [(0, 0), (0, 1), (0, 2), (0, 3), (0, 4), (0, 5), (0, 6), (0, 7), (2, 8), (2, 9)] .fin) (World.grownBy.refl _ _) ?_
        iterate 2 (refine ords_pure rfl (fun K hK => ?_); go_simp; refine hK _ ?_; clear hK K)
        refine ords_heldK rfl (fun K K2 hK hK2 => ?_); go_simp; refine ⟨hK2 _ (fun w9 hS => ?_), hK _ ?_⟩; (clear hK hK2 K K2; have q0 : w9.cell? ⟨gq, 0, none⟩ = some (.int .i64 (f : Nat)) := (HBR8.grown hS HNQ).cell 0; have q1 : w9.cell? ⟨gq, 1, none⟩ = some (.int .i64 at_) := (HBR8.grown hS HNQ).cell 1; have q2 : w9.cell? ⟨gq, 2, none⟩ = some (.int .i64 size) := (HBR8.grown hS HNQ).cell 2; go_simp); (clear hK hK2 K K2);refine ords_pure rfl (fun K hK => ?_); go_simp; refine hK _ ?_; clear hK K;refine ords_heldK rfl (fun K K2 hK hK2 => ?_); go_simp; refine ⟨hK2 _ (fun w9 hS => ?_), hK _ ?_⟩; (clear hK hK2 K K2; have q0 : w9.cell? ⟨gq, 0, none⟩ = some (.int .i64 (f : Nat)) := (HBR8.grown hS HNQ).cell 0; have q1 : w9.cell? ⟨gq, 1, none⟩ = some (.int .i64 at_) := (HBR8.grown hS HNQ).cell 1; have q2 : w9.cell? ⟨gq, 2, none⟩ = some (.int .i64 size) := (HBR8.grown hS HNQ).cell 2; go_simp); (clear hK hK2 K K2);refine ords_held (v := Value.agg [.int .i64 p.digest, .int .i64 p.key, .int .i64 p.fanout, .int .i64 p.depth, .int .u32 p.leaf, .int .u64 p.offset, .int .u32 p.xof, .int .i64 p.nd, .int .i64 p.inner, .slice p.salt.A p.salt.n p.salt.c, .slice p.pers.A p.pers.n p.pers.c].toArray) rfl rfl (fun w9 hS => pure_load_mid 26 (.tmp 3) rfl w.heap.size 0 rfl _ _ (HBP8.grown hS HN1).whole hu.out rfl (by kernel_rfl)) ?_; go_simp;refine ords_pure rfl (fun K hK => ?_); go_simp; refine hK _ ?_; clear hK K;refine ords_heldK rfl (fun K K2 hK hK2 => ?_); go_simp; refine ⟨hK2 _ (fun w9 hS => ?_), hK _ ?_⟩; (clear hK hK2 K K2; have q0 : w9.cell? ⟨gq, 0, none⟩ = some (.int .i64 (f : Nat)) := (HBR8.grown hS HNQ).cell 0; have q1 : w9.cell? ⟨gq, 1, none⟩ = some (.int .i64 at_) := (HBR8.grown hS HNQ).cell 1; have q2 : w9.cell? ⟨gq, 2, none⟩ = some (.int .i64 size) := (HBR8.grown hS HNQ).cell 2; go_simp); (clear hK hK2 K K2);refine ords_loud rfl (fun n1 => ?_);go_wp2_with (go_at_call 52; refine (HV.out f ⟨by omega, by omega⟩ _).mono ?_; rintro e5 w5 ⟨rfl, hb5⟩); have hb5' := undrN hb5; have HB5 := zH hb5'; clear hb5 hb5'; refine ⟨only_of_below HB5.out _, ?_⟩;refine ords_loud rfl (fun n2 => ?_);go_wp2_with (go_at_call 51; refine (put_any gb w.heap.size 64 64 at_ size (encTo true p k) (fieldV p f) _ ((HOS8.below HB5.out (aZC _)).drewN n2) (encTo_len true p k) (by decide) (by simpa [bOf] using hfit) hs8).mono ?_; rintro e6 w6 ⟨rfl, ho6, hg6⟩); have HO6 := zH ho6; have HG6 := zH (grown_grown (only_of_below HB5.out (some gb)) (gdr_in hg6)); clear ho6 hg6; refine ⟨HG6.out, ?_⟩;refine ords_end (fun n3 => ?_);go_wp2
        case roundEnd =>
          have e1 : encTo true p (k + 1) = putL (encTo true p k) at_ (fieldV p f).toNat size := by
            show (if _ then _ else _) = _
            rw [HROW.out]; exact if_neg (fun h => HX.out ⟨(by first | exact h.1 | trivial), h.2⟩)
          exact ⟨⟨k + 1, by omega, by go_num, by rw [e1]; exact HO6.drewN _, gdr (grown_grown HGR8.out HG6.out) _⟩, by simp [intOf]; omega⟩
    · obtain rfl : k = 9 := by omega
      have HOS := zH hos; have HBP := zH hbp; have HGR := zH hgr;have c9 : wr.cell? ⟨w.heap.size, 9, none⟩ = some (.slice p.salt.A p.salt.n p.salt.c) := hbp.cell 9;have c10 : wr.cell? ⟨w.heap.size, 10, none⟩ = some (.slice p.pers.A p.pers.n p.pers.c) := hbp.cell 10;clear hos hbp hbr hgr;have HNE := zH hne1; clear hne1 hne2;have hw32 : IntKind.i64.wrap 32 = 32 := rfl;have hw16 : IntKind.i64.wrap 16 = 16 := rfl;have hw48 : IntKind.i64.wrap 48 = 48 := rfl;have hb64 : 4 * p.salt.n <= 64 /\ 4 * p.pers.n <= 64 := by have h := HRG.out.2.2.2.2.2.2; exact h
      obtain ⟨hb1, hb2⟩ := hb64;have hW : Below w.heap.size w wr := HW.grown HGR.out HW.size (fun g h => by have := aZF h; omega);have HWr := zH hW; clear hW;go_wp2;refine wrZ (fun _ => True) (fun _ _ h => h) (Ords.of [(0, 0), (0, 1), (0, 2), (0, 3), (0, 4), (0, 5), (0, 6), (1, 7), (2, 8)] .fin) trivial ?_
      iterate 8 ((first | refine ords_pure rfl (fun K hK => ?_) | refine ords_read rfl (fun K hK => ?_)); go_simp; refine hK _ ?_; clear hK K)
      refine ords_loud rfl (fun n1 => ?_)
      (refine wpList_copyB (k := 32) (n := 32) (dc := 32) rfl (.tmp 58) (.tmp 60) rfl rfl rfl (HOS.drewN n1) ((HRS.below HWr.out).drewN n1) HLS.out (by omega) (by rw [encTo_len]; show 32 + p.salt.n <= 64; omega) ?_; intro w6 ho6 hg6); have HO6 := zH ho6; have HG6 := zH (gdr_in hg6); clear ho6 hg6; go_wp2
      first | (refine ⟨trivial, ?_⟩; refine ords_end (fun n2 => ?_)) | (rintro _ ⟨n2, rfl⟩)
      have hO6 := HO6.drewN n2;have hW6 := bdr (HWr.grown HG6.out HWr.size (fun g h => by have := aZF h; omega)) n2;have c10 : (w6.drewN n2).cell? ⟨w.heap.size, 10, none⟩ = some (.slice p.pers.A p.pers.n p.pers.c) := (HBP.grown HG6 HNE).cell 10;generalize w6.drewN n2 = w6d at *;have HO6 := zH hO6; have HW6 := zH hW6; clear hO6 hW6;have hol := over_len (encTo true p 9) 32 ls (by rw [encTo_len, HLS.out]; show 32 + p.salt.n <= 64; omega);rw [encTo_len] at hol;have HOL := zH hol; clear hol;go_wp2;refine wrZ (fun _ => True) (fun _ _ h => h) (Ords.of [(0, 0), (0, 1), (0, 2), (0, 3), (0, 4), (0, 5), (1, 6), (2, 7)] .fin) trivial ?_
      iterate 7 ((first | refine ords_pure rfl (fun K hK => ?_) | refine ords_read rfl (fun K hK => ?_)); go_simp; refine hK _ ?_; clear hK K)
      refine ords_loud rfl (fun n1 => ?_)
      (refine wpList_copyB (k := 48) (n := 16) (dc := 16) rfl (.tmp 66) (.tmp 68) rfl rfl rfl (HO6.drewN n1) ((HRP.below HW6.out).drewN n1) HLP.out (by omega) (by rw [HOL.out]; show 48 + p.pers.n <= 64; omega) ?_; intro w7 ho7 hg7); have HO7 := zH ho7; have HG7 := zH (gdr_in hg7); clear ho7 hg7; go_wp2
      first | (refine ⟨trivial, ?_⟩; refine ords_end (fun n2 => ?_)) | (rintro _ ⟨n2, rfl⟩)
      go_wp2;exact aZB (aZG rfl _ _ _) rfl ⟨_, _, rfl, HO7.drewN n2, bdr (HW6.grown HG7.out HW6.size (fun g h => by have := aZF h; omega)) n2⟩
theorem encodeSmall_any (p : Pr) (ls lp : List UInt8) (w : World) (hc : chk 2 p = 0) (hf : p.Fit) (hls : ls.length = p.salt.n) (hlp : lp.length = p.pers.n) (hrs : RS cB w w.heap.size p.salt.A ls) (hrp : RS cB w w.heap.size p.pers.A lp) :
    Calls Tryz.prog 29 #[.int .i64 2, p.v] w fun e w' => ∃ A c, e = .returned (.tuple #[.slice A 32 c, .int .i64 0]) /\ OS cB w' w.heap.size A c (encL false p ls lp) /\ Below w.heap.size w w' := by
  have hck := fun W => check_any 2 p W
  have hval := fun f h1 W => value_any (big := false) hc hf f h1 W
  have hro := fun W => rowsSmall_any W
  have hrg := chk_range (big := false) hc;have hmk : ∀ W : World, (Instr.makeSlice 24 (.int .i64 32) (.int .i64 32)).run Tryz.prog W = .ok (.slice (some ⟨W.heap.size, 0, none⟩) 32 32) (W.alloc (.cells (zB 32) 5)) := fun W => make_zB 32 (by decide) W
  simp only [hc] at hck;have HLS := zH hls; have HLP := zH hlp; have HRS := zH hrs; have HRP := zH hrp; have HF := zH hf; have HC := zH hc; have HRG := zH hrg; clear hls hlp hrs hrp hf hc hrg;unfold Pr.v Pr.cs Sl.v at *;have HCK := zH hck; have HV := zH hval; have HRO := zH hro; clear hck hval hro;go_enter Tryz.func29, Tryz.ntmps29;go_wp2_with (first
    | (go_at_call 48; refine (HCK.out _).mono ?_; rintro e w1 ⟨rfl, hbw1⟩; (first | refine withN hbw1 ?_ | refine withD hbw1 ?_ | refine with0 hbw1 ?_); intro hcw1 hfw1; have z0w1 : w.heap.size < w1.heap.size := (by have := hbw1.size; (try simp at this); omega))
    | (go_at_call 49; refine (sizes_small _).mono ?_; rintro e w9 ⟨rfl, rfl⟩)
    | (go_at_call 50; refine (HRO.out _).mono ?_; rintro e w2 ⟨gr, rfl, hgr, hbr, hbw2⟩; (first | refine withN hbw2 ?_ | refine withD hbw2 ?_ | refine with0 hbw2 ?_); intro hcw2 hfw2; have z0w2 : w.heap.size < w2.heap.size := (by have := hbw2.size; (try simp at this); omega)))
  have hb1 := Blk.new w 26 #[.int .i64 p.digest, .int .i64 p.key, .int .i64 p.fanout, .int .i64 p.depth, .int .u32 p.leaf, .int .u64 p.offset, .int .u32 p.xof, .int .i64 p.nd, .int .i64 p.inner, .slice p.salt.A p.salt.n p.salt.c, .slice p.pers.A p.pers.n p.pers.c];have hz1 : w.heap.size < w1.heap.size := z0w1;have hb2 := ((hb1.below hbw1 (by simp)).alloc (.cells (zB 32) 5)).below hbw2 (by simp; omega);have hW1 := bcall (bal (b0 w) _) hbw1;have hW2 := bcall (bal hW1 (.cells (zB 32) 5)) hbw2;have ho2 := (OS.madeAt (cd := cB) (base := w.heap.size) w1 32 32 0 rfl (by decide) (by unfold maxLen; omega) (Nat.le_of_lt hz1) rfl).below hbw2 (aZC _);have hg2 : w1.heap.size < gr := by have : (w1.alloc (.cells (zB 32) 5)).heap.size <= gr := hgr; simp at this; omega
  generalize w1.heap.size = gb at *;have HB := zH hb2; have HR := zH hbr; have HW := zH hW2; have HO := zH ho2;clear hb1 hb2 hW1 hW2 ho2 hbr hbw1 hbw2 hcw1 hfw1 hcw2 hfw2 hgr hmk z0w2;go_loopw [30] (fun i wr => ∃ k : Nat, k <= 9 /\ i = .int .i64 k /\ OS cB wr w.heap.size (some ⟨gb, 0, none⟩) 32 (encTo false p k) /\ w2.grownBy wr (some gb)) (fun i _ => 9 - (intOf i).toNat)
  case atStart => exact ⟨0, Nat.zero_le _, rfl, HO.out, World.grownBy.refl _ _⟩
  case round =>
    obtain ⟨k, hk, rfl, hos, hgr⟩ := hrel;have hne1 : some w.heap.size ≠ some gb := by intro h; have := aZF h; omega
    have hne2 : some gr ≠ some gb := by intro h; have := aZF h; omega
    have hbp := HB.grown hgr hne1;have hbr := HR.grown hgr hne2
    by_cases hlt : k < 9
    · obtain ⟨f, at_, size, s, e, hrow, hf1, hf9, hfit, hs8, hcells⟩ := row_at false k hlt
      have hrg := hbr.range (k * 5) 5;rw [hcells] at hrg;have HRG2 := zH hrg; have HROW := zH hrow; have HBP := zH hbp; have HOS := zH hos; have HGR := zH hgr;have c6 : wr.cell? ⟨w.heap.size, 6, none⟩ = some (.int .u32 p.xof) := hbp.cell 6;have hbl := hbp.lt;clear hrg hrow hbp hbr hos hgr hcells;have hkd : decide ((k : Int) < 9) = true := by simp; omega
      have hk5 : (k : Int) * 5 = ((k * 5 : Nat) : Int) := by omega
      have hgb : gb < wr.heap.size := (HOS.block_lt _ rfl).2
      by_cases h7 : f = 7
      · subst h7
        by_cases hx : p.xof = 0
        · have hx0 : (p.xof == 0) = true := by simpa using hx
          have HX := zH hx; clear hx;go_wp2_with (refine aZX rfl 102 (.tmp 32) rfl gr (k * 5) rfl [.int .i64 _, .int .i64 at_, .int .i64 size, .string s, .int .i64 e] _ HRG2 Tryz.underlying102 rfl (by kernel_rfl) ?_)
          case roundEnd => exact ⟨⟨k + 1, by omega, by go_num, by have e1 : encTo false p (k + 1) = encTo false p k := by { show (if _ then _ else _) = _; rw [HROW.out, if_pos ⟨rfl, HX.out⟩] }
                                                                  rw [e1]; exact HOS.alloc _, only_alloc HGR.out _⟩, by simp [intOf]; omega⟩
        · have hx0 : (p.xof == 0) = false := by simpa using hx
          have HX := zH (show ¬ (7 = 7 /\ p.xof = 0) from fun h => hx h.2); clear hx;go_wp2_with (refine aZX rfl 102 (.tmp 32) rfl gr (k * 5) rfl [.int .i64 _, .int .i64 at_, .int .i64 size, .string s, .int .i64 e] _ HRG2 Tryz.underlying102 rfl (by kernel_rfl) ?_);have hbr8 := Blk.new wr 102 #[.int .i64 ((7 : Nat) : Int), .int .i64 at_, .int .i64 size, .string s, .int .i64 e];have hbp8 := HBP.alloc (.cells #[.int .i64 ((7 : Nat) : Int), .int .i64 at_, .int .i64 size, .string s, .int .i64 e] 102);have hos8 := HOS.alloc (.cells #[.int .i64 ((7 : Nat) : Int), .int .i64 at_, .int .i64 size, .string s, .int .i64 e] 102);have hgr8 := only_alloc HGR (.cells #[.int .i64 ((7 : Nat) : Int), .int .i64 at_, .int .i64 size, .string s, .int .i64 e] 102);clear c6
          try simp only [Int.cast_ofNat_Int] at hbr8 hbp8 hos8 hgr8
          generalize wr.alloc (.cells #[.int .i64 _, .int .i64 at_, .int .i64 size, .string s, .int .i64 e] 102) = W8 at *;have hnq : some wr.heap.size ≠ some gb := by intro h; have := aZF h; omega
          generalize wr.heap.size = gq at *;have HBR8 := zH hbr8; have HBP8 := zH hbp8; have HOS8 := zH hos8; have HGR8 := zH hgr8; have HNQ := zH hnq; have HN1 := zH hne1; clear hbr8 hbp8 hos8 hgr8 hnq hne1 hne2;have hu := zH Tryz.underlying26;have p0 : W8.cell? ⟨gq, 0, none⟩ = some (.int .i64 (7 : Nat)) := HBR8.cell 0;have p1 : W8.cell? ⟨gq, 1, none⟩ = some (.int .i64 at_) := HBR8.cell 1;have p2 : W8.cell? ⟨gq, 2, none⟩ = some (.int .i64 size) := HBR8.cell 2;refine wrZ (fun W' => W8.grownBy W' (some gb)) (fun _ n h => only_drewN h n) (Ords.of [(0, 0), (0, 1), (0, 2), (0, 3), (0, 4), (0, 5), (0, 6), (0, 7), (2, 8), (2, 9)] .fin) (World.grownBy.refl _ _) ?_
          iterate 2 (refine ords_pure rfl (fun K hK => ?_); go_simp; refine hK _ ?_; clear hK K)
          refine ords_heldK rfl (fun K K2 hK hK2 => ?_); go_simp; refine ⟨hK2 _ (fun w9 hS => ?_), hK _ ?_⟩; (clear hK hK2 K K2; have q0 : w9.cell? ⟨gq, 0, none⟩ = some (.int .i64 (7 : Nat)) := (HBR8.grown hS HNQ).cell 0; have q1 : w9.cell? ⟨gq, 1, none⟩ = some (.int .i64 at_) := (HBR8.grown hS HNQ).cell 1; have q2 : w9.cell? ⟨gq, 2, none⟩ = some (.int .i64 size) := (HBR8.grown hS HNQ).cell 2; go_simp); (clear hK hK2 K K2);refine ords_pure rfl (fun K hK => ?_); go_simp; refine hK _ ?_; clear hK K;refine ords_heldK rfl (fun K K2 hK hK2 => ?_); go_simp; refine ⟨hK2 _ (fun w9 hS => ?_), hK _ ?_⟩; (clear hK hK2 K K2; have q0 : w9.cell? ⟨gq, 0, none⟩ = some (.int .i64 (7 : Nat)) := (HBR8.grown hS HNQ).cell 0; have q1 : w9.cell? ⟨gq, 1, none⟩ = some (.int .i64 at_) := (HBR8.grown hS HNQ).cell 1; have q2 : w9.cell? ⟨gq, 2, none⟩ = some (.int .i64 size) := (HBR8.grown hS HNQ).cell 2; go_simp); (clear hK hK2 K K2);refine ords_held (v := Value.agg [.int .i64 p.digest, .int .i64 p.key, .int .i64 p.fanout, .int .i64 p.depth, .int .u32 p.leaf, .int .u64 p.offset, .int .u32 p.xof, .int .i64 p.nd, .int .i64 p.inner, .slice p.salt.A p.salt.n p.salt.c, .slice p.pers.A p.pers.n p.pers.c].toArray) rfl rfl (fun w9 hS => pure_load_mid 26 (.tmp 3) rfl w.heap.size 0 rfl _ _ (HBP8.grown hS HN1).whole hu.out rfl (by kernel_rfl)) ?_; go_simp;refine ords_pure rfl (fun K hK => ?_); go_simp; refine hK _ ?_; clear hK K;refine ords_heldK rfl (fun K K2 hK hK2 => ?_); go_simp; refine ⟨hK2 _ (fun w9 hS => ?_), hK _ ?_⟩; (clear hK hK2 K K2; have q0 : w9.cell? ⟨gq, 0, none⟩ = some (.int .i64 (7 : Nat)) := (HBR8.grown hS HNQ).cell 0; have q1 : w9.cell? ⟨gq, 1, none⟩ = some (.int .i64 at_) := (HBR8.grown hS HNQ).cell 1; have q2 : w9.cell? ⟨gq, 2, none⟩ = some (.int .i64 size) := (HBR8.grown hS HNQ).cell 2; go_simp); (clear hK hK2 K K2);refine ords_loud rfl (fun n1 => ?_);go_wp2_with (go_at_call 52; refine (HV.out 7 ⟨by omega, by omega⟩ _).mono ?_; rintro e5 w5 ⟨rfl, hb5⟩); have hb5' := undrN hb5; have HB5 := zH hb5'; clear hb5 hb5'; refine ⟨only_of_below HB5.out _, ?_⟩;refine ords_loud rfl (fun n2 => ?_);go_wp2_with (go_at_call 51; refine (put_any gb w.heap.size 32 32 at_ size (encTo false p k) (fieldV p 7) _ ((HOS8.below HB5.out (aZC _)).drewN n2) (encTo_len false p k) (by decide) (by simpa [bOf] using hfit) hs8).mono ?_; rintro e6 w6 ⟨rfl, ho6, hg6⟩); have HO6 := zH ho6; have HG6 := zH (grown_grown (only_of_below HB5.out (some gb)) (gdr_in hg6)); clear ho6 hg6; refine ⟨HG6.out, ?_⟩;refine ords_end (fun n3 => ?_);go_wp2
          case roundEnd =>
            have e1 : encTo false p (k + 1) = putL (encTo false p k) at_ (fieldV p 7).toNat size := by
              show (if _ then _ else _) = _
              rw [HROW.out]; exact if_neg (fun h => HX.out ⟨(by first | exact h.1 | trivial), h.2⟩)
            exact ⟨⟨k + 1, by omega, by go_num, by rw [e1]; exact HO6.drewN _, gdr (grown_grown HGR8.out HG6.out) _⟩, by simp [intOf]; omega⟩
      · have h70 : ((f : Int) == 7) = false := by simp; omega
        have HX := zH (show ¬ (f = 7 /\ p.xof = 0) from fun h => h7 h.1); clear h7;go_wp2_with (refine aZX rfl 102 (.tmp 32) rfl gr (k * 5) rfl [.int .i64 _, .int .i64 at_, .int .i64 size, .string s, .int .i64 e] _ HRG2 Tryz.underlying102 rfl (by kernel_rfl) ?_);have hbr8 := Blk.new wr 102 #[.int .i64 ((f : Nat) : Int), .int .i64 at_, .int .i64 size, .string s, .int .i64 e];have hbp8 := HBP.alloc (.cells #[.int .i64 ((f : Nat) : Int), .int .i64 at_, .int .i64 size, .string s, .int .i64 e] 102);have hos8 := HOS.alloc (.cells #[.int .i64 ((f : Nat) : Int), .int .i64 at_, .int .i64 size, .string s, .int .i64 e] 102);have hgr8 := only_alloc HGR (.cells #[.int .i64 ((f : Nat) : Int), .int .i64 at_, .int .i64 size, .string s, .int .i64 e] 102);clear c6
        try simp only [Int.cast_ofNat_Int] at hbr8 hbp8 hos8 hgr8
        generalize wr.alloc (.cells #[.int .i64 _, .int .i64 at_, .int .i64 size, .string s, .int .i64 e] 102) = W8 at *;have hnq : some wr.heap.size ≠ some gb := by intro h; have := aZF h; omega
        generalize wr.heap.size = gq at *;have HBR8 := zH hbr8; have HBP8 := zH hbp8; have HOS8 := zH hos8; have HGR8 := zH hgr8; have HNQ := zH hnq; have HN1 := zH hne1; clear hbr8 hbp8 hos8 hgr8 hnq hne1 hne2;have hu := zH Tryz.underlying26;have p0 : W8.cell? ⟨gq, 0, none⟩ = some (.int .i64 (f : Nat)) := HBR8.cell 0;have p1 : W8.cell? ⟨gq, 1, none⟩ = some (.int .i64 at_) := HBR8.cell 1;have p2 : W8.cell? ⟨gq, 2, none⟩ = some (.int .i64 size) := HBR8.cell 2;refine wrZ (fun W' => W8.grownBy W' (some gb)) (fun _ n h => only_drewN h n) (Ords.of [(0, 0), (0, 1), (0, 2), (0, 3), (0, 4), (0, 5), (0, 6), (0, 7), (2, 8), (2, 9)] .fin) (World.grownBy.refl _ _) ?_
        iterate 2 (refine ords_pure rfl (fun K hK => ?_); go_simp; refine hK _ ?_; clear hK K)
        refine ords_heldK rfl (fun K K2 hK hK2 => ?_); go_simp; refine ⟨hK2 _ (fun w9 hS => ?_), hK _ ?_⟩; (clear hK hK2 K K2; have q0 : w9.cell? ⟨gq, 0, none⟩ = some (.int .i64 (f : Nat)) := (HBR8.grown hS HNQ).cell 0; have q1 : w9.cell? ⟨gq, 1, none⟩ = some (.int .i64 at_) := (HBR8.grown hS HNQ).cell 1; have q2 : w9.cell? ⟨gq, 2, none⟩ = some (.int .i64 size) := (HBR8.grown hS HNQ).cell 2; go_simp); (clear hK hK2 K K2);refine ords_pure rfl (fun K hK => ?_); go_simp; refine hK _ ?_; clear hK K;refine ords_heldK rfl (fun K K2 hK hK2 => ?_); go_simp; refine ⟨hK2 _ (fun w9 hS => ?_), hK _ ?_⟩; (clear hK hK2 K K2; have q0 : w9.cell? ⟨gq, 0, none⟩ = some (.int .i64 (f : Nat)) := (HBR8.grown hS HNQ).cell 0; have q1 : w9.cell? ⟨gq, 1, none⟩ = some (.int .i64 at_) := (HBR8.grown hS HNQ).cell 1; have q2 : w9.cell? ⟨gq, 2, none⟩ = some (.int .i64 size) := (HBR8.grown hS HNQ).cell 2; go_simp); (clear hK hK2 K K2);refine ords_held (v := Value.agg [.int .i64 p.digest, .int .i64 p.key, .int .i64 p.fanout, .int .i64 p.depth, .int .u32 p.leaf, .int .u64 p.offset, .int .u32 p.xof, .int .i64 p.nd, .int .i64 p.inner, .slice p.salt.A p.salt.n p.salt.c, .slice p.pers.A p.pers.n p.pers.c].toArray) rfl rfl (fun w9 hS => pure_load_mid 26 (.tmp 3) rfl w.heap.size 0 rfl _ _ (HBP8.grown hS HN1).whole hu.out rfl (by kernel_rfl)) ?_; go_simp;refine ords_pure rfl (fun K hK => ?_); go_simp; refine hK _ ?_; clear hK K;refine ords_heldK rfl (fun K K2 hK hK2 => ?_); go_simp; refine ⟨hK2 _ (fun w9 hS => ?_), hK _ ?_⟩; (clear hK hK2 K K2; have q0 : w9.cell? ⟨gq, 0, none⟩ = some (.int .i64 (f : Nat)) := (HBR8.grown hS HNQ).cell 0; have q1 : w9.cell? ⟨gq, 1, none⟩ = some (.int .i64 at_) := (HBR8.grown hS HNQ).cell 1; have q2 : w9.cell? ⟨gq, 2, none⟩ = some (.int .i64 size) := (HBR8.grown hS HNQ).cell 2; go_simp); (clear hK hK2 K K2);refine ords_loud rfl (fun n1 => ?_);go_wp2_with (go_at_call 52; refine (HV.out f ⟨by omega, by omega⟩ _).mono ?_; rintro e5 w5 ⟨rfl, hb5⟩); have hb5' := undrN hb5; have HB5 := zH hb5'; clear hb5 hb5'; refine ⟨only_of_below HB5.out _, ?_⟩;refine ords_loud rfl (fun n2 => ?_);go_wp2_with (go_at_call 51; refine (put_any gb w.heap.size 32 32 at_ size (encTo false p k) (fieldV p f) _ ((HOS8.below HB5.out (aZC _)).drewN n2) (encTo_len false p k) (by decide) (by simpa [bOf] using hfit) hs8).mono ?_; rintro e6 w6 ⟨rfl, ho6, hg6⟩); have HO6 := zH ho6; have HG6 := zH (grown_grown (only_of_below HB5.out (some gb)) (gdr_in hg6)); clear ho6 hg6; refine ⟨HG6.out, ?_⟩;refine ords_end (fun n3 => ?_);go_wp2
        case roundEnd =>
          have e1 : encTo false p (k + 1) = putL (encTo false p k) at_ (fieldV p f).toNat size := by
            show (if _ then _ else _) = _
            rw [HROW.out]; exact if_neg (fun h => HX.out ⟨(by first | exact h.1 | trivial), h.2⟩)
          exact ⟨⟨k + 1, by omega, by go_num, by rw [e1]; exact HO6.drewN _, gdr (grown_grown HGR8.out HG6.out) _⟩, by simp [intOf]; omega⟩
    · obtain rfl : k = 9 := by omega
      have HOS := zH hos; have HBP := zH hbp; have HGR := zH hgr;have c9 : wr.cell? ⟨w.heap.size, 9, none⟩ = some (.slice p.salt.A p.salt.n p.salt.c) := hbp.cell 9;have c10 : wr.cell? ⟨w.heap.size, 10, none⟩ = some (.slice p.pers.A p.pers.n p.pers.c) := hbp.cell 10;clear hos hbp hbr hgr;have HNE := zH hne1; clear hne1 hne2;have hw32 : IntKind.i64.wrap 16 = 16 := rfl;have hw16 : IntKind.i64.wrap 8 = 8 := rfl;have hw48 : IntKind.i64.wrap 24 = 24 := rfl;have hb64 : 4 * p.salt.n <= 32 /\ 4 * p.pers.n <= 32 := by have h := HRG.out.2.2.2.2.2.2; exact h
      obtain ⟨hb1, hb2⟩ := hb64;have hW : Below w.heap.size w wr := HW.grown HGR.out HW.size (fun g h => by have := aZF h; omega);have HWr := zH hW; clear hW;go_wp2;refine wrZ (fun _ => True) (fun _ _ h => h) (Ords.of [(0, 0), (0, 1), (0, 2), (0, 3), (0, 4), (0, 5), (0, 6), (1, 7), (2, 8)] .fin) trivial ?_
      iterate 8 ((first | refine ords_pure rfl (fun K hK => ?_) | refine ords_read rfl (fun K hK => ?_)); go_simp; refine hK _ ?_; clear hK K)
      refine ords_loud rfl (fun n1 => ?_)
      (refine wpList_copyB (k := 16) (n := 16) (dc := 16) rfl (.tmp 58) (.tmp 60) rfl rfl rfl (HOS.drewN n1) ((HRS.below HWr.out).drewN n1) HLS.out (by omega) (by rw [encTo_len]; show 16 + p.salt.n <= 32; omega) ?_; intro w6 ho6 hg6); have HO6 := zH ho6; have HG6 := zH (gdr_in hg6); clear ho6 hg6; go_wp2
      first | (refine ⟨trivial, ?_⟩; refine ords_end (fun n2 => ?_)) | (rintro _ ⟨n2, rfl⟩)
      have hO6 := HO6.drewN n2;have hW6 := bdr (HWr.grown HG6.out HWr.size (fun g h => by have := aZF h; omega)) n2;have c10 : (w6.drewN n2).cell? ⟨w.heap.size, 10, none⟩ = some (.slice p.pers.A p.pers.n p.pers.c) := (HBP.grown HG6 HNE).cell 10;generalize w6.drewN n2 = w6d at *;have HO6 := zH hO6; have HW6 := zH hW6; clear hO6 hW6;have hol := over_len (encTo false p 9) 16 ls (by rw [encTo_len, HLS.out]; show 16 + p.salt.n <= 32; omega);rw [encTo_len] at hol;have HOL := zH hol; clear hol;go_wp2;refine wrZ (fun _ => True) (fun _ _ h => h) (Ords.of [(0, 0), (0, 1), (0, 2), (0, 3), (0, 4), (0, 5), (1, 6), (2, 7)] .fin) trivial ?_
      iterate 7 ((first | refine ords_pure rfl (fun K hK => ?_) | refine ords_read rfl (fun K hK => ?_)); go_simp; refine hK _ ?_; clear hK K)
      refine ords_loud rfl (fun n1 => ?_)
      (refine wpList_copyB (k := 24) (n := 8) (dc := 8) rfl (.tmp 66) (.tmp 68) rfl rfl rfl (HO6.drewN n1) ((HRP.below HW6.out).drewN n1) HLP.out (by omega) (by rw [HOL.out]; show 24 + p.pers.n <= 32; omega) ?_; intro w7 ho7 hg7); have HO7 := zH ho7; have HG7 := zH (gdr_in hg7); clear ho7 hg7; go_wp2
      first | (refine ⟨trivial, ?_⟩; refine ords_end (fun n2 => ?_)) | (rintro _ ⟨n2, rfl⟩)
      go_wp2;exact aZB (aZG rfl _ _ _) rfl ⟨_, _, rfl, HO7.drewN n2, bdr (HW6.grown HG7.out HW6.size (fun g h => by have := aZF h; omega)) n2⟩
theorem encode_any (big : Bool) (p : Pr) (ls lp : List UInt8) (w : World) (hc : chk (kOf big) p = 0) (hf : p.Fit) (hls : ls.length = p.salt.n) (hlp : lp.length = p.pers.n) (hrs : RS cB w w.heap.size p.salt.A ls) (hrp : RS cB w w.heap.size p.pers.A lp) :
  Calls Tryz.prog 29 #[.int .i64 (kOf big), p.v] w fun e w' => ∃ A c, e = .returned (.tuple #[.slice A (bOf big) c, .int .i64 0]) /\ OS cB w' w.heap.size A c (encL big p ls lp) /\ Below w.heap.size w w' := by
 cases big with
 | true => exact encodeBig_any p ls lp w hc hf hls hlp hrs hrp
 | false => exact encodeSmall_any p ls lp w hc hf hls hlp hrs hrp
theorem encodeBad_any (k : Int) (p : Pr) (w : World) (hc : chk k p ≠ 0) :
  Calls Tryz.prog 29 #[.int .i64 k, p.v] w fun e w' => e = .returned (.tuple #[.slice none 0 0, .int .i64 (chk k p)]) /\ Below w.heap.size w w' := by
 have hck := fun W => check_any k p W
 have t1 : (chk k p != 0) = true := by simpa using hc
 generalize chk k p = r at *;unfold Pr.v Pr.cs Sl.v at *;have HCK := zH hck; clear hck hc;go_enter Tryz.func29, Tryz.ntmps29;go_wp2_with (go_at_call 48; refine (HCK.out _).mono ?_; rintro e w1 ⟨rfl, hbw1⟩; (first | refine withN hbw1 ?_ | refine withD hbw1 ?_ | refine with0 hbw1 ?_); intro hcw1 hfw1; have z0w1 : w.heap.size < w1.heap.size := (by have := hbw1.size; (try simp at this); omega));exact aZB (aZG rfl _ _ _) rfl ⟨rfl, bcall (bal (b0 w) _) hbw1⟩
theorem newBad_any (k : Int) (p : Pr) (Ak : Option Addr) (nk ck : Nat) (w : World) (hc : chk k p ≠ 0) :
  Calls Tryz.prog 11 #[.int .i64 k, p.v, .slice Ak nk ck] w fun e w' => e = .returned (.tuple #[.pointer none, .int .i64 (chk k p)]) /\ Below w.heap.size w w' := by
 have hck := fun W => encodeBad_any k p W hc
 have t1 : (chk k p != 0) = true := by simpa using hc
 generalize chk k p = r at *;unfold Pr.v Pr.cs Sl.v at *;have HCK := zH hck; clear hck hc;go_enter Tryz.func11, Tryz.ntmps11;go_wp2_with (go_at_call 29; refine (HCK.out _).mono ?_; rintro e w1 ⟨rfl, hbw1⟩; (first | refine withN hbw1 ?_ | refine withD hbw1 ?_ | refine with0 hbw1 ?_); intro hcw1 hfw1; have z0w1 : w.heap.size < w1.heap.size := (by have := hbw1.size; (try simp at this); omega));exact aZB (aZG rfl _ _ _) rfl ⟨rfl, bcall (bal (b0 w) _) hbw1⟩
theorem newKey_any (big : Bool) (p : Pr) (ls lp : List UInt8) (Ak : Option Addr) (nk ck : Nat) (w : World) (hc : chk (kOf big) p = 0) (hf : p.Fit) (hls : ls.length = p.salt.n) (hlp : lp.length = p.pers.n) (hrs : RS cB w w.heap.size p.salt.A ls) (hrp : RS cB w w.heap.size p.pers.A lp)
  (h0 : nk ≠ 0) (hk : (nk : Int) ≠ p.key) :
  Calls Tryz.prog 11 #[.int .i64 (kOf big), p.v, .slice Ak nk ck] w fun e w' => e = .returned (.tuple #[.pointer none, .int .i64 8]) /\ Below w.heap.size w w' := by
 have hen := fun W hrs hrp => encode_any big p ls lp W hc hf hls hlp hrs hrp
 have t1 : ((nk : Int) != 0) = true := by simpa using h0
 have t2 : ((nk : Int) != p.key) = true := by simpa using hk
 clear hc;unfold Pr.v Pr.cs Sl.v at *;have HEN := zH hen; have HRS := zH hrs; have HRP := zH hrp; clear hen hrs hrp hls hlp hf h0 hk;generalize hkk : kOf big = kk at *;clear hkk;go_enter Tryz.func11, Tryz.ntmps11;go_wp2_with (go_at_call 29; refine (HEN.out _ ((HRS.alloc (aZC _) _).more (by simp)) ((HRP.alloc (aZC _) _).more (by simp))).mono ?_; rintro e w1 ⟨A1, c1, rfl, ho1, hbw1⟩; (first | refine withN hbw1 ?_ | refine withD hbw1 ?_ | refine with0 hbw1 ?_); intro hcw1 hfw1; have z0w1 : w.heap.size < w1.heap.size := (by have := hbw1.size; (try simp at this); omega));exact aZB (aZG rfl _ _ _) rfl ⟨rfl, bcall (bal (b0 w) _) hbw1⟩
theorem new_any (big : Bool) (d : Nat) (p : Pr) (ls lp key : List UInt8) (Ak : Option Addr) (nk ck : Nat) (w : World) (hc : chk (kOf big) p = 0) (hf : p.Fit) (hd : p.digest = d) (hls : ls.length = p.salt.n) (hlp : lp.length = p.pers.n) (hrs : RS cB w w.heap.size p.salt.A ls) (hrp : RS cB w w.heap.size p.pers.A lp)
  (hk : key.length = nk) (hkk : nk = 0 \/ (nk : Int) = p.key) (hrk : RS cB w w.heap.size Ak key) :
  Calls Tryz.prog 11 #[.int .i64 (kOf big), p.v, .slice Ak nk ck] w fun r w' => ∃ q F, r = .returned (.tuple #[.pointer (some ⟨q, 0, none⟩), .int .i64 0]) /\ Nd w' q big d (encL big p ls lp) key false 0 (startK big (encL big p ls lp) key) F /\ (∀ k, k ∈ F -> w.heap.size <= k) /\ Below w.heap.size w w' := by
 have hen := fun W hrs hrp => encode_any big p ls lp W hc hf hls hlp hrs hrp
 have hrg := chk_range hc;have hb64 : bOf big <= 64 := by cases big <;> decide
 have hnk : nk <= 2 * bOf big := by rcases hkk with h | h <;> omega
 have hel : (encL big p ls lp).length = bOf big := encL_len big p ls lp (by rw [hls]; omega) (by rw [hlp]; omega);generalize encL big p ls lp = X at *;have hma := fun (A : Option Addr) (c : Nat) (W : World) hrx hrk => made_any d big X key A Ak (bOf big) nk c ck W hel rfl hk hnk hrx hrk
 have t3 : ((nk : Int) != 0) = false \/ (((nk : Int) != 0) = true /\ ((nk : Int) != p.key) = false) := by
  by_cases h : nk = 0
  ·exact .inl (by simpa using h)
  ·exact .inr ⟨by simpa using h, by have := hkk.resolve_left h; simpa using this⟩
 have hnk2 : nk <= 128 := by omega
 clear hc hkk hrg hnk;unfold Pr.v Pr.cs Sl.v at *;rw [hd] at hen;simp only [hd] at *;have HEN := zH hen; have HRS := zH hrs; have HRP := zH hrp; have HRK := zH hrk; have HMA := zH hma; clear hen hrs hrp hrk hma hls hlp hf hk hel hd;generalize hkq : kOf big = kk at *;clear hkq;generalize bOf big = nb at *;rcases t3 with t1 | ⟨t1, t2⟩
 all_goals
  go_enter Tryz.func11, Tryz.ntmps11;go_wp2_with (first
   | (go_at_call 29; refine (HEN.out _ ((HRS.alloc (aZC _) _).more (by simp)) ((HRP.alloc (aZC _) _).more (by simp))).mono ?_; rintro e w1 ⟨A1, c1, rfl, ho1, hbw1⟩; (first | refine withN hbw1 ?_ | refine withD hbw1 ?_ | refine with0 hbw1 ?_); intro hcw1 hfw1; have z0w1 : w.heap.size < w1.heap.size := (by have := hbw1.size; (try simp at this); omega))
   | (go_at_call 30; refine (HMA.out _ _ _ ho1.reads ((HRK.below (bcall (bal (b0 w) _) hbw1)).more (by have := hbw1.size; simp at this; omega))).mono ?_; rintro e2 w2 ⟨q, g, A2, c2, Ax, Ak2, cx, ck2, rfl, hN2, hb2, hq2, hg2⟩; have HN2 := zH hN2; have HB2 := zH hb2; have HQ2 := zH hq2; have HG2 := zH hg2; clear hN2 hb2 hq2 hg2))
  have hlow : w.heap.size <= w1.heap.size := by omega
  exact aZB (aZG rfl _ _ _) rfl ⟨q, _, rfl, HN2.nd, fun k hk => Nat.le_trans hlow (HN2.low HQ2 HG2 k hk), bcall (bcall (bal (b0 w) _) hbw1) HB2.out⟩
def hashL (big : Bool) (p : Pr) (ls lp key : List UInt8) (last : Bool) (data : List UInt8) : List UInt8 := ((startK big (encL big p ls lp) key).feed data).out last
theorem startK_full (big : Bool) (x key : List UInt8) : (startK big x key).full = bOf big := by
 unfold startK
 split
 ·exact startOf_full big x
 ·rw [Eng.feed_full]; exact startOf_full big x
theorem hashL_len (big : Bool) (p : Pr) (ls lp key : List UInt8) (last : Bool) (data : List UInt8) : (hashL big p ls lp key last data).length = bOf big := by
 unfold hashL; rw [Eng.out_len, Eng.feed_full, startK_full]
end Go.Proofs.YtboihcigcfmhhaaGreat

/-
  Z28: contracts and lemmas alone; no statement is claimed here.
-/
import Derived.Test.YtmapfcdffklopaaGreatZ26
import Derived.Test.YtmapfcdffklopaaGreatZ27
set_option maxHeartbeats 4000000
set_option maxRecDepth 20000
namespace Go.Proofs.YtmapfcdffklopaaGreat
open _root_.Nat renaming le_trans → aZL
open _root_.Option.some renaming inj → aZF
open _root_.Nat renaming le_refl → aZC
open Lib renaming hid -> zH
open Go.RowKit
attribute [local go_sem] pureUpon Ords.of
def catTo (T : Nat -> List UInt8) : Nat -> List UInt8
  | 0 => []
  | k + 1 => catTo T k ++ T k
structure Outs (w : World) (H : Nat) (T : Nat -> List UInt8) (m : Nat) (A : Option Addr) (c : Nat) (l : List SV) : Prop where
  row : OS cL w H A c l
  len : l.length = m
  own : ∀ (i : Nat) (s : SV), l[i]? = some s -> s.l = T i /\ s.l.length <= s.c /\ s.c <= 9223372036854775807 /\ ∃ c', OS cB w H s.A c' s.l
section
variable {w w' : World} {H : Nat} {T : Nat -> List UInt8} {m : Nat} {A : Option Addr} {c : Nat} {l : List SV}
theorem Outs.below (h : Outs w H T m A c l) (hb : Below w.heap.size w w') : Outs w' H T m A c l :=
 ⟨h.row.below hb (aZC _), h.len, fun i s hs => by obtain ⟨h1, h2, h3, c', h4⟩ := h.own i s hs; exact ⟨h1, h2, h3, c', h4.below hb (aZC _)⟩⟩
theorem Outs.empty (w : World) (H : Nat) (T : Nat -> List UInt8) : Outs w H T 0 none 0 [] := ⟨OS.nil w H 0 rfl, rfl, fun i s h => by simp at h⟩
theorem Outs.snoc (h : Outs w H T m A c l) {y : SV} (h1 : y.l = T m) (h2 : y.l.length <= y.c) (h3 : y.c <= 9223372036854775807) {cy : Nat} (h4 : OS cB w H y.A cy y.l) {A' : Option Addr} {c' : Nat} (ho : OS cL w' H A' c' (l ++ [y])) (hg : w.grownBy w' (A.map (·.block))) : Outs w' H T (m + 1) A' c' (l ++ [y]) := by
 have kp : ∀ (B : Option Addr) (x : Nat) (k : List UInt8), OS cB w H B x k -> OS cB w' H B x k := fun B x k hB => hB.kept hg (fun a ha e => by
  rcases h.row.form with ⟨e0, -⟩ | ⟨g, e0, -⟩
  ·rw [e0] at e; cases e
  ·have hr := h.row
   rw [e0] at e hr;exact os_blk_ne hB hr a ha (aZF e).symm)
 refine ⟨ho, by rw [List.length_append, h.len]; rfl, fun i s hs => ?_⟩
 by_cases hi : i < m
 ·rw [List.getElem?_append_left (by rw [h.len]; exact hi)] at hs
  obtain ⟨q1, q2, q3, x, q4⟩ := h.own i s hs;exact ⟨q1, q2, q3, x, kp _ _ _ q4⟩
 ·have hlt := (List.getElem?_eq_some_iff.1 hs).1
  rw [List.length_append, h.len] at hlt;have e : i = m := by simp at hlt; omega
  subst e;rw [List.getElem?_append_right (by rw [h.len]; omega), h.len, Nat.sub_self] at hs;obtain rfl : y = s := aZF hs;exact ⟨h1, h2, h3, cy, kp _ _ _ h4⟩
end
theorem measO (n k : Nat) (h : k < n) : n - (intOf (.int .i64 ((k : Int) + 1))).toNat < n - (intOf (.int .i64 (k : Int))).toNat := by simp [intOf]; omega
theorem LP.last_root (P : LP) : P.nlast (lnOf P.big) = true := decide_eq_true (Nat.sub_le _ _)
theorem lroot_any (P : LP) (he : P.err = 0) (d : Nat) (hd : P.digest = d) (a b c : Sl) (H : Nat) (T : Nat -> List UInt8) (m : Nat) (A : Option Addr) (co : Nat) (l : List SV) (w : World) (hin : SetIn w P a b c) (ho : Outs w H T m A co l) (hm : m <= 8) :
  Calls Tryz.prog 115 #[.agg (setC (lnOf P.big) (blOf P.big) (bOf P.big) (kOf P.big) P.digest a b c), .slice A m co] w fun r w' => ∃ A' c', r = .returned (.slice A' d d) /\ OS cB w' w.heap.size A' c' ((((P.eng0 (lnOf P.big)).feed (catTo T m)).out true).take d) /\ Below w.heap.size w w' := by
 have h8 := lnOf_pos P.big;have hdd : d <= bOf P.big := by obtain ⟨x, h1, h2, h3⟩ := LP.err_dig he; omega
 have hha := fun W (h : SetIn W P a b c) => hasher_any P (lnOf P.big) (aZC _) he d hd a b c W h
 rw [P.last_root] at hha;have hok : (P.eng0 (lnOf P.big)).Ok := startK_ok P.big _ _;have hwr := fun (q : Nat) (wr : UInt64) (e : Eng) (F : List Nat) (s : SV) (W : World) h1 h2 h3 h4 h5 => writeN_any q d P.big true (P.blk (lnOf P.big)) (P.nkey (lnOf P.big)) wr e F s.A s.l.length s.c s.l W h1 rfl h2 h3 h4 h5
 have hsm := fun (q : Nat) (wr : UInt64) (F : List Nat) (W : World) h1 => sumN_any q d P.big true (P.blk (lnOf P.big)) (P.nkey (lnOf P.big)) wr ((P.eng0 (lnOf P.big)).feed (catTo T m)) F W h1 (by rw [Eng.feed_full]; unfold LP.eng0; rw [startK_full]; exact hdd)
 have HHA := zH hha; have HOK := zH hok; have HWR := zH hwr; have HSM := zH hsm; have HIN := zH hin; have HO := zH ho;clear hha hok hwr hsm hin ho hdd he hd;have hsu := zH Tryz.underlying174;generalize P.eng0 (lnOf P.big) = e0 at *;go_enter Tryz.func115, Tryz.ntmps115;go_upto_region 1 with fail
 have HBK := zH (Blk.new w 174 (setC (lnOf P.big) (blOf P.big) (bOf P.big) (kOf P.big) P.digest a b c));have HB := zH (bal (b0 w) (.cells (setC (lnOf P.big) (blOf P.big) (bOf P.big) (kOf P.big) P.digest a b c) 174));obtain ⟨g, hg⟩ : ∃ g, g = w.heap.size := ⟨_, rfl⟩;rw [<- hg] at HBK ⊢;have HG := zH hg;clear hg;generalize w.alloc (.cells (setC (lnOf P.big) (blOf P.big) (bOf P.big) (kOf P.big) P.digest a b c) 174) = u at *;have q0 : u.cell? ⟨g, 0, none⟩ = some (.int .i64 (lnOf P.big : Nat)) := HBK.cell 0;have l0 := HBK.lt;go_upto_region 2 with first
  | (refine wpList_load_row rfl 174 _ rfl g rfl 174 (setC (lnOf P.big) (blOf P.big) (bOf P.big) (kOf P.big) P.digest a b c) (0, 0) _ HBK hsu.out rfl (setC_size _ _ _ _ _ _ _ _) ?_)
  | (go_at_call 132; refine (HHA u (HIN.below HB)).mono ?_; rintro e3 u3 ⟨q, F, rfl, hN, hF, hb3⟩)
 have hW3 := bcall HB hb3;have HN := zH hN; have HF := zH (fun k hk => aZL HB.size (hF k hk)); have HW := zH hW3;clear hN hF hb3 hW3 q0 l0 HBK HB HG;clear u;go_wp2_with fail;go_loopw [7, 15] (fun o ix wr => ∃ (j : Nat) (r : UInt64) (F : List Nat), j <= m /\ ix = .int .i64 j /\ Nd wr q P.big d (P.blk (lnOf P.big)) (P.nkey (lnOf P.big)) true r (e0.feed (catTo T j)) F /\ (∀ k, k ∈ F -> w.heap.size <= k) /\ Below w.heap.size w wr) (fun o ix _ => m - (intOf ix).toNat)
 case atStart => exact ⟨0, 0, F, Nat.zero_le _, rfl, (by show Nd _ _ _ _ _ _ _ _ (e0.feed []) _; rw [Eng.feed_nil]; exact HN.out), HF.out, HW.out⟩
 case round =>
  clear HN HF HW;obtain ⟨j, r, F, hj, rfl, hnd, hfl, hbw⟩ := hrel;have HN := zH hnd; have HF := zH hfl; have HW := zH hbw;clear hnd hfl hbw
  by_cases hlt : j < m
  ·have HJ := zH hlt
   have d1 : decide ((j : Int) < (m : Int)) = true := by simp; omega
   obtain ⟨g1, s, hA, hg1, hg2, hs, hc, -⟩ := (HO.below HW.out).row.at_ (k := j) (by rw [HO.len]; exact hlt);subst hA;have hc2 : wr.cell? ⟨g1, j, none⟩ = some (.slice s.A s.l.length s.c) := hc;obtain ⟨s1, s2, s3, cx, s4⟩ := HO.own j s hs;have hw := HWR q r (e0.feed (catTo T j)) F s wr HN s2 s3 ((s4.reads.below HW).more HW.size) (fun _ a ha hk => by
    have h1 := (s4.block_lt a ha).2;have h2 := HF _ hk;omega)
   have HWW := zH hw;have HS1 := zH s1;have hsl : s.l.length <= 9223372036854775807 := by omega
   clear hj hlt hw s1 s2 s3 s4 hc hs;go_wp2_with (go_at_call 89; refine HWW.mono ?_; rintro e5 w5 ⟨rfl, F5, hn5, hf5, hb5⟩);refine ⟨⟨j + 1, r + UInt64.ofNat s.l.length, F5, HJ.out, num9 j, ?_, fun k hk => ?_, HW.trans (hb5.toBelow HW.size HF)⟩, measO m j HJ.out⟩
   ·show Nd _ _ _ _ _ _ _ _ (e0.feed (catTo T j ++ T j)) _
    rw [Eng.feed_append _ HOK.out, <- HS1.out];exact hn5
   ·rcases hf5 k hk with h1 | h1
    ·exact HF k h1
    ·exact aZL HW.size h1
  ·obtain rfl : j = m := by omega
   have d1 : decide ((j : Int) < (j : Int)) = false := by simp
   go_wp2_with (go_at_call 133; refine (HSM q r F wr HN).mono ?_; rintro e5 w5 ⟨A5, c5, rfl, ho5, hb5⟩);exact bodyPost_ret (results_tmp rfl _ _ _) rfl ⟨A5, c5, rfl, ho5.mono HW.size, HW.trans (hb5.mono HW.size)⟩
def LP.outOf (P : LP) (e : Nat -> Eng) (i : Nat) : List UInt8 := ((e i).out (P.nlast i)).take (bOf P.big)
theorem laneOut_len (P : LP) (e : Nat -> Eng) (i : Nat) (hf : (e i).full = bOf P.big) : (P.outOf e i).length = bOf P.big := by
 unfold LP.outOf;rw [List.length_take, Eng.out_len, hf];exact Nat.min_self _
section
variable {w w' : World} {H h : Nat} {P : LP} {d : Nat} {a b c : Sl} {A : Option Addr} {cap t : Nat} {ps : List Nat} {F : Nat -> List Nat} {e : Nat -> Eng}
theorem Hs.below (hh : Hs w H h P d a b c A cap t ps F e) (hb : Below w.heap.size w w') (hH : H <= w.heap.size) : Hs w' H h P d a b c A cap t ps F e :=
 ⟨hh.blk.below hb hh.blk.lt, hh.nds.below hb, hh.fh, hh.ah, hh.low, hh.set_.below (hb.mono hH)⟩
end
theorem lsum_any (P : LP) (he : P.err = 0) (d : Nat) (hd : P.digest = d) (a b c : Sl) (H h : Nat) (A : Option Addr) (cap t : Nat) (ps : List Nat) (F : Nat -> List Nat) (e : Nat -> Eng) (w : World) (hh : Hs w H h P d a b c A cap t ps F e) (hf : ∀ i, i < lnOf P.big -> (e i).full = bOf P.big) :
  Calls Tryz.prog 94 #[.pointer (some ⟨h, 0, none⟩)] w fun r w' => ∃ A' c', r = .returned (.slice A' d d) /\ OS cB w' w.heap.size A' c' ((((P.eng0 (lnOf P.big)).feed (catTo (P.outOf e) (lnOf P.big))).out true).take d) /\ Below w.heap.size w w' := by
 have hno := lnoneH_any P a b c A (lnOf P.big) cap t h w hh.blk;have h8 := lnOf_pos P.big;have hbb := bOf_le P.big;have hro := fun (A : Option Addr) (co : Nat) (l : List SV) (W : World) h1 h2 => lroot_any P he d hd a b c w.heap.size (P.outOf e) (lnOf P.big) A co l W h1 h2 h8.2
 have hou := fun (i : Nat) (hi : i < lnOf P.big) (q : Nat) (wr : UInt64) (W : World) h1 => outN_any q d (bOf P.big) P.big (P.nlast i) (P.blk i) (P.nkey i) wr (e i) (F i) W h1 (by omega) (hf i hi)
 have hol := fun (i : Nat) (hi : i < lnOf P.big) => laneOut_len P e i (hf i hi)
 have HNO := zH hno; have HRO := zH hro; have HOU := zH hou; have HOL := zH hol; have HH := zH hh;have c0 : w.cell? ⟨h, 8, none⟩ = some (.slice A (lnOf P.big) cap) := hh.blk.cell 8;have l0 := hh.blk.lt;have HLO := zH (aZL hh.low (Nat.le_of_lt hh.blk.lt));clear hno hro hou hol hh hf he hd;have hsu := zH Tryz.underlying174;obtain ⟨n, hn⟩ : ∃ n, n = lnOf P.big := ⟨_, rfl⟩;have HN := zH hn;rw [<- hn] at c0 h8;clear hn;obtain ⟨most, hmo⟩ : ∃ x, x = bOf P.big := ⟨_, rfl⟩;have HM := zH hmo;rw [<- hmo] at hbb;clear hmo;go_enter Tryz.func94, Tryz.ntmps94;go_wp2_with (go_at_call 113; refine HNO.mono ?_; rintro e1 w1 ⟨rfl, rfl⟩);clear c0 l0;go_loopw [3, 5, 6, 7, 15] (fun os i1 o e1 ix wr => ∃ (j : Nat) (Ao : Option Addr) (co : Nat) (l : List SV), j <= n /\ ix = .int .i64 j /\ os = .slice Ao j co /\ Outs wr w.heap.size (P.outOf e) j Ao co l /\ Below w.heap.size w wr) (fun os i1 o e1 ix _ => n - (intOf ix).toNat)
 case atStart => exact ⟨0, none, 0, [], Nat.zero_le _, rfl, rfl, Outs.empty _ _ _, Below.refl _ _⟩
 case round =>
  obtain ⟨j, Ao, co, l, hj, rfl, rfl, hos, hbw⟩ := hrel;have HO := zH hos; have HW := zH hbw;have HHW := zH (HH.below hbw HLO);clear hos hbw
  by_cases hlt : j < n
  ·have HJ := zH hlt
   have d1 : decide ((j : Int) < (n : Int)) = true := by simp; omega
   obtain ⟨p, wrt, hp1, hp2⟩ := HHW.nds.node j (by rw [<- HN.out]; exact hlt);obtain ⟨g1, p2, hA, hg1, hg2, hs, hc, -⟩ := HHW.nds.row.at_ (k := j) (by rw [HHW.nds.len, <- HN.out]; exact hlt);rw [hp1] at hs;obtain rfl : p = p2 := aZF hs;subst hA;have hc2 : wr.cell? ⟨g1, j, none⟩ = some (.pointer (some ⟨p, 0, none⟩)) := hc;have q2 : wr.cell? ⟨h, 2, none⟩ = some (.int .i64 most) := by rw [HM.out]; exact HHW.blk.cell 2
   have l2 := HHW.blk.lt;have hw := HOU.out j (by rw [<- HN.out]; exact hlt) p wrt wr hp2;rw [<- HM.out] at hw;have HWW := zH hw;clear hj hlt hw hp1 hp2 hs hc;go_upto_region 8 with (go_at_call 64; refine HWW.mono ?_; rintro e5 w5 ⟨A5, c5, rfl, ho5, hb5⟩)
   obtain ⟨y, hy⟩ : ∃ y : SV, y = ⟨A5, most, P.outOf e j⟩ := ⟨_, rfl⟩;have hyl : (P.outOf e j).length = most := by rw [HM.out]; exact HOL.out j (by rw [<- HN.out]; exact HJ.out)
   have hyv : cL.enc y = .slice A5 most most := by rw [hy]; show Value.slice A5 (P.outOf e j).length most = _; rw [hyl]
   have HY := zH hy; have HYL := zH hyl; have HYV := zH hyv;have HO5 : Hid (OS cB w5 wr.heap.size A5 c5 (P.outOf e j)) := (by unfold LP.outOf; rw [<- HM.out]; exact ho5);have HWS := zH HW.size;replace HO := zH (HO.below hb5); replace HW := zH (bcall HW hb5);clear hy hyl hyv hb5 ho5 hc2 q2 l2;clear HHW HWW;have HA8 := zH (bal (b0 w5) (.cells #[.slice A5 most most] 22));have HSZ := zH HW.size;have hmn : most <= 64 := hbb.2;go_upto_region 9 with (refine wpList_appS _ cL_ok rfl (.tmp 30) (.tmp 32) rfl (HO.below HA8.out).row rfl HO.len (RS.one' (x := y) (by rw [HYV.out]; exact cnew _ _ _ rfl)) rfl rfl (by show (j + 1) * 24 <= _; omega) (by omega) (aZL HSZ.out HA8.size) ?_; intro A' cap' u4 ho hg hA)
   have HO2 := zH ((HO.below HA8.out).snoc (y := y) (by rw [HY.out]) (by rw [HY.out]; exact Nat.le_of_eq HYL.out) (by rw [HY.out]; show most <= _; omega) (cy := c5) (by rw [HY.out]; exact (HO5.mono HWS.out).below HA8.out (aZC _)) ho hg);have HW2 := zH (HW.trans (HA8.mono HSZ));go_wp2;exact ⟨⟨j + 1, A', cap', l ++ [y], HJ.out, num9 j, rfl, HO2.out, below_app HW2 (HO.below HA8).row hg (aZC _) (aZL HSZ HA8.size)⟩, measO n j HJ.out⟩
  ·obtain rfl : j = n := by omega
   have d1 : decide ((j : Int) < (j : Int)) = false := by simp
   have hrt := HRO.out Ao co l wr (HHW.set_.in_ (aZL HLO.out HW.size)) (by rw [<- HN.out]; exact HO.out);rw [<- HN.out] at hrt;have HRT := zH hrt;clear hrt;have l2 := HHW.blk.lt;have q0 : wr.cell? ⟨h, 0, none⟩ = some (.int .i64 j) := by rw [HN.out]; exact HHW.blk.cell 0
   have q1 : wr.cell? ⟨h, 1, none⟩ = some (.int .i64 (blOf P.big : Nat)) := HHW.blk.cell 1;have q2 : wr.cell? ⟨h, 2, none⟩ = some (.int .i64 (bOf P.big : Nat)) := HHW.blk.cell 2;have q3 : wr.cell? ⟨h, 3, none⟩ = some (.int .i64 (kOf P.big)) := HHW.blk.cell 3;have q4 : wr.cell? ⟨h, 4, none⟩ = some (.int .i64 P.digest) := HHW.blk.cell 4;have q5 : wr.cell? ⟨h, 5, none⟩ = some (.slice a.A a.n a.c) := HHW.blk.cell 5;have q6 : wr.cell? ⟨h, 6, none⟩ = some (.slice b.A b.n b.c) := HHW.blk.cell 6;have q7 : wr.cell? ⟨h, 7, none⟩ = some (.slice c.A c.n c.c) := HHW.blk.cell 7;go_upto_region 10 with fail
   clear HNO HRO HOU HOL HH HLO HM HO HHW hj hlt d1 h8 hbb;go_wp2_with fail;refine HRT.mono ?_;rintro e5 w5 ⟨A5, c5, rfl, ho5, hb5⟩;go_wp2_with fail;exact bodyPost_ret (results_tmp rfl _ _ _) rfl ⟨A5, c5, rfl, by rw [<- HN.out]; exact ho5.mono HW.size, HW.trans (hb5.mono HW.size)⟩
end Go.Proofs.YtmapfcdffklopaaGreat

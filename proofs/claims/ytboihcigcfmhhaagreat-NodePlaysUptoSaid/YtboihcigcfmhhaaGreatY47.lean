/-
  Y47: contracts and lemmas alone; no statement is claimed here.
-/
import Derived.Test.YtboihcigcfmhhaaGreatY46
import Derived.Test.YtboihcigcfmhhaaGreatY21
namespace Go.Proofs.YtboihcigcfmhhaaGreat
open _root_.Nat renaming zero_le → aZY
open _root_.Nat renaming le_trans → aZL
open _root_.Nat renaming le_refl → aZC
open Lib renaming hid -> zH
open Go.RowKit
attribute [local go_sem] pureUpon Ords.of
def mOf (big : Bool) (d : Nat) (p : Pr) (ls lp key : List UInt8) (nk : Nat) (A : Option Addr) (c : Nat) : NPm := ⟨big, d, p, ls, lp, key, A, nk, c⟩
theorem pn_made {H B nm cm p q : Nat} {big : Bool} {d : Nat} {w v2 v5 wx : World} {pr : Pr} {ls lp key : List UInt8} {nk : Nat} {A2 : Option Addr} {c2 : Nat} {R F G : List Nat} {Am : Option Addr}
  (hx : NX v2 p (mOf big d pr ls lp key nk none 0) ⟨false, []⟩ R F) (hF : ∀ k, k ∈ F -> B <= k) (hR : ∀ k, k ∈ R -> B <= k)
  (hr : NR v5 H q (mOf big d pr ls lp key nk A2 c2) ⟨false, []⟩ Am nm cm) (hq : v2.heap.size <= q) (hAm : ∀ a, Am = some a -> v2.heap.size <= a.block) (hA2 : ∀ a, A2 = some a -> v2.heap.size <= a.block)
  (hb : But [] v2 v5) (hb2 : But G v5 wx) (hG : ∀ k, k ∈ G -> H <= k /\ k < B) (hHB : H <= B) (hB2 : B <= v2.heap.size) (hbel : Below H w wx) :
  PN H w wx p q (mOf big d pr ls lp key nk A2 c2) ⟨false, []⟩ ⟨false, []⟩ R F Am nm cm := by
 have hx1 : NdS wx p big d (mOf big d pr ls lp key nk A2 c2).x key false (UInt64.ofNat 0) ((mOf big d pr ls lp key nk A2 c2).e []) R F :=
  (NdS.but hx hb (fun k hk hg => by cases hg) (fun k hk hg => by cases hg)).but hb2 (fun k hk hg => by have h1 := hR k hk; have h2 := (hG k hg).2; omega) (fun k hk hg => by have h1 := hF k hk; have h2 := (hG k hg).2; omega)
 have hl := NdS.lt hx; have hlR := NdS.ltR hx;exact ⟨hx1, hr.but hb2 (fun hg => by have := (hG _ hg).2; omega) (fun a ha hg => by have := (hG _ hg).2; have := hAm a ha; omega) (fun _ a ha hg => by have := (hG _ hg).2; have := hA2 a ha; omega) (fun k hk => (hG k hk).1),
  fun k hk => aZL hHB (hF k hk), fun k hk => aZL hHB (hR k hk), fun hk => by have := hl q hk; omega, fun hk => by have := hlR q hk; omega,
  fun b hb hk => by have := hl _ hk; have := hAm b hb; omega, fun b hb hk => by have := hlR _ hk; have := hAm b hb; omega, fun _ a ha => ⟨fun hk => by have := hl _ hk; have := hA2 a ha; omega, fun hk => by have := hlR _ hk; have := hA2 a ha; omega⟩, hbel⟩
set_option maxRecDepth 20000 in
set_option maxHeartbeats 8000000 in
theorem made5_any (k : Int) (p : Pr) (ls lp key : List UInt8) (Ak : Option Addr) (nk ck : Nat) (big : Bool) (d : Nat) (E : Int) (w : World) (hf : p.Fit) (hls : ls.length = p.salt.n) (hlp : lp.length = p.pers.n) (hk : key.length = nk) (hns : p.salt.n <= 140737488355328) (hnp : p.pers.n <= 140737488355328) (hnk : nk <= 140737488355328)
  (hE : E = if chk k p ≠ 0 then chk k p else if nk ≠ 0 /\ (nk : Int) ≠ p.key then 8 else 0) (hm : ∀ A c, E = 0 -> (mOf big d p ls lp key nk A c).Ok /\ k = kOf big)
  (hrs : RS cB w w.heap.size p.salt.A ls) (hrp : RS cB w w.heap.size p.pers.A lp) (hrk : RS cB w w.heap.size Ak key) :
  Calls Tryz.prog 5 #[stV k p (.slice Ak nk ck)] w fun r w' => ∃ xo qo A c, r = .returned (.tuple #[.pointer xo, .pointer qo, .bool true]) /\ Below w.heap.size w w' /\
   ((E ≠ 0 /\ xo = none /\ qo = none) \/ (E = 0 /\ ∃ p' q R F Am nm cm, xo = some ⟨p', 0, none⟩ /\ qo = some ⟨q, 0, none⟩ /\ PN w.heap.size w w' p' q (mOf big d p ls lp key nk A c) ⟨false, []⟩ ⟨false, []⟩ R F Am nm cm)) := by
 obtain ⟨CS, hCS⟩ : ∃ CS : Array Value, stV k p (.slice Ak nk ck) = .agg CS := ⟨_, rfl⟩;have hpa : ∀ (W : World), Below w.heap.size w W -> Calls Tryz.prog 14 #[p.v] W fun e w' => ∃ s t : Sl, e = .returned (.agg (prV p.digest p.key (p.salted s t))) /\ s.n = p.salt.n /\ t.n = p.pers.n /\ OS cB w' W.heap.size s.A s.c ls /\ OS cB w' W.heap.size t.A t.c lp /\ Below W.heap.size W w' := fun (W : World) (hb : Below w.heap.size w W) => params5_any p ls lp W hls hlp hns hnp ((hrs.below hb).more hb.size) ((hrp.below hb).more hb.size)
 have hcp := fun (W : World) (hb : Below w.heap.size w W) => copied5_any Ak ck nk key W hk hnk ((hrk.below hb).more hb.size)
 have HPA := zH hpa; have HCP := zH hcp; have HE := zH hE; have HM := zH hm; have HF := zH hf; have HLS := zH hls; have HLP := zH hlp; have HK := zH hk; have HRS := zH hrs; have HRP := zH hrp; have HRK := zH hrk; have HNKB := zH hnk; have HNSB := zH hns;have hszS : (Tryz.prog.info? 28).map (·.size) = some CS.size := by rw [<- Value.agg.inj hCS]; kernel_rfl
 have HSZ := zH hszS;clear hpa hcp hE hm hf hls hlp hk hrs hrp hrk hns hnp hnk hszS;unfold stV at hCS;have HCS := zH (Value.agg.inj hCS);clear hCS;have hB0 := bal (b0 w) (.cells CS 28);have HB := zH hB0; have HG := zH (Blk.new w 28 CS);clear hB0;have hup := zH Tryz.underlying26;unfold stV;unfold Pr.v Pr.cs Sl.v at *;go_enter Tryz.func5, Tryz.ntmps5;go_upto_region 1 with fail
 simp only [HCS.out];obtain ⟨g, hg⟩ : ∃ g, g = w.heap.size := ⟨_, rfl⟩;rw [<- hg] at HG ⊢;have HGW := zH (show w.heap.size <= g by omega);clear hg;generalize w.alloc (.cells CS 28) = u at *;have hr11 : u.rangeAt g 1 [.int .i64 p.digest, .int .i64 p.key, .int .i64 p.fanout, .int .i64 p.depth, .int .u32 p.leaf, .int .u64 p.offset, .int .u32 p.xof, .int .i64 p.nd, .int .i64 p.inner, .slice p.salt.A p.salt.n p.salt.c, .slice p.pers.A p.pers.n p.pers.c] := by
  have h := HG.range 1 11;rw [<- HCS.out] at h;exact h
 have HR11 := zH hr11;clear hr11;have gl := HG.lt;go_upto_region 2 with (first
  | (refine wpList_load_mid rfl 26 _ rfl g 1 rfl [.int .i64 p.digest, .int .i64 p.key, .int .i64 p.fanout, .int .i64 p.depth, .int .u32 p.leaf, .int .u64 p.offset, .int .u32 p.xof, .int .i64 p.nd, .int .i64 p.inner, .slice p.salt.A p.salt.n p.salt.c, .slice p.pers.A p.pers.n p.pers.c] _ HR11 hup.out rfl (by kernel_rfl) ?_)
  | (go_at_call 14; refine (HPA _ HB).mono ?_; rintro e1 u1 ⟨s, t, rfl, hs, ht, hos, hot, hb1⟩; have HSN := zH hs; have HTN := zH ht; have HOS := zH hos; have HOT := zH hot; have HB1 := zH hb1; clear hs ht hos hot hb1)
  | (refine wpList_store_row rfl 26 _ _ rfl u1.heap.size (prV p.digest p.key (p.salted s t)) rfl rfl 26 _ (Blk.new _ _ _) (prV_size _ _ _) rfl (prV_ones _ _ _) ?_))
 have hz : zcs = #[.int .i64 0, .int .i64 0, .int .i64 0, .int .i64 0, .int .u32 0, .int .u64 0, .int .u32 0, .int .i64 0, .int .i64 0, .slice none 0 0, .slice none 0 0] := rfl;rw [<- hz];clear hz gl HR11;have hb2 := brow (g := u1.heap.size) (bal (b0 u1) (.cells zcs 26)) (aZC _) (prV p.digest p.key (p.salted s t));have HV := zH (show Blk _ u1.heap.size 26 (prV p.digest p.key (p.salted s t)) from (Blk.new u1 26 zcs).row _);have HU1 := zH (show u.heap.size <= u1.heap.size from HB1.size);replace HOS := zH (HOS.below hb2 (aZC _)); replace HOT := zH (HOT.below hb2 (aZC _));replace HG := zH ((HG.below HB1 HG.lt).below hb2 (Nat.lt_of_lt_of_le HG.lt HB1.size));have HBa := zH (bcall HB1 hb2);obtain ⟨b5, hb5⟩ : ∃ b5, b5 = u1.heap.size := ⟨_, rfl⟩;rw [<- hb5] at HV HU1 HOS HOT HG HBa ⊢;clear hb5 hb2 HB1;generalize (u1.alloc (.cells zcs 26)).setRow b5 (prV p.digest p.key (p.salted s t)) = v at *;have g12 : v.cell? ⟨g, 12, none⟩ = some (.slice Ak nk ck) := (HG.cell 12).trans (by rw [<- HCS.out]; rfl);have gl := HG.lt;have HBv := zH (bcall HB HBa);go_upto_region 3 with (go_at_call 15; refine (HCP _ HBv).mono ?_; rintro e2 v1 ⟨A1, c1, rfl, ho1, hb1⟩; have HO1 := zH ho1; have HB1 := zH hb1; clear ho1 hb1)
 clear g12 gl;have HV1 := zH (HV.below HB1 HV.lt); have HG1 := zH (HG.below HB1 HG.lt); have HBv1 := zH (bcall HBv HB1);have HOS1 := zH (HOS.below HB1 (aZC _)); have HOT1 := zH (HOT.below HB1 (aZC _));have hnx := newX_any k p ls lp key s t A1 nk c1 (mOf big d p ls lp key nk none 0) E v1 HSN HTN HLS HLP HF HK HE (fun h => ⟨(HM none 0 h).1, (HM none 0 h).2, rfl, rfl, rfl, rfl⟩) HOS1.reads HOT1.reads HO1.reads;have HNX := zH (show Calls Tryz.prog 11 #[.int .i64 k, .agg (prV p.digest p.key (p.salted s t)), .slice A1 nk c1] v1 _ from hnx);clear hnx;have g0 : v1.cell? ⟨g, 0, none⟩ = some (.int .i64 k) := (HG1.cell 0).trans (by rw [<- HCS.out]; rfl);have gl := HG1.lt;go_upto_region 4 with (first
  | (refine wpList_load_row rfl 26 _ rfl b5 rfl 26 (prV p.digest p.key (p.salted s t)) (0, 0) _ HV1 hup.out rfl (prV_size _ _ _) ?_)
  | (go_at_call 11; refine HNX.mono ?_; rintro e3 v2 ⟨xo, rfl, hx, hb2⟩; have HX := zH hx; have HB2 := zH hb2; clear hx hb2))
 clear g0 gl HNX;have HG2 := zH (HG1.below HB2 HG1.lt); have HBv2 := zH (bcall HBv1 HB2);have hnr := fun (W : World) (A2 : Option Addr) (c2 : Nat) (hb : Below w.heap.size w W) (hr : RS cB W W.heap.size A2 key) => newR_any k p ls lp key A2 nk c2 (mOf big d p ls lp key nk A2 c2) E w.heap.size W HK HE (fun h => ⟨(HM A2 c2 h).1, (HM A2 c2 h).2, rfl, rfl, rfl, rfl, rfl, rfl, rfl⟩) hb.size (HRS.below hb) (HRP.below hb) hr
 unfold Pr.v Pr.cs Sl.v at hnr;have HNR := zH hnr;have hrg : ∀ W, Below v2.heap.size v2 W -> W.rangeAt g 1 [.int .i64 p.digest, .int .i64 p.key, .int .i64 p.fanout, .int .i64 p.depth, .int .u32 p.leaf, .int .u64 p.offset, .int .u32 p.xof, .int .i64 p.nd, .int .i64 p.inner, .slice p.salt.A p.salt.n p.salt.c, .slice p.pers.A p.pers.n p.pers.c] := fun W hb => by
  have h := (HG2.below hb HG2.lt).range 1 11;rw [<- HCS.out] at h;exact h
 have HRG := zH hrg;have hg0 : ∀ W, Below v2.heap.size v2 W -> W.cell? ⟨g, 0, none⟩ = some (.int .i64 k) /\ W.cell? ⟨g, 12, none⟩ = some (.slice Ak nk ck) /\ g < W.heap.size := fun W hb => ⟨((HG2.below hb HG2.lt).cell 0).trans (by rw [<- HCS.out]; rfl), ((HG2.below hb HG2.lt).cell 12).trans (by rw [<- HCS.out]; rfl), (HG2.below hb HG2.lt).lt⟩
 have HG0 := zH hg0;clear hnr hrg hg0;obtain ⟨q0, q12, gl⟩ := HG0 v2 (b0 v2);refine wrZ (fun W' => Below v2.heap.size v2 W') (fun _ n h => bdr h n) (Ords.of [(0, 0), (0, 1), (0, 2), (0, 3), (0, 4), (0, 5), (2, 6), (2, 7), (0, 8), (0, 9), (0, 10), (0, 11), (0, 12)] .fin) (b0 v2) ?_;refine ords_pure rfl (fun K hK => ?_); go_simp; refine hK _ ?_; clear hK K;refine ords_heldK rfl (fun K K2 hK hK2 => ?_); go_simp; refine ⟨hK2 _ (fun w9 hS => ?_), hK _ ?_⟩; (clear hK hK2 K K2; clear q0 q12 gl; obtain ⟨q0, q12, gl⟩ := HG0 w9 hS; go_simp); (clear hK hK2 K K2);refine ords_pure rfl (fun K hK => ?_); go_simp; refine hK _ ?_; clear hK K;refine ords_held (v := Value.agg [.int .i64 p.digest, .int .i64 p.key, .int .i64 p.fanout, .int .i64 p.depth, .int .u32 p.leaf, .int .u64 p.offset, .int .u32 p.xof, .int .i64 p.nd, .int .i64 p.inner, .slice p.salt.A p.salt.n p.salt.c, .slice p.pers.A p.pers.n p.pers.c].toArray) rfl rfl (fun w9 hS => pure_load_mid 26 (.tmp 30) rfl g 1 rfl _ _ (HRG w9 hS) hup.out rfl (by kernel_rfl)) ?_; go_simp;refine ords_pure rfl (fun K hK => ?_); go_simp; refine hK _ ?_; clear hK K;refine ords_heldK rfl (fun K K2 hK hK2 => ?_); go_simp; refine ⟨hK2 _ (fun w9 hS => ?_), hK _ ?_⟩; (clear hK hK2 K K2; clear q0 q12 gl; obtain ⟨q0, q12, gl⟩ := HG0 w9 hS; go_simp); (clear hK hK2 K K2);refine ords_loud rfl (fun n1 => ?_);go_wp2_with (go_at_call 15; refine (HCP _ (bdr HBv2 _)).mono ?_; rintro e4 v3 ⟨A2, c2, rfl, ho2, hb2⟩; have HO2 := zH ho2; have HB3 := zH (bcall (bdr (b0 v2) _) hb2); clear ho2 hb2);refine ⟨HB3.out, ?_⟩;refine ords_loud rfl (fun n2 => ?_);go_wp2_with (go_at_call 16; refine (HNR _ A2 c2 (bdr (bcall HBv2 HB3) _) (HO2.reads.drewN _)).mono ?_; rintro e5 v4 ⟨qo, rfl, hq, hb4⟩; have HQ := zH hq; have HB4 := zH (bcall (bdr HB3 _) hb4); clear hq hb4);refine ⟨HB4.out, ?_⟩
 iterate 5 (refine ords_pure rfl (fun K hK => ?_); go_simp; refine hK _ ?_; clear hK K)
 refine ords_end (fun n3 => ?_);clear q0 q12 gl;have HB5 := zH (bdr HB4 n3);have HQ5 := zH HQ.out;have hxq : (E ≠ 0 /\ xo = none /\ qo = none) \/ (E = 0 /\ ∃ a b, xo = some ⟨a, 0, none⟩ /\ qo = some ⟨b, 0, none⟩) := by
  rcases HX with ⟨h1, h2⟩ | ⟨h1, a, R, F, h2, -⟩ <;> rcases HQ with ⟨h3, h4⟩ | ⟨h3, b, Am, nm, cm, h4, -⟩
  ·exact .inl ⟨h1, h2, h4⟩
  ·exact absurd h3 h1
  ·exact absurd h1 h3
  ·exact .inr ⟨h1, a, b, h2, h4⟩
 have hG5 := HG2.below HB5 HG2.lt;have hV5 := (HV1.below HB2 HV1.lt).below HB5 (Nat.lt_of_lt_of_le HV1.lt HB2.size);have HO1' := zH ((HO1.below HB2 (aZC _)).below HB5 (aZC _));have HOS' := zH ((HOS1.below HB2 (aZC _)).below HB5 (aZC _));have HOT' := zH ((HOT1.below HB2 (aZC _)).below HB5 (aZC _));have HBw := zH (bcall HBv2 HB5);have hq5 : NewR (mOf big d p ls lp key nk A2 c2) E w.heap.size (v3.drewN n2).heap.size (v4.drewN n3) qo := by
  rcases HQ with h | ⟨h1, b, Am, nm, cm, h2, h3, h4, h5⟩
  ·exact .inl h
  ·exact .inr ⟨h1, b, Am, nm, cm, h2, h3.but ((But.refl [] v4).drewN n3) (by simp) (fun _ _ => by simp) (fun _ _ _ => by simp) (fun _ hk => by cases hk), h4, h5⟩
 generalize v4.drewN n3 = v5 at *;have HG5 := zH hG5; have HV5 := zH hV5; have HR5 := zH hq5;clear hG5 hV5 hq5 HB4 HQ HQ5 HNR HRG HG0;have tE : (E != E) = false := by simp
 have HXQ := zH hxq;have hsm1 := fun (W : World) (hb : Below v5.heap.size v5 W) => same5_any A1 Ak c1 ck key key nk nk W HK.out HK.out (by have := HO1'.len_le; rw [HK.out] at this; unfold maxLen at this; omega) ((HO1'.reads.below hb).more hb.size) ((HRK.below (bcall HBw.out hb)).more (bcall HBw.out hb).size)
 have hsm2 := fun (W : World) (hb : Below v5.heap.size v5 W) => same5_any s.A p.salt.A s.c p.salt.c ls ls s.n p.salt.n W (by rw [HLS.out, HSN.out]) HLS.out (by have := HOS'.len_le; rw [HLS.out, <- HSN.out] at this; unfold maxLen at this; omega) ((HOS'.reads.below hb).more hb.size) ((HRS.below (bcall HBw.out hb)).more (bcall HBw.out hb).size)
 have hsm3 := fun (W : World) (hb : Below v5.heap.size v5 W) => same5_any t.A p.pers.A t.c p.pers.c lp lp t.n p.pers.n W (by rw [HLP.out, HTN.out]) HLP.out (by have := HOT'.len_le; rw [HLP.out, <- HTN.out] at this; unfold maxLen at this; omega) ((HOT'.reads.below hb).more hb.size) ((HRP.below (bcall HBw.out hb)).more (bcall HBw.out hb).size)
 have HM1 := zH hsm1; have HM2 := zH hsm2; have HM3 := zH hsm3;clear hsm1 hsm2 hsm3;have hcg : ∀ W, Below v5.heap.size v5 W -> W.cell? ⟨g, 10, none⟩ = some (.slice p.salt.A p.salt.n p.salt.c) /\ W.cell? ⟨g, 11, none⟩ = some (.slice p.pers.A p.pers.n p.pers.c) /\ W.cell? ⟨g, 12, none⟩ = some (.slice Ak nk ck) /\ g < W.heap.size /\ W.cell? ⟨b5, 9, none⟩ = some (.slice s.A s.n s.c) /\ W.cell? ⟨b5, 10, none⟩ = some (.slice t.A t.n t.c) /\ b5 < W.heap.size := fun W hb => ⟨((HG5.below hb HG5.lt).cell 10).trans (by rw [<- HCS.out]; rfl), ((HG5.below hb HG5.lt).cell 11).trans (by rw [<- HCS.out]; rfl), ((HG5.below hb HG5.lt).cell 12).trans (by rw [<- HCS.out]; rfl), (HG5.below hb HG5.lt).lt, (HV5.below hb HV5.lt).cell 9, (HV5.below hb HV5.lt).cell 10, (HV5.below hb HV5.lt).lt⟩
 have HCG := zH hcg;clear hcg;rcases hxq with ⟨h0, rfl, rfl⟩ | ⟨h0, a, b, rfl, rfl⟩
 all_goals
  have H0 := zH h0;clear h0;obtain ⟨k10, k11, k12, kg, k9, k9b, kb⟩ := HCG v5 (b0 v5);go_wp2_with fail;refine (HM1 v5 (b0 v5)).mono ?_;rintro e6 s1 ⟨rfl, hb1⟩;have HS1 := zH hb1;clear hb1 k10 k11 k12 kg k9 k9b kb;obtain ⟨k10, k11, k12, kg, k9, k9b, kb⟩ := HCG s1 HS1.out;go_wp2_with fail;refine (HM2 s1 HS1).mono ?_;rintro e7 s2 ⟨rfl, hb2⟩;have HS2 := zH (bcall HS1 hb2);clear hb2 k10 k11 k12 kg k9 k9b kb;obtain ⟨k10, k11, k12, kg, k9, k9b, kb⟩ := HCG s2 HS2.out;go_wp2_with fail;refine (HM3 s2 HS2).mono ?_;rintro e8 s3 ⟨rfl, hb3⟩;have HS3 := zH (bcall HS2 hb3);clear hb3 k10 k11 k12 kg k9 k9b kb;obtain ⟨k10, k11, k12, kg, k9, k9b, kb⟩ := HCG s3 HS3.out;go_upto_region 7 with fail
  have hos3 := HO1'.below HS3 (aZC _);have HO3 := zH hos3;clear hos3;go_wp2_with fail
  skip
 ·go_loopw [11, 75] (fun _ i wr => ∃ (j : Nat) (M : List UInt8), j <= nk /\ i = .int .i64 j /\ M.length = nk /\ OS cB wr v.heap.size A1 c1 M /\ But (obl A1) s3 wr) (fun _ i _ => nk - (intOf i).toNat)
  case atStart => exact ⟨0, key, aZY _, rfl, HK.out, HO3.out, But.refl _ _⟩
  case round =>
   clear HO3;obtain ⟨j, M, hj, rfl, hM, ho, hb⟩ := hrel;have HM4 := zH hM; have HB6 := zH hb;clear hM hb k10 k11 k12 kg k9 k9b kb
   by_cases hlt : j < nk
   ·obtain ⟨g', x, rfl, -, hgl, ex, gc, gf⟩ := ho.at_ (k := j) (by rw [HM4.out]; exact hlt)
    change wr.cell? ⟨g', j, none⟩ = some (.int .u8 (byt x)) at gc;have hkd : decide ((j : Int) < nk) = true := by simp; omega
    have hki : (j : Int) < nk := by omega
    have hnkb := HNKB.out;have hnt := byt_not5 x;have hnt2 : bits .xor .u8 (if IntKind.u8.signed = true then -1 else IntKind.u8.max) (byt x) = byt (~~~x) := byt_not5 x;have hos := ho.set j (~~~x);have HOSx := zH hos;clear ex ho hos;go_wp2_with fail;go_roundw
    case rel => exact ⟨j + 1, M.set j (~~~x), by omega, by go_num, by rw [List.length_set]; exact HM4.out, HOSx.out, HB6.setCell (p := ⟨g', j, none⟩) (.inl (by simp [obl])) _⟩
    case measure => simp [intOf]; omega
   ·obtain rfl : nk = j := by omega
    clear ho hlt;have hlA : ∀ a, A1 = some a -> v.heap.size <= a.block := fun a ha => (HO1.block_lt a ha).1
    have hV6 := (HV5.below HS3.out HV5.lt).but HB6.out (fun hm => by obtain ⟨a, h1, h2⟩ := mem_obl.1 hm; have h3 := hlA a h1; have h4 := HV.lt; omega);have k9 : wr.cell? ⟨b5, 9, none⟩ = some (.slice s.A s.n s.c) := hV6.cell 9;have kb := hV6.lt;have hos6 := (HOS'.below HS3.out (aZC _)).but HB6.out (fun a ha hm => by obtain ⟨c, h1, h2⟩ := mem_obl.1 hm; have h3 := hlA c h1; have h4 := (HOS.block_lt a ha).2; omega);have HV6 := zH hV6; have HOS6 := zH hos6; have HLA := zH hlA;clear hV6 hos6 hlA;obtain ⟨sA, sn, sc, hss⟩ : ∃ a b c, s = Sl.mk a b c := ⟨s.A, s.n, s.c, rfl⟩;have k9' : wr.cell? ⟨b5, 9, none⟩ = some (.slice sA sn sc) := by rw [k9, hss]
    have hnsn : sn = p.salt.n := by rw [<- HSN.out, hss]
    have HSL := zH (show ls.length = sn from HLS.trans hnsn.symm);have HOS7 := zH (show OS cB wr u.heap.size sA sc ls by have := HOS6.out; rw [hss] at this; exact this);have HV7 := HV6;have HNB := zH (show sn <= 140737488355328 from hnsn ▸ HNSB);have HSA := zH (show ∀ a, sA = some a -> w.heap.size <= a.block /\ a.block < v.heap.size /\ a.block ≠ b5 from fun a ha => by
     have h1 : s.A = some a := by rw [hss]; exact ha
     have h2 := HOS.block_lt a h1; have h3 := HB.size;exact ⟨aZL h3 h2.1, h2.2, HOS.ne_blk HV (by show 5 ≠ 26; decide) a h1⟩)
    clear k9 hnsn;have k9 := k9';clear k9';have HSS := zH hss;clear hss;go_wp2_with fail;go_loopw [12, 90] (fun _ i wx => ∃ (j : Nat) (M : List UInt8), j <= sn /\ i = .int .i64 j /\ M.length = sn /\ OS cB wx u.heap.size sA sc M /\ But (obl sA) wr wx) (fun _ i _ => sn - (intOf i).toNat)
    case atStart => exact ⟨0, ls, aZY _, rfl, HSL.out, HOS7.out, But.refl _ _⟩
    case round =>
     obtain ⟨j, M, hj, rfl, hM, ho, hb⟩ := hrel;have HM7 := zH hM; have HB7 := zH hb;clear hM hb k9 kb
     by_cases hlt : j < sn
     ·obtain ⟨g', x, rfl, -, hgl, ex, gc, gf⟩ := ho.at_ (k := j) (by rw [HM7.out]; exact hlt)
      change wr.cell? ⟨g', j, none⟩ = some (.int .u8 (byt x)) at gc;have hV8 := HV6.but HB7 (fun hm => by obtain ⟨a, h1, h2⟩ := mem_obl.1 hm; exact (HSA a h1).2.2 h2);have k9 : wr.cell? ⟨b5, 9, none⟩ = some (.slice (some ⟨g', 0, none⟩) sn sc) := (hV8.cell 9).trans (by show some (Value.slice s.A s.n s.c) = _; rw [HSS.out]);have kb := hV8.lt;have hkd : decide ((j : Int) < sn) = true := by simp; omega
      have hki : (j : Int) < sn := by omega
      have hnkb := HNB.out;have hnt := byt_not5 x;have hnt2 : bits .xor .u8 (if IntKind.u8.signed = true then -1 else IntKind.u8.max) (byt x) = byt (~~~x) := byt_not5 x;have HOx := zH ho;have HLT := zH hlt;clear ex ho hV8;go_upto_region 15 with fail
      refine wrZ (fun _ => True) (fun _ _ h => h) (Ords.of [(0, 0), (1, 1), (0, 2), (0, 3), (1, 4), (0, 5), (0, 6), (1, 7), (0, 8), (0, 9), (2, 10)] .fin) trivial ?_
      iterate 10 ((first | refine ords_pure rfl (fun K hK => ?_) | refine ords_read rfl (fun K hK => ?_)); go_simp; refine hK _ ?_; clear hK K)
      refine ords_loud rfl (fun n1 => ?_);go_wp2_with fail
      first | (refine ⟨trivial, ?_⟩; refine ords_end (fun n2 => ?_)) | (rintro _ ⟨n2, rfl⟩)
      have HOSx := zH (((HOx.drewN n1).set j (~~~x)).drewN n2);have HBSx := zH (((HB7.drewN n1).setCell (p := ⟨g', j, none⟩) (.inl (by simp [obl])) (.int .u8 (byt (~~~x)))).drewN n2);clear gc gf k9 kb hki hnt hnt2;go_wp2_with fail;go_roundw
      case rel => exact ⟨j + 1, M.set j (~~~x), by have := HLT.out; omega, by go_num, by rw [List.length_set]; exact HM7.out, HOSx.out, HBSx.out⟩
      case measure => have := HLT.out; simp [intOf]; omega
     ·obtain rfl : sn = j := by omega
      clear ho hlt;have HGA := zH (show ∀ k, k ∈ obl A1 ++ obl sA -> w.heap.size <= k /\ k < v1.heap.size from fun k hk => by
       rcases List.mem_append.1 hk with h1 | h1
       ·obtain ⟨a, h2, h3⟩ := mem_obl.1 h1
        have h4 := HO1.block_lt a h2; have h5 := HBv.size;omega
       ·obtain ⟨a, h2, h3⟩ := mem_obl.1 h1
        have h4 := HSA a h2; have h5 := HB1.size;omega)
      have HBG := zH (show But (obl A1 ++ obl sA) v5 _ from ((But.of HS3 _).trans (G := obl A1) HB6 (fun k hk => .inl (List.mem_append_left _ hk))).trans (G := obl sA) HB7 (fun k hk => .inl (List.mem_append_right _ hk)));have HBF := zH (HBw.trans (HBG.toBelow HBw.size (fun k hk => (HGA k hk).1)));go_wp2_with fail;refine bodyPost_ret (results_tmp3 rfl _ _ _) rfl ⟨_, _, A2, c2, rfl, HBF.out, ?_⟩;exact .inl ⟨H0.out, rfl, rfl⟩
 ·go_loopw [11, 75] (fun _ i wr => ∃ (j : Nat) (M : List UInt8), j <= nk /\ i = .int .i64 j /\ M.length = nk /\ OS cB wr v.heap.size A1 c1 M /\ But (obl A1) s3 wr) (fun _ i _ => nk - (intOf i).toNat)
  case atStart => exact ⟨0, key, aZY _, rfl, HK.out, HO3.out, But.refl _ _⟩
  case round =>
   clear HO3;obtain ⟨j, M, hj, rfl, hM, ho, hb⟩ := hrel;have HM4 := zH hM; have HB6 := zH hb;clear hM hb k10 k11 k12 kg k9 k9b kb
   by_cases hlt : j < nk
   ·obtain ⟨g', x, rfl, -, hgl, ex, gc, gf⟩ := ho.at_ (k := j) (by rw [HM4.out]; exact hlt)
    change wr.cell? ⟨g', j, none⟩ = some (.int .u8 (byt x)) at gc;have hkd : decide ((j : Int) < nk) = true := by simp; omega
    have hki : (j : Int) < nk := by omega
    have hnkb := HNKB.out;have hnt := byt_not5 x;have hnt2 : bits .xor .u8 (if IntKind.u8.signed = true then -1 else IntKind.u8.max) (byt x) = byt (~~~x) := byt_not5 x;have hos := ho.set j (~~~x);have HOSx := zH hos;clear ex ho hos;go_wp2_with fail;go_roundw
    case rel => exact ⟨j + 1, M.set j (~~~x), by omega, by go_num, by rw [List.length_set]; exact HM4.out, HOSx.out, HB6.setCell (p := ⟨g', j, none⟩) (.inl (by simp [obl])) _⟩
    case measure => simp [intOf]; omega
   ·obtain rfl : nk = j := by omega
    clear ho hlt;have hlA : ∀ a, A1 = some a -> v.heap.size <= a.block := fun a ha => (HO1.block_lt a ha).1
    have hV6 := (HV5.below HS3.out HV5.lt).but HB6.out (fun hm => by obtain ⟨a, h1, h2⟩ := mem_obl.1 hm; have h3 := hlA a h1; have h4 := HV.lt; omega);have k9 : wr.cell? ⟨b5, 9, none⟩ = some (.slice s.A s.n s.c) := hV6.cell 9;have kb := hV6.lt;have hos6 := (HOS'.below HS3.out (aZC _)).but HB6.out (fun a ha hm => by obtain ⟨c, h1, h2⟩ := mem_obl.1 hm; have h3 := hlA c h1; have h4 := (HOS.block_lt a ha).2; omega);have HV6 := zH hV6; have HOS6 := zH hos6; have HLA := zH hlA;clear hV6 hos6 hlA;obtain ⟨sA, sn, sc, hss⟩ : ∃ a b c, s = Sl.mk a b c := ⟨s.A, s.n, s.c, rfl⟩;have k9' : wr.cell? ⟨b5, 9, none⟩ = some (.slice sA sn sc) := by rw [k9, hss]
    have hnsn : sn = p.salt.n := by rw [<- HSN.out, hss]
    have HSL := zH (show ls.length = sn from HLS.trans hnsn.symm);have HOS7 := zH (show OS cB wr u.heap.size sA sc ls by have := HOS6.out; rw [hss] at this; exact this);have HV7 := HV6;have HNB := zH (show sn <= 140737488355328 from hnsn ▸ HNSB);have HSA := zH (show ∀ a, sA = some a -> w.heap.size <= a.block /\ a.block < v.heap.size /\ a.block ≠ b5 from fun a ha => by
     have h1 : s.A = some a := by rw [hss]; exact ha
     have h2 := HOS.block_lt a h1; have h3 := HB.size;exact ⟨aZL h3 h2.1, h2.2, HOS.ne_blk HV (by show 5 ≠ 26; decide) a h1⟩)
    clear k9 hnsn;have k9 := k9';clear k9';have HSS := zH hss;clear hss;go_wp2_with fail;go_loopw [12, 90] (fun _ i wx => ∃ (j : Nat) (M : List UInt8), j <= sn /\ i = .int .i64 j /\ M.length = sn /\ OS cB wx u.heap.size sA sc M /\ But (obl sA) wr wx) (fun _ i _ => sn - (intOf i).toNat)
    case atStart => exact ⟨0, ls, aZY _, rfl, HSL.out, HOS7.out, But.refl _ _⟩
    case round =>
     obtain ⟨j, M, hj, rfl, hM, ho, hb⟩ := hrel;have HM7 := zH hM; have HB7 := zH hb;clear hM hb k9 kb
     by_cases hlt : j < sn
     ·obtain ⟨g', x, rfl, -, hgl, ex, gc, gf⟩ := ho.at_ (k := j) (by rw [HM7.out]; exact hlt)
      change wr.cell? ⟨g', j, none⟩ = some (.int .u8 (byt x)) at gc;have hV8 := HV6.but HB7 (fun hm => by obtain ⟨a, h1, h2⟩ := mem_obl.1 hm; exact (HSA a h1).2.2 h2);have k9 : wr.cell? ⟨b5, 9, none⟩ = some (.slice (some ⟨g', 0, none⟩) sn sc) := (hV8.cell 9).trans (by show some (Value.slice s.A s.n s.c) = _; rw [HSS.out]);have kb := hV8.lt;have hkd : decide ((j : Int) < sn) = true := by simp; omega
      have hki : (j : Int) < sn := by omega
      have hnkb := HNB.out;have hnt := byt_not5 x;have hnt2 : bits .xor .u8 (if IntKind.u8.signed = true then -1 else IntKind.u8.max) (byt x) = byt (~~~x) := byt_not5 x;have HOx := zH ho;have HLT := zH hlt;clear ex ho hV8;go_upto_region 15 with fail
      refine wrZ (fun _ => True) (fun _ _ h => h) (Ords.of [(0, 0), (1, 1), (0, 2), (0, 3), (1, 4), (0, 5), (0, 6), (1, 7), (0, 8), (0, 9), (2, 10)] .fin) trivial ?_
      iterate 10 ((first | refine ords_pure rfl (fun K hK => ?_) | refine ords_read rfl (fun K hK => ?_)); go_simp; refine hK _ ?_; clear hK K)
      refine ords_loud rfl (fun n1 => ?_);go_wp2_with fail
      first | (refine ⟨trivial, ?_⟩; refine ords_end (fun n2 => ?_)) | (rintro _ ⟨n2, rfl⟩)
      have HOSx := zH (((HOx.drewN n1).set j (~~~x)).drewN n2);have HBSx := zH (((HB7.drewN n1).setCell (p := ⟨g', j, none⟩) (.inl (by simp [obl])) (.int .u8 (byt (~~~x)))).drewN n2);clear gc gf k9 kb hki hnt hnt2;go_wp2_with fail;go_roundw
      case rel => exact ⟨j + 1, M.set j (~~~x), by have := HLT.out; omega, by go_num, by rw [List.length_set]; exact HM7.out, HOSx.out, HBSx.out⟩
      case measure => have := HLT.out; simp [intOf]; omega
     ·obtain rfl : sn = j := by omega
      clear ho hlt;have HGA := zH (show ∀ k, k ∈ obl A1 ++ obl sA -> w.heap.size <= k /\ k < v1.heap.size from fun k hk => by
       rcases List.mem_append.1 hk with h1 | h1
       ·obtain ⟨a, h2, h3⟩ := mem_obl.1 h1
        have h4 := HO1.block_lt a h2; have h5 := HBv.size;omega
       ·obtain ⟨a, h2, h3⟩ := mem_obl.1 h1
        have h4 := HSA a h2; have h5 := HB1.size;omega)
      have HBG := zH (show But (obl A1 ++ obl sA) v5 _ from ((But.of HS3 _).trans (G := obl A1) HB6 (fun k hk => .inl (List.mem_append_left _ hk))).trans (G := obl sA) HB7 (fun k hk => .inl (List.mem_append_right _ hk)));have HBF := zH (HBw.trans (HBG.toBelow HBw.size (fun k hk => (HGA k hk).1)));go_wp2_with fail;refine bodyPost_ret (results_tmp3 rfl _ _ _) rfl ⟨_, _, A2, c2, rfl, HBF.out, ?_⟩;rcases HX with ⟨h1, -⟩ | ⟨-, x9, R9, F9, e9, hx, hF, hR⟩
      exact absurd H0 h1;rcases HR5 with ⟨h1, -⟩ | ⟨-, q9, Am, nm, cm, e8, hr, hq, hAm⟩
      exact absurd H0 h1
      cases e9; cases e8
      have hs5 : v2.heap.size <= (v3.drewN n2).heap.size := HB3.size;exact .inr ⟨H0.out, a, b, R9, F9, Am, nm, cm, rfl, rfl, pn_made hx hF hR hr (aZL hs5 hq) (fun a ha => aZL hs5 (hAm a ha)) (fun a ha => (HO2.block_lt a ha).1) (But.of HB5 []) HBG HGA (aZL HBv1.size (aZC _)) HB2.size HBF.out⟩
end Go.Proofs.YtboihcigcfmhhaaGreat

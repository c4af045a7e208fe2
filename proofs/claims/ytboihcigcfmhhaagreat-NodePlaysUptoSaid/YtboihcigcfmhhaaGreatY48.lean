/-
  Y48: contracts and lemmas alone; no statement is claimed here.
-/
import Derived.Test.YtboihcigcfmhhaaGreatY47
import Derived.Test.YtboihcigcfmhhaaGreatY19
set_option maxHeartbeats 8000000
set_option maxRecDepth 20000
namespace Go.Proofs.YtboihcigcfmhhaaGreat
open Lib renaming hid -> zH
open Go.RowKit
attribute [local go_sem] pureUpon Ords.of
theorem meas5 (n k : Nat) (h : k < n) : n - (intOf (.int .i64 ((k : Int) + 1))).toNat < n - (intOf (.int .i64 (k : Int))).toNat := by simp [intOf]; omega
theorem num5 (k : Nat) : Value.int .i64 ((k : Int) + 1) = .int .i64 ((k + 1 : Nat) : Int) := rfl
theorem Scr5.more {H H' : Nat} {W : World} {A : Option Addr} {os : List Op5} (h : Scr5 H W A os) (hH : H <= H') : Scr5 H' W A os := fun i o ho => by
 obtain ⟨g, f, h1, h2, h3, h4, h5, h6⟩ := h i o ho;exact ⟨g, f, h1, Nat.lt_of_lt_of_le h2 hH, h3, h4, h5.more hH, h6⟩
theorem nodePlays_no (k : Int) (p : Pr) (ls lp key : List UInt8) (Ak : Option Addr) (nk ck : Nat) (big : Bool) (d : Nat) (E : Int) (S : Value) (w : World) (hf : p.Fit) (hls : ls.length = p.salt.n) (hlp : lp.length = p.pers.n) (hk : key.length = nk) (hns : p.salt.n <= 140737488355328) (hnp : p.pers.n <= 140737488355328) (hnk : nk <= 140737488355328)
  (hE : E = if chk k p ≠ 0 then chk k p else if nk ≠ 0 /\ (nk : Int) ≠ p.key then 8 else 0) (hE0 : E ≠ 0)
  (hrs : RS cB w w.heap.size p.salt.A ls) (hrp : RS cB w w.heap.size p.pers.A lp) (hrk : RS cB w w.heap.size Ak key) :
  Calls Tryz.prog 3 #[stV k p (.slice Ak nk ck), S] w fun r w' => r = .returned (.bool true) /\ Below w.heap.size w w' := by
 have hmd := fun W (hB : Below w.heap.size w W) => made5_any k p ls lp key Ak nk ck big d E W hf hls hlp hk hns hnp hnk hE (fun _ _ h => absurd h hE0) ((hrs.below hB).more hB.size) ((hrp.below hB).more hB.size) ((hrk.below hB).more hB.size)
 have HMD := zH hmd; have HE0 := zH hE0;clear hmd hrk hrs hrp hE hE0 hf hls hlp hk hns hnp hnk;have haw := fun W => awake5_any W
 obtain ⟨CS, hCS⟩ : ∃ CS : Array Value, stV k p (.slice Ak nk ck) = .agg CS := ⟨_, rfl⟩;have HST := zH hCS;have hB0 := bal (b0 w) (.cells CS 28);have HAW := zH haw; have HB0 := zH hB0; have HK := zH (Blk.new w 28 CS);clear haw hB0;have hus := zH Tryz.underlying28;have HZS := zH (show (Tryz.prog.info? 28).map (·.size) = some CS.size from by rw [<- Value.agg.inj hCS]; kernel_rfl);rw [hCS];clear hCS;go_enter Tryz.func3, Tryz.ntmps3;go_upto_region 1 with fail
 obtain ⟨g, hg⟩ : ∃ g, g = w.heap.size := ⟨_, rfl⟩;rw [<- hg] at HK ⊢;have HG := zH hg;clear hg;generalize w.alloc (.cells CS 28) = u at *;go_upto_region 3 with (go_at_call 4; refine (HAW _).mono ?_; rintro e1 u1 ⟨rfl, hb1⟩)
 have HK1 := zH (HK.below hb1 HK.lt); have HB1 := zH (bcall HB0 hb1);clear hb1;go_wp2_with (refine wpList_load_row rfl 28 _ rfl g rfl 28 _ (0, 0) _ HK1 hus.out rfl HZS ?_);rw [<- HST.out];refine (HMD _ HB1).mono ?_;rintro e2 u2 ⟨xo, qo, A9, c9, rfl, hb2, h9⟩;have hb3 := bcall HB1 hb2;rcases h9 with ⟨-, rfl, rfl⟩ | ⟨h0, -⟩
 ·have HB3 := zH hb3
  clear hb2 hb3;go_wp2_with fail;exact bodyPost_ret (results_tmp rfl _ _ _) rfl ⟨rfl, HB3.out⟩
 ·exact absurd h0 HE0.out
theorem nodePlays_ok (k : Int) (p : Pr) (ls lp key : List UInt8) (Ak : Option Addr) (nk ck : Nat) (big : Bool) (d : Nat) (As : Option Addr) (ns cs : Nat) (os : List Op5) (w : World) (hf : p.Fit) (hls : ls.length = p.salt.n) (hlp : lp.length = p.pers.n) (hk : key.length = nk) (hns : p.salt.n <= 140737488355328) (hnp : p.pers.n <= 140737488355328) (hnk : nk <= 140737488355328)
  (hE : (0 : Int) = if chk k p ≠ 0 then chk k p else if nk ≠ 0 /\ (nk : Int) ≠ p.key then 8 else 0) (hm : ∀ A c, (mOf big d p ls lp key nk A c).Ok /\ k = kOf big)
  (hrs : RS cB w w.heap.size p.salt.A ls) (hrp : RS cB w w.heap.size p.pers.A lp) (hrk : RS cB w w.heap.size Ak key)
  (hos : os.length = ns) (hn : ns <= 1048576) (htot : ops5W os <= 1048576) (hsc : Scr5 w.heap.size w As os) :
  Calls Tryz.prog 3 #[stV k p (.slice Ak nk ck), .slice As ns cs] w fun r w' => r = .returned (.bool true) /\ Below w.heap.size w w' := by
 have hmd := fun W (hB : Below w.heap.size w W) => made5_any k p ls lp key Ak nk ck big d 0 W hf hls hlp hk hns hnp hnk hE (fun A c _ => hm A c) ((hrs.below hB).more hB.size) ((hrp.below hB).more hB.size) ((hrk.below hB).more hB.size)
 have HMD := zH hmd; have HOS := zH hos; have HTO := zH htot; have HSC := zH hsc; have HM := zH hm;have huo := zH Tryz.underlying36;clear hmd hos htot hsc hrk hrs hrp hE hf hls hlp hk hns hnp hnk hm;have haw := fun W => awake5_any W
 obtain ⟨CS, hCS⟩ : ∃ CS : Array Value, stV k p (.slice Ak nk ck) = .agg CS := ⟨_, rfl⟩;have HST := zH hCS;have hB0 := bal (b0 w) (.cells CS 28);have HAW := zH haw; have HB0 := zH hB0; have HK := zH (Blk.new w 28 CS);clear haw hB0;have hus := zH Tryz.underlying28;have HZS := zH (show (Tryz.prog.info? 28).map (·.size) = some CS.size from by rw [<- Value.agg.inj hCS]; kernel_rfl);rw [hCS];clear hCS;go_enter Tryz.func3, Tryz.ntmps3;go_upto_region 1 with fail
 obtain ⟨g, hg⟩ : ∃ g, g = w.heap.size := ⟨_, rfl⟩;rw [<- hg] at HK ⊢;have HG := zH hg;clear hg;generalize w.alloc (.cells CS 28) = u at *;go_upto_region 3 with (go_at_call 4; refine (HAW _).mono ?_; rintro e1 u1 ⟨rfl, hb1⟩)
 have HK1 := zH (HK.below hb1 HK.lt); have HB1 := zH (bcall HB0 hb1);clear hb1;go_wp2_with (refine wpList_load_row rfl 28 _ rfl g rfl 28 _ (0, 0) _ HK1 hus.out rfl HZS ?_);rw [<- HST.out];refine (HMD _ HB1).mono ?_;rintro e2 u2 ⟨xo, qo, A9, c9, rfl, hb2, h9⟩;rcases h9 with ⟨h0, -⟩ | ⟨-, x, q, R, F, Am, nm, cm, rfl, rfl, hP⟩
 ·exact absurd rfl h0
 obtain ⟨m, hmm⟩ : ∃ m, m = mOf big d p ls lp key nk A9 c9 := ⟨_, rfl⟩;rw [<- hmm] at hP;have hmo : m.Ok := by rw [hmm]; exact (HM.out A9 c9).1
 have hst := fun (W : World) (x q : Nat) (t : NSt) (R F : List Nat) (Am : Option Addr) (nm cm : Nat) (o : Op5) (h : PN u1.heap.size u1 W x q m t t R F Am nm cm) (h1 : o.l.length = o.s.n) (h2 : o.s.n <= o.s.c) (h3 : o.s.c <= 9223372036854775807) (h4 : RS cB W u1.heap.size o.s.A o.l) (h5 : nm + o.s.n <= 140737488355200) => step5_any h hmo o.what o.s.A o.s.n o.s.c o.on o.most o.l h1 h2 h3 h4 h5
 have hnm : nm <= 128 := by
  have h1 := hP.r.len;rw [List.append_nil] at h1;rw [<- h1];exact keyL_len _ _ (by have := hmo.nkb; rw [hmo.key]; omega)
 have hs5 : Scr5 u1.heap.size u1 As os := (HSC.below HB1).more HB1.size;have HST5 := zH hst; have HP := zH hP; have HNM := zH hnm; have HS5 := zH hs5; have HMO := zH hmo;clear hst hP hnm hs5 hmo hmm HM HMD hb2 HK HK1 HZS hus HST;go_wp2_with fail;go_loopw [5, 6, 27] (fun y z i wr => ∃ (j x : Nat) (t : NSt) (R F : List Nat) (Am : Option Addr) (nm cm : Nat), j <= ns /\ i = .int .i64 j /\ y = .pointer (some ⟨x, 0, none⟩) /\ z = .pointer (some ⟨q, 0, none⟩) /\ PN u1.heap.size u1 wr x q m t t R F Am nm cm /\ nm <= 128 + ops5W (os.take j)) (fun _ _ i _ => ns - (intOf i).toNat)
 case atStart => exact ⟨0, x, _, R, F, Am, nm, cm, Nat.zero_le _, rfl, rfl, rfl, HP.out, by have := HNM.out; omega⟩
 case round =>
  clear HP HNM;obtain ⟨j, x1, t2, R1, F1, Am1, nm1, cm1, hj, rfl, rfl, rfl, hP, hnm⟩ := hrel;have HP := zH hP; have HNM := zH hnm;clear hP hnm
  by_cases hlt : j < ns
  ·obtain ⟨o, ho⟩ : ∃ o, os[j]? = some o := ⟨_, List.getElem?_eq_getElem (by rw [HOS.out]; exact hlt)⟩
   obtain ⟨gs, fs, hA, hgs, hra, hl, hrl, hob⟩ := (HS5.below HP.bel) j o ho;subst hA;have HTK := zH (ops5W_take os j o ho); have HLE := zH (ops5W_le os (j + 1));have HRA := zH hra; have HL := zH hl; have HRL := zH hrl; have HOB := zH hob; have HJ := zH hlt;have hkd : decide ((j : Int) < (ns : Int)) = true := by simp; omega
   have hki : (j : Int) < (ns : Int) := by omega
   have e4 : (⟨gs, fs, none⟩ : Addr).add (j * 4) = ⟨gs, fs + j * 4, none⟩ := Addr.add_mid _ _ _;clear ho hra hl hrl hob;obtain ⟨C, hC⟩ : ∃ C, C = opC5 o.what o.s.A o.s.n o.s.c o.on o.most := ⟨_, rfl⟩;rw [<- hC] at HRA;have HC := zH hC;have HSZ := zH (show (Tryz.prog.info? 36).map (·.size) = some C.size from by rw [hC]; kernel_rfl);have HSL := zH (show (Tryz.prog.info? 36).map (·.size) = some C.toList.length from by rw [hC]; kernel_rfl);have HS0 := zH (show (#[Value.int .i64 0, .slice none 0 0, .bool false, .int .i64 0] : Array Value).size = C.size from by rw [hC]; rfl);have HAL := zH (show C.all (·.oneCell') = true from by rw [hC]; unfold opC5; simp [Value.oneCell']);have HZ := zH (Blk.new wr 36 #[Value.int .i64 0, .slice none 0 0, .bool false, .int .i64 0]);clear hC;go_upto_region 9 with (first
    | (refine wpList_load_mid rfl 36 _ rfl gs (fs + j * 4) rfl C.toList _ HRA huo.out rfl HSL ?_)
    | (refine wpList_store_row rfl 36 _ _ rfl wr.heap.size C rfl rfl 36 _ HZ HSZ HS0 HAL ?_))
   have HB9 := zH (brow (bal (b0 wr) (.cells #[Value.int .i64 0, .slice none 0 0, .bool false, .int .i64 0] 36)) (Nat.le_refl _) C);have HK9 := zH (HZ.row C);have HP9 := zH (HP.below HB9);have HR9 := zH (HRL.below (HB9.mono HP.hH));obtain ⟨g9, hg9⟩ : ∃ g9, g9 = wr.heap.size := ⟨_, rfl⟩;rw [<- hg9] at HK9 HP9 HR9 ⊢;clear HZ hg9 HB9;generalize (wr.alloc _).setRow g9 C = v at *;go_wp2_with (refine wpList_load_row rfl 36 _ rfl g9 rfl 36 C (0, 0) _ HK9 huo.out rfl HSZ ?_);rw [HC.out];refine (HST5.out v x1 q t2 R1 F1 Am1 nm1 cm1 o HP9.out HL.out HOB.out.1 HOB.out.2 HR9.out (by have h1 := HNM.out; have h2 := HTK.out; have h3 := HLE.out; have h4 := HTO.out; have h5 := HL.out; omega)).mono ?_;rintro e3 w3 ⟨x3, t3, R3, F3, Am3, nm3, cm3, rfl, hP3, hn3⟩;have HP3 := zH hP3;have HN3 := zH (show nm3 <= 128 + ops5W (os.take (j + 1)) from by have h1 := HNM.out; have h2 := HTK.out; have h5 := HL.out; omega);clear hP3 hn3;go_wp2_with fail;go_roundw
   case rel => exact ⟨j + 1, x3, t3, R3, F3, Am3, nm3, cm3, HJ.out, num5 j, rfl, rfl, HP3.out, HN3.out⟩
   case measure => exact meas5 ns j HJ.out
  ·obtain rfl : ns = j := by omega
   have hnb : nm1 <= 140737488355200 := by have h1 := HNM.out; have h2 := ops5W_le os ns; have h3 := HTO.out; omega
   have hsx := fun (W : World) (hb : Below wr.heap.size wr W) => (HP.below hb).x.sum HMO.out
   have hsr := fun (W : World) (hb : Below wr.heap.size wr W) => (HP.below hb).r.sum HMO.out (by omega)
   have hol : ((m.e t2.data).out t2.last).length = bOf m.big := by rw [Eng.out_len, NPm.full_]
   have hdb := HMO.db.2;have hb64 : bOf m.big <= 64 := by cases m.big <;> decide
   obtain ⟨L, hL⟩ : ∃ L, (m.e t2.data).out t2.last = L := ⟨_, rfl⟩;simp only [hL] at hsx hsr hol;obtain ⟨dd, hdd⟩ : ∃ dd, m.d = dd := ⟨_, rfl⟩;simp only [hdd] at hsx hsr hdb;have hl1 : (L.take dd).length = dd := by rw [List.length_take, hol]; omega
   have hd64 : dd <= 9223372036854775807 := by omega
   have HSX := zH hsx; have HSR := zH hsr; have HL1 := zH hl1; have HD64 := zH hd64;have HWR := zH (fun W (hb : Below wr.heap.size wr W) => (HP.below hb).x.written);have H34 := zH (fun W (hb : Below wr.heap.size wr W) => (⟨(HP.below hb).r.blk.cell 34, (HP.below hb).r.blk.lt⟩ : W.cell? ⟨q, 34, none⟩ = some (.int .u64 (wrd (UInt64.ofNat t2.data.length))) /\ q < W.heap.size));have HBX := zH (fun W (hb : Below wr.heap.size wr W) => ((HP.below hb).bel));have e1 : (wrd (UInt64.ofNat t2.data.length) == wrd (UInt64.ofNat t2.data.length)) = true := by simp
   have t5 : decide (L.take dd = L.take dd) = true := decide_eq_true rfl;obtain ⟨q34, ql⟩ := H34 wr (b0 wr);clear hnb hsx hsr hol hdb hb64 hL hdd hl1 hd64 hlt hj HP;go_upto_region 13 with fail
   refine wp_region_B (Ords.of [(0, 0), (0, 2), (2, 1), (2, 3), (2, 4), (0, 5), (0, 6), (0, 8), (0, 9), (0, 10), (0, 11), (2, 7), (0, 12), (0, 13), (0, 14)] .fin) (by kernel_rfl) rfl (by kernel_rfl) (by kernel_rfl) (fun c a d v w h => by cases d <;> exact h) ?_
   iterate 2 (refine ords_pure rfl (fun K hK => ?_); go_simp; refine hK _ ?_; clear hK K)
   refine ords_loud rfl (fun n1 => ?_);go_wp2_with (go_at_call 8; refine (HSX _ (bdr (b0 wr) _)).mono ?_; rintro e2 w1 ⟨A2, c2, rfl, ho2, hb2⟩; have HO2 := zH ho2.reads; have HBA := zH (bcall (bdr (b0 wr) _) hb2); clear ho2 hb2);refine ⟨HBA.out, ?_⟩;refine ords_loud rfl (fun n2 => ?_);go_wp2_with (go_at_call 9; refine (HSR _ (bdr HBA _)).mono ?_; rintro e3 w2 ⟨A3, c3, cc3, rfl, ho3, hb3⟩; have HO3 := zH (ho3.reads.take dd); have HO2' := zH (((HO2.drewN n2).below hb3).more hb3.size); have HBB := zH (bcall (bdr HBA _) hb3); clear ho3 hb3);refine ⟨HBB.out, ?_⟩;refine ords_loud rfl (fun n3 => ?_);go_wp2_with fail;refine (same5_any A2 A3 dd cc3 (L.take dd) (L.take dd) dd dd _ HL1 HL1 HD64 (HO2'.drewN _) (HO3.drewN _)).mono ?_;rintro e4 w3 ⟨rfl, hb4⟩;have HBC := zH (bcall (bdr HBB _) hb4);obtain ⟨q34', ql'⟩ := H34 w3 HBC.out;clear hb4;go_wp2_with fail;refine ⟨HBC.out, ?_⟩
   iterate 5 (refine ords_pure rfl (fun K hK => ?_); go_simp; refine hK _ ?_; clear hK K)
   refine ords_heldK rfl (fun K K2 hK hK2 => ?_); go_simp; refine ⟨hK2 _ (fun w9 hS => ?_), hK _ ?_⟩; (clear hK hK2 K K2; (first | refine withN hS ?_ | refine withD hS ?_ | refine with0 hS ?_); intro hcS hfS; go_simp); (clear hK hK2 K K2);refine ords_loud rfl (fun n4 => ?_);go_wp2_with (go_at_call 10; refine (HWR _ (bdr HBC _)).mono ?_; rintro e5 w4 ⟨rfl, rfl⟩);refine ⟨bdr HBC _, ?_⟩
   iterate 3 (refine ords_pure rfl (fun K hK => ?_); go_simp; refine hK _ ?_; clear hK K)
   refine ords_end (fun n5 => ?_);have HBE := zH (HBX _ (bdr (bdr HBC n4) n5));go_wp2_with fail;exact bodyPost_ret (results_tmp rfl _ _ _) rfl ⟨rfl, bcall HB1 HBE.out⟩
theorem nodePlays_law (k : Int) (p : Pr) (ls lp key : List UInt8) (Ak : Option Addr) (nk ck : Nat) (As : Option Addr) (ns cs : Nat) (os : List Op5) (w : World) (hf : p.Fit) (hls : ls.length = p.salt.n) (hlp : lp.length = p.pers.n) (hk : key.length = nk) (hns : p.salt.n <= 140737488355328) (hnp : p.pers.n <= 140737488355328) (hnk : nk <= 140737488355328)
  (hrs : RS cB w w.heap.size p.salt.A ls) (hrp : RS cB w w.heap.size p.pers.A lp) (hrk : RS cB w w.heap.size Ak key)
  (hos : os.length = ns) (hn : ns <= 1048576) (htot : ops5W os <= 1048576) (hsc : Scr5 w.heap.size w As os) :
  Calls Tryz.prog 3 #[stV k p (.slice Ak nk ck), .slice As ns cs] w fun r w' => r = .returned (.bool true) /\ Below w.heap.size w w' := by
 by_cases hE : (if chk k p ≠ 0 then chk k p else if nk ≠ 0 /\ (nk : Int) ≠ p.key then 8 else 0 : Int) = 0
 ·have hc : chk k p = 0 := by
   by_cases h : chk k p = 0
   ·exact h
   ·rw [if_pos h] at hE; exact hE
  obtain ⟨big, hb⟩ := kind_of hc;have hr := chk_range (show chk (kOf big) p = 0 by rw [<- hb]; exact hc);rw [if_neg (fun h => h hc)] at hE;have hkd : nk = 0 \/ (nk : Int) = p.key := by
   by_cases h : nk ≠ 0 /\ (nk : Int) ≠ p.key
   ·rw [if_pos h] at hE; exact absurd hE (by decide)
   ·rw [not_and, Classical.not_not] at h
    by_cases h0 : nk = 0
    ·exact .inl h0
    ·exact .inr (h h0)
  obtain ⟨d, hd⟩ : ∃ d : Nat, p.digest = d := ⟨p.digest.toNat, by omega⟩;exact nodePlays_ok k p ls lp key Ak nk ck big d As ns cs os w hf hls hlp hk hns hnp hnk (by rw [if_neg (fun h => h hc)]; exact hE.symm) (fun A c => ⟨⟨by show chk (kOf big) p = 0; rw [<- hb]; exact hc, hf, hd, hls, hlp, hk, hkd⟩, hb⟩) hrs hrp hrk hos hn htot hsc
 ·exact nodePlays_no k p ls lp key Ak nk ck true 0 _ _ w hf hls hlp hk hns hnp hnk rfl hE hrs hrp hrk
end Go.Proofs.YtboihcigcfmhhaaGreat

/-
  Y44: contracts and lemmas alone; no statement is claimed here.
-/
import Derived.Test.YtboihcigcfmhhaaGreatY43
set_option maxHeartbeats 2000000
set_option maxRecDepth 20000
namespace Go.Proofs.YtboihcigcfmhhaaGreat
open _root_.Nat renaming le_refl → aZC
open Go renaming bodyPost_ret → aZB
open Lib renaming hid -> zH
open Go.RowKit
attribute [local go_sem] pureUpon Ords.of
theorem byt_not5 (x : UInt8) : bits .xor .u8 IntKind.u8.max (byt x) = byt (~~~x) := by
 have h : x = x ^^^ 0 := by simp
 have h2 := byt_xor 255 x;rw [show (255 : UInt8) ^^^ x = ~~~x by rw [<- UInt8.toBitVec_inj]; simp [UInt8.toBitVec_xor, UInt8.toBitVec_not, <- BitVec.allOnes_xor]] at h2;rw [<- h2]
 rfl
section
variable {H : Nat} {w0 w : World} {p q : Nat} {m : NPm} {t : NSt} {R F : List Nat} {Am : Option Addr} {nm cm : Nat}
theorem step5_load (h : PN H w0 w p q m t t R F Am nm cm) (Ad : Option Addr) (nd cd : Nat) (on : Bool) (most : Int) (hm : m.Ok) (htd : t.data.length < 2 ^ 60) :
  Calls Tryz.prog 6 #[.pointer (some ⟨p, 0, none⟩), .pointer (some ⟨q, 0, none⟩), .agg (opC5 8 Ad nd cd on most)] w fun r w' => ∃ p' t' R' F' Am' nm' cm', r = .returned (.tuple #[.pointer (some ⟨p', 0, none⟩), .pointer (some ⟨q, 0, none⟩), .bool true]) /\ PN H w0 w' p' q m t' t' R' F' Am' nm' cm' /\ nm' <= nm + nd := by
 have hbe := bal (b0 w) (.cells (opC5 8 Ad nd cd on most) 36);have HP := zH (h.below hbe); have HK := zH (Blk.new w 36 (opC5 8 Ad nd cd on most)); have HB0 := zH hbe; have HGF := zH (h.fresh (aZC w.heap.size)); have HX := zH h;clear hbe h;go_enter Tryz.func6, Tryz.ntmps6;go_upto_region 1 with fail
 obtain ⟨g, hg⟩ : ∃ g, g = w.heap.size := ⟨_, rfl⟩;rw [<- hg] at HK HGF ⊢;have HGE := zH hg;clear hg;unfold opC5;unfold opC5 at HP HK HB0;generalize w.alloc (.cells #[.int .i64 8, .slice Ad nd cd, .bool on, .int .i64 most] 36) = u at *;have k0 : u.cell? ⟨g, 0, none⟩ = some (.int .i64 8) := HK.cell 0;have HSA := zH (HP.x.save hm);go_wp2_with fail;refine HSA.mono ?_;rintro e1 u1 ⟨A1, n1, c1, rfl, hn1, hl1, ho1, hb1⟩;have HB1 := zH hb1;have hc1 : n1 <= c1 /\ c1 <= 9223372036854775807 := ⟨by have := ho1.len_le.1; rw [hl1] at this; exact this, by have := ho1.len_le.2; unfold maxLen at this; omega⟩;have HLD := zH (nx_load m t hm A1 n1 c1 u1 hl1 hc1 ho1.reads htd);clear hn1 hl1 ho1 hb1 hc1 k0;go_wp2_with fail;refine HLD.mono ?_;rintro e2 u2 ⟨q3, R3, F3, rfl, hx3, hf3, hr3, hb2⟩;have HX3 := zH hx3; have HF3 := zH hf3; have HR3 := zH hr3; have HB2 := zH (bcall HB1 hb2);have HP2 := zH (HP.below (bcall HB1 hb2));clear hx3 hf3 hr3 hb2;go_wp2_with fail;have hbl := bal (b0 u2) (.cells #[.int .u8 1] 5);have HP3 := zH (HP2.below hbl);have hx4 := NdS.below HX3 hbl;have hrs := (OS.lit (cd := cB) u2 [1] #[.int .u8 1] 1 rfl rfl (by decide)).reads;have HX4 := zH hx4; have HRS := zH hrs; have HB3 := zH (bcall HB2 hbl);have HU2 := zH (show ∀ k, k ∈ F -> k < u2.heap.size from NdS.lt HP2.x);have hfr : ∀ k, k ∈ F -> k ≠ u2.heap.size := fun k hk e => by have := HU2.out k hk; omega
 have HFR := zH hfr;clear hbl hx4 hrs hfr;refine (HP3.x.write (some ⟨u2.heap.size, 0, none⟩) 1 1 [1] rfl (aZC _) (by decide) HRS.out (fun h0 a ha hm2 => by injection ha with ha; rw [<- ha] at hm2; exact HFR.out _ hm2 rfl)).mono ?_;rintro e3 u3 ⟨rfl, F4, -, -, hbt⟩;have HBT := zH hbt;clear hbt;go_wp2_with fail;have hbF : But F u u3 := (But.of HB3 F).trans HBT (fun k hk => .inl hk);have hlow : ∀ k, k ∈ F -> k < u1.heap.size := NdS.lt (HP.below HB1).x;have hx5 : NX u3 q3 m t R3 F3 := NdS.but HX4 HBT (fun k hk hf => Nat.lt_irrefl _ (Nat.lt_of_lt_of_le (hlow k hf) (HR3 k hk))) (fun k hk hf => Nat.lt_irrefl _ (Nat.lt_of_lt_of_le (hlow k hf) (HF3 k hk)));exact aZB (results_tmp3 rfl _ _ _) rfl ⟨q3, t, R3, F3, Am, nm, cm, rfl, HP.ref hx5 (fun k hk => .inr (Nat.le_trans HB1.size (HF3 k hk))) (fun k hk => .inr (Nat.le_trans HB1.size (HR3 k hk))) hbF (fun k hk => .inl hk), Nat.le_add_right _ _⟩
theorem step5_none (h : PN H w0 w p q m t t R F Am nm cm) (Ad : Option Addr) (nd cd : Nat) (on : Bool) (most what : Int) (hw : ∀ k : Nat, k <= 8 -> what ≠ k) :
  Calls Tryz.prog 6 #[.pointer (some ⟨p, 0, none⟩), .pointer (some ⟨q, 0, none⟩), .agg (opC5 what Ad nd cd on most)] w fun r w' => ∃ p' t' R' F' Am' nm' cm', r = .returned (.tuple #[.pointer (some ⟨p', 0, none⟩), .pointer (some ⟨q, 0, none⟩), .bool true]) /\ PN H w0 w' p' q m t' t' R' F' Am' nm' cm' /\ nm' <= nm + nd := by
 have t0 : (what == 0) = false := by have := hw 0 (by decide); simpa using this
 have t1 : (what == 1) = false := by have := hw 1 (by decide); simpa using this
 have t2 : (what == 2) = false := by have := hw 2 (by decide); simpa using this
 have t3 : (what == 3) = false := by have := hw 3 (by decide); simpa using this
 have t4 : (what == 4) = false := by have := hw 4 (by decide); simpa using this
 have t5 : (what == 5) = false := by have := hw 5 (by decide); simpa using this
 have t6 : (what == 6) = false := by have := hw 6 (by decide); simpa using this
 have t7 : (what == 7) = false := by have := hw 7 (by decide); simpa using this
 have t8 : (what == 8) = false := by have := hw 8 (by decide); simpa using this
 clear hw;have hbe := bal (b0 w) (.cells (opC5 what Ad nd cd on most) 36);have HP := zH (h.below hbe); have HK := zH (Blk.new w 36 (opC5 what Ad nd cd on most)); have HB0 := zH hbe; have HGF := zH (h.fresh (aZC w.heap.size)); have HX := zH h;clear hbe h;go_enter Tryz.func6, Tryz.ntmps6;go_upto_region 1 with fail
 obtain ⟨g, hg⟩ : ∃ g, g = w.heap.size := ⟨_, rfl⟩;rw [<- hg] at HK HGF ⊢;have HGE := zH hg;clear hg;unfold opC5;unfold opC5 at HP HK HB0;generalize w.alloc (.cells #[.int .i64 what, .slice Ad nd cd, .bool on, .int .i64 most] 36) = u at *;have k0 : u.cell? ⟨g, 0, none⟩ = some (.int .i64 what) := HK.cell 0;have gl := HK.lt;go_wp2_with fail;exact aZB (results_tmp3 rfl _ _ _) rfl ⟨p, t, R, F, Am, nm, cm, rfl, HP.out, Nat.le_add_right _ _⟩
end
section
variable {H : Nat} {w0 w : World} {p q : Nat} {m : NPm} {t : NSt} {R F : List Nat} {Am : Option Addr} {nm cm : Nat}
theorem step5_write (h : PN H w0 w p q m t t R F Am nm cm) (Ad : Option Addr) (nd cd : Nat) (on : Bool) (most : Int) (data : List UInt8) (hdl : data.length = nd) (hrd : RS cB w H Ad data) (hlen : nm + nd <= 140737488355200) :
  Calls Tryz.prog 6 #[.pointer (some ⟨p, 0, none⟩), .pointer (some ⟨q, 0, none⟩), .agg (opC5 0 Ad nd cd on most)] w fun r w' => ∃ p' t' R' F' Am' nm' cm', r = .returned (.tuple #[.pointer (some ⟨p', 0, none⟩), .pointer (some ⟨q, 0, none⟩), .bool true]) /\ PN H w0 w' p' q m t' t' R' F' Am' nm' cm' /\ nm' <= nm + nd := by
 have HRD := zH hrd; have HDL := zH hdl;clear hrd hdl;have hbe := bal (b0 w) (.cells (opC5 0 Ad nd cd on most) 36);have HP := zH (h.below hbe); have HK := zH (Blk.new w 36 (opC5 0 Ad nd cd on most)); have HB0 := zH hbe; have HGF := zH (h.fresh (aZC w.heap.size)); have HX := zH h;clear hbe h;go_enter Tryz.func6, Tryz.ntmps6;go_upto_region 1 with fail
 obtain ⟨g, hg⟩ : ∃ g, g = w.heap.size := ⟨_, rfl⟩;rw [<- hg] at HK HGF ⊢;have HGE := zH hg;clear hg;unfold opC5;unfold opC5 at HP HK HB0;generalize w.alloc (.cells #[.int .i64 0, .slice Ad nd cd, .bool on, .int .i64 most] 36) = u at *;have k0 : u.cell? ⟨g, 0, none⟩ = some (.int .i64 0) := HK.cell 0;have HRU := zH (HRD.below (HB0.mono HX.hH));have HCP := zH (copied5_any Ad cd nd data u HDL.out (by omega) (HRU.more HP.hH));have k1 : u.cell? ⟨g, 1, none⟩ = some (.slice Ad nd cd) := HK.cell 1;have gl := HK.lt;go_upto_region 4 with (go_at_call 15; refine HCP.mono ?_; rintro e1 u1 ⟨A1, c1, rfl, ho1, hb1⟩)
 have HO1 := zH ho1; have HB1 := zH hb1; have HP1 := zH (HP.below hb1);have HLE := zH (show nd <= c1 /\ c1 <= 9223372036854775807 from ⟨by have := ho1.len_le.1; rw [HDL.out] at this; exact this, by have := ho1.len_le.2; unfold maxLen at this; omega⟩);have HAL := zH (show ∀ a, A1 = some a -> u.heap.size <= a.block /\ a.block < u1.heap.size from ho1.block_lt);clear ho1 hb1 k0 k1 gl HCP;go_wp2_with fail;refine (HP1.x.write A1 nd c1 data HDL HLE.out.1 HLE.out.2 HO1.reads (fun _ a ha hm2 => (HP.fresh (HAL a ha).1).2.1 hm2)).mono ?_;rintro e2 u2 ⟨rfl, F2, hx2, hs2, hbt⟩;have HP2 := zH (HP1.ref hx2 hs2 (fun k hk => .inl hk) hbt (fun k hk => .inl hk));have HO2 := zH (HO1.but hbt (fun a ha hm2 => (HP.fresh (HAL a ha).1).2.1 hm2));have hk2 := (HK.below HB1 HK.lt).but hbt HGF.out.2.1;have k1 : u2.cell? ⟨g, 1, none⟩ = some (.slice Ad nd cd) := hk2.cell 1;have gl := hk2.lt;have HS2 := zH hbt.size; have HSF := zH hs2;have HRU2 := zH ((HRU.below (HB1.mono HP.hH)).below (hbt.toBelow HP1.hH HP1.hF));clear hx2 hs2 hbt hk2;go_wp2_with fail;refine (HP2.r.write Ad nd cd data HDL.out HRU2.out (by omega)).mono ?_;rintro e3 v ⟨rfl, Am2, cm2, hr2, hb3, ha2⟩;have HP3 := zH (HP2.went hr2 hb3 (fun k hk => by rcases List.mem_cons.1 hk with h | h; exact .inl h; exact .inr (.inl h)) (fun b hb => ha2 b hb));have HOv := zH (HO2.but hb3 (fun a ha hm2 => by
  rcases List.mem_cons.1 hm2 with h | h
  ·exact (HP.fresh (HAL a ha).1).2.2.2.1 h
  ·obtain ⟨b, h1, h2⟩ := mem_obl.1 h; exact (HP.fresh (HAL a ha).1).2.2.2.2.1 b h1 h2))
 have HA2 := zH ha2;clear hr2 hb3 ha2 k1 gl;have HL1 := HDL;obtain ⟨L1, hL1⟩ : ∃ L1, L1 = data := ⟨_, rfl⟩;rw [<- hL1] at HOv HL1;clear hL1;go_wp2_with fail;go_loopw [11, 33] (fun _ i wr => ∃ (k : Nat) (M : List UInt8), k <= nd /\ i = .int .i64 k /\ M.length = nd /\ OS cB wr u.heap.size A1 c1 M /\ But (obl A1) v wr) (fun _ i _ => nd - (intOf i).toNat)
 case atStart => exact ⟨0, L1, Nat.zero_le _, rfl, HL1.out, HOv.out, But.refl _ _⟩
 case round =>
  obtain ⟨k, M, hk, rfl, hM, ho, hb⟩ := hrel;have HM := zH hM; have HB := zH hb;clear hM hb
  by_cases hlt : k < nd
  ·obtain ⟨g', x, rfl, -, hgl, ex, gc, gf⟩ := ho.at_ (k := k) (by rw [HM.out]; exact hlt)
   change wr.cell? ⟨g', k, none⟩ = some (.int .u8 (byt x)) at gc;have hkd : decide ((k : Int) < nd) = true := by simp; omega
   have hki : (k : Int) < nd := by omega
   have hnt := byt_not5 x;have hnt2 : bits .xor .u8 (if IntKind.u8.signed = true then -1 else IntKind.u8.max) (byt x) = byt (~~~x) := byt_not5 x;have hos := ho.set k (~~~x);have HOS := zH hos;clear ex ho hos;go_wp2_with fail;go_roundw
   case rel => exact ⟨k + 1, M.set k (~~~x), by omega, by go_num, by rw [List.length_set]; exact HM.out, HOS.out, HB.setCell (p := ⟨g', k, none⟩) (.inl (by simp [obl])) _⟩
   case measure => simp [intOf]; omega
  ·obtain rfl : nd = k := by omega
   clear ho hlt;have HP4 := zH (HP3.but HB (fun j hj => by
    obtain ⟨a, h1, h2⟩ := mem_obl.1 hj;have h3 := HAL a h1;have h4 := HP.fresh h3.1;rw [<- h2];refine ⟨h4.1, fun hf => ?_, h4.2.2.1, h4.2.2.2.1, fun b hb e => ?_, h4.2.2.2.2.2⟩
    ·rcases HSF _ hf with h5 | h5
     ·exact h4.2.1 h5
     ·omega
    ·rcases HA2 b hb with h5 | h5
     ·obtain ⟨c, h6, h7⟩ := mem_obl.1 h5; exact h4.2.2.2.2.1 c h6 (by rw [h7, e])
     ·have := HS2.out; omega))
   go_wp2_with fail;exact aZB (results_tmp3 rfl _ _ _) rfl ⟨p, _, R, F2, Am2, _, cm2, rfl, HP4.out, aZC _⟩
theorem step5_sum (h : PN H w0 w p q m t t R F Am nm cm) (Ad : Option Addr) (nd cd : Nat) (on : Bool) (most : Int) (hm : m.Ok) (hnm : nm <= 140737488355200) :
  Calls Tryz.prog 6 #[.pointer (some ⟨p, 0, none⟩), .pointer (some ⟨q, 0, none⟩), .agg (opC5 2 Ad nd cd on most)] w fun r w' => ∃ p' t' R' F' Am' nm' cm', r = .returned (.tuple #[.pointer (some ⟨p', 0, none⟩), .pointer (some ⟨q, 0, none⟩), .bool true]) /\ PN H w0 w' p' q m t' t' R' F' Am' nm' cm' /\ nm' <= nm + nd := by
 have hsx := fun (W : World) (hx : NX W p m t R F) => hx.sum hm
 have hsr := fun (W : World) (hr : NR W H q m t Am nm cm) => hr.sum hm (by omega)
 have hol : ((m.e t.data).out t.last).length = bOf m.big := by rw [Eng.out_len, NPm.full_]
 have hdb := hm.db.2;have hb64 : bOf m.big <= 64 := by cases m.big <;> decide
 obtain ⟨L, hL⟩ : ∃ L, (m.e t.data).out t.last = L := ⟨_, rfl⟩;simp only [hL] at hsx hsr hol;obtain ⟨dd, hdd⟩ : ∃ dd, m.d = dd := ⟨_, rfl⟩;simp only [hdd] at hsx hsr hdb;have hl1 : (L.take dd).length = dd := by rw [List.length_take, hol]; omega
 have hd64 : dd <= 64 := by omega
 have HSX := zH hsx; have HSR := zH hsr; have HL1 := zH hl1;clear hsx hsr hol hdb hb64 hL hdd hl1;have hbe := bal (b0 w) (.cells (opC5 2 Ad nd cd on most) 36);have HP := zH (h.below hbe); have HK := zH (Blk.new w 36 (opC5 2 Ad nd cd on most)); have HB0 := zH hbe; have HGF := zH (h.fresh (aZC w.heap.size)); have HX := zH h;clear hbe h;go_enter Tryz.func6, Tryz.ntmps6;go_upto_region 1 with fail
 obtain ⟨g, hg⟩ : ∃ g, g = w.heap.size := ⟨_, rfl⟩;rw [<- hg] at HK HGF ⊢;have HGE := zH hg;clear hg;unfold opC5;unfold opC5 at HP HK HB0;generalize w.alloc (.cells #[.int .i64 2, .slice Ad nd cd, .bool on, .int .i64 most] 36) = u at *;have k0 : u.cell? ⟨g, 0, none⟩ = some (.int .i64 2) := HK.cell 0;have gl := HK.lt;go_upto_region 17 with (go_at_call 8; refine (HSX _ HP.x).mono ?_; rintro e1 v ⟨A1, c1, rfl, ho1, hb1⟩)
 have HOv := zH ho1; have HPv := zH (HP.below hb1);clear ho1 hb1 k0 gl;obtain ⟨L1, hL1⟩ : ∃ L1, L1 = L.take dd := ⟨_, rfl⟩;rw [<- hL1] at HOv HL1;have HLL := zH hL1;clear hL1;go_wp2_with fail;go_loopw [13, 69] (fun _ i wr => ∃ (k : Nat) (M : List UInt8), k <= dd /\ i = .int .i64 k /\ M.length = dd /\ OS cB wr u.heap.size A1 c1 M /\ But (obl A1) v wr) (fun _ i _ => dd - (intOf i).toNat)
 case atStart => exact ⟨0, L1, Nat.zero_le _, rfl, HL1.out, HOv.out, But.refl _ _⟩
 case round =>
  obtain ⟨k, M, hk, rfl, hM, ho, hb⟩ := hrel;have HM := zH hM; have HB := zH hb;clear hM hb
  by_cases hlt : k < dd
  ·obtain ⟨g', x, rfl, -, hgl, ex, gc, gf⟩ := ho.at_ (k := k) (by rw [HM.out]; exact hlt)
   change wr.cell? ⟨g', k, none⟩ = some (.int .u8 (byt x)) at gc;have hkd : decide ((k : Int) < dd) = true := by simp; omega
   have hki : (k : Int) < dd := by omega
   have hnt := byt_not5 x;have hnt2 : bits .xor .u8 (if IntKind.u8.signed = true then -1 else IntKind.u8.max) (byt x) = byt (~~~x) := byt_not5 x;have hos := ho.set k (~~~x);have HOS := zH hos;clear ex ho hos;go_wp2_with fail;go_roundw
   case rel => exact ⟨k + 1, M.set k (~~~x), by omega, by go_num, by rw [List.length_set]; exact HM.out, HOS.out, HB.setCell (p := ⟨g', k, none⟩) (.inl (by simp [obl])) _⟩
   case measure => simp [intOf]; omega
  ·obtain rfl : dd = k := by omega
   clear ho hlt;have HP4 := zH (HPv.but HB (fun j hj => by
    obtain ⟨a, h1, h2⟩ := mem_obl.1 hj;rw [<- h2];exact HP.fresh (HOv.block_lt a h1).1))
   go_wp2_with fail;refine (HSX _ HP4.x).mono ?_;rintro e2 s1 ⟨A2, c2, rfl, ho2, hb2⟩;have HO2 := zH ho2.reads; have HB2 := zH hb2;clear ho2 hb2;go_wp2_with fail;refine (HSR _ (HP4.below HB2).r).mono ?_;rintro e3 s2 ⟨A3, c3, cc3, rfl, ho3, hb3⟩;have HO3 := zH (ho3.reads.take dd); have HB3 := zH hb3;clear ho3 hb3;go_wp2_with fail;refine (same5_any A2 A3 dd cc3 (L.take dd) (L.take dd) dd dd s2 (by rw [<- HLL.out]; exact HL1.out) (by rw [<- HLL.out]; exact HL1.out) (by omega) ((HO2.below HB3.out).more HB3.size) HO3.out).mono ?_;rintro e4 s3 ⟨rfl, hb4⟩;have t5 : decide (L.take dd = L.take dd) = true := decide_eq_true rfl;have HB4 := zH (bcall (bcall HB2 HB3) hb4);clear hb4;go_wp2_with fail;exact aZB (results_tmp3 rfl _ _ _) rfl ⟨p, t, R, F, Am, nm, cm, rfl, HP4.below HB4.out, Nat.le_add_right _ _⟩
end
end Go.Proofs.YtboihcigcfmhhaaGreat

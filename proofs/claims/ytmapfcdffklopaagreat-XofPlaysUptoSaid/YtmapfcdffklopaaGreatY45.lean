/-
  Y45: contracts and lemmas alone; no statement is claimed here.
-/
import Derived.Test.YtmapfcdffklopaaGreatY44
namespace Go.Proofs.YtmapfcdffklopaaGreat
open Go.RowKit
attribute [local go_sem] pureUpon Ords.of

section
variable {H : Nat} {w0 w : World} {p q : Nat} {m : Xm} {t : XSt} {F : List Nat} {Ak : Option Addr} {ck : Nat} {s tt : Sl} {Am : Option Addr} {nm cm : Nat}
set_option maxRecDepth 20000 in
set_option maxHeartbeats 2000000 in
theorem step7_writeG (h : PS H w0 w p q m t t F Ak ck s tt Am nm cm) (hgv : t.gv = true) (Ad : Option Addr) (nd cd : Nat) (n : Int) (b : Nat) (data : List UInt8) (hd : data.length = nd) (hr : RS cB w H Ad data) (hlen : nm + nd ≤ 140737488355200) :
  Calls Tryz.prog 7 #[.pointer (some ⟨p, 0, none⟩), .pointer (some ⟨q, 0, none⟩), .agg (opC 0 Ad nd cd n b)] w fun r w' => ∃ p' t' F' Am' nm' cm', r = .returned (.tuple #[.pointer (some ⟨p', 0, none⟩), .bool true]) ∧ PS H w0 w' p' q m t' t' F' Ak ck s tt Am' nm' cm' ∧ nm' ≤ nm + nd := by
 have hbe := bal (b0 w) (.cells (opC 0 Ad nd cd n b) 33)
 have HP := Lib.hid (h.below hbe); have HK := Lib.hid (Blk.new w 33 (opC 0 Ad nd cd n b)); have HB0 := Lib.hid hbe; have HGF := Lib.hid (h.fresh (Nat.le_refl w.heap.size)); have HX := Lib.hid h
 clear hbe h
 go_enter Tryz.func7, Tryz.ntmps7
 go_upto_region 1 with fail
 obtain ⟨g, hg⟩ : ∃ g, g = w.heap.size := ⟨_, rfl⟩
 rw [← hg] at HK HGF ⊢
 have HGE := Lib.hid hg
 clear hg
 unfold opC
 unfold opC at HP HK HB0
 generalize w.alloc (.cells #[.int .i64 0, .slice Ad nd cd, .int .i64 n, .int .u64 b] 33) = u at *
 have k0 : u.cell? ⟨g, 0, none⟩ = some (.int .i64 0) := HK.out.cell 0
 have k1 : u.cell? ⟨g, 1, none⟩ = some (.slice Ad nd cd) := HK.out.cell 1
 have HRD := Lib.hid (hr.below (HB0.out.mono HX.out.hH))
 have HD := Lib.hid hd
 have HCP := Lib.hid (copied7_any Ad cd nd data u hd (by omega) (HRD.out.more HP.out.hH))
 clear hr hd
 go_wp2_with (go_at_call 18; refine HCP.out.mono ?_; rintro e1 u1 ⟨A1, c1, rfl, ho1, hb1⟩)
 have HP1 := Lib.hid (HP.out.below hb1); have HK1 := Lib.hid (HK.out.below hb1 HK.out.lt); have HO1 := Lib.hid ho1
 have HRD1 := Lib.hid (HRD.out.below (hb1.mono HP.out.hH))
 have HGA := Lib.hid (show g ∉ obl A1 from fun hm => by obtain ⟨a, h1, h2⟩ := mem_obl.1 hm; have h3 := (ho1.block_lt a h1).1; have h4 := HK.out.lt; omega)
 have HAF := Lib.hid (fun a (ha : A1 = some a) (hm : a.block ∈ F) => Nat.lt_irrefl _ (Nat.lt_of_lt_of_le (HP.out.x.lt _ hm) (ho1.block_lt a ha).1))
 have HAQ := Lib.hid (fun k (hk : k ∈ obl A1) => (by obtain ⟨a, h1, h2⟩ := mem_obl.1 hk; rw [← h2]; exact HP.out.fresh (ho1.block_lt a h1).1 : H ≤ k ∧ k ∉ F ∧ k ≠ q ∧ ∀ b, Am = some b → b.block ≠ k))
 clear ho1 hb1 k0 k1
 have HXW := Lib.hid (by
  rcases HP1.out.x with ⟨h1, -⟩ | ⟨-, h1⟩
  ·rw [hgv] at h1; cases h1
  ·exact h1.writeNo A1 nd c1)
 have HP2 := HP1; have HK2 := HK1; have HO2 := HO1; have HRD2 := HRD1; have HAG := HAQ
 go_wp2_with (go_at_call 21; refine HXW.out.mono ?_; rintro e2 u2 ⟨rfl, rfl⟩)
 go_loopw [10, 28] (fun _ i wr => ∃ (k : Nat) (M : List UInt8), k ≤ nd ∧ i = .int .i64 k ∧ M.length = nd ∧ OS cB wr u.heap.size A1 c1 M ∧ But (obl A1) u1 wr) (fun _ i _ => nd - (intOf i).toNat)
 case atStart => exact ⟨0, data, Nat.zero_le _, rfl, HD.out, HO2.out, But.refl _ _⟩
 case round =>
  clear HO2
  obtain ⟨k, M, hk, rfl, hM, ho, hb⟩ := hrel
  have HM := Lib.hid hM; have HB := Lib.hid hb
  clear hM hb
  by_cases hlt : k < nd
  ·obtain ⟨g', x, rfl, -, hgl, ex, gc, gf⟩ := ho.at_ (k := k) (by rw [HM.out]; exact hlt)
   change wr.cell? ⟨g', k, none⟩ = some (.int .u8 (byt x)) at gc
   have hkd : decide ((k : Int) < nd) = true := by simp; omega
   have hki : (k : Int) < nd := by omega
   have hnt := byt_not x
   have hnt2 : bits .xor .u8 (if IntKind.u8.signed = true then -1 else IntKind.u8.max) (byt x) = byt (~~~x) := byt_not x
   have hos := ho.set k (~~~x)
   have HOS := Lib.hid hos
   clear ex ho hos
   go_wp2_with fail
   go_roundw
   case rel => exact ⟨k + 1, M.set k (~~~x), by omega, by go_num, by rw [List.length_set]; exact HM.out, HOS.out, HB.out.setCell (p := ⟨g', k, none⟩) (.inl (by simp [obl])) _⟩
   case measure => simp [intOf]; omega
  ·obtain rfl : k = nd := by omega
   clear ho
   have HP3 := Lib.hid (HP2.out.but HB.out HAG.out); have HRD3 := Lib.hid ((HRD2.out.below (HB.out.toBelow HP2.out.hH (fun k hk => (HAG.out k hk).1))))
   have k1 : wr.cell? ⟨g, 1, none⟩ = some (.slice Ad k cd) := (HK2.out.but HB.out HGA.out).cell 1
   have HYW := Lib.hid (rxWriteNo_any H q m t hgv Ak ck s tt Am nm cm Ad k cd wr HP3.out.r)
   go_wp2_with (go_at_call 22; refine HYW.out.mono ?_; rintro e3 w3 ⟨rfl, rfl⟩)
   exact bodyPost_ret (results_tmp2 rfl _ _ _) rfl ⟨p, t, F, Am, nm, cm, rfl, HP3.out, Nat.le_add_right _ _⟩
set_option maxRecDepth 20000 in
set_option maxHeartbeats 2000000 in
theorem step7_writeT (h : PS H w0 w p q m t t F Ak ck s tt Am nm cm) (hgv : t.gv = false) (Ad : Option Addr) (nd cd : Nat) (n : Int) (b : Nat) (data : List UInt8) (hd : data.length = nd) (hr : RS cB w H Ad data) (hlen : nm + nd ≤ 140737488355200) :
  Calls Tryz.prog 7 #[.pointer (some ⟨p, 0, none⟩), .pointer (some ⟨q, 0, none⟩), .agg (opC 0 Ad nd cd n b)] w fun r w' => ∃ p' t' F' Am' nm' cm', r = .returned (.tuple #[.pointer (some ⟨p', 0, none⟩), .bool true]) ∧ PS H w0 w' p' q m t' t' F' Ak ck s tt Am' nm' cm' ∧ nm' ≤ nm + nd := by
 have hbe := bal (b0 w) (.cells (opC 0 Ad nd cd n b) 33)
 have HP := Lib.hid (h.below hbe); have HK := Lib.hid (Blk.new w 33 (opC 0 Ad nd cd n b)); have HB0 := Lib.hid hbe; have HGF := Lib.hid (h.fresh (Nat.le_refl w.heap.size)); have HX := Lib.hid h
 clear hbe h
 go_enter Tryz.func7, Tryz.ntmps7
 go_upto_region 1 with fail
 obtain ⟨g, hg⟩ : ∃ g, g = w.heap.size := ⟨_, rfl⟩
 rw [← hg] at HK HGF ⊢
 have HGE := Lib.hid hg
 clear hg
 unfold opC
 unfold opC at HP HK HB0
 generalize w.alloc (.cells #[.int .i64 0, .slice Ad nd cd, .int .i64 n, .int .u64 b] 33) = u at *
 have k0 : u.cell? ⟨g, 0, none⟩ = some (.int .i64 0) := HK.out.cell 0
 have k1 : u.cell? ⟨g, 1, none⟩ = some (.slice Ad nd cd) := HK.out.cell 1
 have HRD := Lib.hid (hr.below (HB0.out.mono HX.out.hH))
 have HD := Lib.hid hd
 have HCP := Lib.hid (copied7_any Ad cd nd data u hd (by omega) (HRD.out.more HP.out.hH))
 clear hr hd
 go_wp2_with (go_at_call 18; refine HCP.out.mono ?_; rintro e1 u1 ⟨A1, c1, rfl, ho1, hb1⟩)
 have HP1 := Lib.hid (HP.out.below hb1); have HK1 := Lib.hid (HK.out.below hb1 HK.out.lt); have HO1 := Lib.hid ho1
 have HRD1 := Lib.hid (HRD.out.below (hb1.mono HP.out.hH))
 have HGA := Lib.hid (show g ∉ obl A1 from fun hm => by obtain ⟨a, h1, h2⟩ := mem_obl.1 hm; have h3 := (ho1.block_lt a h1).1; have h4 := HK.out.lt; omega)
 have HAF := Lib.hid (fun a (ha : A1 = some a) (hm : a.block ∈ F) => Nat.lt_irrefl _ (Nat.lt_of_lt_of_le (HP.out.x.lt _ hm) (ho1.block_lt a ha).1))
 have HAQ := Lib.hid (fun k (hk : k ∈ obl A1) => (by obtain ⟨a, h1, h2⟩ := mem_obl.1 hk; rw [← h2]; exact HP.out.fresh (ho1.block_lt a h1).1 : H ≤ k ∧ k ∉ F ∧ k ≠ q ∧ ∀ b, Am = some b → b.block ≠ k))
 clear ho1 hb1 k0 k1
 obtain ⟨hX1, hpos0⟩ : XTk u1 p m t.msg F ∧ t.pos = 0 := by
  rcases HP1.out.x with ⟨-, h2, h1⟩ | ⟨h1, -⟩
  ·exact ⟨h1, h2⟩
  ·rw [hgv] at h1; cases h1
 have HXW := Lib.hid (xWrite A1 nd c1 data u1 hX1 HD.out (by have := HO1.out.len_le.1; have := HD.out; omega) (by have := HO1.out.len_le.2; unfold maxLen at this; omega) HO1.out.reads (fun _ a ha => HAF.out a ha))
 have HP0 := Lib.hid hpos0
 clear hX1 hpos0
 go_wp2_with (go_at_call 21; refine HXW.out.mono ?_; rintro e2 u2 ⟨rfl, F2, h1, h2, h3⟩)
 have HP2 := Lib.hid (HP1.out.ref (t' := ⟨t.msg ++ data, false, t.pos⟩) (.inl ⟨rfl, HP0.out, h1⟩) HP1.out.pos h2 h3 (fun k hk => .inl hk))
 have HK2 := Lib.hid (HK1.out.but h3 HGF.out.2.1); have HO2 := Lib.hid (HO1.out.but h3 HAF.out); have HRD2 := Lib.hid (HRD1.out.below (h3.toBelow HP1.out.hH HP1.out.hF))
 have HAG := Lib.hid (fun k (hk : k ∈ obl A1) => (by
  obtain ⟨g1, g2, g3, g4⟩ := HAQ.out k hk
  refine ⟨g1, fun h4 => ?_, g3, g4⟩
  rcases h2 k h4 with h5 | h5
  ·exact g2 h5
  ·obtain ⟨a, h6, h7⟩ := mem_obl.1 hk
   have h8 := (HO1.out.block_lt a h6).2
   omega : H ≤ k ∧ k ∉ F2 ∧ k ≠ q ∧ ∀ b, Am = some b → b.block ≠ k))
 clear h1 h2 h3
 go_loopw [10, 28] (fun _ i wr => ∃ (k : Nat) (M : List UInt8), k ≤ nd ∧ i = .int .i64 k ∧ M.length = nd ∧ OS cB wr u.heap.size A1 c1 M ∧ But (obl A1) u2 wr) (fun _ i _ => nd - (intOf i).toNat)
 case atStart => exact ⟨0, data, Nat.zero_le _, rfl, HD.out, HO2.out, But.refl _ _⟩
 case round =>
  clear HO2
  obtain ⟨k, M, hk, rfl, hM, ho, hb⟩ := hrel
  have HM := Lib.hid hM; have HB := Lib.hid hb
  clear hM hb
  by_cases hlt : k < nd
  ·obtain ⟨g', x, rfl, -, hgl, ex, gc, gf⟩ := ho.at_ (k := k) (by rw [HM.out]; exact hlt)
   change wr.cell? ⟨g', k, none⟩ = some (.int .u8 (byt x)) at gc
   have hkd : decide ((k : Int) < nd) = true := by simp; omega
   have hki : (k : Int) < nd := by omega
   have hnt := byt_not x
   have hnt2 : bits .xor .u8 (if IntKind.u8.signed = true then -1 else IntKind.u8.max) (byt x) = byt (~~~x) := byt_not x
   have hos := ho.set k (~~~x)
   have HOS := Lib.hid hos
   clear ex ho hos
   go_wp2_with fail
   go_roundw
   case rel => exact ⟨k + 1, M.set k (~~~x), by omega, by go_num, by rw [List.length_set]; exact HM.out, HOS.out, HB.out.setCell (p := ⟨g', k, none⟩) (.inl (by simp [obl])) _⟩
   case measure => simp [intOf]; omega
  ·obtain rfl : k = nd := by omega
   clear ho
   have HP3 := Lib.hid (HP2.out.but HB.out HAG.out); have HRD3 := Lib.hid ((HRD2.out.below (HB.out.toBelow HP2.out.hH (fun k hk => (HAG.out k hk).1))))
   have k1 : wr.cell? ⟨g, 1, none⟩ = some (.slice Ad k cd) := (HK2.out.but HB.out HGA.out).cell 1
   have HYW := Lib.hid (rxWrite_any H q m t hgv Ak ck s tt Am nm cm Ad k cd data wr HP3.out.r HD.out HRD3.out (by omega))
   go_wp2_with (go_at_call 22; refine HYW.out.mono ?_; rintro e3 w3 ⟨rfl, Am', cm', h1, h2, h3⟩)
   have HP4 := Lib.hid (HP3.out.went h1 h2 (fun k hk => by
    rcases List.mem_cons.1 hk with h4 | h4
    ·exact .inl h4
    ·exact .inr (.inl h4)) h3)
   exact bodyPost_ret (results_tmp2 rfl _ _ _) rfl ⟨p, _, F2, Am', nm + k, cm', rfl, HP4.out, Nat.le_refl _⟩
theorem step7_any (h : PS H w0 w p q m t t F Ak ck s tt Am nm cm) (hm : m.Ok) (what : Int) (Ad : Option Addr) (nd cd : Nat) (n : Int) (b : Nat) (data : List UInt8) (hd : data.length = nd) (hr : RS cB w H Ad data) (hlen : nm + nd ≤ 140737488355200) (hb : b < 18446744073709551616) :
  Calls Tryz.prog 7 #[.pointer (some ⟨p, 0, none⟩), .pointer (some ⟨q, 0, none⟩), .agg (opC what Ad nd cd n b)] w fun r w' => ∃ p' t' F' Am' nm' cm', r = .returned (.tuple #[.pointer (some ⟨p', 0, none⟩), .bool true]) ∧ PS H w0 w' p' q m t' t' F' Ak ck s tt Am' nm' cm' ∧ nm' ≤ nm + nd := by
 by_cases h0 : what = 0
 ·subst h0
  cases hgv : t.gv
  ·exact step7_writeT h hgv Ad nd cd n b data hd hr hlen
  ·exact step7_writeG h hgv Ad nd cd n b data hd hr hlen
 by_cases h1 : what = 1
 ·subst h1; exact step7_read h hm (by omega) Ad nd cd n b
 by_cases h2 : what = 2
 ·subst h2; exact step7_skip h hm Ad nd cd n b hb
 by_cases h3 : what = 3
 ·subst h3; exact step7_at h hm Ad nd cd n b
 by_cases h4 : what = 4
 ·subst h4; exact step7_copy h hm Ad nd cd n b
 by_cases h5 : what = 5
 ·subst h5; exact step7_reset h hm Ad nd cd n b
 exact step7_else h what ⟨h0, h1, h2, h3, h4, h5⟩ Ad nd cd n b
end
end Go.Proofs.YtmapfcdffklopaaGreat

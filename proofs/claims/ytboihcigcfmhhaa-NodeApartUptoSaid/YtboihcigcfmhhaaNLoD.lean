/-
  Load of the program: the tail of what was saved. Contracts alone; no statement is claimed here.
-/
import Derived.Test.YtboihcigcfmhhaaNLoB
import Derived.Test.YtboihcigcfmhhaaSave
namespace Go.Proofs.Ytboihcigcfmhhaa
open Go.RowKit
attribute [local go_sem] pureUpon Ords.of

theorem samew_any (A1 A2 : Option Addr) (n1 c1 n2 c2 : Nat) (x y : List UInt8) (w : World) (hx : x.length = n1) (hy : y.length = n2) (h1 : RS cB w w.heap.size A1 x) (h2 : RS cB w w.heap.size A2 y) (hxy : x = y) :
    Calls Try.prog 39 #[.slice A1 n1 c1, .slice A2 n2 c2] w fun e w' => e = .returned (.bool true) ∧ w = w' := by
  have hc1 := run_string (c := c1) h1 hx
  have hc2 := run_string (c := c2) h2 hy
  go_enter Try.func39, Try.ntmps39
  go_wp2_with fail
  have e : (x == y) = true := by rw [hxy]; simp
  exact bodyPost_ret (results_tmp rfl _ _ _) rfl ⟨by rw [← e]; rfl, rfl⟩
/-- the byte that says how much is held back -/
theorem isHeld_any (c bl nk : Nat) (nn : Bool) (q t g : Nat) (Ak : Option Addr) (ck : Nat) (w : World) (hq : w.cell? ⟨q, 0, none⟩ = some (.int .i64 bl)) (ht : w.cell? ⟨t, 0, none⟩ = some (.bool nn)) (hg : w.cell? ⟨g, 14, none⟩ = some (.slice Ak nk ck))
    (h1 : c ≤ bl) (h2 : nn = false → 0 < c) (h3 : nn = true → nk = 0 ∨ bl ≤ c) :
    Calls Try.prog 37 #[.int .i64 c, .pointer (some ⟨q, 0, none⟩), .pointer (some ⟨t, 0, none⟩), .pointer (some ⟨g, 0, none⟩)] w fun r w' => r = .returned (.bool true) ∧ w = w' := by
  have H1 := Lib.hid h1; have H2 := Lib.hid h2; have H3 := Lib.hid h3
  clear h1 h2 h3
  cases nn with
  | false =>
    replace H2 := Lib.hid (H2.out rfl)
    clear H3
    go_enter Try.func37, Try.ntmps37
    go_wp2_with fail
    all_goals first
      | exact bodyPost_ret (results_tmp rfl _ _ _) rfl ⟨rfl, rfl⟩
      | (exfalso; have e1 := H1.out; have e2 := H2.out; omega)
  | true =>
    replace H3 := Lib.hid (H3.out rfl)
    clear H2
    go_enter Try.func37, Try.ntmps37
    go_wp2_with fail
    all_goals first
      | exact bodyPost_ret (results_tmp rfl _ _ _) rfl ⟨rfl, rfl⟩
      | (exfalso; have e1 := H1.out; have e2 := H3.out; omega)
      | (have e2 := H3.out; have hb : ((nk : Int) == 0 || decide (bl ≤ c)) = true := by (simp; omega)
         exact bodyPost_ret (results_tmp rfl _ _ _) rfl ⟨by rw [← hb]; rfl, rfl⟩)
      | (have e2 := H3.out; have hb : ((nk : Int) == 0 || decide (bl = 0)) = true := by (simp; omega)
         exact bodyPost_ret (results_tmp rfl _ _ _) rfl ⟨by rw [← hb]; rfl, rfl⟩)
set_option maxRecDepth 20000 in
set_option maxHeartbeats 2000000 in
theorem byteH_any (B p n c : Nat) (A : Option Addr) (x : UInt8) (l : List UInt8) (w : World) (hp : Pen w B p A n c (x :: l)) (bl nk : Nat) (nn : Bool) (q t g : Nat) (Ak : Option Addr) (ck : Nat) (hpq : p < q ∧ q < w.heap.size) (hpt : p < t ∧ t < w.heap.size) (hpg : p < g ∧ g < w.heap.size) (hq : w.cell? ⟨q, 0, none⟩ = some (.int .i64 bl)) (ht : w.cell? ⟨t, 0, none⟩ = some (.bool nn)) (hg : w.cell? ⟨g, 14, none⟩ = some (.slice Ak nk ck)) (h1 : x.toNat ≤ bl) (h2 : nn = false → 0 < x.toNat) (h3 : nn = true → nk = 0 ∨ bl ≤ x.toNat) :
    Calls Try.prog 25 #[.pointer (some ⟨p, 0, none⟩), .func (.func 37) #[] #[.pointer (some ⟨q, 0, none⟩), .pointer (some ⟨t, 0, none⟩), .pointer (some ⟨g, 0, none⟩)]] w fun r w' => r = .returned (.int .i64 (x.toNat : Nat)) ∧ Pen w' B p (nxA A c 1) (n - 1) (c - 1) l ∧ But [p] w w' := by
  have hn : 1 ≤ n := by have := hp.len; simp at this; omega
  have htk := take_any B p n c 1 A _ w hp hn
  have hbp := hp.low
  obtain ⟨a, y, rfl, hab, hy, hcl⟩ := hp.rs.at_ (k := 0) (by simp)
  simp at hy
  subst hy
  have hal : a.block < p := Nat.lt_of_lt_of_le hab hbp
  have hpl := hp.blk.lt
  have HBU := Lib.hid (show B ≤ w.heap.size from Nat.le_trans hp.low (Nat.le_of_lt hpl))
  have ea : a.add 0 = a := rfl
  rw [ea] at hcl
  have hcl2 : w.cell? a = some (.int .u8 (x.toNat : Nat)) := hcl
  have hx : ((x.toNat : Nat) : Int) < 256 := by have := x.toNat_lt; omega
  have hxw : IntKind.i64.wrap ((x.toNat : Nat) : Int) = (x.toNat : Nat) := by simp [IntKind.wrap, IntKind.bits, IntKind.signed]; omega
  have HTK := Lib.hid htk; have HCL := Lib.hid hcl2; have HAL := Lib.hid hal; have hih := fun (W : World) hq ht hg => isHeld_any x.toNat bl nk nn q t g Ak ck W hq ht hg h1 h2 h3
  have HIH := Lib.hid hih; have HPQ := Lib.hid hpq; have HPT := Lib.hid hpt; have HPG := Lib.hid hpg; have HQ := Lib.hid hq; have HT := Lib.hid ht; have HG := Lib.hid hg
  clear hih
  clear htk hcl hcl2 hp hab ea hpq hpt hpg hq ht hg h1 h2 h3
  go_enter Try.func25, Try.ntmps25
  go_wp2_with fail
  refine HTK.out.mono ?_
  rintro e1 w1 ⟨rfl, hp1, hb1⟩
  have d1 : w1.cell? ⟨p, 1, none⟩ = some (.int .i64 0) := hp1.blk.cell 1
  have d2 : w1.cell? a = some (.int .u8 (x.toNat : Nat)) := (hb1.cell (a := a) (Nat.lt_trans HAL.out hpl) (by simp; exact Nat.ne_of_lt HAL.out)).trans HCL.out
  have hl1 := hp1.blk.lt
  have HP1 := Lib.hid hp1; have HB1 := Lib.hid hb1
  clear hp1 hb1
  have e1 : w1.cell? ⟨q, 0, none⟩ = some (.int .i64 bl) := (HB1.out.cell (a := ⟨q, 0, none⟩) HPQ.out.2 (by simp; exact Nat.ne_of_gt HPQ.out.1)).trans HQ.out
  have e2 : w1.cell? ⟨t, 0, none⟩ = some (.bool nn) := (HB1.out.cell (a := ⟨t, 0, none⟩) HPT.out.2 (by simp; exact Nat.ne_of_gt HPT.out.1)).trans HT.out
  have e3 : w1.cell? ⟨g, 14, none⟩ = some (.slice Ak nk ck) := (HB1.out.cell (a := ⟨g, 14, none⟩) HPG.out.2 (by simp; exact Nat.ne_of_gt HPG.out.1)).trans HG.out
  have HIH2 := Lib.hid (HIH.out w1 e1 e2 e3)
  clear e1 e2 e3
  go_wp2_with fail
  refine HIH2.out.mono ?_
  rintro e2 w2 ⟨rfl, rfl⟩
  go_wp2_with fail
  exact bodyPost_ret (results_tmp rfl _ _ _) rfl ⟨rfl, HP1.out, HB1.out⟩
set_option maxRecDepth 20000 in
  set_option maxHeartbeats 8000000 in
  theorem tailBigN_any (B p n c : Nat) (A : Option Addr) (last : Bool)  (x key st cnt hd : List UInt8) (h8 : UInt8) (X : Pr) (d0 d1 : Int) (Ax Ak : Option Addr) (cx ck nk : Nat) (w : World)
      (hp : Pen w B p A n c (st ++ (cnt ++ (h8 :: hd)))) (hst : st.length = 64) (hcn : cnt.length = 16) (hlo : word (cnt.take 8) = 0) (hhi : word ((cnt.drop 8).take 8) = 0) (hh8 : h8.toNat = hd.length) (hhl : hd.length ≤ 128) (hxl : x.length = 64) (hrx : RS cB w B Ax x) (hkl : key.length = nk) (hkm : nk ≤ 64) (hrk : RS cB w B Ak key) (h0 : st = (startOf true x).stateL) (h00 : key ≠ [] → hd = padTo key 128) :
      Calls Try.prog 19 #[.pointer (some ⟨p, 0, none⟩), .agg (svV 1 last ⟨Ax, 64, cx⟩ d0 d1 X ⟨Ak, nk, ck⟩ Sl.nil 0 0 Sl.nil)] w fun r w' => ∃ (As Ah : Option Addr) (cs ch : Nat) (A' : Option Addr) (c' : Nat),
        r = .returned (.agg (svV 1 last ⟨Ax, 64, cx⟩ d0 d1 X ⟨Ak, nk, ck⟩ ⟨As, 64, cs⟩ 0 0 ⟨Ah, hd.length, ch⟩)) ∧ RS cB w' B As st ∧ RS cB w' B Ah hd ∧ Pen w' B p A' 0 c' [] ∧ But [p] w w' := by
    have hbo := fun W => show Calls Try.prog 35 #[.int .i64 1] W fun e w' => e = .returned (.int .i64 128) ∧ W = w' from blockOf_any true W
    have HBO := Lib.hid hbo; have HP := Lib.hid hp; have HST := Lib.hid hst; have HCN := Lib.hid hcn; have HLO := Lib.hid hlo; have HH8 := Lib.hid hh8; have HHL := Lib.hid hhl; have HXL := Lib.hid hxl; have HRX := Lib.hid hrx; have HKL := Lib.hid hkl; have HKM := Lib.hid hkm; have HRK := Lib.hid hrk
    have H0 := Lib.hid h0; have H00 := Lib.hid h00; clear h0 h00
    have hpl := hp.blk.lt
    have HBU := Lib.hid (show B ≤ w.heap.size from Nat.le_trans hp.low (Nat.le_of_lt hpl))
    have HHI := Lib.hid hhi; clear hhi
    clear hbo hp hst hcn hlo hh8 hhl hxl hrx hkl hkm hrk
    obtain ⟨V0, hV0⟩ : ∃ V0, V0 = svV 1 last ⟨Ax, 64, cx⟩ d0 d1 X ⟨Ak, nk, ck⟩ Sl.nil 0 0 Sl.nil := ⟨_, rfl⟩
    have hV1 : (#[.int .i64 1, .bool last, .slice Ax 64 cx, .int .i64 d0, .int .i64 d1, .int .i64 X.fanout, .int .i64 X.depth, .int .u32 X.leaf, .int .u64 X.offset, .int .u32 X.xof, .int .i64 X.nd, .int .i64 X.inner, .slice X.salt.A X.salt.n X.salt.c, .slice X.pers.A X.pers.n X.pers.c, .slice Ak nk ck, .slice none 0 0, .int .u64 0, .int .u64 0, .slice none 0 0] : Array Value) = V0 := hV0.symm
    show Calls _ _ #[.pointer (some ⟨p, 0, none⟩), .agg #[.int .i64 1, .bool last, .slice Ax 64 cx, .int .i64 d0, .int .i64 d1, .int .i64 X.fanout, .int .i64 X.depth, .int .u32 X.leaf, .int .u64 X.offset, .int .u32 X.xof, .int .i64 X.nd, .int .i64 X.inner, .slice X.salt.A X.salt.n X.salt.c, .slice X.pers.A X.pers.n X.pers.c, .slice Ak nk ck, .slice none 0 0, .int .u64 0, .int .u64 0, .slice none 0 0]] w _
    have HV0 := Lib.hid hV0; have HV1 := Lib.hid hV1
    clear hV0 hV1
    go_enter Try.func19, Try.ntmps19
    have hsz1 : (w.alloc (.cells V0 58)).heap.size = w.heap.size + 1 := by simp
    have hR := Blk.new (w.alloc (.cells V0 58)) 58 sv0
    rw [hsz1] at hR
    have HR := Lib.hid hR
    have HS := Lib.hid ((Blk.new w 58 V0).alloc (.cells sv0 58))
    have hb9 := bal (bal (b0 w) (.cells V0 58)) (.cells sv0 58)
    have HB := Lib.hid (But.of hb9 [p])
    replace HP := Lib.hid (HP.out.below hb9 hpl)
    clear hb9 hR hsz1
    go_upto_region 1 with fail
    simp only [sv0_eq, HV1.out]
    generalize (w.alloc (.cells V0 58)).alloc (.cells sv0 58) = u at *
    obtain ⟨g, hg⟩ : ∃ g, g = w.heap.size := ⟨_, rfl⟩
    obtain ⟨r, hr⟩ : ∃ r, r = g + 1 := ⟨_, rfl⟩
    rw [← hg] at HS HR ⊢
    rw [← hr] at HR ⊢
    have HPG := Lib.hid (show p < g by omega)
    have HPR := Lib.hid (show p < r by omega)
    have HRG := Lib.hid (show g < r by omega)
    have HGW := Lib.hid (show w.heap.size ≤ g by omega)
    have HRW := Lib.hid (show w.heap.size ≤ r by omega)
    have HBW := Lib.hid (show B ≤ p from HP.out.low)
    clear hg hr hpl
    rw [HV0.out] at HS
    clear HV0 HV1
    have y0 : u.cell? ⟨g, 0, none⟩ = some (.int .i64 1) := HS.out.cell 0
    have yg := HS.out.lt
    go_upto_region 2 with (go_at_call 35; refine (HBO.out _).mono ?_; rintro e1 u ⟨rfl, rfl⟩)
    clear y0 yg
    obtain ⟨q, hq⟩ : ∃ q, q = u.heap.size := ⟨_, rfl⟩
    have HQ := Lib.hid (show Blk _ q 3 #[.int .i64 128] from hq ▸ Blk.new u 3 #[.int .i64 128])
    have hb1 := bal (b0 u) (.cells #[.int .i64 128] 3)
    have HPQ := Lib.hid (show p < q by rw [hq]; exact HP.out.blk.lt)
    have HGQ := Lib.hid (show g < q by rw [hq]; exact HS.out.lt)
    have HQW := Lib.hid (show w.heap.size ≤ q by rw [hq]; exact HB.out.size)
    replace HS := Lib.hid (HS.out.below hb1 HS.out.lt); replace HR := Lib.hid (HR.out.below hb1 HR.out.lt); replace HP := Lib.hid (HP.out.below hb1 HP.out.blk.lt); replace HB := Lib.hid (HB.out.below hb1); clear hb1
    rw [← hq]
    clear hq
    generalize u.alloc (.cells #[.int .i64 128] 3) = u at *
    obtain ⟨A1, n1, c1, HP1⟩ : ∃ A1 n1 c1, Hid (Pen u B p A1 n1 c1 (st ++ (cnt ++ (h8 :: hd)))) := ⟨_, _, _, HP⟩
    clear HP
    have hbn : 64 ≤ n1 := by have h := HP1.out.len; rw [List.length_append, HST.out] at h; omega
    have htk := take_any B p n1 c1 64 A1 _ u HP1.out hbn
    have HRS := Lib.hid (show RS cB u B A1 st by have h := HP1.out.rs.take 64; rwa [List.take_left' HST.out] at h)
    rw [List.drop_left' HST.out] at htk
    have HTK := Lib.hid (show Calls Try.prog 32 #[.pointer (some ⟨p, 0, none⟩), .int .i64 64] u _ from htk)
    have y3 : u.cell? ⟨q, 0, none⟩ = some (.int .i64 128) := HQ.out.cell 0
    have y4 := HQ.out.lt
    have y5 := HS.out.lt
    have y6 := HS.out.frozen
    clear htk hbn HP1
    go_upto_region 3 with (go_at_call 32; refine HTK.out.mono ?_; rintro e1 u ⟨rfl, hp1, hb1⟩; replace HRS := Lib.hid (HRS.out.below (hb1.toBelow (Nat.le_trans HBW.out (Nat.le_of_lt (Nat.lt_trans HPG.out HS.out.lt))) (fun k hk => by simp at hk; rw [hk]; exact HBW.out))); clear y3 y4 y5 y6; replace HS := Lib.hid (HS.out.but hb1 (by simp; exact Nat.ne_of_gt HPG.out)); replace HR := Lib.hid (HR.out.but hb1 (by simp; exact Nat.ne_of_gt HPR.out)); replace HQ := Lib.hid (HQ.out.but hb1 (by simp; exact Nat.ne_of_gt HPQ.out)); replace HB := Lib.hid (HB.out.trans hb1 (fun k hk => .inl hk)); have HP := Lib.hid hp1; clear hp1 hb1; have z15 : u.cell? ⟨g, 15, none⟩ = some (.slice none 0 0) := HS.out.cell 15; have y5 := HS.out.lt; have y6 := HS.out.frozen)
    clear z15
    replace HRS := Lib.hid (HRS.out.setCell (p := ⟨g, 15, none⟩) (Nat.le_trans HBW.out (Nat.le_of_lt HPG.out)) (.slice A1 64 c1))
    replace HS := Lib.hid (show Blk _ g 58 (svV 1 last ⟨Ax, 64, cx⟩ d0 d1 X ⟨Ak, nk, ck⟩ ⟨A1, 64, c1⟩ 0 0 Sl.nil) from HS.out.set_ 15 (.slice A1 64 c1))
    replace HR := Lib.hid (HR.out.far (p := ⟨g, 15, none⟩) (Nat.ne_of_gt HRG.out) (.slice A1 64 c1))
    replace HQ := Lib.hid (HQ.out.far (p := ⟨g, 15, none⟩) (Nat.ne_of_gt HGQ.out) (.slice A1 64 c1))
    replace HP := Lib.hid (HP.out.but ((But.refl [g] u).setCell (p := ⟨g, 15, none⟩) (.inl (by simp)) (.slice A1 64 c1)) (fun k hk => by simp at hk; rw [hk]; exact HPG.out))
    replace HB := Lib.hid (HB.out.setCell (p := ⟨g, 15, none⟩) (.inr HGW.out) (.slice A1 64 c1))
    generalize u.setCell ⟨g, 15, none⟩ (.slice A1 64 c1) = u at *
    clear y5 y6
    obtain ⟨A2, n2, c2, HP2⟩ : ∃ A2 n2 c2, Hid (Pen u B p A2 n2 c2 (cnt ++ (h8 :: hd))) := ⟨_, _, _, HP⟩
    clear HP
    have hbn : 16 ≤ n2 := by have h := HP2.out.len; rw [List.length_append, HCN.out] at h; omega
    have htk := take_any B p n2 c2 16 A2 _ u HP2.out hbn
    have HRC := Lib.hid (show RS cB u B A2 cnt by have h := HP2.out.rs.take 16; rwa [List.take_left' HCN.out] at h)
    rw [List.drop_left' HCN.out] at htk
    have HTK2 := Lib.hid (show Calls Try.prog 32 #[.pointer (some ⟨p, 0, none⟩), .int .i64 16] u _ from htk)
    have y3 : u.cell? ⟨q, 0, none⟩ = some (.int .i64 128) := HQ.out.cell 0
    have y4 := HQ.out.lt
    clear htk hbn HP2 HTK
    go_upto_region 6 with (go_at_call 32; refine HTK2.out.mono ?_; rintro e1 u ⟨rfl, hp1, hb1⟩; replace HRS := Lib.hid (HRS.out.below (hb1.toBelow (Nat.le_trans HBW.out (Nat.le_of_lt (Nat.lt_trans HPG.out HS.out.lt))) (fun k hk => by simp at hk; rw [hk]; exact HBW.out))); replace HRC := Lib.hid (HRC.out.below (hb1.toBelow (Nat.le_trans HBW.out (Nat.le_of_lt (Nat.lt_trans HPG.out HS.out.lt))) (fun k hk => by simp at hk; rw [hk]; exact HBW.out))); clear y3 y4; replace HS := Lib.hid (HS.out.but hb1 (by simp; exact Nat.ne_of_gt HPG.out)); replace HR := Lib.hid (HR.out.but hb1 (by simp; exact Nat.ne_of_gt HPR.out)); replace HQ := Lib.hid (HQ.out.but hb1 (by simp; exact Nat.ne_of_gt HPQ.out)); replace HB := Lib.hid (HB.out.trans hb1 (fun k hk => .inl hk)); have HP := Lib.hid hp1; clear hp1 hb1; have y5 := HS.out.lt; have y6 := HS.out.frozen; have y7 : u.cell? ⟨p, 1, none⟩ = some (.int .i64 0) := HP.out.blk.cell 1; have y8 := HP.out.blk.lt)
    clear y7 y8 HTK2
    have hl0 := load64_any A2 c2 16 0 B cnt u HCN.out (by decide) HRC.out (by decide)
    rw [List.drop_zero, HLO.out] at hl0
    rw [show wrd (0 : UInt64) = 0 from rfl] at hl0
    have HL0 := Lib.hid (show Calls Try.prog 36 #[.slice A2 16 c2, .int .i64 0] u _ from hl0)
    clear hl0
    have z16 : u.cell? ⟨g, 16, none⟩ = some (.int .u64 0) := HS.out.cell 16
    have z17 : u.cell? ⟨g, 17, none⟩ = some (.int .u64 0) := HS.out.cell 17
    go_upto_region 7 with (go_at_call 36; refine HL0.out.mono ?_; rintro e1 w1 ⟨rfl, rfl⟩)
    clear z16 z17 HL0 y5 y6
    replace HRS := Lib.hid (HRS.out.setCell (p := ⟨g, 16, none⟩) (Nat.le_trans HBW.out (Nat.le_of_lt HPG.out)) (.int .u64 0))
    replace HRC := Lib.hid (HRC.out.setCell (p := ⟨g, 16, none⟩) (Nat.le_trans HBW.out (Nat.le_of_lt HPG.out)) (.int .u64 0))
    replace HS := Lib.hid (show Blk _ g 58 (svV 1 last ⟨Ax, 64, cx⟩ d0 d1 X ⟨Ak, nk, ck⟩ ⟨A1, 64, c1⟩ 0 0 Sl.nil) from HS.out.set_ 16 (.int .u64 0))
    replace HR := Lib.hid (HR.out.far (p := ⟨g, 16, none⟩) (Nat.ne_of_gt HRG.out) (.int .u64 0))
    replace HQ := Lib.hid (HQ.out.far (p := ⟨g, 16, none⟩) (Nat.ne_of_gt HGQ.out) (.int .u64 0))
    replace HP := Lib.hid (HP.out.but ((But.refl [g] u).setCell (p := ⟨g, 16, none⟩) (.inl (by simp)) (.int .u64 0)) (fun k hk => by simp at hk; rw [hk]; exact HPG.out))
    replace HB := Lib.hid (HB.out.setCell (p := ⟨g, 16, none⟩) (.inr HGW.out) (.int .u64 0))
    generalize u.setCell ⟨g, 16, none⟩ (.int .u64 0) = u at *
    have y5 := HS.out.lt
    have y6 := HS.out.frozen
    skip
    have hl8 := load64_any A2 c2 16 8 B cnt u HCN.out (by decide) HRC.out (by decide)
    rw [HHI.out, show wrd (0 : UInt64) = 0 from rfl] at hl8
    have HL8 := Lib.hid (show Calls Try.prog 36 #[.slice A2 16 c2, .int .i64 8] u _ from hl8)
    clear hl8
    have z0 : u.cell? ⟨g, 0, none⟩ = some (.int .i64 1) := HS.out.cell 0
    have z16 : u.cell? ⟨g, 16, none⟩ = some (.int .u64 0) := HS.out.cell 16
    have z17 : u.cell? ⟨g, 17, none⟩ = some (.int .u64 0) := HS.out.cell 17
    go_upto_region 10 with (go_at_call 36; refine HL8.out.mono ?_; rintro e1 w1 ⟨rfl, rfl⟩)
    clear z0 z16 z17 y5 y6 HL8
    rw [show u.heap.size = (u.setCell ⟨g, 17, none⟩ (.int .u64 0)).heap.size by simp]
    replace HRS := Lib.hid (HRS.out.setCell (p := ⟨g, 17, none⟩) (Nat.le_trans HBW.out (Nat.le_of_lt HPG.out)) (.int .u64 0))
    replace HRC := Lib.hid (HRC.out.setCell (p := ⟨g, 17, none⟩) (Nat.le_trans HBW.out (Nat.le_of_lt HPG.out)) (.int .u64 0))
    replace HS := Lib.hid (show Blk _ g 58 (svV 1 last ⟨Ax, 64, cx⟩ d0 d1 X ⟨Ak, nk, ck⟩ ⟨A1, 64, c1⟩ 0 0 Sl.nil) from HS.out.set_ 17 (.int .u64 0))
    replace HR := Lib.hid (HR.out.far (p := ⟨g, 17, none⟩) (Nat.ne_of_gt HRG.out) (.int .u64 0))
    replace HQ := Lib.hid (HQ.out.far (p := ⟨g, 17, none⟩) (Nat.ne_of_gt HGQ.out) (.int .u64 0))
    replace HP := Lib.hid (HP.out.but ((But.refl [g] u).setCell (p := ⟨g, 17, none⟩) (.inl (by simp)) (.int .u64 0)) (fun k hk => by simp at hk; rw [hk]; exact HPG.out))
    replace HB := Lib.hid (HB.out.setCell (p := ⟨g, 17, none⟩) (.inr HGW.out) (.int .u64 0))
    generalize u.setCell ⟨g, 17, none⟩ (.int .u64 0) = u at *
    skip
    obtain ⟨t, ht⟩ : ∃ t, t = u.heap.size := ⟨_, rfl⟩
    have HT := Lib.hid (show Blk _ t 4 #[.bool true] from ht ▸ Blk.new u 4 #[.bool true])
    have hb1 := bal (b0 u) (.cells #[.bool true] 4)
    have HPT := Lib.hid (show p < t by rw [ht]; exact HP.out.blk.lt)
    have HGT := Lib.hid (show g < t by rw [ht]; exact HS.out.lt)
    have HTW := Lib.hid (show w.heap.size ≤ t by rw [ht]; exact HB.out.size)
    replace HRS := Lib.hid (HRS.out.below (hb1.mono (Nat.le_trans HBW.out (Nat.le_of_lt HP.out.blk.lt))))
    replace HQ := Lib.hid (HQ.out.below hb1 HQ.out.lt)
    replace HS := Lib.hid (HS.out.below hb1 HS.out.lt); replace HR := Lib.hid (HR.out.below hb1 HR.out.lt); replace HP := Lib.hid (HP.out.below hb1 HP.out.blk.lt); replace HB := Lib.hid (HB.out.below hb1); clear hb1
    rw [← ht]
    clear ht HRC
    generalize u.alloc (.cells #[.bool true] 4) = u at *
    have y7 : u.cell? ⟨p, 1, none⟩ = some (.int .i64 0) := HP.out.blk.cell 1
    have y8 := HP.out.blk.lt
    have z16 : u.cell? ⟨g, 16, none⟩ = some (.int .u64 0) := HS.out.cell 16
    have y3 : u.cell? ⟨q, 0, none⟩ = some (.int .i64 128) := HQ.out.cell 0
    have y4 := HQ.out.lt
    have y5 := HS.out.lt
    skip
    go_upto_region 11 with (go_at_call 34; refine (must_any p _ _ HP.out.blk).mono ?_; rintro e1 w1 ⟨rfl, rfl⟩)
    clear z16 y7 y8 y3 y4 y5
    obtain ⟨A3, n3, c3, HP3⟩ : ∃ A3 n3 c3, Hid (Pen u B p A3 n3 c3 (h8 :: hd)) := ⟨_, _, _, HP⟩
    clear HP
    have hbh := byteH_any B p n3 c3 A3 h8 hd u HP3.out 128 nk true q t g Ak ck ⟨HPQ.out, HQ.out.lt⟩ ⟨HPT.out, HT.out.lt⟩ ⟨HPG.out, HS.out.lt⟩ (HQ.out.cell 0) (HT.out.cell 0) (HS.out.cell 14) (by rw [HH8.out]; exact HHL.out) (fun h => by cases h) (fun _ => by
        by_cases hk0 : key = []
        · exact .inl (by rw [← HKL.out, hk0]; rfl)
        · refine .inr ?_
          have e := congrArg List.length (H00.out hk0)
          rw [padTo_len _ _ (by have := HKL.out; have := HKM.out; omega)] at e
          rw [HH8.out, e]
          exact Nat.le_refl _)
    obtain ⟨nh, hnh⟩ : ∃ nh, nh = hd.length := ⟨_, rfl⟩
    rw [HH8.out, ← hnh] at hbh
    have HBH := Lib.hid hbh
    have HNH := Lib.hid hnh
    clear hbh hnh HP3
    have y9 := HT.out.lt
    have y10 := HQ.out.lt
    have y5 := HS.out.lt
    go_upto_region 12 with (go_at_call 25; refine HBH.out.mono ?_; rintro e1 u ⟨rfl, hp1, hb1⟩; replace HRS := Lib.hid (HRS.out.below (hb1.toBelow (Nat.le_trans HBW.out (Nat.le_of_lt (Nat.lt_trans HPG.out HS.out.lt))) (fun k hk => by simp at hk; rw [hk]; exact HBW.out))); clear y9 y10 y5; replace HT := Lib.hid (HT.out.but hb1 (by simp; exact Nat.ne_of_gt HPT.out)); replace HS := Lib.hid (HS.out.but hb1 (by simp; exact Nat.ne_of_gt HPG.out)); replace HR := Lib.hid (HR.out.but hb1 (by simp; exact Nat.ne_of_gt HPR.out)); replace HQ := Lib.hid (HQ.out.but hb1 (by simp; exact Nat.ne_of_gt HPQ.out)); replace HB := Lib.hid (HB.out.trans hb1 (fun k hk => .inl hk)); have HP := Lib.hid hp1; clear hp1 hb1)
    clear HBH
    obtain ⟨A4, n4, c4, HP4⟩ : ∃ A4 n4 c4, Hid (Pen u B p A4 n4 c4 hd) := ⟨_, _, _, HP⟩
    clear HP
    have hnn : nh = n4 := HNH.out.trans HP4.out.len
    have htk := take_any B p n4 c4 nh A4 _ u HP4.out (by omega)
    have HRH := Lib.hid (show RS cB u B A4 hd from HP4.out.rs)
    rw [← hnn, Nat.sub_self, List.drop_eq_nil_of_le (by rw [HNH.out]; exact Nat.le_refl _)] at htk
    have HTK := Lib.hid htk
    have HC4 := Lib.hid (show nh ≤ c4 by have := HP4.out.cap; omega)
    clear htk hnn HP4
    have y5 := HS.out.lt
    have y6 := HS.out.frozen
    go_upto_region 13 with (go_at_call 32; refine HTK.out.mono ?_; rintro e1 u ⟨rfl, hp1, hb1⟩; replace HRS := Lib.hid (HRS.out.below (hb1.toBelow (Nat.le_trans HBW.out (Nat.le_of_lt (Nat.lt_trans HPG.out HS.out.lt))) (fun k hk => by simp at hk; rw [hk]; exact HBW.out))); replace HRH := Lib.hid (HRH.out.below (hb1.toBelow (Nat.le_trans HBW.out (Nat.le_of_lt (Nat.lt_trans HPG.out HS.out.lt))) (fun k hk => by simp at hk; rw [hk]; exact HBW.out))); clear y5 y6; replace HT := Lib.hid (HT.out.but hb1 (by simp; exact Nat.ne_of_gt HPT.out)); replace HS := Lib.hid (HS.out.but hb1 (by simp; exact Nat.ne_of_gt HPG.out)); replace HR := Lib.hid (HR.out.but hb1 (by simp; exact Nat.ne_of_gt HPR.out)); replace HQ := Lib.hid (HQ.out.but hb1 (by simp; exact Nat.ne_of_gt HPQ.out)); replace HB := Lib.hid (HB.out.trans hb1 (fun k hk => .inl hk)); have HP := Lib.hid hp1; clear hp1 hb1; have z18 : u.cell? ⟨g, 18, none⟩ = some (.slice none 0 0) := HS.out.cell 18; have y5 := HS.out.lt; have y6 := HS.out.frozen)
    clear z18 y5 y6 HTK
    replace HRS := Lib.hid (HRS.out.setCell (p := ⟨g, 18, none⟩) (Nat.le_trans HBW.out (Nat.le_of_lt HPG.out)) (.slice A4 nh c4))
    replace HRH := Lib.hid (HRH.out.setCell (p := ⟨g, 18, none⟩) (Nat.le_trans HBW.out (Nat.le_of_lt HPG.out)) (.slice A4 nh c4))
    replace HT := Lib.hid (HT.out.far (p := ⟨g, 18, none⟩) (Nat.ne_of_gt HGT.out) (.slice A4 nh c4))
    replace HS := Lib.hid (show Blk _ g 58 (svV 1 last ⟨Ax, 64, cx⟩ d0 d1 X ⟨Ak, nk, ck⟩ ⟨A1, 64, c1⟩ 0 0 ⟨A4, nh, c4⟩) from HS.out.set_ 18 (.slice A4 nh c4))
    replace HR := Lib.hid (HR.out.far (p := ⟨g, 18, none⟩) (Nat.ne_of_gt HRG.out) (.slice A4 nh c4))
    replace HQ := Lib.hid (HQ.out.far (p := ⟨g, 18, none⟩) (Nat.ne_of_gt HGQ.out) (.slice A4 nh c4))
    replace HP := Lib.hid (HP.out.but ((But.refl [g] u).setCell (p := ⟨g, 18, none⟩) (.inl (by simp)) (.slice A4 nh c4)) (fun k hk => by simp at hk; rw [hk]; exact HPG.out))
    replace HB := Lib.hid (HB.out.setCell (p := ⟨g, 18, none⟩) (.inr HGW.out) (.slice A4 nh c4))
    generalize u.setCell ⟨g, 18, none⟩ (.slice A4 nh c4) = u at *
    obtain ⟨e0, he0⟩ : ∃ e0, e0 = startOf true x := ⟨_, rfl⟩
    have hbu : Below B w u := HB.out.toBelow HBU.out (fun k hk => by simp at hk; rw [hk]; exact HBW.out)
    have hbg := begun_any true Ax cx B 64 x u rfl HXL.out (Nat.le_trans HBU.out hbu.size) (HRX.out.below hbu)
    have hfl : e0.full = 64 := by rw [he0]; rfl
    have hH0 := H0.out
    rw [← he0] at hbg hH0
    have HBG := Lib.hid (show Calls Try.prog 38 #[.int .i64 1, .slice Ax 64 cx] u _ from hbg)
    have HFL := Lib.hid hfl; have HH0 := Lib.hid hH0
    have hmW : ∀ (g k : Nat) (w : World), 0 < k → Sem.run Try.prog (method k e0.T (.pointer (some ⟨g, 0, none⟩)) "quern/node.state") w = .ok (e0.fs, .pointer (some ⟨g, 0, none⟩)) w := fun g k w hk => e0.run_state g k hk w
    have heL : ∀ args w, (callFunc e0.fs args).run Try.prog w = .ok (.enter e0.fs args) w := fun args w => e0.enters_s args w
    clear hbg hbu hfl he0 hH0 H0
    have y7 : u.cell? ⟨p, 1, none⟩ = some (.int .i64 0) := HP.out.blk.cell 1
    have y8 := HP.out.blk.lt
    have y9 := HT.out.lt
    have z9 : u.cell? ⟨t, 0, none⟩ = some (.bool true) := HT.out.cell 0
    have y0 : u.cell? ⟨g, 0, none⟩ = some (.int .i64 1) := HS.out.cell 0
    have y2 : u.cell? ⟨g, 2, none⟩ = some (.slice Ax 64 cx) := HS.out.cell 2
    have y5 := HS.out.lt
    go_upto_region 15 with (go_at_call 38; refine HBG.out.mono ?_; rintro e1 u ⟨g1, rfl, hg1, hin1, hb1⟩; clear y7 y8 y9 z9 y0 y2 y5; replace HT := Lib.hid (HT.out.below hb1 HT.out.lt); replace HQ := Lib.hid (HQ.out.below hb1 HQ.out.lt); replace HRS := Lib.hid (HRS.out.below (hb1.mono (Nat.le_trans HBW.out (Nat.le_of_lt HP.out.blk.lt)))); replace HRH := Lib.hid (HRH.out.below (hb1.mono (Nat.le_trans HBW.out (Nat.le_of_lt HP.out.blk.lt)))); replace HS := Lib.hid (HS.out.below hb1 HS.out.lt); replace HR := Lib.hid (HR.out.below hb1 HR.out.lt); replace HP := Lib.hid (HP.out.below hb1 HP.out.blk.lt); replace HB := Lib.hid (HB.out.below hb1); clear hb1)
    have hst1 := eng_state e0 g1 _ none 0 u hin1
    refine hst1.mono ?_
    clear hst1 hin1 hg1 HBG
    rintro e1 u ⟨A5, c5, A6, c6, rfl, ho5, ho6, hb1⟩
    have HO5 := Lib.hid ho5.reads
    replace HT := Lib.hid (HT.out.below hb1 HT.out.lt); replace HQ := Lib.hid (HQ.out.below hb1 HQ.out.lt); replace HRS := Lib.hid (HRS.out.below (hb1.mono (Nat.le_trans HBW.out (Nat.le_of_lt HP.out.blk.lt)))); replace HRH := Lib.hid (HRH.out.below (hb1.mono (Nat.le_trans HBW.out (Nat.le_of_lt HP.out.blk.lt)))); replace HS := Lib.hid (HS.out.below hb1 HS.out.lt); replace HR := Lib.hid (HR.out.below hb1 HR.out.lt); replace HP := Lib.hid (HP.out.below hb1 HP.out.blk.lt); replace HB := Lib.hid (HB.out.below hb1); clear hb1
    clear ho5 ho6
    go_upto_region 15 with fail
    clear hmW heL
    have hb1 := bal (b0 u) (.cells #[.int .u64 (wrd e0.lo), .int .u64 (wrd e0.hi)] 56)
    replace HO5 := Lib.hid ((HO5.out.below hb1).more hb1.size)
    replace HT := Lib.hid (HT.out.below hb1 HT.out.lt); replace HQ := Lib.hid (HQ.out.below hb1 HQ.out.lt); replace HRS := Lib.hid (HRS.out.below (hb1.mono (Nat.le_trans HBW.out (Nat.le_of_lt HP.out.blk.lt)))); replace HRH := Lib.hid (HRH.out.below (hb1.mono (Nat.le_trans HBW.out (Nat.le_of_lt HP.out.blk.lt)))); replace HS := Lib.hid (HS.out.below hb1 HS.out.lt); replace HR := Lib.hid (HR.out.below hb1 HR.out.lt); replace HP := Lib.hid (HP.out.below hb1 HP.out.blk.lt); replace HB := Lib.hid (HB.out.below hb1); clear hb1
    generalize u.alloc (.cells #[.int .u64 (wrd e0.lo), .int .u64 (wrd e0.hi)] 56) = u at *
    have y7 : u.cell? ⟨p, 1, none⟩ = some (.int .i64 0) := HP.out.blk.cell 1
    have y8 := HP.out.blk.lt
    have y9 := HT.out.lt
    have z9 : u.cell? ⟨t, 0, none⟩ = some (.bool true) := HT.out.cell 0
    have y15 : u.cell? ⟨g, 15, none⟩ = some (.slice A1 64 c1) := HS.out.cell 15
    have y14 : u.cell? ⟨g, 14, none⟩ = some (.slice Ak nk ck) := HS.out.cell 14
    have y5 := HS.out.lt
    rcases Nat.eq_zero_or_pos nk with hk0 | hk0
    · have HK0 := Lib.hid hk0
      have hk1 : ¬ (0 < nk) := by omega
      clear hk0
      go_upto_region 18 with (first
        | (go_at_call 39; refine (samew_any A5 A1 _ c5 _ c1 e0.stateL st u (by rw [← HH0.out, HST.out, HFL.out]) HST.out HO5.out (HRS.out.more (Nat.le_trans HBW.out (Nat.le_of_lt HP.out.blk.lt))) HH0.out.symm).mono ?_; rintro e1 w1 ⟨rfl, rfl⟩)
        | (go_at_call 34; refine (must_any p _ _ HP.out.blk).mono ?_; rintro e1 w1 ⟨rfl, rfl⟩))
      clear y7 y8 y9 z9 y15 y14 y5
      have hu2 := Lib.hid Try.underlying58
      have hsz2 := Lib.hid (svV_size 1 last ⟨Ax, 64, cx⟩ d0 d1 X ⟨Ak, nk, ck⟩ ⟨A1, 64, c1⟩ 0 0 ⟨A4, nh, c4⟩)
      have hon2 := Lib.hid (svV_ones 1 last ⟨Ax, 64, cx⟩ d0 d1 X ⟨Ak, nk, ck⟩ ⟨A1, 64, c1⟩ 0 0 ⟨A4, nh, c4⟩)
      obtain ⟨SV, hSV⟩ : ∃ SV, SV = svV 1 last ⟨Ax, 64, cx⟩ d0 d1 X ⟨Ak, nk, ck⟩ ⟨A1, 64, c1⟩ 0 0 ⟨A4, nh, c4⟩ := ⟨_, rfl⟩
      rw [← hSV] at HS hsz2 hon2
      have hss := Lib.hid (show sv0.size = SV.size by rw [hSV]; rfl)
      have HSV := Lib.hid hSV
      clear hSV
      have y7 : u.cell? ⟨p, 1, none⟩ = some (.int .i64 0) := HP.out.blk.cell 1
      have y8 := HP.out.blk.lt
      have y9 := HT.out.lt
      have z9 : u.cell? ⟨t, 0, none⟩ = some (.bool true) := HT.out.cell 0
      go_wp2_with (first
        | (refine wpList_load_row rfl 58 _ rfl g rfl 58 SV (0, 0) _ HS.out hu2.out rfl hsz2.out ?_)
        | (refine wpList_store_row rfl 58 _ _ rfl r SV rfl rfl 58 sv0 HR.out hsz2.out hss.out hon2.out ?_))
      have hb9 : Below r u (u.setRow r SV) := below_row (Below.refl _ _) (Nat.le_refl _) _
      have hbb : Below B u (u.setRow r SV) := hb9.mono (Nat.le_trans HBW.out (Nat.le_of_lt HPR.out))
      refine bodyPost_ret (results_cell_row rfl _ _ r _ _ (0, 0) _ rfl (HR.out.row SV) hu2.out rfl hsz2.out) rfl ?_
      refine ⟨A1, A4, c1, c4, _, _, ?_, HRS.out.below hbb, HRH.out.below hbb, HP.out.below hb9 HPR.out, HB.out.lowB (hb9.mono HRW.out)⟩
      rw [HSV.out, ← HNH.out]
    · have hk1 : (nk : Int) > 0 := by omega
      go_upto_region 17 with (first
        | (go_at_call 39; refine (samew_any A5 A1 _ c5 _ c1 e0.stateL st u (by rw [← HH0.out, HST.out, HFL.out]) HST.out HO5.out (HRS.out.more (Nat.le_trans HBW.out (Nat.le_of_lt HP.out.blk.lt))) HH0.out.symm).mono ?_; rintro e1 w1 ⟨rfl, rfl⟩)
        | (go_at_call 34; refine (must_any p _ _ HP.out.blk).mono ?_; rintro e1 w1 ⟨rfl, rfl⟩))
      clear y7 y8 y9 z9 y15 y14 y5 hk1
      have hkne : key ≠ [] := by intro e; have h := HKL.out; rw [e] at h; simp at h; omega
      have hhd := H00.out hkne
      have hkle : key.length ≤ 128 := by have := HKL.out; have := HKM.out; omega
      have hnb : nh = 128 := by rw [HNH.out, hhd, padTo_len _ _ hkle]
      have HHD := Lib.hid hhd; have HKLE := Lib.hid hkle; have HNB := Lib.hid hnb
      have hsl : (128 : Int) ≤ (c4 : Int) := by have := HC4.out; omega
      have hu0 : Below B w u := HB.out.toBelow HBU.out (fun k hk => by simp at hk; rw [hk]; exact HBW.out)
      have HRKU := Lib.hid ((HRK.out.below hu0).more (Nat.le_trans HBW.out (Nat.le_of_lt HP.out.blk.lt)))
      clear hkne hhd hkle hnb hu0 hk0
      have y18 : u.cell? ⟨g, 18, none⟩ = some (.slice A4 nh c4) := HS.out.cell 18
      have y14 : u.cell? ⟨g, 14, none⟩ = some (.slice Ak nk ck) := HS.out.cell 14
      have y3 : u.cell? ⟨q, 0, none⟩ = some (.int .i64 128) := HQ.out.cell 0
      have y5 := HS.out.lt
      have y10 := HQ.out.lt
      refine wp_region_B (Ords.of [(0, 0), (0, 1), (0, 2), (0, 3), (0, 4), (0, 5), (0, 6), (0, 7), (2, 8), (2, 9), (2, 10)] .fin) (by kernel_rfl) rfl (by kernel_rfl) (by kernel_rfl) (fun c a d v w h => by cases d <;> exact h) ?_
      iterate 2 (refine ords_pure rfl (fun K hK => ?_); go_simp; refine hK _ ?_; clear hK K; refine ords_pure rfl (fun K hK => ?_); go_simp; refine hK _ ?_; clear hK K; refine ords_heldK rfl (fun K K2 hK hK2 => ?_); go_simp; refine ⟨hK2 _ (fun w9 hS => ?_), hK _ ?_⟩; (clear hK hK2 K K2; (first | refine withN hS ?_ | refine withD hS ?_ | refine with0 hS ?_); intro hcS hfS; go_simp); (clear hK hK2 K K2); refine ords_heldK rfl (fun K K2 hK hK2 => ?_); go_simp; refine ⟨hK2 _ (fun w9 hS => ?_), hK _ ?_⟩; (clear hK hK2 K K2; (first | refine withN hS ?_ | refine withD hS ?_ | refine with0 hS ?_); intro hcS hfS; go_simp); (clear hK hK2 K K2))
      refine ords_loud rfl (fun n1 => ?_)
      go_wp2_with (go_at_call 40; refine (padded_any Ak ck 128 nk key _ HKL.out (by have := HKLE.out; have := HKL.out; omega) (by decide) (HRKU.out.drewN _)).mono ?_; rintro e1 w1 ⟨A7, c7, rfl, ho7, hb7⟩; have HO7 := Lib.hid ho7.reads; have HB7 := Lib.hid (bcall (bdr (b0 u) _) hb7); clear ho7 hb7)
      refine ⟨HB7.out, ?_⟩
      refine ords_loud rfl (fun n2 => ?_)
      go_wp2_with (go_at_call 39; refine (samew_any A4 A7 _ c4 _ c7 hd (padTo key 128) _ (by rw [← HNH.out, HNB.out]) (padTo_len _ _ HKLE.out) (((HRH.out.below (HB7.out.mono (Nat.le_trans HBW.out (Nat.le_of_lt HP.out.blk.lt)))).more (Nat.le_trans HBW.out (Nat.le_trans (Nat.le_of_lt HP.out.blk.lt) HB7.out.size))).drewN _) (HO7.out.drewN _) HHD.out).mono ?_; rintro e2 w2 ⟨rfl, rfl⟩)
      refine ⟨bdr HB7.out _, ?_⟩
      refine ords_loud rfl (fun n3 => ?_)
      go_wp2_with (go_at_call 34; refine (must_any p _ _ ((HP.out.blk.below HB7.out HP.out.blk.lt).drewN _)).mono ?_; rintro e3 w3 ⟨rfl, rfl⟩)
      refine ⟨bdr HB7.out _, ?_⟩
      refine ords_end (fun n4 => ?_)
      have hb1 := bdr (bdr HB7.out (n2 + n3)) n4
      clear y18 y14 y3 y5 y10 hsl HRKU HO7 HB7
      replace HT := Lib.hid (HT.out.below hb1 HT.out.lt); replace HQ := Lib.hid (HQ.out.below hb1 HQ.out.lt); replace HRS := Lib.hid (HRS.out.below (hb1.mono (Nat.le_trans HBW.out (Nat.le_of_lt HP.out.blk.lt)))); replace HRH := Lib.hid (HRH.out.below (hb1.mono (Nat.le_trans HBW.out (Nat.le_of_lt HP.out.blk.lt)))); replace HS := Lib.hid (HS.out.below hb1 HS.out.lt); replace HR := Lib.hid (HR.out.below hb1 HR.out.lt); replace HP := Lib.hid (HP.out.below hb1 HP.out.blk.lt); replace HB := Lib.hid (HB.out.below hb1); clear hb1
      generalize (w1.drewN (n2 + n3)).drewN n4 = u at *
      have hu2 := Lib.hid Try.underlying58
      have hsz2 := Lib.hid (svV_size 1 last ⟨Ax, 64, cx⟩ d0 d1 X ⟨Ak, nk, ck⟩ ⟨A1, 64, c1⟩ 0 0 ⟨A4, nh, c4⟩)
      have hon2 := Lib.hid (svV_ones 1 last ⟨Ax, 64, cx⟩ d0 d1 X ⟨Ak, nk, ck⟩ ⟨A1, 64, c1⟩ 0 0 ⟨A4, nh, c4⟩)
      obtain ⟨SV, hSV⟩ : ∃ SV, SV = svV 1 last ⟨Ax, 64, cx⟩ d0 d1 X ⟨Ak, nk, ck⟩ ⟨A1, 64, c1⟩ 0 0 ⟨A4, nh, c4⟩ := ⟨_, rfl⟩
      rw [← hSV] at HS hsz2 hon2
      have hss := Lib.hid (show sv0.size = SV.size by rw [hSV]; rfl)
      have HSV := Lib.hid hSV
      clear hSV
      have y7 : u.cell? ⟨p, 1, none⟩ = some (.int .i64 0) := HP.out.blk.cell 1
      have y8 := HP.out.blk.lt
      have y9 := HT.out.lt
      have z9 : u.cell? ⟨t, 0, none⟩ = some (.bool true) := HT.out.cell 0
      go_wp2_with (first
        | (refine wpList_load_row rfl 58 _ rfl g rfl 58 SV (0, 0) _ HS.out hu2.out rfl hsz2.out ?_)
        | (refine wpList_store_row rfl 58 _ _ rfl r SV rfl rfl 58 sv0 HR.out hsz2.out hss.out hon2.out ?_))
      have hb9 : Below r u (u.setRow r SV) := below_row (Below.refl _ _) (Nat.le_refl _) _
      have hbb : Below B u (u.setRow r SV) := hb9.mono (Nat.le_trans HBW.out (Nat.le_of_lt HPR.out))
      refine bodyPost_ret (results_cell_row rfl _ _ r _ _ (0, 0) _ rfl (HR.out.row SV) hu2.out rfl hsz2.out) rfl ?_
      refine ⟨A1, A4, c1, c4, _, _, ?_, HRS.out.below hbb, HRH.out.below hbb, HP.out.below hb9 HPR.out, HB.out.lowB (hb9.mono HRW.out)⟩
      rw [HSV.out, ← HNH.out]
set_option maxRecDepth 20000 in
      set_option maxHeartbeats 8000000 in
      theorem tailBigS_any (B p n c : Nat) (A : Option Addr) (last : Bool) (lo : UInt64) (hlz : lo ≠ 0) (hmod : lo.toNat % 128 = 0) (x key st cnt hd : List UInt8) (h8 : UInt8) (X : Pr) (d0 d1 : Int) (Ax Ak : Option Addr) (cx ck nk : Nat) (w : World)
          (hp : Pen w B p A n c (st ++ (cnt ++ (h8 :: hd)))) (hst : st.length = 64) (hcn : cnt.length = 16) (hlo : word (cnt.take 8) = lo) (hhi : word ((cnt.drop 8).take 8) = 0) (hh8 : h8.toNat = hd.length) (hhl : hd.length ≤ 128) (hxl : x.length = 64) (hrx : RS cB w B Ax x) (hkl : key.length = nk) (hkm : nk ≤ 64) (hrk : RS cB w B Ak key) (h1 : 0 < hd.length) :
          Calls Try.prog 19 #[.pointer (some ⟨p, 0, none⟩), .agg (svV 1 last ⟨Ax, 64, cx⟩ d0 d1 X ⟨Ak, nk, ck⟩ Sl.nil 0 0 Sl.nil)] w fun r w' => ∃ (As Ah : Option Addr) (cs ch : Nat) (A' : Option Addr) (c' : Nat),
            r = .returned (.agg (svV 1 last ⟨Ax, 64, cx⟩ d0 d1 X ⟨Ak, nk, ck⟩ ⟨As, 64, cs⟩ (wrd lo) 0 ⟨Ah, hd.length, ch⟩)) ∧ RS cB w' B As st ∧ RS cB w' B Ah hd ∧ Pen w' B p A' 0 c' [] ∧ But [p] w w' := by
        have hbo := fun W => show Calls Try.prog 35 #[.int .i64 1] W fun e w' => e = .returned (.int .i64 128) ∧ W = w' from blockOf_any true W
        have HBO := Lib.hid hbo; have HP := Lib.hid hp; have HST := Lib.hid hst; have HCN := Lib.hid hcn; have HLO := Lib.hid hlo; have HH8 := Lib.hid hh8; have HHL := Lib.hid hhl; have HXL := Lib.hid hxl; have HRX := Lib.hid hrx; have HKL := Lib.hid hkl; have HKM := Lib.hid hkm; have HRK := Lib.hid hrk
        have H1 := Lib.hid h1
        obtain ⟨lv, hlv⟩ : ∃ lv, wrd lo = lv := ⟨_, rfl⟩
        have hlv2 : (lo.toNat : Int) = lv := hlv
        have HLZ := Lib.hid (show ¬ lv = 0 from fun e => hlz (UInt64.toNat_inj.1 (show lo.toNat = 0 by omega)))
        have HMT := Lib.hid (show lv.tmod 128 = 0 by rw [Int.tmod_eq_emod_of_nonneg (by omega)]; omega)
        have HLV := Lib.hid hlv
        clear h1 hlz hmod hlv hlv2
        have hpl := hp.blk.lt
        have HBU := Lib.hid (show B ≤ w.heap.size from Nat.le_trans hp.low (Nat.le_of_lt hpl))
        have HHI := Lib.hid hhi; clear hhi
        clear hbo hp hst hcn hlo hh8 hhl hxl hrx hkl hkm hrk
        obtain ⟨V0, hV0⟩ : ∃ V0, V0 = svV 1 last ⟨Ax, 64, cx⟩ d0 d1 X ⟨Ak, nk, ck⟩ Sl.nil 0 0 Sl.nil := ⟨_, rfl⟩
        have hV1 : (#[.int .i64 1, .bool last, .slice Ax 64 cx, .int .i64 d0, .int .i64 d1, .int .i64 X.fanout, .int .i64 X.depth, .int .u32 X.leaf, .int .u64 X.offset, .int .u32 X.xof, .int .i64 X.nd, .int .i64 X.inner, .slice X.salt.A X.salt.n X.salt.c, .slice X.pers.A X.pers.n X.pers.c, .slice Ak nk ck, .slice none 0 0, .int .u64 0, .int .u64 0, .slice none 0 0] : Array Value) = V0 := hV0.symm
        show Calls _ _ #[.pointer (some ⟨p, 0, none⟩), .agg #[.int .i64 1, .bool last, .slice Ax 64 cx, .int .i64 d0, .int .i64 d1, .int .i64 X.fanout, .int .i64 X.depth, .int .u32 X.leaf, .int .u64 X.offset, .int .u32 X.xof, .int .i64 X.nd, .int .i64 X.inner, .slice X.salt.A X.salt.n X.salt.c, .slice X.pers.A X.pers.n X.pers.c, .slice Ak nk ck, .slice none 0 0, .int .u64 0, .int .u64 0, .slice none 0 0]] w _
        have HV0 := Lib.hid hV0; have HV1 := Lib.hid hV1
        clear hV0 hV1
        go_enter Try.func19, Try.ntmps19
        have hsz1 : (w.alloc (.cells V0 58)).heap.size = w.heap.size + 1 := by simp
        have hR := Blk.new (w.alloc (.cells V0 58)) 58 sv0
        rw [hsz1] at hR
        have HR := Lib.hid hR
        have HS := Lib.hid ((Blk.new w 58 V0).alloc (.cells sv0 58))
        have hb9 := bal (bal (b0 w) (.cells V0 58)) (.cells sv0 58)
        have HB := Lib.hid (But.of hb9 [p])
        replace HP := Lib.hid (HP.out.below hb9 hpl)
        clear hb9 hR hsz1
        go_upto_region 1 with fail
        simp only [sv0_eq, HV1.out]
        generalize (w.alloc (.cells V0 58)).alloc (.cells sv0 58) = u at *
        obtain ⟨g, hg⟩ : ∃ g, g = w.heap.size := ⟨_, rfl⟩
        obtain ⟨r, hr⟩ : ∃ r, r = g + 1 := ⟨_, rfl⟩
        rw [← hg] at HS HR ⊢
        rw [← hr] at HR ⊢
        have HPG := Lib.hid (show p < g by omega)
        have HPR := Lib.hid (show p < r by omega)
        have HRG := Lib.hid (show g < r by omega)
        have HGW := Lib.hid (show w.heap.size ≤ g by omega)
        have HRW := Lib.hid (show w.heap.size ≤ r by omega)
        have HBW := Lib.hid (show B ≤ p from HP.out.low)
        clear hg hr hpl
        rw [HV0.out] at HS
        clear HV0 HV1
        have y0 : u.cell? ⟨g, 0, none⟩ = some (.int .i64 1) := HS.out.cell 0
        have yg := HS.out.lt
        go_upto_region 2 with (go_at_call 35; refine (HBO.out _).mono ?_; rintro e1 u ⟨rfl, rfl⟩)
        clear y0 yg
        obtain ⟨q, hq⟩ : ∃ q, q = u.heap.size := ⟨_, rfl⟩
        have HQ := Lib.hid (show Blk _ q 3 #[.int .i64 128] from hq ▸ Blk.new u 3 #[.int .i64 128])
        have hb1 := bal (b0 u) (.cells #[.int .i64 128] 3)
        have HPQ := Lib.hid (show p < q by rw [hq]; exact HP.out.blk.lt)
        have HGQ := Lib.hid (show g < q by rw [hq]; exact HS.out.lt)
        have HQW := Lib.hid (show w.heap.size ≤ q by rw [hq]; exact HB.out.size)
        replace HS := Lib.hid (HS.out.below hb1 HS.out.lt); replace HR := Lib.hid (HR.out.below hb1 HR.out.lt); replace HP := Lib.hid (HP.out.below hb1 HP.out.blk.lt); replace HB := Lib.hid (HB.out.below hb1); clear hb1
        rw [← hq]
        clear hq
        generalize u.alloc (.cells #[.int .i64 128] 3) = u at *
        obtain ⟨A1, n1, c1, HP1⟩ : ∃ A1 n1 c1, Hid (Pen u B p A1 n1 c1 (st ++ (cnt ++ (h8 :: hd)))) := ⟨_, _, _, HP⟩
        clear HP
        have hbn : 64 ≤ n1 := by have h := HP1.out.len; rw [List.length_append, HST.out] at h; omega
        have htk := take_any B p n1 c1 64 A1 _ u HP1.out hbn
        have HRS := Lib.hid (show RS cB u B A1 st by have h := HP1.out.rs.take 64; rwa [List.take_left' HST.out] at h)
        rw [List.drop_left' HST.out] at htk
        have HTK := Lib.hid (show Calls Try.prog 32 #[.pointer (some ⟨p, 0, none⟩), .int .i64 64] u _ from htk)
        have y3 : u.cell? ⟨q, 0, none⟩ = some (.int .i64 128) := HQ.out.cell 0
        have y4 := HQ.out.lt
        have y5 := HS.out.lt
        have y6 := HS.out.frozen
        clear htk hbn HP1
        go_upto_region 3 with (go_at_call 32; refine HTK.out.mono ?_; rintro e1 u ⟨rfl, hp1, hb1⟩; replace HRS := Lib.hid (HRS.out.below (hb1.toBelow (Nat.le_trans HBW.out (Nat.le_of_lt (Nat.lt_trans HPG.out HS.out.lt))) (fun k hk => by simp at hk; rw [hk]; exact HBW.out))); clear y3 y4 y5 y6; replace HS := Lib.hid (HS.out.but hb1 (by simp; exact Nat.ne_of_gt HPG.out)); replace HR := Lib.hid (HR.out.but hb1 (by simp; exact Nat.ne_of_gt HPR.out)); replace HQ := Lib.hid (HQ.out.but hb1 (by simp; exact Nat.ne_of_gt HPQ.out)); replace HB := Lib.hid (HB.out.trans hb1 (fun k hk => .inl hk)); have HP := Lib.hid hp1; clear hp1 hb1; have z15 : u.cell? ⟨g, 15, none⟩ = some (.slice none 0 0) := HS.out.cell 15; have y5 := HS.out.lt; have y6 := HS.out.frozen)
        clear z15
        replace HRS := Lib.hid (HRS.out.setCell (p := ⟨g, 15, none⟩) (Nat.le_trans HBW.out (Nat.le_of_lt HPG.out)) (.slice A1 64 c1))
        replace HS := Lib.hid (show Blk _ g 58 (svV 1 last ⟨Ax, 64, cx⟩ d0 d1 X ⟨Ak, nk, ck⟩ ⟨A1, 64, c1⟩ 0 0 Sl.nil) from HS.out.set_ 15 (.slice A1 64 c1))
        replace HR := Lib.hid (HR.out.far (p := ⟨g, 15, none⟩) (Nat.ne_of_gt HRG.out) (.slice A1 64 c1))
        replace HQ := Lib.hid (HQ.out.far (p := ⟨g, 15, none⟩) (Nat.ne_of_gt HGQ.out) (.slice A1 64 c1))
        replace HP := Lib.hid (HP.out.but ((But.refl [g] u).setCell (p := ⟨g, 15, none⟩) (.inl (by simp)) (.slice A1 64 c1)) (fun k hk => by simp at hk; rw [hk]; exact HPG.out))
        replace HB := Lib.hid (HB.out.setCell (p := ⟨g, 15, none⟩) (.inr HGW.out) (.slice A1 64 c1))
        generalize u.setCell ⟨g, 15, none⟩ (.slice A1 64 c1) = u at *
        clear y5 y6
        obtain ⟨A2, n2, c2, HP2⟩ : ∃ A2 n2 c2, Hid (Pen u B p A2 n2 c2 (cnt ++ (h8 :: hd))) := ⟨_, _, _, HP⟩
        clear HP
        have hbn : 16 ≤ n2 := by have h := HP2.out.len; rw [List.length_append, HCN.out] at h; omega
        have htk := take_any B p n2 c2 16 A2 _ u HP2.out hbn
        have HRC := Lib.hid (show RS cB u B A2 cnt by have h := HP2.out.rs.take 16; rwa [List.take_left' HCN.out] at h)
        rw [List.drop_left' HCN.out] at htk
        have HTK2 := Lib.hid (show Calls Try.prog 32 #[.pointer (some ⟨p, 0, none⟩), .int .i64 16] u _ from htk)
        have y3 : u.cell? ⟨q, 0, none⟩ = some (.int .i64 128) := HQ.out.cell 0
        have y4 := HQ.out.lt
        clear htk hbn HP2 HTK
        go_upto_region 6 with (go_at_call 32; refine HTK2.out.mono ?_; rintro e1 u ⟨rfl, hp1, hb1⟩; replace HRS := Lib.hid (HRS.out.below (hb1.toBelow (Nat.le_trans HBW.out (Nat.le_of_lt (Nat.lt_trans HPG.out HS.out.lt))) (fun k hk => by simp at hk; rw [hk]; exact HBW.out))); replace HRC := Lib.hid (HRC.out.below (hb1.toBelow (Nat.le_trans HBW.out (Nat.le_of_lt (Nat.lt_trans HPG.out HS.out.lt))) (fun k hk => by simp at hk; rw [hk]; exact HBW.out))); clear y3 y4; replace HS := Lib.hid (HS.out.but hb1 (by simp; exact Nat.ne_of_gt HPG.out)); replace HR := Lib.hid (HR.out.but hb1 (by simp; exact Nat.ne_of_gt HPR.out)); replace HQ := Lib.hid (HQ.out.but hb1 (by simp; exact Nat.ne_of_gt HPQ.out)); replace HB := Lib.hid (HB.out.trans hb1 (fun k hk => .inl hk)); have HP := Lib.hid hp1; clear hp1 hb1; have y5 := HS.out.lt; have y6 := HS.out.frozen; have y7 : u.cell? ⟨p, 1, none⟩ = some (.int .i64 0) := HP.out.blk.cell 1; have y8 := HP.out.blk.lt)
        clear y7 y8 HTK2
        have hl0 := load64_any A2 c2 16 0 B cnt u HCN.out (by decide) HRC.out (by decide)
        rw [List.drop_zero, HLO.out] at hl0
        rw [HLV.out] at hl0
        have HL0 := Lib.hid (show Calls Try.prog 36 #[.slice A2 16 c2, .int .i64 0] u _ from hl0)
        clear hl0
        have z16 : u.cell? ⟨g, 16, none⟩ = some (.int .u64 0) := HS.out.cell 16
        have z17 : u.cell? ⟨g, 17, none⟩ = some (.int .u64 0) := HS.out.cell 17
        go_upto_region 7 with (go_at_call 36; refine HL0.out.mono ?_; rintro e1 w1 ⟨rfl, rfl⟩)
        clear z16 z17 HL0 y5 y6
        replace HRS := Lib.hid (HRS.out.setCell (p := ⟨g, 16, none⟩) (Nat.le_trans HBW.out (Nat.le_of_lt HPG.out)) (.int .u64 lv))
        replace HRC := Lib.hid (HRC.out.setCell (p := ⟨g, 16, none⟩) (Nat.le_trans HBW.out (Nat.le_of_lt HPG.out)) (.int .u64 lv))
        replace HS := Lib.hid (show Blk _ g 58 (svV 1 last ⟨Ax, 64, cx⟩ d0 d1 X ⟨Ak, nk, ck⟩ ⟨A1, 64, c1⟩ lv 0 Sl.nil) from HS.out.set_ 16 (.int .u64 lv))
        replace HR := Lib.hid (HR.out.far (p := ⟨g, 16, none⟩) (Nat.ne_of_gt HRG.out) (.int .u64 lv))
        replace HQ := Lib.hid (HQ.out.far (p := ⟨g, 16, none⟩) (Nat.ne_of_gt HGQ.out) (.int .u64 lv))
        replace HP := Lib.hid (HP.out.but ((But.refl [g] u).setCell (p := ⟨g, 16, none⟩) (.inl (by simp)) (.int .u64 lv)) (fun k hk => by simp at hk; rw [hk]; exact HPG.out))
        replace HB := Lib.hid (HB.out.setCell (p := ⟨g, 16, none⟩) (.inr HGW.out) (.int .u64 lv))
        generalize u.setCell ⟨g, 16, none⟩ (.int .u64 lv) = u at *
        have y5 := HS.out.lt
        have y6 := HS.out.frozen
        have hz0 := HLZ.out
        have hl8 := load64_any A2 c2 16 8 B cnt u HCN.out (by decide) HRC.out (by decide)
        rw [HHI.out, show wrd (0 : UInt64) = 0 from rfl] at hl8
        have HL8 := Lib.hid (show Calls Try.prog 36 #[.slice A2 16 c2, .int .i64 8] u _ from hl8)
        clear hl8
        have z0 : u.cell? ⟨g, 0, none⟩ = some (.int .i64 1) := HS.out.cell 0
        have z16 : u.cell? ⟨g, 16, none⟩ = some (.int .u64 lv) := HS.out.cell 16
        have z17 : u.cell? ⟨g, 17, none⟩ = some (.int .u64 0) := HS.out.cell 17
        go_upto_region 10 with (go_at_call 36; refine HL8.out.mono ?_; rintro e1 w1 ⟨rfl, rfl⟩)
        clear z0 z16 z17 y5 y6 HL8
        rw [show u.heap.size = (u.setCell ⟨g, 17, none⟩ (.int .u64 0)).heap.size by simp]
        replace HRS := Lib.hid (HRS.out.setCell (p := ⟨g, 17, none⟩) (Nat.le_trans HBW.out (Nat.le_of_lt HPG.out)) (.int .u64 0))
        replace HRC := Lib.hid (HRC.out.setCell (p := ⟨g, 17, none⟩) (Nat.le_trans HBW.out (Nat.le_of_lt HPG.out)) (.int .u64 0))
        replace HS := Lib.hid (show Blk _ g 58 (svV 1 last ⟨Ax, 64, cx⟩ d0 d1 X ⟨Ak, nk, ck⟩ ⟨A1, 64, c1⟩ lv 0 Sl.nil) from HS.out.set_ 17 (.int .u64 0))
        replace HR := Lib.hid (HR.out.far (p := ⟨g, 17, none⟩) (Nat.ne_of_gt HRG.out) (.int .u64 0))
        replace HQ := Lib.hid (HQ.out.far (p := ⟨g, 17, none⟩) (Nat.ne_of_gt HGQ.out) (.int .u64 0))
        replace HP := Lib.hid (HP.out.but ((But.refl [g] u).setCell (p := ⟨g, 17, none⟩) (.inl (by simp)) (.int .u64 0)) (fun k hk => by simp at hk; rw [hk]; exact HPG.out))
        replace HB := Lib.hid (HB.out.setCell (p := ⟨g, 17, none⟩) (.inr HGW.out) (.int .u64 0))
        generalize u.setCell ⟨g, 17, none⟩ (.int .u64 0) = u at *
        clear hz0
        obtain ⟨t, ht⟩ : ∃ t, t = u.heap.size := ⟨_, rfl⟩
        have HT := Lib.hid (show Blk _ t 4 #[.bool false] from ht ▸ Blk.new u 4 #[.bool false])
        have hb1 := bal (b0 u) (.cells #[.bool false] 4)
        have HPT := Lib.hid (show p < t by rw [ht]; exact HP.out.blk.lt)
        have HGT := Lib.hid (show g < t by rw [ht]; exact HS.out.lt)
        have HTW := Lib.hid (show w.heap.size ≤ t by rw [ht]; exact HB.out.size)
        replace HRS := Lib.hid (HRS.out.below (hb1.mono (Nat.le_trans HBW.out (Nat.le_of_lt HP.out.blk.lt))))
        replace HQ := Lib.hid (HQ.out.below hb1 HQ.out.lt)
        replace HS := Lib.hid (HS.out.below hb1 HS.out.lt); replace HR := Lib.hid (HR.out.below hb1 HR.out.lt); replace HP := Lib.hid (HP.out.below hb1 HP.out.blk.lt); replace HB := Lib.hid (HB.out.below hb1); clear hb1
        rw [← ht]
        clear ht HRC
        generalize u.alloc (.cells #[.bool false] 4) = u at *
        have y7 : u.cell? ⟨p, 1, none⟩ = some (.int .i64 0) := HP.out.blk.cell 1
        have y8 := HP.out.blk.lt
        have z16 : u.cell? ⟨g, 16, none⟩ = some (.int .u64 lv) := HS.out.cell 16
        have y3 : u.cell? ⟨q, 0, none⟩ = some (.int .i64 128) := HQ.out.cell 0
        have y4 := HQ.out.lt
        have y5 := HS.out.lt
        have hmt := HMT.out
        go_upto_region 11 with (go_at_call 34; refine (must_any p _ _ HP.out.blk).mono ?_; rintro e1 w1 ⟨rfl, rfl⟩)
        clear z16 y7 y8 y3 y4 y5
        obtain ⟨A3, n3, c3, HP3⟩ : ∃ A3 n3 c3, Hid (Pen u B p A3 n3 c3 (h8 :: hd)) := ⟨_, _, _, HP⟩
        clear HP
        have hbh := byteH_any B p n3 c3 A3 h8 hd u HP3.out 128 nk false q t g Ak ck ⟨HPQ.out, HQ.out.lt⟩ ⟨HPT.out, HT.out.lt⟩ ⟨HPG.out, HS.out.lt⟩ (HQ.out.cell 0) (HT.out.cell 0) (HS.out.cell 14) (by rw [HH8.out]; exact HHL.out) (fun _ => by rw [HH8.out]; exact H1.out) (fun h => by cases h)
        obtain ⟨nh, hnh⟩ : ∃ nh, nh = hd.length := ⟨_, rfl⟩
        rw [HH8.out, ← hnh] at hbh
        have HBH := Lib.hid hbh
        have HNH := Lib.hid hnh
        clear hbh hnh HP3
        have y9 := HT.out.lt
        have y10 := HQ.out.lt
        have y5 := HS.out.lt
        go_upto_region 12 with (go_at_call 25; refine HBH.out.mono ?_; rintro e1 u ⟨rfl, hp1, hb1⟩; replace HRS := Lib.hid (HRS.out.below (hb1.toBelow (Nat.le_trans HBW.out (Nat.le_of_lt (Nat.lt_trans HPG.out HS.out.lt))) (fun k hk => by simp at hk; rw [hk]; exact HBW.out))); clear y9 y10 y5; replace HT := Lib.hid (HT.out.but hb1 (by simp; exact Nat.ne_of_gt HPT.out)); replace HS := Lib.hid (HS.out.but hb1 (by simp; exact Nat.ne_of_gt HPG.out)); replace HR := Lib.hid (HR.out.but hb1 (by simp; exact Nat.ne_of_gt HPR.out)); replace HQ := Lib.hid (HQ.out.but hb1 (by simp; exact Nat.ne_of_gt HPQ.out)); replace HB := Lib.hid (HB.out.trans hb1 (fun k hk => .inl hk)); have HP := Lib.hid hp1; clear hp1 hb1)
        clear HBH
        obtain ⟨A4, n4, c4, HP4⟩ : ∃ A4 n4 c4, Hid (Pen u B p A4 n4 c4 hd) := ⟨_, _, _, HP⟩
        clear HP
        have hnn : nh = n4 := HNH.out.trans HP4.out.len
        have htk := take_any B p n4 c4 nh A4 _ u HP4.out (by omega)
        have HRH := Lib.hid (show RS cB u B A4 hd from HP4.out.rs)
        rw [← hnn, Nat.sub_self, List.drop_eq_nil_of_le (by rw [HNH.out]; exact Nat.le_refl _)] at htk
        have HTK := Lib.hid htk
        have HC4 := Lib.hid (show nh ≤ c4 by have := HP4.out.cap; omega)
        clear htk hnn HP4
        have y5 := HS.out.lt
        have y6 := HS.out.frozen
        go_upto_region 13 with (go_at_call 32; refine HTK.out.mono ?_; rintro e1 u ⟨rfl, hp1, hb1⟩; replace HRS := Lib.hid (HRS.out.below (hb1.toBelow (Nat.le_trans HBW.out (Nat.le_of_lt (Nat.lt_trans HPG.out HS.out.lt))) (fun k hk => by simp at hk; rw [hk]; exact HBW.out))); replace HRH := Lib.hid (HRH.out.below (hb1.toBelow (Nat.le_trans HBW.out (Nat.le_of_lt (Nat.lt_trans HPG.out HS.out.lt))) (fun k hk => by simp at hk; rw [hk]; exact HBW.out))); clear y5 y6; replace HT := Lib.hid (HT.out.but hb1 (by simp; exact Nat.ne_of_gt HPT.out)); replace HS := Lib.hid (HS.out.but hb1 (by simp; exact Nat.ne_of_gt HPG.out)); replace HR := Lib.hid (HR.out.but hb1 (by simp; exact Nat.ne_of_gt HPR.out)); replace HQ := Lib.hid (HQ.out.but hb1 (by simp; exact Nat.ne_of_gt HPQ.out)); replace HB := Lib.hid (HB.out.trans hb1 (fun k hk => .inl hk)); have HP := Lib.hid hp1; clear hp1 hb1; have z18 : u.cell? ⟨g, 18, none⟩ = some (.slice none 0 0) := HS.out.cell 18; have y5 := HS.out.lt; have y6 := HS.out.frozen)
        clear z18 y5 y6 HTK
        replace HRS := Lib.hid (HRS.out.setCell (p := ⟨g, 18, none⟩) (Nat.le_trans HBW.out (Nat.le_of_lt HPG.out)) (.slice A4 nh c4))
        replace HRH := Lib.hid (HRH.out.setCell (p := ⟨g, 18, none⟩) (Nat.le_trans HBW.out (Nat.le_of_lt HPG.out)) (.slice A4 nh c4))
        replace HT := Lib.hid (HT.out.far (p := ⟨g, 18, none⟩) (Nat.ne_of_gt HGT.out) (.slice A4 nh c4))
        replace HS := Lib.hid (show Blk _ g 58 (svV 1 last ⟨Ax, 64, cx⟩ d0 d1 X ⟨Ak, nk, ck⟩ ⟨A1, 64, c1⟩ lv 0 ⟨A4, nh, c4⟩) from HS.out.set_ 18 (.slice A4 nh c4))
        replace HR := Lib.hid (HR.out.far (p := ⟨g, 18, none⟩) (Nat.ne_of_gt HRG.out) (.slice A4 nh c4))
        replace HQ := Lib.hid (HQ.out.far (p := ⟨g, 18, none⟩) (Nat.ne_of_gt HGQ.out) (.slice A4 nh c4))
        replace HP := Lib.hid (HP.out.but ((But.refl [g] u).setCell (p := ⟨g, 18, none⟩) (.inl (by simp)) (.slice A4 nh c4)) (fun k hk => by simp at hk; rw [hk]; exact HPG.out))
        replace HB := Lib.hid (HB.out.setCell (p := ⟨g, 18, none⟩) (.inr HGW.out) (.slice A4 nh c4))
        generalize u.setCell ⟨g, 18, none⟩ (.slice A4 nh c4) = u at *
        have hu2 := Lib.hid Try.underlying58
        have hsz2 := Lib.hid (svV_size 1 last ⟨Ax, 64, cx⟩ d0 d1 X ⟨Ak, nk, ck⟩ ⟨A1, 64, c1⟩ lv 0 ⟨A4, nh, c4⟩)
        have hon2 := Lib.hid (svV_ones 1 last ⟨Ax, 64, cx⟩ d0 d1 X ⟨Ak, nk, ck⟩ ⟨A1, 64, c1⟩ lv 0 ⟨A4, nh, c4⟩)
        obtain ⟨SV, hSV⟩ : ∃ SV, SV = svV 1 last ⟨Ax, 64, cx⟩ d0 d1 X ⟨Ak, nk, ck⟩ ⟨A1, 64, c1⟩ lv 0 ⟨A4, nh, c4⟩ := ⟨_, rfl⟩
        rw [← hSV] at HS hsz2 hon2
        have hss := Lib.hid (show sv0.size = SV.size by rw [hSV]; rfl)
        have HSV := Lib.hid hSV
        clear hSV
        have y7 : u.cell? ⟨p, 1, none⟩ = some (.int .i64 0) := HP.out.blk.cell 1
        have y8 := HP.out.blk.lt
        have y9 := HT.out.lt
        have z9 : u.cell? ⟨t, 0, none⟩ = some (.bool false) := HT.out.cell 0
        go_wp2_with (first
          | (refine wpList_load_row rfl 58 _ rfl g rfl 58 SV (0, 0) _ HS.out hu2.out rfl hsz2.out ?_)
          | (refine wpList_store_row rfl 58 _ _ rfl r SV rfl rfl 58 sv0 HR.out hsz2.out hss.out hon2.out ?_))
        have hb9 : Below r u (u.setRow r SV) := below_row (Below.refl _ _) (Nat.le_refl _) _
        have hbb : Below B u (u.setRow r SV) := hb9.mono (Nat.le_trans HBW.out (Nat.le_of_lt HPR.out))
        refine bodyPost_ret (results_cell_row rfl _ _ r _ _ (0, 0) _ rfl (HR.out.row SV) hu2.out rfl hsz2.out) rfl ?_
        refine ⟨A1, A4, c1, c4, _, _, ?_, HRS.out.below hbb, HRH.out.below hbb, HP.out.below hb9 HPR.out, HB.out.lowB (hb9.mono HRW.out)⟩
        rw [HSV.out, HLV.out, ← HNH.out]
set_option maxRecDepth 20000 in
        set_option maxHeartbeats 8000000 in
        theorem tailSmaN_any (B p n c : Nat) (A : Option Addr) (last : Bool)  (x key st cnt hd : List UInt8) (h8 : UInt8) (X : Pr) (d0 d1 : Int) (Ax Ak : Option Addr) (cx ck nk : Nat) (w : World)
            (hp : Pen w B p A n c (st ++ (cnt ++ (h8 :: hd)))) (hst : st.length = 32) (hcn : cnt.length = 8) (hlo : word (cnt.take 8) = 0)  (hh8 : h8.toNat = hd.length) (hhl : hd.length ≤ 64) (hxl : x.length = 32) (hrx : RS cB w B Ax x) (hkl : key.length = nk) (hkm : nk ≤ 32) (hrk : RS cB w B Ak key) (h0 : st = (startOf false x).stateL) (h00 : key ≠ [] → hd = padTo key 64) :
            Calls Try.prog 19 #[.pointer (some ⟨p, 0, none⟩), .agg (svV 2 last ⟨Ax, 32, cx⟩ d0 d1 X ⟨Ak, nk, ck⟩ Sl.nil 0 0 Sl.nil)] w fun r w' => ∃ (As Ah : Option Addr) (cs ch : Nat) (A' : Option Addr) (c' : Nat),
              r = .returned (.agg (svV 2 last ⟨Ax, 32, cx⟩ d0 d1 X ⟨Ak, nk, ck⟩ ⟨As, 32, cs⟩ 0 0 ⟨Ah, hd.length, ch⟩)) ∧ RS cB w' B As st ∧ RS cB w' B Ah hd ∧ Pen w' B p A' 0 c' [] ∧ But [p] w w' := by
          have hbo := fun W => show Calls Try.prog 35 #[.int .i64 2] W fun e w' => e = .returned (.int .i64 64) ∧ W = w' from blockOf_any false W
          have HBO := Lib.hid hbo; have HP := Lib.hid hp; have HST := Lib.hid hst; have HCN := Lib.hid hcn; have HLO := Lib.hid hlo; have HH8 := Lib.hid hh8; have HHL := Lib.hid hhl; have HXL := Lib.hid hxl; have HRX := Lib.hid hrx; have HKL := Lib.hid hkl; have HKM := Lib.hid hkm; have HRK := Lib.hid hrk
          have H0 := Lib.hid h0; have H00 := Lib.hid h00; clear h0 h00
          have hpl := hp.blk.lt
          have HBU := Lib.hid (show B ≤ w.heap.size from Nat.le_trans hp.low (Nat.le_of_lt hpl))
          skip
          clear hbo hp hst hcn hlo hh8 hhl hxl hrx hkl hkm hrk
          obtain ⟨V0, hV0⟩ : ∃ V0, V0 = svV 2 last ⟨Ax, 32, cx⟩ d0 d1 X ⟨Ak, nk, ck⟩ Sl.nil 0 0 Sl.nil := ⟨_, rfl⟩
          have hV1 : (#[.int .i64 2, .bool last, .slice Ax 32 cx, .int .i64 d0, .int .i64 d1, .int .i64 X.fanout, .int .i64 X.depth, .int .u32 X.leaf, .int .u64 X.offset, .int .u32 X.xof, .int .i64 X.nd, .int .i64 X.inner, .slice X.salt.A X.salt.n X.salt.c, .slice X.pers.A X.pers.n X.pers.c, .slice Ak nk ck, .slice none 0 0, .int .u64 0, .int .u64 0, .slice none 0 0] : Array Value) = V0 := hV0.symm
          show Calls _ _ #[.pointer (some ⟨p, 0, none⟩), .agg #[.int .i64 2, .bool last, .slice Ax 32 cx, .int .i64 d0, .int .i64 d1, .int .i64 X.fanout, .int .i64 X.depth, .int .u32 X.leaf, .int .u64 X.offset, .int .u32 X.xof, .int .i64 X.nd, .int .i64 X.inner, .slice X.salt.A X.salt.n X.salt.c, .slice X.pers.A X.pers.n X.pers.c, .slice Ak nk ck, .slice none 0 0, .int .u64 0, .int .u64 0, .slice none 0 0]] w _
          have HV0 := Lib.hid hV0; have HV1 := Lib.hid hV1
          clear hV0 hV1
          go_enter Try.func19, Try.ntmps19
          have hsz1 : (w.alloc (.cells V0 58)).heap.size = w.heap.size + 1 := by simp
          have hR := Blk.new (w.alloc (.cells V0 58)) 58 sv0
          rw [hsz1] at hR
          have HR := Lib.hid hR
          have HS := Lib.hid ((Blk.new w 58 V0).alloc (.cells sv0 58))
          have hb9 := bal (bal (b0 w) (.cells V0 58)) (.cells sv0 58)
          have HB := Lib.hid (But.of hb9 [p])
          replace HP := Lib.hid (HP.out.below hb9 hpl)
          clear hb9 hR hsz1
          go_upto_region 1 with fail
          simp only [sv0_eq, HV1.out]
          generalize (w.alloc (.cells V0 58)).alloc (.cells sv0 58) = u at *
          obtain ⟨g, hg⟩ : ∃ g, g = w.heap.size := ⟨_, rfl⟩
          obtain ⟨r, hr⟩ : ∃ r, r = g + 1 := ⟨_, rfl⟩
          rw [← hg] at HS HR ⊢
          rw [← hr] at HR ⊢
          have HPG := Lib.hid (show p < g by omega)
          have HPR := Lib.hid (show p < r by omega)
          have HRG := Lib.hid (show g < r by omega)
          have HGW := Lib.hid (show w.heap.size ≤ g by omega)
          have HRW := Lib.hid (show w.heap.size ≤ r by omega)
          have HBW := Lib.hid (show B ≤ p from HP.out.low)
          clear hg hr hpl
          rw [HV0.out] at HS
          clear HV0 HV1
          have y0 : u.cell? ⟨g, 0, none⟩ = some (.int .i64 2) := HS.out.cell 0
          have yg := HS.out.lt
          go_upto_region 2 with (go_at_call 35; refine (HBO.out _).mono ?_; rintro e1 u ⟨rfl, rfl⟩)
          clear y0 yg
          obtain ⟨q, hq⟩ : ∃ q, q = u.heap.size := ⟨_, rfl⟩
          have HQ := Lib.hid (show Blk _ q 3 #[.int .i64 64] from hq ▸ Blk.new u 3 #[.int .i64 64])
          have hb1 := bal (b0 u) (.cells #[.int .i64 64] 3)
          have HPQ := Lib.hid (show p < q by rw [hq]; exact HP.out.blk.lt)
          have HGQ := Lib.hid (show g < q by rw [hq]; exact HS.out.lt)
          have HQW := Lib.hid (show w.heap.size ≤ q by rw [hq]; exact HB.out.size)
          replace HS := Lib.hid (HS.out.below hb1 HS.out.lt); replace HR := Lib.hid (HR.out.below hb1 HR.out.lt); replace HP := Lib.hid (HP.out.below hb1 HP.out.blk.lt); replace HB := Lib.hid (HB.out.below hb1); clear hb1
          rw [← hq]
          clear hq
          generalize u.alloc (.cells #[.int .i64 64] 3) = u at *
          obtain ⟨A1, n1, c1, HP1⟩ : ∃ A1 n1 c1, Hid (Pen u B p A1 n1 c1 (st ++ (cnt ++ (h8 :: hd)))) := ⟨_, _, _, HP⟩
          clear HP
          have hbn : 32 ≤ n1 := by have h := HP1.out.len; rw [List.length_append, HST.out] at h; omega
          have htk := take_any B p n1 c1 32 A1 _ u HP1.out hbn
          have HRS := Lib.hid (show RS cB u B A1 st by have h := HP1.out.rs.take 32; rwa [List.take_left' HST.out] at h)
          rw [List.drop_left' HST.out] at htk
          have HTK := Lib.hid (show Calls Try.prog 32 #[.pointer (some ⟨p, 0, none⟩), .int .i64 32] u _ from htk)
          have y3 : u.cell? ⟨q, 0, none⟩ = some (.int .i64 64) := HQ.out.cell 0
          have y4 := HQ.out.lt
          have y5 := HS.out.lt
          have y6 := HS.out.frozen
          clear htk hbn HP1
          go_upto_region 3 with (go_at_call 32; refine HTK.out.mono ?_; rintro e1 u ⟨rfl, hp1, hb1⟩; replace HRS := Lib.hid (HRS.out.below (hb1.toBelow (Nat.le_trans HBW.out (Nat.le_of_lt (Nat.lt_trans HPG.out HS.out.lt))) (fun k hk => by simp at hk; rw [hk]; exact HBW.out))); clear y3 y4 y5 y6; replace HS := Lib.hid (HS.out.but hb1 (by simp; exact Nat.ne_of_gt HPG.out)); replace HR := Lib.hid (HR.out.but hb1 (by simp; exact Nat.ne_of_gt HPR.out)); replace HQ := Lib.hid (HQ.out.but hb1 (by simp; exact Nat.ne_of_gt HPQ.out)); replace HB := Lib.hid (HB.out.trans hb1 (fun k hk => .inl hk)); have HP := Lib.hid hp1; clear hp1 hb1; have z15 : u.cell? ⟨g, 15, none⟩ = some (.slice none 0 0) := HS.out.cell 15; have y5 := HS.out.lt; have y6 := HS.out.frozen)
          clear z15
          replace HRS := Lib.hid (HRS.out.setCell (p := ⟨g, 15, none⟩) (Nat.le_trans HBW.out (Nat.le_of_lt HPG.out)) (.slice A1 32 c1))
          replace HS := Lib.hid (show Blk _ g 58 (svV 2 last ⟨Ax, 32, cx⟩ d0 d1 X ⟨Ak, nk, ck⟩ ⟨A1, 32, c1⟩ 0 0 Sl.nil) from HS.out.set_ 15 (.slice A1 32 c1))
          replace HR := Lib.hid (HR.out.far (p := ⟨g, 15, none⟩) (Nat.ne_of_gt HRG.out) (.slice A1 32 c1))
          replace HQ := Lib.hid (HQ.out.far (p := ⟨g, 15, none⟩) (Nat.ne_of_gt HGQ.out) (.slice A1 32 c1))
          replace HP := Lib.hid (HP.out.but ((But.refl [g] u).setCell (p := ⟨g, 15, none⟩) (.inl (by simp)) (.slice A1 32 c1)) (fun k hk => by simp at hk; rw [hk]; exact HPG.out))
          replace HB := Lib.hid (HB.out.setCell (p := ⟨g, 15, none⟩) (.inr HGW.out) (.slice A1 32 c1))
          generalize u.setCell ⟨g, 15, none⟩ (.slice A1 32 c1) = u at *
          clear y5 y6
          obtain ⟨A2, n2, c2, HP2⟩ : ∃ A2 n2 c2, Hid (Pen u B p A2 n2 c2 (cnt ++ (h8 :: hd))) := ⟨_, _, _, HP⟩
          clear HP
          have hbn : 8 ≤ n2 := by have h := HP2.out.len; rw [List.length_append, HCN.out] at h; omega
          have htk := take_any B p n2 c2 8 A2 _ u HP2.out hbn
          have HRC := Lib.hid (show RS cB u B A2 cnt by have h := HP2.out.rs.take 8; rwa [List.take_left' HCN.out] at h)
          rw [List.drop_left' HCN.out] at htk
          have HTK2 := Lib.hid (show Calls Try.prog 32 #[.pointer (some ⟨p, 0, none⟩), .int .i64 8] u _ from htk)
          have y3 : u.cell? ⟨q, 0, none⟩ = some (.int .i64 64) := HQ.out.cell 0
          have y4 := HQ.out.lt
          clear htk hbn HP2 HTK
          go_upto_region 6 with (go_at_call 32; refine HTK2.out.mono ?_; rintro e1 u ⟨rfl, hp1, hb1⟩; replace HRS := Lib.hid (HRS.out.below (hb1.toBelow (Nat.le_trans HBW.out (Nat.le_of_lt (Nat.lt_trans HPG.out HS.out.lt))) (fun k hk => by simp at hk; rw [hk]; exact HBW.out))); replace HRC := Lib.hid (HRC.out.below (hb1.toBelow (Nat.le_trans HBW.out (Nat.le_of_lt (Nat.lt_trans HPG.out HS.out.lt))) (fun k hk => by simp at hk; rw [hk]; exact HBW.out))); clear y3 y4; replace HS := Lib.hid (HS.out.but hb1 (by simp; exact Nat.ne_of_gt HPG.out)); replace HR := Lib.hid (HR.out.but hb1 (by simp; exact Nat.ne_of_gt HPR.out)); replace HQ := Lib.hid (HQ.out.but hb1 (by simp; exact Nat.ne_of_gt HPQ.out)); replace HB := Lib.hid (HB.out.trans hb1 (fun k hk => .inl hk)); have HP := Lib.hid hp1; clear hp1 hb1; have y5 := HS.out.lt; have y6 := HS.out.frozen; have y7 : u.cell? ⟨p, 1, none⟩ = some (.int .i64 0) := HP.out.blk.cell 1; have y8 := HP.out.blk.lt)
          clear y7 y8 HTK2
          have hl0 := load64_any A2 c2 8 0 B cnt u HCN.out (by decide) HRC.out (by decide)
          rw [List.drop_zero, HLO.out] at hl0
          rw [show wrd (0 : UInt64) = 0 from rfl] at hl0
          have HL0 := Lib.hid (show Calls Try.prog 36 #[.slice A2 8 c2, .int .i64 0] u _ from hl0)
          clear hl0
          have z16 : u.cell? ⟨g, 16, none⟩ = some (.int .u64 0) := HS.out.cell 16
          have z17 : u.cell? ⟨g, 17, none⟩ = some (.int .u64 0) := HS.out.cell 17
          go_upto_region 7 with (go_at_call 36; refine HL0.out.mono ?_; rintro e1 w1 ⟨rfl, rfl⟩)
          clear z16 z17 HL0 y5 y6
          replace HRS := Lib.hid (HRS.out.setCell (p := ⟨g, 16, none⟩) (Nat.le_trans HBW.out (Nat.le_of_lt HPG.out)) (.int .u64 0))
          replace HRC := Lib.hid (HRC.out.setCell (p := ⟨g, 16, none⟩) (Nat.le_trans HBW.out (Nat.le_of_lt HPG.out)) (.int .u64 0))
          replace HS := Lib.hid (show Blk _ g 58 (svV 2 last ⟨Ax, 32, cx⟩ d0 d1 X ⟨Ak, nk, ck⟩ ⟨A1, 32, c1⟩ 0 0 Sl.nil) from HS.out.set_ 16 (.int .u64 0))
          replace HR := Lib.hid (HR.out.far (p := ⟨g, 16, none⟩) (Nat.ne_of_gt HRG.out) (.int .u64 0))
          replace HQ := Lib.hid (HQ.out.far (p := ⟨g, 16, none⟩) (Nat.ne_of_gt HGQ.out) (.int .u64 0))
          replace HP := Lib.hid (HP.out.but ((But.refl [g] u).setCell (p := ⟨g, 16, none⟩) (.inl (by simp)) (.int .u64 0)) (fun k hk => by simp at hk; rw [hk]; exact HPG.out))
          replace HB := Lib.hid (HB.out.setCell (p := ⟨g, 16, none⟩) (.inr HGW.out) (.int .u64 0))
          generalize u.setCell ⟨g, 16, none⟩ (.int .u64 0) = u at *
          have y5 := HS.out.lt
          have y6 := HS.out.frozen
          skip
          have z0 : u.cell? ⟨g, 0, none⟩ = some (.int .i64 2) := HS.out.cell 0
          have z16 : u.cell? ⟨g, 16, none⟩ = some (.int .u64 0) := HS.out.cell 16
          have z17 : u.cell? ⟨g, 17, none⟩ = some (.int .u64 0) := HS.out.cell 17
          go_upto_region 10 with fail
          clear z0 z16 z17 y5 y6
          skip
          obtain ⟨t, ht⟩ : ∃ t, t = u.heap.size := ⟨_, rfl⟩
          have HT := Lib.hid (show Blk _ t 4 #[.bool true] from ht ▸ Blk.new u 4 #[.bool true])
          have hb1 := bal (b0 u) (.cells #[.bool true] 4)
          have HPT := Lib.hid (show p < t by rw [ht]; exact HP.out.blk.lt)
          have HGT := Lib.hid (show g < t by rw [ht]; exact HS.out.lt)
          have HTW := Lib.hid (show w.heap.size ≤ t by rw [ht]; exact HB.out.size)
          replace HRS := Lib.hid (HRS.out.below (hb1.mono (Nat.le_trans HBW.out (Nat.le_of_lt HP.out.blk.lt))))
          replace HQ := Lib.hid (HQ.out.below hb1 HQ.out.lt)
          replace HS := Lib.hid (HS.out.below hb1 HS.out.lt); replace HR := Lib.hid (HR.out.below hb1 HR.out.lt); replace HP := Lib.hid (HP.out.below hb1 HP.out.blk.lt); replace HB := Lib.hid (HB.out.below hb1); clear hb1
          rw [← ht]
          clear ht HRC
          generalize u.alloc (.cells #[.bool true] 4) = u at *
          have y7 : u.cell? ⟨p, 1, none⟩ = some (.int .i64 0) := HP.out.blk.cell 1
          have y8 := HP.out.blk.lt
          have z16 : u.cell? ⟨g, 16, none⟩ = some (.int .u64 0) := HS.out.cell 16
          have y3 : u.cell? ⟨q, 0, none⟩ = some (.int .i64 64) := HQ.out.cell 0
          have y4 := HQ.out.lt
          have y5 := HS.out.lt
          skip
          go_upto_region 11 with (go_at_call 34; refine (must_any p _ _ HP.out.blk).mono ?_; rintro e1 w1 ⟨rfl, rfl⟩)
          clear z16 y7 y8 y3 y4 y5
          obtain ⟨A3, n3, c3, HP3⟩ : ∃ A3 n3 c3, Hid (Pen u B p A3 n3 c3 (h8 :: hd)) := ⟨_, _, _, HP⟩
          clear HP
          have hbh := byteH_any B p n3 c3 A3 h8 hd u HP3.out 64 nk true q t g Ak ck ⟨HPQ.out, HQ.out.lt⟩ ⟨HPT.out, HT.out.lt⟩ ⟨HPG.out, HS.out.lt⟩ (HQ.out.cell 0) (HT.out.cell 0) (HS.out.cell 14) (by rw [HH8.out]; exact HHL.out) (fun h => by cases h) (fun _ => by
              by_cases hk0 : key = []
              · exact .inl (by rw [← HKL.out, hk0]; rfl)
              · refine .inr ?_
                have e := congrArg List.length (H00.out hk0)
                rw [padTo_len _ _ (by have := HKL.out; have := HKM.out; omega)] at e
                rw [HH8.out, e]
                exact Nat.le_refl _)
          obtain ⟨nh, hnh⟩ : ∃ nh, nh = hd.length := ⟨_, rfl⟩
          rw [HH8.out, ← hnh] at hbh
          have HBH := Lib.hid hbh
          have HNH := Lib.hid hnh
          clear hbh hnh HP3
          have y9 := HT.out.lt
          have y10 := HQ.out.lt
          have y5 := HS.out.lt
          go_upto_region 12 with (go_at_call 25; refine HBH.out.mono ?_; rintro e1 u ⟨rfl, hp1, hb1⟩; replace HRS := Lib.hid (HRS.out.below (hb1.toBelow (Nat.le_trans HBW.out (Nat.le_of_lt (Nat.lt_trans HPG.out HS.out.lt))) (fun k hk => by simp at hk; rw [hk]; exact HBW.out))); clear y9 y10 y5; replace HT := Lib.hid (HT.out.but hb1 (by simp; exact Nat.ne_of_gt HPT.out)); replace HS := Lib.hid (HS.out.but hb1 (by simp; exact Nat.ne_of_gt HPG.out)); replace HR := Lib.hid (HR.out.but hb1 (by simp; exact Nat.ne_of_gt HPR.out)); replace HQ := Lib.hid (HQ.out.but hb1 (by simp; exact Nat.ne_of_gt HPQ.out)); replace HB := Lib.hid (HB.out.trans hb1 (fun k hk => .inl hk)); have HP := Lib.hid hp1; clear hp1 hb1)
          clear HBH
          obtain ⟨A4, n4, c4, HP4⟩ : ∃ A4 n4 c4, Hid (Pen u B p A4 n4 c4 hd) := ⟨_, _, _, HP⟩
          clear HP
          have hnn : nh = n4 := HNH.out.trans HP4.out.len
          have htk := take_any B p n4 c4 nh A4 _ u HP4.out (by omega)
          have HRH := Lib.hid (show RS cB u B A4 hd from HP4.out.rs)
          rw [← hnn, Nat.sub_self, List.drop_eq_nil_of_le (by rw [HNH.out]; exact Nat.le_refl _)] at htk
          have HTK := Lib.hid htk
          have HC4 := Lib.hid (show nh ≤ c4 by have := HP4.out.cap; omega)
          clear htk hnn HP4
          have y5 := HS.out.lt
          have y6 := HS.out.frozen
          go_upto_region 13 with (go_at_call 32; refine HTK.out.mono ?_; rintro e1 u ⟨rfl, hp1, hb1⟩; replace HRS := Lib.hid (HRS.out.below (hb1.toBelow (Nat.le_trans HBW.out (Nat.le_of_lt (Nat.lt_trans HPG.out HS.out.lt))) (fun k hk => by simp at hk; rw [hk]; exact HBW.out))); replace HRH := Lib.hid (HRH.out.below (hb1.toBelow (Nat.le_trans HBW.out (Nat.le_of_lt (Nat.lt_trans HPG.out HS.out.lt))) (fun k hk => by simp at hk; rw [hk]; exact HBW.out))); clear y5 y6; replace HT := Lib.hid (HT.out.but hb1 (by simp; exact Nat.ne_of_gt HPT.out)); replace HS := Lib.hid (HS.out.but hb1 (by simp; exact Nat.ne_of_gt HPG.out)); replace HR := Lib.hid (HR.out.but hb1 (by simp; exact Nat.ne_of_gt HPR.out)); replace HQ := Lib.hid (HQ.out.but hb1 (by simp; exact Nat.ne_of_gt HPQ.out)); replace HB := Lib.hid (HB.out.trans hb1 (fun k hk => .inl hk)); have HP := Lib.hid hp1; clear hp1 hb1; have z18 : u.cell? ⟨g, 18, none⟩ = some (.slice none 0 0) := HS.out.cell 18; have y5 := HS.out.lt; have y6 := HS.out.frozen)
          clear z18 y5 y6 HTK
          replace HRS := Lib.hid (HRS.out.setCell (p := ⟨g, 18, none⟩) (Nat.le_trans HBW.out (Nat.le_of_lt HPG.out)) (.slice A4 nh c4))
          replace HRH := Lib.hid (HRH.out.setCell (p := ⟨g, 18, none⟩) (Nat.le_trans HBW.out (Nat.le_of_lt HPG.out)) (.slice A4 nh c4))
          replace HT := Lib.hid (HT.out.far (p := ⟨g, 18, none⟩) (Nat.ne_of_gt HGT.out) (.slice A4 nh c4))
          replace HS := Lib.hid (show Blk _ g 58 (svV 2 last ⟨Ax, 32, cx⟩ d0 d1 X ⟨Ak, nk, ck⟩ ⟨A1, 32, c1⟩ 0 0 ⟨A4, nh, c4⟩) from HS.out.set_ 18 (.slice A4 nh c4))
          replace HR := Lib.hid (HR.out.far (p := ⟨g, 18, none⟩) (Nat.ne_of_gt HRG.out) (.slice A4 nh c4))
          replace HQ := Lib.hid (HQ.out.far (p := ⟨g, 18, none⟩) (Nat.ne_of_gt HGQ.out) (.slice A4 nh c4))
          replace HP := Lib.hid (HP.out.but ((But.refl [g] u).setCell (p := ⟨g, 18, none⟩) (.inl (by simp)) (.slice A4 nh c4)) (fun k hk => by simp at hk; rw [hk]; exact HPG.out))
          replace HB := Lib.hid (HB.out.setCell (p := ⟨g, 18, none⟩) (.inr HGW.out) (.slice A4 nh c4))
          generalize u.setCell ⟨g, 18, none⟩ (.slice A4 nh c4) = u at *
          obtain ⟨e0, he0⟩ : ∃ e0, e0 = startOf false x := ⟨_, rfl⟩
          have hbu : Below B w u := HB.out.toBelow HBU.out (fun k hk => by simp at hk; rw [hk]; exact HBW.out)
          have hbg := begun_any false Ax cx B 32 x u rfl HXL.out (Nat.le_trans HBU.out hbu.size) (HRX.out.below hbu)
          have hfl : e0.full = 32 := by rw [he0]; rfl
          have hH0 := H0.out
          rw [← he0] at hbg hH0
          have HBG := Lib.hid (show Calls Try.prog 38 #[.int .i64 2, .slice Ax 32 cx] u _ from hbg)
          have HFL := Lib.hid hfl; have HH0 := Lib.hid hH0
          have hmW : ∀ (g k : Nat) (w : World), 0 < k → Sem.run Try.prog (method k e0.T (.pointer (some ⟨g, 0, none⟩)) "quern/node.state") w = .ok (e0.fs, .pointer (some ⟨g, 0, none⟩)) w := fun g k w hk => e0.run_state g k hk w
          have heL : ∀ args w, (callFunc e0.fs args).run Try.prog w = .ok (.enter e0.fs args) w := fun args w => e0.enters_s args w
          clear hbg hbu hfl he0 hH0 H0
          have y7 : u.cell? ⟨p, 1, none⟩ = some (.int .i64 0) := HP.out.blk.cell 1
          have y8 := HP.out.blk.lt
          have y9 := HT.out.lt
          have z9 : u.cell? ⟨t, 0, none⟩ = some (.bool true) := HT.out.cell 0
          have y0 : u.cell? ⟨g, 0, none⟩ = some (.int .i64 2) := HS.out.cell 0
          have y2 : u.cell? ⟨g, 2, none⟩ = some (.slice Ax 32 cx) := HS.out.cell 2
          have y5 := HS.out.lt
          go_upto_region 15 with (go_at_call 38; refine HBG.out.mono ?_; rintro e1 u ⟨g1, rfl, hg1, hin1, hb1⟩; clear y7 y8 y9 z9 y0 y2 y5; replace HT := Lib.hid (HT.out.below hb1 HT.out.lt); replace HQ := Lib.hid (HQ.out.below hb1 HQ.out.lt); replace HRS := Lib.hid (HRS.out.below (hb1.mono (Nat.le_trans HBW.out (Nat.le_of_lt HP.out.blk.lt)))); replace HRH := Lib.hid (HRH.out.below (hb1.mono (Nat.le_trans HBW.out (Nat.le_of_lt HP.out.blk.lt)))); replace HS := Lib.hid (HS.out.below hb1 HS.out.lt); replace HR := Lib.hid (HR.out.below hb1 HR.out.lt); replace HP := Lib.hid (HP.out.below hb1 HP.out.blk.lt); replace HB := Lib.hid (HB.out.below hb1); clear hb1)
          have hst1 := eng_state e0 g1 _ none 0 u hin1
          refine hst1.mono ?_
          clear hst1 hin1 hg1 HBG
          rintro e1 u ⟨A5, c5, A6, c6, rfl, ho5, ho6, hb1⟩
          have HO5 := Lib.hid ho5.reads
          replace HT := Lib.hid (HT.out.below hb1 HT.out.lt); replace HQ := Lib.hid (HQ.out.below hb1 HQ.out.lt); replace HRS := Lib.hid (HRS.out.below (hb1.mono (Nat.le_trans HBW.out (Nat.le_of_lt HP.out.blk.lt)))); replace HRH := Lib.hid (HRH.out.below (hb1.mono (Nat.le_trans HBW.out (Nat.le_of_lt HP.out.blk.lt)))); replace HS := Lib.hid (HS.out.below hb1 HS.out.lt); replace HR := Lib.hid (HR.out.below hb1 HR.out.lt); replace HP := Lib.hid (HP.out.below hb1 HP.out.blk.lt); replace HB := Lib.hid (HB.out.below hb1); clear hb1
          clear ho5 ho6
          go_upto_region 15 with fail
          clear hmW heL
          have hb1 := bal (b0 u) (.cells #[.int .u64 (wrd e0.lo), .int .u64 (wrd e0.hi)] 56)
          replace HO5 := Lib.hid ((HO5.out.below hb1).more hb1.size)
          replace HT := Lib.hid (HT.out.below hb1 HT.out.lt); replace HQ := Lib.hid (HQ.out.below hb1 HQ.out.lt); replace HRS := Lib.hid (HRS.out.below (hb1.mono (Nat.le_trans HBW.out (Nat.le_of_lt HP.out.blk.lt)))); replace HRH := Lib.hid (HRH.out.below (hb1.mono (Nat.le_trans HBW.out (Nat.le_of_lt HP.out.blk.lt)))); replace HS := Lib.hid (HS.out.below hb1 HS.out.lt); replace HR := Lib.hid (HR.out.below hb1 HR.out.lt); replace HP := Lib.hid (HP.out.below hb1 HP.out.blk.lt); replace HB := Lib.hid (HB.out.below hb1); clear hb1
          generalize u.alloc (.cells #[.int .u64 (wrd e0.lo), .int .u64 (wrd e0.hi)] 56) = u at *
          have y7 : u.cell? ⟨p, 1, none⟩ = some (.int .i64 0) := HP.out.blk.cell 1
          have y8 := HP.out.blk.lt
          have y9 := HT.out.lt
          have z9 : u.cell? ⟨t, 0, none⟩ = some (.bool true) := HT.out.cell 0
          have y15 : u.cell? ⟨g, 15, none⟩ = some (.slice A1 32 c1) := HS.out.cell 15
          have y14 : u.cell? ⟨g, 14, none⟩ = some (.slice Ak nk ck) := HS.out.cell 14
          have y5 := HS.out.lt
          rcases Nat.eq_zero_or_pos nk with hk0 | hk0
          · have HK0 := Lib.hid hk0
            have hk1 : ¬ (0 < nk) := by omega
            clear hk0
            go_upto_region 18 with (first
              | (go_at_call 39; refine (samew_any A5 A1 _ c5 _ c1 e0.stateL st u (by rw [← HH0.out, HST.out, HFL.out]) HST.out HO5.out (HRS.out.more (Nat.le_trans HBW.out (Nat.le_of_lt HP.out.blk.lt))) HH0.out.symm).mono ?_; rintro e1 w1 ⟨rfl, rfl⟩)
              | (go_at_call 34; refine (must_any p _ _ HP.out.blk).mono ?_; rintro e1 w1 ⟨rfl, rfl⟩))
            clear y7 y8 y9 z9 y15 y14 y5
            have hu2 := Lib.hid Try.underlying58
            have hsz2 := Lib.hid (svV_size 2 last ⟨Ax, 32, cx⟩ d0 d1 X ⟨Ak, nk, ck⟩ ⟨A1, 32, c1⟩ 0 0 ⟨A4, nh, c4⟩)
            have hon2 := Lib.hid (svV_ones 2 last ⟨Ax, 32, cx⟩ d0 d1 X ⟨Ak, nk, ck⟩ ⟨A1, 32, c1⟩ 0 0 ⟨A4, nh, c4⟩)
            obtain ⟨SV, hSV⟩ : ∃ SV, SV = svV 2 last ⟨Ax, 32, cx⟩ d0 d1 X ⟨Ak, nk, ck⟩ ⟨A1, 32, c1⟩ 0 0 ⟨A4, nh, c4⟩ := ⟨_, rfl⟩
            rw [← hSV] at HS hsz2 hon2
            have hss := Lib.hid (show sv0.size = SV.size by rw [hSV]; rfl)
            have HSV := Lib.hid hSV
            clear hSV
            have y7 : u.cell? ⟨p, 1, none⟩ = some (.int .i64 0) := HP.out.blk.cell 1
            have y8 := HP.out.blk.lt
            have y9 := HT.out.lt
            have z9 : u.cell? ⟨t, 0, none⟩ = some (.bool true) := HT.out.cell 0
            go_wp2_with (first
              | (refine wpList_load_row rfl 58 _ rfl g rfl 58 SV (0, 0) _ HS.out hu2.out rfl hsz2.out ?_)
              | (refine wpList_store_row rfl 58 _ _ rfl r SV rfl rfl 58 sv0 HR.out hsz2.out hss.out hon2.out ?_))
            have hb9 : Below r u (u.setRow r SV) := below_row (Below.refl _ _) (Nat.le_refl _) _
            have hbb : Below B u (u.setRow r SV) := hb9.mono (Nat.le_trans HBW.out (Nat.le_of_lt HPR.out))
            refine bodyPost_ret (results_cell_row rfl _ _ r _ _ (0, 0) _ rfl (HR.out.row SV) hu2.out rfl hsz2.out) rfl ?_
            refine ⟨A1, A4, c1, c4, _, _, ?_, HRS.out.below hbb, HRH.out.below hbb, HP.out.below hb9 HPR.out, HB.out.lowB (hb9.mono HRW.out)⟩
            rw [HSV.out, ← HNH.out]
          · have hk1 : (nk : Int) > 0 := by omega
            go_upto_region 17 with (first
              | (go_at_call 39; refine (samew_any A5 A1 _ c5 _ c1 e0.stateL st u (by rw [← HH0.out, HST.out, HFL.out]) HST.out HO5.out (HRS.out.more (Nat.le_trans HBW.out (Nat.le_of_lt HP.out.blk.lt))) HH0.out.symm).mono ?_; rintro e1 w1 ⟨rfl, rfl⟩)
              | (go_at_call 34; refine (must_any p _ _ HP.out.blk).mono ?_; rintro e1 w1 ⟨rfl, rfl⟩))
            clear y7 y8 y9 z9 y15 y14 y5 hk1
            have hkne : key ≠ [] := by intro e; have h := HKL.out; rw [e] at h; simp at h; omega
            have hhd := H00.out hkne
            have hkle : key.length ≤ 64 := by have := HKL.out; have := HKM.out; omega
            have hnb : nh = 64 := by rw [HNH.out, hhd, padTo_len _ _ hkle]
            have HHD := Lib.hid hhd; have HKLE := Lib.hid hkle; have HNB := Lib.hid hnb
            have hsl : (64 : Int) ≤ (c4 : Int) := by have := HC4.out; omega
            have hu0 : Below B w u := HB.out.toBelow HBU.out (fun k hk => by simp at hk; rw [hk]; exact HBW.out)
            have HRKU := Lib.hid ((HRK.out.below hu0).more (Nat.le_trans HBW.out (Nat.le_of_lt HP.out.blk.lt)))
            clear hkne hhd hkle hnb hu0 hk0
            have y18 : u.cell? ⟨g, 18, none⟩ = some (.slice A4 nh c4) := HS.out.cell 18
            have y14 : u.cell? ⟨g, 14, none⟩ = some (.slice Ak nk ck) := HS.out.cell 14
            have y3 : u.cell? ⟨q, 0, none⟩ = some (.int .i64 64) := HQ.out.cell 0
            have y5 := HS.out.lt
            have y10 := HQ.out.lt
            refine wp_region_B (Ords.of [(0, 0), (0, 1), (0, 2), (0, 3), (0, 4), (0, 5), (0, 6), (0, 7), (2, 8), (2, 9), (2, 10)] .fin) (by kernel_rfl) rfl (by kernel_rfl) (by kernel_rfl) (fun c a d v w h => by cases d <;> exact h) ?_
            iterate 2 (refine ords_pure rfl (fun K hK => ?_); go_simp; refine hK _ ?_; clear hK K; refine ords_pure rfl (fun K hK => ?_); go_simp; refine hK _ ?_; clear hK K; refine ords_heldK rfl (fun K K2 hK hK2 => ?_); go_simp; refine ⟨hK2 _ (fun w9 hS => ?_), hK _ ?_⟩; (clear hK hK2 K K2; (first | refine withN hS ?_ | refine withD hS ?_ | refine with0 hS ?_); intro hcS hfS; go_simp); (clear hK hK2 K K2); refine ords_heldK rfl (fun K K2 hK hK2 => ?_); go_simp; refine ⟨hK2 _ (fun w9 hS => ?_), hK _ ?_⟩; (clear hK hK2 K K2; (first | refine withN hS ?_ | refine withD hS ?_ | refine with0 hS ?_); intro hcS hfS; go_simp); (clear hK hK2 K K2))
            refine ords_loud rfl (fun n1 => ?_)
            go_wp2_with (go_at_call 40; refine (padded_any Ak ck 64 nk key _ HKL.out (by have := HKLE.out; have := HKL.out; omega) (by decide) (HRKU.out.drewN _)).mono ?_; rintro e1 w1 ⟨A7, c7, rfl, ho7, hb7⟩; have HO7 := Lib.hid ho7.reads; have HB7 := Lib.hid (bcall (bdr (b0 u) _) hb7); clear ho7 hb7)
            refine ⟨HB7.out, ?_⟩
            refine ords_loud rfl (fun n2 => ?_)
            go_wp2_with (go_at_call 39; refine (samew_any A4 A7 _ c4 _ c7 hd (padTo key 64) _ (by rw [← HNH.out, HNB.out]) (padTo_len _ _ HKLE.out) (((HRH.out.below (HB7.out.mono (Nat.le_trans HBW.out (Nat.le_of_lt HP.out.blk.lt)))).more (Nat.le_trans HBW.out (Nat.le_trans (Nat.le_of_lt HP.out.blk.lt) HB7.out.size))).drewN _) (HO7.out.drewN _) HHD.out).mono ?_; rintro e2 w2 ⟨rfl, rfl⟩)
            refine ⟨bdr HB7.out _, ?_⟩
            refine ords_loud rfl (fun n3 => ?_)
            go_wp2_with (go_at_call 34; refine (must_any p _ _ ((HP.out.blk.below HB7.out HP.out.blk.lt).drewN _)).mono ?_; rintro e3 w3 ⟨rfl, rfl⟩)
            refine ⟨bdr HB7.out _, ?_⟩
            refine ords_end (fun n4 => ?_)
            have hb1 := bdr (bdr HB7.out (n2 + n3)) n4
            clear y18 y14 y3 y5 y10 hsl HRKU HO7 HB7
            replace HT := Lib.hid (HT.out.below hb1 HT.out.lt); replace HQ := Lib.hid (HQ.out.below hb1 HQ.out.lt); replace HRS := Lib.hid (HRS.out.below (hb1.mono (Nat.le_trans HBW.out (Nat.le_of_lt HP.out.blk.lt)))); replace HRH := Lib.hid (HRH.out.below (hb1.mono (Nat.le_trans HBW.out (Nat.le_of_lt HP.out.blk.lt)))); replace HS := Lib.hid (HS.out.below hb1 HS.out.lt); replace HR := Lib.hid (HR.out.below hb1 HR.out.lt); replace HP := Lib.hid (HP.out.below hb1 HP.out.blk.lt); replace HB := Lib.hid (HB.out.below hb1); clear hb1
            generalize (w1.drewN (n2 + n3)).drewN n4 = u at *
            have hu2 := Lib.hid Try.underlying58
            have hsz2 := Lib.hid (svV_size 2 last ⟨Ax, 32, cx⟩ d0 d1 X ⟨Ak, nk, ck⟩ ⟨A1, 32, c1⟩ 0 0 ⟨A4, nh, c4⟩)
            have hon2 := Lib.hid (svV_ones 2 last ⟨Ax, 32, cx⟩ d0 d1 X ⟨Ak, nk, ck⟩ ⟨A1, 32, c1⟩ 0 0 ⟨A4, nh, c4⟩)
            obtain ⟨SV, hSV⟩ : ∃ SV, SV = svV 2 last ⟨Ax, 32, cx⟩ d0 d1 X ⟨Ak, nk, ck⟩ ⟨A1, 32, c1⟩ 0 0 ⟨A4, nh, c4⟩ := ⟨_, rfl⟩
            rw [← hSV] at HS hsz2 hon2
            have hss := Lib.hid (show sv0.size = SV.size by rw [hSV]; rfl)
            have HSV := Lib.hid hSV
            clear hSV
            have y7 : u.cell? ⟨p, 1, none⟩ = some (.int .i64 0) := HP.out.blk.cell 1
            have y8 := HP.out.blk.lt
            have y9 := HT.out.lt
            have z9 : u.cell? ⟨t, 0, none⟩ = some (.bool true) := HT.out.cell 0
            go_wp2_with (first
              | (refine wpList_load_row rfl 58 _ rfl g rfl 58 SV (0, 0) _ HS.out hu2.out rfl hsz2.out ?_)
              | (refine wpList_store_row rfl 58 _ _ rfl r SV rfl rfl 58 sv0 HR.out hsz2.out hss.out hon2.out ?_))
            have hb9 : Below r u (u.setRow r SV) := below_row (Below.refl _ _) (Nat.le_refl _) _
            have hbb : Below B u (u.setRow r SV) := hb9.mono (Nat.le_trans HBW.out (Nat.le_of_lt HPR.out))
            refine bodyPost_ret (results_cell_row rfl _ _ r _ _ (0, 0) _ rfl (HR.out.row SV) hu2.out rfl hsz2.out) rfl ?_
            refine ⟨A1, A4, c1, c4, _, _, ?_, HRS.out.below hbb, HRH.out.below hbb, HP.out.below hb9 HPR.out, HB.out.lowB (hb9.mono HRW.out)⟩
            rw [HSV.out, ← HNH.out]
set_option maxRecDepth 20000 in
            set_option maxHeartbeats 8000000 in
            theorem tailSmaS_any (B p n c : Nat) (A : Option Addr) (last : Bool) (lo : UInt64) (hlz : lo ≠ 0) (hmod : lo.toNat % 64 = 0) (x key st cnt hd : List UInt8) (h8 : UInt8) (X : Pr) (d0 d1 : Int) (Ax Ak : Option Addr) (cx ck nk : Nat) (w : World)
                (hp : Pen w B p A n c (st ++ (cnt ++ (h8 :: hd)))) (hst : st.length = 32) (hcn : cnt.length = 8) (hlo : word (cnt.take 8) = lo)  (hh8 : h8.toNat = hd.length) (hhl : hd.length ≤ 64) (hxl : x.length = 32) (hrx : RS cB w B Ax x) (hkl : key.length = nk) (hkm : nk ≤ 32) (hrk : RS cB w B Ak key) (h1 : 0 < hd.length) :
                Calls Try.prog 19 #[.pointer (some ⟨p, 0, none⟩), .agg (svV 2 last ⟨Ax, 32, cx⟩ d0 d1 X ⟨Ak, nk, ck⟩ Sl.nil 0 0 Sl.nil)] w fun r w' => ∃ (As Ah : Option Addr) (cs ch : Nat) (A' : Option Addr) (c' : Nat),
                  r = .returned (.agg (svV 2 last ⟨Ax, 32, cx⟩ d0 d1 X ⟨Ak, nk, ck⟩ ⟨As, 32, cs⟩ (wrd lo) 0 ⟨Ah, hd.length, ch⟩)) ∧ RS cB w' B As st ∧ RS cB w' B Ah hd ∧ Pen w' B p A' 0 c' [] ∧ But [p] w w' := by
              have hbo := fun W => show Calls Try.prog 35 #[.int .i64 2] W fun e w' => e = .returned (.int .i64 64) ∧ W = w' from blockOf_any false W
              have HBO := Lib.hid hbo; have HP := Lib.hid hp; have HST := Lib.hid hst; have HCN := Lib.hid hcn; have HLO := Lib.hid hlo; have HH8 := Lib.hid hh8; have HHL := Lib.hid hhl; have HXL := Lib.hid hxl; have HRX := Lib.hid hrx; have HKL := Lib.hid hkl; have HKM := Lib.hid hkm; have HRK := Lib.hid hrk
              have H1 := Lib.hid h1
              obtain ⟨lv, hlv⟩ : ∃ lv, wrd lo = lv := ⟨_, rfl⟩
              have hlv2 : (lo.toNat : Int) = lv := hlv
              have HLZ := Lib.hid (show ¬ lv = 0 from fun e => hlz (UInt64.toNat_inj.1 (show lo.toNat = 0 by omega)))
              have HMT := Lib.hid (show lv.tmod 64 = 0 by rw [Int.tmod_eq_emod_of_nonneg (by omega)]; omega)
              have HLV := Lib.hid hlv
              clear h1 hlz hmod hlv hlv2
              have hpl := hp.blk.lt
              have HBU := Lib.hid (show B ≤ w.heap.size from Nat.le_trans hp.low (Nat.le_of_lt hpl))
              skip
              clear hbo hp hst hcn hlo hh8 hhl hxl hrx hkl hkm hrk
              obtain ⟨V0, hV0⟩ : ∃ V0, V0 = svV 2 last ⟨Ax, 32, cx⟩ d0 d1 X ⟨Ak, nk, ck⟩ Sl.nil 0 0 Sl.nil := ⟨_, rfl⟩
              have hV1 : (#[.int .i64 2, .bool last, .slice Ax 32 cx, .int .i64 d0, .int .i64 d1, .int .i64 X.fanout, .int .i64 X.depth, .int .u32 X.leaf, .int .u64 X.offset, .int .u32 X.xof, .int .i64 X.nd, .int .i64 X.inner, .slice X.salt.A X.salt.n X.salt.c, .slice X.pers.A X.pers.n X.pers.c, .slice Ak nk ck, .slice none 0 0, .int .u64 0, .int .u64 0, .slice none 0 0] : Array Value) = V0 := hV0.symm
              show Calls _ _ #[.pointer (some ⟨p, 0, none⟩), .agg #[.int .i64 2, .bool last, .slice Ax 32 cx, .int .i64 d0, .int .i64 d1, .int .i64 X.fanout, .int .i64 X.depth, .int .u32 X.leaf, .int .u64 X.offset, .int .u32 X.xof, .int .i64 X.nd, .int .i64 X.inner, .slice X.salt.A X.salt.n X.salt.c, .slice X.pers.A X.pers.n X.pers.c, .slice Ak nk ck, .slice none 0 0, .int .u64 0, .int .u64 0, .slice none 0 0]] w _
              have HV0 := Lib.hid hV0; have HV1 := Lib.hid hV1
              clear hV0 hV1
              go_enter Try.func19, Try.ntmps19
              have hsz1 : (w.alloc (.cells V0 58)).heap.size = w.heap.size + 1 := by simp
              have hR := Blk.new (w.alloc (.cells V0 58)) 58 sv0
              rw [hsz1] at hR
              have HR := Lib.hid hR
              have HS := Lib.hid ((Blk.new w 58 V0).alloc (.cells sv0 58))
              have hb9 := bal (bal (b0 w) (.cells V0 58)) (.cells sv0 58)
              have HB := Lib.hid (But.of hb9 [p])
              replace HP := Lib.hid (HP.out.below hb9 hpl)
              clear hb9 hR hsz1
              go_upto_region 1 with fail
              simp only [sv0_eq, HV1.out]
              generalize (w.alloc (.cells V0 58)).alloc (.cells sv0 58) = u at *
              obtain ⟨g, hg⟩ : ∃ g, g = w.heap.size := ⟨_, rfl⟩
              obtain ⟨r, hr⟩ : ∃ r, r = g + 1 := ⟨_, rfl⟩
              rw [← hg] at HS HR ⊢
              rw [← hr] at HR ⊢
              have HPG := Lib.hid (show p < g by omega)
              have HPR := Lib.hid (show p < r by omega)
              have HRG := Lib.hid (show g < r by omega)
              have HGW := Lib.hid (show w.heap.size ≤ g by omega)
              have HRW := Lib.hid (show w.heap.size ≤ r by omega)
              have HBW := Lib.hid (show B ≤ p from HP.out.low)
              clear hg hr hpl
              rw [HV0.out] at HS
              clear HV0 HV1
              have y0 : u.cell? ⟨g, 0, none⟩ = some (.int .i64 2) := HS.out.cell 0
              have yg := HS.out.lt
              go_upto_region 2 with (go_at_call 35; refine (HBO.out _).mono ?_; rintro e1 u ⟨rfl, rfl⟩)
              clear y0 yg
              obtain ⟨q, hq⟩ : ∃ q, q = u.heap.size := ⟨_, rfl⟩
              have HQ := Lib.hid (show Blk _ q 3 #[.int .i64 64] from hq ▸ Blk.new u 3 #[.int .i64 64])
              have hb1 := bal (b0 u) (.cells #[.int .i64 64] 3)
              have HPQ := Lib.hid (show p < q by rw [hq]; exact HP.out.blk.lt)
              have HGQ := Lib.hid (show g < q by rw [hq]; exact HS.out.lt)
              have HQW := Lib.hid (show w.heap.size ≤ q by rw [hq]; exact HB.out.size)
              replace HS := Lib.hid (HS.out.below hb1 HS.out.lt); replace HR := Lib.hid (HR.out.below hb1 HR.out.lt); replace HP := Lib.hid (HP.out.below hb1 HP.out.blk.lt); replace HB := Lib.hid (HB.out.below hb1); clear hb1
              rw [← hq]
              clear hq
              generalize u.alloc (.cells #[.int .i64 64] 3) = u at *
              obtain ⟨A1, n1, c1, HP1⟩ : ∃ A1 n1 c1, Hid (Pen u B p A1 n1 c1 (st ++ (cnt ++ (h8 :: hd)))) := ⟨_, _, _, HP⟩
              clear HP
              have hbn : 32 ≤ n1 := by have h := HP1.out.len; rw [List.length_append, HST.out] at h; omega
              have htk := take_any B p n1 c1 32 A1 _ u HP1.out hbn
              have HRS := Lib.hid (show RS cB u B A1 st by have h := HP1.out.rs.take 32; rwa [List.take_left' HST.out] at h)
              rw [List.drop_left' HST.out] at htk
              have HTK := Lib.hid (show Calls Try.prog 32 #[.pointer (some ⟨p, 0, none⟩), .int .i64 32] u _ from htk)
              have y3 : u.cell? ⟨q, 0, none⟩ = some (.int .i64 64) := HQ.out.cell 0
              have y4 := HQ.out.lt
              have y5 := HS.out.lt
              have y6 := HS.out.frozen
              clear htk hbn HP1
              go_upto_region 3 with (go_at_call 32; refine HTK.out.mono ?_; rintro e1 u ⟨rfl, hp1, hb1⟩; replace HRS := Lib.hid (HRS.out.below (hb1.toBelow (Nat.le_trans HBW.out (Nat.le_of_lt (Nat.lt_trans HPG.out HS.out.lt))) (fun k hk => by simp at hk; rw [hk]; exact HBW.out))); clear y3 y4 y5 y6; replace HS := Lib.hid (HS.out.but hb1 (by simp; exact Nat.ne_of_gt HPG.out)); replace HR := Lib.hid (HR.out.but hb1 (by simp; exact Nat.ne_of_gt HPR.out)); replace HQ := Lib.hid (HQ.out.but hb1 (by simp; exact Nat.ne_of_gt HPQ.out)); replace HB := Lib.hid (HB.out.trans hb1 (fun k hk => .inl hk)); have HP := Lib.hid hp1; clear hp1 hb1; have z15 : u.cell? ⟨g, 15, none⟩ = some (.slice none 0 0) := HS.out.cell 15; have y5 := HS.out.lt; have y6 := HS.out.frozen)
              clear z15
              replace HRS := Lib.hid (HRS.out.setCell (p := ⟨g, 15, none⟩) (Nat.le_trans HBW.out (Nat.le_of_lt HPG.out)) (.slice A1 32 c1))
              replace HS := Lib.hid (show Blk _ g 58 (svV 2 last ⟨Ax, 32, cx⟩ d0 d1 X ⟨Ak, nk, ck⟩ ⟨A1, 32, c1⟩ 0 0 Sl.nil) from HS.out.set_ 15 (.slice A1 32 c1))
              replace HR := Lib.hid (HR.out.far (p := ⟨g, 15, none⟩) (Nat.ne_of_gt HRG.out) (.slice A1 32 c1))
              replace HQ := Lib.hid (HQ.out.far (p := ⟨g, 15, none⟩) (Nat.ne_of_gt HGQ.out) (.slice A1 32 c1))
              replace HP := Lib.hid (HP.out.but ((But.refl [g] u).setCell (p := ⟨g, 15, none⟩) (.inl (by simp)) (.slice A1 32 c1)) (fun k hk => by simp at hk; rw [hk]; exact HPG.out))
              replace HB := Lib.hid (HB.out.setCell (p := ⟨g, 15, none⟩) (.inr HGW.out) (.slice A1 32 c1))
              generalize u.setCell ⟨g, 15, none⟩ (.slice A1 32 c1) = u at *
              clear y5 y6
              obtain ⟨A2, n2, c2, HP2⟩ : ∃ A2 n2 c2, Hid (Pen u B p A2 n2 c2 (cnt ++ (h8 :: hd))) := ⟨_, _, _, HP⟩
              clear HP
              have hbn : 8 ≤ n2 := by have h := HP2.out.len; rw [List.length_append, HCN.out] at h; omega
              have htk := take_any B p n2 c2 8 A2 _ u HP2.out hbn
              have HRC := Lib.hid (show RS cB u B A2 cnt by have h := HP2.out.rs.take 8; rwa [List.take_left' HCN.out] at h)
              rw [List.drop_left' HCN.out] at htk
              have HTK2 := Lib.hid (show Calls Try.prog 32 #[.pointer (some ⟨p, 0, none⟩), .int .i64 8] u _ from htk)
              have y3 : u.cell? ⟨q, 0, none⟩ = some (.int .i64 64) := HQ.out.cell 0
              have y4 := HQ.out.lt
              clear htk hbn HP2 HTK
              go_upto_region 6 with (go_at_call 32; refine HTK2.out.mono ?_; rintro e1 u ⟨rfl, hp1, hb1⟩; replace HRS := Lib.hid (HRS.out.below (hb1.toBelow (Nat.le_trans HBW.out (Nat.le_of_lt (Nat.lt_trans HPG.out HS.out.lt))) (fun k hk => by simp at hk; rw [hk]; exact HBW.out))); replace HRC := Lib.hid (HRC.out.below (hb1.toBelow (Nat.le_trans HBW.out (Nat.le_of_lt (Nat.lt_trans HPG.out HS.out.lt))) (fun k hk => by simp at hk; rw [hk]; exact HBW.out))); clear y3 y4; replace HS := Lib.hid (HS.out.but hb1 (by simp; exact Nat.ne_of_gt HPG.out)); replace HR := Lib.hid (HR.out.but hb1 (by simp; exact Nat.ne_of_gt HPR.out)); replace HQ := Lib.hid (HQ.out.but hb1 (by simp; exact Nat.ne_of_gt HPQ.out)); replace HB := Lib.hid (HB.out.trans hb1 (fun k hk => .inl hk)); have HP := Lib.hid hp1; clear hp1 hb1; have y5 := HS.out.lt; have y6 := HS.out.frozen; have y7 : u.cell? ⟨p, 1, none⟩ = some (.int .i64 0) := HP.out.blk.cell 1; have y8 := HP.out.blk.lt)
              clear y7 y8 HTK2
              have hl0 := load64_any A2 c2 8 0 B cnt u HCN.out (by decide) HRC.out (by decide)
              rw [List.drop_zero, HLO.out] at hl0
              rw [HLV.out] at hl0
              have HL0 := Lib.hid (show Calls Try.prog 36 #[.slice A2 8 c2, .int .i64 0] u _ from hl0)
              clear hl0
              have z16 : u.cell? ⟨g, 16, none⟩ = some (.int .u64 0) := HS.out.cell 16
              have z17 : u.cell? ⟨g, 17, none⟩ = some (.int .u64 0) := HS.out.cell 17
              go_upto_region 7 with (go_at_call 36; refine HL0.out.mono ?_; rintro e1 w1 ⟨rfl, rfl⟩)
              clear z16 z17 HL0 y5 y6
              replace HRS := Lib.hid (HRS.out.setCell (p := ⟨g, 16, none⟩) (Nat.le_trans HBW.out (Nat.le_of_lt HPG.out)) (.int .u64 lv))
              replace HRC := Lib.hid (HRC.out.setCell (p := ⟨g, 16, none⟩) (Nat.le_trans HBW.out (Nat.le_of_lt HPG.out)) (.int .u64 lv))
              replace HS := Lib.hid (show Blk _ g 58 (svV 2 last ⟨Ax, 32, cx⟩ d0 d1 X ⟨Ak, nk, ck⟩ ⟨A1, 32, c1⟩ lv 0 Sl.nil) from HS.out.set_ 16 (.int .u64 lv))
              replace HR := Lib.hid (HR.out.far (p := ⟨g, 16, none⟩) (Nat.ne_of_gt HRG.out) (.int .u64 lv))
              replace HQ := Lib.hid (HQ.out.far (p := ⟨g, 16, none⟩) (Nat.ne_of_gt HGQ.out) (.int .u64 lv))
              replace HP := Lib.hid (HP.out.but ((But.refl [g] u).setCell (p := ⟨g, 16, none⟩) (.inl (by simp)) (.int .u64 lv)) (fun k hk => by simp at hk; rw [hk]; exact HPG.out))
              replace HB := Lib.hid (HB.out.setCell (p := ⟨g, 16, none⟩) (.inr HGW.out) (.int .u64 lv))
              generalize u.setCell ⟨g, 16, none⟩ (.int .u64 lv) = u at *
              have y5 := HS.out.lt
              have y6 := HS.out.frozen
              have hz0 := HLZ.out
              have z0 : u.cell? ⟨g, 0, none⟩ = some (.int .i64 2) := HS.out.cell 0
              have z16 : u.cell? ⟨g, 16, none⟩ = some (.int .u64 lv) := HS.out.cell 16
              have z17 : u.cell? ⟨g, 17, none⟩ = some (.int .u64 0) := HS.out.cell 17
              go_upto_region 10 with fail
              clear z0 z16 z17 y5 y6
              clear hz0
              obtain ⟨t, ht⟩ : ∃ t, t = u.heap.size := ⟨_, rfl⟩
              have HT := Lib.hid (show Blk _ t 4 #[.bool false] from ht ▸ Blk.new u 4 #[.bool false])
              have hb1 := bal (b0 u) (.cells #[.bool false] 4)
              have HPT := Lib.hid (show p < t by rw [ht]; exact HP.out.blk.lt)
              have HGT := Lib.hid (show g < t by rw [ht]; exact HS.out.lt)
              have HTW := Lib.hid (show w.heap.size ≤ t by rw [ht]; exact HB.out.size)
              replace HRS := Lib.hid (HRS.out.below (hb1.mono (Nat.le_trans HBW.out (Nat.le_of_lt HP.out.blk.lt))))
              replace HQ := Lib.hid (HQ.out.below hb1 HQ.out.lt)
              replace HS := Lib.hid (HS.out.below hb1 HS.out.lt); replace HR := Lib.hid (HR.out.below hb1 HR.out.lt); replace HP := Lib.hid (HP.out.below hb1 HP.out.blk.lt); replace HB := Lib.hid (HB.out.below hb1); clear hb1
              rw [← ht]
              clear ht HRC
              generalize u.alloc (.cells #[.bool false] 4) = u at *
              have y7 : u.cell? ⟨p, 1, none⟩ = some (.int .i64 0) := HP.out.blk.cell 1
              have y8 := HP.out.blk.lt
              have z16 : u.cell? ⟨g, 16, none⟩ = some (.int .u64 lv) := HS.out.cell 16
              have y3 : u.cell? ⟨q, 0, none⟩ = some (.int .i64 64) := HQ.out.cell 0
              have y4 := HQ.out.lt
              have y5 := HS.out.lt
              have hmt := HMT.out
              go_upto_region 11 with (go_at_call 34; refine (must_any p _ _ HP.out.blk).mono ?_; rintro e1 w1 ⟨rfl, rfl⟩)
              clear z16 y7 y8 y3 y4 y5
              obtain ⟨A3, n3, c3, HP3⟩ : ∃ A3 n3 c3, Hid (Pen u B p A3 n3 c3 (h8 :: hd)) := ⟨_, _, _, HP⟩
              clear HP
              have hbh := byteH_any B p n3 c3 A3 h8 hd u HP3.out 64 nk false q t g Ak ck ⟨HPQ.out, HQ.out.lt⟩ ⟨HPT.out, HT.out.lt⟩ ⟨HPG.out, HS.out.lt⟩ (HQ.out.cell 0) (HT.out.cell 0) (HS.out.cell 14) (by rw [HH8.out]; exact HHL.out) (fun _ => by rw [HH8.out]; exact H1.out) (fun h => by cases h)
              obtain ⟨nh, hnh⟩ : ∃ nh, nh = hd.length := ⟨_, rfl⟩
              rw [HH8.out, ← hnh] at hbh
              have HBH := Lib.hid hbh
              have HNH := Lib.hid hnh
              clear hbh hnh HP3
              have y9 := HT.out.lt
              have y10 := HQ.out.lt
              have y5 := HS.out.lt
              go_upto_region 12 with (go_at_call 25; refine HBH.out.mono ?_; rintro e1 u ⟨rfl, hp1, hb1⟩; replace HRS := Lib.hid (HRS.out.below (hb1.toBelow (Nat.le_trans HBW.out (Nat.le_of_lt (Nat.lt_trans HPG.out HS.out.lt))) (fun k hk => by simp at hk; rw [hk]; exact HBW.out))); clear y9 y10 y5; replace HT := Lib.hid (HT.out.but hb1 (by simp; exact Nat.ne_of_gt HPT.out)); replace HS := Lib.hid (HS.out.but hb1 (by simp; exact Nat.ne_of_gt HPG.out)); replace HR := Lib.hid (HR.out.but hb1 (by simp; exact Nat.ne_of_gt HPR.out)); replace HQ := Lib.hid (HQ.out.but hb1 (by simp; exact Nat.ne_of_gt HPQ.out)); replace HB := Lib.hid (HB.out.trans hb1 (fun k hk => .inl hk)); have HP := Lib.hid hp1; clear hp1 hb1)
              clear HBH
              obtain ⟨A4, n4, c4, HP4⟩ : ∃ A4 n4 c4, Hid (Pen u B p A4 n4 c4 hd) := ⟨_, _, _, HP⟩
              clear HP
              have hnn : nh = n4 := HNH.out.trans HP4.out.len
              have htk := take_any B p n4 c4 nh A4 _ u HP4.out (by omega)
              have HRH := Lib.hid (show RS cB u B A4 hd from HP4.out.rs)
              rw [← hnn, Nat.sub_self, List.drop_eq_nil_of_le (by rw [HNH.out]; exact Nat.le_refl _)] at htk
              have HTK := Lib.hid htk
              have HC4 := Lib.hid (show nh ≤ c4 by have := HP4.out.cap; omega)
              clear htk hnn HP4
              have y5 := HS.out.lt
              have y6 := HS.out.frozen
              go_upto_region 13 with (go_at_call 32; refine HTK.out.mono ?_; rintro e1 u ⟨rfl, hp1, hb1⟩; replace HRS := Lib.hid (HRS.out.below (hb1.toBelow (Nat.le_trans HBW.out (Nat.le_of_lt (Nat.lt_trans HPG.out HS.out.lt))) (fun k hk => by simp at hk; rw [hk]; exact HBW.out))); replace HRH := Lib.hid (HRH.out.below (hb1.toBelow (Nat.le_trans HBW.out (Nat.le_of_lt (Nat.lt_trans HPG.out HS.out.lt))) (fun k hk => by simp at hk; rw [hk]; exact HBW.out))); clear y5 y6; replace HT := Lib.hid (HT.out.but hb1 (by simp; exact Nat.ne_of_gt HPT.out)); replace HS := Lib.hid (HS.out.but hb1 (by simp; exact Nat.ne_of_gt HPG.out)); replace HR := Lib.hid (HR.out.but hb1 (by simp; exact Nat.ne_of_gt HPR.out)); replace HQ := Lib.hid (HQ.out.but hb1 (by simp; exact Nat.ne_of_gt HPQ.out)); replace HB := Lib.hid (HB.out.trans hb1 (fun k hk => .inl hk)); have HP := Lib.hid hp1; clear hp1 hb1; have z18 : u.cell? ⟨g, 18, none⟩ = some (.slice none 0 0) := HS.out.cell 18; have y5 := HS.out.lt; have y6 := HS.out.frozen)
              clear z18 y5 y6 HTK
              replace HRS := Lib.hid (HRS.out.setCell (p := ⟨g, 18, none⟩) (Nat.le_trans HBW.out (Nat.le_of_lt HPG.out)) (.slice A4 nh c4))
              replace HRH := Lib.hid (HRH.out.setCell (p := ⟨g, 18, none⟩) (Nat.le_trans HBW.out (Nat.le_of_lt HPG.out)) (.slice A4 nh c4))
              replace HT := Lib.hid (HT.out.far (p := ⟨g, 18, none⟩) (Nat.ne_of_gt HGT.out) (.slice A4 nh c4))
              replace HS := Lib.hid (show Blk _ g 58 (svV 2 last ⟨Ax, 32, cx⟩ d0 d1 X ⟨Ak, nk, ck⟩ ⟨A1, 32, c1⟩ lv 0 ⟨A4, nh, c4⟩) from HS.out.set_ 18 (.slice A4 nh c4))
              replace HR := Lib.hid (HR.out.far (p := ⟨g, 18, none⟩) (Nat.ne_of_gt HRG.out) (.slice A4 nh c4))
              replace HQ := Lib.hid (HQ.out.far (p := ⟨g, 18, none⟩) (Nat.ne_of_gt HGQ.out) (.slice A4 nh c4))
              replace HP := Lib.hid (HP.out.but ((But.refl [g] u).setCell (p := ⟨g, 18, none⟩) (.inl (by simp)) (.slice A4 nh c4)) (fun k hk => by simp at hk; rw [hk]; exact HPG.out))
              replace HB := Lib.hid (HB.out.setCell (p := ⟨g, 18, none⟩) (.inr HGW.out) (.slice A4 nh c4))
              generalize u.setCell ⟨g, 18, none⟩ (.slice A4 nh c4) = u at *
              have hu2 := Lib.hid Try.underlying58
              have hsz2 := Lib.hid (svV_size 2 last ⟨Ax, 32, cx⟩ d0 d1 X ⟨Ak, nk, ck⟩ ⟨A1, 32, c1⟩ lv 0 ⟨A4, nh, c4⟩)
              have hon2 := Lib.hid (svV_ones 2 last ⟨Ax, 32, cx⟩ d0 d1 X ⟨Ak, nk, ck⟩ ⟨A1, 32, c1⟩ lv 0 ⟨A4, nh, c4⟩)
              obtain ⟨SV, hSV⟩ : ∃ SV, SV = svV 2 last ⟨Ax, 32, cx⟩ d0 d1 X ⟨Ak, nk, ck⟩ ⟨A1, 32, c1⟩ lv 0 ⟨A4, nh, c4⟩ := ⟨_, rfl⟩
              rw [← hSV] at HS hsz2 hon2
              have hss := Lib.hid (show sv0.size = SV.size by rw [hSV]; rfl)
              have HSV := Lib.hid hSV
              clear hSV
              have y7 : u.cell? ⟨p, 1, none⟩ = some (.int .i64 0) := HP.out.blk.cell 1
              have y8 := HP.out.blk.lt
              have y9 := HT.out.lt
              have z9 : u.cell? ⟨t, 0, none⟩ = some (.bool false) := HT.out.cell 0
              go_wp2_with (first
                | (refine wpList_load_row rfl 58 _ rfl g rfl 58 SV (0, 0) _ HS.out hu2.out rfl hsz2.out ?_)
                | (refine wpList_store_row rfl 58 _ _ rfl r SV rfl rfl 58 sv0 HR.out hsz2.out hss.out hon2.out ?_))
              have hb9 : Below r u (u.setRow r SV) := below_row (Below.refl _ _) (Nat.le_refl _) _
              have hbb : Below B u (u.setRow r SV) := hb9.mono (Nat.le_trans HBW.out (Nat.le_of_lt HPR.out))
              refine bodyPost_ret (results_cell_row rfl _ _ r _ _ (0, 0) _ rfl (HR.out.row SV) hu2.out rfl hsz2.out) rfl ?_
              refine ⟨A1, A4, c1, c4, _, _, ?_, HRS.out.below hbb, HRH.out.below hbb, HP.out.below hb9 HPR.out, HB.out.lowB (hb9.mono HRW.out)⟩
              rw [HSV.out, HLV.out, ← HNH.out]
end Go.Proofs.Ytboihcigcfmhhaa

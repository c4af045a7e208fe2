/-
  Load of the program: the head of what was saved. Contracts alone; no statement is claimed here.
-/
import Derived.Test.YtboihcigcfmhhaaNLoA
import Derived.Test.YtboihcigcfmhhaaNCall
namespace Go.Proofs.Ytboihcigcfmhhaa
open Go.RowKit
attribute [local go_sem] pureUpon Ords.of

/-- what saved bytes say -/
def svV (k : Int) (last : Bool) (sb : Sl) (d0 d1 : Int) (X : Pr) (sk ss : Sl) (lo hi : Int) (sh : Sl) : Array Value :=
  #[.int .i64 k, .bool last, .slice sb.A sb.n sb.c, .int .i64 d0, .int .i64 d1, .int .i64 X.fanout, .int .i64 X.depth, .int .u32 X.leaf, .int .u64 X.offset, .int .u32 X.xof, .int .i64 X.nd, .int .i64 X.inner, .slice X.salt.A X.salt.n X.salt.c, .slice X.pers.A X.pers.n X.pers.c, .slice sk.A sk.n sk.c, .slice ss.A ss.n ss.c, .int .u64 lo, .int .u64 hi, .slice sh.A sh.n sh.c]
def sv0 : Array Value := #[.int .i64 0, .bool false, .slice none 0 0, .int .i64 0, .int .i64 0, .int .i64 0, .int .i64 0, .int .u32 0, .int .u64 0, .int .u32 0, .int .i64 0, .int .i64 0, .slice none 0 0, .slice none 0 0, .slice none 0 0, .slice none 0 0, .int .u64 0, .int .u64 0, .slice none 0 0]
theorem sv0_eq : (#[.int .i64 0, .bool false, .slice none 0 0, .int .i64 0, .int .i64 0, .int .i64 0, .int .i64 0, .int .u32 0, .int .u64 0, .int .u32 0, .int .i64 0, .int .i64 0, .slice none 0 0, .slice none 0 0, .slice none 0 0, .slice none 0 0, .int .u64 0, .int .u64 0, .slice none 0 0] : Array Value) = sv0 := rfl
theorem svV_size (k : Int) (last : Bool) (sb : Sl) (d0 d1 : Int) (X : Pr) (sk ss : Sl) (lo hi : Int) (sh : Sl) : (Try.prog.info? 58).map (·.size) = some (svV k last sb d0 d1 X sk ss lo hi sh).size := by unfold svV; kernel_rfl
theorem svV_ones (k : Int) (last : Bool) (sb : Sl) (d0 d1 : Int) (X : Pr) (sk ss : Sl) (lo hi : Int) (sh : Sl) : (svV k last sb d0 d1 X sk ss lo hi sh).all (·.oneCell') = true := by unfold svV; simp [Value.oneCell']
theorem most2_any (big : Bool) (w : World) : Calls Try.prog 29 #[.int .i64 (kOf big)] w fun e w' => e = .returned (.tuple #[.int .i64 (bOf big : Nat), .int .i64 0]) ∧ Below w.heap.size w w' := by
  have hs := fun W => sizes_any big W
  have HS := Lib.hid hs; clear hs
  have hb : ((bOf big : Nat) : Int) ≠ 0 := by cases big <;> decide
  have t1 : (((bOf big : Nat) : Int) == 0) = false := by simpa using hb
  clear hb
  generalize bOf big = B at *
  generalize kOf big = K at *
  go_enter Try.func29, Try.ntmps29
  go_wp2_with (go_at_call 44; refine (HS.out _).mono ?_; rintro e1 w1 ⟨rfl, hb1⟩)
  exact bodyPost_ret (results_tmp2 rfl _ _ _) rfl ⟨rfl, by first | exact hb1 | (subst hb1; exact b0 _)⟩
theorem size2_any (big : Bool) (w : World) : Calls Try.prog 31 #[.int .i64 (kOf big)] w fun e w' => e = .returned (.tuple #[.int .i64 (bOf big : Nat), .int .i64 0]) ∧ Below w.heap.size w w' := by
    have hs := fun W => sizes_any big W
    have HS := Lib.hid hs; clear hs
    have hb : ((bOf big : Nat) : Int) ≠ 0 := by cases big <;> decide
    have t1 : (((bOf big : Nat) : Int) == 0) = false := by simpa using hb
    clear hb
    generalize bOf big = B at *
    generalize kOf big = K at *
    go_enter Try.func31, Try.ntmps31
    go_wp2_with (go_at_call 44; refine (HS.out _).mono ?_; rintro e1 w1 ⟨rfl, hb1⟩)
    exact bodyPost_ret (results_tmp2 rfl _ _ _) rfl ⟨rfl, by first | exact hb1 | (subst hb1; exact b0 _)⟩
theorem decY2_any {big : Bool} (A : Option Addr) (n c : Nat) (b : List UInt8) (w : World) (h : decOk big false b) (hb : b.length = n) (hc : n ≤ c) (hcm : c ≤ 9223372036854775807) (hr : RS cB w w.heap.size A b) :
    Calls Try.prog 33 #[.int .i64 (kOf big), .slice A n c, .bool false] w fun r w' => ∃ X : Pr, r = .returned (.tuple #[.agg #[.int .i64 (fld b 0 1 : Nat), .int .i64 (fld b 1 1 : Nat), .int .i64 X.fanout, .int .i64 X.depth, .int .u32 X.leaf, .int .u64 X.offset, .int .u32 X.xof, .int .i64 X.nd, .int .i64 X.inner, .slice X.salt.A X.salt.n X.salt.c, .slice X.pers.A X.pers.n X.pers.c], .int .i64 0]) ∧ Below w.heap.size w w' := decY_any A n c b w h hb hc hcm hr
theorem laid_prV (k : Int) (last : Bool) (sb : Sl) (d0 d1 : Int) (X : Pr) : laidOver (svV k last sb 0 0 zeroPar Sl.nil Sl.nil 0 0 Sl.nil) 3 (prV d0 d1 X).toList = svV k last sb d0 d1 X Sl.nil Sl.nil 0 0 Sl.nil := by
  unfold svV prV
  simp [laidOver]
theorem But.lowB {F : List Nat} {w w1 w2 : World} (h : But F w w1) (h2 : Below w.heap.size w1 w2) : But F w w2 :=
  ⟨h2.os.trans h.os, h2.tape.trans h.tape, h2.output.trans h.output, Nat.le_trans h.size h2.size, fun k hk hn => (h2.block k hk).trans (h.block k hk hn)⟩
theorem But.setCells {F : List Nat} {w : World} {g : Nat} : ∀ (vs : List Value) {w1 : World} (o : Nat), But F w w1 → (g ∈ F ∨ w.heap.size ≤ g) → But F w (w1.setCells g o vs)
  | [], _, _, h, _ => h
  | v :: r, _, o, h, hg => But.setCells r (o + 1) (h.setCell (p := ⟨g, o, none⟩) hg v) hg
theorem decY3_any {big : Bool} (A : Option Addr) (n c : Nat) (b : List UInt8) (w : World) (h : decOk big true b) (hb : b.length = n) (hc : n ≤ c) (hcm : c ≤ 9223372036854775807) (hr : RS cB w w.heap.size A b) :
    Calls Try.prog 33 #[.int .i64 (kOf big), .slice A n c, .bool true] w fun r w' => ∃ X : Pr, r = .returned (.tuple #[.agg #[.int .i64 (fld b 0 1 : Nat), .int .i64 (fld b 1 1 : Nat), .int .i64 X.fanout, .int .i64 X.depth, .int .u32 X.leaf, .int .u64 X.offset, .int .u32 X.xof, .int .i64 X.nd, .int .i64 X.inner, .slice X.salt.A X.salt.n X.salt.c, .slice X.pers.A X.pers.n X.pers.c], .int .i64 0]) ∧ Below w.heap.size w w' := decY_any A n c b w h hb hc hcm hr
theorem decN2_any {big : Bool} (A : Option Addr) (n c : Nat) (b : List UInt8) (w : World) (h : ¬ decOk big false b) (hb : b.length = n) (hc : n ≤ c) (hcm : c ≤ 9223372036854775807) (hr : RS cB w w.heap.size A b) :
    Calls Try.prog 33 #[.int .i64 (kOf big), .slice A n c, .bool false] w fun r w' => ∃ (X : Pr) (e : Int), r = .returned (.tuple #[.agg #[.int .i64 X.digest, .int .i64 X.key, .int .i64 X.fanout, .int .i64 X.depth, .int .u32 X.leaf, .int .u64 X.offset, .int .u32 X.xof, .int .i64 X.nd, .int .i64 X.inner, .slice X.salt.A X.salt.n X.salt.c, .slice X.pers.A X.pers.n X.pers.c], .int .i64 e]) ∧ (e != 0) = true ∧ Below w.heap.size w w' := decN_any A n c b w h hb hc hcm hr
set_option maxRecDepth 20000 in
    set_option maxHeartbeats 8000000 in
    theorem head0_any (B p n c : Nat) (A : Option Addr) (big last : Bool) (kb lb k8 : UInt8) (x key rest : List UInt8) (w : World)
        (hp : Pen w B p A n c (78 :: kb :: lb :: k8 :: (x ++ (key ++ rest)))) (hkb : ((kb.toNat : Nat) : Int) = kOf big) (hlb : lb.toNat < 2) (hlt : (((lb.toNat : Nat) : Int) == 1) = last) (hk8 : k8.toNat = key.length)
        (hxl : x.length = bOf big) (hdec : decOk big false x) (hkk : key.length = 0 ∨ key.length = fld x 1 1) (hkm : key.length ≤ bOf big) :
        Calls Try.prog 18 #[.pointer (some ⟨p, 0, none⟩)] w fun r w' => ∃ (X : Pr) (Ax Ak : Option Addr) (cx ck : Nat) (A' : Option Addr) (n' c' : Nat),
          r = .returned (.agg (svV (kOf big) last ⟨Ax, bOf big, cx⟩ (fld x 0 1 : Nat) (fld x 1 1 : Nat) X ⟨Ak, key.length, ck⟩ Sl.nil 0 0 Sl.nil)) ∧ RS cB w' B Ax x ∧ bOf big ≤ cx ∧ cx ≤ 9223372036854775807 ∧ RS cB w' B Ak key ∧ key.length ≤ ck ∧ ck ≤ 9223372036854775807 ∧ Pen w' B p A' n' c' rest ∧ But [p] w w' := by
      have hmo := fun W => most2_any big W
      have hsz := fun W => size2_any big W
      have hde := fun (A : Option Addr) (c : Nat) W h1 h2 hr => decY2_any (big := big) A (bOf big) c x W hdec hxl h1 h2 hr
      have hby := fun (A : Option Addr) (n c : Nat) (l : List UInt8) (W : World) h => byteK_any B p n c A kb l W h big hkb
      rw [hkb] at hby
      generalize kOf big = kk at *
      generalize bOf big = bb at *
      generalize fld x 0 1 = d0 at *
      generalize fld x 1 1 = d1 at *
      have HMO := Lib.hid hmo; have HSZ := Lib.hid hsz; have HDE := Lib.hid hde; clear hde hdec; have HBY := Lib.hid hby; have HP := Lib.hid hp; have HLB := Lib.hid hlb; have HXL := Lib.hid hxl; have HK8 := Lib.hid hk8; have HKM := Lib.hid hkm
      have hpl := hp.blk.lt
      clear hmo hsz hby hp hkb hlb hxl hk8 hkm
      go_enter Try.func18, Try.ntmps18
      have hsz1 : (w.alloc (.cells sv0 58)).heap.size = w.heap.size + 1 := by simp
      have hS := Blk.new (w.alloc (.cells sv0 58)) 58 sv0
      rw [hsz1] at hS
      have HS := Lib.hid hS
      have HR := Lib.hid ((Blk.new w 58 sv0).alloc (.cells sv0 58))
      have hb9 := bal (bal (b0 w) (.cells sv0 58)) (.cells sv0 58)
      have HB := Lib.hid (But.of hb9 [p])
      replace HP := Lib.hid (HP.out.below hb9 hpl)
      clear hb9 hS hsz1
      go_upto_region 2 with fail
      simp only [sv0_eq]
      generalize (w.alloc (.cells sv0 58)).alloc (.cells sv0 58) = u at *
      obtain ⟨r, hr⟩ : ∃ r, r = w.heap.size := ⟨_, rfl⟩
      obtain ⟨g, hg⟩ : ∃ g, g = r + 1 := ⟨_, rfl⟩
      rw [← hr] at HS HR ⊢
      rw [← hg] at HS ⊢
      have HPR := Lib.hid (show p < r by omega)
      have HPG := Lib.hid (show p < g by omega)
      have HRG := Lib.hid (show r < g by omega)
      have HGW := Lib.hid (show w.heap.size ≤ g by omega)
      have HRW := Lib.hid (show w.heap.size ≤ r by omega)
      clear hr hg hpl
      go_upto_region 3 with (go_at_call 25; refine (byteN_any B p _ _ _ _ _ _ HP.out rfl).mono ?_; rintro e1 u ⟨rfl, hp1, hb1⟩)
      replace HS := Lib.hid (HS.out.but hb1 (by simp; exact Nat.ne_of_gt HPG.out))
      replace HR := Lib.hid (HR.out.but hb1 (by simp; exact Nat.ne_of_gt HPR.out))
      replace HB := Lib.hid (HB.out.trans hb1 (fun k hk => .inl hk))
      have HP := Lib.hid hp1
      clear hp1 hb1
      have hf := HS.out.frozen
      have hl := HS.out.lt
      clear hf hl
      go_upto_region 4 with (go_at_call 25; refine (HBY.out _ _ _ _ _ HP.out).mono ?_; rintro e1 u ⟨rfl, hp1, hb1⟩; replace HS := Lib.hid (HS.out.but hb1 (by simp; exact Nat.ne_of_gt HPG.out)); replace HR := Lib.hid (HR.out.but hb1 (by simp; exact Nat.ne_of_gt HPR.out)); replace HB := Lib.hid (HB.out.trans hb1 (fun k hk => .inl hk)); have HP := Lib.hid hp1; clear hp1 hb1; have hf := HS.out.frozen; have hl := HS.out.lt; have z0 : u.cell? ⟨g, 0, none⟩ = some (.int .i64 0) := HS.out.cell 0)
      clear z0
      replace HS := Lib.hid (show Blk _ g 58 (svV kk false Sl.nil 0 0 zeroPar Sl.nil Sl.nil 0 0 Sl.nil) from HS.out.set_ 0 (.int .i64 kk))
      replace HR := Lib.hid (HR.out.far (p := ⟨g, 0, none⟩) (Nat.ne_of_lt HRG.out) (.int .i64 kk))
      replace HP := Lib.hid (HP.out.but ((But.refl [g] u).setCell (p := ⟨g, 0, none⟩) (.inl (by simp)) (.int .i64 kk)) (fun k hk => by simp at hk; rw [hk]; exact HPG.out))
      replace HB := Lib.hid (HB.out.setCell (p := ⟨g, 0, none⟩) (.inr HGW.out) (.int .i64 kk))
      clear hf hl
      generalize u.setCell ⟨g, 0, none⟩ (.int .i64 kk) = u at *
      go_upto_region 5 with (go_at_call 25; refine (byteF_any B p _ _ _ _ _ _ HP.out HLB.out).mono ?_; rintro e1 u ⟨rfl, hp1, hb1⟩; replace HS := Lib.hid (HS.out.but hb1 (by simp; exact Nat.ne_of_gt HPG.out)); replace HR := Lib.hid (HR.out.but hb1 (by simp; exact Nat.ne_of_gt HPR.out)); replace HB := Lib.hid (HB.out.trans hb1 (fun k hk => .inl hk)); have HP := Lib.hid hp1; clear hp1 hb1; have hf := HS.out.frozen; have hl := HS.out.lt; have z1 : u.cell? ⟨g, 1, none⟩ = some (.bool false) := HS.out.cell 1)
      clear z1
      replace HS := Lib.hid (show Blk _ g 58 (svV kk last Sl.nil 0 0 zeroPar Sl.nil Sl.nil 0 0 Sl.nil) from HS.out.set_ 1 (.bool last))
      replace HR := Lib.hid (HR.out.far (p := ⟨g, 1, none⟩) (Nat.ne_of_lt HRG.out) (.bool last))
      replace HP := Lib.hid (HP.out.but ((But.refl [g] u).setCell (p := ⟨g, 1, none⟩) (.inl (by simp)) (.bool last)) (fun k hk => by simp at hk; rw [hk]; exact HPG.out))
      replace HB := Lib.hid (HB.out.setCell (p := ⟨g, 1, none⟩) (.inr HGW.out) (.bool last))
      clear hf hl
      generalize u.setCell ⟨g, 1, none⟩ (.bool last) = u at *
      have y1 : u.cell? ⟨p, 1, none⟩ = some (.int .i64 0) := HP.out.blk.cell 1
      have y0 : u.cell? ⟨g, 0, none⟩ = some (.int .i64 kk) := HS.out.cell 0
      have yp := HP.out.blk.lt
      have yg := HS.out.lt
      go_upto_region 8 with (go_at_call 29; refine (HMO.out _).mono ?_; rintro e1 u ⟨rfl, hb1⟩; replace HS := Lib.hid (HS.out.below hb1 HS.out.lt); replace HR := Lib.hid (HR.out.below hb1 HR.out.lt); replace HP := Lib.hid (HP.out.below hb1 HP.out.blk.lt); replace HB := Lib.hid (HB.out.below hb1); clear hb1; have hl := HS.out.lt; have hf := HS.out.frozen; clear y1 y0 yp yg)
      clear hf hl
      obtain ⟨q, hq⟩ : ∃ q, q = u.heap.size := ⟨_, rfl⟩
      have HQ := Lib.hid (show Blk _ q 3 #[.int .i64 bb] from hq ▸ Blk.new u 3 #[.int .i64 bb])
      have hb1 := bal (b0 u) (.cells #[.int .i64 bb] 3)
      have HPQ := Lib.hid (show p < q by rw [hq]; exact HP.out.blk.lt)
      replace HS := Lib.hid (HS.out.below hb1 HS.out.lt); replace HR := Lib.hid (HR.out.below hb1 HR.out.lt); replace HP := Lib.hid (HP.out.below hb1 HP.out.blk.lt); replace HB := Lib.hid (HB.out.below hb1); clear hb1; have hl := HS.out.lt; have hf := HS.out.frozen
      clear hf hl
      rw [← hq]
      clear hq
      generalize u.alloc (.cells #[.int .i64 bb] 3) = u at *
      go_upto_region 9 with (go_at_call 25; refine (byteM_any B p _ _ _ _ _ _ HP.out bb q (by rw [HK8.out]; exact HKM.out) HPQ.out (HQ.out.cell 0) HQ.out.lt).mono ?_; rintro e1 u ⟨rfl, hp1, hb1⟩; rw [HK8.out]; replace HS := Lib.hid (HS.out.but hb1 (by simp; exact Nat.ne_of_gt HPG.out)); replace HR := Lib.hid (HR.out.but hb1 (by simp; exact Nat.ne_of_gt HPR.out)); replace HB := Lib.hid (HB.out.trans hb1 (fun k hk => .inl hk)); have HP := Lib.hid hp1; clear hp1 hb1; have hf := HS.out.frozen; have hl := HS.out.lt)
      clear hf hl HQ HPQ
      obtain ⟨nk, hnk⟩ : ∃ nk, nk = key.length := ⟨_, rfl⟩
      rw [← hnk]
      have HNK := Lib.hid hnk
      clear hnk
      have y0 : u.cell? ⟨g, 0, none⟩ = some (.int .i64 kk) := HS.out.cell 0
      have yg := HS.out.lt
      go_upto_region 10 with (go_at_call 31; refine (HSZ.out _).mono ?_; rintro e1 u ⟨rfl, hb1⟩; replace HS := Lib.hid (HS.out.below hb1 HS.out.lt); replace HR := Lib.hid (HR.out.below hb1 HR.out.lt); replace HP := Lib.hid (HP.out.below hb1 HP.out.blk.lt); replace HB := Lib.hid (HB.out.below hb1); clear hb1; have hl := HS.out.lt; have hf := HS.out.frozen; clear y0 yg)
      clear hf hl
      obtain ⟨A4, n4, c4, HP4⟩ : ∃ A4 n4 c4, Hid (Pen u B p A4 n4 c4 (x ++ (key ++ rest))) := ⟨_, _, _, HP⟩
      clear HP
      have hbn : bb ≤ n4 := by have h := HP4.out.len; rw [List.length_append, HXL.out] at h; omega
      have htk := take_any B p n4 c4 bb A4 _ u HP4.out hbn
      have HX := Lib.hid (show RS cB u B A4 x by have h := HP4.out.rs.take bb; rwa [List.take_left' HXL.out] at h)
      have HC1 := Lib.hid (show bb ≤ c4 from Nat.le_trans hbn HP4.out.cap)
      have HC2 := Lib.hid HP4.out.top
      rw [List.drop_left' HXL.out] at htk
      have HTK := Lib.hid htk
      have HBW := Lib.hid (show B ≤ p from HP4.out.low)
      clear htk hbn HP4
      go_upto_region 11 with (go_at_call 32; refine HTK.out.mono ?_; rintro e1 u ⟨rfl, hp1, hb1⟩; replace HX := Lib.hid (HX.out.below (hb1.toBelow (Nat.le_trans HBW.out (Nat.le_of_lt (Nat.lt_trans HPG.out HS.out.lt))) (fun k hk => by simp at hk; rw [hk]; exact HBW.out))); replace HS := Lib.hid (HS.out.but hb1 (by simp; exact Nat.ne_of_gt HPG.out)); replace HR := Lib.hid (HR.out.but hb1 (by simp; exact Nat.ne_of_gt HPR.out)); replace HB := Lib.hid (HB.out.trans hb1 (fun k hk => .inl hk)); have HP := Lib.hid hp1; clear hp1 hb1; have hf := HS.out.frozen; have hl := HS.out.lt; have z2 : u.cell? ⟨g, 2, none⟩ = some (.slice none 0 0) := HS.out.cell 2)
      clear z2 HTK
      replace HX := Lib.hid (HX.out.setCell (p := ⟨g, 2, none⟩) (Nat.le_trans HBW.out (Nat.le_of_lt HPG.out)) (.slice A4 bb c4))
      replace HS := Lib.hid (show Blk _ g 58 (svV kk last ⟨A4, bb, c4⟩ 0 0 zeroPar Sl.nil Sl.nil 0 0 Sl.nil) from HS.out.set_ 2 (.slice A4 bb c4))
      replace HR := Lib.hid (HR.out.far (p := ⟨g, 2, none⟩) (Nat.ne_of_lt HRG.out) (.slice A4 bb c4))
      replace HP := Lib.hid (HP.out.but ((But.refl [g] u).setCell (p := ⟨g, 2, none⟩) (.inl (by simp)) (.slice A4 bb c4)) (fun k hk => by simp at hk; rw [hk]; exact HPG.out))
      replace HB := Lib.hid (HB.out.setCell (p := ⟨g, 2, none⟩) (.inr HGW.out) (.slice A4 bb c4))
      clear hf hl
      generalize u.setCell ⟨g, 2, none⟩ (.slice A4 bb c4) = u at *
      have y1 : u.cell? ⟨p, 1, none⟩ = some (.int .i64 0) := HP.out.blk.cell 1
      have y0 : u.cell? ⟨g, 0, none⟩ = some (.int .i64 kk) := HS.out.cell 0
      have y2 : u.cell? ⟨g, 2, none⟩ = some (.slice A4 bb c4) := HS.out.cell 2
      have yp := HP.out.blk.lt
      have yg := HS.out.lt
      go_upto_region 13 with fail
      go_upto_region 14 with (first
        | (go_at_call 33; refine (HDE.out A4 c4 _ HC1.out HC2.out (HX.out.more (Nat.le_trans HBW.out (Nat.le_of_lt HP.out.blk.lt)))).mono ?_; rintro e1 u ⟨X, rfl, hb1⟩; replace HX := Lib.hid (HX.out.below (hb1.mono (Nat.le_trans HBW.out (Nat.le_of_lt HP.out.blk.lt)))); replace HS := Lib.hid (HS.out.below hb1 HS.out.lt); replace HR := Lib.hid (HR.out.below hb1 HR.out.lt); replace HP := Lib.hid (HP.out.below hb1 HP.out.blk.lt); replace HB := Lib.hid (HB.out.below hb1); clear hb1; have hl := HS.out.lt; have hf := HS.out.frozen; clear y1 y0 y2 yp yg)
        | (refine wpList_store_row rfl 26 _ _ rfl u.heap.size (prV d0 d1 X) rfl rfl 26 zcs (Blk.new _ _ _) (prV_size _ _ _) rfl (prV_ones _ _ _) ?_))
      clear hf hl
      obtain ⟨s, hs⟩ : ∃ s, s = u.heap.size := ⟨_, rfl⟩
      have HV := Lib.hid (show Blk _ s 26 (prV d0 d1 X) from hs ▸ (Blk.new u 26 zcs).row (prV d0 d1 X))
      have hb1 := brow (g := u.heap.size) (bal (b0 u) (.cells zcs 26)) (Nat.le_refl _) (prV d0 d1 X)
      replace HX := Lib.hid (HX.out.below (hb1.mono (Nat.le_trans HBW.out (Nat.le_of_lt HP.out.blk.lt))))
      have HGS := Lib.hid (show g < s by rw [hs]; exact HS.out.lt)
      have HRSS := Lib.hid (show r < s by rw [hs]; exact HR.out.lt)
      have HBU := Lib.hid (show w.heap.size ≤ s by rw [hs]; exact HB.out.size)
      have HPS := Lib.hid (show p < s by rw [hs]; exact HP.out.blk.lt)
      replace HS := Lib.hid (HS.out.below hb1 HS.out.lt); replace HR := Lib.hid (HR.out.below hb1 HR.out.lt); replace HP := Lib.hid (HP.out.below hb1 HP.out.blk.lt); replace HB := Lib.hid (HB.out.below hb1); clear hb1; have hl := HS.out.lt; have hf := HS.out.frozen
      clear hf hl
      have hz : zcs = #[.int .i64 0, .int .i64 0, .int .i64 0, .int .i64 0, .int .u32 0, .int .u64 0, .int .u32 0, .int .i64 0, .int .i64 0, .slice none 0 0, .slice none 0 0] := rfl
      rw [← hz]
      clear hz
      rw [← hs] at HS HR HB HP HX ⊢
      clear hs
      generalize (u.alloc (.cells zcs 26)).setRow s (prV d0 d1 X) = u at *
      skip
      have tk : ((nk : Int) == 0) = true ∨ (((nk : Int) == 0) = false ∧ ((nk : Int) == (d1 : Int)) = true) := by
        rw [HNK.out]
        by_cases h : key.length = 0
        · exact .inl (by simpa using h)
        · exact .inr ⟨by simpa using h, by have h2 := hkk.resolve_left h; rw [h2]; simp⟩
      clear hkk
      have v1 : u.cell? ⟨s, 1, none⟩ = some (.int .i64 d1) := HV.out.cell 1
      have vl := HV.out.lt
      have hu := Lib.hid Try.underlying26
      rcases tk with t1 | ⟨t1, t2⟩
      all_goals
        go_upto_region 17 with (go_at_call 34; refine (must_any p _ _ HP.out.blk).mono ?_; rintro e1 w1 ⟨rfl, rfl⟩)
        clear v1 vl
        have hth := HS.out.there 3 11 (by show 3 + 11 ≤ 19; decide)
        have HTH := Lib.hid (show u.there g 3 (prV d0 d1 X).size from hth)
        clear hth
        go_upto_region 18 with (first
          | (refine wpList_load_row rfl 26 _ rfl s rfl 26 (prV d0 d1 X) (0, 0) _ HV.out hu.out rfl (prV_size _ _ _) ?_)
          | (refine wpList_store_mid rfl 26 (.tmp 84) (.tmp 83) rfl g 3 (prV d0 d1 X) rfl rfl HTH.out (prV_size _ _ _) (prV_ones _ _ _) ?_))
        have hb9 := (But.refl [g] u).setCells (g := g) (prV d0 d1 X).toList 3 (.inl (by simp))
        replace HX := Lib.hid (HX.out.below (hb9.toBelow (Nat.le_trans HBW.out (Nat.le_of_lt HP.out.blk.lt)) (fun k hk => by simp at hk; rw [hk]; exact Nat.le_trans HBW.out (Nat.le_of_lt HPG.out))))
        have hs9 := HS.out.setCells (prV d0 d1 X).toList 3
        rw [laid_prV] at hs9
        replace HS := Lib.hid hs9
        clear hs9
        replace HR := Lib.hid (HR.out.setCellsFar (prV d0 d1 X).toList 3 (Nat.ne_of_lt HRG.out))
        replace HP := Lib.hid (HP.out.but hb9 (fun k hk => by simp at hk; rw [hk]; exact HPG.out))
        replace HB := Lib.hid (HB.out.setCells (prV d0 d1 X).toList 3 (.inr HGW.out))
        clear hb9 HV HTH
        generalize u.setCells g 3 (prV d0 d1 X).toList = u at *
        obtain ⟨A5, n5, c5, HP5⟩ : ∃ A5 n5 c5, Hid (Pen u B p A5 n5 c5 (key ++ rest)) := ⟨_, _, _, HP⟩
        clear HP
        have hbn : nk ≤ n5 := by have h := HP5.out.len; rw [List.length_append, ← HNK.out] at h; omega
        have htk := take_any B p n5 c5 nk A5 _ u HP5.out hbn
        have HKY := Lib.hid (show RS cB u B A5 key by have h := HP5.out.rs.take nk; rwa [List.take_left' HNK.out.symm] at h)
        have HC3 := Lib.hid (show nk ≤ c5 from Nat.le_trans hbn HP5.out.cap)
        have HC4 := Lib.hid HP5.out.top
        rw [List.drop_left' HNK.out.symm] at htk
        have HTK := Lib.hid htk
        clear htk hbn HP5
        have hf := HS.out.frozen
        have hl := HS.out.lt
        go_upto_region 19 with (go_at_call 32; refine HTK.out.mono ?_; rintro e1 u ⟨rfl, hp1, hb1⟩; replace HX := Lib.hid (HX.out.below (hb1.toBelow (Nat.le_trans HBW.out (Nat.le_of_lt (Nat.lt_trans HPG.out HS.out.lt))) (fun k hk => by simp at hk; rw [hk]; exact HBW.out))); replace HKY := Lib.hid (HKY.out.below (hb1.toBelow (Nat.le_trans HBW.out (Nat.le_of_lt (Nat.lt_trans HPG.out HS.out.lt))) (fun k hk => by simp at hk; rw [hk]; exact HBW.out))); clear hf hl; replace HS := Lib.hid (HS.out.but hb1 (by simp; exact Nat.ne_of_gt HPG.out)); replace HR := Lib.hid (HR.out.but hb1 (by simp; exact Nat.ne_of_gt HPR.out)); replace HB := Lib.hid (HB.out.trans hb1 (fun k hk => .inl hk)); have HP := Lib.hid hp1; clear hp1 hb1; have hf := HS.out.frozen; have hl := HS.out.lt; have z14 : u.cell? ⟨g, 14, none⟩ = some (.slice none 0 0) := HS.out.cell 14)
        clear z14 HTK
        replace HX := Lib.hid (HX.out.setCell (p := ⟨g, 14, none⟩) (Nat.le_trans HBW.out (Nat.le_of_lt HPG.out)) (.slice A5 nk c5))
        replace HKY := Lib.hid (HKY.out.setCell (p := ⟨g, 14, none⟩) (Nat.le_trans HBW.out (Nat.le_of_lt HPG.out)) (.slice A5 nk c5))
        replace HS := Lib.hid (show Blk _ g 58 (svV kk last ⟨A4, bb, c4⟩ d0 d1 X ⟨A5, nk, c5⟩ Sl.nil 0 0 Sl.nil) from HS.out.set_ 14 (.slice A5 nk c5))
        replace HR := Lib.hid (HR.out.far (p := ⟨g, 14, none⟩) (Nat.ne_of_lt HRG.out) (.slice A5 nk c5))
        replace HP := Lib.hid (HP.out.but ((But.refl [g] u).setCell (p := ⟨g, 14, none⟩) (.inl (by simp)) (.slice A5 nk c5)) (fun k hk => by simp at hk; rw [hk]; exact HPG.out))
        replace HB := Lib.hid (HB.out.setCell (p := ⟨g, 14, none⟩) (.inr HGW.out) (.slice A5 nk c5))
        clear hf hl
        generalize u.setCell ⟨g, 14, none⟩ (.slice A5 nk c5) = u at *
        have hu2 := Lib.hid Try.underlying58
        have hsz2 := Lib.hid (svV_size kk last ⟨A4, bb, c4⟩ d0 d1 X ⟨A5, nk, c5⟩ Sl.nil 0 0 Sl.nil)
        have hon2 := Lib.hid (svV_ones kk last ⟨A4, bb, c4⟩ d0 d1 X ⟨A5, nk, c5⟩ Sl.nil 0 0 Sl.nil)
        obtain ⟨SV, hSV⟩ : ∃ SV, SV = svV kk last ⟨A4, bb, c4⟩ d0 d1 X ⟨A5, nk, c5⟩ Sl.nil 0 0 Sl.nil := ⟨_, rfl⟩
        rw [← hSV] at HS hsz2 hon2
        have hss := Lib.hid (show sv0.size = SV.size by rw [hSV]; rfl)
        have HSV := Lib.hid hSV
        clear hSV
        go_wp2_with (first
          | (refine wpList_load_row rfl 58 _ rfl g rfl 58 SV (0, 0) _ HS.out hu2.out rfl hsz2.out ?_)
          | (refine wpList_store_row rfl 58 _ _ rfl r SV rfl rfl 58 sv0 HR.out hsz2.out hss.out hon2.out ?_))
        have hb9 : Below r u (u.setRow r SV) := below_row (Below.refl _ _) (Nat.le_refl _) _
        have hbb : Below B u (u.setRow r SV) := hb9.mono (Nat.le_trans HBW.out (Nat.le_of_lt HPR.out))
        refine bodyPost_ret (results_cell_row rfl _ _ r _ _ (0, 0) _ rfl (HR.out.row SV) hu2.out rfl hsz2.out) rfl ?_
        refine ⟨X, A4, A5, c4, c5, _, _, _, by rw [HSV.out, HNK.out], HX.out.below hbb, HC1.out, HC2.out, HKY.out.below hbb, by rw [← HNK.out]; exact HC3.out, HC4.out, HP.out.below hb9 HPR.out, HB.out.lowB (hb9.mono HRW.out)⟩
set_option maxRecDepth 20000 in
        set_option maxHeartbeats 8000000 in
        theorem head1_any (B p n c : Nat) (A : Option Addr) (big last : Bool) (kb lb k8 : UInt8) (x key rest : List UInt8) (w : World)
            (hp : Pen w B p A n c (78 :: kb :: lb :: k8 :: (x ++ (key ++ rest)))) (hkb : ((kb.toNat : Nat) : Int) = kOf big) (hlb : lb.toNat < 2) (hlt : (((lb.toNat : Nat) : Int) == 1) = last) (hk8 : k8.toNat = key.length)
            (hxl : x.length = bOf big) (hno : ¬ decOk big false x) (hdec : decOk big true x) (hkk : key.length = 0 ∨ key.length = fld x 1 1) (hkm : key.length ≤ bOf big) :
            Calls Try.prog 18 #[.pointer (some ⟨p, 0, none⟩)] w fun r w' => ∃ (X : Pr) (Ax Ak : Option Addr) (cx ck : Nat) (A' : Option Addr) (n' c' : Nat),
              r = .returned (.agg (svV (kOf big) last ⟨Ax, bOf big, cx⟩ (fld x 0 1 : Nat) (fld x 1 1 : Nat) X ⟨Ak, key.length, ck⟩ Sl.nil 0 0 Sl.nil)) ∧ RS cB w' B Ax x ∧ bOf big ≤ cx ∧ cx ≤ 9223372036854775807 ∧ RS cB w' B Ak key ∧ key.length ≤ ck ∧ ck ≤ 9223372036854775807 ∧ Pen w' B p A' n' c' rest ∧ But [p] w w' := by
          have hmo := fun W => most2_any big W
          have hsz := fun W => size2_any big W
          have hde := fun (A : Option Addr) (c : Nat) W h1 h2 hr => decN2_any (big := big) A (bOf big) c x W hno hxl h1 h2 hr
          have hde2 := fun (A : Option Addr) (c : Nat) W h1 h2 hr => decY3_any (big := big) A (bOf big) c x W hdec hxl h1 h2 hr
          have hby := fun (A : Option Addr) (n c : Nat) (l : List UInt8) (W : World) h => byteK_any B p n c A kb l W h big hkb
          rw [hkb] at hby
          generalize kOf big = kk at *
          generalize bOf big = bb at *
          generalize fld x 0 1 = d0 at *
          generalize fld x 1 1 = d1 at *
          have HMO := Lib.hid hmo; have HSZ := Lib.hid hsz; have HDE := Lib.hid hde; have HDE2 := Lib.hid hde2; clear hde hde2 hno hdec; have HBY := Lib.hid hby; have HP := Lib.hid hp; have HLB := Lib.hid hlb; have HXL := Lib.hid hxl; have HK8 := Lib.hid hk8; have HKM := Lib.hid hkm
          have hpl := hp.blk.lt
          clear hmo hsz hby hp hkb hlb hxl hk8 hkm
          go_enter Try.func18, Try.ntmps18
          have hsz1 : (w.alloc (.cells sv0 58)).heap.size = w.heap.size + 1 := by simp
          have hS := Blk.new (w.alloc (.cells sv0 58)) 58 sv0
          rw [hsz1] at hS
          have HS := Lib.hid hS
          have HR := Lib.hid ((Blk.new w 58 sv0).alloc (.cells sv0 58))
          have hb9 := bal (bal (b0 w) (.cells sv0 58)) (.cells sv0 58)
          have HB := Lib.hid (But.of hb9 [p])
          replace HP := Lib.hid (HP.out.below hb9 hpl)
          clear hb9 hS hsz1
          go_upto_region 2 with fail
          simp only [sv0_eq]
          generalize (w.alloc (.cells sv0 58)).alloc (.cells sv0 58) = u at *
          obtain ⟨r, hr⟩ : ∃ r, r = w.heap.size := ⟨_, rfl⟩
          obtain ⟨g, hg⟩ : ∃ g, g = r + 1 := ⟨_, rfl⟩
          rw [← hr] at HS HR ⊢
          rw [← hg] at HS ⊢
          have HPR := Lib.hid (show p < r by omega)
          have HPG := Lib.hid (show p < g by omega)
          have HRG := Lib.hid (show r < g by omega)
          have HGW := Lib.hid (show w.heap.size ≤ g by omega)
          have HRW := Lib.hid (show w.heap.size ≤ r by omega)
          clear hr hg hpl
          go_upto_region 3 with (go_at_call 25; refine (byteN_any B p _ _ _ _ _ _ HP.out rfl).mono ?_; rintro e1 u ⟨rfl, hp1, hb1⟩)
          replace HS := Lib.hid (HS.out.but hb1 (by simp; exact Nat.ne_of_gt HPG.out))
          replace HR := Lib.hid (HR.out.but hb1 (by simp; exact Nat.ne_of_gt HPR.out))
          replace HB := Lib.hid (HB.out.trans hb1 (fun k hk => .inl hk))
          have HP := Lib.hid hp1
          clear hp1 hb1
          have hf := HS.out.frozen
          have hl := HS.out.lt
          clear hf hl
          go_upto_region 4 with (go_at_call 25; refine (HBY.out _ _ _ _ _ HP.out).mono ?_; rintro e1 u ⟨rfl, hp1, hb1⟩; replace HS := Lib.hid (HS.out.but hb1 (by simp; exact Nat.ne_of_gt HPG.out)); replace HR := Lib.hid (HR.out.but hb1 (by simp; exact Nat.ne_of_gt HPR.out)); replace HB := Lib.hid (HB.out.trans hb1 (fun k hk => .inl hk)); have HP := Lib.hid hp1; clear hp1 hb1; have hf := HS.out.frozen; have hl := HS.out.lt; have z0 : u.cell? ⟨g, 0, none⟩ = some (.int .i64 0) := HS.out.cell 0)
          clear z0
          replace HS := Lib.hid (show Blk _ g 58 (svV kk false Sl.nil 0 0 zeroPar Sl.nil Sl.nil 0 0 Sl.nil) from HS.out.set_ 0 (.int .i64 kk))
          replace HR := Lib.hid (HR.out.far (p := ⟨g, 0, none⟩) (Nat.ne_of_lt HRG.out) (.int .i64 kk))
          replace HP := Lib.hid (HP.out.but ((But.refl [g] u).setCell (p := ⟨g, 0, none⟩) (.inl (by simp)) (.int .i64 kk)) (fun k hk => by simp at hk; rw [hk]; exact HPG.out))
          replace HB := Lib.hid (HB.out.setCell (p := ⟨g, 0, none⟩) (.inr HGW.out) (.int .i64 kk))
          clear hf hl
          generalize u.setCell ⟨g, 0, none⟩ (.int .i64 kk) = u at *
          go_upto_region 5 with (go_at_call 25; refine (byteF_any B p _ _ _ _ _ _ HP.out HLB.out).mono ?_; rintro e1 u ⟨rfl, hp1, hb1⟩; replace HS := Lib.hid (HS.out.but hb1 (by simp; exact Nat.ne_of_gt HPG.out)); replace HR := Lib.hid (HR.out.but hb1 (by simp; exact Nat.ne_of_gt HPR.out)); replace HB := Lib.hid (HB.out.trans hb1 (fun k hk => .inl hk)); have HP := Lib.hid hp1; clear hp1 hb1; have hf := HS.out.frozen; have hl := HS.out.lt; have z1 : u.cell? ⟨g, 1, none⟩ = some (.bool false) := HS.out.cell 1)
          clear z1
          replace HS := Lib.hid (show Blk _ g 58 (svV kk last Sl.nil 0 0 zeroPar Sl.nil Sl.nil 0 0 Sl.nil) from HS.out.set_ 1 (.bool last))
          replace HR := Lib.hid (HR.out.far (p := ⟨g, 1, none⟩) (Nat.ne_of_lt HRG.out) (.bool last))
          replace HP := Lib.hid (HP.out.but ((But.refl [g] u).setCell (p := ⟨g, 1, none⟩) (.inl (by simp)) (.bool last)) (fun k hk => by simp at hk; rw [hk]; exact HPG.out))
          replace HB := Lib.hid (HB.out.setCell (p := ⟨g, 1, none⟩) (.inr HGW.out) (.bool last))
          clear hf hl
          generalize u.setCell ⟨g, 1, none⟩ (.bool last) = u at *
          have y1 : u.cell? ⟨p, 1, none⟩ = some (.int .i64 0) := HP.out.blk.cell 1
          have y0 : u.cell? ⟨g, 0, none⟩ = some (.int .i64 kk) := HS.out.cell 0
          have yp := HP.out.blk.lt
          have yg := HS.out.lt
          go_upto_region 8 with (go_at_call 29; refine (HMO.out _).mono ?_; rintro e1 u ⟨rfl, hb1⟩; replace HS := Lib.hid (HS.out.below hb1 HS.out.lt); replace HR := Lib.hid (HR.out.below hb1 HR.out.lt); replace HP := Lib.hid (HP.out.below hb1 HP.out.blk.lt); replace HB := Lib.hid (HB.out.below hb1); clear hb1; have hl := HS.out.lt; have hf := HS.out.frozen; clear y1 y0 yp yg)
          clear hf hl
          obtain ⟨q, hq⟩ : ∃ q, q = u.heap.size := ⟨_, rfl⟩
          have HQ := Lib.hid (show Blk _ q 3 #[.int .i64 bb] from hq ▸ Blk.new u 3 #[.int .i64 bb])
          have hb1 := bal (b0 u) (.cells #[.int .i64 bb] 3)
          have HPQ := Lib.hid (show p < q by rw [hq]; exact HP.out.blk.lt)
          replace HS := Lib.hid (HS.out.below hb1 HS.out.lt); replace HR := Lib.hid (HR.out.below hb1 HR.out.lt); replace HP := Lib.hid (HP.out.below hb1 HP.out.blk.lt); replace HB := Lib.hid (HB.out.below hb1); clear hb1; have hl := HS.out.lt; have hf := HS.out.frozen
          clear hf hl
          rw [← hq]
          clear hq
          generalize u.alloc (.cells #[.int .i64 bb] 3) = u at *
          go_upto_region 9 with (go_at_call 25; refine (byteM_any B p _ _ _ _ _ _ HP.out bb q (by rw [HK8.out]; exact HKM.out) HPQ.out (HQ.out.cell 0) HQ.out.lt).mono ?_; rintro e1 u ⟨rfl, hp1, hb1⟩; rw [HK8.out]; replace HS := Lib.hid (HS.out.but hb1 (by simp; exact Nat.ne_of_gt HPG.out)); replace HR := Lib.hid (HR.out.but hb1 (by simp; exact Nat.ne_of_gt HPR.out)); replace HB := Lib.hid (HB.out.trans hb1 (fun k hk => .inl hk)); have HP := Lib.hid hp1; clear hp1 hb1; have hf := HS.out.frozen; have hl := HS.out.lt)
          clear hf hl HQ HPQ
          obtain ⟨nk, hnk⟩ : ∃ nk, nk = key.length := ⟨_, rfl⟩
          rw [← hnk]
          have HNK := Lib.hid hnk
          clear hnk
          have y0 : u.cell? ⟨g, 0, none⟩ = some (.int .i64 kk) := HS.out.cell 0
          have yg := HS.out.lt
          go_upto_region 10 with (go_at_call 31; refine (HSZ.out _).mono ?_; rintro e1 u ⟨rfl, hb1⟩; replace HS := Lib.hid (HS.out.below hb1 HS.out.lt); replace HR := Lib.hid (HR.out.below hb1 HR.out.lt); replace HP := Lib.hid (HP.out.below hb1 HP.out.blk.lt); replace HB := Lib.hid (HB.out.below hb1); clear hb1; have hl := HS.out.lt; have hf := HS.out.frozen; clear y0 yg)
          clear hf hl
          obtain ⟨A4, n4, c4, HP4⟩ : ∃ A4 n4 c4, Hid (Pen u B p A4 n4 c4 (x ++ (key ++ rest))) := ⟨_, _, _, HP⟩
          clear HP
          have hbn : bb ≤ n4 := by have h := HP4.out.len; rw [List.length_append, HXL.out] at h; omega
          have htk := take_any B p n4 c4 bb A4 _ u HP4.out hbn
          have HX := Lib.hid (show RS cB u B A4 x by have h := HP4.out.rs.take bb; rwa [List.take_left' HXL.out] at h)
          have HC1 := Lib.hid (show bb ≤ c4 from Nat.le_trans hbn HP4.out.cap)
          have HC2 := Lib.hid HP4.out.top
          rw [List.drop_left' HXL.out] at htk
          have HTK := Lib.hid htk
          have HBW := Lib.hid (show B ≤ p from HP4.out.low)
          clear htk hbn HP4
          go_upto_region 11 with (go_at_call 32; refine HTK.out.mono ?_; rintro e1 u ⟨rfl, hp1, hb1⟩; replace HX := Lib.hid (HX.out.below (hb1.toBelow (Nat.le_trans HBW.out (Nat.le_of_lt (Nat.lt_trans HPG.out HS.out.lt))) (fun k hk => by simp at hk; rw [hk]; exact HBW.out))); replace HS := Lib.hid (HS.out.but hb1 (by simp; exact Nat.ne_of_gt HPG.out)); replace HR := Lib.hid (HR.out.but hb1 (by simp; exact Nat.ne_of_gt HPR.out)); replace HB := Lib.hid (HB.out.trans hb1 (fun k hk => .inl hk)); have HP := Lib.hid hp1; clear hp1 hb1; have hf := HS.out.frozen; have hl := HS.out.lt; have z2 : u.cell? ⟨g, 2, none⟩ = some (.slice none 0 0) := HS.out.cell 2)
          clear z2 HTK
          replace HX := Lib.hid (HX.out.setCell (p := ⟨g, 2, none⟩) (Nat.le_trans HBW.out (Nat.le_of_lt HPG.out)) (.slice A4 bb c4))
          replace HS := Lib.hid (show Blk _ g 58 (svV kk last ⟨A4, bb, c4⟩ 0 0 zeroPar Sl.nil Sl.nil 0 0 Sl.nil) from HS.out.set_ 2 (.slice A4 bb c4))
          replace HR := Lib.hid (HR.out.far (p := ⟨g, 2, none⟩) (Nat.ne_of_lt HRG.out) (.slice A4 bb c4))
          replace HP := Lib.hid (HP.out.but ((But.refl [g] u).setCell (p := ⟨g, 2, none⟩) (.inl (by simp)) (.slice A4 bb c4)) (fun k hk => by simp at hk; rw [hk]; exact HPG.out))
          replace HB := Lib.hid (HB.out.setCell (p := ⟨g, 2, none⟩) (.inr HGW.out) (.slice A4 bb c4))
          clear hf hl
          generalize u.setCell ⟨g, 2, none⟩ (.slice A4 bb c4) = u at *
          have y1 : u.cell? ⟨p, 1, none⟩ = some (.int .i64 0) := HP.out.blk.cell 1
          have y0 : u.cell? ⟨g, 0, none⟩ = some (.int .i64 kk) := HS.out.cell 0
          have y2 : u.cell? ⟨g, 2, none⟩ = some (.slice A4 bb c4) := HS.out.cell 2
          have yp := HP.out.blk.lt
          have yg := HS.out.lt
          go_upto_region 13 with fail
          go_upto_region 14 with (first
            | (go_at_call 33; refine (HDE.out A4 c4 _ HC1.out HC2.out (HX.out.more (Nat.le_trans HBW.out (Nat.le_of_lt HP.out.blk.lt)))).mono ?_; rintro e1 u ⟨X0, e9, rfl, he9, hb1⟩; replace HX := Lib.hid (HX.out.below (hb1.mono (Nat.le_trans HBW.out (Nat.le_of_lt HP.out.blk.lt)))); replace HS := Lib.hid (HS.out.below hb1 HS.out.lt); replace HR := Lib.hid (HR.out.below hb1 HR.out.lt); replace HP := Lib.hid (HP.out.below hb1 HP.out.blk.lt); replace HB := Lib.hid (HB.out.below hb1); clear hb1; have hl := HS.out.lt; have hf := HS.out.frozen; clear y1 y0 y2 yp yg)
            | (refine wpList_store_row rfl 26 _ _ rfl u.heap.size (prV X0.digest X0.key X0) rfl rfl 26 zcs (Blk.new _ _ _) (prV_size _ _ _) rfl (prV_ones _ _ _) ?_))
          clear hf hl
          obtain ⟨s, hs⟩ : ∃ s, s = u.heap.size := ⟨_, rfl⟩
          have HV := Lib.hid (show Blk _ s 26 (prV X0.digest X0.key X0) from hs ▸ (Blk.new u 26 zcs).row (prV X0.digest X0.key X0))
          have hb1 := brow (g := u.heap.size) (bal (b0 u) (.cells zcs 26)) (Nat.le_refl _) (prV X0.digest X0.key X0)
          replace HX := Lib.hid (HX.out.below (hb1.mono (Nat.le_trans HBW.out (Nat.le_of_lt HP.out.blk.lt))))
          have HGS := Lib.hid (show g < s by rw [hs]; exact HS.out.lt)
          have HRSS := Lib.hid (show r < s by rw [hs]; exact HR.out.lt)
          have HBU := Lib.hid (show w.heap.size ≤ s by rw [hs]; exact HB.out.size)
          have HPS := Lib.hid (show p < s by rw [hs]; exact HP.out.blk.lt)
          replace HS := Lib.hid (HS.out.below hb1 HS.out.lt); replace HR := Lib.hid (HR.out.below hb1 HR.out.lt); replace HP := Lib.hid (HP.out.below hb1 HP.out.blk.lt); replace HB := Lib.hid (HB.out.below hb1); clear hb1; have hl := HS.out.lt; have hf := HS.out.frozen
          clear hf hl
          have hz : zcs = #[.int .i64 0, .int .i64 0, .int .i64 0, .int .i64 0, .int .u32 0, .int .u64 0, .int .u32 0, .int .i64 0, .int .i64 0, .slice none 0 0, .slice none 0 0] := rfl
          rw [← hz]
          clear hz
          rw [← hs] at HS HR HB HP HX ⊢
          clear hs
          generalize (u.alloc (.cells zcs 26)).setRow s (prV X0.digest X0.key X0) = u at *
          have y0 : u.cell? ⟨g, 0, none⟩ = some (.int .i64 kk) := HS.out.cell 0
          have y2 : u.cell? ⟨g, 2, none⟩ = some (.slice A4 bb c4) := HS.out.cell 2
          have yg := HS.out.lt
          go_upto_region 16 with (first
            | (go_at_call 33; refine (HDE2.out A4 c4 _ HC1.out HC2.out (HX.out.more (Nat.le_trans HBW.out (Nat.le_of_lt HP.out.blk.lt)))).mono ?_; rintro e1 u ⟨X, rfl, hb1⟩; replace HX := Lib.hid (HX.out.below (hb1.mono (Nat.le_trans HBW.out (Nat.le_of_lt HP.out.blk.lt)))); replace HV := Lib.hid (HV.out.below hb1 HV.out.lt); replace HS := Lib.hid (HS.out.below hb1 HS.out.lt); replace HR := Lib.hid (HR.out.below hb1 HR.out.lt); replace HP := Lib.hid (HP.out.below hb1 HP.out.blk.lt); replace HB := Lib.hid (HB.out.below hb1); clear hb1; have hl := HS.out.lt; have hf := HS.out.frozen; clear hf hl y0 y2 yg)
            | (refine wpList_store_row rfl 26 _ _ rfl s (prV d0 d1 X) rfl rfl 26 _ HV.out (prV_size _ _ _) rfl (prV_ones _ _ _) ?_))
          have hb1 : Below s u (u.setRow s (prV d0 d1 X)) := below_row (Below.refl _ _) (Nat.le_refl _) _
          replace HV := Lib.hid (HV.out.row (prV d0 d1 X))
          replace HX := Lib.hid (HX.out.below (hb1.mono (Nat.le_trans HBW.out (Nat.le_of_lt HPS.out))))
          replace HS := Lib.hid (HS.out.below hb1 HGS.out)
          replace HR := Lib.hid (HR.out.below hb1 HRSS.out)
          replace HP := Lib.hid (HP.out.below hb1 HPS.out)
          replace HB := Lib.hid (HB.out.lowB (hb1.mono HBU.out))
          clear hb1 he9
          generalize u.setRow s (prV d0 d1 X) = u at *
          have tk : ((nk : Int) == 0) = true ∨ (((nk : Int) == 0) = false ∧ ((nk : Int) == (d1 : Int)) = true) := by
            rw [HNK.out]
            by_cases h : key.length = 0
            · exact .inl (by simpa using h)
            · exact .inr ⟨by simpa using h, by have h2 := hkk.resolve_left h; rw [h2]; simp⟩
          clear hkk
          have v1 : u.cell? ⟨s, 1, none⟩ = some (.int .i64 d1) := HV.out.cell 1
          have vl := HV.out.lt
          have hu := Lib.hid Try.underlying26
          rcases tk with t1 | ⟨t1, t2⟩
          all_goals
            go_upto_region 17 with (go_at_call 34; refine (must_any p _ _ HP.out.blk).mono ?_; rintro e1 w1 ⟨rfl, rfl⟩)
            clear v1 vl
            have hth := HS.out.there 3 11 (by show 3 + 11 ≤ 19; decide)
            have HTH := Lib.hid (show u.there g 3 (prV d0 d1 X).size from hth)
            clear hth
            go_upto_region 18 with (first
              | (refine wpList_load_row rfl 26 _ rfl s rfl 26 (prV d0 d1 X) (0, 0) _ HV.out hu.out rfl (prV_size _ _ _) ?_)
              | (refine wpList_store_mid rfl 26 (.tmp 84) (.tmp 83) rfl g 3 (prV d0 d1 X) rfl rfl HTH.out (prV_size _ _ _) (prV_ones _ _ _) ?_))
            have hb9 := (But.refl [g] u).setCells (g := g) (prV d0 d1 X).toList 3 (.inl (by simp))
            replace HX := Lib.hid (HX.out.below (hb9.toBelow (Nat.le_trans HBW.out (Nat.le_of_lt HP.out.blk.lt)) (fun k hk => by simp at hk; rw [hk]; exact Nat.le_trans HBW.out (Nat.le_of_lt HPG.out))))
            have hs9 := HS.out.setCells (prV d0 d1 X).toList 3
            rw [laid_prV] at hs9
            replace HS := Lib.hid hs9
            clear hs9
            replace HR := Lib.hid (HR.out.setCellsFar (prV d0 d1 X).toList 3 (Nat.ne_of_lt HRG.out))
            replace HP := Lib.hid (HP.out.but hb9 (fun k hk => by simp at hk; rw [hk]; exact HPG.out))
            replace HB := Lib.hid (HB.out.setCells (prV d0 d1 X).toList 3 (.inr HGW.out))
            clear hb9 HV HTH
            generalize u.setCells g 3 (prV d0 d1 X).toList = u at *
            obtain ⟨A5, n5, c5, HP5⟩ : ∃ A5 n5 c5, Hid (Pen u B p A5 n5 c5 (key ++ rest)) := ⟨_, _, _, HP⟩
            clear HP
            have hbn : nk ≤ n5 := by have h := HP5.out.len; rw [List.length_append, ← HNK.out] at h; omega
            have htk := take_any B p n5 c5 nk A5 _ u HP5.out hbn
            have HKY := Lib.hid (show RS cB u B A5 key by have h := HP5.out.rs.take nk; rwa [List.take_left' HNK.out.symm] at h)
            have HC3 := Lib.hid (show nk ≤ c5 from Nat.le_trans hbn HP5.out.cap)
            have HC4 := Lib.hid HP5.out.top
            rw [List.drop_left' HNK.out.symm] at htk
            have HTK := Lib.hid htk
            clear htk hbn HP5
            have hf := HS.out.frozen
            have hl := HS.out.lt
            go_upto_region 19 with (go_at_call 32; refine HTK.out.mono ?_; rintro e1 u ⟨rfl, hp1, hb1⟩; replace HX := Lib.hid (HX.out.below (hb1.toBelow (Nat.le_trans HBW.out (Nat.le_of_lt (Nat.lt_trans HPG.out HS.out.lt))) (fun k hk => by simp at hk; rw [hk]; exact HBW.out))); replace HKY := Lib.hid (HKY.out.below (hb1.toBelow (Nat.le_trans HBW.out (Nat.le_of_lt (Nat.lt_trans HPG.out HS.out.lt))) (fun k hk => by simp at hk; rw [hk]; exact HBW.out))); clear hf hl; replace HS := Lib.hid (HS.out.but hb1 (by simp; exact Nat.ne_of_gt HPG.out)); replace HR := Lib.hid (HR.out.but hb1 (by simp; exact Nat.ne_of_gt HPR.out)); replace HB := Lib.hid (HB.out.trans hb1 (fun k hk => .inl hk)); have HP := Lib.hid hp1; clear hp1 hb1; have hf := HS.out.frozen; have hl := HS.out.lt; have z14 : u.cell? ⟨g, 14, none⟩ = some (.slice none 0 0) := HS.out.cell 14)
            clear z14 HTK
            replace HX := Lib.hid (HX.out.setCell (p := ⟨g, 14, none⟩) (Nat.le_trans HBW.out (Nat.le_of_lt HPG.out)) (.slice A5 nk c5))
            replace HKY := Lib.hid (HKY.out.setCell (p := ⟨g, 14, none⟩) (Nat.le_trans HBW.out (Nat.le_of_lt HPG.out)) (.slice A5 nk c5))
            replace HS := Lib.hid (show Blk _ g 58 (svV kk last ⟨A4, bb, c4⟩ d0 d1 X ⟨A5, nk, c5⟩ Sl.nil 0 0 Sl.nil) from HS.out.set_ 14 (.slice A5 nk c5))
            replace HR := Lib.hid (HR.out.far (p := ⟨g, 14, none⟩) (Nat.ne_of_lt HRG.out) (.slice A5 nk c5))
            replace HP := Lib.hid (HP.out.but ((But.refl [g] u).setCell (p := ⟨g, 14, none⟩) (.inl (by simp)) (.slice A5 nk c5)) (fun k hk => by simp at hk; rw [hk]; exact HPG.out))
            replace HB := Lib.hid (HB.out.setCell (p := ⟨g, 14, none⟩) (.inr HGW.out) (.slice A5 nk c5))
            clear hf hl
            generalize u.setCell ⟨g, 14, none⟩ (.slice A5 nk c5) = u at *
            have hu2 := Lib.hid Try.underlying58
            have hsz2 := Lib.hid (svV_size kk last ⟨A4, bb, c4⟩ d0 d1 X ⟨A5, nk, c5⟩ Sl.nil 0 0 Sl.nil)
            have hon2 := Lib.hid (svV_ones kk last ⟨A4, bb, c4⟩ d0 d1 X ⟨A5, nk, c5⟩ Sl.nil 0 0 Sl.nil)
            obtain ⟨SV, hSV⟩ : ∃ SV, SV = svV kk last ⟨A4, bb, c4⟩ d0 d1 X ⟨A5, nk, c5⟩ Sl.nil 0 0 Sl.nil := ⟨_, rfl⟩
            rw [← hSV] at HS hsz2 hon2
            have hss := Lib.hid (show sv0.size = SV.size by rw [hSV]; rfl)
            have HSV := Lib.hid hSV
            clear hSV
            go_wp2_with (first
              | (refine wpList_load_row rfl 58 _ rfl g rfl 58 SV (0, 0) _ HS.out hu2.out rfl hsz2.out ?_)
              | (refine wpList_store_row rfl 58 _ _ rfl r SV rfl rfl 58 sv0 HR.out hsz2.out hss.out hon2.out ?_))
            have hb9 : Below r u (u.setRow r SV) := below_row (Below.refl _ _) (Nat.le_refl _) _
            have hbb : Below B u (u.setRow r SV) := hb9.mono (Nat.le_trans HBW.out (Nat.le_of_lt HPR.out))
            refine bodyPost_ret (results_cell_row rfl _ _ r _ _ (0, 0) _ rfl (HR.out.row SV) hu2.out rfl hsz2.out) rfl ?_
            refine ⟨X, A4, A5, c4, c5, _, _, _, by rw [HSV.out, HNK.out], HX.out.below hbb, HC1.out, HC2.out, HKY.out.below hbb, by rw [← HNK.out]; exact HC3.out, HC4.out, HP.out.below hb9 HPR.out, HB.out.lowB (hb9.mono HRW.out)⟩
theorem head_any (B p n c : Nat) (A : Option Addr) (big last : Bool) (kb lb k8 : UInt8) (x key rest : List UInt8) (w : World)
    (hp : Pen w B p A n c (78 :: kb :: lb :: k8 :: (x ++ (key ++ rest)))) (hkb : ((kb.toNat : Nat) : Int) = kOf big) (hlb : lb.toNat < 2) (hlt : (((lb.toNat : Nat) : Int) == 1) = last) (hk8 : k8.toNat = key.length)
    (hxl : x.length = bOf big) (hdec : decOk big false x ∨ decOk big true x) (hkk : key.length = 0 ∨ key.length = fld x 1 1) (hkm : key.length ≤ bOf big) :
    Calls Try.prog 18 #[.pointer (some ⟨p, 0, none⟩)] w fun r w' => ∃ (X : Pr) (Ax Ak : Option Addr) (cx ck : Nat) (A' : Option Addr) (n' c' : Nat),
      r = .returned (.agg (svV (kOf big) last ⟨Ax, bOf big, cx⟩ (fld x 0 1 : Nat) (fld x 1 1 : Nat) X ⟨Ak, key.length, ck⟩ Sl.nil 0 0 Sl.nil)) ∧ RS cB w' B Ax x ∧ bOf big ≤ cx ∧ cx ≤ 9223372036854775807 ∧ RS cB w' B Ak key ∧ key.length ≤ ck ∧ ck ≤ 9223372036854775807 ∧ Pen w' B p A' n' c' rest ∧ But [p] w w' := by
  by_cases h : decOk big false x
  · exact head0_any B p n c A big last kb lb k8 x key rest w hp hkb hlb hlt hk8 hxl h hkk hkm
  · exact head1_any B p n c A big last kb lb k8 x key rest w hp hkb hlb hlt hk8 hxl h (hdec.resolve_left h) hkk hkm
end Go.Proofs.Ytboihcigcfmhhaa

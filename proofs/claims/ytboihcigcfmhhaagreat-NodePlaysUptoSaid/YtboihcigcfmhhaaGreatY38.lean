/-
  Y38: contracts and lemmas alone; no statement is claimed here.
-/
import Derived.Test.YtboihcigcfmhhaaGreatY37
import Derived.Test.YtboihcigcfmhhaaGreatY14
import Derived.Test.YtboihcigcfmhhaaGreatY26
set_option maxHeartbeats 8000000
set_option maxRecDepth 20000
namespace Go.Proofs.YtboihcigcfmhhaaGreat
open _root_.UInt8 renaming ofNat → bZZ
open _root_.Nat renaming le_of_lt → bZL
open _root_.UInt64 renaming ofNat → bZD
open _root_.Nat renaming le_refl → aZC
open Lib renaming hid -> zH
open Go.RowKit
attribute [local go_sem] pureUpon Ords.of
theorem flat_at : ∀ (H : List UInt64) (i : Nat) (a : UInt64), H[i]? = some a -> ((flat H).drop (8 * i)).take 8 = storeN a.toNat 8
 | [], i, a, h => by simp at h
 | b :: H, 0, a, h => by
  simp at h; subst h
  show ((storeN b.toNat 8 ++ flat H).drop 0).take 8 = _
  rw [List.drop_zero, List.take_left' (storeN_len _ _)]
 | b :: H, i + 1, a, h => by
  rw [List.getElem?_cons_succ] at h
  show ((storeN b.toNat 8 ++ flat H).drop (8 * (i + 1))).take 8 = _
  rw [show 8 * (i + 1) = (storeN b.toNat 8).length + 8 * i by rw [storeN_len]; omega, List.drop_append, Nat.add_sub_cancel_left, List.drop_eq_nil_of_le (by omega), List.nil_append];exact flat_at H i a h
theorem flat3_at : ∀ (H : List UInt32) (i : Nat) (a : UInt32), H[i]? = some a -> ((flat3 H).drop (4 * i)).take 4 = storeN a.toNat 4
 | [], i, a, h => by simp at h
 | b :: H, 0, a, h => by
  simp at h; subst h
  show ((storeN b.toNat 4 ++ flat3 H).drop 0).take 4 = _
  rw [List.drop_zero, List.take_left' (storeN_len _ _)]
 | b :: H, i + 1, a, h => by
  rw [List.getElem?_cons_succ] at h
  show ((storeN b.toNat 4 ++ flat3 H).drop (4 * (i + 1))).take 4 = _
  rw [show 4 * (i + 1) = (storeN b.toNat 4).length + 4 * i by rw [storeN_len]; omega, List.drop_append, Nat.add_sub_cancel_left, List.drop_eq_nil_of_le (by omega), List.nil_append];exact flat3_at H i a h
theorem word3_storeN (x : UInt32) : word3 (storeN x.toNat 4) = x := by
 apply UInt32.toNat_inj.1;unfold word3;rw [le_storeN, UInt32.toNat_ofNat'];have := x.toNat_lt;rw [Nat.mod_mod, Nat.mod_eq_of_lt (by omega)]
theorem wordsOf_flat (H : List UInt64) (n : Nat) (hH : H.length = n) : wordsOf (flat H) n = H := by
 apply List.ext_getElem?;intro i
 by_cases h : i < n
 ·have hg : H[i]? = some (H[i]'(by omega)) := List.getElem?_eq_getElem (by omega)
  rw [wordsOf_at _ _ _ h, flat_at H i _ hg, word_storeN, hg]
 ·rw [List.getElem?_eq_none (by rw [wordsOf_len]; omega), List.getElem?_eq_none (by omega)]
theorem words3_flat (H : List UInt32) (n : Nat) (hH : H.length = n) : words3 (flat3 H) n = H := by
 apply List.ext_getElem?;intro i
 by_cases h : i < n
 ·have hg : H[i]? = some (H[i]'(by omega)) := List.getElem?_eq_getElem (by omega)
  rw [words3_at _ _ _ h, flat3_at H i _ hg, word3_storeN, hg]
 ·rw [List.getElem?_eq_none (by rw [words3_len]; omega), List.getElem?_eq_none (by omega)]
def stEng (big : Bool) (st : List UInt8) (lo : UInt64) (hd : List UInt8) : Eng := if big then .big ⟨wordsOf st 8, lo, 0, hd⟩ else .small ⟨words3 st 8, lo, 0, hd⟩
structure Eng.Sv (big : Bool) (x key : List UInt8) (e : Eng) : Prop where
  st : e.stateL.length = bOf big
  back : stEng big e.stateL e.lo e.held = e
  hi : e.hi = 0
  mod : e.lo.toNat % (2 * bOf big) = 0
  held : e.held.length <= 2 * bOf big
  some_ : e.lo ≠ 0 -> 0 < e.held.length
  none_ : e.lo = 0 -> e.stateL = (startOf big x).stateL
  noneK : e.lo = 0 -> key ≠ [] -> e.held = padTo key (2 * bOf big)
theorem cnt_lo (big : Bool) (lo : UInt64) : word ((countL big lo 0).take 8) = lo := by
 cases big
 ·show word ((storeN lo.toNat 8).take 8) = lo
  rw [List.take_of_length_le (by rw [storeN_len]; exact aZC _), word_storeN]
 ·show word ((storeN lo.toNat 8 ++ storeN 0 8).take 8) = lo
  rw [List.take_left' (storeN_len _ _), word_storeN]
theorem cnt_hi (lo : UInt64) : word (((countL true lo 0).drop 8).take 8) = 0 := by
 show word (((storeN lo.toNat 8 ++ storeN 0 8).drop 8).take 8) = 0
 rw [List.drop_left' (storeN_len _ _), List.take_of_length_le (by rw [storeN_len]; exact aZC _)]
 decide
theorem tail_any (B p n c : Nat) (A : Option Addr) (big last : Bool) (x key : List UInt8) (e : Eng) (h8 : UInt8) (X : Pr) (d0 d1 : Int) (Ax Ak : Option Addr) (cx ck nk : Nat) (w : World) (he : e.Sv big x key)
  (hp : Pen w B p A n c (e.stateL ++ (countL big e.lo 0 ++ (h8 :: e.held)))) (hh8 : h8.toNat = e.held.length) (hxl : x.length = bOf big) (hrx : RS cB w B Ax x) (hkl : key.length = nk) (hkm : nk <= bOf big) (hrk : RS cB w B Ak key) :
  Calls Tryz.prog 42 #[.pointer (some ⟨p, 0, none⟩), .agg (svV (kOf big) last ⟨Ax, bOf big, cx⟩ d0 d1 X ⟨Ak, nk, ck⟩ Sl.nil 0 0 Sl.nil)] w fun r w' => ∃ (As Ah : Option Addr) (cs ch : Nat) (A' : Option Addr) (c' : Nat),
   r = .returned (.agg (svV (kOf big) last ⟨Ax, bOf big, cx⟩ d0 d1 X ⟨Ak, nk, ck⟩ ⟨As, bOf big, cs⟩ (wrd e.lo) 0 ⟨Ah, e.held.length, ch⟩)) /\ RS cB w' B As e.stateL /\ RS cB w' B Ah e.held /\ Pen w' B p A' 0 c' [] /\ But [p] w w' := by
 obtain ⟨h1, -, -, h4, h5, h6, h7, h8k⟩ := he;have hlo := cnt_lo big e.lo;have hcl := countL_len big e.lo 0
 by_cases hz : e.lo = 0
 ·have h9 := h7 hz; have h10 := h8k hz
  replace hlo := hlo.trans hz;rw [show wrd e.lo = 0 by rw [hz]; rfl]
  cases big with
  | true => exact tailBigN_any B p n c A last x key _ _ _ h8 X d0 d1 Ax Ak cx ck nk w hp h1 hcl hlo (cnt_hi _) hh8 h5 hxl hrx hkl hkm hrk h9 h10
  | false => exact tailSmaN_any B p n c A last x key _ _ _ h8 X d0 d1 Ax Ak cx ck nk w hp h1 hcl hlo hh8 h5 hxl hrx hkl hkm hrk h9 h10
 ·cases big with
  | true => exact tailBigS_any B p n c A last e.lo hz h4 x key _ _ _ h8 X d0 d1 Ax Ak cx ck nk w hp h1 hcl hlo (cnt_hi _) hh8 h5 hxl hrx hkl hkm hrk (h6 hz)
  | false => exact tailSmaS_any B p n c A last e.lo hz h4 x key _ _ _ h8 X d0 d1 Ax Ak cx ck nk w hp h1 hcl hlo hh8 h5 hxl hrx hkl hkm hrk (h6 hz)
theorem node_any (d : Nat) (big last : Bool) (x key : List UInt8) (e : Eng) (X : Pr) (d1 : Int) (Ax Ak As Ah : Option Addr) (cx ck cs ch nk : Nat) (w : World) (he : e.Sv big x key)
  (hxl : x.length = bOf big) (hrx : RS cB w w.heap.size Ax x) (hkl : key.length = nk) (hkm : nk <= bOf big) (hrk : RS cB w w.heap.size Ak key) (hrs : RS cB w w.heap.size As e.stateL) (hrh : RS cB w w.heap.size Ah e.held) :
  Calls Tryz.prog 43 #[.agg (svV (kOf big) last ⟨Ax, bOf big, cx⟩ d d1 X ⟨Ak, nk, ck⟩ ⟨As, bOf big, cs⟩ (wrd e.lo) 0 ⟨Ah, e.held.length, ch⟩)] w fun r w' => ∃ p F, r = .returned (.pointer (some ⟨p, 0, none⟩)) /\ Nd w' p big d x key last (wrOf e.lo e.held.length nk (bZD (2 * bOf big))) e F /\ (∀ k, k ∈ F -> w.heap.size <= k) /\ Below w.heap.size w w' := by
 obtain ⟨h1, h2, -, -, h5, -, -, -⟩ := he;have key_ : ∀ e', e' = e -> Calls Tryz.prog 43 #[.agg (svV (kOf big) last ⟨Ax, bOf big, cx⟩ d d1 X ⟨Ak, nk, ck⟩ ⟨As, bOf big, cs⟩ (wrd e.lo) 0 ⟨Ah, e.held.length, ch⟩)] w (fun r w' => ∃ p F, r = .returned (.pointer (some ⟨p, 0, none⟩)) /\ Nd w' p big d x key last (wrOf e.lo e.held.length nk (bZD (2 * bOf big))) e' F /\ (∀ k, k ∈ F -> w.heap.size <= k) /\ Below w.heap.size w w') -> Calls Tryz.prog 43 #[.agg (svV (kOf big) last ⟨Ax, bOf big, cx⟩ d d1 X ⟨Ak, nk, ck⟩ ⟨As, bOf big, cs⟩ (wrd e.lo) 0 ⟨Ah, e.held.length, ch⟩)] w (fun r w' => ∃ p F, r = .returned (.pointer (some ⟨p, 0, none⟩)) /\ Nd w' p big d x key last (wrOf e.lo e.held.length nk (bZD (2 * bOf big))) e F /\ (∀ k, k ∈ F -> w.heap.size <= k) /\ Below w.heap.size w w') := by
  intro e' he' h; subst he'; exact h
 refine key_ _ h2 ?_;clear key_ h2;generalize e.stateL = st at *;generalize e.held = hd at *;generalize e.lo = lo at *
 cases big with
 | true => exact nodeBig_any d last lo x key st hd X d1 Ax Ak As Ah cx ck cs ch nk hd.length w hxl hrx hkl hkm hrk h1 hrs rfl h5 hrh
 | false => exact nodeSmall_any d last lo x key st hd X d1 Ax Ak As Ah cx ck cs ch nk hd.length w hxl hrx hkl hkm hrk h1 hrs rfl h5 hrh
theorem saveL_eq (big : Bool) (x key : List UInt8) (last : Bool) (e : Eng) (hi : e.hi = 0) : saveL big x key last e = 78 :: (if big then 1 else 2) :: (if last then 1 else 0) :: bZZ key.length :: (x ++ (key ++ (e.stateL ++ (countL big e.lo 0 ++ (bZZ e.held.length :: e.held))))) := by
 unfold saveL;rw [hi];simp [List.append_assoc]
theorem load_of (A : Option Addr) (n c : Nat) (big last : Bool) (x key : List UInt8) (e : Eng) (w : World) (hn : (saveL big x key last e).length = n) (hc : n <= c /\ c <= 9223372036854775807) (hr : RS cB w w.heap.size A (saveL big x key last e))
    (hxl : x.length = bOf big) (hdec : decOk big false x \/ decOk big true x) (hkk : key.length = 0 \/ key.length = fld x 1 1) (hkm : key.length <= bOf big) (he : e.Sv big x key) :
    Calls Tryz.prog 25 #[.slice A n c] w fun r w' => ∃ q F, r = .returned (.tuple #[.pointer (some ⟨q, 0, none⟩), .int .i64 0]) /\ Nd w' q big (fld x 0 1) x key last (wrOf e.lo e.held.length key.length (bZD (2 * bOf big))) e F /\ (∀ k, k ∈ F -> w.heap.size <= k) /\ Below w.heap.size w w' := by
  rw [saveL_eq big x key last e he.hi] at hn hr;have hb64 : bOf big <= 64 := by cases big <;> decide
  have hh8 : (bZZ e.held.length).toNat = e.held.length := by rw [UInt8.toNat_ofNat']; have := he.held; omega
  have hk8 : (bZZ key.length).toNat = key.length := by rw [UInt8.toNat_ofNat']; omega
  have hkb : (((if big then 1 else 2 : UInt8).toNat : Nat) : Int) = kOf big := by cases big <;> rfl
  have hlb : (if last then 1 else 0 : UInt8).toNat < 2 := by cases last <;> decide
  have hlt : ((((if last then 1 else 0 : UInt8).toNat : Nat) : Int) == 1) = last := by cases last <;> rfl
  generalize (if big then 1 else 2 : UInt8) = kb at *;generalize (if last then 1 else 0 : UInt8) = lb at *;generalize bZZ key.length = k8 at *;generalize bZZ e.held.length = h8 at *;have hb9 := bal (b0 w) (.cells #[.slice A n c, .int .i64 0] 87);have hP : Pen (w.alloc (.cells #[.slice A n c, .int .i64 0] 87)) w.heap.size w.heap.size A n c _ := ⟨Blk.new _ _ _, hn, hc.1, hc.2, aZC _, hr.below hb9⟩;obtain ⟨p, hp⟩ : ∃ p, p = w.heap.size := ⟨_, rfl⟩;rw [<- hp] at hP;have hhd := head_any p p n c A big last kb lb k8 x key _ (w.alloc (.cells #[.slice A n c, .int .i64 0] 87)) hP hkb hlb hlt hk8 hxl hdec hkk hkm;have HHD := zH hhd; have HE := zH he; have HXL := zH hxl; have HKM := zH hkm; have HH8 := zH hh8;have HB := zH hb9;have HPW := zH hp;have HPL := zH (show p < (w.alloc (.cells #[.slice A n c, .int .i64 0] 87)).heap.size by rw [hp]; simp);clear hhd he hxl hkm hh8 hkk hdec hk8 hlt hlb hkb hb64 hP hb9 hn hc hr;go_enter Tryz.func25, Tryz.ntmps25;go_upto_region 2 with fail
  rw [<- hp];clear hp;generalize w.alloc (.cells #[.slice A n c, .int .i64 0] 87) = u at *;have hu := zH Tryz.underlying89;have hs0 : (#[.int .i64 0, .bool false, .slice none 0 0, .int .i64 0, .int .i64 0, .int .i64 0, .int .i64 0, .int .u32 0, .int .u64 0, .int .u32 0, .int .i64 0, .int .i64 0, .slice none 0 0, .slice none 0 0, .slice none 0 0, .slice none 0 0, .int .u64 0, .int .u64 0, .slice none 0 0] : Array Value) = sv0 := rfl;go_upto_region 3 with (first
    | (go_at_call 41; refine HHD.mono ?_; rintro e1 u1 ⟨X, Ax, Ak, cx, ck, A', n', c', rfl, hrx, -, -, hrk, -, -, hp1, hb1⟩
       obtain ⟨SV1, hSV1⟩ : ∃ S, svV (kOf big) last ⟨Ax, bOf big, cx⟩ (fld x 0 1 : Nat) (fld x 1 1 : Nat) X ⟨Ak, key.length, ck⟩ Sl.nil 0 0 Sl.nil = S := ⟨_, rfl⟩;have hsz1 := zH (hSV1 ▸ svV_size (kOf big) last ⟨Ax, bOf big, cx⟩ (fld x 0 1 : Nat) (fld x 1 1 : Nat) X ⟨Ak, key.length, ck⟩ Sl.nil 0 0 Sl.nil);have hon1 := zH (hSV1 ▸ svV_ones (kOf big) last ⟨Ax, bOf big, cx⟩ (fld x 0 1 : Nat) (fld x 1 1 : Nat) X ⟨Ak, key.length, ck⟩ Sl.nil 0 0 Sl.nil);have hss1 := zH (show sv0.size = SV1.size by rw [<- hSV1]; rfl);rw [hSV1];have HSV1 := zH hSV1; have HRX := zH hrx; have HRK := zH hrk; have HP := zH hp1; have HB1 := zH hb1;clear hSV1 hrx hrk hp1 hb1)
    | (refine wpList_store_row rfl 89 _ _ rfl u1.heap.size SV1 rfl rfl 89 sv0 (Blk.new _ _ _) hsz1.out hss1.out hon1.out ?_))
  clear HHD;have HPU := zH (show p <= u1.heap.size from bZL HP.blk.lt);have hb2 := brow (g := u1.heap.size) (bal (b0 u1) (.cells sv0 89)) (aZC _) SV1;have HT := zH (show Blk _ u1.heap.size 89 SV1 from (Blk.new u1 89 sv0).row SV1);have HPT := zH (show p < u1.heap.size from HP.blk.lt);replace HP := zH (HP.below hb2 HP.blk.lt);replace HRX := zH (HRX.below (hb2.mono HPU));replace HRK := zH (HRK.below (hb2.mono HPU));have hbw : Below w.heap.size w u1 := HB.trans (HB1.toBelow HB.size (fun k hk => by simp at hk; rw [hk, HPW.out]; exact aZC _));replace HB := zH (bcall hbw hb2);clear hbw hb2 HB1 HPL HPU;obtain ⟨t, ht⟩ : ∃ t, t = u1.heap.size := ⟨_, rfl⟩;rw [<- ht] at HT HPT HP HRX HRK HB ⊢;clear ht;generalize (u1.alloc (.cells sv0 89)).setRow t SV1 = v at *;clear u u1;have htl := tail_any p p n' c' A' big last x key e h8 X (fld x 0 1 : Nat) (fld x 1 1 : Nat) Ax Ak cx ck key.length v HE HP HH8 HXL HRX rfl HKM HRK.out;rw [HSV1.out] at htl;have HTL := zH htl;clear htl HSV1 HH8;have y1 : v.cell? ⟨p, 1, none⟩ = some (.int .i64 0) := HP.blk.cell 1;have yl := HP.blk.lt;go_upto_region 5 with (first
    | (refine wpList_load_row rfl 89 _ rfl t rfl 89 SV1 (0, 0) _ HT hu.out rfl hsz1.out ?_)
    | (go_at_call 42; refine HTL.mono ?_; rintro e1 u2 ⟨As, Ah, cs, ch, A2, c2, rfl, hrs, hrh, hp1, hb1⟩
       obtain ⟨SV2, hSV2⟩ : ∃ S, svV (kOf big) last ⟨Ax, bOf big, cx⟩ (fld x 0 1 : Nat) (fld x 1 1 : Nat) X ⟨Ak, key.length, ck⟩ ⟨As, bOf big, cs⟩ (wrd e.lo) 0 ⟨Ah, e.held.length, ch⟩ = S := ⟨_, rfl⟩;have hsz2 := zH (hSV2 ▸ svV_size (kOf big) last ⟨Ax, bOf big, cx⟩ (fld x 0 1 : Nat) (fld x 1 1 : Nat) X ⟨Ak, key.length, ck⟩ ⟨As, bOf big, cs⟩ (wrd e.lo) 0 ⟨Ah, e.held.length, ch⟩);have hon2 := zH (hSV2 ▸ svV_ones (kOf big) last ⟨Ax, bOf big, cx⟩ (fld x 0 1 : Nat) (fld x 1 1 : Nat) X ⟨Ak, key.length, ck⟩ ⟨As, bOf big, cs⟩ (wrd e.lo) 0 ⟨Ah, e.held.length, ch⟩);have hss2 := zH (show SV1.size = SV2.size by rw [<- hss1.out, <- hSV2]; rfl);rw [hSV2];have HSV2 := zH hSV2; have HRS := zH hrs; have HRH := zH hrh;have hbl := hb1.toBelow (B := p) (bZL yl) (fun k hk => by simp at hk; rw [hk]; exact aZC _);replace HT := zH (HT.but hb1 (by simp; exact Nat.ne_of_gt HPT.out));replace HRX := zH (HRX.below hbl); replace HRK := zH (HRK.below hbl);have hbw : Below w.heap.size w u2 := HB.trans (hb1.toBelow HB.size (fun k hk => by simp at hk; rw [hk, HPW.out]; exact aZC _));replace HB := zH hbw;replace HP := zH hp1;clear hSV2 hrs hrh hp1 hb1 hbl hbw y1 yl)
    | (refine wpList_store_row rfl 89 _ _ rfl t SV2 rfl rfl 89 SV1 HT hsz2.out hss2.out hon2.out ?_))
  clear HTL;have hb2 : Below t u2 (u2.setRow t SV2) := below_row (Below.refl _ _) (aZC _) _;have hpt := bZL HPT.out;have HT2 := zH (HT.row SV2);replace HP := zH (HP.below hb2 HPT);replace HRX := zH (HRX.below (hb2.mono hpt)); replace HRK := zH (HRK.below (hb2.mono hpt)); replace HRS := zH (HRS.below (hb2.mono hpt)); replace HRH := zH (HRH.below (hb2.mono hpt));replace HB := zH (HB.trans (hb2.mono (by rw [<- HPW.out]; exact hpt)));clear hb2 HT hpt;generalize u2.setRow t SV2 = v2 at *;have hpv := bZL HP.blk.lt;have hnd := node_any (fld x 0 1) big last x key e X (fld x 1 1 : Nat) Ax Ak As Ah cx ck cs ch key.length v2 HE HXL (HRX.more hpv) rfl HKM (HRK.more hpv) (HRS.more hpv) (HRH.more hpv);rw [HSV2.out] at hnd;have HND := zH hnd;clear hnd hpv HSV2;have y0 : v2.cell? ⟨p, 0, none⟩ = some (.slice A2 0 c2) := HP.blk.cell 0;have y1 : v2.cell? ⟨p, 1, none⟩ = some (.int .i64 0) := HP.blk.cell 1;have yl := HP.blk.lt;go_wp2_with (first
    | (refine wpList_load_row rfl 89 _ rfl t rfl 89 SV2 (0, 0) _ HT2 hu.out rfl hsz2.out ?_)
    | (go_at_call 43; refine HND.mono ?_; rintro e1 u3 ⟨q, F, rfl, hnd1, hF, hb3⟩))
  exact bodyPost_ret (results_tmp2 rfl _ _ _) rfl ⟨q, F, rfl, hnd1, fun k hk => Nat.le_trans HB.size (hF k hk), bcall HB hb3⟩
end Go.Proofs.YtboihcigcfmhhaaGreat

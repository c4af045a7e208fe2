/-
  The long digest of the reference. Contracts alone; no statement is claimed here.
-/
import Derived.Test.YtbghkdhkahkfnaaGreatRefNB
import Derived.Test.YtbghkdhkahkfnaaGreatHx
namespace Go.Proofs.YtbghkdhkahkfnaaGreat
open Go.RowKit
attribute [local go_sem] pureUpon Ords.of

theorem refDigest_any (n nb c : Nat) (A : Option Addr) (l : List UInt8) (w : World) (hn : 1 ≤ n ∧ n ≤ 64) (hl : l.length = nb) (hnb : nb ≤ 140737488355200) (hr : RS cB w w.heap.size A l) :
  Calls Tryz.prog 35 #[.int .i64 n, .slice A nb c] w fun e w' => ∃ A' c' cc, e = .returned (.slice A' n cc) ∧ n ≤ cc ∧ OS cB w' w.heap.size A' c' (plainL n l) ∧ Below w.heap.size w w' := by
 have hh : ∀ W, RS cB W W.heap.size A l → Calls Tryz.prog 54 #[.int .i64 1, .agg #[.int .i64 n, .int .i64 0, .int .i64 1, .int .i64 1, .int .u32 0, .int .u64 0, .int .u32 0, .int .i64 0, .int .i64 0, .slice none 0 0, .slice none 0 0], .slice none 0 0, .bool false, .int .i64 n, .slice A nb c] W (fun r w' => ∃ A' c' cc, r = .returned (.tuple #[.slice A' n cc, .int .i64 0]) ∧ n ≤ cc ∧ OS cB w' W.heap.size A' c' (plainL n l) ∧ Below W.heap.size W w') :=
  fun W hr => refHash_any true false n (plainP n 0) [] [] [] l none A 0 0 nb c W (plainP_chk true n 0 hn (Nat.zero_le _)) (plainP_fit _ _) rfl rfl (RS.nil _) (RS.nil _) rfl (.inl rfl) (RS.nil _) hl hnb hr hn
 have HH := Lib.hid hh; have HR := Lib.hid hr; clear hh hr hl hn
 generalize plainL n l = X at *
 go_enter Tryz.func35, Tryz.ntmps35
 go_wp2_with (go_at_call 54; refine (HH.out _ HR.out).mono ?_; rintro e1 w1 ⟨A1, c1, cc1, rfl, hcc1, ho1, hb1⟩)
 exact bodyPost_ret (results_tmp rfl _ _ _) rfl ⟨A1, c1, cc1, rfl, hcc1, ho1, hb1⟩
theorem sep_row {Ao : Option Addr} {b : Nat} (h : ∀ a, Ao = some a → a.block ≠ b) : Ao.map (·.block) ≠ some b := by
 intro e
 cases hA : Ao with
 | none => rw [hA] at e; cases e
 | some a => rw [hA] at e; exact h a hA (Option.some.inj e)
set_option maxRecDepth 20000 in
set_option maxHeartbeats 4000000 in
theorem refLong_any (size : Nat) (A : Option Addr) (nb c : Nat) (l : List UInt8) (w : World) (h : 1 ≤ size ∧ size ≤ 1048576) (hl : l.length = nb) (hnb : nb ≤ 140737488351232) (hr : RS cB w w.heap.size A l) :
  Calls Tryz.prog 19 #[.int .i64 size, .slice A nb c] w fun e w' => ∃ A' c' cc, e = .returned (.tuple #[.slice A' size cc, .int .i64 0]) ∧ OS cB w' w.heap.size A' c' (longL size l) ∧ Below w.heap.size w w' := by
 obtain ⟨h1, h2⟩ := h
 have hst := fun W => refStore_any (UInt64.ofNat size) 4 (by decide) W
 rw [wrd_small size (by omega)] at hst
 have hu : (UInt64.ofNat size).toNat = size := by rw [UInt64.toNat_ofNat']; omega
 simp only [hu] at hst
 have hsl := storeN_len size 4
 have hw64 : IntKind.u64.wrap (size : Int) = size := by rw [wrap_u64]; omega
 have t1 : decide ((size : Int) < 1) = false := by simp; omega
 have t2 : decide (1048576 < (size : Int)) = false := by simp; omega
 obtain ⟨S, hS⟩ : ∃ S, S = storeN size 4 := ⟨_, rfl⟩
 have hlong : longL size l = (if size ≤ 64 then plainL size (S ++ l) else halvesL (plainL 64 (S ++ l)) ((size + 31) / 32 - 2) ++ plainL (size - 32 * ((size + 31) / 32 - 2)) (chainL (plainL 64 (S ++ l)) ((size + 31) / 32 - 2 - 1))) := by rw [hS]; rfl
 obtain ⟨LL, hLL⟩ : ∃ LL, LL = longL size l := ⟨_, rfl⟩
 have hshort : size ≤ 64 → LL = plainL size (S ++ l) := fun h => by rw [hLL, hlong, if_pos h]
 have hwide : ∀ q t, ¬ size ≤ 64 → (size + 31) / 32 = q + 3 → size = 32 * (q + 1) + t → LL = halvesL (plainL 64 (S ++ l)) (q + 1) ++ plainL t (chainL (plainL 64 (S ++ l)) q) := fun q t h hq ht => by
  rw [hLL, hlong, if_neg h, hq, show q + 3 - 2 = q + 1 by omega, show q + 1 - 1 = q by omega, show size - 32 * (q + 1) = t by omega]
 rw [← hLL]
 have HSH := Lib.hid hshort; have HWI := Lib.hid hwide; clear hshort hwide hLL
 simp only [← hS] at hst hsl
 have hfl : (S ++ l).length = 4 + nb := by rw [List.length_append, hsl, hl]
 have HST := Lib.hid hst; have HR := Lib.hid hr; have HL := Lib.hid hl; have HSL := Lib.hid hsl; have HFL := Lib.hid hfl
 clear hst hr hl hsl hS hu hfl hlong
 go_enter Tryz.func19, Tryz.ntmps19
 go_wp2_with (go_at_call 34; refine (HST.out _).mono ?_; rintro e1 w1 ⟨A1, c1, rfl, ho1, hb1⟩; have HO1 := Lib.hid ho1; have HB1 := Lib.hid hb1; clear ho1 hb1)
 go_loopw [6, 7] (fun s i wr => ∃ (k m : Nat) (A' : Option Addr) (c' : Nat), k ≤ nb ∧ m = 4 + k ∧ s = .slice A' m c' ∧ i = .int .i64 k ∧ OS cB wr w.heap.size A' c' (S ++ l.take k) ∧ Below w.heap.size w wr) (fun _ i _ => nb - (intOf i).toNat)
 case atStart => exact ⟨0, 4, A1, c1, Nat.zero_le _, rfl, rfl, rfl, by rw [List.take_zero, List.append_nil]; exact HO1.out, HB1.out⟩
 case round =>
  clear HO1 HB1
  obtain ⟨k, m, A2, c2, hk, hm, rfl, rfl, hos, hbw⟩ := hrel
  have HO := Lib.hid hos; have HB := Lib.hid hbw; have HM := Lib.hid hm; clear hos hbw
  by_cases hlt : k < nb
  ·obtain ⟨ad, x, rfl, -, hlx, hcx⟩ := (HR.out.below HB.out).at_ (k := k) (by rw [HL.out]; exact hlt)
   change wr.cell? (ad.add k) = some (.int .u8 (byt x)) at hcx
   have htk := take_more l k x hlx
   have HTK := Lib.hid htk
   have HML : Hid ((S ++ l.take k).length = m) := by show _ = _; rw [List.length_append, HSL.out, List.length_take, HL.out, hm]; omega
   have hkd : decide ((k : Int) < nb) = true := by simp; omega
   have hmb : m + 1 ≤ 140737488355328 := by omega
   clear hm htk hlx
   go_wp2_with (at_builtin; refine wpList_appB1 _ rfl (.tmp 26) (.tmp 31) rfl (HO.out.alloc _) rfl HML.out rfl (cnew _ _ _ rfl) x rfl hmb (by have := HB.out.size; simp; omega) ?_; intro A3 c3 w3 hown3 hgrow hat; have HW3 := Lib.hid (bapp (bal HB.out _) (HO.out.alloc _) hgrow); have HO3 := Lib.hid hown3; clear hown3 hgrow hat)
   go_roundw
   case rel => exact ⟨k + 1, m + 1, A3, c3, by omega, by have := HM.out; omega, rfl, by go_num, by have h := HO3.out; rw [List.append_assoc, ← HTK.out] at h; exact h, HW3.out⟩
   case measure => simp [intOf]; omega
  ·obtain rfl : k = nb := by omega
   have hos := HO.out
   rw [List.take_of_length_le (Nat.le_of_eq HL.out)] at hos
   subst hm
   have HO2 := Lib.hid hos; clear hos HO HM hlt hk
   by_cases h64 : size ≤ 64
   ·have t3 : decide ((size : Int) ≤ 64) = true := by simp; omega
    go_wp2_with (go_at_call 35; refine (refDigest_any size (4 + k) c2 A2 (S ++ l) _ ⟨h1, h64⟩ HFL.out (by omega) (HO2.out.reads)).mono ?_; rintro e3 w3 ⟨A3, c3, cc3, rfl, -, ho3, hb3⟩; have HO3 := Lib.hid (ho3.mono (show w.heap.size ≤ _ from HB.out.size)); have HB3 := Lib.hid (bcall HB.out hb3); clear ho3 hb3)
    exact bodyPost_ret (results_tmp2 rfl _ _ _) rfl ⟨A3, c3, cc3, rfl, by rw [HSH.out h64]; exact HO3.out, HB3.out⟩
   ·have t3 : decide ((size : Int) ≤ 64) = false := by simp; omega
    obtain ⟨q, hq⟩ : ∃ q, (size + 31) / 32 = q + 3 := ⟨(size + 31) / 32 - 3, by omega⟩
    obtain ⟨t, ht⟩ : ∃ t, size = 32 * (q + 1) + t := ⟨size - 32 * (q + 1), by omega⟩
    have ht1 : 33 ≤ t ∧ t ≤ 64 := by omega
    have hLL := HWI.out q t h64 hq ht
    obtain ⟨ht1, ht2⟩ := ht1
    have hd0 := fun W hr => refDigest_any 64 (4 + k) c2 A2 (S ++ l) W ⟨by decide, by decide⟩ HFL.out (by omega) hr
    have hvl := plainL_len 64 (S ++ l) (Nat.le_refl _)
    obtain ⟨v1, hv1⟩ : ∃ v, v = plainL 64 (S ++ l) := ⟨_, rfl⟩
    rw [← hv1] at hvl hLL
    have HLL := Lib.hid hLL; clear hLL
    simp only [← hv1] at hd0
    have hcl := chainL_len v1 hvl
    have hhl := halvesL_len v1 hvl
    have hd64 := fun (j : Nat) (A : Option Addr) (c : Nat) (W : World) hr => refDigest_any 64 64 c A (chainL v1 j) W ⟨by decide, by decide⟩ (hcl j) (by decide) hr
    have hdt := fun (A : Option Addr) (c : Nat) (W : World) hr => refDigest_any t 64 c A (chainL v1 q) W ⟨by omega, ht2⟩ (hcl q) (by decide) hr
    have htl := plainL_len t (chainL v1 q) ht2
    have HD0 := Lib.hid hd0; have HCL := Lib.hid hcl; have HHL := Lib.hid hhl; have HD64 := Lib.hid hd64; have HDT := Lib.hid hdt; have HTL := Lib.hid htl; have HSZ := Lib.hid ht
    have hq2 : q ≤ 40000 := by omega
    clear hd0 hcl hhl hd64 hdt htl hv1 hvl hq ht
    go_wp2_with (go_at_call 35; refine (HD0.out _ HO2.out.reads).mono ?_; rintro e3 w3 ⟨A3, c3, cc3, rfl, hcc3, ho3, hb3⟩; have HO3 := Lib.hid (ho3.mono (show w.heap.size ≤ _ from HB.out.size)); have HB3 := Lib.hid (bcall HB.out hb3); clear ho3 hb3)
    go_loopw [8, 9, 10] (fun o lf v wr => ∃ (j m left : Nat) (Ao Av : Option Addr) (co cv ccv : Nat), j ≤ q ∧ m = 32 * j ∧ left + 32 * j = size ∧ 64 ≤ ccv ∧ (∀ a b, Ao = some a → Av = some b → a.block ≠ b.block) ∧ o = .slice Ao m co ∧ lf = .int .i64 left ∧ v = .slice Av 64 ccv ∧ OS cB wr w.heap.size Ao co (halvesL v1 j) ∧ OS cB wr w.heap.size Av cv (chainL v1 j) ∧ Below w.heap.size w wr) (fun _ lf _ _ => (intOf lf).toNat)
    case atStart => exact ⟨0, 0, size, none, A3, 0, c3, cc3, Nat.zero_le _, rfl, by omega, hcc3, fun a b ha => (by cases ha), rfl, rfl, rfl, OS.nil _ _ _ rfl, HO3.out, HB3.out⟩
    case round =>
     clear HO3 HB3
     obtain ⟨j, m, left, Ao, Av, co, cv, ccv, hj, hm, hleft, hccv, hsep, rfl, rfl, rfl, hoo, hov, hbw⟩ := hrel
     have HOO := Lib.hid hoo; have HOV := Lib.hid hov; have HBW := Lib.hid hbw; have HM := Lib.hid hm; have HLF := Lib.hid hleft; have HSEP := Lib.hid hsep; clear hoo hov hbw hsep
     have hmb : m + 64 ≤ 2000000 := by omega
     have hlb : left ≤ 1048576 := by omega
     have hcci : (32 : Int) ≤ ccv := by omega
     have HHM : Hid ((halvesL v1 j).length = m) := by show _ = _; rw [HHL.out, hm]
     by_cases hlt : j < q
     ·have hld : decide (96 < (left : Int)) = true := by have := HSZ.out; simp; omega
      obtain ⟨l2, hl2⟩ : ∃ l2, left = l2 + 32 := ⟨left - 32, by have := HSZ.out; omega⟩
      have hli : (left : Int) - 32 = (l2 : Int) := by omega
      have HL2 := Lib.hid hl2
      clear hm hleft hl2
      go_wp2_with (first
       | (at_builtin; refine wpList_appB _ rfl (.tmp 43) (.tmp 45) rfl HOO.out rfl HHM.out (HOV.out.reads.take 32) rfl (by rw [List.length_take, HCL.out]; rfl) (by omega) HBW.out.size ?_; intro A4 c4 w4 ho4 hg4 hA4; have HO4 := Lib.hid ho4; have HB4 := Lib.hid (bapp HBW.out HOO.out hg4); have HV4 := Lib.hid ((HOV.out.kept hg4 (fun a ha => sep_row (fun o ho => HSEP.out o a ho ha))).reads); clear ho4 hg4 hA4)
       | (go_at_call 35; refine (HD64.out j Av ccv _ HV4.out).mono ?_; rintro e5 w5 ⟨A5, c5, cc5, rfl, hcc5, ho5, hb5⟩; have HSEP5 := Lib.hid (fun (a b : Addr) (ha : A4 = some a) (hb : A5 = some b) => (by have h1 := (HO4.out.block_lt a ha).2; have h2 := (ho5.block_lt b hb).1; omega : a.block ≠ b.block)); have HO5 := Lib.hid (ho5.mono (show w.heap.size ≤ _ from HB4.out.size)); have HB5 := Lib.hid (bcall HB4.out hb5); have HO45 := Lib.hid (HO4.out.below hb5 (Nat.le_refl _)); clear ho5 hb5))
      go_roundw
      case rel => exact ⟨j + 1, m + 32, l2, A4, A5, c4, c5, cc5, by omega, by have := HM.out; omega, by have h1 := HLF.out; have h2 := HL2.out; omega, hcc5, HSEP5.out, rfl, rfl, rfl, HO45.out, HO5.out, HB5.out⟩
      case measure => have := HL2.out; simp [intOf]; omega
     ·obtain rfl : j = q := by omega
      have hld : decide (96 < (left : Int)) = false := by have := HSZ.out; simp; omega
      have hli : (left : Int) - 32 = (t : Int) := by have := HSZ.out; omega
      have HM2 : Hid (m + 32 + t = size) := by (show _ = _; have := HSZ.out; omega)
      have HHM2 : Hid ((halvesL v1 j ++ (chainL v1 j).take 32).length = m + 32) := by show _ = _; rw [List.length_append, HHM.out, List.length_take, HCL.out]; rfl
      clear hm hleft hlt
      go_wp2_with (first
       | (at_builtin; refine wpList_appB _ rfl (.tmp 51) (.tmp 53) rfl HOO.out rfl HHM.out (HOV.out.reads.take 32) rfl (by rw [List.length_take, HCL.out]; rfl) (by omega) HBW.out.size ?_; intro A4 c4 w4 ho4 hg4 hA4; have HO4 := Lib.hid ho4; have HB4 := Lib.hid (bapp HBW.out HOO.out hg4); have HV4 := Lib.hid ((HOV.out.kept hg4 (fun a ha => sep_row (fun o ho => HSEP.out o a ho ha))).reads); clear ho4 hg4 hA4)
       | (go_at_call 35; refine (HDT.out Av ccv _ HV4.out).mono ?_; rintro e5 w5 ⟨A5, c5, cc5, rfl, hcc5, ho5, hb5⟩; have HO5 := Lib.hid ho5; have HB5 := Lib.hid (bcall HB4.out hb5); have HO45 := Lib.hid (HO4.out.below hb5 (Nat.le_refl _)); clear ho5 hb5)
       | (at_builtin; refine wpList_appB _ rfl (.tmp 55) (.tmp 59) rfl HO45.out rfl HHM2.out HO5.out.reads rfl HTL.out (by omega) HB5.out.size ?_; intro A6 c6 w6 ho6 hg6 hA6; rw [HM2.out]; have HO6 := Lib.hid ho6; have HB6 := Lib.hid (bapp HB5.out HO45.out hg6); clear ho6 hg6 hA6))
      exact bodyPost_ret (results_tmp2 rfl _ _ _) rfl ⟨A6, c6, c6, rfl, by rw [HLL.out]; exact HO6.out, HB6.out⟩
end Go.Proofs.YtbghkdhkahkfnaaGreat

/-
  Hx: contracts and lemmas alone; no statement is claimed here.
-/
import Derived.Test.YtbghkdhkahkfnaaCoreB
import Derived.Laws.IdiomStrings
import Derived.Lib.BufferRead
import Derived.Test.YtbghkdhkahkfnaaHashC
/- Hex of the reference. Contracts alone; no statement is claimed here. -/
namespace Go.Proofs.Ytbghkdhkahkfnaa
open Go.RowKit
attribute [local go_sem] pureUpon Ords.of

theorem OS.lit {α : Type} {cd : Cod α} (w : World) (l : List α) (cs : Array Value) (n : Nat) (hcs : cs = (l.map cd.enc).toArray) (hn : l.length = n) (hm : n ≤ maxLen) : OS cd (w.alloc (.cells cs cd.e)) w.heap.size (some ⟨w.heap.size, 0, none⟩) n l := by
 subst hcs; subst hn
 exact ⟨by simp, .inr ⟨w.heap.size, l.length, _, rfl, Nat.le_refl _, heap_alloc_new w _, Nat.le_refl _, hm, by simp, by rw [Nat.mul_one]; exact List.take_of_length_le (by simp)⟩⟩
def hexd (n : Nat) : UInt8 := [48, 49, 50, 51, 52, 53, 54, 55, 56, 57, 97, 98, 99, 100, 101, 102].getD n 0
def hexL : List UInt8 → List UInt8
  | [] => []
  | b :: l => hexd (b.toNat / 16) :: hexd (b.toNat % 16) :: hexL l
theorem run_string {w : World} {B n c : Nat} {A : Option Addr} {l : List UInt8} (h : RS cB w B A l) (hl : l.length = n) :
  (convert 24 9 (.slice A n c)).run Try.prog w = .ok (.string ⟨l.toArray⟩) w := by
 subst hl
 cases A with
 | none =>
  have h0 : l = [] := by
   rcases Nat.eq_zero_or_pos l.length with h0 | h0
   ·exact List.eq_nil_of_length_eq_zero h0
   ·obtain ⟨a, e, _⟩ := h.2 h0; cases e
  subst h0
  exact Lib.run_convert_nil_bytes w _ _ 5 c Try.underlying24 Try.underlying5 Try.underlying9
 | some a =>
  refine run_convert_bytes_back w _ _ 5 a c l Try.underlying24 Try.underlying5 Try.underlying9 (fun j hj => ?_)
  obtain ⟨ad, x, e, _, hx, hcell⟩ := h.at_ hj
  cases e
  rw [hcell]
  have : l[j]? = some l[j] := List.getElem?_eq_getElem hj
  rw [hx] at this
  cases this
  rfl

end Go.Proofs.Ytbghkdhkahkfnaa

/- The parameters of sequential hashing. Lemmas alone; no statement is claimed here. -/
namespace Go.Proofs.Ytbghkdhkahkfnaa
open Go.RowKit

def plainP (n : Int) (k : Int) : Pr := ⟨n, k, 1, 1, 0, 0, 0, 0, 0, Sl.nil, Sl.nil⟩
theorem plainP_fit (n k : Int) : (plainP n k).Fit := by constructor <;> (unfold plainP; simp)
theorem plainP_chk (big : Bool) (n k : Nat) (h : 1 ≤ n ∧ n ≤ bOf big) (hk : k ≤ bOf big) : chk (kOf big) (plainP n k) = 0 := by
 have e : mostOf (kOf big) = bOf big := by cases big <;> rfl
 have e0 : 0 < bOf big := by cases big <;> decide
 unfold chk
 rw [e]
 unfold plainP Sl.nil
 dsimp only
 repeat rw [if_neg (by omega)]
end Go.Proofs.Ytbghkdhkahkfnaa

/- The long digest of the program. Contracts alone; no statement is claimed here. -/
namespace Go.Proofs.Ytbghkdhkahkfnaa
open Go.RowKit
attribute [local go_sem] pureUpon Ords.of

theorem store32_any (x : Nat) (hx : x < 4294967296) (w : World) :
  Calls Try.prog 24 #[.int .u32 x] w fun e w' => ∃ A, e = .returned (.slice A 4 4) ∧ OS cB w' w.heap.size A 4 (storeN x 4) ∧ Below w.heap.size w w' := by
 go_enter Try.func24, Try.ntmps24
 go_wp2
 refine bodyPost_ret (results_tmp rfl _ _ _) rfl ⟨_, rfl, OS.lit w _ _ 4 ?_ rfl (by decide), bal (b0 w) _⟩
 have e : storeN x 4 = [UInt8.ofNat (x / 256 ^ 0 % 256), UInt8.ofNat (x / 256 ^ 1 % 256), UInt8.ofNat (x / 256 ^ 2 % 256), UInt8.ofNat (x / 256 ^ 3 % 256)] := rfl
 rw [e]
 have g : ∀ (a b : Int), a = b → Value.int .u8 a = .int .u8 b := fun a b h => by rw [h]
 show #[_, _, _, _] = #[_, _, _, _]
 congr 1
 refine List.cons_eq_cons.2 ⟨g _ _ ?_, List.cons_eq_cons.2 ⟨g _ _ ?_, List.cons_eq_cons.2 ⟨g _ _ ?_, List.cons_eq_cons.2 ⟨g _ _ ?_, rfl⟩⟩⟩⟩ <;> (rw [byt_ofNat _ (Nat.mod_lt _ (by decide))]; omega)

def plainL (n : Nat) (l : List UInt8) : List UInt8 := (hashL true (plainP n 0) [] [] [] false l).take n
theorem plainL_len (n : Nat) (l : List UInt8) (h : n ≤ 64) : (plainL n l).length = n := by unfold plainL; rw [List.length_take, hashL_len]; show min n 64 = n; omega
theorem plain_any (n nb c : Nat) (A : Option Addr) (l : List UInt8) (w : World) (hn : 1 ≤ n ∧ n ≤ 64) (hl : l.length = nb) (hnb : nb ≤ c) (hc : c ≤ 9223372036854775807) (hr : RS cB w w.heap.size A l) :
  Calls Try.prog 25 #[.int .i64 n, .slice A nb c] w fun e w' => ∃ A' c', e = .returned (.slice A' n n) ∧ OS cB w' w.heap.size A' c' (plainL n l) ∧ Below w.heap.size w w' := by
 have hh : ∀ W, RS cB W W.heap.size A l → Calls Try.prog 33 #[.int .i64 1, .agg #[.int .i64 n, .int .i64 0, .int .i64 1, .int .i64 1, .int .u32 0, .int .u64 0, .int .u32 0, .int .i64 0, .int .i64 0, .slice none 0 0, .slice none 0 0], .slice none 0 0, .bool false, .int .i64 n, .slice A nb c] W (fun r w' => ∃ A' c', r = .returned (.tuple #[.slice A' n n, .int .i64 0]) ∧ OS cB w' W.heap.size A' c' (plainL n l) ∧ Below W.heap.size W w') :=
  fun W hr => hash_any true false n n (plainP n 0) [] [] [] l none A 0 0 nb c W (plainP_chk true n 0 hn (Nat.zero_le _)) (plainP_fit _ _) rfl rfl rfl (RS.nil _) (RS.nil _) rfl (.inl rfl) (RS.nil _) hl hnb hc hr hn
 have HH := Lib.hid hh; have HR := Lib.hid hr; clear hh hr hl hn
 generalize plainL n l = X at *
 go_enter Try.func25, Try.ntmps25
 go_wp2_with (go_at_call 33; refine (HH.out _ HR.out).mono ?_; rintro e1 w1 ⟨A1, c1, rfl, ho1, hb1⟩)
 exact bodyPost_ret (results_tmp rfl _ _ _) rfl ⟨A1, c1, rfl, ho1, hb1⟩

def chainL (v : List UInt8) : Nat → List UInt8
  | 0 => v
  | k + 1 => plainL 64 (chainL v k)
def halvesL (v : List UInt8) : Nat → List UInt8
  | 0 => []
  | k + 1 => halvesL v k ++ (chainL v k).take 32
def longL (size : Nat) (data : List UInt8) : List UInt8 :=
  let f := storeN size 4 ++ data
  if size ≤ 64 then plainL size f else halvesL (plainL 64 f) ((size + 31) / 32 - 2) ++ plainL (size - 32 * ((size + 31) / 32 - 2)) (chainL (plainL 64 f) ((size + 31) / 32 - 2 - 1))
theorem chainL_len (v : List UInt8) (h : v.length = 64) : ∀ k, (chainL v k).length = 64
 | 0 => h
 | _ + 1 => plainL_len 64 _ (Nat.le_refl _)
theorem halvesL_len (v : List UInt8) (h : v.length = 64) : ∀ k, (halvesL v k).length = 32 * k
 | 0 => rfl
 | k + 1 => by
  show (halvesL v k ++ (chainL v k).take 32).length = _
  rw [List.length_append, halvesL_len v h k, List.length_take, chainL_len v h]
  omega
theorem longL_len (size : Nat) (data : List UInt8) : (longL size data).length = size := by
 unfold longL
 dsimp only
 split
 ·exact plainL_len _ _ (by assumption)
 ·rw [List.length_append, halvesL_len _ (plainL_len _ _ (Nat.le_refl _)), plainL_len _ _ (by omega)]
  omega

set_option maxRecDepth 20000 in
set_option maxHeartbeats 1000000 in
theorem longShort_any (size : Nat) (A : Option Addr) (nb c : Nat) (l : List UInt8) (w : World) (h : 1 ≤ size ∧ size ≤ 64) (hl : l.length = nb) (hnb : nb ≤ 140737488351232) (hr : RS cB w w.heap.size A l) :
  Calls Try.prog 11 #[.int .i64 size, .slice A nb c] w fun e w' => ∃ A' c' cc, e = .returned (.tuple #[.slice A' size cc, .int .i64 0]) ∧ OS cB w' w.heap.size A' c' (longL size l) ∧ Below w.heap.size w w' := by
 have hlong : longL size l = plainL size (storeN size 4 ++ l) := by unfold longL; dsimp only; rw [if_pos h.2]
 rw [hlong]
 clear hlong
 obtain ⟨h1, h2⟩ := h
 have hst := fun W => store32_any size (by omega) W
 have hpl := fun A c W hr hc => plain_any size (4 + nb) c A (storeN size 4 ++ l) W ⟨h1, h2⟩ (by rw [List.length_append, storeN_len, hl]) hr hc
 have t1 : decide ((size : Int) < 1) = false := by simp; omega
 have t2 : decide (1048576 < (size : Int)) = false := by simp; omega
 have t3 : decide ((size : Int) ≤ 64) = true := by simp; omega
 have hw32 : IntKind.u32.wrap (size : Int) = size := by simp [IntKind.wrap, IntKind.bits, IntKind.signed]; omega
 have HST := Lib.hid hst; have HPL := Lib.hid hpl; have HR := Lib.hid hr; have HL := Lib.hid hl; clear hst hpl hr hl
 have hsl := Lib.hid (storeN_len size 4)
 generalize storeN size 4 = S at *
 go_enter Try.func11, Try.ntmps11
 go_wp2_with (first
  | (go_at_call 24; refine (HST.out _).mono ?_; rintro e1 w1 ⟨A1, rfl, ho1, hb1⟩; have HO1 := Lib.hid ho1; have HB1 := Lib.hid hb1; clear ho1 hb1)
  | (at_builtin; refine wpList_appB _ rfl (.tmp 18) (.tmp 19) rfl HO1.out rfl hsl.out (HR.out.below HB1.out) rfl HL.out (by omega) HB1.out.size ?_; intro A2 c2 w2 ho2 hg2 hA2; have HO2 := Lib.hid ho2; have HB2 := Lib.hid (bapp HB1.out HO1.out hg2); clear ho2 hg2 hA2)
  | (go_at_call 25; refine (HPL.out A2 c2 _ (by have h := HO2.out.len_le.1; rw [List.length_append, hsl.out, HL.out] at h; exact h) (by have h := HO2.out.len_le.2; unfold maxLen at h; omega) HO2.out.reads).mono ?_; rintro e3 w3 ⟨A3, c3, rfl, ho3, hb3⟩; have HO3 := Lib.hid ho3; have HB3 := Lib.hid hb3; clear ho3 hb3))
 exact bodyPost_ret (results_tmp2 rfl _ _ _) rfl ⟨A3, c3, _, rfl, HO3.out.mono HB2.out.size, bcall HB2.out HB3.out⟩
set_option maxRecDepth 20000 in
set_option maxHeartbeats 2000000 in
theorem longWideC_any (size : Nat) (A : Option Addr) (nb c : Nat) (l : List UInt8) (w : World) (h : 65 ≤ size ∧ size ≤ 1048576) (hl : l.length = nb) (hnb : nb ≤ 140737488351232) (hr : RS cB w w.heap.size A l) :
  Calls Try.prog 11 #[.int .i64 size, .slice A nb c] w fun e w' => ∃ A' c', e = .returned (.tuple #[.slice A' size c', .int .i64 0]) ∧ OS cB w' w.heap.size A' c' (longL size l) ∧ Below w.heap.size w w' := by
 obtain ⟨q, hq⟩ : ∃ q, (size + 31) / 32 = q + 3 := ⟨(size + 31) / 32 - 3, by omega⟩
 obtain ⟨t, ht⟩ : ∃ t, size = 32 * (q + 1) + t := ⟨size - 32 * (q + 1), by omega⟩
 have ht1 : 1 ≤ t ∧ t ≤ 64 := by omega
 have hlong : longL size l = halvesL (plainL 64 (storeN size 4 ++ l)) (q + 1) ++ plainL t (chainL (plainL 64 (storeN size 4 ++ l)) q) := by
  unfold longL
  dsimp only
  rw [if_neg (by omega), hq, show q + 3 - 2 = q + 1 by omega, show q + 1 - 1 = q by omega, show size - 32 * (q + 1) = t by omega]
 rw [hlong]
 clear hlong
 obtain ⟨h1, h2⟩ := h
 obtain ⟨ht1, ht2⟩ := ht1
 have hst := fun W => store32_any size (by omega) W
 have hpl := fun A c W hr hc => plain_any 64 (4 + nb) c A (storeN size 4 ++ l) W ⟨by decide, by decide⟩ (by rw [List.length_append, storeN_len, hl]) hr hc
 have hsl := storeN_len size 4
 generalize storeN size 4 = S at *
 have hvl := plainL_len 64 (S ++ l) (Nat.le_refl _)
 generalize hv : plainL 64 (S ++ l) = v1 at *
 clear hv
 have hcl := chainL_len v1 hvl
 have hhl := halvesL_len v1 hvl
 have hp64 := fun (k : Nat) (A : Option Addr) (W : World) hr => plain_any 64 64 64 A (chainL v1 k) W ⟨by decide, by decide⟩ (hcl k) (by decide) (by decide) hr
 have hpt := fun (A : Option Addr) (W : World) hr => plain_any t 64 64 A (chainL v1 q) W ⟨ht1, ht2⟩ (hcl q) (by decide) (by decide) hr
 have htl := plainL_len t (chainL v1 q) ht2
 have t1 : decide ((size : Int) < 1) = false := by simp; omega
 have t2 : decide (1048576 < (size : Int)) = false := by simp; omega
 have t3 : decide ((size : Int) ≤ 64) = false := by simp; omega
 have hw32 : IntKind.u32.wrap (size : Int) = size := by simp [IntKind.wrap, IntKind.bits, IntKind.signed]; omega
 have e1 : ((size : Int) + 31) / 32 = (q : Int) + 3 := by omega
 have e2 : ((size : Int) + 31).tdiv 32 = (q : Int) + 3 := by rw [Int.tdiv_eq_ediv_of_nonneg (by omega)]; exact e1
 have e3 : (q : Int) + 3 - 2 = (q : Int) + 1 := by omega
 have e4 : (size : Int) - 32 * ((q : Int) + 1) = t := by omega
 have hq2 : q ≤ 40000 := by omega
 have HST := Lib.hid hst; have HPL := Lib.hid hpl; have HR := Lib.hid hr; have HL := Lib.hid hl; have HSL := Lib.hid hsl; have HVL := Lib.hid hvl; have HCL := Lib.hid hcl; have HHL := Lib.hid hhl; have HP64 := Lib.hid hp64; have HPT := Lib.hid hpt; have HTL := Lib.hid htl; have HSZ := Lib.hid ht; clear hst hpl hr hl hsl hvl hcl hhl hp64 hpt htl ht hq
 go_enter Try.func11, Try.ntmps11
 go_wp2_with (first
  | (go_at_call 24; refine (HST.out _).mono ?_; rintro e1 w1 ⟨A1, rfl, ho1, hb1⟩; have HO1 := Lib.hid ho1; have HB1 := Lib.hid hb1; clear ho1 hb1)
  | (at_builtin; refine wpList_appB _ rfl (.tmp 18) (.tmp 19) rfl HO1.out rfl HSL.out (HR.out.below HB1.out) rfl HL.out (by omega) HB1.out.size ?_; intro A2 c2 w2 ho2 hg2 hA2; have HO2 := Lib.hid ho2; have HB2 := Lib.hid (bapp HB1.out HO1.out hg2); clear ho2 hg2 hA2)
  | (go_at_call 25; refine (HPL.out A2 c2 _ (by have h := HO2.out.len_le.1; rw [List.length_append, HSL.out, HL.out] at h; exact h) (by have h := HO2.out.len_le.2; unfold maxLen at h; omega) HO2.out.reads).mono ?_; rintro e3 w3 ⟨A3, c3, rfl, ho3, hb3⟩; have HO3 := Lib.hid ho3; have HB3 := Lib.hid (bcall HB2.out hb3); have HN3 := Lib.hid (OS.nil w3 w.heap.size 0 rfl (cd := cB)); have HZ3 := Lib.hid hb3.size; clear ho3 hb3)
  | (at_builtin; refine wpList_appB _ rfl (.const (.slice none 0 0)) (.tmp 33) rfl HN3.out rfl rfl (HO3.out.reads.take 32) rfl (by rw [List.length_take, HVL.out]; rfl) (by omega) HB3.out.size ?_; intro A4 c4 w4 ho4 hg4 hA4; rw [List.nil_append] at ho4; have HO4 := Lib.hid ho4; have HG4 := Lib.hid hg4; clear ho4 hg4 hA4))
 have hB4 := HB3.out.grown HG4.out HB3.out.size (fun _ h => by cases h)
 have hV4 := (HO3.out.mono (show w.heap.size ≤ _ from HB2.out.size)).kept HG4.out (fun _ _ h => by cases h)
 have HB4 := Lib.hid hB4; have HV4 := Lib.hid hV4; clear hB4 hV4 HO3 HN3
 go_loopw [8, 9, 37] (fun v o i wr => ∃ (k : Nat) (Av Ao : Option Addr) (cv co : Nat), k ≤ q ∧ v = .slice Av 64 64 ∧ o = .slice Ao (32 * (k + 1)) co ∧ i = .int .i64 k ∧ OS cB wr w.heap.size Av cv (chainL v1 k) ∧ OS cB wr w.heap.size Ao co (halvesL v1 (k + 1)) ∧ Below w.heap.size w wr) (fun _ _ i _ => q - (intOf i).toNat)
 case atStart => exact ⟨0, A3, A4, c3, c4, Nat.zero_le _, rfl, rfl, rfl, HV4.out, HO4.out, HB4.out⟩
 case round =>
  obtain ⟨k, Av, Ao, cv, co, hk, rfl, rfl, rfl, hov, hoo, hbw⟩ := hrel
  have HOV := Lib.hid hov; have HOO := Lib.hid hoo; have HBW := Lib.hid hbw; clear hov hoo hbw
  by_cases hlt : k < q
  ·have hkd : decide ((k : Int) < q) = true := by simp; omega
   have HE : Hid (32 * (k + 1) + 32 = 32 * (k + 1 + 1)) := by show _ = _; omega
   go_wp2_with (first
    | (go_at_call 25; refine (HP64.out k Av _ HOV.out.reads).mono ?_; rintro e5 w5 ⟨A5, c5, rfl, ho5, hb5⟩; have HO5 := Lib.hid ho5; have HB5 := Lib.hid hb5; clear ho5 hb5)
    | (at_builtin; refine wpList_appB _ rfl (.tmp 41) (.tmp 43) rfl (HOO.out.below HB5.out (Nat.le_refl _)) rfl (HHL.out (k + 1)) (HO5.out.reads.take 32) rfl (by rw [List.length_take]; have h := HCL.out (k + 1); unfold chainL at h; rw [h]; rfl) (by omega) (Nat.le_trans HBW.out.size HB5.out.size) ?_; intro A6 c6 w6 ho6 hg6 hA6; rw [HE.out]; have HO6 := Lib.hid ho6; have HG6 := Lib.hid hg6; clear ho6 hg6 hA6))
   case roundEnd =>
    have h5 := (HO5.out.mono (show w.heap.size ≤ _ from HBW.out.size)).kept HG6.out (fun a ha h => by
     cases hA : Ao with
     | none => rw [hA] at h; cases h
     | some b =>
      rw [hA] at h
      have h1 := (HOO.out.block_lt b hA).2
      have h2 := (HO5.out.block_lt a ha).1
      have h3 : b.block = a.block := Option.some.inj h
      omega)
    exact ⟨⟨k + 1, A5, A6, c5, c6, by omega, rfl, rfl, by go_num, h5, HO6.out, bapp (bcall HBW.out HB5.out) (HOO.out.below HB5.out (Nat.le_refl _)) HG6.out⟩, by simp [intOf]; omega⟩
  ·obtain rfl : k = q := by omega
   go_wp2_with (first
    | (go_at_call 25; refine (HPT.out Av _ HOV.out.reads).mono ?_; rintro e5 w5 ⟨A5, c5, rfl, ho5, hb5⟩; have HO5 := Lib.hid ho5; have HB5 := Lib.hid hb5; clear ho5 hb5)
    | (at_builtin; refine wpList_appB _ rfl (.tmp 46) (.tmp 52) rfl (HOO.out.below HB5.out (Nat.le_refl _)) rfl (HHL.out (k + 1)) HO5.out.reads rfl HTL.out (by omega) (Nat.le_trans HBW.out.size HB5.out.size) ?_; intro A6 c6 w6 ho6 hg6 hA6; rw [← HSZ.out]; have HO6 := Lib.hid ho6; have HG6 := Lib.hid hg6; clear ho6 hg6 hA6))
   exact bodyPost_ret (results_tmp2 rfl _ _ _) rfl ⟨A6, c6, rfl, HO6.out, bapp (bcall HBW.out HB5.out) (HOO.out.below HB5.out (Nat.le_refl _)) HG6.out⟩
theorem longWide_any (size : Nat) (A : Option Addr) (nb c : Nat) (l : List UInt8) (w : World) (h : 65 ≤ size ∧ size ≤ 1048576) (hl : l.length = nb) (hnb : nb ≤ 140737488351232) (hr : RS cB w w.heap.size A l) :
  Calls Try.prog 11 #[.int .i64 size, .slice A nb c] w fun e w' => ∃ A' c' cc, e = .returned (.tuple #[.slice A' size cc, .int .i64 0]) ∧ OS cB w' w.heap.size A' c' (longL size l) ∧ Below w.heap.size w w' :=
 (longWideC_any size A nb c l w h hl hnb hr).mono fun _ _ ⟨A', c', h1, h2, h3⟩ => ⟨A', c', c', h1, h2, h3⟩
theorem longHash_any (size : Nat) (A : Option Addr) (nb c : Nat) (l : List UInt8) (w : World) (h : 1 ≤ size ∧ size ≤ 1048576) (hl : l.length = nb) (hnb : nb ≤ 140737488351232) (hr : RS cB w w.heap.size A l) :
  Calls Try.prog 11 #[.int .i64 size, .slice A nb c] w fun e w' => ∃ A' c' cc, e = .returned (.tuple #[.slice A' size cc, .int .i64 0]) ∧ OS cB w' w.heap.size A' c' (longL size l) ∧ Below w.heap.size w w' := by
 by_cases h64 : size ≤ 64
 ·exact longShort_any size A nb c l w ⟨h.1, h64⟩ hl hnb hr
 ·exact longWide_any size A nb c l w ⟨by omega, h.2⟩ hl hnb hr
end Go.Proofs.Ytbghkdhkahkfnaa

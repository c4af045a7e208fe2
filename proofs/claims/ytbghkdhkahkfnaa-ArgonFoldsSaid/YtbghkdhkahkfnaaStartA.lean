/-
  Settings of Argon2 and the bytes that its memory is begun with, by the program. Contracts alone; no statement is claimed here.
-/
import Derived.Test.YtbghkdhkahkfnaaAr
import Derived.Test.YtbghkdhkahkfnaaHx
import Derived.Test.YtbghkdhkahkfnaaPar0
namespace Go.Proofs.Ytbghkdhkahkfnaa
open Go.RowKit
attribute [local go_sem] pureUpon Ords.of

def checkE (a : Ar) (n : Nat) : Int := if ¬ a.ok then 200 else if n < 8 ∨ 64 < n then 201 else 0
def startE (a : Ar) (np ns nx ne : Nat) : Int := if ¬ a.ok then 200 else if 65536 < np then 2 else if checkE a ns ≠ 0 then 201 else if 64 < nx ∨ 1024 < ne then 2 else 0
def Ar.nums (a : Ar) : List Int := [a.lanes, a.tag, a.mem, a.passes, 19, a.kind]
def numsTo (l : List Int) : Nat → List UInt8
  | 0 => []
  | k + 1 => numsTo l k ++ storeN (l.getD k 0).toNat 4
def partsTo (b : List UInt8) (l : List (List UInt8)) : Nat → List UInt8
  | 0 => b
  | k + 1 => (partsTo b l k ++ storeN (l.getD k []).length 4) ++ l.getD k []
def startL (a : Ar) (pass salt secret extra : List UInt8) : List UInt8 := partsTo (numsTo a.nums 6) [pass, salt, secret, extra] 4
theorem numsTo_len (l : List Int) : ∀ k, (numsTo l k).length = 4 * k
 | 0 => rfl
 | k + 1 => by
  unfold numsTo
  rw [List.length_append, numsTo_len l k, storeN_len]
  omega
theorem partsTo_le (b : List UInt8) (l : List (List UInt8)) (h : ∀ k, (l.getD k []).length ≤ 65536) : ∀ k, (partsTo b l k).length ≤ b.length + 70000 * k
 | 0 => Nat.le_refl _
 | k + 1 => by
  have h1 := partsTo_le b l h k
  have h2 := h k
  unfold partsTo
  rw [List.length_append, List.length_append, storeN_len]
  omega
theorem four_le {a b c d : List UInt8} (ha : a.length ≤ 65536) (hb : b.length ≤ 65536) (hc : c.length ≤ 65536) (hd : d.length ≤ 65536) : ∀ k, ([a, b, c, d].getD k []).length ≤ 65536
 | 0 => ha
 | 1 => hb
 | 2 => hc
 | 3 => hd
 | _ + 4 => Nat.zero_le _

set_option maxHeartbeats 2000000 in
theorem cols_any (a : Ar) (w : World) : Calls Try.prog 8 #[a.v] w fun e w' => e = .returned (.tuple #[.int .i64 (if a.ok then 4 * a.seg else 0), .int .i64 (if a.ok then 0 else 200)]) ∧ Below w.heap.size w w' := by
 by_cases h : a.ok
 ·have hm := may_any a
  have hc := columns_any h
  rw [decide_eq_true h] at hm
  rw [if_pos h, if_pos h]
  generalize a.seg = g at *
  clear h
  obtain ⟨kk, m, pp, ll, t⟩ := a
  unfold Ar.v at *
  dsimp only at *
  have HM := Lib.hid hm; have HC := Lib.hid hc; clear hm hc
  go_enter Try.func8, Try.ntmps8
  go_wp2_with (first | (go_at_call 16; refine (HM.out _).mono ?_; rintro e w1 ⟨rfl, hbw1⟩; (first | refine withN hbw1 ?_ | refine withD hbw1 ?_ | refine with0 hbw1 ?_); intro hcw1 hfw1; have z0w1 : w.heap.size < w1.heap.size := (by have := hbw1.size; (try simp at this); omega)) | (go_at_call 22; refine (HC.out _).mono ?_; rintro e w2 ⟨rfl, hbw2⟩; (first | refine withN hbw2 ?_ | refine withD hbw2 ?_ | refine with0 hbw2 ?_); intro hcw2 hfw2))
  exact bodyPost_ret (results_tmp2 rfl _ _ _) rfl ⟨rfl, bcall (bcall (bal (b0 w) _) hbw1) hbw2⟩
 ·have hm := may_any a
  rw [decide_eq_false h] at hm
  rw [if_neg h, if_neg h]
  clear h
  obtain ⟨kk, m, pp, ll, t⟩ := a
  unfold Ar.v at *
  have HM := Lib.hid hm; clear hm
  go_enter Try.func8, Try.ntmps8
  go_wp2_with (go_at_call 16; refine (HM.out _).mono ?_; rintro e w1 ⟨rfl, hbw1⟩; (first | refine withN hbw1 ?_ | refine withD hbw1 ?_ | refine with0 hbw1 ?_); intro hcw1 hfw1; have z0w1 : w.heap.size < w1.heap.size := (by have := hbw1.size; (try simp at this); omega))
  exact bodyPost_ret (results_tmp2 rfl _ _ _) rfl ⟨rfl, bcall (bal (b0 w) _) hbw1⟩
set_option maxHeartbeats 2000000 in
theorem check20_any (a : Ar) (A : Option Addr) (n c : Nat) (w : World) : Calls Try.prog 17 #[a.v, .slice A n c] w fun e w' => e = .returned (.int .i64 (checkE a n)) ∧ Below w.heap.size w w' := by
 have hm := fun W => may_any a W
 obtain ⟨r, hr⟩ : ∃ r, r = checkE a n := ⟨_, rfl⟩
 rw [← hr]
 unfold checkE at hr
 by_cases h : a.ok
 ·rw [if_neg (fun h2 => h2 h)] at hr
  simp only [decide_eq_true h] at hm
  clear h
  obtain ⟨kk, m, pp, ll, t⟩ := a
  unfold Ar.v at *
  have HM := Lib.hid hm; have HR := Lib.hid hr; clear hm hr
  go_enter Try.func17, Try.ntmps17
  go_wp2_with (go_at_call 16; refine (HM.out _).mono ?_; rintro e w1 ⟨rfl, hbw1⟩; (first | refine withN hbw1 ?_ | refine withD hbw1 ?_ | refine with0 hbw1 ?_); intro hcw1 hfw1; have z0w1 : w.heap.size < w1.heap.size := (by have := hbw1.size; (try simp at this); omega))
  all_goals
   have hr := HR.out
   refine bodyPost_ret (results_tmp rfl _ _ _) rfl ⟨?_, bcall (bal (b0 w) _) hbw1⟩
   first
    | (rw [if_pos (by omega)] at hr; rw [hr]; rfl)
    | (rw [if_neg (by omega)] at hr; rw [hr]; rfl)
 ·rw [if_pos h] at hr
  subst hr
  simp only [decide_eq_false h] at hm
  clear h
  obtain ⟨kk, m, pp, ll, t⟩ := a
  unfold Ar.v at *
  have HM := Lib.hid hm; clear hm
  go_enter Try.func17, Try.ntmps17
  go_wp2_with (go_at_call 16; refine (HM.out _).mono ?_; rintro e w1 ⟨rfl, hbw1⟩; (first | refine withN hbw1 ?_ | refine withD hbw1 ?_ | refine with0 hbw1 ?_); intro hcw1 hfw1; have z0w1 : w.heap.size < w1.heap.size := (by have := hbw1.size; (try simp at this); omega))
  exact bodyPost_ret (results_tmp rfl _ _ _) rfl ⟨rfl, bcall (bal (b0 w) _) hbw1⟩

theorem n32_any (A : Option Addr) (n c base : Nat) (l : List UInt8) (x : Nat) (w : World) (hx : x < 4294967296) (hl : l.length = n) (hn : n ≤ 1000000) (hb : base ≤ w.heap.size) (ho : OS cB w base A c l) :
  Calls Try.prog 18 #[.slice A n c, .int .i64 x] w fun e w' => ∃ A' c', e = .returned (.slice A' (n + 4) c') ∧ OS cB w' base A' c' (l ++ storeN x 4) ∧ Below base w w' := by
 have hst := fun W => store32_any x hx W
 have hsl := storeN_len x 4
 have hw : IntKind.u32.wrap (x : Int) = x := by simp [IntKind.wrap, IntKind.bits, IntKind.signed]; omega
 generalize storeN x 4 = S at *
 have HST := Lib.hid hst; have HSL := Lib.hid hsl; have HL := Lib.hid hl; have HO := Lib.hid ho; have HBS := Lib.hid hb; clear hst hsl hl ho hb hx
 go_enter Try.func18, Try.ntmps18
 go_wp2_with (first
  | (go_at_call 24; refine (HST.out _).mono ?_; rintro e1 w1 ⟨A1, rfl, ho1, hb1⟩; have HO1 := Lib.hid ho1; have HB1 := Lib.hid hb1; clear ho1 hb1)
  | (at_builtin; refine wpList_appB _ rfl (.tmp 5) (.tmp 8) rfl (HO.out.below HB1.out (Nat.le_refl _)) rfl HL.out HO1.out.reads rfl HSL.out (by omega) (Nat.le_trans HBS.out HB1.out.size) ?_; intro A2 c2 w2 ho2 hg2 hA2; have HO2 := Lib.hid ho2; have HG2 := Lib.hid hg2; clear ho2 hg2 hA2))
 exact bodyPost_ret (results_tmp rfl _ _ _) rfl ⟨A2, c2, rfl, HO2.out, below_app (HB1.out.mono HBS.out) (HO.out.below HB1.out (Nat.le_refl _)) HG2.out (Nat.le_refl _) (Nat.le_trans HBS.out HB1.out.size)⟩

theorem size_big (w : World) : Calls Try.prog 34 #[.int .i64 1] w fun e w' => e = .returned (.tuple #[.int .i64 64, .int .i64 0]) ∧ w = w' := by
 have hs := fun W => sizes_big W
 have HS := Lib.hid hs; clear hs
 go_enter Try.func34, Try.ntmps34
 go_wp2_with fail
 refine (HS.out _).mono ?_
 rintro e1 w1 ⟨rfl, rfl⟩
 go_wp2_with fail
 exact bodyPost_ret (results_tmp2 rfl _ _ _) rfl ⟨rfl, rfl⟩
set_option maxRecDepth 20000 in
set_option maxHeartbeats 2000000 in
theorem digest64_any (A : Option Addr) (nb c : Nat) (l : List UInt8) (w : World) (hl : l.length = nb) (hnb : nb ≤ c) (hc : c ≤ 9223372036854775807) (hr : RS cB w w.heap.size A l) :
  Calls Try.prog 29 #[.int .i64 1, .int .i64 64, .slice none 0 0, .slice none 0 0, .slice none 0 0, .slice A nb c] w fun r w' => ∃ A' c', r = .returned (.tuple #[.slice A' 64 64, .int .i64 0]) ∧ OS cB w' w.heap.size A' c' (plainL 64 l) ∧ Below w.heap.size w w' := by
 have hs : ∀ W, RS cB W W.heap.size A l → Calls Try.prog 33 #[.int .i64 1, .agg #[Value.int .i64 64, .int .i64 0, .int .i64 1, .int .i64 1, .int .u32 0, .int .u64 0, .int .u32 0, .int .i64 0, .int .i64 0, .slice none 0 0, .slice none 0 0], .slice none 0 0, .bool false, .int .i64 64, .slice A nb c] W (fun r w' => ∃ A' c', r = .returned (.tuple #[.slice A' 64 64, .int .i64 0]) ∧ OS cB w' W.heap.size A' c' (plainL 64 l) ∧ Below W.heap.size W w') :=
  fun W hr => hash_any true false 64 64 (plainP 64 0) [] [] [] l none A 0 0 nb c W (plainP_chk true 64 0 ⟨by decide, by decide⟩ (Nat.zero_le _)) (plainP_fit _ _) rfl rfl rfl (RS.nil _) (RS.nil _) rfl (.inl rfl) (RS.nil _) hl hnb hc hr ⟨by decide, by decide⟩
 have hck := fun W => check_any 1 (plainP 64 0) W
 rw [show chk 1 (plainP 64 0) = 0 from plainP_chk true 64 0 ⟨by decide, by decide⟩ (Nat.zero_le _)] at hck
 have hsz := fun W => size_big W
 generalize plainL 64 l = LS at *
 have PS : Hid ((Try.prog.info? 78).map (·.size) = some (#[Value.int .i64 64, .int .i64 0, .int .i64 1, .int .i64 1, .int .u32 0, .int .u64 0, .int .u32 0, .int .i64 0, .int .i64 0, .slice none 0 0, .slice none 0 0]).size) := Pr.size (plainP 64 0)
 have PO : Hid ((#[Value.int .i64 64, .int .i64 0, .int .i64 1, .int .i64 1, .int .u32 0, .int .u64 0, .int .u32 0, .int .i64 0, .int .i64 0, .slice none 0 0, .slice none 0 0]).all (·.oneCell') = true) := Pr.ones (plainP 64 0)
 have HS := Lib.hid hs; have HCK := Lib.hid hck; have HSZ := Lib.hid hsz; have HR := Lib.hid hr; clear hs hck hsz hr hl hnb hc
 have hu := Lib.hid Try.underlying78
 go_enter Try.func29, Try.ntmps29
 go_wp2_with fail
 refine (HSZ.out _).mono ?_
 rintro e1 w1 ⟨rfl, rfl⟩
 go_upto_region 5 with (refine wpList_store_row rfl 78 _ _ rfl w.heap.size #[Value.int .i64 64, .int .i64 0, .int .i64 1, .int .i64 1, .int .u32 0, .int .u64 0, .int .u32 0, .int .i64 0, .int .i64 0, .slice none 0 0, .slice none 0 0] rfl rfl 78 zcs (Blk.new _ _ _) PS.out rfl PO.out ?_)
 have HG := Lib.hid ((Blk.new w 78 zcs).row #[Value.int .i64 64, .int .i64 0, .int .i64 1, .int .i64 1, .int .u32 0, .int .u64 0, .int .u32 0, .int .i64 0, .int .i64 0, .slice none 0 0, .slice none 0 0])
 have HB := Lib.hid (brow (bal (b0 w) (.cells zcs 78)) (Nat.le_refl _) #[Value.int .i64 64, .int .i64 0, .int .i64 1, .int .i64 1, .int .u32 0, .int .u64 0, .int .u32 0, .int .i64 0, .int .i64 0, .slice none 0 0, .slice none 0 0])
 have hz : zcs = #[.int .i64 0, .int .i64 0, .int .i64 0, .int .i64 0, .int .u32 0, .int .u64 0, .int .u32 0, .int .i64 0, .int .i64 0, .slice none 0 0, .slice none 0 0] := rfl
 (try rw [← hz])
 clear hz
 generalize (w.alloc (.cells zcs 78)).setRow w.heap.size #[Value.int .i64 64, .int .i64 0, .int .i64 1, .int .i64 1, .int .u32 0, .int .u64 0, .int .u32 0, .int .i64 0, .int .i64 0, .slice none 0 0, .slice none 0 0] = u at *
 go_wp2_with (first
  | (refine wpList_load_row rfl 78 _ rfl w.heap.size rfl 78 #[Value.int .i64 64, .int .i64 0, .int .i64 1, .int .i64 1, .int .u32 0, .int .u64 0, .int .u32 0, .int .i64 0, .int .i64 0, .slice none 0 0, .slice none 0 0] (0, 0) _ HG.out hu.out rfl PS.out ?_)
  | (go_at_call 35; refine (HCK.out _).mono ?_; rintro e2 u ⟨rfl, hb2⟩; replace HG := Lib.hid (HG.out.below hb2 HG.out.lt); replace HB := Lib.hid (bcall HB.out hb2); clear hb2)
  | (go_at_call 33; refine (HS.out _ ((HR.out.below HB.out).more HB.out.size)).mono ?_; rintro e3 w3 ⟨A3, c3, rfl, ho3, hb3⟩; have HO3 := Lib.hid ho3; have HB3 := Lib.hid (bcall HB.out hb3); clear hb3))
 exact bodyPost_ret (results_tmp2 rfl _ _ _) rfl ⟨A3, c3, rfl, HO3.out.mono HB.out.size, HB3.out⟩
theorem sum64_any (A : Option Addr) (nb c : Nat) (l : List UInt8) (w : World) (hl : l.length = nb) (hnb : nb ≤ c) (hc : c ≤ 9223372036854775807) (hr : RS cB w w.heap.size A l) :
  Calls Try.prog 19 #[.int .i64 1, .int .i64 64, .slice A nb c] w fun r w' => ∃ A' c', r = .returned (.tuple #[.slice A' 64 64, .int .i64 0]) ∧ OS cB w' w.heap.size A' c' (plainL 64 l) ∧ Below w.heap.size w w' := by
 have hd := digest64_any A nb c l w hl hnb hc hr
 generalize plainL 64 l = LS at *
 have HD := Lib.hid hd; clear hd hr hl hnb hc
 go_enter Try.func19, Try.ntmps19
 go_wp2_with (go_at_call 29; refine HD.out.mono ?_; rintro e1 w1 ⟨A1, c1, rfl, ho1, hb1⟩)
 exact bodyPost_ret (results_tmp2 rfl _ _ _) rfl ⟨A1, c1, rfl, ho1, hb1⟩

theorem startE_ways (a : Ar) (np ns nx ne : Nat) :
  (¬ a.ok ∧ startE a np ns nx ne = 200) ∨ (a.ok ∧ 65536 < np ∧ startE a np ns nx ne = 2) ∨ (a.ok ∧ np ≤ 65536 ∧ checkE a ns ≠ 0 ∧ startE a np ns nx ne = 201) ∨ (a.ok ∧ np ≤ 65536 ∧ checkE a ns = 0 ∧ 64 < nx ∧ startE a np ns nx ne = 2) ∨
  (a.ok ∧ np ≤ 65536 ∧ checkE a ns = 0 ∧ nx ≤ 64 ∧ 1024 < ne ∧ startE a np ns nx ne = 2) ∨ (a.ok ∧ np ≤ 65536 ∧ checkE a ns = 0 ∧ nx ≤ 64 ∧ ne ≤ 1024 ∧ startE a np ns nx ne = 0) := by
 unfold startE
 by_cases h1 : a.ok
 ·rw [if_neg (fun h => h h1)]
  by_cases h2 : 65536 < np
  ·rw [if_pos h2]; exact .inr (.inl ⟨h1, h2, rfl⟩)
  ·rw [if_neg h2]
   by_cases h3 : checkE a ns ≠ 0
   ·rw [if_pos h3]; exact .inr (.inr (.inl ⟨h1, by omega, h3, rfl⟩))
   ·rw [if_neg h3]
    have h3 := Decidable.not_not.1 h3
    by_cases h4 : 64 < nx
    ·rw [if_pos (.inl h4)]; exact .inr (.inr (.inr (.inl ⟨h1, by omega, h3, h4, rfl⟩)))
    ·by_cases h5 : 1024 < ne
     ·rw [if_pos (.inr h5)]; exact .inr (.inr (.inr (.inr (.inl ⟨h1, by omega, h3, by omega, h5, rfl⟩))))
     ·rw [if_neg (by omega)]; exact .inr (.inr (.inr (.inr (.inr ⟨h1, by omega, h3, by omega, by omega, rfl⟩))))
 ·rw [if_pos h1]; exact .inl ⟨h1, rfl⟩
set_option maxRecDepth 20000 in
set_option maxHeartbeats 4000000 in
theorem startNo_any (a : Ar) (Ap As Ax Ae : Option Addr) (np cp ns cs nx cx ne ce : Nat) (w : World) (h : startE a np ns nx ne ≠ 0) :
  Calls Try.prog 6 #[a.v, .slice Ap np cp, .slice As ns cs, .slice Ax nx cx, .slice Ae ne ce] w fun e w' => e = .returned (.tuple #[.slice none 0 0, .int .i64 (startE a np ns nx ne)]) ∧ Below w.heap.size w w' := by
 have hm := fun W => may_any a W
 have hc := fun W => check20_any a As ns cs W
 rcases startE_ways a np ns nx ne with ⟨h1, e⟩ | ⟨h1, h2, e⟩ | ⟨h1, h2, h3, e⟩ | ⟨h1, h2, h3, h4, e⟩ | ⟨h1, h2, h3, h4, h5, e⟩ | ⟨h1, h2, h3, h4, h5, e⟩
 ·rw [e]
  simp only [decide_eq_false h1] at hm
  have HM := Lib.hid hm; have HC := Lib.hid hc; clear hm hc h h1 e
  obtain ⟨kk, m, pp, ll, t⟩ := a
  unfold Ar.v at *
  go_enter Try.func6, Try.ntmps6
  go_wp2_with (first | (go_at_call 16; refine (HM.out _).mono ?_; rintro e w1 ⟨rfl, hbw1⟩; (first | refine withN hbw1 ?_ | refine withD hbw1 ?_ | refine with0 hbw1 ?_); intro hcw1 hfw1; have z0w1 : w.heap.size < w1.heap.size := (by have := hbw1.size; (try simp at this); omega)) | (go_at_call 17; refine (HC.out _).mono ?_; rintro e w2 ⟨rfl, hbw2⟩; (first | refine withN hbw2 ?_ | refine withD hbw2 ?_ | refine with0 hbw2 ?_); intro hcw2 hfw2; have z0w2 : w.heap.size < w2.heap.size := (by have := hbw2.size; (try simp at this); omega)))
  exact bodyPost_ret (results_tmp2 rfl _ _ _) rfl ⟨rfl, by first | exact bcall (bcall (bal (b0 w) _) hbw1) hbw2 | exact bcall (bal (b0 w) _) hbw1⟩
 ·rw [e]
  simp only [decide_eq_true h1] at hm
  have t2 : decide (65536 < (np : Int)) = true := by simp; omega
  have HM := Lib.hid hm; have HC := Lib.hid hc; clear hm hc h h1 e h2
  obtain ⟨kk, m, pp, ll, t⟩ := a
  unfold Ar.v at *
  go_enter Try.func6, Try.ntmps6
  go_wp2_with (first | (go_at_call 16; refine (HM.out _).mono ?_; rintro e w1 ⟨rfl, hbw1⟩; (first | refine withN hbw1 ?_ | refine withD hbw1 ?_ | refine with0 hbw1 ?_); intro hcw1 hfw1; have z0w1 : w.heap.size < w1.heap.size := (by have := hbw1.size; (try simp at this); omega)) | (go_at_call 17; refine (HC.out _).mono ?_; rintro e w2 ⟨rfl, hbw2⟩; (first | refine withN hbw2 ?_ | refine withD hbw2 ?_ | refine with0 hbw2 ?_); intro hcw2 hfw2; have z0w2 : w.heap.size < w2.heap.size := (by have := hbw2.size; (try simp at this); omega)))
  exact bodyPost_ret (results_tmp2 rfl _ _ _) rfl ⟨rfl, by first | exact bcall (bcall (bal (b0 w) _) hbw1) hbw2 | exact bcall (bal (b0 w) _) hbw1⟩
 ·rw [e]
  simp only [decide_eq_true h1] at hm
  have t2 : decide (65536 < (np : Int)) = false := by simp; omega
  have t3 : (checkE a ns != 0) = true := by simpa using h3
  generalize checkE a ns = z at *
  have HM := Lib.hid hm; have HC := Lib.hid hc; clear hm hc h h1 e h2 h3
  obtain ⟨kk, m, pp, ll, t⟩ := a
  unfold Ar.v at *
  go_enter Try.func6, Try.ntmps6
  go_wp2_with (first | (go_at_call 16; refine (HM.out _).mono ?_; rintro e w1 ⟨rfl, hbw1⟩; (first | refine withN hbw1 ?_ | refine withD hbw1 ?_ | refine with0 hbw1 ?_); intro hcw1 hfw1; have z0w1 : w.heap.size < w1.heap.size := (by have := hbw1.size; (try simp at this); omega)) | (go_at_call 17; refine (HC.out _).mono ?_; rintro e w2 ⟨rfl, hbw2⟩; (first | refine withN hbw2 ?_ | refine withD hbw2 ?_ | refine with0 hbw2 ?_); intro hcw2 hfw2; have z0w2 : w.heap.size < w2.heap.size := (by have := hbw2.size; (try simp at this); omega)))
  exact bodyPost_ret (results_tmp2 rfl _ _ _) rfl ⟨rfl, by first | exact bcall (bcall (bal (b0 w) _) hbw1) hbw2 | exact bcall (bal (b0 w) _) hbw1⟩
 ·rw [e]
  simp only [decide_eq_true h1] at hm
  have t2 : decide (65536 < (np : Int)) = false := by simp; omega
  have t4 : decide (64 < (nx : Int)) = true := by simp; omega
  simp only [h3] at hc
  have HM := Lib.hid hm; have HC := Lib.hid hc; clear hm hc h h1 e h2 h3 h4
  obtain ⟨kk, m, pp, ll, t⟩ := a
  unfold Ar.v at *
  go_enter Try.func6, Try.ntmps6
  go_wp2_with (first | (go_at_call 16; refine (HM.out _).mono ?_; rintro e w1 ⟨rfl, hbw1⟩; (first | refine withN hbw1 ?_ | refine withD hbw1 ?_ | refine with0 hbw1 ?_); intro hcw1 hfw1; have z0w1 : w.heap.size < w1.heap.size := (by have := hbw1.size; (try simp at this); omega)) | (go_at_call 17; refine (HC.out _).mono ?_; rintro e w2 ⟨rfl, hbw2⟩; (first | refine withN hbw2 ?_ | refine withD hbw2 ?_ | refine with0 hbw2 ?_); intro hcw2 hfw2; have z0w2 : w.heap.size < w2.heap.size := (by have := hbw2.size; (try simp at this); omega)))
  exact bodyPost_ret (results_tmp2 rfl _ _ _) rfl ⟨rfl, by first | exact bcall (bcall (bal (b0 w) _) hbw1) hbw2 | exact bcall (bal (b0 w) _) hbw1⟩
 ·rw [e]
  simp only [decide_eq_true h1] at hm
  have t2 : decide (65536 < (np : Int)) = false := by simp; omega
  have t4 : decide (64 < (nx : Int)) = false := by simp; omega
  have t5 : decide (1024 < (ne : Int)) = true := by simp; omega
  simp only [h3] at hc
  have HM := Lib.hid hm; have HC := Lib.hid hc; clear hm hc h h1 e h2 h3 h4 h5
  obtain ⟨kk, m, pp, ll, t⟩ := a
  unfold Ar.v at *
  go_enter Try.func6, Try.ntmps6
  go_wp2_with (first | (go_at_call 16; refine (HM.out _).mono ?_; rintro e w1 ⟨rfl, hbw1⟩; (first | refine withN hbw1 ?_ | refine withD hbw1 ?_ | refine with0 hbw1 ?_); intro hcw1 hfw1; have z0w1 : w.heap.size < w1.heap.size := (by have := hbw1.size; (try simp at this); omega)) | (go_at_call 17; refine (HC.out _).mono ?_; rintro e w2 ⟨rfl, hbw2⟩; (first | refine withN hbw2 ?_ | refine withD hbw2 ?_ | refine with0 hbw2 ?_); intro hcw2 hfw2; have z0w2 : w.heap.size < w2.heap.size := (by have := hbw2.size; (try simp at this); omega)))
  exact bodyPost_ret (results_tmp2 rfl _ _ _) rfl ⟨rfl, by first | exact bcall (bcall (bal (b0 w) _) hbw1) hbw2 | exact bcall (bal (b0 w) _) hbw1⟩
 ·exact absurd e h
def Sl.in_ (s : Sl) (w : World) (l : List UInt8) : Prop := l.length = s.n ∧ s.n ≤ 65536 ∧ RS cB w w.heap.size s.A l
set_option maxRecDepth 20000 in
set_option maxHeartbeats 4000000 in
theorem aStart_any (a : Ar) (Ap As Ax Ae : Option Addr) (np cp ns cs nx cx ne ce : Nat) (pass salt secret extra : List UInt8) (w : World) (h : startE a np ns nx ne = 0)
  (lp : pass.length = np) (ls : salt.length = ns) (lx : secret.length = nx) (le_ : extra.length = ne) (rp : RS cB w w.heap.size Ap pass) (rs : RS cB w w.heap.size As salt) (rx : RS cB w w.heap.size Ax secret) (re : RS cB w w.heap.size Ae extra) :
  Calls Try.prog 6 #[a.v, .slice Ap np cp, .slice As ns cs, .slice Ax nx cx, .slice Ae ne ce] w fun e w' => ∃ A' c', e = .returned (.tuple #[.slice A' 64 64, .int .i64 0]) ∧ OS cB w' w.heap.size A' c' (plainL 64 (startL a pass salt secret extra)) ∧ Below w.heap.size w w' := by
 have hm := fun W => may_any a W
 have hc := fun W => check20_any a As ns cs W
 rcases startE_ways a np ns nx ne with ⟨h1, e⟩ | ⟨h1, h2, e⟩ | ⟨h1, h2, h3, e⟩ | ⟨h1, h2, h3, h4, e⟩ | ⟨h1, h2, h3, h4, h5, e⟩ | ⟨h1, h2, h3, h4, h5, e⟩
 iterate 5 (exact absurd (h.symm.trans e) (by decide))
 simp only [decide_eq_true h1] at hm
 simp only [h3] at hc
 have t2 : decide (65536 < (np : Int)) = false := by simp; omega
 have t4 : decide (64 < (nx : Int)) = false := by simp; omega
 have t5 : decide (1024 < (ne : Int)) = false := by simp; omega
 have n3 : ns ≤ 64 := by
  unfold checkE at h3
  rw [if_neg (fun h => h h1)] at h3
  split at h3
  ·exact absurd h3 (by decide)
  ·omega
 have hsum := fun (A : Option Addr) (nb c : Nat) W (h1 : (startL a pass salt secret extra).length = nb) h2 h3 h4 => sum64_any A nb c (startL a pass salt secret extra) W h1 h2 h3 h4
 have hsl : ∃ L, L = a.nums ∧ startL a pass salt secret extra = partsTo (numsTo L 6) [pass, salt, secret, extra] 4 := ⟨_, rfl, rfl⟩
 obtain ⟨L, hL, hsl⟩ := hsl
 generalize startL a pass salt secret extra = MSG at *
 unfold Ar.ok at h1
 obtain ⟨kk, m, pp, ll, t⟩ := a
 unfold Ar.v Ar.nums at *
 dsimp only at *
 obtain ⟨k, hk⟩ : ∃ k : Nat, kk = k := ⟨kk.toNat, by omega⟩
 obtain ⟨mm, hmm⟩ : ∃ k : Nat, m = k := ⟨m.toNat, by omega⟩
 obtain ⟨p, hp⟩ : ∃ k : Nat, pp = k := ⟨pp.toNat, by omega⟩
 obtain ⟨l, hl⟩ : ∃ k : Nat, ll = k := ⟨ll.toNat, by omega⟩
 obtain ⟨tt, htt⟩ : ∃ k : Nat, t = k := ⟨t.toNat, by omega⟩
 subst hk hmm hp hl htt
 have b1 : k < 4294967296 ∧ mm < 4294967296 ∧ p < 4294967296 ∧ l < 4294967296 ∧ tt < 4294967296 := by omega
 have HM := Lib.hid hm; have HC := Lib.hid hc; have HSUM := Lib.hid hsum; have HSL := Lib.hid hsl; have HL := Lib.hid hL; have B1 := Lib.hid b1
 have LP := Lib.hid lp; have LS := Lib.hid ls; have LX := Lib.hid lx; have LE := Lib.hid le_; have RP := Lib.hid rp; have RSS := Lib.hid rs; have RX := Lib.hid rx; have RE := Lib.hid re
 have BB := Lib.hid (show np ≤ 65536 ∧ ns ≤ 64 ∧ nx ≤ 64 ∧ ne ≤ 1024 from ⟨h2, n3, h4, h5⟩)
 clear hm hc hsum hsl hL b1 lp ls lx le_ rp rs rx re h h1 h2 h3 h4 h5 n3 e
 go_enter Try.func6, Try.ntmps6
 go_wp2_with (first | (go_at_call 16; refine (HM.out _).mono ?_; rintro e w1 ⟨rfl, hbw1⟩; (first | refine withN hbw1 ?_ | refine withD hbw1 ?_ | refine with0 hbw1 ?_); intro hcw1 hfw1; have z0w1 : w.heap.size < w1.heap.size := (by have := hbw1.size; (try simp at this); omega)) | (go_at_call 17; refine (HC.out _).mono ?_; rintro e w2 ⟨rfl, hbw2⟩; (first | refine withN hbw2 ?_ | refine withD hbw2 ?_ | refine with0 hbw2 ?_); intro hcw2 hfw2; have z0w2 : w.heap.size < w2.heap.size := (by have := hbw2.size; (try simp at this); omega)))
 have HB := Lib.hid (bcall (bcall (bal (b0 w) _) hbw1) hbw2)
 clear hbw1 hbw2
 have hle := four_le (a := pass) (b := salt) (c := secret) (d := extra) (by rw [LP.out]; exact BB.out.1) (by rw [LS.out]; have := BB.out; omega) (by rw [LX.out]; have := BB.out; omega) (by rw [LE.out]; have := BB.out; omega)
 have HLE := Lib.hid hle
 clear hle
 go_loopw [12, 14, 48] (fun b i1 ix wr => ∃ (j m : Nat) (A : Option Addr) (c : Nat), j ≤ 6 ∧ ix = .int .i64 j ∧ m = 4 * j ∧ b = .slice A m c ∧ OS cB wr w.heap.size A c (numsTo L j) ∧ Below w.heap.size w wr) (fun _ _ ix _ => 6 - (intOf ix).toNat)
 case atStart => exact ⟨0, 0, none, 0, by omega, rfl, rfl, rfl, OS.nil _ _ _ rfl, HB.out⟩
 case round =>
  obtain ⟨j, m, A, c, hj, rfl, hm, rfl, hos, hbw⟩ := hrel
  have HOS := Lib.hid hos; have HBW := Lib.hid hbw; clear hos hbw
  have hj2 : j = 0 ∨ j = 1 ∨ j = 2 ∨ j = 3 ∨ j = 4 ∨ j = 5 ∨ j = 6 := by omega
  rcases hj2 with rfl | rfl | rfl | rfl | rfl | rfl | rfl
  ·obtain rfl : m = 0 := hm
   have i0 : ∀ W, (Instr.index 48 (.agg #[.int .i64 l, .int .i64 tt, .int .i64 mm, .int .i64 p, .int .i64 19, .int .i64 k]) (.int .i64 0)).run Try.prog W = .ok (.int .i64 l) W := fun _ => by kernel_rfl
   go_wp2_with (go_at_call 18; refine (n32_any A 0 c w.heap.size (numsTo L 0) l _ (by have := B1.out; omega) (numsTo_len L 0) (by omega) HBW.out.size HOS.out).mono ?_; rintro e5 w5 ⟨A5, c5, rfl, ho5, hb5⟩; have HO5 := Lib.hid ho5; have HB5 := Lib.hid (HBW.out.trans hb5); clear ho5 hb5)
   case roundEnd =>
    have h := HO5.out
    rw [show numsTo L 0 ++ storeN l 4 = numsTo L (0 + 1) by rw [HL.out]; rfl] at h
    exact ⟨⟨0 + 1, 0 + 4, A5, c5, by omega, rfl, rfl, rfl, h, HB5.out⟩, by simp [intOf]⟩
  ·obtain rfl : m = 4 := hm
   have i0 : ∀ W, (Instr.index 48 (.agg #[.int .i64 l, .int .i64 tt, .int .i64 mm, .int .i64 p, .int .i64 19, .int .i64 k]) (.int .i64 1)).run Try.prog W = .ok (.int .i64 tt) W := fun _ => by kernel_rfl
   go_wp2_with (go_at_call 18; refine (n32_any A 4 c w.heap.size (numsTo L 1) tt _ (by have := B1.out; omega) (numsTo_len L 1) (by omega) HBW.out.size HOS.out).mono ?_; rintro e5 w5 ⟨A5, c5, rfl, ho5, hb5⟩; have HO5 := Lib.hid ho5; have HB5 := Lib.hid (HBW.out.trans hb5); clear ho5 hb5)
   case roundEnd =>
    have h := HO5.out
    rw [show numsTo L 1 ++ storeN tt 4 = numsTo L (1 + 1) by rw [HL.out]; rfl] at h
    exact ⟨⟨1 + 1, 4 + 4, A5, c5, by omega, rfl, rfl, rfl, h, HB5.out⟩, by simp [intOf]⟩
  ·obtain rfl : m = 8 := hm
   have i0 : ∀ W, (Instr.index 48 (.agg #[.int .i64 l, .int .i64 tt, .int .i64 mm, .int .i64 p, .int .i64 19, .int .i64 k]) (.int .i64 2)).run Try.prog W = .ok (.int .i64 mm) W := fun _ => by kernel_rfl
   go_wp2_with (go_at_call 18; refine (n32_any A 8 c w.heap.size (numsTo L 2) mm _ (by have := B1.out; omega) (numsTo_len L 2) (by omega) HBW.out.size HOS.out).mono ?_; rintro e5 w5 ⟨A5, c5, rfl, ho5, hb5⟩; have HO5 := Lib.hid ho5; have HB5 := Lib.hid (HBW.out.trans hb5); clear ho5 hb5)
   case roundEnd =>
    have h := HO5.out
    rw [show numsTo L 2 ++ storeN mm 4 = numsTo L (2 + 1) by rw [HL.out]; rfl] at h
    exact ⟨⟨2 + 1, 8 + 4, A5, c5, by omega, rfl, rfl, rfl, h, HB5.out⟩, by simp [intOf]⟩
  ·obtain rfl : m = 12 := hm
   have i0 : ∀ W, (Instr.index 48 (.agg #[.int .i64 l, .int .i64 tt, .int .i64 mm, .int .i64 p, .int .i64 19, .int .i64 k]) (.int .i64 3)).run Try.prog W = .ok (.int .i64 p) W := fun _ => by kernel_rfl
   go_wp2_with (go_at_call 18; refine (n32_any A 12 c w.heap.size (numsTo L 3) p _ (by have := B1.out; omega) (numsTo_len L 3) (by omega) HBW.out.size HOS.out).mono ?_; rintro e5 w5 ⟨A5, c5, rfl, ho5, hb5⟩; have HO5 := Lib.hid ho5; have HB5 := Lib.hid (HBW.out.trans hb5); clear ho5 hb5)
   case roundEnd =>
    have h := HO5.out
    rw [show numsTo L 3 ++ storeN p 4 = numsTo L (3 + 1) by rw [HL.out]; rfl] at h
    exact ⟨⟨3 + 1, 12 + 4, A5, c5, by omega, rfl, rfl, rfl, h, HB5.out⟩, by simp [intOf]⟩
  ·obtain rfl : m = 16 := hm
   have i0 : ∀ W, (Instr.index 48 (.agg #[.int .i64 l, .int .i64 tt, .int .i64 mm, .int .i64 p, .int .i64 19, .int .i64 k]) (.int .i64 4)).run Try.prog W = .ok (.int .i64 19) W := fun _ => by kernel_rfl
   go_wp2_with (go_at_call 18; refine (n32_any A 16 c w.heap.size (numsTo L 4) 19 _ (by have := B1.out; omega) (numsTo_len L 4) (by omega) HBW.out.size HOS.out).mono ?_; rintro e5 w5 ⟨A5, c5, rfl, ho5, hb5⟩; have HO5 := Lib.hid ho5; have HB5 := Lib.hid (HBW.out.trans hb5); clear ho5 hb5)
   case roundEnd =>
    have h := HO5.out
    rw [show numsTo L 4 ++ storeN 19 4 = numsTo L (4 + 1) by rw [HL.out]; rfl] at h
    exact ⟨⟨4 + 1, 16 + 4, A5, c5, by omega, rfl, rfl, rfl, h, HB5.out⟩, by simp [intOf]⟩
  ·obtain rfl : m = 20 := hm
   have i0 : ∀ W, (Instr.index 48 (.agg #[.int .i64 l, .int .i64 tt, .int .i64 mm, .int .i64 p, .int .i64 19, .int .i64 k]) (.int .i64 5)).run Try.prog W = .ok (.int .i64 k) W := fun _ => by kernel_rfl
   go_wp2_with (go_at_call 18; refine (n32_any A 20 c w.heap.size (numsTo L 5) k _ (by have := B1.out; omega) (numsTo_len L 5) (by omega) HBW.out.size HOS.out).mono ?_; rintro e5 w5 ⟨A5, c5, rfl, ho5, hb5⟩; have HO5 := Lib.hid ho5; have HB5 := Lib.hid (HBW.out.trans hb5); clear ho5 hb5)
   case roundEnd =>
    have h := HO5.out
    rw [show numsTo L 5 ++ storeN k 4 = numsTo L (5 + 1) by rw [HL.out]; rfl] at h
    exact ⟨⟨5 + 1, 20 + 4, A5, c5, by omega, rfl, rfl, rfl, h, HB5.out⟩, by simp [intOf]⟩
  ·obtain rfl : m = 24 := hm
   simp only [show ((6 : Nat) : Int) = 6 from rfl]
   go_wp2_with fail
   go_loopw [12, 16, 60] (fun b i1 ix wr => ∃ (j m : Nat) (A : Option Addr) (c : Nat), j ≤ 4 ∧ ix = .int .i64 j ∧ b = .slice A m c ∧ (partsTo (numsTo L 6) [pass, salt, secret, extra] j).length = m ∧ OS cB wr w.heap.size A c (partsTo (numsTo L 6) [pass, salt, secret, extra] j) ∧ Below w.heap.size w wr) (fun _ _ ix _ => 4 - (intOf ix).toNat)
   case atStart => exact ⟨0, 24, A, c, by omega, rfl, rfl, numsTo_len L 6, HOS.out, HBW.out⟩
   case round =>
    clear HOS HBW HB
    obtain ⟨j, m, A, c, hj, rfl, rfl, hml, hos, hbw⟩ := hrel
    have HOS := Lib.hid hos; have HBW := Lib.hid hbw; have HML := Lib.hid hml; clear hos hbw hml
    have hj2 : j = 0 ∨ j = 1 ∨ j = 2 ∨ j = 3 ∨ j = 4 := by omega
    rcases hj2 with rfl | rfl | rfl | rfl | rfl
    ·have hlm : m ≤ 24 + 70000 * 0 := by
      rw [← HML.out]
      have h := partsTo_le (numsTo L 6) [pass, salt, secret, extra] HLE.out 0
      rw [numsTo_len] at h
      exact h
     have i0 : ∀ W, (Instr.index 50 (.agg #[.slice Ap np cp, .slice As ns cs, .slice Ax nx cx, .slice Ae ne ce]) (.int .i64 0)).run Try.prog W = .ok (.slice Ap np cp) W := fun _ => by kernel_rfl
     go_wp2_with (first
      | (go_at_call 18; refine (n32_any A m c w.heap.size (partsTo (numsTo L 6) [pass, salt, secret, extra] 0) np _ (by have := BB.out; omega) HML.out (by omega) HBW.out.size HOS.out).mono ?_; rintro e5 w5 ⟨A5, c5, rfl, ho5, hb5⟩; have HO5 := Lib.hid ho5; have HB5 := Lib.hid (HBW.out.trans hb5); clear ho5 hb5)
      | (at_builtin; refine wpList_appB _ rfl (.tmp 66) (.tmp 67) rfl HO5.out rfl (by rw [List.length_append, storeN_len, HML.out]) ((RP.out.below HB5.out).more HB5.out.size) rfl LP.out (by have := BB.out; omega) HB5.out.size ?_; intro A6 c6 w6 ho6 hg6 hA6; have HO6 := Lib.hid ho6; have HB6 := Lib.hid (bapp HB5.out HO5.out hg6); clear ho6 hg6 hA6))
     go_roundw
     case rel =>
      have h := HO6.out
      rw [show (partsTo (numsTo L 6) [pass, salt, secret, extra] 0 ++ storeN np 4) ++ pass = partsTo (numsTo L 6) [pass, salt, secret, extra] (0 + 1) by rw [← LP.out]; rfl] at h
      exact ⟨0 + 1, m + 4 + np, A6, c6, by omega, rfl, rfl, by rw [show partsTo (numsTo L 6) [pass, salt, secret, extra] (0 + 1) = (partsTo (numsTo L 6) [pass, salt, secret, extra] 0 ++ storeN np 4) ++ pass by rw [← LP.out]; rfl, List.length_append, List.length_append, storeN_len, HML.out, LP.out], h, HB6.out⟩
     case measure => simp [intOf]
    ·have hlm : m ≤ 24 + 70000 * 1 := by
      rw [← HML.out]
      have h := partsTo_le (numsTo L 6) [pass, salt, secret, extra] HLE.out 1
      rw [numsTo_len] at h
      exact h
     have i0 : ∀ W, (Instr.index 50 (.agg #[.slice Ap np cp, .slice As ns cs, .slice Ax nx cx, .slice Ae ne ce]) (.int .i64 1)).run Try.prog W = .ok (.slice As ns cs) W := fun _ => by kernel_rfl
     go_wp2_with (first
      | (go_at_call 18; refine (n32_any A m c w.heap.size (partsTo (numsTo L 6) [pass, salt, secret, extra] 1) ns _ (by have := BB.out; omega) HML.out (by omega) HBW.out.size HOS.out).mono ?_; rintro e5 w5 ⟨A5, c5, rfl, ho5, hb5⟩; have HO5 := Lib.hid ho5; have HB5 := Lib.hid (HBW.out.trans hb5); clear ho5 hb5)
      | (at_builtin; refine wpList_appB _ rfl (.tmp 66) (.tmp 67) rfl HO5.out rfl (by rw [List.length_append, storeN_len, HML.out]) ((RSS.out.below HB5.out).more HB5.out.size) rfl LS.out (by have := BB.out; omega) HB5.out.size ?_; intro A6 c6 w6 ho6 hg6 hA6; have HO6 := Lib.hid ho6; have HB6 := Lib.hid (bapp HB5.out HO5.out hg6); clear ho6 hg6 hA6))
     go_roundw
     case rel =>
      have h := HO6.out
      rw [show (partsTo (numsTo L 6) [pass, salt, secret, extra] 1 ++ storeN ns 4) ++ salt = partsTo (numsTo L 6) [pass, salt, secret, extra] (1 + 1) by rw [← LS.out]; rfl] at h
      exact ⟨1 + 1, m + 4 + ns, A6, c6, by omega, rfl, rfl, by rw [show partsTo (numsTo L 6) [pass, salt, secret, extra] (1 + 1) = (partsTo (numsTo L 6) [pass, salt, secret, extra] 1 ++ storeN ns 4) ++ salt by rw [← LS.out]; rfl, List.length_append, List.length_append, storeN_len, HML.out, LS.out], h, HB6.out⟩
     case measure => simp [intOf]
    ·have hlm : m ≤ 24 + 70000 * 2 := by
      rw [← HML.out]
      have h := partsTo_le (numsTo L 6) [pass, salt, secret, extra] HLE.out 2
      rw [numsTo_len] at h
      exact h
     have i0 : ∀ W, (Instr.index 50 (.agg #[.slice Ap np cp, .slice As ns cs, .slice Ax nx cx, .slice Ae ne ce]) (.int .i64 2)).run Try.prog W = .ok (.slice Ax nx cx) W := fun _ => by kernel_rfl
     go_wp2_with (first
      | (go_at_call 18; refine (n32_any A m c w.heap.size (partsTo (numsTo L 6) [pass, salt, secret, extra] 2) nx _ (by have := BB.out; omega) HML.out (by omega) HBW.out.size HOS.out).mono ?_; rintro e5 w5 ⟨A5, c5, rfl, ho5, hb5⟩; have HO5 := Lib.hid ho5; have HB5 := Lib.hid (HBW.out.trans hb5); clear ho5 hb5)
      | (at_builtin; refine wpList_appB _ rfl (.tmp 66) (.tmp 67) rfl HO5.out rfl (by rw [List.length_append, storeN_len, HML.out]) ((RX.out.below HB5.out).more HB5.out.size) rfl LX.out (by have := BB.out; omega) HB5.out.size ?_; intro A6 c6 w6 ho6 hg6 hA6; have HO6 := Lib.hid ho6; have HB6 := Lib.hid (bapp HB5.out HO5.out hg6); clear ho6 hg6 hA6))
     go_roundw
     case rel =>
      have h := HO6.out
      rw [show (partsTo (numsTo L 6) [pass, salt, secret, extra] 2 ++ storeN nx 4) ++ secret = partsTo (numsTo L 6) [pass, salt, secret, extra] (2 + 1) by rw [← LX.out]; rfl] at h
      exact ⟨2 + 1, m + 4 + nx, A6, c6, by omega, rfl, rfl, by rw [show partsTo (numsTo L 6) [pass, salt, secret, extra] (2 + 1) = (partsTo (numsTo L 6) [pass, salt, secret, extra] 2 ++ storeN nx 4) ++ secret by rw [← LX.out]; rfl, List.length_append, List.length_append, storeN_len, HML.out, LX.out], h, HB6.out⟩
     case measure => simp [intOf]
    ·have hlm : m ≤ 24 + 70000 * 3 := by
      rw [← HML.out]
      have h := partsTo_le (numsTo L 6) [pass, salt, secret, extra] HLE.out 3
      rw [numsTo_len] at h
      exact h
     have i0 : ∀ W, (Instr.index 50 (.agg #[.slice Ap np cp, .slice As ns cs, .slice Ax nx cx, .slice Ae ne ce]) (.int .i64 3)).run Try.prog W = .ok (.slice Ae ne ce) W := fun _ => by kernel_rfl
     go_wp2_with (first
      | (go_at_call 18; refine (n32_any A m c w.heap.size (partsTo (numsTo L 6) [pass, salt, secret, extra] 3) ne _ (by have := BB.out; omega) HML.out (by omega) HBW.out.size HOS.out).mono ?_; rintro e5 w5 ⟨A5, c5, rfl, ho5, hb5⟩; have HO5 := Lib.hid ho5; have HB5 := Lib.hid (HBW.out.trans hb5); clear ho5 hb5)
      | (at_builtin; refine wpList_appB _ rfl (.tmp 66) (.tmp 67) rfl HO5.out rfl (by rw [List.length_append, storeN_len, HML.out]) ((RE.out.below HB5.out).more HB5.out.size) rfl LE.out (by have := BB.out; omega) HB5.out.size ?_; intro A6 c6 w6 ho6 hg6 hA6; have HO6 := Lib.hid ho6; have HB6 := Lib.hid (bapp HB5.out HO5.out hg6); clear ho6 hg6 hA6))
     go_roundw
     case rel =>
      have h := HO6.out
      rw [show (partsTo (numsTo L 6) [pass, salt, secret, extra] 3 ++ storeN ne 4) ++ extra = partsTo (numsTo L 6) [pass, salt, secret, extra] (3 + 1) by rw [← LE.out]; rfl] at h
      exact ⟨3 + 1, m + 4 + ne, A6, c6, by omega, rfl, rfl, by rw [show partsTo (numsTo L 6) [pass, salt, secret, extra] (3 + 1) = (partsTo (numsTo L 6) [pass, salt, secret, extra] 3 ++ storeN ne 4) ++ extra by rw [← LE.out]; rfl, List.length_append, List.length_append, storeN_len, HML.out, LE.out], h, HB6.out⟩
     case measure => simp [intOf]
    ·go_wp2_with fail
     refine (HSUM.out A m c _ (by rw [HSL.out]; exact HML.out) (by rw [← HML.out]; exact HOS.out.len_le.1) (by have h := HOS.out.len_le.2; unfold maxLen at h; exact h) (by rw [HSL.out]; exact HOS.out.reads)).mono ?_
     rintro e7 w7 ⟨A7, c7, rfl, ho7, hb7⟩
     have HO7 := Lib.hid (ho7.mono (show w.heap.size ≤ _ from HBW.out.size)); have HB7 := Lib.hid (bcall HBW.out hb7); clear ho7 hb7
     go_wp2_with fail
     exact bodyPost_ret (results_tmp2 rfl _ _ _) rfl ⟨A7, c7, rfl, HO7.out, HB7.out⟩
end Go.Proofs.Ytbghkdhkahkfnaa

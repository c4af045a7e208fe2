/-
  Z14: contracts and lemmas alone; no statement is claimed here.
-/
import Derived.Test.YtmapfcdffklopaaGreatZxb
import Derived.Test.YtmapfcdffklopaaGreatZ0
import Derived.Test.YtmapfcdffklopaaGreatZ13
set_option maxHeartbeats 1000000
namespace Go.Proofs.YtmapfcdffklopaaGreat
open _root_.Nat renaming le_refl → aZC
open Lib renaming hid -> zH
open Go.RowKit
theorem sameR_any (A1 A2 : Option Addr) (c1 c2 : Nat) (l1 l2 : List UInt8) (B1 B2 n1 n2 : Nat) (w : World) (hn1 : l1.length = n1) (hn2 : l2.length = n2) (hm : n1 <= 9223372036854775807)
   (h1 : RS cB w B1 A1 l1) (h2 : RS cB w B2 A2 l2) :
    Calls Tryz.prog 37 #[.slice A1 n1 c1, .slice A2 n2 c2] w fun e w' => e = .returned (.bool (decide (l1 = l2))) /\ ∃ n, w' = w.drewN n := by
  by_cases hl : n1 = n2
  · subst hl
    have HN := zH hn1; have HL := zH hn2; have H1 := zH h1; have H2 := zH h2;clear hn1 hn2 h1 h2;have h3 : (!(((n1 : Int)) == ((n1 : Int)))) = false := by simp
    go_enter Tryz.func37, Tryz.ntmps37;go_wp2;go_loopw [5] (fun i wr => ∃ k n : Nat, k <= n1 /\ i = .int .i64 k /\ wr = w.drewN n /\ l1.take k = l2.take k) (fun i _ => n1 - (intOf i).toNat)
    case atStart => exact ⟨0, 0, by omega, rfl, rfl, by simp⟩
    case round =>
      obtain ⟨k, n, hk, rfl, rfl, ht⟩ := hrel;have HT := zH ht; clear ht
      by_cases hlt : k < n1
      · obtain ⟨ad1, x1, rfl, -, e1, g1⟩ := H1.at_ (k := k) (by rw [HN.out]; exact hlt)
        obtain ⟨ad2, x2, rfl, -, e2, g2⟩ := H2.at_ (k := k) (by rw [HL.out]; exact hlt);have E1 := zH e1; have E2 := zH e2; clear e1 e2;change w.cell? (ad1.add k) = some (.int .u8 (byt x1)) at g1;change w.cell? (ad2.add k) = some (.int .u8 (byt x2)) at g2;have r1 := byt_range x1;have r2 := byt_range x2;go_wp2;go_quiet (fail);go_wp2
        · have hne : (byt x1 != byt x2) = true := by assumption
          go_ret;refine ⟨?_, n + nq, by rw [<- World.drewN_drewN]⟩;have : l1 ≠ l2 := fun e => by
            have := E1.out; rw [e, E2.out] at this;injection this with this; subst this; simp at hne
          simp [this]
        · have hne : (byt x1 != byt x2) = false := by assumption
          go_roundw
          case rel =>
            refine ⟨k + 1, n + nq, by omega, by go_num, by rw [<- World.drewN_drewN], ?_⟩;have hx : x1 = x2 := byt_inj (by simpa using hne);rw [List.take_add_one, List.take_add_one, HT.out, E1.out, E2.out, hx]
          case measure => simp [intOf]; omega
      · go_wp2
        go_ret;refine ⟨?_, n, rfl⟩;have : l1 = l2 := by
          have e := HT.out;rw [List.take_of_length_le (by rw [HN.out]; omega), List.take_of_length_le (by rw [HL.out]; omega)] at e;exact e
        simp [this]
  · have hn : l1 ≠ l2 := fun e => hl (by rw [<- hn1, <- hn2, e])
    have h3 : (((n1 : Int)) != ((n2 : Int))) = true := by simp; omega
    have HH := zH hn;clear hn hl h1 h2 hm hn1 hn2;go_enter Tryz.func37, Tryz.ntmps37;go_wp2;go_ret;exact ⟨by simp [HH.out], 0, rfl⟩
attribute [local go_sem] pureUpon Ords.of
theorem kind_of {k : Int} {p : Pr} (h : chk k p = 0) : ∃ big, k = kOf big := by
 by_cases h1 : k = 1
 ·exact ⟨true, h1⟩
 ·by_cases h2 : k = 2
  ·exact ⟨false, h2⟩
  ·exfalso
   unfold chk mostOf at h;simp [h1, h2] at h
theorem bOf_le (big : Bool) : 32 <= bOf big /\ bOf big <= 64 := by cases big <;> decide
theorem hashBad_any (k : Int) (last : Bool) (m : Int) (p : Pr) (Ak Ad : Option Addr) (nk ck nd cd : Nat) (w : World) (hc : chk k p ≠ 0) :
  Calls Tryz.prog 67 #[.int .i64 k, p.v, .slice Ak nk ck, .bool last, .int .i64 m, .slice Ad nd cd] w fun r w' => r = .returned (.tuple #[.slice none 0 0, .int .i64 (chk k p)]) /\ Below w.heap.size w w' := by
 have hnew := fun W => newBad_any k p Ak nk ck W hc
 have t0 : (chk k p == 0) = false := by simpa using hc
 have t1 : (chk k p != 0) = true := by simpa using hc
 obtain ⟨r, hr⟩ : ∃ r, r = chk k p := ⟨_, rfl⟩;rw [<- hr] at t0 t1 ⊢;simp only [<- hr] at hnew;have HNEW := zH hnew; clear hnew hr hc;unfold Pr.v Pr.cs Sl.v at *;go_enter Tryz.func67, Tryz.ntmps67;go_wp2_with (go_at_call 60; refine (HNEW.out _).mono ?_; rintro e w1 ⟨rfl, hbw1⟩; (first | refine withN hbw1 ?_ | refine withD hbw1 ?_ | refine with0 hbw1 ?_); intro hcw1 hfw1; have z0w1 : w.heap.size < w1.heap.size := (by have := hbw1.size; (try simp at this); omega));exact bodyPost_ret (results_tmp2 rfl _ _ _) rfl ⟨rfl, bcall (bal (b0 w) _) hbw1⟩
theorem hashKey_any (big : Bool) (last : Bool) (m : Int) (p : Pr) (ls lp : List UInt8) (Ak Ad : Option Addr) (nk ck nd cd : Nat) (w : World) (hc : chk (kOf big) p = 0) (hf : p.Fit) (hls : ls.length = p.salt.n) (hlp : lp.length = p.pers.n) (hrs : RS cB w w.heap.size p.salt.A ls) (hrp : RS cB w w.heap.size p.pers.A lp) (hn : nk ≠ 0) (hk : (nk : Int) ≠ p.key) :
  Calls Tryz.prog 67 #[.int .i64 (kOf big), p.v, .slice Ak nk ck, .bool last, .int .i64 m, .slice Ad nd cd] w fun r w' => r = .returned (.tuple #[.slice none 0 0, .int .i64 8]) /\ Below w.heap.size w w' := by
 have hnew := fun W hrs hrp => newKey_any big p ls lp Ak nk ck W hc hf hls hlp hrs hrp hn hk
 have HNEW := zH hnew; have HRS := zH hrs; have HRP := zH hrp; clear hnew hc hf hls hlp hrs hrp hn hk;unfold Pr.v Pr.cs Sl.v at *;generalize kOf big = kk at *;go_enter Tryz.func67, Tryz.ntmps67;go_wp2_with (go_at_call 60; refine (HNEW.out _ ((HRS.alloc (aZC _) _).more (by simp)) ((HRP.alloc (aZC _) _).more (by simp))).mono ?_; rintro e w1 ⟨rfl, hbw1⟩; (first | refine withN hbw1 ?_ | refine withD hbw1 ?_ | refine with0 hbw1 ?_); intro hcw1 hfw1; have z0w1 : w.heap.size < w1.heap.size := (by have := hbw1.size; (try simp at this); omega));exact bodyPost_ret (results_tmp2 rfl _ _ _) rfl ⟨rfl, bcall (bal (b0 w) _) hbw1⟩
set_option maxRecDepth 20000 in
theorem hashOut_any (big last : Bool) (d : Nat) (m : Int) (p : Pr) (ls lp key data : List UInt8) (Ak Ad : Option Addr) (nk ck nd cd : Nat) (w : World) (hc : chk (kOf big) p = 0) (hf : p.Fit) (hd : p.digest = d) (hls : ls.length = p.salt.n) (hlp : lp.length = p.pers.n) (hrs : RS cB w w.heap.size p.salt.A ls) (hrp : RS cB w w.heap.size p.pers.A lp)
  (hk : key.length = nk) (hkk : nk = 0 \/ (nk : Int) = p.key) (hrk : RS cB w w.heap.size Ak key) (hdl : data.length = nd) (hnd : nd <= cd) (hcd : cd <= 9223372036854775807) (hrd : RS cB w w.heap.size Ad data) (hm : m < 1 \/ (bOf big : Int) < m) :
  Calls Tryz.prog 67 #[.int .i64 (kOf big), p.v, .slice Ak nk ck, .bool last, .int .i64 m, .slice Ad nd cd] w fun r w' => r = .returned (.tuple #[.slice none 0 0, .int .i64 1]) /\ Below w.heap.size w w' := by exact zS21
def hashS (k : Int) (p : Pr) (ls lp key : List UInt8) (last : Bool) (m : Int) (data : List UInt8) : List UInt8 × Int :=
  if chk k p ≠ 0 then ([], chk k p) else if key.length ≠ 0 /\ (key.length : Int) ≠ p.key then ([], 8) else if m < 1 \/ mostOf k < m then ([], 1) else ((hashL (decide (k = 1)) p ls lp key last data).take m.toNat, 0)
theorem mostOf_k (big : Bool) : mostOf (kOf big) = bOf big := by cases big <;> rfl
theorem kOf_is (big : Bool) : decide (kOf big = 1) = big := by cases big <;> rfl
theorem hash_ways {P : List UInt8 × Int -> Prop} (k : Int) (p : Pr) (ls lp key : List UInt8) (last : Bool) (m : Int) (data : List UInt8)
  (h1 : chk k p ≠ 0 -> P ([], chk k p)) (h2 : ∀ big, k = kOf big -> chk k p = 0 -> key.length ≠ 0 -> (key.length : Int) ≠ p.key -> P ([], 8))
  (h3 : ∀ big, k = kOf big -> chk k p = 0 -> (key.length = 0 \/ (key.length : Int) = p.key) -> (m < 1 \/ (bOf big : Int) < m) -> P ([], 1))
  (h4 : ∀ big, k = kOf big -> chk k p = 0 -> (key.length = 0 \/ (key.length : Int) = p.key) -> ∀ n : Nat, m = n -> 1 <= n /\ n <= bOf big -> P ((hashL big p ls lp key last data).take n, 0)) : P (hashS k p ls lp key last m data) := by
 unfold hashS
 by_cases hc : chk k p ≠ 0
 ·rw [if_pos hc]; exact h1 hc
 ·rw [if_neg hc]
  have hc0 : chk k p = 0 := Decidable.not_not.1 hc;obtain ⟨big, hb⟩ := kind_of hc0
  by_cases hk : key.length ≠ 0 /\ (key.length : Int) ≠ p.key
  ·rw [if_pos hk]; exact h2 big hb hc0 hk.1 hk.2
  ·rw [if_neg hk]
   have hk0 : key.length = 0 \/ (key.length : Int) = p.key := by
    by_cases h0 : key.length = 0
    ·exact .inl h0
    ·exact .inr (Decidable.not_not.1 (fun h => hk ⟨h0, h⟩))
   by_cases hm : m < 1 \/ mostOf k < m
   ·rw [if_pos hm]
    rw [hb, mostOf_k] at hm;exact h3 big hb hc0 hk0 hm
   ·rw [if_neg hm]
    rw [hb, mostOf_k] at hm;have hm1 : 1 <= m := by omega
    rw [hb, kOf_is];exact h4 big hb hc0 hk0 m.toNat (by omega) (by omega)
theorem hashS_any (k : Int) (last : Bool) (m : Int) (p : Pr) (ls lp key data : List UInt8) (Ak Ad : Option Addr) (nk ck nd cd : Nat) (w : World) (hf : p.Fit) (hls : ls.length = p.salt.n) (hlp : lp.length = p.pers.n) (hrs : RS cB w w.heap.size p.salt.A ls) (hrp : RS cB w w.heap.size p.pers.A lp)
  (hk : key.length = nk) (hrk : RS cB w w.heap.size Ak key) (hdl : data.length = nd) (hnd : nd <= cd) (hcd : cd <= 9223372036854775807) (hrd : RS cB w w.heap.size Ad data) :
  Calls Tryz.prog 67 #[.int .i64 k, p.v, .slice Ak nk ck, .bool last, .int .i64 m, .slice Ad nd cd] w fun r w' => ∃ A n c cc, r = .returned (.tuple #[.slice A n cc, .int .i64 (hashS k p ls lp key last m data).2]) /\ (hashS k p ls lp key last m data).1.length = n /\ n <= cc /\ OS cB w' w.heap.size A c (hashS k p ls lp key last m data).1 /\ Below w.heap.size w w' := by
 refine hash_ways (P := fun R => Calls Tryz.prog 67 #[.int .i64 k, p.v, .slice Ak nk ck, .bool last, .int .i64 m, .slice Ad nd cd] w fun r w' => ∃ A n c cc, r = .returned (.tuple #[.slice A n cc, .int .i64 R.2]) /\ R.1.length = n /\ n <= cc /\ OS cB w' w.heap.size A c R.1 /\ Below w.heap.size w w') k p ls lp key last m data ?_ ?_ ?_ ?_
 ·intro hc
  exact (hashBad_any k last m p Ak Ad nk ck nd cd w hc).mono fun r w' ⟨h1, h2⟩ => ⟨none, 0, 0, 0, h1, rfl, aZC _, OS.nil _ _ _ rfl, h2⟩
 ·rintro big rfl hc h1 h2
  exact (hashKey_any big last m p ls lp Ak Ad nk ck nd cd w hc hf hls hlp hrs hrp (by rw [<- hk]; exact h1) (by rw [<- hk]; exact h2)).mono fun r w' ⟨h1, h2⟩ => ⟨none, 0, 0, 0, h1, rfl, aZC _, OS.nil _ _ _ rfl, h2⟩
 ·rintro big rfl hc h1 h2
  have hd := (chk_range hc).1;exact (hashOut_any big last p.digest.toNat m p ls lp key data Ak Ad nk ck nd cd w hc hf (by omega) hls hlp hrs hrp hk (by rw [<- hk]; exact h1) hrk hdl hnd hcd hrd h2).mono fun r w' ⟨h1, h2⟩ => ⟨none, 0, 0, 0, h1, rfl, aZC _, OS.nil _ _ _ rfl, h2⟩
 ·rintro big rfl hc h1 n rfl hn
  have hd := (chk_range hc).1;exact (hash_any big last p.digest.toNat n p ls lp key data Ak Ad nk ck nd cd w hc hf (by omega) hls hlp hrs hrp hk (by rw [<- hk]; exact h1) hrk hdl hnd hcd hrd hn).mono fun r w' ⟨A, c, h1, h2, h3⟩ => ⟨A, n, c, n, h1, by rw [List.length_take, hashL_len]; omega, aZC _, h2, h3⟩
end Go.Proofs.YtmapfcdffklopaaGreat

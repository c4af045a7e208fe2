/-
  Y21: contracts and lemmas alone; no statement is claimed here.
-/
import Derived.Test.YtmapfcdffklopaaGreatY18
namespace Go.Proofs.YtmapfcdffklopaaGreat
open Go.RowKit
attribute [local go_sem] pureUpon Ords.of

theorem bOf_le (big : Bool) : 32 ≤ bOf big ∧ bOf big ≤ 64 := by cases big <;> decide
theorem hashBad_any (k : Int) (last : Bool) (m : Int) (p : Pr) (Ak Ad : Option Addr) (nk ck nd cd : Nat) (w : World) (hc : chk k p ≠ 0) :
  Calls Tryz.prog 67 #[.int .i64 k, p.v, .slice Ak nk ck, .bool last, .int .i64 m, .slice Ad nd cd] w fun r w' => r = .returned (.tuple #[.slice none 0 0, .int .i64 (chk k p)]) ∧ Below w.heap.size w w' := by
 have hnew := fun W => newBad_any k p Ak nk ck W hc
 have t0 : (chk k p == 0) = false := by simpa using hc
 have t1 : (chk k p != 0) = true := by simpa using hc
 obtain ⟨r, hr⟩ : ∃ r, r = chk k p := ⟨_, rfl⟩
 rw [← hr] at t0 t1 ⊢
 simp only [← hr] at hnew
 have HNEW := Lib.hid hnew; clear hnew hr hc
 unfold Pr.v Pr.cs Sl.v at *
 go_enter Tryz.func67, Tryz.ntmps67
 go_wp2_with (go_at_call 60; refine (HNEW.out _).mono ?_; rintro e w1 ⟨rfl, hbw1⟩; (first | refine withN hbw1 ?_ | refine withD hbw1 ?_ | refine with0 hbw1 ?_); intro hcw1 hfw1; have z0w1 : w.heap.size < w1.heap.size := (by have := hbw1.size; (try simp at this); omega))
 exact bodyPost_ret (results_tmp2 rfl _ _ _) rfl ⟨rfl, bcall (bal (b0 w) _) hbw1⟩
set_option maxHeartbeats 1000000 in
theorem hashKey_any (big : Bool) (last : Bool) (m : Int) (p : Pr) (ls lp : List UInt8) (Ak Ad : Option Addr) (nk ck nd cd : Nat) (w : World) (hc : chk (kOf big) p = 0) (hf : p.Fit) (hls : ls.length = p.salt.n) (hlp : lp.length = p.pers.n) (hrs : RS cB w w.heap.size p.salt.A ls) (hrp : RS cB w w.heap.size p.pers.A lp) (hn : nk ≠ 0) (hk : (nk : Int) ≠ p.key) :
  Calls Tryz.prog 67 #[.int .i64 (kOf big), p.v, .slice Ak nk ck, .bool last, .int .i64 m, .slice Ad nd cd] w fun r w' => r = .returned (.tuple #[.slice none 0 0, .int .i64 8]) ∧ Below w.heap.size w w' := by
 have hnew := fun W hrs hrp => newKey_any big p ls lp Ak nk ck W hc hf hls hlp hrs hrp hn hk
 have HNEW := Lib.hid hnew; have HRS := Lib.hid hrs; have HRP := Lib.hid hrp; clear hnew hc hf hls hlp hrs hrp hn hk
 unfold Pr.v Pr.cs Sl.v at *
 generalize kOf big = kk at *
 go_enter Tryz.func67, Tryz.ntmps67
 go_wp2_with (go_at_call 60; refine (HNEW.out _ ((HRS.out.alloc (Nat.le_refl _) _).more (by simp)) ((HRP.out.alloc (Nat.le_refl _) _).more (by simp))).mono ?_; rintro e w1 ⟨rfl, hbw1⟩; (first | refine withN hbw1 ?_ | refine withD hbw1 ?_ | refine with0 hbw1 ?_); intro hcw1 hfw1; have z0w1 : w.heap.size < w1.heap.size := (by have := hbw1.size; (try simp at this); omega))
 exact bodyPost_ret (results_tmp2 rfl _ _ _) rfl ⟨rfl, bcall (bal (b0 w) _) hbw1⟩
set_option maxRecDepth 20000 in
set_option maxHeartbeats 1000000 in
theorem hashOut_any (big last : Bool) (d : Nat) (m : Int) (p : Pr) (ls lp key data : List UInt8) (Ak Ad : Option Addr) (nk ck nd cd : Nat) (w : World) (hc : chk (kOf big) p = 0) (hf : p.Fit) (hd : p.digest = d) (hls : ls.length = p.salt.n) (hlp : lp.length = p.pers.n) (hrs : RS cB w w.heap.size p.salt.A ls) (hrp : RS cB w w.heap.size p.pers.A lp)
  (hk : key.length = nk) (hkk : nk = 0 ∨ (nk : Int) = p.key) (hrk : RS cB w w.heap.size Ak key) (hdl : data.length = nd) (hnd : nd ≤ cd) (hcd : cd ≤ 9223372036854775807) (hrd : RS cB w w.heap.size Ad data) (hm : m < 1 ∨ (bOf big : Int) < m) :
  Calls Tryz.prog 67 #[.int .i64 (kOf big), p.v, .slice Ak nk ck, .bool last, .int .i64 m, .slice Ad nd cd] w fun r w' => r = .returned (.tuple #[.slice none 0 0, .int .i64 1]) ∧ Below w.heap.size w w' := by
 have hnew := fun W hrs hrp hrk => new_any big d p ls lp key Ak nk ck W hc hf hd hls hlp hrs hrp hk hkk hrk
 generalize startK big (encL big p ls lp) key = e0 at *
 generalize encL big p ls lp = X at *
 clear hc hkk hf
 unfold Pr.v Pr.cs Sl.v at *
 rw [hd] at hnew
 simp only [hd] at *
 have hout := fun W (F : List Nat) (q : Nat) h => outBad_any q d m big last X key 0 (e0.feed data) F W h hm
 have hmW : ∀ (g k : Nat) (w : World), 0 < k → Sem.run Tryz.prog (method k e0.T (.pointer (some ⟨g, 0, none⟩)) "quern/node.write") w = .ok (e0.fw, .pointer (some ⟨g, 0, none⟩)) w := fun g k w hk => e0.run_write g k hk w
 have heL : ∀ args w, (callFunc e0.fw args).run Tryz.prog w = .ok (.enter e0.fw args) w := fun args w => e0.enters_w args w
 generalize he2 : e0.feed data = e2 at *
 have HE2 := Lib.hid he2; have HNEW := Lib.hid hnew; have HOUT := Lib.hid hout; have HRS := Lib.hid hrs; have HRP := Lib.hid hrp; have HRK := Lib.hid hrk; have HRD := Lib.hid hrd; have HDL := Lib.hid hdl; clear hnew hout hrs hrp hrk hrd hls hlp hk hd hdl he2 hm
 generalize hkq : kOf big = kk at *
 have HKQ := Lib.hid hkq; clear hkq
 go_enter Tryz.func67, Tryz.ntmps67
 go_upto_if 24 with (go_at_call 60; refine (HNEW.out _ ((HRS.out.alloc (Nat.le_refl _) _).more (by simp)) ((HRP.out.alloc (Nat.le_refl _) _).more (by simp)) ((HRK.out.alloc (Nat.le_refl _) _).more (by simp))).mono ?_; rintro e w1 ⟨q, F, rfl, hN1, hF1, hbw1⟩; (first | refine withN hbw1 ?_ | refine withD hbw1 ?_ | refine with0 hbw1 ?_); intro hcw1 hfw1; have z0w1 : w.heap.size < w1.heap.size := (by have := hbw1.size; (try simp at this); omega))
 have hF1' : ∀ k, k ∈ F → w.heap.size ≤ k := fun k hk => by have h := hF1 k hk; simp at h; omega
 have HN1 := Lib.hid hN1; have HF1 := Lib.hid hF1'; have HB1 := Lib.hid (bcall (bal (b0 w) _) hbw1); clear hN1 hF1 hF1' hcw1 hfw1 hbw1
 obtain ⟨g0, hb0, -⟩ := HN1.out.engine
 have c4 : w1.cell? ⟨q, 4, none⟩ = some (.bool false) := hb0.cell 4
 have hf0 := hb0.frozen 4
 have hq1 := hb0.lt
 clear hb0
 go_upto_region 5 with fail
 have HN2 := Lib.hid (HN1.out.put4 last)
 have HB2 := Lib.hid (HB1.out.setCell (p := ⟨q, 4, none⟩) (HF1.out q HN1.out.here) (.bool last))
 have hz2 : w.heap.size ≤ (w1.setCell ⟨q, 4, none⟩ (.bool last)).heap.size := HB2.out.size
 generalize w1.setCell ⟨q, 4, none⟩ (.bool last) = W2 at *
 clear c4 hf0 hq1 HN1 HB1
 obtain ⟨g, hbk, hcall⟩ := HN2.out.engine
 have c6 : W2.cell? ⟨q, 6, none⟩ = some (.iface e0.T (.pointer (some ⟨g, 0, none⟩))) := hbk.cell 6
 have hq2 := hbk.lt
 have HCALL := Lib.hid (hcall Ad nd cd data HDL.out hnd hcd ((HRD.out.below HB2.out).more hz2) (fun h0 a ha h => by have := HF1.out _ h; have := HRD.out.low h0 a ha; omega))
 clear hbk hcall
 go_wp2_with fail
 refine HCALL.out.mono ?_
 rintro r3 w3 ⟨rfl, F3, hN3, hF3, hB3⟩
 rw [HE2.out] at hN3
 have HN3 := Lib.hid hN3; have HB3 := Lib.hid (HB2.out.trans (hB3.toBelow (B := w.heap.size) hz2 HF1.out)); clear hN3 hB3 hF3 c6 hq2
 go_wp2_with (go_at_call 64; refine (HOUT.out _ F3 q HN3.out).mono ?_; rintro r4 w4 ⟨rfl, hb4⟩; have HB4 := Lib.hid hb4; clear hb4)
 exact bodyPost_ret (results_tmp2 rfl _ _ _) rfl ⟨rfl, bcall HB3.out HB4.out⟩

def hashS (k : Int) (p : Pr) (ls lp key : List UInt8) (last : Bool) (m : Int) (data : List UInt8) : List UInt8 × Int :=
  if chk k p ≠ 0 then ([], chk k p) else if key.length ≠ 0 ∧ (key.length : Int) ≠ p.key then ([], 8) else if m < 1 ∨ mostOf k < m then ([], 1) else ((hashL (decide (k = 1)) p ls lp key last data).take m.toNat, 0)
theorem mostOf_k (big : Bool) : mostOf (kOf big) = bOf big := by cases big <;> rfl
theorem kOf_is (big : Bool) : decide (kOf big = 1) = big := by cases big <;> rfl
theorem hash_ways {P : List UInt8 × Int → Prop} (k : Int) (p : Pr) (ls lp key : List UInt8) (last : Bool) (m : Int) (data : List UInt8)
  (h1 : chk k p ≠ 0 → P ([], chk k p)) (h2 : ∀ big, k = kOf big → chk k p = 0 → key.length ≠ 0 → (key.length : Int) ≠ p.key → P ([], 8))
  (h3 : ∀ big, k = kOf big → chk k p = 0 → (key.length = 0 ∨ (key.length : Int) = p.key) → (m < 1 ∨ (bOf big : Int) < m) → P ([], 1))
  (h4 : ∀ big, k = kOf big → chk k p = 0 → (key.length = 0 ∨ (key.length : Int) = p.key) → ∀ n : Nat, m = n → 1 ≤ n ∧ n ≤ bOf big → P ((hashL big p ls lp key last data).take n, 0)) : P (hashS k p ls lp key last m data) := by
 unfold hashS
 by_cases hc : chk k p ≠ 0
 ·rw [if_pos hc]; exact h1 hc
 ·rw [if_neg hc]
  have hc0 : chk k p = 0 := Decidable.not_not.1 hc
  obtain ⟨big, hb⟩ := kind_of hc0
  by_cases hk : key.length ≠ 0 ∧ (key.length : Int) ≠ p.key
  ·rw [if_pos hk]; exact h2 big hb hc0 hk.1 hk.2
  ·rw [if_neg hk]
   have hk0 : key.length = 0 ∨ (key.length : Int) = p.key := by
    by_cases h0 : key.length = 0
    ·exact .inl h0
    ·exact .inr (Decidable.not_not.1 (fun h => hk ⟨h0, h⟩))
   by_cases hm : m < 1 ∨ mostOf k < m
   ·rw [if_pos hm]
    rw [hb, mostOf_k] at hm
    exact h3 big hb hc0 hk0 hm
   ·rw [if_neg hm]
    rw [hb, mostOf_k] at hm
    have hm1 : 1 ≤ m := by omega
    rw [hb, kOf_is]
    exact h4 big hb hc0 hk0 m.toNat (by omega) (by omega)
theorem hashS_any (k : Int) (last : Bool) (m : Int) (p : Pr) (ls lp key data : List UInt8) (Ak Ad : Option Addr) (nk ck nd cd : Nat) (w : World) (hf : p.Fit) (hls : ls.length = p.salt.n) (hlp : lp.length = p.pers.n) (hrs : RS cB w w.heap.size p.salt.A ls) (hrp : RS cB w w.heap.size p.pers.A lp)
  (hk : key.length = nk) (hrk : RS cB w w.heap.size Ak key) (hdl : data.length = nd) (hnd : nd ≤ cd) (hcd : cd ≤ 9223372036854775807) (hrd : RS cB w w.heap.size Ad data) :
  Calls Tryz.prog 67 #[.int .i64 k, p.v, .slice Ak nk ck, .bool last, .int .i64 m, .slice Ad nd cd] w fun r w' => ∃ A n c cc, r = .returned (.tuple #[.slice A n cc, .int .i64 (hashS k p ls lp key last m data).2]) ∧ (hashS k p ls lp key last m data).1.length = n ∧ n ≤ cc ∧ OS cB w' w.heap.size A c (hashS k p ls lp key last m data).1 ∧ Below w.heap.size w w' := by
 refine hash_ways (P := fun R => Calls Tryz.prog 67 #[.int .i64 k, p.v, .slice Ak nk ck, .bool last, .int .i64 m, .slice Ad nd cd] w fun r w' => ∃ A n c cc, r = .returned (.tuple #[.slice A n cc, .int .i64 R.2]) ∧ R.1.length = n ∧ n ≤ cc ∧ OS cB w' w.heap.size A c R.1 ∧ Below w.heap.size w w') k p ls lp key last m data ?_ ?_ ?_ ?_
 ·intro hc
  exact (hashBad_any k last m p Ak Ad nk ck nd cd w hc).mono fun r w' ⟨h1, h2⟩ => ⟨none, 0, 0, 0, h1, rfl, Nat.le_refl _, OS.nil _ _ _ rfl, h2⟩
 ·rintro big rfl hc h1 h2
  exact (hashKey_any big last m p ls lp Ak Ad nk ck nd cd w hc hf hls hlp hrs hrp (by rw [← hk]; exact h1) (by rw [← hk]; exact h2)).mono fun r w' ⟨h1, h2⟩ => ⟨none, 0, 0, 0, h1, rfl, Nat.le_refl _, OS.nil _ _ _ rfl, h2⟩
 ·rintro big rfl hc h1 h2
  have hd := (chk_range hc).1
  exact (hashOut_any big last p.digest.toNat m p ls lp key data Ak Ad nk ck nd cd w hc hf (by omega) hls hlp hrs hrp hk (by rw [← hk]; exact h1) hrk hdl hnd hcd hrd h2).mono fun r w' ⟨h1, h2⟩ => ⟨none, 0, 0, 0, h1, rfl, Nat.le_refl _, OS.nil _ _ _ rfl, h2⟩
 ·rintro big rfl hc h1 n rfl hn
  have hd := (chk_range hc).1
  exact (hash_any big last p.digest.toNat n p ls lp key data Ak Ad nk ck nd cd w hc hf (by omega) hls hlp hrs hrp hk (by rw [← hk]; exact h1) hrk hdl hnd hcd hrd hn).mono fun r w' ⟨A, c, h1, h2, h3⟩ => ⟨A, n, c, n, h1, by rw [List.length_take, hashL_len]; omega, Nat.le_refl _, h2, h3⟩
end Go.Proofs.YtmapfcdffklopaaGreat

/-
  LaneAlone, the law. Contracts alone; no statement is claimed here.
-/
import Derived.Test.YteeacbkhmofbeaaLCal
import Derived.Test.YteeacbkhmofbeaaLAlike
import Derived.Test.YteeacbkhmofbeaaLAloP
import Derived.Test.YteeacbkhmofbeaaOpenL
import Derived.Test.YteeacbkhmofbeaaLaw8a

namespace Go.Proofs.Yteeacbkhmofbeaa
open Go.RowKit
attribute [local go_sem] pureUpon Ords.of

theorem SlIn.linA {W : World} {a b c e : Sl} {la lb lc le_ : List UInt8} (ha : SlIn W a la) (hb : SlIn W b lb) (hc : SlIn W c lc) (he : SlIn W e le_) (big : Bool) (dg : Int) : LIn W ⟨big, dg, la, lb, lc, le_⟩ a b c e :=
  ⟨ha.len, hb.len, hc.len, he.len, by have := ha.cap; omega, by have := hb.cap; omega, by have := hc.cap; omega, by have := he.cap; omega, ⟨he.cap.1, by have := he.cap; omega⟩, ha.reads, hb.reads, hc.reads, he.reads⟩
theorem measA (j n : Nat) (h : j < n) : n - (intOf (.int .i64 ((j : Int) + 1))).toNat < n - (intOf (.int .i64 (j : Int))).toNat := by simp [intOf]; omega
theorem lcount_any (w : World) :
    Calls Try.prog 11 #[.int .i64 2] w fun e w' => e = .returned (.tuple #[.int .i64 8, .int .i64 0]) ∧ Below w.heap.size w w' := by
  go_enter Try.func11, Try.ntmps11
  go_wp2_with (go_at_call 21; refine (of_small _).mono ?_; rintro e w1 ⟨rfl, hbw1⟩; (first | refine withN hbw1 ?_ | refine withD hbw1 ?_ | refine with0 hbw1 ?_); intro hcw1 hfw1)
  exact bodyPost_ret (results_tmp2 rfl _ _ _) rfl ⟨rfl, bal hbw1 _⟩
theorem alive8_any (w : World) : Calls Try.prog 5 #[] w fun e w' => e = .returned (.bool true) ∧ Below w.heap.size w w' := by
  go_enter Try.func5, Try.ntmps5
  go_wp2_with (go_at_call 11; refine (lcount_any _).mono ?_; rintro e w1 ⟨rfl, hbw1⟩; (first | refine withN hbw1 ?_ | refine withD hbw1 ?_ | refine with0 hbw1 ?_); intro hcw1 hfw1)
  exact bodyPost_ret (results_tmp rfl _ _ _) rfl ⟨rfl, hbw1⟩
set_option maxRecDepth 20000 in
set_option maxHeartbeats 4000000 in
theorem laneAlone_no (k dg at_ E : Int) (a b c e : Sl) (la lb lc le_ : List UInt8) (w : World) (ha : SlIn w a la) (hb : SlIn w b lb) (hc : SlIn w c lc) (he : SlIn w e le_)
    (h1 : ∀ (u : World), (∀ big dg, LIn u ⟨big, dg, la, lb, lc, le_⟩ a b c e) → Calls Try.prog 6 #[.int .i64 k, .int .i64 dg, .slice a.A a.n a.c, .slice b.A b.n b.c, .slice c.A c.n c.c, .slice e.A e.n e.c] u fun r w' => ∃ v, r = .returned (.tuple #[v, .int .i64 E]) ∧ Below u.heap.size u w')
    (hE : E ≠ 0 ∨ at_ < 0 ∨ (e.n : Int) ≤ at_) :
    Calls Try.prog 3 #[.agg (planC k dg a b c e), .int .i64 at_] w fun r w' => r = .returned (.bool true) ∧ Below w.heap.size w w' := by
  have cs : (E != 0) = true ∨ ((E != 0) = false ∧ decide (at_ < 0) = true) ∨ ((E != 0) = false ∧ decide (at_ < 0) = false ∧ decide ((e.n : Int) ≤ at_) = true) := by
    by_cases h : E = 0
    · by_cases h2 : at_ < 0
      · exact .inr (.inl ⟨by simpa using h, by simpa using h2⟩)
      · exact .inr (.inr ⟨by simpa using h, by simpa using h2, by rw [decide_eq_true_eq]; omega⟩)
    · exact .inl (by simpa using h)
  have H1 := Lib.hid h1; have HA := Lib.hid ha; have HBB := Lib.hid hb; have HC := Lib.hid hc; have HE := Lib.hid he
  clear h1 ha hb hc he hE
  rcases cs with t1 | ⟨t1, t2⟩ | ⟨t1, t2, t3⟩
  all_goals
    go_enter Try.func3, Try.ntmps3
    go_upto_region 1 with fail
    have HBK := Lib.hid (Blk.new w 24 (planC k dg a b c e))
    have HB := Lib.hid (bal (b0 w) (.cells (planC k dg a b c e) 24))
    obtain ⟨g, hg⟩ : ∃ g, g = w.heap.size := ⟨_, rfl⟩
    rw [← hg] at HBK ⊢
    have HG := Lib.hid hg
    clear hg
    generalize w.alloc (.cells (planC k dg a b c e) 24) = u at *
    go_wp2_with (go_at_call 5; refine (alive8_any _).mono ?_; rintro e0 u ⟨rfl, hb0⟩; replace HB := Lib.hid (bcall HB.out hb0); replace HBK := Lib.hid (HBK.out.below hb0 HBK.out.lt); have q0 : u.cell? ⟨g, 0, none⟩ = some (.int .i64 k) := HBK.out.cell 0; have q1 : u.cell? ⟨g, 1, none⟩ = some (.int .i64 dg) := HBK.out.cell 1; have q2 : u.cell? ⟨g, 2, none⟩ = some (.slice a.A a.n a.c) := HBK.out.cell 2; have q3 : u.cell? ⟨g, 3, none⟩ = some (.slice b.A b.n b.c) := HBK.out.cell 3; have q4 : u.cell? ⟨g, 4, none⟩ = some (.slice c.A c.n c.c) := HBK.out.cell 4; have q5 : u.cell? ⟨g, 5, none⟩ = some (.slice e.A e.n e.c) := HBK.out.cell 5; clear hb0)
    refine (H1.out u (fun big dg => (HA.out.below HB.out).linA (HBB.out.below HB.out) (HC.out.below HB.out) (HE.out.below HB.out) big dg)).mono ?_
    rintro e5 u ⟨v, rfl, hb5⟩
    clear q0 q1 q2 q3 q4 q5
    replace HB := Lib.hid (bcall HB.out hb5); replace HBK := Lib.hid (HBK.out.below hb5 HBK.out.lt)
    have q5 : u.cell? ⟨g, 5, none⟩ = some (.slice e.A e.n e.c) := HBK.out.cell 5
    go_wp2_with fail
    exact bodyPost_ret (results_tmp rfl _ _ _) rfl ⟨rfl, HB.out⟩
theorem LP.key_leA (P : LP) (i : Nat) : (P.call i).key.length ≤ P.key.length := by
  unfold LP.call
  split
  · exact Nat.le_refl _
  · exact Nat.zero_le _
theorem callA_size (x : CC) : (Try.prog.info? 34).map (·.size) = some x.cs.toList.length := (callC_size x).trans rfl
theorem CO.wholeA {w : World} {base c : Nat} {A : Option Addr} {l : List CC} (h : CO w base A c l) (hl : 0 < l.length) : ∃ g, A = some ⟨g, 0, none⟩ := by
  rcases h.form with ⟨_, _, h0⟩ | ⟨g, hg, _⟩
  · rw [h0] at hl; exact absurd hl (Nat.lt_irrefl _)
  · exact ⟨g, hg⟩
set_option maxRecDepth 20000 in
set_option maxHeartbeats 8000000 in
theorem laneAlone_ok (k : Int) (big : Bool) (hk : k = kOf big) (dg : Int) (a b c e : Sl) (la lb lc le_ : List UInt8) (at_ : Nat) (d : UInt8) (w : World) (ha : SlIn w a la) (hb : SlIn w b lb) (hc : SlIn w c lc) (he : SlIn w e le_) (hok : (LP.mk big dg la lb lc le_).err = 0) (hd : le_[at_]? = some d) :
    Calls Try.prog 3 #[.agg (planC k dg a b c e), .int .i64 at_] w fun r w' => r = .returned (.bool true) ∧ Below w.heap.size w w' := by
  have hlt : at_ < e.n := by rw [← he.len]; exact (List.getElem?_eq_some_iff.1 hd).1
  have hcp := fun (y : Sl) (l : List UInt8) W (h : SlIn W y l) => copied08_any y.A y.c y.n l W h.len (by have := h.cap; omega) h.reads
  obtain ⟨P, hP⟩ : ∃ P : LP, P = ⟨big, dg, la, lb, lc, le_⟩ := ⟨_, rfl⟩
  have hPb : P.big = big := by rw [hP]
  have hPd : P.digest = dg := by rw [hP]
  have hPD : P.data = le_ := by rw [hP]
  rw [← hP] at hok
  have hkl : ∀ i, (P.call i).key.length ≤ 140737488351232 := fun i => by
    have h3 := P.key_leA i
    rw [hP] at h3 ⊢
    have h4 := ha.len
    have h5 := ha.cap
    exact Nat.le_trans h3 (by show la.length ≤ _; omega)
  have hlin : ∀ u, LIn u ⟨big, dg, la, lb, lc, le_⟩ a b c e → LIn u P a b c e := fun u h => by rw [hP]; exact h
  have h1 := fun (u : World) (h : LIn u P a b c e) => calls_any P a b c e u h hok
  have h2 : ∀ (u : World) (e' : Sl), LIn u (P.turned at_ (d ^^^ 1)) a b c e' → Calls Try.prog 6 #[.int .i64 (kOf P.big), .int .i64 P.digest, .slice a.A a.n a.c, .slice b.A b.n b.c, .slice c.A c.n c.c, .slice e'.A e'.n e'.c] u fun r w' => ∃ A c l, r = .returned (.tuple #[.slice A (lnOf P.big + 1 : Nat) c, .int .i64 0]) ∧ CO w' u.heap.size A c l ∧ l.length = lnOf P.big + 1 ∧ (∀ (i : Nat) (x : CC), l[i]? = some x → CIn w' (kOf P.big) x ((P.turned at_ (d ^^^ 1)).call i)) ∧ Below u.heap.size u w' :=
    fun u e' h => calls_any (P.turned at_ (d ^^^ 1)) a b c e' u h hok
  have hq := fun i => P.turned_call at_ (d ^^^ 1) i
  have hqd := fun i hi => P.turned_data at_ d (by rw [hPD]; exact hd) i hi
  have hlq : ∀ (u : World) (e' : Sl), LIn u P a b c e → (le_.set at_ (d ^^^ 1)).length = e'.n → e'.n ≤ 140737488351232 → (e'.n ≤ e'.c ∧ e'.c ≤ 9223372036854775807) → RS cB u u.heap.size e'.A (le_.set at_ (d ^^^ 1)) → LIn u (P.turned at_ (d ^^^ 1)) a b c e' := fun u e' h q1 q2 q3 q4 =>
    ⟨h.hk, h.hs, h.hp, by rw [← hPD] at q1; exact q1, h.nk, h.ns, h.np, q2, q3, h.rk, h.rs, h.rp, by rw [← hPD] at q4; exact q4⟩
  have hlast : ∀ i x W, CIn W k x (P.call (lnOf big)) → i = lnOf big → x.last = true ∧ x.key.n = 0 := fun i x W h _ => by
    have e1 : P.call (lnOf big) = P.root := by rw [← hPb]; exact P.call_root
    rw [e1] at h
    exact ⟨h.last, h.inn.kl.symm⟩
  have hlastQ : ∀ x W, CIn W k x ((P.turned at_ (d ^^^ 1)).call (lnOf big)) → x.last = true ∧ x.key.n = 0 := fun x W h => by
    have e1 : (P.turned at_ (d ^^^ 1)).call (lnOf big) = (P.turned at_ (d ^^^ 1)).root := by rw [← hPb]; exact (P.turned at_ (d ^^^ 1)).call_root
    rw [e1] at h
    exact ⟨h.last, h.inn.kl.symm⟩
  generalize P.turned at_ (d ^^^ 1) = Q at *
  rw [hPb, hPd, ← hk] at h1 h2
  rw [hPb] at hqd
  obtain ⟨n, blk, hn, hb2, hkt⟩ : ∃ n blk : Nat, n = lnOf big ∧ blk = blOf big ∧ (((k == 2) = true ∧ n = 8 ∧ blk = 64) ∨ ((k == 2) = false ∧ n = 4 ∧ blk = 128)) := ⟨_, _, rfl, rfl, by cases big <;> subst hk; exact .inl ⟨rfl, rfl, rfl⟩; exact .inr ⟨rfl, rfl, rfl⟩⟩
  rw [← hn] at h1 h2 hqd hlast hlastQ
  rw [← hb2] at hqd
  have HCP := Lib.hid hcp; have H1 := Lib.hid h1; have H2 := Lib.hid h2; have HA := Lib.hid ha; have HBB := Lib.hid hb; have HC := Lib.hid hc; have HE := Lib.hid he; have HLIN := Lib.hid hlin; have HLQ := Lib.hid hlq; have HLT := Lib.hid hlt; have HD := Lib.hid hd; have HLA := Lib.hid hlast; have HLAQ := Lib.hid hlastQ
  clear hcp h1 h2 ha hb hc he hlin hlq hlt hd hlast hlastQ hP hPb hPd hPD hok hk hn hb2
  have hcu := Lib.hid Try.underlying34
  rcases hkt with ⟨tk, rfl, rfl⟩ | ⟨tk, rfl, rfl⟩
  · have HQT : Hid (((at_ : Int).tdiv 64 = ((at_ / 64 : Nat) : Int)) ∧ (((at_ / 64 : Nat) : Int).tmod 8 = ((at_ / 64 % 8 : Nat) : Int)) ∧ ((at_ : Int) / 64 = ((at_ / 64 : Nat) : Int)) ∧ (((at_ / 64 : Nat) : Int) % 8 = ((at_ / 64 % 8 : Nat) : Int))) := ⟨rfl, rfl, rfl, rfl⟩
    have hal : ∀ (j : Nat) (x y : CC) W, j < 8 → CIn W k x (P.call j) → CIn W k y (Q.call j) → Calls Try.prog 8 #[.agg x.cs, .agg y.cs] W (fun e w' => e = .returned (.bool ((j : Int) != ((at_ / 64 % 8 : Nat) : Int))) ∧ Below W.heap.size W w') := fun j x y W hj hx hy => by
      obtain ⟨r1, r2, r3, r4⟩ := hq j
      refine (alike_any k x y (P.call j) (Q.call j) W hx hy r1.symm r2.symm r3.symm r4.symm (by rw [← hx.inn.kl]; exact Nat.le_trans (hkl j) (by decide))).mono fun _ _ ⟨q1, q2⟩ => ⟨q1.trans ?_, q2⟩
      have h := hqd j hj
      congr 2
      rw [Bool.eq_iff_iff]
      simp only [decide_eq_true_eq, bne_iff_ne, ne_eq]
      rw [h]
      omega
    have HAL := Lib.hid hal
    have HQ := Lib.hid hq; have HQD := Lib.hid hqd; have HKL := Lib.hid hkl
    clear hal hq hqd hkl
    have ta1 : decide ((at_ : Int) < 0) = false := by simp
    have ta2 : decide ((e.n : Int) ≤ (at_ : Int)) = false := by simp; exact HLT.out
    have ia1 : (at_ : Int) < (e.n : Int) := by have := HLT.out; omega
    go_enter Try.func3, Try.ntmps3
    go_upto_region 1 with fail
    have HBK := Lib.hid (Blk.new w 24 (planC k dg a b c e))
    have HB := Lib.hid (bal (b0 w) (.cells (planC k dg a b c e) 24))
    obtain ⟨g, hg⟩ : ∃ g, g = w.heap.size := ⟨_, rfl⟩
    rw [← hg] at HBK ⊢
    have HG := Lib.hid hg
    clear hg
    generalize w.alloc (.cells (planC k dg a b c e) 24) = u at *
    go_wp2_with (go_at_call 5; refine (alive8_any _).mono ?_; rintro e0 u ⟨rfl, hb0⟩; replace HB := Lib.hid (bcall HB.out hb0); replace HBK := Lib.hid (HBK.out.below hb0 HBK.out.lt); have q0 : u.cell? ⟨g, 0, none⟩ = some (.int .i64 k) := HBK.out.cell 0; have q1 : u.cell? ⟨g, 1, none⟩ = some (.int .i64 dg) := HBK.out.cell 1; have q2 : u.cell? ⟨g, 2, none⟩ = some (.slice a.A a.n a.c) := HBK.out.cell 2; have q3 : u.cell? ⟨g, 3, none⟩ = some (.slice b.A b.n b.c) := HBK.out.cell 3; have q4 : u.cell? ⟨g, 4, none⟩ = some (.slice c.A c.n c.c) := HBK.out.cell 4; have q5 : u.cell? ⟨g, 5, none⟩ = some (.slice e.A e.n e.c) := HBK.out.cell 5; clear hb0)
    refine (H1.out u (HLIN.out u ((HA.out.below HB.out).linA (HBB.out.below HB.out) (HC.out.below HB.out) (HE.out.below HB.out) big dg))).mono ?_
    rintro e5 u ⟨A5, c5, L5, rfl, hco5, hl5, hci5, hb5⟩
    clear q0 q1 q2 q3 q4 q5
    have HCO5 := Lib.hid hco5; have HL5 := Lib.hid hl5; have HCI5 := Lib.hid hci5
    replace HB := Lib.hid (bcall HB.out hb5); replace HBK := Lib.hid (HBK.out.below hb5 HBK.out.lt)
    clear hco5 hl5 hci5 hb5
    have q0 : u.cell? ⟨g, 0, none⟩ = some (.int .i64 k) := HBK.out.cell 0; have q1 : u.cell? ⟨g, 1, none⟩ = some (.int .i64 dg) := HBK.out.cell 1; have q2 : u.cell? ⟨g, 2, none⟩ = some (.slice a.A a.n a.c) := HBK.out.cell 2; have q3 : u.cell? ⟨g, 3, none⟩ = some (.slice b.A b.n b.c) := HBK.out.cell 3; have q4 : u.cell? ⟨g, 4, none⟩ = some (.slice c.A c.n c.c) := HBK.out.cell 4; have q5 : u.cell? ⟨g, 5, none⟩ = some (.slice e.A e.n e.c) := HBK.out.cell 5
    go_upto_region 12 with (go_at_call 7; refine (HCP.out e le_ _ (HE.out.below HB.out)).mono ?_; rintro e6 u6 ⟨A9, c9, rfl, ho9, hb9⟩)
    clear q0 q1 q2 q3 q4 q5
    obtain ⟨g9, x9, hA9, hg9, -, hx9, hc9, hf9⟩ := ho9.at_ (k := at_) (by rw [HE.out.len]; exact HLT.out)
    subst hA9
    obtain rfl : x9 = d := by rw [HD.out] at hx9; exact (Option.some.inj hx9).symm
    have hl9 := (ho9.block_lt _ rfl).2
    change u6.cell? ⟨g9, at_, none⟩ = some (.int .u8 (byt x9)) at hc9
    have hbx : bits .xor .u8 (byt x9) 1 = byt (x9 ^^^ 1) := byt_xor x9 1
    have HO9 := Lib.hid (ho9.set at_ (x9 ^^^ 1))
    have HB9 := Lib.hid (bput hb9 (p := ⟨g9, at_, none⟩) hg9 (cB.enc (x9 ^^^ 1)))
    have HC9 := Lib.hid ho9.len_le
    clear hb9 hg9 hx9 ho9
    go_upto_region 13 with fail
    clear hc9 hf9 hl9
    change Hid (OS cB (u6.setCell ⟨g9, at_, none⟩ (.int .u8 (byt (x9 ^^^ 1)))) _ _ _ _) at HO9
    change Hid (Below _ _ (u6.setCell ⟨g9, at_, none⟩ (.int .u8 (byt (x9 ^^^ 1))))) at HB9
    generalize u6.setCell ⟨g9, at_, none⟩ (.int .u8 (byt (x9 ^^^ 1))) = u7 at *
    clear hbx
    replace HCO5 := Lib.hid (HCO5.out.below HB9.out); replace HCI5 := Lib.hid (fun i x hx => (HCI5.out i x hx).below HB9.out)
    replace HB := Lib.hid (bcall HB.out HB9.out); replace HBK := Lib.hid (HBK.out.below HB9.out HBK.out.lt)
    clear HB9
    have q0 : u7.cell? ⟨g, 0, none⟩ = some (.int .i64 k) := HBK.out.cell 0; have q1 : u7.cell? ⟨g, 1, none⟩ = some (.int .i64 dg) := HBK.out.cell 1; have q2 : u7.cell? ⟨g, 2, none⟩ = some (.slice a.A a.n a.c) := HBK.out.cell 2; have q3 : u7.cell? ⟨g, 3, none⟩ = some (.slice b.A b.n b.c) := HBK.out.cell 3; have q4 : u7.cell? ⟨g, 4, none⟩ = some (.slice c.A c.n c.c) := HBK.out.cell 4; have q5 : u7.cell? ⟨g, 5, none⟩ = some (.slice e.A e.n e.c) := HBK.out.cell 5
    go_wp2_with fail
    refine (H2.out u7 ⟨some ⟨g9, 0, none⟩, e.n, c9⟩ (HLQ.out u7 _ (HLIN.out u7 ((HA.out.below HB.out).linA (HBB.out.below HB.out) (HC.out.below HB.out) (HE.out.below HB.out) big dg)) (by rw [List.length_set]; exact HE.out.len) (by have h := HE.out.cap; show e.n ≤ _; omega) ⟨by have h := HC9.out.1; rw [HE.out.len] at h; exact h, by have h := HC9.out.2; unfold maxLen at h; exact h⟩ HO9.out.reads)).mono ?_
    rintro e7 u8 ⟨A6, c6, L6, rfl, hco6, hl6, hci6, hb6⟩
    clear q0 q1 q2 q3 q4 q5
    have HCO6 := Lib.hid hco6; have HL6 := Lib.hid hl6; have HCI6 := Lib.hid hci6
    replace HCO5 := Lib.hid (HCO5.out.below hb6); replace HCI5 := Lib.hid (fun i x hx => (HCI5.out i x hx).below hb6)
    replace HB := Lib.hid (bcall HB.out hb6); replace HBK := Lib.hid (HBK.out.below hb6 HBK.out.lt)
    clear hco6 hl6 hci6 hb6
    obtain ⟨g5, rfl⟩ := HCO5.out.wholeA (by rw [HL5.out]; exact Nat.succ_pos _)
    obtain ⟨g6, rfl⟩ := HCO6.out.wholeA (by rw [HL6.out]; exact Nat.succ_pos _)
    go_wp2_with fail
    go_loopw [11] (fun ix wr => ∃ j : Nat, j ≤ 8 ∧ ix = .int .i64 j ∧ Below u8.heap.size u8 wr) (fun ix _ => 8 - (intOf ix).toNat)
    case atStart => exact ⟨0, Nat.zero_le _, rfl, b0 u8⟩
    case round =>
      obtain ⟨j, hj, rfl, hbw⟩ := hrel
      have HBW := Lib.hid hbw
      clear hbw
      by_cases hlt : j < 8
      · obtain ⟨x, hx⟩ : ∃ x, L5[j]? = some x := ⟨_, List.getElem?_eq_getElem (by rw [HL5.out]; omega)⟩
        obtain ⟨y, hy⟩ : ∃ y, L6[j]? = some y := ⟨_, List.getElem?_eq_getElem (by rw [HL6.out]; omega)⟩
        have HX := Lib.hid ((HCI5.out j x hx).below HBW.out); have HY := Lib.hid ((HCI6.out j y hy).below HBW.out)
        have R5 := Lib.hid ((HCO5.out.below HBW.out).at_ hx); have R6 := Lib.hid ((HCO6.out.below HBW.out).at_ hy)
        have HLJ := Lib.hid hlt
        have HX5 := Lib.hid hx; have HY6 := Lib.hid hy
        obtain ⟨t1, t2, t3, t4⟩ := HQT.out
        have hqb : at_ / 64 % 8 < 8 := Nat.mod_lt _ (by decide)
        have hqa : at_ / 64 ≤ 140737488351232 := Nat.le_trans (Nat.div_le_self _ _) (Nat.le_trans (Nat.le_of_lt HLT.out) (by have h := HE.out.cap; omega))
        have HALJ := Lib.hid (fun W => HAL.out j x y W HLJ.out)
        obtain ⟨qa, hqa2⟩ : ∃ q, q = at_ / 64 := ⟨_, rfl⟩
        rw [← hqa2] at t1 t2 t3 t4 hqb hqa HALJ
        obtain ⟨ra, hra⟩ : ∃ q, q = qa % 8 := ⟨_, rfl⟩
        rw [← hra] at t2 t4 hqb HALJ
        have hne : ((((j : Int) != (ra : Int))) != ((j : Int) != (ra : Int))) = false := by simp
        have i9 : (j : Int) < 9 := by omega
        clear hx hy hqa2 hra
        go_upto_region 19 with fail
        refine wp_region_ords (fun w' => w'.rangeAt g5 (j * 6) x.cs.toList ∧ w'.rangeAt g6 (j * 6) y.cs.toList) (fun _ n h => h) (Ords.of [(0, 0), (0, 1), (0, 2), (0, 3), (0, 4), (0, 5), (0, 6), (0, 7), (0, 9), (0, 10), (0, 11), (0, 12), (0, 13), (0, 14), (0, 15), (2, 8), (0, 16)] .fin) (by kernel_rfl) rfl (by kernel_rfl) (by kernel_rfl) (fun c a d v w h => by cases d <;> exact h) ⟨R5.out, R6.out⟩ ?_
        iterate 3 (refine ords_pure rfl (fun K hK => ?_); go_simp; refine hK _ ?_; clear hK K)
        refine ords_held (v := Value.agg x.cs.toList.toArray) rfl rfl (fun w9 hS => pure_load_mid 34 (.tmp 95) rfl g5 (j * 6) rfl _ _ hS.1 hcu.out rfl (callA_size x)) ?_; go_simp
        iterate 3 (refine ords_pure rfl (fun K hK => ?_); go_simp; refine hK _ ?_; clear hK K)
        refine ords_held (v := Value.agg y.cs.toList.toArray) rfl rfl (fun w9 hS => pure_load_mid 34 (.tmp 99) rfl g6 (j * 6) rfl _ _ hS.2 hcu.out rfl (callA_size y)) ?_; go_simp
        iterate 7 (refine ords_pure rfl (fun K hK => ?_); go_simp; refine hK _ ?_; clear hK K)
        refine ords_loud rfl (fun n1 => ?_)
        replace HX := Lib.hid (HX.out.below (bdr (b0 _) n1)); replace HY := Lib.hid (HY.out.below (bdr (b0 _) n1))
        go_wp2_with (go_at_call 8; refine (HALJ.out _ HX.out HY.out).mono ?_; rintro e7 u9 ⟨rfl, hb7⟩)
        refine ⟨⟨((HCO5.out.below (bcall (bdr HBW.out n1) hb7)).at_ HX5.out), ((HCO6.out.below (bcall (bdr HBW.out n1) hb7)).at_ HY6.out)⟩, ?_⟩
        go_simp
        refine ords_pure rfl (fun K hK => ?_); go_simp; refine hK _ ?_; clear hK K
        refine ords_end (fun n2 => ?_)
        have HB7 := Lib.hid (bdr (bcall (bdr HBW.out n1) hb7) n2)
        go_wp2_with fail
        exact ⟨⟨j + 1, HLJ.out, num8 j, HB7.out⟩, measA j 8 HLJ.out⟩
      · obtain rfl : j = 8 := by omega
        obtain ⟨x, hx⟩ : ∃ x, L5[8]? = some x := ⟨_, List.getElem?_eq_getElem (by rw [HL5.out]; omega)⟩
        obtain ⟨y, hy⟩ : ∃ y, L6[8]? = some y := ⟨_, List.getElem?_eq_getElem (by rw [HL6.out]; omega)⟩
        have HX := Lib.hid ((HCI5.out _ x hx).below HBW.out); have HY := Lib.hid ((HCI6.out _ y hy).below HBW.out)
        have R5 := Lib.hid ((HCO5.out.below HBW.out).at_ hx); have R6 := Lib.hid ((HCO6.out.below HBW.out).at_ hy)
        obtain ⟨lx, kx⟩ := HLA.out 8 x wr HX.out rfl
        obtain ⟨ly, ky⟩ := HLAQ.out y wr HY.out
        have hsm : ∀ W, Below wr.heap.size wr W → Calls Try.prog 9 #[.slice x.b.A x.b.n x.b.c, .slice y.b.A y.b.n y.b.c] W (fun e w' => e = .returned (.bool true) ∧ ∃ n, w' = W.drewN n) := fun W hW =>
          (same_any x.b.A y.b.A x.b.c y.b.c (P.call 8).b (Q.call 8).b W.heap.size W.heap.size x.b.n y.b.n W HX.out.inn.bl HY.out.inn.bl (Nat.le_trans HX.out.inn.bc.1 HX.out.inn.bc.2) ((HX.out.inn.br.below hW).more hW.size) ((HY.out.inn.br.below hW).more hW.size)).mono fun _ _ ⟨q1, q2⟩ => ⟨q1.trans (by rw [decide_eq_true ((HQ.out 8).1.symm)]), q2⟩
        have HSM := Lib.hid hsm
        have cells : ∀ W : World, W.rangeAt g5 48 x.cs.toList → W.rangeAt g6 48 y.cs.toList → W.cell? ⟨g5, 49, none⟩ = some (.slice x.b.A x.b.n x.b.c) ∧ W.cell? ⟨g5, 50, none⟩ = some (.slice x.key.A 0 x.key.c) ∧ W.cell? ⟨g5, 51, none⟩ = some (.bool true) ∧ W.cell? ⟨g6, 49, none⟩ = some (.slice y.b.A y.b.n y.b.c) ∧ W.cell? ⟨g6, 50, none⟩ = some (.slice y.key.A 0 y.key.c) ∧ W.cell? ⟨g6, 51, none⟩ = some (.bool true) := fun W q1 q2 =>
          ⟨q1 1 _ rfl, (q1 2 _ rfl).trans (by rw [kx]), (q1 3 _ rfl).trans (by rw [lx]), q2 1 _ rfl, (q2 2 _ rfl).trans (by rw [ky]), (q2 3 _ rfl).trans (by rw [ly])⟩
        have CE := Lib.hid cells
        clear hx hy hlt hsm cells lx kx ly ky
        go_upto_region 21 with fail
        obtain ⟨z1, z2, z3, z4, z5, z6⟩ := CE.out wr R5.out R6.out
        refine wp_region_ords (fun w' => w'.rangeAt g5 48 x.cs.toList ∧ w'.rangeAt g6 48 y.cs.toList) (fun _ n h => h) (Ords.of [(0, 0), (0, 1), (0, 2), (0, 3), (0, 4), (0, 5), (0, 6), (0, 7), (0, 8), (0, 9), (2, 10), (0, 11), (0, 12), (0, 13), (0, 14), (0, 15), (0, 16), (0, 17), (0, 18), (0, 19), (0, 20), (0, 21), (0, 22), (0, 23), (0, 24), (0, 25), (0, 26), (0, 27), (0, 28), (0, 29), (0, 30), (0, 31), (0, 32), (0, 33), (0, 34), (0, 35), (0, 36), (0, 37), (0, 38), (0, 39), (0, 40), (0, 41), (0, 42), (0, 43)] .fin) (by kernel_rfl) rfl (by kernel_rfl) (by kernel_rfl) (fun c a d v w h => by cases d <;> exact h) ⟨R5.out, R6.out⟩ ?_
        iterate 2 (refine ords_pure rfl (fun K hK => ?_); go_simp; refine hK _ ?_; clear hK K; refine ords_pure rfl (fun K hK => ?_); go_simp; refine hK _ ?_; clear hK K; refine ords_pure rfl (fun K hK => ?_); go_simp; refine hK _ ?_; clear hK K; refine ords_pure rfl (fun K hK => ?_); go_simp; refine hK _ ?_; clear hK K; refine ords_heldK rfl (fun K K2 hK hK2 => ?_); go_simp; refine ⟨hK2 _ (fun w9 hS => ?_), hK _ ?_⟩; (clear hK hK2 K K2; obtain ⟨y1, y2, y3, y4, y5, y6⟩ := CE.out w9 hS.1 hS.2; clear hS; go_simp); (clear hK hK2 K K2))
        refine ords_loud rfl (fun n1 => ?_)
        go_wp2_with (go_at_call 9; refine (HSM.out _ (bdr (b0 _) n1)).mono ?_; rintro e8 u9 ⟨rfl, n9, rfl⟩)
        refine ⟨⟨R5.out, R6.out⟩, ?_⟩
        go_simp
        iterate 3 (refine ords_pure rfl (fun K hK => ?_); go_simp; refine hK _ ?_; clear hK K; refine ords_pure rfl (fun K hK => ?_); go_simp; refine hK _ ?_; clear hK K; refine ords_pure rfl (fun K hK => ?_); go_simp; refine hK _ ?_; clear hK K; refine ords_pure rfl (fun K hK => ?_); go_simp; refine hK _ ?_; clear hK K; refine ords_pure rfl (fun K hK => ?_); go_simp; refine hK _ ?_; clear hK K; refine ords_heldK rfl (fun K K2 hK hK2 => ?_); go_simp; refine ⟨hK2 _ (fun w9 hS => ?_), hK _ ?_⟩; (clear hK hK2 K K2; obtain ⟨y1, y2, y3, y4, y5, y6⟩ := CE.out w9 hS.1 hS.2; clear hS; go_simp); (clear hK hK2 K K2); refine ords_pure rfl (fun K hK => ?_); go_simp; refine hK _ ?_; clear hK K)
        iterate 7 (refine ords_pure rfl (fun K hK => ?_); go_simp; refine hK _ ?_; clear hK K)
        refine ords_heldK rfl (fun K K2 hK hK2 => ?_); go_simp; refine ⟨hK2 _ (fun w9 hS => ?_), hK _ ?_⟩; (clear hK hK2 K K2; obtain ⟨y1, y2, y3, y4, y5, y6⟩ := CE.out w9 hS.1 hS.2; clear hS; go_simp); (clear hK hK2 K K2)
        iterate 4 (refine ords_pure rfl (fun K hK => ?_); go_simp; refine hK _ ?_; clear hK K)
        refine ords_end (fun n2 => ?_)
        skip
        go_wp2_with fail
        exact bodyPost_ret (results_tmp rfl _ _ _) rfl ⟨rfl, bdr (bdr (bcall HB.out HBW.out) _) _⟩
  · have HQT : Hid (((at_ : Int).tdiv 128 = ((at_ / 128 : Nat) : Int)) ∧ (((at_ / 128 : Nat) : Int).tmod 4 = ((at_ / 128 % 4 : Nat) : Int)) ∧ ((at_ : Int) / 128 = ((at_ / 128 : Nat) : Int)) ∧ (((at_ / 128 : Nat) : Int) % 4 = ((at_ / 128 % 4 : Nat) : Int))) := ⟨rfl, rfl, rfl, rfl⟩
    have hal : ∀ (j : Nat) (x y : CC) W, j < 4 → CIn W k x (P.call j) → CIn W k y (Q.call j) → Calls Try.prog 8 #[.agg x.cs, .agg y.cs] W (fun e w' => e = .returned (.bool ((j : Int) != ((at_ / 128 % 4 : Nat) : Int))) ∧ Below W.heap.size W w') := fun j x y W hj hx hy => by
      obtain ⟨r1, r2, r3, r4⟩ := hq j
      refine (alike_any k x y (P.call j) (Q.call j) W hx hy r1.symm r2.symm r3.symm r4.symm (by rw [← hx.inn.kl]; exact Nat.le_trans (hkl j) (by decide))).mono fun _ _ ⟨q1, q2⟩ => ⟨q1.trans ?_, q2⟩
      have h := hqd j hj
      congr 2
      rw [Bool.eq_iff_iff]
      simp only [decide_eq_true_eq, bne_iff_ne, ne_eq]
      rw [h]
      omega
    have HAL := Lib.hid hal
    have HQ := Lib.hid hq; have HQD := Lib.hid hqd; have HKL := Lib.hid hkl
    clear hal hq hqd hkl
    have ta1 : decide ((at_ : Int) < 0) = false := by simp
    have ta2 : decide ((e.n : Int) ≤ (at_ : Int)) = false := by simp; exact HLT.out
    have ia1 : (at_ : Int) < (e.n : Int) := by have := HLT.out; omega
    go_enter Try.func3, Try.ntmps3
    go_upto_region 1 with fail
    have HBK := Lib.hid (Blk.new w 24 (planC k dg a b c e))
    have HB := Lib.hid (bal (b0 w) (.cells (planC k dg a b c e) 24))
    obtain ⟨g, hg⟩ : ∃ g, g = w.heap.size := ⟨_, rfl⟩
    rw [← hg] at HBK ⊢
    have HG := Lib.hid hg
    clear hg
    generalize w.alloc (.cells (planC k dg a b c e) 24) = u at *
    go_wp2_with (go_at_call 5; refine (alive8_any _).mono ?_; rintro e0 u ⟨rfl, hb0⟩; replace HB := Lib.hid (bcall HB.out hb0); replace HBK := Lib.hid (HBK.out.below hb0 HBK.out.lt); have q0 : u.cell? ⟨g, 0, none⟩ = some (.int .i64 k) := HBK.out.cell 0; have q1 : u.cell? ⟨g, 1, none⟩ = some (.int .i64 dg) := HBK.out.cell 1; have q2 : u.cell? ⟨g, 2, none⟩ = some (.slice a.A a.n a.c) := HBK.out.cell 2; have q3 : u.cell? ⟨g, 3, none⟩ = some (.slice b.A b.n b.c) := HBK.out.cell 3; have q4 : u.cell? ⟨g, 4, none⟩ = some (.slice c.A c.n c.c) := HBK.out.cell 4; have q5 : u.cell? ⟨g, 5, none⟩ = some (.slice e.A e.n e.c) := HBK.out.cell 5; clear hb0)
    refine (H1.out u (HLIN.out u ((HA.out.below HB.out).linA (HBB.out.below HB.out) (HC.out.below HB.out) (HE.out.below HB.out) big dg))).mono ?_
    rintro e5 u ⟨A5, c5, L5, rfl, hco5, hl5, hci5, hb5⟩
    clear q0 q1 q2 q3 q4 q5
    have HCO5 := Lib.hid hco5; have HL5 := Lib.hid hl5; have HCI5 := Lib.hid hci5
    replace HB := Lib.hid (bcall HB.out hb5); replace HBK := Lib.hid (HBK.out.below hb5 HBK.out.lt)
    clear hco5 hl5 hci5 hb5
    have q0 : u.cell? ⟨g, 0, none⟩ = some (.int .i64 k) := HBK.out.cell 0; have q1 : u.cell? ⟨g, 1, none⟩ = some (.int .i64 dg) := HBK.out.cell 1; have q2 : u.cell? ⟨g, 2, none⟩ = some (.slice a.A a.n a.c) := HBK.out.cell 2; have q3 : u.cell? ⟨g, 3, none⟩ = some (.slice b.A b.n b.c) := HBK.out.cell 3; have q4 : u.cell? ⟨g, 4, none⟩ = some (.slice c.A c.n c.c) := HBK.out.cell 4; have q5 : u.cell? ⟨g, 5, none⟩ = some (.slice e.A e.n e.c) := HBK.out.cell 5
    go_upto_region 12 with (go_at_call 7; refine (HCP.out e le_ _ (HE.out.below HB.out)).mono ?_; rintro e6 u6 ⟨A9, c9, rfl, ho9, hb9⟩)
    clear q0 q1 q2 q3 q4 q5
    obtain ⟨g9, x9, hA9, hg9, -, hx9, hc9, hf9⟩ := ho9.at_ (k := at_) (by rw [HE.out.len]; exact HLT.out)
    subst hA9
    obtain rfl : x9 = d := by rw [HD.out] at hx9; exact (Option.some.inj hx9).symm
    have hl9 := (ho9.block_lt _ rfl).2
    change u6.cell? ⟨g9, at_, none⟩ = some (.int .u8 (byt x9)) at hc9
    have hbx : bits .xor .u8 (byt x9) 1 = byt (x9 ^^^ 1) := byt_xor x9 1
    have HO9 := Lib.hid (ho9.set at_ (x9 ^^^ 1))
    have HB9 := Lib.hid (bput hb9 (p := ⟨g9, at_, none⟩) hg9 (cB.enc (x9 ^^^ 1)))
    have HC9 := Lib.hid ho9.len_le
    clear hb9 hg9 hx9 ho9
    go_upto_region 13 with fail
    clear hc9 hf9 hl9
    change Hid (OS cB (u6.setCell ⟨g9, at_, none⟩ (.int .u8 (byt (x9 ^^^ 1)))) _ _ _ _) at HO9
    change Hid (Below _ _ (u6.setCell ⟨g9, at_, none⟩ (.int .u8 (byt (x9 ^^^ 1))))) at HB9
    generalize u6.setCell ⟨g9, at_, none⟩ (.int .u8 (byt (x9 ^^^ 1))) = u7 at *
    clear hbx
    replace HCO5 := Lib.hid (HCO5.out.below HB9.out); replace HCI5 := Lib.hid (fun i x hx => (HCI5.out i x hx).below HB9.out)
    replace HB := Lib.hid (bcall HB.out HB9.out); replace HBK := Lib.hid (HBK.out.below HB9.out HBK.out.lt)
    clear HB9
    have q0 : u7.cell? ⟨g, 0, none⟩ = some (.int .i64 k) := HBK.out.cell 0; have q1 : u7.cell? ⟨g, 1, none⟩ = some (.int .i64 dg) := HBK.out.cell 1; have q2 : u7.cell? ⟨g, 2, none⟩ = some (.slice a.A a.n a.c) := HBK.out.cell 2; have q3 : u7.cell? ⟨g, 3, none⟩ = some (.slice b.A b.n b.c) := HBK.out.cell 3; have q4 : u7.cell? ⟨g, 4, none⟩ = some (.slice c.A c.n c.c) := HBK.out.cell 4; have q5 : u7.cell? ⟨g, 5, none⟩ = some (.slice e.A e.n e.c) := HBK.out.cell 5
    go_wp2_with fail
    refine (H2.out u7 ⟨some ⟨g9, 0, none⟩, e.n, c9⟩ (HLQ.out u7 _ (HLIN.out u7 ((HA.out.below HB.out).linA (HBB.out.below HB.out) (HC.out.below HB.out) (HE.out.below HB.out) big dg)) (by rw [List.length_set]; exact HE.out.len) (by have h := HE.out.cap; show e.n ≤ _; omega) ⟨by have h := HC9.out.1; rw [HE.out.len] at h; exact h, by have h := HC9.out.2; unfold maxLen at h; exact h⟩ HO9.out.reads)).mono ?_
    rintro e7 u8 ⟨A6, c6, L6, rfl, hco6, hl6, hci6, hb6⟩
    clear q0 q1 q2 q3 q4 q5
    have HCO6 := Lib.hid hco6; have HL6 := Lib.hid hl6; have HCI6 := Lib.hid hci6
    replace HCO5 := Lib.hid (HCO5.out.below hb6); replace HCI5 := Lib.hid (fun i x hx => (HCI5.out i x hx).below hb6)
    replace HB := Lib.hid (bcall HB.out hb6); replace HBK := Lib.hid (HBK.out.below hb6 HBK.out.lt)
    clear hco6 hl6 hci6 hb6
    obtain ⟨g5, rfl⟩ := HCO5.out.wholeA (by rw [HL5.out]; exact Nat.succ_pos _)
    obtain ⟨g6, rfl⟩ := HCO6.out.wholeA (by rw [HL6.out]; exact Nat.succ_pos _)
    go_wp2_with fail
    go_loopw [11] (fun ix wr => ∃ j : Nat, j ≤ 4 ∧ ix = .int .i64 j ∧ Below u8.heap.size u8 wr) (fun ix _ => 4 - (intOf ix).toNat)
    case atStart => exact ⟨0, Nat.zero_le _, rfl, b0 u8⟩
    case round =>
      obtain ⟨j, hj, rfl, hbw⟩ := hrel
      have HBW := Lib.hid hbw
      clear hbw
      by_cases hlt : j < 4
      · obtain ⟨x, hx⟩ : ∃ x, L5[j]? = some x := ⟨_, List.getElem?_eq_getElem (by rw [HL5.out]; omega)⟩
        obtain ⟨y, hy⟩ : ∃ y, L6[j]? = some y := ⟨_, List.getElem?_eq_getElem (by rw [HL6.out]; omega)⟩
        have HX := Lib.hid ((HCI5.out j x hx).below HBW.out); have HY := Lib.hid ((HCI6.out j y hy).below HBW.out)
        have R5 := Lib.hid ((HCO5.out.below HBW.out).at_ hx); have R6 := Lib.hid ((HCO6.out.below HBW.out).at_ hy)
        have HLJ := Lib.hid hlt
        have HX5 := Lib.hid hx; have HY6 := Lib.hid hy
        obtain ⟨t1, t2, t3, t4⟩ := HQT.out
        have hqb : at_ / 128 % 4 < 4 := Nat.mod_lt _ (by decide)
        have hqa : at_ / 128 ≤ 140737488351232 := Nat.le_trans (Nat.div_le_self _ _) (Nat.le_trans (Nat.le_of_lt HLT.out) (by have h := HE.out.cap; omega))
        have HALJ := Lib.hid (fun W => HAL.out j x y W HLJ.out)
        obtain ⟨qa, hqa2⟩ : ∃ q, q = at_ / 128 := ⟨_, rfl⟩
        rw [← hqa2] at t1 t2 t3 t4 hqb hqa HALJ
        obtain ⟨ra, hra⟩ : ∃ q, q = qa % 4 := ⟨_, rfl⟩
        rw [← hra] at t2 t4 hqb HALJ
        have hne : ((((j : Int) != (ra : Int))) != ((j : Int) != (ra : Int))) = false := by simp
        have i9 : (j : Int) < 5 := by omega
        clear hx hy hqa2 hra
        go_upto_region 19 with fail
        refine wp_region_ords (fun w' => w'.rangeAt g5 (j * 6) x.cs.toList ∧ w'.rangeAt g6 (j * 6) y.cs.toList) (fun _ n h => h) (Ords.of [(0, 0), (0, 1), (0, 2), (0, 3), (0, 4), (0, 5), (0, 6), (0, 7), (0, 9), (0, 10), (0, 11), (0, 12), (0, 13), (0, 14), (0, 15), (2, 8), (0, 16)] .fin) (by kernel_rfl) rfl (by kernel_rfl) (by kernel_rfl) (fun c a d v w h => by cases d <;> exact h) ⟨R5.out, R6.out⟩ ?_
        iterate 3 (refine ords_pure rfl (fun K hK => ?_); go_simp; refine hK _ ?_; clear hK K)
        refine ords_held (v := Value.agg x.cs.toList.toArray) rfl rfl (fun w9 hS => pure_load_mid 34 (.tmp 95) rfl g5 (j * 6) rfl _ _ hS.1 hcu.out rfl (callA_size x)) ?_; go_simp
        iterate 3 (refine ords_pure rfl (fun K hK => ?_); go_simp; refine hK _ ?_; clear hK K)
        refine ords_held (v := Value.agg y.cs.toList.toArray) rfl rfl (fun w9 hS => pure_load_mid 34 (.tmp 99) rfl g6 (j * 6) rfl _ _ hS.2 hcu.out rfl (callA_size y)) ?_; go_simp
        iterate 7 (refine ords_pure rfl (fun K hK => ?_); go_simp; refine hK _ ?_; clear hK K)
        refine ords_loud rfl (fun n1 => ?_)
        replace HX := Lib.hid (HX.out.below (bdr (b0 _) n1)); replace HY := Lib.hid (HY.out.below (bdr (b0 _) n1))
        go_wp2_with (go_at_call 8; refine (HALJ.out _ HX.out HY.out).mono ?_; rintro e7 u9 ⟨rfl, hb7⟩)
        refine ⟨⟨((HCO5.out.below (bcall (bdr HBW.out n1) hb7)).at_ HX5.out), ((HCO6.out.below (bcall (bdr HBW.out n1) hb7)).at_ HY6.out)⟩, ?_⟩
        go_simp
        refine ords_pure rfl (fun K hK => ?_); go_simp; refine hK _ ?_; clear hK K
        refine ords_end (fun n2 => ?_)
        have HB7 := Lib.hid (bdr (bcall (bdr HBW.out n1) hb7) n2)
        go_wp2_with fail
        exact ⟨⟨j + 1, HLJ.out, num8 j, HB7.out⟩, measA j 4 HLJ.out⟩
      · obtain rfl : j = 4 := by omega
        obtain ⟨x, hx⟩ : ∃ x, L5[4]? = some x := ⟨_, List.getElem?_eq_getElem (by rw [HL5.out]; omega)⟩
        obtain ⟨y, hy⟩ : ∃ y, L6[4]? = some y := ⟨_, List.getElem?_eq_getElem (by rw [HL6.out]; omega)⟩
        have HX := Lib.hid ((HCI5.out _ x hx).below HBW.out); have HY := Lib.hid ((HCI6.out _ y hy).below HBW.out)
        have R5 := Lib.hid ((HCO5.out.below HBW.out).at_ hx); have R6 := Lib.hid ((HCO6.out.below HBW.out).at_ hy)
        obtain ⟨lx, kx⟩ := HLA.out 4 x wr HX.out rfl
        obtain ⟨ly, ky⟩ := HLAQ.out y wr HY.out
        have hsm : ∀ W, Below wr.heap.size wr W → Calls Try.prog 9 #[.slice x.b.A x.b.n x.b.c, .slice y.b.A y.b.n y.b.c] W (fun e w' => e = .returned (.bool true) ∧ ∃ n, w' = W.drewN n) := fun W hW =>
          (same_any x.b.A y.b.A x.b.c y.b.c (P.call 4).b (Q.call 4).b W.heap.size W.heap.size x.b.n y.b.n W HX.out.inn.bl HY.out.inn.bl (Nat.le_trans HX.out.inn.bc.1 HX.out.inn.bc.2) ((HX.out.inn.br.below hW).more hW.size) ((HY.out.inn.br.below hW).more hW.size)).mono fun _ _ ⟨q1, q2⟩ => ⟨q1.trans (by rw [decide_eq_true ((HQ.out 4).1.symm)]), q2⟩
        have HSM := Lib.hid hsm
        have cells : ∀ W : World, W.rangeAt g5 24 x.cs.toList → W.rangeAt g6 24 y.cs.toList → W.cell? ⟨g5, 25, none⟩ = some (.slice x.b.A x.b.n x.b.c) ∧ W.cell? ⟨g5, 26, none⟩ = some (.slice x.key.A 0 x.key.c) ∧ W.cell? ⟨g5, 27, none⟩ = some (.bool true) ∧ W.cell? ⟨g6, 25, none⟩ = some (.slice y.b.A y.b.n y.b.c) ∧ W.cell? ⟨g6, 26, none⟩ = some (.slice y.key.A 0 y.key.c) ∧ W.cell? ⟨g6, 27, none⟩ = some (.bool true) := fun W q1 q2 =>
          ⟨q1 1 _ rfl, (q1 2 _ rfl).trans (by rw [kx]), (q1 3 _ rfl).trans (by rw [lx]), q2 1 _ rfl, (q2 2 _ rfl).trans (by rw [ky]), (q2 3 _ rfl).trans (by rw [ly])⟩
        have CE := Lib.hid cells
        clear hx hy hlt hsm cells lx kx ly ky
        go_upto_region 21 with fail
        obtain ⟨z1, z2, z3, z4, z5, z6⟩ := CE.out wr R5.out R6.out
        refine wp_region_ords (fun w' => w'.rangeAt g5 24 x.cs.toList ∧ w'.rangeAt g6 24 y.cs.toList) (fun _ n h => h) (Ords.of [(0, 0), (0, 1), (0, 2), (0, 3), (0, 4), (0, 5), (0, 6), (0, 7), (0, 8), (0, 9), (2, 10), (0, 11), (0, 12), (0, 13), (0, 14), (0, 15), (0, 16), (0, 17), (0, 18), (0, 19), (0, 20), (0, 21), (0, 22), (0, 23), (0, 24), (0, 25), (0, 26), (0, 27), (0, 28), (0, 29), (0, 30), (0, 31), (0, 32), (0, 33), (0, 34), (0, 35), (0, 36), (0, 37), (0, 38), (0, 39), (0, 40), (0, 41), (0, 42), (0, 43)] .fin) (by kernel_rfl) rfl (by kernel_rfl) (by kernel_rfl) (fun c a d v w h => by cases d <;> exact h) ⟨R5.out, R6.out⟩ ?_
        iterate 2 (refine ords_pure rfl (fun K hK => ?_); go_simp; refine hK _ ?_; clear hK K; refine ords_pure rfl (fun K hK => ?_); go_simp; refine hK _ ?_; clear hK K; refine ords_pure rfl (fun K hK => ?_); go_simp; refine hK _ ?_; clear hK K; refine ords_pure rfl (fun K hK => ?_); go_simp; refine hK _ ?_; clear hK K; refine ords_heldK rfl (fun K K2 hK hK2 => ?_); go_simp; refine ⟨hK2 _ (fun w9 hS => ?_), hK _ ?_⟩; (clear hK hK2 K K2; obtain ⟨y1, y2, y3, y4, y5, y6⟩ := CE.out w9 hS.1 hS.2; clear hS; go_simp); (clear hK hK2 K K2))
        refine ords_loud rfl (fun n1 => ?_)
        go_wp2_with (go_at_call 9; refine (HSM.out _ (bdr (b0 _) n1)).mono ?_; rintro e8 u9 ⟨rfl, n9, rfl⟩)
        refine ⟨⟨R5.out, R6.out⟩, ?_⟩
        go_simp
        iterate 3 (refine ords_pure rfl (fun K hK => ?_); go_simp; refine hK _ ?_; clear hK K; refine ords_pure rfl (fun K hK => ?_); go_simp; refine hK _ ?_; clear hK K; refine ords_pure rfl (fun K hK => ?_); go_simp; refine hK _ ?_; clear hK K; refine ords_pure rfl (fun K hK => ?_); go_simp; refine hK _ ?_; clear hK K; refine ords_pure rfl (fun K hK => ?_); go_simp; refine hK _ ?_; clear hK K; refine ords_heldK rfl (fun K K2 hK hK2 => ?_); go_simp; refine ⟨hK2 _ (fun w9 hS => ?_), hK _ ?_⟩; (clear hK hK2 K K2; obtain ⟨y1, y2, y3, y4, y5, y6⟩ := CE.out w9 hS.1 hS.2; clear hS; go_simp); (clear hK hK2 K K2); refine ords_pure rfl (fun K hK => ?_); go_simp; refine hK _ ?_; clear hK K)
        iterate 7 (refine ords_pure rfl (fun K hK => ?_); go_simp; refine hK _ ?_; clear hK K)
        refine ords_heldK rfl (fun K K2 hK hK2 => ?_); go_simp; refine ⟨hK2 _ (fun w9 hS => ?_), hK _ ?_⟩; (clear hK hK2 K K2; obtain ⟨y1, y2, y3, y4, y5, y6⟩ := CE.out w9 hS.1 hS.2; clear hS; go_simp); (clear hK hK2 K K2)
        iterate 4 (refine ords_pure rfl (fun K hK => ?_); go_simp; refine hK _ ?_; clear hK K)
        refine ords_end (fun n2 => ?_)
        skip
        go_wp2_with fail
        exact bodyPost_ret (results_tmp rfl _ _ _) rfl ⟨rfl, bdr (bdr (bcall HB.out HBW.out) _) _⟩
theorem laneAlone_law (k dg at_ : Int) (a b c e : Sl) (la lb lc le_ : List UInt8) (w : World) (ha : SlIn w a la) (hb : SlIn w b lb) (hc : SlIn w c lc) (he : SlIn w e le_) :
    Calls Try.prog 3 #[.agg (planC k dg a b c e), .int .i64 at_] w fun r w' => r = .returned (.bool true) ∧ Below w.heap.size w w' := by
  by_cases hk : ∃ big, k = kOf big
  · obtain ⟨big, rfl⟩ := hk
    by_cases hok : (LP.mk big dg la lb lc le_).err = 0
    · by_cases hat : at_ < 0 ∨ (e.n : Int) ≤ at_
      · exact laneAlone_no (kOf big) dg at_ 0 a b c e la lb lc le_ w ha hb hc he
          (fun u h => (calls_any ⟨big, dg, la, lb, lc, le_⟩ a b c e u (h big dg) hok).mono fun _ _ ⟨A, cc, l, q1, _, _, _, q2⟩ => ⟨_, q1, q2⟩) (.inr hat)
      · obtain ⟨n, rfl⟩ : ∃ n : Nat, at_ = n := ⟨at_.toNat, by omega⟩
        have hn : n < le_.length := by rw [he.len]; omega
        exact laneAlone_ok (kOf big) big rfl dg a b c e la lb lc le_ n le_[n] w ha hb hc he hok (List.getElem?_eq_getElem hn)
    · exact laneAlone_no (kOf big) dg at_ (LP.mk big dg la lb lc le_).err a b c e la lb lc le_ w ha hb hc he
        (fun u h => (callsErr_any ⟨big, dg, la, lb, lc, le_⟩ a b c e u (h big dg) hok).mono fun _ _ ⟨q1, q2⟩ => ⟨_, q1, q2⟩) (.inl hok)
  · have h1 : k ≠ 1 := fun h => hk ⟨true, h⟩
    have h2 : k ≠ 2 := fun h => hk ⟨false, h⟩
    exact laneAlone_no k dg at_ 1 a b c e la lb lc le_ w ha hb hc he
      (fun u _ => (callsKind_any k _ _ _ _ _ h1 h2 u).mono fun _ _ ⟨q1, q2⟩ => ⟨_, q1, q2⟩) (.inl (by decide))
end Go.Proofs.Yteeacbkhmofbeaa

/-
  LaneRoots, the law. Contracts alone; no statement is claimed here.
-/
import Derived.Test.YtghpofnaojbbkaaLWri
import Derived.Test.YtghpofnaojbbkaaDecQ
import Derived.Test.YtghpofnaojbbkaaOpenL
import Derived.Test.YtghpofnaojbbkaaLaw8a

namespace Go.Proofs.Ytghpofnaojbbkaa
open Go.RowKit
attribute [local go_sem] pureUpon Ords.of

theorem callS_ok (big : Bool) (b key : List UInt8) (last : Bool) (m : Int) (data : List UInt8) (hb : blkOk big b) (hk : key.length = 0 ∨ key.length = fld b 1 1) (hm : 1 ≤ m ∧ m ≤ bOf big) :
    callS (kOf big) b key last m data = ((((startK big b key).feed data).out last).take m.toNat, 0) := by
  unfold callS
  have hk0 : ¬ (kOf big ≠ 1 ∧ kOf big ≠ 2) := by cases big <;> decide
  rw [if_neg hk0, kOf_is, mostOf_k, if_neg (fun h => h hb), if_neg (by omega), if_neg (by omega)]
theorem LP.dec (P : LP) (he : P.err = 0) (i : Nat) (hi : i ≤ lnOf P.big) : blkOk P.big (P.blk i) ∧ P.key.length = fld (P.blk i) 1 1 := by
  have hc := P.chk_eq i hi ⟨none, P.ls.length, 0⟩ ⟨none, P.lp.length, 0⟩ rfl rfl
  rw [he] at hc
  have h := dec_enc (big := P.big) (p := P.par i ⟨none, P.ls.length, 0⟩ ⟨none, P.lp.length, 0⟩) (ls := P.ls) (lp := P.lp) hc (P.fit i hi _ _) rfl rfl rfl
  rw [P.blk_eq] at h
  obtain ⟨h1, -, h3⟩ := h
  exact ⟨.inl h1, (Int.ofNat.inj h3).symm⟩
theorem LP.lane_out (P : LP) (he : P.err = 0) (i : Nat) (hi : i < lnOf P.big) : (P.lane i).out (kOf P.big) = (P.outOf (P.engs P.data) i, 0) := by
  obtain ⟨h1, h2⟩ := P.dec he i (Nat.le_of_lt hi)
  have hb := bOf_le P.big
  refine (callS_ok P.big (P.blk i) P.key _ _ _ h1 (.inr h2) (by show (1 : Int) ≤ (bOf P.big : Nat) ∧ ((bOf P.big : Nat) : Int) ≤ _; omega)).trans ?_
  unfold LP.outOf LP.engs LP.eng0
  rw [show P.nkey i = P.key from if_neg (by omega)]
  rfl
theorem LP.outs_eq (P : LP) (he : P.err = 0) : ∀ m, m ≤ lnOf P.big → P.outs m = catTo (P.outOf (P.engs P.data)) m
  | 0, _ => rfl
  | m + 1, h => by
    show P.outs m ++ ((P.lane m).out (kOf P.big)).1 = _
    rw [P.outs_eq he m (by omega), P.lane_out he m (by omega)]
    rfl
theorem LP.root_out (P : LP) (he : P.err = 0) : P.root.out (kOf P.big) = (P.dig, 0) := by
  obtain ⟨h1, h2⟩ := P.dec he (lnOf P.big) (Nat.le_refl _)
  obtain ⟨d, hd, hd1, hd2⟩ := LP.err_dig he
  refine (callS_ok P.big (P.blk (lnOf P.big)) [] _ _ _ h1 (.inl rfl) (by show 1 ≤ P.digest ∧ P.digest ≤ _; omega)).trans ?_
  unfold LP.dig LP.eng0
  rw [show P.nkey (lnOf P.big) = [] from if_pos rfl]
  show ((((startK P.big (P.blk (lnOf P.big)) []).feed (P.outs (lnOf P.big))).out true).take P.digest.toNat, (0 : Int)) = _
  rw [P.outs_eq he _ (Nat.le_refl _)]
theorem SlIn.linR {W : World} {a b c e : Sl} {la lb lc le_ : List UInt8} (ha : SlIn W a la) (hb : SlIn W b lb) (hc : SlIn W c lc) (he : SlIn W e le_) (big : Bool) (dg : Int) : LIn W ⟨big, dg, la, lb, lc, le_⟩ a b c e :=
  ⟨ha.len, hb.len, hc.len, he.len, by have := ha.cap; omega, by have := hb.cap; omega, by have := hc.cap; omega, by have := he.cap; omega, ⟨he.cap.1, by have := he.cap; omega⟩, ha.reads, hb.reads, hc.reads, he.reads⟩
theorem lcountS_any (w : World) :
    Calls Try.prog 7 #[.int .i64 2] w fun e w' => e = .returned (.tuple #[.int .i64 8, .int .i64 0]) ∧ Below w.heap.size w w' := by
  go_enter Try.func7, Try.ntmps7
  go_wp2_with (go_at_call 17; refine (of_small _).mono ?_; rintro e w1 ⟨rfl, hbw1⟩; (first | refine withN hbw1 ?_ | refine withD hbw1 ?_ | refine with0 hbw1 ?_); intro hcw1 hfw1)
  exact bodyPost_ret (results_tmp2 rfl _ _ _) rfl ⟨rfl, bal hbw1 _⟩
theorem lcountK_any (big : Bool) (w : World) :
    Calls Try.prog 7 #[.int .i64 (kOf big)] w fun e w' => e = .returned (.tuple #[.int .i64 (lnOf big : Nat), .int .i64 0]) ∧ Below w.heap.size w w' := by
  cases big
  · exact lcountS_any w
  · show Calls _ _ #[.int .i64 1] w _
    go_enter Try.func7, Try.ntmps7
    go_wp2_with (go_at_call 17; refine (of_big _).mono ?_; rintro e w1 ⟨rfl, hbw1⟩; (first | refine withN hbw1 ?_ | refine withD hbw1 ?_ | refine with0 hbw1 ?_); intro hcw1 hfw1)
    exact bodyPost_ret (results_tmp2 rfl _ _ _) rfl ⟨rfl, bal hbw1 _⟩
theorem alive8r_any (w : World) : Calls Try.prog 4 #[] w fun e w' => e = .returned (.bool true) ∧ Below w.heap.size w w' := by
  go_enter Try.func4, Try.ntmps4
  go_wp2_with (go_at_call 7; refine (lcountS_any _).mono ?_; rintro e w1 ⟨rfl, hbw1⟩; (first | refine withN hbw1 ?_ | refine withD hbw1 ?_ | refine with0 hbw1 ?_); intro hcw1 hfw1)
  exact bodyPost_ret (results_tmp rfl _ _ _) rfl ⟨rfl, hbw1⟩
set_option maxRecDepth 20000 in
set_option maxHeartbeats 4000000 in
theorem laneRoots_no (k dg E : Int) (a b c e : Sl) (la lb lc le_ : List UInt8) (w : World) (ha : SlIn w a la) (hb : SlIn w b lb) (hc : SlIn w c lc) (he : SlIn w e le_)
    (h1 : ∀ (u : World), (∀ big dg, LIn u ⟨big, dg, la, lb, lc, le_⟩ a b c e) → Calls Try.prog 5 #[.int .i64 k, .int .i64 dg, .slice a.A a.n a.c, .slice b.A b.n b.c, .slice c.A c.n c.c, .slice e.A e.n e.c] u fun r w' => ∃ v, r = .returned (.tuple #[v, .int .i64 E]) ∧ Below u.heap.size u w')
    (h2 : ∀ (u : World), (∀ big dg, LIn u ⟨big, dg, la, lb, lc, le_⟩ a b c e) → Calls Try.prog 6 #[.int .i64 k, .int .i64 dg, .slice a.A a.n a.c, .slice b.A b.n b.c, .slice c.A c.n c.c, .slice e.A e.n e.c] u fun r w' => ∃ v, r = .returned (.tuple #[v, .int .i64 E]) ∧ Below u.heap.size u w')
    (hE : E ≠ 0) :
    Calls Try.prog 3 #[.agg (planC k dg a b c e)] w fun r w' => r = .returned (.bool true) ∧ Below w.heap.size w w' := by
  have t1 : (E != 0) = true := by simpa using hE
  have t2 : (E == E) = true := by simp
  have H1 := Lib.hid h1; have H2 := Lib.hid h2; have HA := Lib.hid ha; have HBB := Lib.hid hb; have HC := Lib.hid hc; have HE := Lib.hid he
  clear h1 h2 ha hb hc he hE
  go_enter Try.func3, Try.ntmps3
  go_upto_region 1 with fail
  have HBK := Lib.hid (Blk.new w 24 (planC k dg a b c e))
  have HB := Lib.hid (bal (b0 w) (.cells (planC k dg a b c e) 24))
  obtain ⟨g, hg⟩ : ∃ g, g = w.heap.size := ⟨_, rfl⟩
  rw [← hg] at HBK ⊢
  have HG := Lib.hid hg
  clear hg
  generalize w.alloc (.cells (planC k dg a b c e) 24) = u at *
  go_wp2_with (go_at_call 4; refine (alive8r_any _).mono ?_; rintro e0 u ⟨rfl, hb0⟩; replace HB := Lib.hid (bcall HB.out hb0); replace HBK := Lib.hid (HBK.out.below hb0 HBK.out.lt); have q0 : u.cell? ⟨g, 0, none⟩ = some (.int .i64 k) := HBK.out.cell 0; have q1 : u.cell? ⟨g, 1, none⟩ = some (.int .i64 dg) := HBK.out.cell 1; have q2 : u.cell? ⟨g, 2, none⟩ = some (.slice a.A a.n a.c) := HBK.out.cell 2; have q3 : u.cell? ⟨g, 3, none⟩ = some (.slice b.A b.n b.c) := HBK.out.cell 3; have q4 : u.cell? ⟨g, 4, none⟩ = some (.slice c.A c.n c.c) := HBK.out.cell 4; have q5 : u.cell? ⟨g, 5, none⟩ = some (.slice e.A e.n e.c) := HBK.out.cell 5; clear hb0)
  refine (H1.out u (fun big dg => (HA.out.below HB.out).linR (HBB.out.below HB.out) (HC.out.below HB.out) (HE.out.below HB.out) big dg)).mono ?_
  rintro e5 u ⟨v, rfl, hb5⟩
  clear q0 q1 q2 q3 q4 q5
  replace HB := Lib.hid (bcall HB.out hb5); replace HBK := Lib.hid (HBK.out.below hb5 HBK.out.lt)
  have q0 : u.cell? ⟨g, 0, none⟩ = some (.int .i64 k) := HBK.out.cell 0; have q1 : u.cell? ⟨g, 1, none⟩ = some (.int .i64 dg) := HBK.out.cell 1; have q2 : u.cell? ⟨g, 2, none⟩ = some (.slice a.A a.n a.c) := HBK.out.cell 2; have q3 : u.cell? ⟨g, 3, none⟩ = some (.slice b.A b.n b.c) := HBK.out.cell 3; have q4 : u.cell? ⟨g, 4, none⟩ = some (.slice c.A c.n c.c) := HBK.out.cell 4; have q5 : u.cell? ⟨g, 5, none⟩ = some (.slice e.A e.n e.c) := HBK.out.cell 5
  clear hb5
  go_wp2_with fail
  refine (H2.out u (fun big dg => (HA.out.below HB.out).linR (HBB.out.below HB.out) (HC.out.below HB.out) (HE.out.below HB.out) big dg)).mono ?_
  rintro e6 u ⟨v6, rfl, hb6⟩
  clear q0 q1 q2 q3 q4 q5
  replace HB := Lib.hid (bcall HB.out hb6); replace HBK := Lib.hid (HBK.out.below hb6 HBK.out.lt)
  clear hb6
  go_wp2_with fail
  exact bodyPost_ret (results_tmp rfl _ _ _) rfl ⟨by simp, HB.out⟩
theorem CO.wholeR {w : World} {base c : Nat} {A : Option Addr} {l : List CC} (h : CO w base A c l) (hl : 0 < l.length) : ∃ g, A = some ⟨g, 0, none⟩ := by
  rcases h.form with ⟨_, _, h0⟩ | ⟨g, hg, _⟩
  · rw [h0] at hl; exact absurd hl (Nat.lt_irrefl _)
  · exact ⟨g, hg⟩
theorem callR_size (x : CC) : (Try.prog.info? 37).map (·.size) = some x.cs.toList.length := (callC_size x).trans rfl
theorem num5 (k : Nat) : Value.int .i64 ((k : Int) + 1) = .int .i64 ((k + 1 : Nat) : Int) := rfl
theorem measR (n k : Nat) (h : k < n) : n - (intOf (.int .i64 ((k : Int) + 1))).toNat < n - (intOf (.int .i64 (k : Int))).toNat := by simp [intOf]; omega
set_option maxRecDepth 20000 in
set_option maxHeartbeats 8000000 in
theorem laneRoots_ok (k : Int) (big : Bool) (hk : k = kOf big) (dg : Int) (a b c e : Sl) (la lb lc le_ : List UInt8) (w : World) (ha : SlIn w a la) (hb : SlIn w b lb) (hc : SlIn w c lc) (he : SlIn w e le_) (hok : (LP.mk big dg la lb lc le_).err = 0) :
    Calls Try.prog 3 #[.agg (planC k dg a b c e)] w fun r w' => r = .returned (.bool true) ∧ Below w.heap.size w w' := by
  obtain ⟨P, hP⟩ : ∃ P : LP, P = ⟨big, dg, la, lb, lc, le_⟩ := ⟨_, rfl⟩
  have hPb : P.big = big := by rw [hP]
  have hPd : P.digest = dg := by rw [hP]
  rw [← hP] at hok
  have hlin : ∀ u, LIn u ⟨big, dg, la, lb, lc, le_⟩ a b c e → LIn u P a b c e := fun u h => by rw [hP]; exact h
  have h1 := fun (u : World) (h : LIn u P a b c e) => calls_any P a b c e u h hok
  have h2 := fun (u : World) (h : LIn u P a b c e) => ldigest_any P hok a b c e u h
  have hdl := P.dig_len hok
  have hro := P.root_out hok
  have hlo := fun i hi => P.lane_out hok i hi
  have hol := P.outs_le
  have hos1 : ∀ i, i < lnOf big → P.outs (i + 1) = P.outs i ++ P.outOf (P.engs P.data) i := fun i hi => by
    show P.outs i ++ ((P.lane i).out (kOf P.big)).1 = _
    rw [P.lane_out hok i (by rw [hPb]; exact hi)]
  have hdr : P.root.data = P.outs (lnOf big) := by rw [← hPb]; rfl
  have hcr := P.call_root
  have hcl := fun i (hi : i < lnOf P.big) => P.call_lt hi
  have h88 := lnOf_pos P.big
  rw [hPb] at hro hlo h88 hcr hcl
  rw [hPb, hPd] at h1 h2
  rw [← hk] at h1 h2 hro hlo
  have hca := fun (x : CC) (i : Nat) (W : World) (h : CIn W k x (P.call i)) => callC_any k x (P.call i) W h
  obtain ⟨n, hn⟩ : ∃ n, n = lnOf big := ⟨_, rfl⟩
  have hct := fun W => lcountK_any big W
  rw [← hk] at hct
  rw [← hn] at hlo h88 hcr hcl hct h1 hos1 hdr
  have hln : (P.lane 0).out k = (P.outOf (P.engs P.data) 0, 0) := hlo 0 (by omega)
  obtain ⟨d, hd⟩ : ∃ d : Nat, d = dg.toNat := ⟨_, rfl⟩
  have hdd : dg = d := by rw [hd]; have := hdl; rw [hPd] at this; omega
  have hdl2 : P.dig.length = d := by rw [hPd, hdd] at hdl; exact Int.ofNat.inj hdl
  rw [← hd] at h2
  have hd64 : d ≤ 9223372036854775807 := by
    obtain ⟨x, q1, q2, q3⟩ := LP.err_dig hok
    have := bOf_le P.big
    rw [hPd, hdd] at q1
    have q4 : d = x := Int.ofNat.inj q1
    omega
  have HP := Lib.hid hP; have HRO := Lib.hid hro; have HLO := Lib.hid hlo; have HOL := Lib.hid hol; have HCR := Lib.hid hcr; have HCL := Lib.hid hcl; have HCA := Lib.hid hca; have HCT := Lib.hid hct; have HOS := Lib.hid hos1; have HDR := Lib.hid hdr
  have H1 := Lib.hid h1; have H2 := Lib.hid h2; have HA := Lib.hid ha; have HBB := Lib.hid hb; have HC := Lib.hid hc; have HE := Lib.hid he; have HLIN := Lib.hid hlin; have HDL := Lib.hid hdl2; have HDD := Lib.hid hdd
  clear h1 h2 ha hb hc he hlin hP hPb hPd hok hk hn hdl hro hlo hol hcr hcl hca hln hd hdl2 hdd hct hos1 hdr
  have hcu := Lib.hid Try.underlying37
  go_enter Try.func3, Try.ntmps3
  go_upto_region 1 with fail
  have HBK := Lib.hid (Blk.new w 24 (planC k dg a b c e))
  have HB := Lib.hid (bal (b0 w) (.cells (planC k dg a b c e) 24))
  obtain ⟨g, hg⟩ : ∃ g, g = w.heap.size := ⟨_, rfl⟩
  rw [← hg] at HBK ⊢
  have HG := Lib.hid hg
  clear hg
  generalize w.alloc (.cells (planC k dg a b c e) 24) = u at *
  go_wp2_with (go_at_call 4; refine (alive8r_any _).mono ?_; rintro e0 u ⟨rfl, hb0⟩; replace HB := Lib.hid (bcall HB.out hb0); replace HBK := Lib.hid (HBK.out.below hb0 HBK.out.lt); have q0 : u.cell? ⟨g, 0, none⟩ = some (.int .i64 k) := HBK.out.cell 0; have q1 : u.cell? ⟨g, 1, none⟩ = some (.int .i64 dg) := HBK.out.cell 1; have q2 : u.cell? ⟨g, 2, none⟩ = some (.slice a.A a.n a.c) := HBK.out.cell 2; have q3 : u.cell? ⟨g, 3, none⟩ = some (.slice b.A b.n b.c) := HBK.out.cell 3; have q4 : u.cell? ⟨g, 4, none⟩ = some (.slice c.A c.n c.c) := HBK.out.cell 4; have q5 : u.cell? ⟨g, 5, none⟩ = some (.slice e.A e.n e.c) := HBK.out.cell 5; clear hb0)
  refine (H1.out u (HLIN.out u ((HA.out.below HB.out).linR (HBB.out.below HB.out) (HC.out.below HB.out) (HE.out.below HB.out) big dg))).mono ?_
  rintro e5 u ⟨A5, c5, L5, rfl, hco5, hl5, hci5, hb5⟩
  clear q0 q1 q2 q3 q4 q5
  have HCO5 := Lib.hid hco5; have HL5 := Lib.hid hl5; have HCI5 := Lib.hid hci5
  replace HB := Lib.hid (bcall HB.out hb5); replace HBK := Lib.hid (HBK.out.below hb5 HBK.out.lt)
  clear hco5 hl5 hci5 hb5
  have q0 : u.cell? ⟨g, 0, none⟩ = some (.int .i64 k) := HBK.out.cell 0; have q1 : u.cell? ⟨g, 1, none⟩ = some (.int .i64 dg) := HBK.out.cell 1; have q2 : u.cell? ⟨g, 2, none⟩ = some (.slice a.A a.n a.c) := HBK.out.cell 2; have q3 : u.cell? ⟨g, 3, none⟩ = some (.slice b.A b.n b.c) := HBK.out.cell 3; have q4 : u.cell? ⟨g, 4, none⟩ = some (.slice c.A c.n c.c) := HBK.out.cell 4; have q5 : u.cell? ⟨g, 5, none⟩ = some (.slice e.A e.n e.c) := HBK.out.cell 5
  go_wp2_with fail
  refine (H2.out u (HLIN.out u ((HA.out.below HB.out).linR (HBB.out.below HB.out) (HC.out.below HB.out) (HE.out.below HB.out) big dg))).mono ?_
  rintro e6 u6 ⟨A6, c6, rfl, ho6, hb6⟩
  clear q0 q1 q2 q3 q4 q5
  have HO6 := Lib.hid ho6
  replace HCO5 := Lib.hid (HCO5.out.below hb6); replace HCI5 := Lib.hid (fun i x hx => (HCI5.out i x hx).below hb6)
  replace HB := Lib.hid (bcall HB.out hb6); replace HBK := Lib.hid (HBK.out.below hb6 HBK.out.lt)
  clear ho6 hb6
  have q0 : u6.cell? ⟨g, 0, none⟩ = some (.int .i64 k) := HBK.out.cell 0
  obtain ⟨g5, rfl⟩ := HCO5.out.wholeR (by rw [HL5.out]; exact Nat.succ_pos _)
  have hne : (((n + 1 : Nat) : Int) != (n : Int) + 1) = false := by simp
  have hn1 : IntKind.i64.wrap ((n : Int) + 1) = (n : Int) + 1 := by simp [IntKind.wrap, IntKind.bits, IntKind.signed]; omega
  go_upto_region 8 with (go_at_call 7; refine (HCT.out _).mono ?_; rintro e7 u ⟨rfl, hb7⟩)
  clear q0
  replace HCO5 := Lib.hid (HCO5.out.below hb7); replace HCI5 := Lib.hid (fun i x hx => (HCI5.out i x hx).below hb7); replace HO6 := Lib.hid (HO6.out.below hb7 (Nat.le_refl _))
  replace HB := Lib.hid (bcall HB.out hb7); replace HBK := Lib.hid (HBK.out.below hb7 HBK.out.lt)
  clear hb7
  clear hne hn1
  go_wp2_with fail
  go_loopw [9, 10, 11, 12] (fun all ix s1 e1 wr => ∃ (j z : Nat) (A : Option Addr) (c : Nat), j ≤ n ∧ ix = .int .i64 j ∧ all = .slice A z c ∧ (P.outs j).length = z ∧ OS cB wr u.heap.size A c (P.outs j) ∧ Below u.heap.size u wr) (fun _ ix _ _ _ => n - (intOf ix).toNat)
  case atStart => exact ⟨0, 0, none, 0, Nat.zero_le _, rfl, rfl, rfl, OS.nil _ _ 0 rfl, b0 u⟩
  case round =>
    obtain ⟨j, z, A, co, hj, rfl, rfl, hz, hos, hbw⟩ := hrel
    have HO := Lib.hid hos; have HBW := Lib.hid hbw; have HZ := Lib.hid hz
    have hzl : z ≤ 512 := by rw [← hz]; have := HOL.out j; omega
    clear hos hbw hz
    by_cases hlt : j < n
    · have HJ := Lib.hid hlt
      have d1 : decide ((j : Int) < (n : Int)) = true := by simp; omega
      have i9 : (j : Int) < ((n + 1 : Nat) : Int) := by omega
      obtain ⟨x, hx⟩ : ∃ x, L5[j]? = some x := ⟨_, List.getElem?_eq_getElem (by rw [HL5.out]; omega)⟩
      have hcx := HCA.out x j wr ((HCI5.out j x hx).below HBW.out)
      rw [HCL.out j hlt, HLO.out j hlt] at hcx
      dsimp only at hcx
      have HCX := Lib.hid hcx
      have hr5 := (HCO5.out.below HBW.out).at_ hx
      have z0 : wr.cell? ⟨g5, j * 6, none⟩ = some (.int .i64 x.k) := hr5 0 _ rfl
      have z1 : wr.cell? ⟨g5, j * 6 + 1, none⟩ = some (.slice x.b.A x.b.n x.b.c) := hr5 1 _ rfl
      have z2 : wr.cell? ⟨g5, j * 6 + 2, none⟩ = some (.slice x.key.A x.key.n x.key.c) := hr5 2 _ rfl
      have z3 : wr.cell? ⟨g5, j * 6 + 3, none⟩ = some (.bool x.last) := hr5 3 _ rfl
      have z4 : wr.cell? ⟨g5, j * 6 + 4, none⟩ = some (.int .i64 x.m) := hr5 4 _ rfl
      have z5 : wr.cell? ⟨g5, j * 6 + 5, none⟩ = some (.slice x.data.A x.data.n x.data.c) := hr5 5 _ rfl
      clear hj hlt hcx hr5 hx
      go_upto_region 15 with fail
      refine HCX.out.mono ?_
      rintro r7 w7 ⟨A7, n7, c7, cc7, rfl, hl7, hn7, ho7, hb7⟩
      have hzn : z + n7 ≤ 576 := by
        have h1 := HOL.out (j + 1)
        rw [HOS.out j HJ.out, List.length_append, HZ.out, hl7] at h1
        omega
      have HO7 := Lib.hid (HO.out.below hb7 (Nat.le_refl _)); have HS7 := Lib.hid ho7; have HW7 := Lib.hid (bcall HBW.out hb7); have HL7 := Lib.hid hl7
      have HZ7 := Lib.hid HW7.out.size
      clear hl7 ho7 hb7 z0 z1 z2 z3 z4 z5
      clear HCX HO HBW
      go_wp2_with (refine wpList_appS _ cB_ok rfl (.tmp 83) (.tmp 84) rfl HO7.out rfl HZ.out HS7.out.reads rfl HL7.out (by show (z + n7) * 1 ≤ _; omega) (by omega) HZ7.out ?_; intro A8 c8 w8 ho8 hg8 hA8)
      exact ⟨⟨j + 1, z + n7, A8, c8, HJ.out, num5 j, rfl, by rw [HOS.out j HJ.out, List.length_append, HZ.out, HL7.out], by rw [HOS.out j HJ.out]; exact ho8, below_app HW7.out HO7.out hg8 (Nat.le_refl _) HZ7.out⟩, measR n j HJ.out⟩
    · obtain rfl : j = n := by omega
      have d1 : decide ((j : Int) < (j : Int)) = false := by simp
      have i9 : (j : Int) < ((j + 1 : Nat) : Int) := by omega
      obtain ⟨x, hx⟩ : ∃ x, L5[j]? = some x := ⟨_, List.getElem?_eq_getElem (by rw [HL5.out]; omega)⟩
      have hxi := (HCI5.out j x hx).below HBW.out
      have hcx := HCA.out x j wr hxi
      rw [HCR.out] at hcx hxi
      rw [HRO.out] at hcx
      dsimp only at hcx
      have HCX := Lib.hid hcx; have HXI := Lib.hid hxi; have HX := Lib.hid hx
      have hr5 := (HCO5.out.below HBW.out).at_ hx
      have z0 : wr.cell? ⟨g5, j * 6, none⟩ = some (.int .i64 x.k) := hr5 0 _ rfl
      have z1 : wr.cell? ⟨g5, j * 6 + 1, none⟩ = some (.slice x.b.A x.b.n x.b.c) := hr5 1 _ rfl
      have z2 : wr.cell? ⟨g5, j * 6 + 2, none⟩ = some (.slice x.key.A x.key.n x.key.c) := hr5 2 _ rfl
      have z3 : wr.cell? ⟨g5, j * 6 + 3, none⟩ = some (.bool x.last) := hr5 3 _ rfl
      have z4 : wr.cell? ⟨g5, j * 6 + 4, none⟩ = some (.int .i64 x.m) := hr5 4 _ rfl
      have z5 : wr.cell? ⟨g5, j * 6 + 5, none⟩ = some (.slice x.data.A x.data.n x.data.c) := hr5 5 _ rfl
      clear hj hlt hcx hr5 hx hxi
      go_upto_region 19 with fail
      refine HCX.out.mono ?_
      rintro r7 w7 ⟨A7, n7, c7, cc7, rfl, hl7, hn7, ho7, hb7⟩
      have hr5 := ((HCO5.out.below HBW.out).below hb7).at_ HX.out
      clear z0 z1 z2 z3 z4 z5
      have z5 : w7.cell? ⟨g5, j * 6 + 5, none⟩ = some (.slice x.data.A x.data.n x.data.c) := hr5 5 _ rfl
      have hW7 := bcall HBW.out hb7
      have q1 : w7.cell? ⟨g, 1, none⟩ = some (.int .i64 dg) := (HBK.out.below hW7 HBK.out.lt).cell 1
      have tdd : ((d : Int) == dg) = true := by rw [HDD.out]; simp
      have hs1 : ∀ W, Below w7.heap.size w7 W → Calls Try.prog 9 #[.slice A7 n7 cc7, .slice A6 d d] W (fun e w' => e = .returned (.bool true) ∧ ∃ n, w' = W.drewN n) := fun W hW =>
        (same_any A7 A6 cc7 d P.dig P.dig W.heap.size W.heap.size n7 d W hl7 HDL.out (by rw [← hl7, HDL.out]; exact hd64) ((ho7.reads.below hW).more hW.size) ((HO6.out.below (bcall hW7 hW) (Nat.le_refl _)).reads)).mono fun _ _ ⟨q1, q2⟩ => ⟨q1.trans (by rw [decide_eq_true rfl]), q2⟩
      have hdx := HXI.out.inn.below hb7
      have hs2 : ∀ W, Below w7.heap.size w7 W → Calls Try.prog 9 #[.slice A z co, .slice x.data.A x.data.n x.data.c] W (fun e w' => e = .returned (.bool true) ∧ ∃ n, w' = W.drewN n) := fun W hW =>
        (same_any A x.data.A co x.data.c (P.outs j) P.root.data W.heap.size W.heap.size z x.data.n W HZ.out hdx.dl (by omega) ((HO.out.below (hb7.trans (hW.mono hb7.size)) (Nat.le_refl _)).reads) ((hdx.dr.below hW).more hW.size)).mono fun _ _ ⟨q1, q2⟩ => ⟨q1.trans (by rw [decide_eq_true HDR.out.symm]), q2⟩
      have HS1 := Lib.hid hs1; have HS2 := Lib.hid hs2; have HW7 := Lib.hid hW7
      clear hs1 hs2 hW7 hr5 hl7 ho7 hb7 hdx hn7
      go_wp2_with fail
      refine (HS1.out _ (b0 _)).mono ?_
      rintro e8 u8 ⟨rfl, n8, rfl⟩
      go_wp2_with fail
      refine (HS2.out _ (bdr (b0 _) _)).mono ?_
      rintro e9 u9 ⟨rfl, n9, rfl⟩
      go_wp2_with fail
      exact bodyPost_ret (results_tmp rfl _ _ _) rfl ⟨by simp, bdr (bcall HB.out HW7.out) _⟩
theorem laneRoots_law (k dg : Int) (a b c e : Sl) (la lb lc le_ : List UInt8) (w : World) (ha : SlIn w a la) (hb : SlIn w b lb) (hc : SlIn w c lc) (he : SlIn w e le_) :
    Calls Try.prog 3 #[.agg (planC k dg a b c e)] w fun r w' => r = .returned (.bool true) ∧ Below w.heap.size w w' := by
  by_cases hk : ∃ big, k = kOf big
  · obtain ⟨big, rfl⟩ := hk
    by_cases hok : (LP.mk big dg la lb lc le_).err = 0
    · exact laneRoots_ok (kOf big) big rfl dg a b c e la lb lc le_ w ha hb hc he hok
    · exact laneRoots_no (kOf big) dg (LP.mk big dg la lb lc le_).err a b c e la lb lc le_ w ha hb hc he
        (fun u h => (callsErr_any ⟨big, dg, la, lb, lc, le_⟩ a b c e u (h big dg) hok).mono fun _ _ ⟨q1, q2⟩ => ⟨_, q1, q2⟩)
        (fun u h => (ldigestErr_any (kOf big) (.int .i64 dg) _ _ _ (.slice e.A e.n e.c) _ hok u (lnewErr_any ⟨big, dg, la, lb, lc, le_⟩ a b c e u (h big dg) hok)).mono fun _ _ ⟨q1, q2⟩ => ⟨_, q1, q2⟩) hok
  · have h1 : k ≠ 1 := fun h => hk ⟨true, h⟩
    have h2 : k ≠ 2 := fun h => hk ⟨false, h⟩
    exact laneRoots_no k dg 1 a b c e la lb lc le_ w ha hb hc he
      (fun u _ => (callsKind_any k _ _ _ _ _ h1 h2 u).mono fun _ _ ⟨q1, q2⟩ => ⟨_, q1, q2⟩)
      (fun u _ => (ldigestErr_any k (.int .i64 dg) _ _ _ (.slice e.A e.n e.c) 1 (by decide) u (lnewKind_any k _ _ _ _ h1 h2 u)).mono fun _ _ ⟨q1, q2⟩ => ⟨_, q1, q2⟩) (by decide)
end Go.Proofs.Ytghpofnaojbbkaa

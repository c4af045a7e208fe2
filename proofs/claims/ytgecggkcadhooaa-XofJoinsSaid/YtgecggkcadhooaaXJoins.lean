/-
  XofJoins' law. Contracts alone; no statement is claimed here.
-/
import Derived.Test.YtgecggkcadhooaaXSkips
namespace Go.Proofs.Ytgecggkcadhooaa
open Go.RowKit
attribute [local go_sem] pureUpon Ords.of

/-- a stream of which pos bytes were read, none yet or some -/
def XAn (w : World) (p : Nat) (m : Xm) (msg : List UInt8) (pos : Nat) (F : List Nat) : Prop := (pos = 0 ∧ XTk w p m msg F) ∨ XGv w p m (m.root msg) pos F
section
variable {w w' : World} {p : Nat} {m : Xm} {msg : List UInt8} {pos : Nat} {F G : List Nat}
theorem XAn.lt (h : XAn w p m msg pos F) : ∀ k, k ∈ F → k < w.heap.size := h.elim (fun h => h.2.lt) (fun h => h.lt)
theorem XAn.here (h : XAn w p m msg pos F) : p ∈ F := h.elim (fun h => h.2.here) (fun h => h.here)
theorem XAn.but (h : XAn w p m msg pos F) (hb : But G w w') (hd : ∀ k, k ∈ F → k ∉ G) : XAn w' p m msg pos F := h.elim (fun h => .inl ⟨h.1, h.2.but hb hd⟩) (fun h => .inr (h.but hb hd))
theorem XAn.below (h : XAn w p m msg pos F) (hb : Below w.heap.size w w') : XAn w' p m msg pos F := h.but (But.of hb []) (fun _ _ hm => by cases hm)
theorem XAn.posle (h : XAn w p m msg pos F) : pos ≤ m.T := h.elim (fun h => by rw [h.1]; exact Nat.zero_le _) (fun h => h.posle)
theorem XAn.read (hX : XAn w p m msg pos F) (hm : m.Ok) (n : Nat) (hn : n ≤ 65536) :
    Calls Try.prog 13 #[.pointer (some ⟨p, 0, none⟩), .int .i64 n] w fun r w' => ∃ A k cc, r = .returned (.tuple #[.slice A k cc, .int .i64 (m.readS (m.root msg) pos n).2]) ∧ (m.readS (m.root msg) pos n).1.length = k ∧ k ≤ cc ∧ OS cB w' w.heap.size A cc (m.readS (m.root msg) pos n).1 ∧
      ∃ F', XGv w' p m (m.root msg) (pos + k) F' ∧ Fresh F F' w ∧ But [p] w w' ∧ (∀ a, A = some a → a.block ∉ F') := by
  rcases hX with ⟨rfl, h⟩ | h
  · exact h.read hm n hn
  · exact h.read hm h.posle n hn
end
theorem XGv.left {p : Nat} {m : Xm} {root : List UInt8} {pos : Nat} {F : List Nat} {w : World} (hX : XGv w p m root pos F) (hm : m.Ok) : Calls Try.prog 15 #[.pointer (some ⟨p, 0, none⟩)] w fun r w' => r = .returned (.int .u64 ((m.T - pos : Nat) : Int)) ∧ Below w.heap.size w w' := by
  have h1 := hX.posle
  have h2 := hm.T37
  obtain ⟨wr, e, cs, Ak, ck, s, pp, q, F0, Ar, cr, hv, now, h, rfl⟩ := hX
  have e : xTotal (kOf m.big) m.len - (pos : Int) = ((m.T - pos : Nat) : Int) := by rw [hm.T]; omega
  rw [← e]
  exact xleft_any p _ _ _ _ _ _ _ _ _ _ pos _ _ _ _ _ cs w h.blk h.xc (by rw [e]; omega)
/-- what a Read gives goes on where the last one ended -/
theorem Xm.readS_on {m : Xm} (root : List UInt8) (pos n : Nat) (h : pos ≤ m.T) : m.row root 0 pos ++ (m.readS root pos n).1 = m.row root 0 (pos + (m.readS root pos n).1.length) ∧ pos + (m.readS root pos n).1.length ≤ m.T ∧ (m.readS root pos n).1.length ≤ n ∧ ((m.readS root pos n).2 = 0 ∨ ((m.readS root pos n).2 = 70 ∧ pos = m.T ∧ 0 < n)) ∧ (m.T - pos ≤ n → pos + (m.readS root pos n).1.length = m.T) := by
  unfold Xm.readS
  by_cases h0 : 0 < n ∧ m.T - pos = 0
  · rw [if_pos h0]
    refine ⟨by simp, by simpa using h, Nat.zero_le _, .inr ⟨rfl, by omega, h0.1⟩, fun _ => by simp; omega⟩
  · rw [if_neg h0]
    dsimp only
    rw [Xm.row_len]
    refine ⟨?_, by omega, Nat.min_le_left _ _, .inl rfl, fun _ => by omega⟩
    rw [Xm.row_add, Nat.zero_add]
/-- a stream of n bytes, of no salts -/
def plainM (big : Bool) (n : Nat) (key : List UInt8) : Xm := ⟨big, n, key, [], []⟩
theorem plainM_T {big : Bool} {n : Nat} {key : List UInt8} (h : (plainM big n key).Ok) : (plainM big n key).T = n := by
  have h1 := h.T
  have e : xTotal (kOf (plainM big n key).big) (plainM big n key).len = (n : Int) := if_neg (show ((n : Nat) : Int) ≠ -1 by omega)
  rw [e] at h1
  omega
theorem len_of (l : Nat) (h : l ≤ 65535) : ∃ n : Nat, 1 ≤ n ∧ n ≤ 2000 ∧ n = 1 + l % 2000 ∧ IntKind.u16.wrap ((l : Int) % 2000) = ((l % 2000 : Nat) : Int) ∧ ((l : Int) % 2000) = ((l % 2000 : Nat) : Int) ∧ (l : Int).tmod 2000 = ((l % 2000 : Nat) : Int) ∧ wrap64 (((l % 2000 : Nat) : Int)) = ((l % 2000 : Nat) : Int) ∧ wrap64 (1 + ((l % 2000 : Nat) : Int)) = n ∧ (1 + ((l % 2000 : Nat) : Int)) = n := by
  refine ⟨1 + l % 2000, by omega, by omega, rfl, ?_, by omega, ?_, ?_, ?_, by omega⟩
  · simp [IntKind.wrap, IntKind.bits, IntKind.signed]; omega
  · rw [Int.tmod_eq_emod_of_nonneg (by omega)]; omega
  · unfold wrap64; omega
  · unfold wrap64; omega
/-- who is to blame where New refuses -/
theorem blame (k : Int) (len : Int) (nk : Nat) (hl : len = -1 ∨ (1 ≤ len ∧ len ≤ 2000)) (hv : xValid k len nk noSl noSl ≠ 0) : ((k != 1) = true ∧ (k != 2) = true) ∨ ((k != 1) = false ∧ decide ((64 : Int) < (nk : Int)) = true) ∨ ((k != 1) = true ∧ (k != 2) = false ∧ (k == 2) = true ∧ decide ((32 : Int) < (nk : Int)) = true ∧ (decide ((64 : Int) < (nk : Int)) = true ∨ decide ((64 : Int) < (nk : Int)) = false)) := by
  have hval := xValid_plain k len nk hl
  by_cases h1 : k = 1
  · subst h1
    refine .inr (.inl ⟨rfl, ?_⟩)
    by_cases h2 : mostOf 1 < nk
    · have : (64 : Int) < nk := h2
      simp; omega
    · rw [hval, if_neg (by simp), if_neg h2] at hv; exact absurd rfl hv
  · by_cases h2 : k = 2
    · subst h2
      refine .inr (.inr ⟨rfl, rfl, rfl, ?_, ?_⟩)
      · by_cases h2 : mostOf 2 < nk
        · have : (32 : Int) < nk := h2
          simp; omega
        · rw [hval, if_neg (by simp), if_neg h2] at hv; exact absurd rfl hv
      · cases decide ((64 : Int) < (nk : Int)) <;> simp
    · exact .inl ⟨by simpa using h1, by simpa using h2⟩
set_option maxRecDepth 100000 in
set_option maxHeartbeats 4000000 in
theorem xofJoinsNo (k : Int) (key data : List UInt8) (Ak Ad As : Option Addr) (nk ck nd cd ns cs : Nat) (l : Nat) (hl : l ≤ 65535) (w : World) (hk : key.length = nk) (hrk : RS cB w w.heap.size Ak key) (hd : data.length = nd) (hnd : nd ≤ cd) (hcd : cd ≤ 9223372036854775807) (hrd : RS cB w w.heap.size Ad data)
    (hv : xValid k (((1 + l % 2000 : Nat)) : Int) nk noSl noSl ≠ 0) :
    Calls Try.prog 3 #[.int .i64 k, .int .u16 l, .slice Ak nk ck, .slice Ad nd cd, .slice As ns cs] w fun e w' => e = .returned (.bool true) ∧ Below w.heap.size w w' := by
  obtain ⟨n, h1, h2, h3, v1, v2, v3, v4, v5, v6⟩ := len_of l hl
  have V1 := Lib.hid v1; have V2 := Lib.hid v2; have V3 := Lib.hid v3; have V4 := Lib.hid v4; have V5 := Lib.hid v5; have V6 := Lib.hid v6
  clear v1 v2 v3 v4 v5 v6
  rw [← h3] at hv
  have haw := fun W => awake7_any W
  have hnw := fun W => xnewBad_any k n Ak nk ck noSl noSl W hv
  have htk := fun W hrk hrd => xTake_any k n key data Ak Ad nk ck nd cd 0 n W hk hrk hd hnd hcd hrd (by omega)
  rw [takeS_bad (by rw [hk]; exact hv), hk] at htk
  have cs0 := blame k n nk (.inr ⟨by omega, by omega⟩) hv
  generalize xValid k n nk noSl noSl = x at *
  unfold Sl.v noSl at hnw
  have t0 : (x != 0) = true := by simpa using hv
  have t00 : (x == 0) = false := by simpa using hv
  have HAW := Lib.hid haw; have HNW := Lib.hid hnw; have HTK := Lib.hid htk; have HRK := Lib.hid hrk; have HRD := Lib.hid hrd; clear haw hnw htk hrk hrd hv hk hd hnd hcd h1 h2 h3 hl
  have v1 := V1.out; have v2 := V2.out; have v3 := V3.out; have v4 := V4.out; have v5 := V5.out; have v6 := V6.out
  clear V1 V2 V3 V4 V5 V6
  generalize l % 2000 = lr at *
  rcases cs0 with ⟨t1, t2⟩ | ⟨t1, t2⟩ | ⟨t1, t2, t3, t4, t5 | t5⟩
  all_goals
    go_enter Try.func3, Try.ntmps3
    go_wp2_with (go_at_call 9; refine (HAW.out _).mono ?_; rintro e1 w1 ⟨rfl, hb1⟩; have HB1 := Lib.hid hb1; clear hb1)
    refine (HNW.out _).mono ?_
    rintro e2 w2 ⟨rfl, hb2⟩
    have HB2 := Lib.hid (bcall HB1.out hb2); clear hb2
    go_wp2_with fail
    refine (HTK.out _ ((HRK.out.below HB2.out).more HB2.out.size) ((HRD.out.below HB2.out).more HB2.out.size)).mono ?_
    rintro e3 w3 ⟨A3, j3, cc3, rfl, hl3, -, -, hb3⟩
    obtain rfl : j3 = 0 := hl3.symm
    have HB3 := Lib.hid (bcall HB2.out hb3); clear hb3 hl3
    go_wp2_with fail
    exact bodyPost_ret (results_tmp rfl _ _ _) rfl ⟨rfl, HB3.out⟩
theorem j_next (j ns : Nat) (h : j < ns) (h2 : ns ≤ 140737488351232) : wrap64 ((j : Int) + 1) = ((j + 1 : Nat) : Int) := by unfold wrap64; omega
/-- what stands while the pieces are read: got is what was read so far -/
structure JRel (w w4 wr : World) (m : Xm) (g : Nat) (data root : List UInt8) (n : Nat) (A3 : Option Addr) (c3 B3 : Nat) (F : List Nat) (A : Option Addr) (pos c : Nat) : Prop where
  got : OS cB wr w4.heap.size A c (m.row root 0 pos)
  x : XAn wr g m data pos F
  low : ∀ k, k ∈ F → w.heap.size ≤ k
  far : ∀ a, A = some a → a.block ∉ F
  want : OS cB wr B3 A3 c3 (m.row root 0 n)
  farw : ∀ a, A3 = some a → a.block ∉ F
  bel : Below w.heap.size w wr
  sz : w4.heap.size ≤ wr.heap.size
set_option maxRecDepth 100000 in
set_option maxHeartbeats 8000000 in
theorem xofJoinsYes (big : Bool) (key data sizes : List UInt8) (Ak Ad As : Option Addr) (nk ck nd cd ns cs : Nat) (l : Nat) (hl : l ≤ 65535) (w : World) (hk : key.length = nk) (hrk : RS cB w w.heap.size Ak key) (hd : data.length = nd) (hnd : nd ≤ cd) (hcd : cd ≤ 9223372036854775807) (hrd : RS cB w w.heap.size Ad data)
    (hs : sizes.length = ns) (hns : ns ≤ 140737488351232) (hrs : RS cB w w.heap.size As sizes) (hv : xValid (kOf big) (((1 + l % 2000 : Nat)) : Int) nk noSl noSl = 0) :
    Calls Try.prog 3 #[.int .i64 (kOf big), .int .u16 l, .slice Ak nk ck, .slice Ad nd cd, .slice As ns cs] w fun e w' => e = .returned (.bool true) ∧ Below w.heap.size w w' := by
  obtain ⟨n, h1, h2, h3, v1, v2, v3, v4, v5, v6⟩ := len_of l hl
  have V1 := Lib.hid v1; have V2 := Lib.hid v2; have V3 := Lib.hid v3; have V4 := Lib.hid v4; have V5 := Lib.hid v5; have V6 := Lib.hid v6
  clear v1 v2 v3 v4 v5 v6
  rw [← h3] at hv
  have hm : (plainM big n key).Ok := Xm.Ok.of (m := plainM big n key) (s := noSl) (p := noSl) rfl rfl (by show xValid (kOf big) n key.length noSl noSl = 0; rw [hk]; exact hv)
  have hT := plainM_T hm
  have haw := fun W => awake7_any W
  have hnw := fun W hrk => xNew (plainM big n key) hm Ak nk ck noSl noSl W rfl rfl (RS.nil _) (RS.nil _) hk hrk
  change ∀ W, RS cB W W.heap.size Ak key → Calls _ _ #[.int .i64 (kOf big), .int .i64 n, _, _, _] W _ at hnw
  unfold Sl.v noSl at hnw
  have htk := fun W hrk hrd => xTake_any (kOf big) n key data Ak Ad nk ck nd cd 0 n W hk hrk hd hnd hcd hrd (by decide)
  rw [takeS_ok (m := plainM big n key) (by rw [kOf_is]; rfl) (by rw [hk]; exact hv) (by omega) (by rw [hT]; omega), hT, show ((n : Nat) : Int).toNat = n from rfl, Nat.sub_zero, Nat.min_self] at htk
  have hsame := fun (A1 A2 : Option Addr) (c1 c2 n1 n2 : Nat) (l1 l2 : List UInt8) W h1 h2 hm r1 r2 => same7_any A1 A2 c1 c2 l1 l2 n1 n2 W h1 h2 hm r1 r2
  generalize plainM big n key = m at *
  have hrl := m.row_len (m.root data) 0 n
  have HAW := Lib.hid haw; have HNW := Lib.hid hnw; have HTK := Lib.hid htk; have HM := Lib.hid hm; have HT := Lib.hid hT; have HSM := Lib.hid hsame; have HRL := Lib.hid hrl; have HRK := Lib.hid hrk; have HRD := Lib.hid hrd; have HRS := Lib.hid hrs; have HD := Lib.hid hd; have HS := Lib.hid hs; have HND := Lib.hid hnd; have HCD := Lib.hid hcd; have HNS := Lib.hid hns; have HN := Lib.hid (And.intro h1 h2); have HWN := Lib.hid (show IntKind.u64.wrap (n : Int) = (n : Int) from by rw [wrap_u64]; omega)
  clear haw hnw htk hm hT hsame hrl hrk hrd hrs hd hs hnd hcd hns hv hk h1 h2 h3 hl
  have v1 := V1.out; have v2 := V2.out; have v3 := V3.out; have v4 := V4.out; have v5 := V5.out; have v6 := V6.out
  clear V1 V2 V3 V4 V5 V6
  generalize l % 2000 = lr at *
  generalize kOf big = kk at *
  go_enter Try.func3, Try.ntmps3
  go_wp2_with (go_at_call 9; refine (HAW.out _).mono ?_; rintro e1 w1 ⟨rfl, hb1⟩; have HB1 := Lib.hid hb1; clear hb1)
  refine (HNW.out _ ((HRK.out.below HB1.out).more HB1.out.size)).mono ?_
  rintro e2 w2 ⟨g, F, rfl, hX2, hF2, hb2⟩
  have HB2 := Lib.hid (bcall HB1.out hb2); have HF2 := Lib.hid (fun k hk => Nat.le_trans HB1.out.size (hF2 k hk)); have HX2 := Lib.hid hX2; clear hX2 hF2 hb2
  go_wp2_with fail
  refine (HTK.out _ ((HRK.out.below HB2.out).more HB2.out.size) ((HRD.out.below HB2.out).more HB2.out.size)).mono ?_
  rintro e3 w3 ⟨A3, n3, cc3, rfl, hl3, -, ho3, hb3⟩
  obtain rfl : n = n3 := by rw [← hl3]; exact HRL.out.symm
  have HB3 := Lib.hid (bcall HB2.out hb3); have HX3 := Lib.hid (HX2.out.below hb3); have HO3 := Lib.hid ho3
  have hfw : ∀ a, A3 = some a → w2.heap.size ≤ a.block := fun a ha => (ho3.block_lt a ha).1
  have HFW := Lib.hid hfw
  have hwr := xWrite Ad nd cd data w3 HX3.out HD.out HND.out HCD.out ((HRD.out.below HB3.out).more HB3.out.size) (fun _ a h1 h2 => by
    obtain ⟨ad, e, h3, -⟩ := HRD.out.2 (by rcases data with _ | ⟨x, l⟩; · exact absurd rfl ‹_›
                                           · exact Nat.succ_pos _)
    rw [h1] at e; cases e
    exact Nat.lt_irrefl _ (Nat.lt_of_lt_of_le h3 (HF2.out _ h2)))
  rw [List.nil_append] at hwr
  have HWR := Lib.hid hwr; clear hwr hl3 ho3 hb3 hfw
  go_wp2_with (go_at_call 12; refine HWR.out.mono ?_; rintro e4 w4 ⟨rfl, F4, hX4, hF4, hb4⟩; have HX4 := Lib.hid hX4; have HF4 := Lib.hid hF4; have HB4 := Lib.hid hb4; clear hX4 hF4 hb4)
  have hw4 : Below w.heap.size w w4 := HB3.out.trans (HB4.out.toBelow HB3.out.size HF2.out)
  have low3 : ∀ a, A3 = some a → a.block < w3.heap.size := fun a ha => (HO3.out.block_lt a ha).2
  have notF : ∀ a, A3 = some a → a.block ∉ F := fun a ha hm => Nat.lt_irrefl _ (Nat.lt_of_lt_of_le (HX2.out.lt _ hm) (HFW.out a ha))
  have R0 : Hid (JRel w w4 w4 m g data (m.root data) n A3 cc3 w2.heap.size F4 none 0 0) := ⟨OS.nil _ _ _ rfl, .inl ⟨rfl, HX4.out⟩, fun k hk => (HF4.out k hk).elim (fun h => HF2.out k h) (fun h => Nat.le_trans HB3.out.size h), (fun a ha => by cases ha), HO3.out.but HB4.out notF, fun a ha hm => (HF4.out _ hm).elim (notF a ha) (fun h => Nat.lt_irrefl _ (Nat.lt_of_lt_of_le (low3 a ha) h)), hw4, Nat.le_refl _⟩
  have HLW := Lib.hid low3; have HNF := Lib.hid notF
  clear hw4 low3 notF
  go_loopw [16, 18, 19, 20, 96] (fun o _ _ _ i wr' => ∃ (j pos : Nat) (A : Option Addr) (c : Nat) (F' : List Nat), j ≤ ns ∧ i = .int .i64 j ∧ o = .slice A pos c ∧ JRel w w4 wr' m g data (m.root data) n A3 cc3 w2.heap.size F' A pos c) (fun _ _ _ _ i _ => ns - (intOf i).toNat)
  case atStart => exact ⟨0, 0, none, 0, F4, Nat.zero_le _, rfl, rfl, R0.out⟩
  case round =>
    clear R0
    obtain ⟨j, pos, A, c, F', hj, rfl, rfl, hR⟩ := hrel
    have HR := Lib.hid hR; clear hR
    by_cases hlt : j < ns
    · obtain ⟨ad, x, hAs, hab, hlx, hcx⟩ := (HRS.out.below HR.out.bel).at_ (k := j) (by rw [HS.out]; exact hlt)
      subst hAs
      obtain ⟨k0, hk0⟩ : ∃ k0, k0 = x.toNat := ⟨_, rfl⟩
      have hk255 : k0 ≤ 255 := by rw [hk0]; have := x.toNat_lt; omega
      change wr.cell? (ad.add j) = some (.int .u8 (x.toNat : Nat)) at hcx
      rw [← hk0] at hcx
      obtain ⟨u5, u4⟩ := w64_of k0 hk255
      have HK255 := Lib.hid hk255
      have hrd := HR.out.x.read HM.out k0 (Nat.le_trans hk255 (by decide))
      obtain ⟨q1, q2, q3, q4, q5⟩ := Xm.readS_on (m.root data) pos k0 HR.out.x.posle
      generalize m.readS (m.root data) pos k0 = RR at *
      obtain ⟨B, E⟩ := RR
      dsimp only at hrd q1 q2 q3 q4 q5
      have HRR := Lib.hid hrd; have Q1 := Lib.hid q1; have Q2 := Lib.hid q2; have Q3 := Lib.hid q3
      have hjd : decide ((j : Int) < (ns : Int)) = true := decide_eq_true (Int.ofNat_lt.2 hlt)
      have hji : (j : Int) < (ns : Int) := Int.ofNat_lt.2 hlt
      have hjt : (j < ns) = True := by simp only [hlt]
      have hadl : ad.block < wr.heap.size := Nat.lt_of_lt_of_le hab HR.out.bel.size
      have HLT := Lib.hid hlt
      clear hrd q1 q2 q3 q5 hlx hk255 hk0 hab hlt
      have wJ : wrap64 ((j : Int) + 1) = ((j + 1 : Nat) : Int) := j_next j ns HLT.out HNS.out
      rcases q4 with rfl | ⟨rfl, q6, q7⟩
      rotate_left
      have tpn : ((pos : Int) != (n : Int)) = false := by rw [q6, HT.out]; simp
      have tk0 : ((k0 : Int) == 0) = false := by simp; exact Nat.ne_of_gt q7
      have tk1 : (k0 = 0) = False := by simp; exact Nat.ne_of_gt q7
      clear q6 q7
      rotate_left
      · go_wp2_with fail
        refine HRR.out.mono ?_
        rintro e5 w5 ⟨A5, k5, cc5, rfl, hl5, -, ho5, F5, hX5, hF5, hb5, hd5⟩
        have hbk : decide ((k0 : Int) < (k5 : Int)) = false := decide_eq_false (fun h => Nat.lt_irrefl _ (Nat.lt_of_lt_of_le (Int.ofNat_lt.1 h) (by rw [← hl5]; exact Q3.out)))
        have hbk2 : (k0 < k5) = False := by simp only [eq_iff_iff, iff_false]; intro h; exact Nat.lt_irrefl _ (Nat.lt_of_lt_of_le h (by rw [← hl5]; exact Q3.out))
        have HBK := Lib.hid hb5
        have HG5 := Lib.hid ((HR.out.got.but hb5 (fun a ha hm => HR.out.far a ha (by rw [List.mem_singleton.1 hm]; exact HR.out.x.here))))
        have HW5 := Lib.hid ((HR.out.want.but hb5 (fun a ha hm => HR.out.farw a ha (by rw [List.mem_singleton.1 hm]; exact HR.out.x.here))))
        have HX5 := Lib.hid hX5; have HF5 := Lib.hid hF5; have HO5 := Lib.hid ho5; have HD5 := Lib.hid hd5; have HL5 := Lib.hid hl5
        clear hX5 hF5 hb5 ho5 hd5 hl5
        have hb47 : pos + k5 ≤ 140737488355328 := Nat.le_trans (by rw [← HL5.out]; exact Q2.out) (by rw [HT.out]; exact Nat.le_trans HN.out.2 (by decide))
        go_wp2_with (at_builtin; refine wpList_appB _ rfl (.tmp 130) (.tmp 131) rfl HG5.out rfl (m.row_len _ _ _) HO5.out.reads rfl HL5.out hb47 (Nat.le_trans HR.out.sz HBK.out.size) ?_; intro A6 c6 w6 ho6 hg6 hA6)
        go_roundw
        case rel =>
          rw [wJ]
          have hq := Q1.out
          have hbg : But (obl A) w5 w6 := But.grown hg6 (fun k9 h9 => .inl (mem_obl.2 (by cases A with | none => cases h9 | some a9 => exact ⟨a9, rfl, Option.some.inj h9⟩)))
          have aF5 : ∀ a, A = some a → a.block ∉ F5 := fun a ha hm => (HF5.out _ hm).elim (HR.out.far a ha) (fun h => Nat.lt_irrefl _ (Nat.lt_of_lt_of_le (HR.out.got.block_lt a ha).2 h))
          have a4 : ∀ a, A = some a → w4.heap.size ≤ a.block := fun a ha => (HR.out.got.block_lt a ha).1
          have l34 : w3.heap.size ≤ w4.heap.size := HB4.out.size
          have hw4 : w.heap.size ≤ w4.heap.size := Nat.le_trans HB3.out.size l34
          have nA : ∀ k, k ∈ F5 → k ∉ obl A := fun k hk hm => by obtain ⟨a, ha, hb⟩ := mem_obl.1 hm; exact aF5 a ha (by rw [hb]; exact hk)
          refine ⟨j + 1, pos + k5, A6, c6, F5, HLT.out, rfl, rfl, ⟨?_, .inr (HX5.out.but hbg nA), fun k hk => (HF5.out k hk).elim (HR.out.low k) (fun h => Nat.le_trans HR.out.bel.size h), fun a ha hm => ?_, HW5.out.but hbg (fun a ha hm => ?_), fun a ha hm => (HF5.out _ hm).elim (HR.out.farw a ha) (fun h => Nat.lt_irrefl _ (Nat.lt_of_lt_of_le (HR.out.want.block_lt a ha).2 h)), ?_, Nat.le_trans HR.out.sz (Nat.le_trans HBK.out.size hbg.size)⟩⟩
          · rw [← HL5.out, ← hq]; exact ho6
          · rcases hA6 with h | h
            · cases hA : A with
              | none => rw [ha, hA] at h; cases h
              | some b => rw [ha, hA] at h; have h2 : a.block = b.block := Option.some.inj h; rw [h2] at hm; exact aF5 b hA hm
            · rw [ha] at h; have h2 : a.block = w5.heap.size := Option.some.inj h; rw [h2] at hm; exact Nat.lt_irrefl _ (HX5.out.lt _ hm)
          · obtain ⟨b, hb, hb2⟩ := mem_obl.1 hm
            have g1 := a4 b hb
            rw [hb2] at g1
            exact Nat.lt_irrefl _ (Nat.lt_of_lt_of_le (Nat.lt_of_lt_of_le (HLW.out a ha) l34) g1)
          · exact HR.out.bel.trans ((HBK.out.toBelow HR.out.bel.size (fun k hk => by rw [List.mem_singleton.1 hk]; exact HR.out.low _ HR.out.x.here)).trans (hbg.toBelow (Nat.le_trans HR.out.bel.size HBK.out.size) (fun k hk => by obtain ⟨b, hb, hb2⟩ := mem_obl.1 hk; rw [← hb2]; exact Nat.le_trans hw4 (a4 b hb))))
        case measure =>
          rw [wJ]
          exact meas_lt j 1 ns HLT.out (Nat.le_refl 1)
      · go_wp2_with fail
        refine HRR.out.mono ?_
        rintro e5 w5 ⟨A5, k5, cc5, rfl, hl5, -, ho5, F5, hX5, hF5, hb5, hd5⟩
        have hbk : decide ((k0 : Int) < (k5 : Int)) = false := decide_eq_false (fun h => Nat.lt_irrefl _ (Nat.lt_of_lt_of_le (Int.ofNat_lt.1 h) (by rw [← hl5]; exact Q3.out)))
        have hbk2 : (k0 < k5) = False := by simp only [eq_iff_iff, iff_false]; intro h; exact Nat.lt_irrefl _ (Nat.lt_of_lt_of_le h (by rw [← hl5]; exact Q3.out))
        have HBK := Lib.hid hb5
        have HG5 := Lib.hid ((HR.out.got.but hb5 (fun a ha hm => HR.out.far a ha (by rw [List.mem_singleton.1 hm]; exact HR.out.x.here))))
        have HW5 := Lib.hid ((HR.out.want.but hb5 (fun a ha hm => HR.out.farw a ha (by rw [List.mem_singleton.1 hm]; exact HR.out.x.here))))
        have HX5 := Lib.hid hX5; have HF5 := Lib.hid hF5; have HO5 := Lib.hid ho5; have HD5 := Lib.hid hd5; have HL5 := Lib.hid hl5
        clear hX5 hF5 hb5 ho5 hd5 hl5
        have hb47 : pos + k5 ≤ 140737488355328 := Nat.le_trans (by rw [← HL5.out]; exact Q2.out) (by rw [HT.out]; exact Nat.le_trans HN.out.2 (by decide))
        go_wp2_with (at_builtin; refine wpList_appB _ rfl (.tmp 130) (.tmp 131) rfl HG5.out rfl (m.row_len _ _ _) HO5.out.reads rfl HL5.out hb47 (Nat.le_trans HR.out.sz HBK.out.size) ?_; intro A6 c6 w6 ho6 hg6 hA6)
        go_roundw
        case rel =>
          rw [wJ]
          have hq := Q1.out
          have hbg : But (obl A) w5 w6 := But.grown hg6 (fun k9 h9 => .inl (mem_obl.2 (by cases A with | none => cases h9 | some a9 => exact ⟨a9, rfl, Option.some.inj h9⟩)))
          have aF5 : ∀ a, A = some a → a.block ∉ F5 := fun a ha hm => (HF5.out _ hm).elim (HR.out.far a ha) (fun h => Nat.lt_irrefl _ (Nat.lt_of_lt_of_le (HR.out.got.block_lt a ha).2 h))
          have a4 : ∀ a, A = some a → w4.heap.size ≤ a.block := fun a ha => (HR.out.got.block_lt a ha).1
          have l34 : w3.heap.size ≤ w4.heap.size := HB4.out.size
          have hw4 : w.heap.size ≤ w4.heap.size := Nat.le_trans HB3.out.size l34
          have nA : ∀ k, k ∈ F5 → k ∉ obl A := fun k hk hm => by obtain ⟨a, ha, hb⟩ := mem_obl.1 hm; exact aF5 a ha (by rw [hb]; exact hk)
          refine ⟨j + 1, pos + k5, A6, c6, F5, HLT.out, rfl, rfl, ⟨?_, .inr (HX5.out.but hbg nA), fun k hk => (HF5.out k hk).elim (HR.out.low k) (fun h => Nat.le_trans HR.out.bel.size h), fun a ha hm => ?_, HW5.out.but hbg (fun a ha hm => ?_), fun a ha hm => (HF5.out _ hm).elim (HR.out.farw a ha) (fun h => Nat.lt_irrefl _ (Nat.lt_of_lt_of_le (HR.out.want.block_lt a ha).2 h)), ?_, Nat.le_trans HR.out.sz (Nat.le_trans HBK.out.size hbg.size)⟩⟩
          · rw [← HL5.out, ← hq]; exact ho6
          · rcases hA6 with h | h
            · cases hA : A with
              | none => rw [ha, hA] at h; cases h
              | some b => rw [ha, hA] at h; have h2 : a.block = b.block := Option.some.inj h; rw [h2] at hm; exact aF5 b hA hm
            · rw [ha] at h; have h2 : a.block = w5.heap.size := Option.some.inj h; rw [h2] at hm; exact Nat.lt_irrefl _ (HX5.out.lt _ hm)
          · obtain ⟨b, hb, hb2⟩ := mem_obl.1 hm
            have g1 := a4 b hb
            rw [hb2] at g1
            exact Nat.lt_irrefl _ (Nat.lt_of_lt_of_le (Nat.lt_of_lt_of_le (HLW.out a ha) l34) g1)
          · exact HR.out.bel.trans ((HBK.out.toBelow HR.out.bel.size (fun k hk => by rw [List.mem_singleton.1 hk]; exact HR.out.low _ HR.out.x.here)).trans (hbg.toBelow (Nat.le_trans HR.out.bel.size HBK.out.size) (fun k hk => by obtain ⟨b, hb, hb2⟩ := mem_obl.1 hk; rw [← hb2]; exact Nat.le_trans hw4 (a4 b hb))))
        case measure =>
          rw [wJ]
          exact meas_lt j 1 ns HLT.out (Nat.le_refl 1)
    · have hjd : decide ((j : Int) < (ns : Int)) = false := decide_eq_false (fun h => hlt (Int.ofNat_lt.1 h))
      have hjt : (j < ns) = False := by simp only [hlt]
      have wn : IntKind.u64.wrap (n : Int) = (n : Int) := HWN.out
      clear hlt
      have hrd := HR.out.x.read HM.out 65536 (Nat.le_refl _)
      rw [show ((65536 : Nat) : Int) = 65536 from rfl] at hrd
      obtain ⟨q1, -, -, -, q5⟩ := Xm.readS_on (m.root data) pos 65536 HR.out.x.posle
      have q6 := q5 (Nat.le_trans (Nat.sub_le _ _) (by rw [HT.out]; exact Nat.le_trans HN.out.2 (by decide)))
      rw [HT.out] at q6
      generalize m.readS (m.root data) pos 65536 = RR at *
      obtain ⟨B, E⟩ := RR
      dsimp only at hrd q1 q6
      have HRR := Lib.hid hrd; have Q1 := Lib.hid q1; have Q6 := Lib.hid q6
      clear hrd q1 q5 q6
      go_wp2_with fail
      refine HRR.out.mono ?_
      rintro e5 w5 ⟨A5, k5, cc5, rfl, hl5, -, ho5, F5, hX5, hF5, hb5, hd5⟩
      have HE := Lib.hid (show pos + k5 = n from by rw [← hl5]; exact Q6.out)
      have HBK := Lib.hid hb5
      have HG5 := Lib.hid ((HR.out.got.but hb5 (fun a ha hm => HR.out.far a ha (by rw [List.mem_singleton.1 hm]; exact HR.out.x.here))))
      have HW5 := Lib.hid ((HR.out.want.but hb5 (fun a ha hm => HR.out.farw a ha (by rw [List.mem_singleton.1 hm]; exact HR.out.x.here))))
      have HX5 := Lib.hid hX5; have HF5 := Lib.hid hF5; have HO5 := Lib.hid ho5; have HL5 := Lib.hid hl5
      clear hX5 hF5 hb5 ho5 hd5 hl5
      have hb47 : pos + k5 ≤ 140737488355328 := by rw [HE.out]; exact Nat.le_trans HN.out.2 (by decide)
      go_wp2_with (at_builtin; refine wpList_appB _ rfl (.tmp 139) (.tmp 140) rfl HG5.out rfl (m.row_len _ _ _) HO5.out.reads rfl HL5.out hb47 (Nat.le_trans HR.out.sz HBK.out.size) ?_; intro A6 c6 w6 ho6 hg6 hA6)
      have hbg : But (obl A) w5 w6 := But.grown hg6 (fun k9 h9 => .inl (mem_obl.2 (by cases A with | none => cases h9 | some a9 => exact ⟨a9, rfl, Option.some.inj h9⟩)))
      have aF5 : ∀ a, A = some a → a.block ∉ F5 := fun a ha hm => (HF5.out _ hm).elim (HR.out.far a ha) (fun h => Nat.lt_irrefl _ (Nat.lt_of_lt_of_le (HR.out.got.block_lt a ha).2 h))
      have a4 : ∀ a, A = some a → w4.heap.size ≤ a.block := fun a ha => (HR.out.got.block_lt a ha).1
      have l34 : w3.heap.size ≤ w4.heap.size := HB4.out.size
      have hw4 : w.heap.size ≤ w4.heap.size := Nat.le_trans HB3.out.size l34
      have nA : ∀ k, k ∈ F5 → k ∉ obl A := fun k hk hm => by obtain ⟨a, ha, hb⟩ := mem_obl.1 hm; exact aF5 a ha (by rw [hb]; exact hk)
      have hX6 : XGv w6 g m (m.root data) n F5 := by have h := HX5.out.but hbg nA; rw [HE.out] at h; exact h
      have hA6F : ∀ a, A6 = some a → a.block ∉ F5 := fun a ha hm => by
        rcases hA6 with h | h
        · cases hA : A with
          | none => rw [ha, hA] at h; cases h
          | some b => rw [ha, hA] at h; have h2 : a.block = b.block := Option.some.inj h; rw [h2] at hm; exact aF5 b hA hm
        · rw [ha] at h; have h2 : a.block = w5.heap.size := Option.some.inj h; rw [h2] at hm; exact Nat.lt_irrefl _ (HX5.out.lt _ hm)
      have ho6' : OS cB w6 w4.heap.size A6 c6 (m.row (m.root data) 0 n) := by rw [← Q6.out, ← Q1.out]; exact ho6
      have hw6 : OS cB w6 w2.heap.size A3 cc3 (m.row (m.root data) 0 n) := HW5.out.but hbg (fun a ha hm => by
        obtain ⟨b, hb, hb2⟩ := mem_obl.1 hm
        have g1 := a4 b hb
        rw [hb2] at g1
        exact Nat.lt_irrefl _ (Nat.lt_of_lt_of_le (Nat.lt_of_lt_of_le (HLW.out a ha) l34) g1))
      have fw6 : ∀ a, A3 = some a → a.block ∉ F5 := fun a ha hm => (HF5.out _ hm).elim (HR.out.farw a ha) (fun h => Nat.lt_irrefl _ (Nat.lt_of_lt_of_le (HR.out.want.block_lt a ha).2 h))
      have hB6 : Below w.heap.size w w6 := HR.out.bel.trans ((HBK.out.toBelow HR.out.bel.size (fun k hk => by rw [List.mem_singleton.1 hk]; exact HR.out.low _ HR.out.x.here)).trans (hbg.toBelow (Nat.le_trans HR.out.bel.size HBK.out.size) (fun k hk => by obtain ⟨b, hb, hb2⟩ := mem_obl.1 hk; rw [← hb2]; exact Nat.le_trans hw4 (a4 b hb))))
      have hr7 := hX6.read HM.out hX6.posle 1 (by decide)
      rw [show m.readS (m.root data) n 1 = ([], 70) from by unfold Xm.readS; rw [if_pos ⟨Nat.one_pos, by rw [HT.out, Nat.sub_self]⟩], show ((1 : Nat) : Int) = 1 from rfl] at hr7
      dsimp only at hr7
      have HR7 := Lib.hid hr7; have HX6 := Lib.hid hX6; have HAF := Lib.hid hA6F; have HG6 := Lib.hid ho6'; have HW6 := Lib.hid hw6; have HFW6 := Lib.hid fw6; have HB6 := Lib.hid hB6
      have HLG := Lib.hid (HR.out.low _ HR.out.x.here)
      clear hr7 hX6 hA6F ho6' hw6 fw6 hB6 ho6 hg6 hA6 hbg aF5 a4 nA hb47
      go_wp2_with fail
      refine HR7.out.mono ?_
      rintro e7 w7 ⟨A7, k7, cc7, rfl, hl7, -, -, F7, hX7, hF7, hb7, -⟩
      obtain rfl : k7 = 0 := hl7.symm
      have HB7 := Lib.hid (HB6.out.trans (hb7.toBelow HB6.out.size (fun k hk => by rw [List.mem_singleton.1 hk]; exact HLG.out)))
      have HG7 := Lib.hid (HG6.out.but hb7 (fun a ha hm => HAF.out a ha (by rw [List.mem_singleton.1 hm]; exact HX6.out.here)))
      have HW7 := Lib.hid (HW6.out.but hb7 (fun a ha hm => HFW6.out a ha (by rw [List.mem_singleton.1 hm]; exact HX6.out.here)))
      have hX7' : XGv w7 g m (m.root data) n F7 := hX7
      have HLF := Lib.hid (fun W (hb : Below w7.heap.size w7 W) => (hX7'.below hb).left HM.out)
      rw [HT.out, Nat.sub_self] at HLF
      have HAX := Lib.hid (fun W (hb : Below w7.heap.size w7 W) => (hX7'.below hb).atq)
      clear hX7 hX7' hF7 hb7 HR7 hl7
      go_wp2_with (first
        | (go_at_call 14; refine (HSM.out A6 A3 c6 cc3 (pos + k5) n _ _ _ (by rw [HE.out]; exact m.row_len _ _ _) (m.row_len _ _ _) (by rw [HE.out]; exact Nat.le_trans HN.out.2 (by decide)) HG7.out.reads HW7.out.reads).mono ?_; rintro e8 w8 ⟨rfl, hb8⟩; rw [decide_eq_true (rfl : m.row (m.root data) 0 n = m.row (m.root data) 0 n)]; have HB8 := Lib.hid hb8; clear hb8)
        | (go_at_call 15; refine (HLF.out _ HB8.out).mono ?_; rintro e9 w9 ⟨rfl, hb9⟩; have HB9 := Lib.hid (bcall HB8.out hb9); clear hb9)
        | (go_at_call 16; refine (HAX.out _ HB9.out).mono ?_; rintro e11 w11 ⟨rfl, rfl⟩))
      exact bodyPost_ret (results_tmp rfl _ _ _) rfl ⟨rfl, bcall HB7.out HB9.out⟩
theorem xofJoins_law (k : Int) (l : Nat) (key data sizes : List UInt8) (Ak Ad As : Option Addr) (nk ck nd cd ns cs : Nat) (w : World) (hl : l ≤ 65535) (hk : key.length = nk) (hrk : RS cB w w.heap.size Ak key) (hd : data.length = nd) (hnd : nd ≤ cd) (hcd : cd ≤ 9223372036854775807) (hrd : RS cB w w.heap.size Ad data)
    (hs : sizes.length = ns) (hns : ns ≤ 140737488351232) (hrs : RS cB w w.heap.size As sizes) :
    Calls Try.prog 3 #[.int .i64 k, .int .u16 l, .slice Ak nk ck, .slice Ad nd cd, .slice As ns cs] w fun e w' => e = .returned (.bool true) ∧ Below w.heap.size w w' := by
  by_cases hv : xValid k (((1 + l % 2000 : Nat)) : Int) nk noSl noSl = 0
  · obtain ⟨big, hb, -⟩ := xnums (xOK_of hv)
    subst hb
    exact xofJoinsYes big key data sizes Ak Ad As nk ck nd cd ns cs l hl w hk hrk hd hnd hcd hrd hs hns hrs hv
  · exact xofJoinsNo k key data Ak Ad As nk ck nd cd ns cs l hl w hk hrk hd hnd hcd hrd hv
end Go.Proofs.Ytgecggkcadhooaa

/-
  XofSkips' law. Contracts alone; no statement is claimed here.
-/
import Derived.Test.YtgecggkcadhooaaXofC
import Derived.Test.YtgecggkcadhooaaXTake
namespace Go.Proofs.Ytgecggkcadhooaa
open Go.RowKit
attribute [local go_sem] pureUpon Ords.of

/-- what New says where no salts are given and the length may be -/
theorem xValid_plain (k len : Int) (nk : Nat) (hl : len = -1 ∨ (1 ≤ len ∧ len ≤ 2000)) : xValid k len nk noSl noSl = if ¬ (k = 1 ∨ k = 2) then 1 else if mostOf k < nk then 8 else 0 := by
  by_cases hk : k = 1 ∨ k = 2
  · rw [if_neg (fun h => h hk)]
    have ho : xOK k len := ⟨hk, by rcases hl with h | h; · exact .inl h
                                   · refine .inr ⟨h.1, ?_⟩
                                     rcases hk with rfl | rfl
                                     · show len ≤ 4294967294; omega
                                     · show len ≤ 65534; omega⟩
    by_cases hm : mostOf k < nk
    · rw [if_pos hm, xValid_key ho hm]
    · rw [if_neg hm, xValid_chk ho hm]
      have hx : xCode k len ≠ 0 ∧ ¬ (k = 2 ∧ 65535 < xCode k len) := by
        unfold xCode xMost
        rcases hk with rfl | rfl <;> (split <;> simp <;> omega)
      have hmo : 1 ≤ mostOf k := by rcases hk with rfl | rfl <;> decide
      unfold chk rootP noSl
      dsimp only
      rw [if_neg (by omega), if_neg (by omega), if_neg (by omega), if_neg (by omega), if_neg (by omega), if_neg (by omega), if_neg hx.2, if_neg (by omega), if_neg (by omega), if_neg (by omega), if_neg (by omega)]
  · rw [if_pos hk]
    exact xValid_bad (fun h => hk h.1)
theorem Xm.readS_len {m : Xm} (root : List UInt8) (pos n : Nat) (h : pos < m.T) : m.readS root pos n = (m.row root pos (min n (m.T - pos)), 0) := by
  unfold Xm.readS; rw [if_neg (by omega)]
theorem skipS_eq {T pos n : Nat} (h : pos < T) : skipS T pos n = (min n (T - pos), 0) := by
  unfold skipS; rw [if_neg (by omega)]
set_option maxRecDepth 20000 in
set_option maxHeartbeats 1000000 in
/-- New is refused: the kind or the key is to blame -/
theorem xofSkipsNo (k : Int) (Ak Ad : Option Addr) (nk ck nd cd : Nat) (far by_ n : Nat) (w : World) (hv : xValid k (-1) nk noSl noSl ≠ 0) :
    Calls Try.prog 4 #[.int .i64 k, .slice Ak nk ck, .slice Ad nd cd, .int .u64 far, .int .u8 by_, .int .u8 n] w fun e w' => e = .returned (.bool true) ∧ Below w.heap.size w w' := by
  have haw := fun W => awake7_any W
  have hnw := fun W => xnewBad_any k (-1) Ak nk ck noSl noSl W hv
  have hval := xValid_plain k (-1) nk (.inl rfl)
  have cs : ((k != 1) = true ∧ (k != 2) = true) ∨ ((k != 1) = false ∧ decide ((64 : Int) < (nk : Int)) = true) ∨ ((k != 1) = true ∧ (k != 2) = false ∧ (k == 2) = true ∧ decide ((32 : Int) < (nk : Int)) = true ∧ (decide ((64 : Int) < (nk : Int)) = true ∨ decide ((64 : Int) < (nk : Int)) = false)) := by
    by_cases h1 : k = 1
    · subst h1
      refine .inr (.inl ⟨rfl, ?_⟩)
      by_cases h2 : mostOf 1 < nk
      · have : (64 : Int) < nk := h2
        simp; omega
      · rw [hval, if_neg (by simp), if_neg h2] at hv; exact absurd rfl hv
    · by_cases h2 : k = 2
      · subst h2
        refine .inr (.inr ⟨rfl, rfl, rfl, ?_, ?_⟩)
        · by_cases h2 : mostOf 2 < nk
          · have : (32 : Int) < nk := h2
            simp; omega
          · rw [hval, if_neg (by simp), if_neg h2] at hv; exact absurd rfl hv
        · cases decide ((64 : Int) < (nk : Int)) <;> simp
      · exact .inl ⟨by simpa using h1, by simpa using h2⟩
  generalize xValid k (-1) nk noSl noSl = x at *
  unfold Sl.v noSl at hnw
  have t0 : (x != 0) = true := by simpa using hv
  have HAW := Lib.hid haw; have HNW := Lib.hid hnw; clear haw hnw hval hv
  rcases cs with ⟨t1, t2⟩ | ⟨t1, t2⟩ | ⟨t1, t2, t3, t4, t5 | t5⟩
  all_goals
    go_enter Try.func4, Try.ntmps4
    go_wp2_with (first
      | (go_at_call 9; refine (HAW.out _).mono ?_; rintro e1 w1 ⟨rfl, hb1⟩; have HB1 := Lib.hid hb1; clear hb1)
      | (go_at_call 10; refine (HNW.out _).mono ?_; rintro e2 w2 ⟨rfl, hb2⟩; have HB2 := Lib.hid (bcall HB1.out hb2); clear hb2))
    exact bodyPost_ret (results_tmp rfl _ _ _) rfl ⟨rfl, HB2.out⟩
/-- a stream of unknown length, of no salts -/
def unk (big : Bool) (key : List UInt8) : Xm := ⟨big, -1, key, [], []⟩
theorem unk_T {big : Bool} {key : List UInt8} (h : (unk big key).Ok) : 137438953472 ≤ (unk big key).T ∧ (unk big key).T ≤ 274877906944 := by
  have h1 := h.T
  have e : xTotal (kOf (unk big key).big) (unk big key).len = mostOf (kOf big) * 4294967296 := if_pos rfl
  rw [e, mostOf_k] at h1
  have h2 := bOf_le big
  generalize (unk big key).T = t at h1 ⊢
  generalize bOf big = b at h1 h2
  omega
theorem Xm.readS_le {m : Xm} (root : List UInt8) (pos n : Nat) : (m.readS root pos n).1.length ≤ n := by
  unfold Xm.readS
  split
  · exact Nat.zero_le _
  · rw [Xm.row_len]; omega
theorem skip_nums (fa k7 k8 p1 : Nat) (h : fa + k7 = p1) (hf : fa < 137438953472) (h7 : k7 ≤ 255) (h8 : k8 ≤ 255) : ∃ p2 : Nat, p1 + k8 = p2 ∧ IntKind.u64.wrap ((fa : Int) + (k7 : Int)) = p1 ∧ IntKind.u64.wrap ((p1 : Int) + (k8 : Int)) = p2 ∧ IntKind.u64.wrap (k8 : Int) = k8 ∧ IntKind.u64.wrap (k7 : Int) = k7 ∧ ((k7 : Int) == (k7 : Int)) = true ∧ ((p2 : Int) == (p2 : Int)) = true :=
  ⟨p1 + k8, rfl, by rw [wrap_u64]; omega, by rw [wrap_u64]; omega, by rw [wrap_u64]; omega, by rw [wrap_u64]; omega, by simp, by simp⟩
theorem w64_of (n : Nat) (h : n ≤ 255) : wrap64 (n : Int) = n ∧ IntKind.u64.wrap (n : Int) = n := by
  refine ⟨by unfold wrap64; omega, by rw [wrap_u64]; omega⟩
theorem far_of (far : Nat) : ∃ fa : Nat, fa < 137438953472 ∧ IntKind.u64.wrap ((far : Int) % 137438953472) = fa ∧ ((far : Int) % 137438953472) = fa ∧ (far : Int).tmod 137438953472 = fa := by
  refine ⟨far % 137438953472, by omega, by rw [wrap_u64]; omega, by omega, by rw [Int.tmod_eq_emod_of_nonneg (by omega)]; omega⟩
set_option maxRecDepth 100000 in
set_option maxHeartbeats 4000000 in
theorem xofSkipsYes (big : Bool) (key data : List UInt8) (Ak Ad : Option Addr) (nk ck nd cd : Nat) (far by_ n : Nat) (w : World) (hk : key.length = nk) (hrk : RS cB w w.heap.size Ak key) (hd : data.length = nd) (hnd : nd ≤ cd) (hcd : cd ≤ 9223372036854775807) (hrd : RS cB w w.heap.size Ad data)
    (hm : (unk big key).Ok) (hby : by_ ≤ 255) (hn : n ≤ 255) :
    Calls Try.prog 4 #[.int .i64 (kOf big), .slice Ak nk ck, .slice Ad nd cd, .int .u64 far, .int .u8 by_, .int .u8 n] w fun e w' => e = .returned (.bool true) ∧ Below w.heap.size w w' := by
  have haw := fun W => awake7_any W
  have hnw := fun W hrk => xNew (unk big key) hm Ak nk ck noSl noSl W rfl rfl (RS.nil _) (RS.nil _) hk hrk
  change ∀ W, RS cB W W.heap.size Ak key → Calls _ _ #[.int .i64 (kOf big), .int .i64 (-1), _, _, _] W _ at hnw
  unfold Sl.v noSl at hnw
  have hT := unk_T hm
  have hsame := fun (A1 A2 : Option Addr) (c1 c2 n1 n2 : Nat) (l1 l2 : List UInt8) W h1 h2 hm r1 r2 => same7_any A1 A2 c1 c2 l1 l2 n1 n2 W h1 h2 hm r1 r2
  have HB2 := Lib.hid hby; have HN2 := Lib.hid hn
  have HBY := Lib.hid (show by_ < 18446744073709551616 ∧ by_ ≤ 65536 by omega); have HN := Lib.hid (show n ≤ 65536 by omega)
  obtain ⟨fa, hfl, v1, v2, v3⟩ := far_of far
  have V1 := Lib.hid v1; have V2 := Lib.hid v2; have V3 := Lib.hid v3; clear v1 v2 v3
  generalize hmm : unk big key = m at *
  have hsk1 : skipS m.T 0 fa = (fa, 0) := by rw [skipS_eq (by omega)]; rw [Nat.min_eq_left (by omega)]
  obtain ⟨sk, hsk⟩ : ∃ sk, sk = min by_ (m.T - fa) := ⟨_, rfl⟩
  have hsk2 : skipS m.T fa by_ = (sk, 0) := by rw [hsk]; exact skipS_eq (by omega)
  have hrd1 : ∀ root, m.readS root fa by_ = (m.row root fa sk, 0) := fun root => by rw [hsk]; exact Xm.readS_len root fa by_ (by omega)
  have hskl : sk ≤ 255 := by omega
  have hpos : fa + sk ≤ m.T := by omega
  have hrl : ∀ root pos k, (m.row root pos k).length = k := fun root pos k => m.row_len root pos k
  have HAW := Lib.hid haw; have HNW := Lib.hid hnw; have HM := Lib.hid hm; have HT := Lib.hid hT; have HSM := Lib.hid hsame; have HK1 := Lib.hid hsk1; have HK2 := Lib.hid hsk2; have HR1 := Lib.hid hrd1; have HRL := Lib.hid hrl; have HRK := Lib.hid hrk; have HRD := Lib.hid hrd; have HD := Lib.hid hd; have HND := Lib.hid hnd; have HCD := Lib.hid hcd; have HFL := Lib.hid hfl; have HSKL := Lib.hid hskl; have HPOS := Lib.hid hpos; 
  clear haw hnw hm hT hsame hsk1 hsk2 hrd1 hrl hrk hrd hd hnd hcd hfl hskl hpos hby hn hsk hmm hk
  obtain ⟨v5, v4⟩ := w64_of by_ HB2.out
  obtain ⟨v6, -⟩ := w64_of n HN2.out
  have v1 := V1.out; have v2 := V2.out; have v3 := V3.out
  generalize kOf big = kk at *
  go_enter Try.func4, Try.ntmps4
  go_wp2_with (go_at_call 9; refine (HAW.out _).mono ?_; rintro e1 w1 ⟨rfl, hb1⟩; have HB1 := Lib.hid hb1; clear hb1)
  refine (HNW.out _ ((HRK.out.below HB1.out).more HB1.out.size)).mono ?_
  rintro e2 w2 ⟨g, F, rfl, hX2, hF2, hb2⟩
  have HB2 := Lib.hid (bcall HB1.out hb2); have HF2 := Lib.hid (fun k hk => Nat.le_trans HB1.out.size (hF2 k hk))
  have hwr := xWrite Ad nd cd data w2 hX2 HD.out HND.out HCD.out ((HRD.out.below HB2.out).more HB2.out.size) (fun _ a h1 h2 => by
    obtain ⟨ad, e, h3, -⟩ := HRD.out.2 (by rcases data with _ | ⟨x, l⟩; · exact absurd rfl ‹_›
                                           · exact Nat.succ_pos _)
    rw [h1] at e; cases e
    exact Nat.lt_irrefl _ (Nat.lt_of_lt_of_le h3 (HF2.out _ h2)))
  have HWR := Lib.hid hwr; clear hwr hX2 hF2 hb2
  go_wp2_with (go_at_call 12; refine HWR.out.mono ?_; rintro e3 w3 ⟨rfl, F3, hX3, hF3, hb3⟩; have HB3 := Lib.hid (HB2.out.trans (hb3.toBelow HB2.out.size HF2.out)); have HF3 := Lib.hid (fun k hk => (hF3 k hk).elim (fun h => HF2.out k h) (fun h => Nat.le_trans HB2.out.size h)); have HX3 := Lib.hid hX3; clear hX3 hF3 hb3)
  have hs4 := HX3.out.skip HM.out fa (Nat.lt_trans HFL.out (by decide))
  rw [HK1.out, Nat.zero_add] at hs4
  generalize m.root ([] ++ data) = root at *
  have HS4 := Lib.hid hs4; clear hs4
  refine HS4.out.mono ?_
  rintro e4 w4 ⟨rfl, F4, hX4, hF4, hb4⟩
  have hg3 := HF3.out g HX3.out.here
  have HB4 := Lib.hid (HB3.out.trans (hb4.toBelow HB3.out.size (fun k hk => by rw [List.mem_singleton.1 hk]; exact hg3)))
  have HX4 := Lib.hid hX4; have HG := Lib.hid hg3; clear hX4 hF4 hb4 hg3 HS4
  go_wp2_with (go_at_call 18; refine HX4.out.copy.mono ?_; rintro e5 w5 ⟨g2, G5, rfl, hg2, hY5, hgn, hF5, hb5⟩; have HB5 := Lib.hid (bcall HB4.out hb5); have HX5 := Lib.hid (HX4.out.below hb5); have HY5 := Lib.hid hY5; have HN5 := Lib.hid hgn; have HM5 := Lib.hid (show g2 ∉ F4 from fun h => Nat.lt_irrefl _ (Nat.lt_of_lt_of_le (HX4.out.lt _ h) hg2)); have HG2 := Lib.hid (Nat.le_trans HB4.out.size hg2); clear hY5 hgn hg2 hF5 hb5)
  have hs6 := HX5.out.skip HM.out HX5.out.posle by_ HBY.out.1
  rw [HK2.out] at hs6
  have HS6 := Lib.hid hs6; clear hs6
  refine HS6.out.mono ?_
  rintro e6 w6 ⟨rfl, F6, hX6, hF6, hb6⟩
  have HB6 := Lib.hid (HB5.out.trans (hb6.toBelow HB5.out.size (fun k hk => by rw [List.mem_singleton.1 hk]; exact HG.out)))
  have HX6 := Lib.hid hX6; have HY6 := Lib.hid (HY5.out.but hb6 (fun k hk hm => HN5.out (by rw [← List.mem_singleton.1 hm]; exact hk)))
  have HM6 := Lib.hid (show g2 ∉ F6 from fun h => (hF6 _ h).elim HM5.out (fun h2 => Nat.lt_irrefl _ (Nat.lt_of_lt_of_le (HY5.out.lt _ HY5.out.here) h2)))
  have hr7 := HY6.out.read HM.out HY6.out.posle by_ HBY.out.2
  rw [HR1.out] at hr7
  have HR7 := Lib.hid hr7; clear hX6 hF6 hb6 hr7 HS6
  go_wp2_with fail
  refine HR7.out.mono ?_
  rintro e7 w7 ⟨A7, k7, cc7, rfl, hl7, -, -, G7, hY7, hF7, hb7, -⟩
  obtain rfl : k7 = sk := by rw [← hl7]; exact HRL.out _ _ _
  generalize hp1 : fa + k7 = p1 at *
  have HP1 := Lib.hid hp1; clear hp1
  have HB7 := Lib.hid (HB6.out.trans (hb7.toBelow HB6.out.size (fun k hk => by rw [List.mem_singleton.1 hk]; exact HG2.out)))
  have HY7 := Lib.hid hY7; have HX7 := Lib.hid (HX6.out.but hb7 (fun k hk hm => HM6.out (by rw [← List.mem_singleton.1 hm]; exact hk)))
  have HN7 := Lib.hid (show g ∉ G7 from fun h => (hF7 _ h).elim HN5.out (fun h2 => Nat.lt_irrefl _ (Nat.lt_of_lt_of_le (HX6.out.lt _ HX6.out.here) h2)))
  have HR8 := Lib.hid (HX7.out.read HM.out HX7.out.posle n HN.out)
  clear hY7 hF7 hb7 HR7 hl7
  go_wp2_with fail
  refine HR8.out.mono ?_
  rintro e8 w8 ⟨A8, k8, cc8, rfl, hl8, -, ho8, F8, hX8, hF8, hb8, -⟩
  have HB8 := Lib.hid (HB7.out.trans (hb8.toBelow HB7.out.size (fun k hk => by rw [List.mem_singleton.1 hk]; exact HG.out)))
  have HX8 := Lib.hid hX8; have HY8 := Lib.hid (HY7.out.but hb8 (fun k hk hm => HN7.out (by rw [← List.mem_singleton.1 hm]; exact hk)))
  have HM8 := Lib.hid (show g2 ∉ F8 from fun h => (hF8 _ h).elim HM6.out (fun h2 => Nat.lt_irrefl _ (Nat.lt_of_lt_of_le (HY7.out.lt _ HY7.out.here) h2)))
  have HO8 := Lib.hid ho8; have HL8 := Lib.hid hl8
  have HR9 := Lib.hid (HY8.out.read HM.out HY8.out.posle n HN.out)
  clear hX8 hF8 hb8 HR8 hl8 ho8
  generalize hRR : m.readS root p1 n = RR at *
  have HLN := Lib.hid (show RR.1.length ≤ 255 from by rw [← hRR]; exact Nat.le_trans (Xm.readS_le root p1 n) HN2.out)
  clear hRR
  obtain ⟨OUT, ERR⟩ := RR
  dsimp only at HLN HO8 HL8 HR9
  go_wp2_with fail
  refine HR9.out.mono ?_
  rintro e9 w9 ⟨A9, k9, cc9, rfl, hl9, -, ho9, G9, hY9, hF9, hb9, -⟩
  obtain rfl : k8 = k9 := by rw [← HL8.out, ← hl9]
  have HB9 := Lib.hid (HB8.out.trans (hb9.toBelow HB8.out.size (fun k hk => by rw [List.mem_singleton.1 hk]; exact HG2.out)))
  have HX9 := Lib.hid (HX8.out.but hb9 (fun k hk hm => HM8.out (by rw [← List.mem_singleton.1 hm]; exact hk)))
  have HO89 := Lib.hid (HO8.out.but hb9 (fun a ha hm => by
    have g1 := (HO8.out.block_lt a ha).1
    rw [List.mem_singleton.1 hm] at g1
    exact Nat.lt_irrefl _ (Nat.lt_of_lt_of_le (HY7.out.lt _ HY7.out.here) g1)))
  have HO9 := Lib.hid ho9; have HL9 := Lib.hid hl9; have HY9 := Lib.hid hY9
  obtain ⟨p2, hp2, u1, u2, u3, u4, -, -⟩ := skip_nums fa k7 k8 p1 HP1.out HFL.out HSKL.out (by rw [← HL8.out]; exact HLN.out)
  have HAX := Lib.hid (fun W (hb : Below w9.heap.size w9 W) => (HX9.out.below hb).atq)
  have HAY := Lib.hid (fun W (hb : Below w9.heap.size w9 W) => (HY9.out.below hb).atq)
  rw [hp2] at HAX HAY
  clear hY9 hF9 hb9 HR9 hl9 ho9 hp2
  go_wp2_with (first
    | (go_at_call 14; refine (HSM.out A8 A9 _ _ k8 k8 OUT OUT _ HL8.out HL9.out (by rw [← HL8.out]; exact Nat.le_trans HLN.out (by decide)) HO89.out.reads HO9.out.reads).mono ?_; rintro e7 w10 ⟨rfl, hb10⟩; rw [decide_eq_true (rfl : OUT = OUT)]; have HB10 := Lib.hid hb10; clear hb10)
    | (go_at_call 16; refine (HAX.out _ HB10.out).mono ?_; rintro e11 w11 ⟨rfl, rfl⟩)
    | (go_at_call 16; refine (HAY.out _ HB10.out).mono ?_; rintro e11 w11 ⟨rfl, rfl⟩))
  exact bodyPost_ret (results_tmp rfl _ _ _) rfl ⟨rfl, bcall HB9.out HB10.out⟩
theorem xofSkips_law (k : Int) (key data : List UInt8) (Ak Ad : Option Addr) (nk ck nd cd : Nat) (far by_ n : Nat) (w : World) (hk : key.length = nk) (hrk : RS cB w w.heap.size Ak key) (hd : data.length = nd) (hnd : nd ≤ cd) (hcd : cd ≤ 9223372036854775807) (hrd : RS cB w w.heap.size Ad data) (hby : by_ ≤ 255) (hn : n ≤ 255) :
    Calls Try.prog 4 #[.int .i64 k, .slice Ak nk ck, .slice Ad nd cd, .int .u64 far, .int .u8 by_, .int .u8 n] w fun e w' => e = .returned (.bool true) ∧ Below w.heap.size w w' := by
  by_cases hv : xValid k (-1) nk noSl noSl = 0
  · obtain ⟨big, hb, -⟩ := xnums (xOK_of hv)
    subst hb
    exact xofSkipsYes big key data Ak Ad nk ck nd cd far by_ n w hk hrk hd hnd hcd hrd (Xm.Ok.of (m := unk big key) (s := noSl) (p := noSl) rfl rfl (by show xValid (kOf big) (-1) key.length noSl noSl = 0; rw [hk]; exact hv)) hby hn
  · exact xofSkipsNo k Ak Ad nk ck nd cd far by_ n w hv
end Go.Proofs.Ytgecggkcadhooaa

/-
  NodeApart's law. Contracts alone; no statement is claimed here.
-/
import Derived.Test.YtboihcigcfmhhaaNLoH
import Derived.Test.YtboihcigcfmhhaaFed
import Derived.Test.YtboihcigcfmhhaaSame
import Derived.Test.YtboihcigcfmhhaaLaw5
import Derived.Test.YtboihcigcfmhhaaAwk5
import Derived.Test.YtboihcigcfmhhaaParB
import Derived.Test.YtboihcigcfmhhaaOpenP
namespace Go.Proofs.Ytboihcigcfmhhaa
open Go.RowKit
attribute [local go_sem] pureUpon Ords.of

theorem pure_load_blk {P : Program} {o : Oper} {a : Act} {w : World} (ty : TypeId) (x : Operand) (ho : o.op = .load ty x) (g : Nat) (hx : a.eval x = .pointer (some ⟨g, 0, none⟩)) (cs : Array Value) (d : TypeDesc) (t : TypeId) (hb : Blk w g t cs)
    (hu : P.underlying ty = some d) (hd : d.isRow = true) (hi : (P.info? ty).map (·.size) = some cs.size) : pureUpon w (.agg cs) ((execOp a.eval o).run P w) := by
  have h := pure_load_mid ty x ho g 0 hx cs.toList d hb.whole hu hd (by rw [hi]; simp)
  rwa [Array.toArray_toList] at h
set_option maxRecDepth 20000 in
set_option maxHeartbeats 2000000 in
theorem nodeApart_out (k : Int) (p : Pr) (Ak : Option Addr) (nk ck : Nat) (data one two : Value) (w : World) (h : chk k p ≠ 0 ∨ (chk k p = 0 ∧ nk ≠ 0 ∧ (nk : Int) ≠ p.key)) :
    Calls Try.prog 3 #[stV k p (.slice Ak nk ck), data, one, two] w fun e w' => e = .returned (.bool true) ∧ Below w.heap.size w w' := by
  have hck := fun W => refCheck_any k p W
  have ha := fun W => awake5_any W
  rcases h with h | ⟨h, h1, h2⟩
  · have t1 : (chk k p != 0) = true := by simpa using h
    generalize chk k p = r at *
    unfold stV
    unfold Pr.v Pr.cs Sl.v at *
    have HCK := Lib.hid hck; have HA := Lib.hid ha; clear hck ha h
    go_enter Try.func3, Try.ntmps3
    go_wp2_with (first | (go_at_call 4; refine (HA.out _).mono ?_; rintro e w1 ⟨rfl, hbw1⟩; (first | refine withN hbw1 ?_ | refine withD hbw1 ?_ | refine with0 hbw1 ?_); intro hcw1 hfw1; have z0w1 : w.heap.size < w1.heap.size := (by have := hbw1.size; (try simp at this); omega)) | (go_at_call 5; refine (HCK.out _).mono ?_; rintro e w2 ⟨rfl, hbw2⟩; (first | refine withN hbw2 ?_ | refine withD hbw2 ?_ | refine with0 hbw2 ?_); intro hcw2 hfw2))
    exact bodyPost_ret (results_tmp rfl _ _ _) rfl ⟨rfl, bcall (bcall (bal (b0 w) _) hbw1) hbw2⟩
  · have t1 : (chk k p != 0) = false := by simpa using h
    have t2 : ((nk : Int) != p.key) = true := by simpa using h2
    have t3 : ((nk : Int) != 0) = true := by simpa using h1
    generalize chk k p = r at *
    unfold stV
    unfold Pr.v Pr.cs Sl.v at *
    have HCK := Lib.hid hck; have HA := Lib.hid ha; clear hck ha h h1 h2
    go_enter Try.func3, Try.ntmps3
    go_wp2_with (first | (go_at_call 4; refine (HA.out _).mono ?_; rintro e w1 ⟨rfl, hbw1⟩; (first | refine withN hbw1 ?_ | refine withD hbw1 ?_ | refine with0 hbw1 ?_); intro hcw1 hfw1; have z0w1 : w.heap.size < w1.heap.size := (by have := hbw1.size; (try simp at this); omega)) | (go_at_call 5; refine (HCK.out _).mono ?_; rintro e w2 ⟨rfl, hbw2⟩; (first | refine withN hbw2 ?_ | refine withD hbw2 ?_ | refine with0 hbw2 ?_); intro hcw2 hfw2))
    exact bodyPost_ret (results_tmp rfl _ _ _) rfl ⟨rfl, bcall (bcall (bal (b0 w) _) hbw1) hbw2⟩
set_option maxRecDepth 20000 in
set_option maxHeartbeats 8000000 in
theorem nodeApart_main (big : Bool) (d : Nat) (p : Pr) (ls lp key data one two : List UInt8) (Ak Ad A1 A2 : Option Addr) (nk ck nd cd m1 c1 m2 c2 : Nat) (w : World) (hc : chk (kOf big) p = 0) (hp : PrIn w p ls lp) (hd : p.digest = d)
    (hk : key.length = nk) (hkk : nk = 0 ∨ (nk : Int) = p.key) (hrk : RS cB w w.heap.size Ak key) (hdl : data.length = nd) (hnd : nd ≤ cd) (hcd : cd ≤ 9223372036854775807) (hn47 : nd ≤ 1099511627776) (hrd : RS cB w w.heap.size Ad data)
    (hl1 : one.length = m1) (hn1 : m1 ≤ c1) (hc1 : c1 ≤ 9223372036854775807) (hn147 : m1 ≤ 1099511627776) (hr1 : RS cB w w.heap.size A1 one) (hl2 : two.length = m2) (hn2 : m2 ≤ c2) (hc2 : c2 ≤ 9223372036854775807) (hn247 : m2 ≤ 1099511627776) (hr2 : RS cB w w.heap.size A2 two) :
    Calls Try.prog 3 #[stV (kOf big) p (.slice Ak nk ck), .slice Ad nd cd, .slice A1 m1 c1, .slice A2 m2 c2] w fun e w' => e = .returned (.bool true) ∧ Below w.heap.size w w' := by
  obtain ⟨hf, hls, hlp, hrs, hrp, -, -⟩ := hp
  have hrg := chk_range hc
  have hb64 : bOf big ≤ 64 := by cases big <;> decide
  have hnkb : nk ≤ bOf big := by rcases hkk with h | h <;> omega
  have hdb : d ≤ bOf big := by omega
  obtain ⟨hdo, hf0, hf1⟩ := dec_encA (big := big) hc hf hls hlp
  have hel := encL_len big p ls lp (by omega) (by omega)
  have hck := fun W => refCheck_any (kOf big) p W
  have ha := fun W => awake5_any W
  obtain ⟨CS, hCS⟩ : ∃ CS : Array Value, stV (kOf big) p (.slice Ak nk ck) = .agg CS := ⟨_, rfl⟩
  have hfd : ∀ (L : List UInt8) (A : Option Addr) (n c : Nat) (W : World), L.length = n → n ≤ c → c ≤ 9223372036854775807 → n ≤ 9223372036854775806 → Below w.heap.size w W → RS cB W W.heap.size A L →
      Calls Try.prog 6 #[.agg CS, .slice A n c, .slice none 0 0] W fun e w' => ∃ q F, e = .returned (.pointer (some ⟨q, 0, none⟩)) ∧ Nd w' q big d (encL big p ls lp) key false (UInt64.ofNat n) ((startK big (encL big p ls lp) key).feed L) F ∧ (∀ k, k ∈ F → W.heap.size ≤ k) ∧ Below W.heap.size W w' := by
    intro L A n c W h1 h2 h3 h4 hb hr
    rw [← hCS]
    exact fed_any big d p ls lp key L [] Ak A none nk ck n c 0 0 W hc hf hd hls hlp ((hrs.below hb).more hb.size) ((hrp.below hb).more hb.size) hk hkk ((hrk.below hb).more hb.size) h1 h2 h3 h4 hr rfl (by decide) (RS.nil _) (fun _ h => by cases h)
  have hsv := sv_fed big (encL big p ls lp) key data hel (by omega) (by omega)
  have hful : ((startK big (encL big p ls lp) key).feed data).full = bOf big := by rw [Eng.feed_full, startK_full]
  have hap1 := Eng.feed_append (startK big (encL big p ls lp) key) (startK_ok big _ _) data one
  have hap2 := Eng.feed_append (startK big (encL big p ls lp) key) (startK_ok big _ _) data two
  have hfdA := hfd data
  have hfd1 := hfd (data ++ one)
  have hfd2 := hfd (data ++ two)
  rw [hap1] at hfd1
  rw [hap2] at hfd2
  clear hfd hap1 hap2
  have hload := fun (A : Option Addr) (n c : Nat) (W : World) h1 h2 h3 => load_of A n c big false (encL big p ls lp) key ((startK big (encL big p ls lp) key).feed data) W h1 h2 h3 hel hdo (by rw [hk]; rcases hkk with h | h; exact .inl h; exact .inr (by omega)) (by omega) hsv
  have hsave := fun q F W wr h => save_any q d big false (encL big p ls lp) key wr ((startK big (encL big p ls lp) key).feed data) F W h (by omega) (by omega)
  rw [show fld (encL big p ls lp) 0 1 = d by omega] at hload
  generalize (startK big (encL big p ls lp) key).feed data = E at *
  generalize encL big p ls lp = X at *
  have hfl1 : d ≤ (E.feed one).full := by rw [Eng.feed_full, hful]; exact hdb
  have hfl2 : d ≤ (E.feed two).full := by rw [Eng.feed_full, hful]; exact hdb
  have hol1 := Eng.out_len (E.feed one) false
  have hol2 := Eng.out_len (E.feed two) false
  have hs1 := fun q F wr W h => sumN_any q d big false X key wr (E.feed one) F W h hfl1
  have hs2 := fun q F wr W h => sumN_any q d big false X key wr (E.feed two) F W h hfl2
  have hsm1 := fun A1 A2 c1 c2 W h1 h2 => same5_any A1 A2 c1 c2 (((E.feed one).out false).take d) (((E.feed one).out false).take d) d d W (by rw [List.length_take, hol1]; omega) (by rw [List.length_take, hol1]; omega) (by omega) h1 h2
  have hsm2 := fun A1 A2 c1 c2 W h1 h2 => same5_any A1 A2 c1 c2 (((E.feed two).out false).take d) (((E.feed two).out false).take d) d d W (by rw [List.length_take, hol2]; omega) (by rw [List.length_take, hol2]; omega) (by omega) h1 h2
  have hfar1 : one ≠ [] → ∀ a, A1 = some a → a.block < w.heap.size := fun h0 a ha => by
    obtain ⟨b, y, hA, hlt, -, -⟩ := hr1.at_ (k := 0) (List.length_pos_iff.2 h0)
    rw [hA] at ha; injection ha with ha; rw [← ha]; exact hlt
  have hfar2 : two ≠ [] → ∀ a, A2 = some a → a.block < w.heap.size := fun h0 a ha => by
    obtain ⟨b, y, hA, hlt, -, -⟩ := hr2.at_ (k := 0) (List.length_pos_iff.2 h0)
    rw [hA] at ha; injection ha with ha; rw [← ha]; exact hlt
  have hcp := fun W hr => copied5_any Ad cd nd data W hdl (by omega) hr
  have t3 : ((nk : Int) != 0) = false ∨ (((nk : Int) != 0) = true ∧ ((nk : Int) != p.key) = false) := by
    by_cases h : nk = 0
    · exact .inl (by simpa using h)
    · exact .inr ⟨by simpa using h, by have := hkk.resolve_left h; simpa using this⟩
  simp only [hc] at hck
  have t1 : ((0 : Int) != 0) = false := rfl
  have hszS : (Try.prog.info? 28).map (·.size) = some CS.size := by
    rw [← Value.agg.inj hCS]; kernel_rfl
  rw [hCS]
  have HCK := Lib.hid hck; have HA := Lib.hid ha; have HFA := Lib.hid hfdA; have HF1C := Lib.hid hfd1; have HF2C := Lib.hid hfd2; have HLD := Lib.hid hload; have HSV := Lib.hid hsave; have HS1 := Lib.hid hs1; have HS2 := Lib.hid hs2; have HM1 := Lib.hid hsm1; have HM2 := Lib.hid hsm2; have HCP := Lib.hid hcp
  have HFR1 := Lib.hid hfar1; have HFR2 := Lib.hid hfar2; have HRD := Lib.hid hrd; have HR1 := Lib.hid hr1; have HR2 := Lib.hid hr2; have HDL := Lib.hid hdl; have HL1 := Lib.hid hl1; have HL2 := Lib.hid hl2; have HSZ := Lib.hid hszS
  clear hck ha hfdA hfd1 hfd2 hload hsave hs1 hs2 hsm1 hsm2 hcp hfar1 hfar2 hrd hr1 hr2 hdl hl1 hl2 hszS hsv hful hol1 hol2 hfl1 hfl2 hdo hf0 hf1 hel hrg hb64 hnkb hdb hf hls hlp hrs hrp hrk hk hkk hc hd
  unfold stV at hCS
  unfold Pr.v Pr.cs Sl.v at HCK
  have HCS := Lib.hid (Value.agg.inj hCS)
  have hust := Lib.hid Try.underlying28
  rcases t3 with t3 | ⟨t3, t4⟩
  all_goals
    rw [← hCS]
    clear hCS
    go_enter Try.func3, Try.ntmps3
    go_upto_region 5 with (first | (go_at_call 4; refine (HA.out _).mono ?_; rintro e w1 ⟨rfl, hbw1⟩; (first | refine withN hbw1 ?_ | refine withD hbw1 ?_ | refine with0 hbw1 ?_); intro hcw1 hfw1; have z0w1 : w.heap.size < w1.heap.size := (by have := hbw1.size; (try simp at this); omega)) | (go_at_call 5; refine (HCK.out _).mono ?_; rintro e w2 ⟨rfl, hbw2⟩; (first | refine withN hbw2 ?_ | refine withD hbw2 ?_ | refine with0 hbw2 ?_); intro hcw2 hfw2))
    have hbx := ((Blk.new w 28 CS).below (by rw [← HCS.out]; exact hbw1) (by simp)).below hbw2 z0w1
    have hb2 := bcall (bcall (bal (b0 w) _) hbw1) hbw2
    have hz2 : w.heap.size < w2.heap.size := Nat.lt_of_lt_of_le z0w1 hbw2.size
    have HBX := Lib.hid hbx; have HB := Lib.hid hb2; have HGW := Lib.hid hz2
    clear hbw1 hbw2 hcw1 hcw2 hfw1 hfw2 z0w1 hbx hb2 hz2
    obtain ⟨g, hg⟩ : ∃ g, g = w.heap.size := ⟨_, rfl⟩
    rw [← hg] at HBX HGW ⊢
    have HWG := Lib.hid (show w.heap.size ≤ g by omega)
    clear hg
    go_upto_region 6 with (first
      | (refine wpList_load_row rfl 28 _ rfl g rfl 28 CS (0, 0) _ HBX.out hust.out rfl HSZ.out ?_)
      | (go_at_call 6; refine (HFA.out Ad nd cd _ HDL.out hnd hcd (by omega) HB.out ((HRD.out.below HB.out).more HB.out.size)).mono ?_; rintro e3 u3 ⟨q1, Fn, rfl, hN1, hF1, hb3⟩; have HN := Lib.hid hN1; have HNF := Lib.hid (fun k hk => Nat.lt_of_lt_of_le HGW.out (hF1 k hk)); have HB3 := Lib.hid hb3; clear hN1 hF1 hb3))
    replace HBX := Lib.hid (HBX.out.below HB3.out HGW.out)
    have HG3 := Lib.hid HBX.out.lt
    replace HB := Lib.hid (bcall HB.out HB3.out)
    clear HB3 HFA
    obtain ⟨R, F1, hN1, hRF⟩ := HN.out.s
    have HN1 := Lib.hid hN1
    have HF1 := Lib.hid (fun k hk => HNF.out k ((hRF k).2 (.inl hk)))
    have HRR := Lib.hid (fun k hk => HNF.out k ((hRF k).2 (.inr hk)))
    have HLT1 := Lib.hid hN1.lt; have HLTR := Lib.hid hN1.ltR
    clear hN1 hRF HN HNF
    go_upto_region 9 with (go_at_call 7; refine (copyS_any q1 d big false X key _ E R F1 _ HN1.out).mono ?_; rintro e4 u4 ⟨q2, F2, rfl, hN2, hF2, hb4⟩; have HN2 := Lib.hid hN2; have HF2L := Lib.hid hF2; have HB4 := Lib.hid hb4; clear hN2 hF2 hb4)
    replace HN1 := Lib.hid (HN1.out.below HB4.out)
    replace HBX := Lib.hid (HBX.out.below HB4.out HBX.out.lt)
    replace HB := Lib.hid (bcall HB.out HB4.out)
    have HS4 := Lib.hid HB4.out.size
    have HLT2 := Lib.hid HN2.out.lt
    have HGL := Lib.hid HG3.out
    clear HB4
    obtain ⟨Fx, hNx, -⟩ := HN1.out.nd
    go_upto_region 10 with (first
      | (go_at_call 9; refine (HSV.out q1 Fx _ _ hNx).mono ?_; rintro e5 u5 ⟨A5, n5, c5, rfl, hn5, hl5, ho5, hb5⟩; have HO5 := Lib.hid ho5; have HL5 := Lib.hid hl5; have HB5 := Lib.hid hb5; have HN5 := Lib.hid hn5; clear ho5 hl5 hb5 hn5)
      | (go_at_call 8; refine (HLD.out A5 n5 c5 _ HL5.out ⟨by have := HO5.out.len_le.1; rw [HL5.out] at this; exact this, by have := HO5.out.len_le.2; unfold maxLen at this; omega⟩ HO5.out.reads).mono ?_; rintro e6 u6 ⟨q3, F3, rfl, hN3, hF3, hb6⟩; have HN3 := Lib.hid hN3; have HF3L := Lib.hid hF3; have HB6 := Lib.hid hb6; clear hN3 hF3 hb6))
    have hb9 := bcall HB5.out HB6.out
    have HS6 := Lib.hid hb9.size
    replace HN1 := Lib.hid (HN1.out.below hb9)
    replace HN2 := Lib.hid (HN2.out.below hb9)
    replace HBX := Lib.hid (HBX.out.below hb9 HBX.out.lt)
    replace HB := Lib.hid (bcall HB.out hb9)
    obtain ⟨R3, F3', hN3, hRF3⟩ := HN3.out.s
    have HN3S := Lib.hid hN3
    have HR3L := Lib.hid (show ∀ k, k ∈ R3 → u4.heap.size ≤ k from fun k hk => Nat.le_trans HB5.out.size (HF3L.out k ((hRF3 k).2 (.inr hk))))
    have HF3M := Lib.hid (show ∀ k, k ∈ F3' → u4.heap.size ≤ k from fun k hk => Nat.le_trans HB5.out.size (HF3L.out k ((hRF3 k).2 (.inl hk))))
    have HLT3 := Lib.hid hN3.lt
    clear hb9 hN3 hRF3 HN3 HF3L HB5 HB6 HO5 HL5 HN5 hNx HSV HLD
    go_wp2_with fail
    refine (writeS_any q1 d big false X key _ E R F1 A1 m1 c1 one _ HN1.out HL1.out hn1 hc1 ((HR1.out.below HB.out).more HB.out.size) (fun h0 a ha hm => by have h1 := HFR1.out h0 a ha; have h2 := HF1.out _ hm; have h3 := HWG.out; omega)).mono ?_
    rintro e7 u7 ⟨rfl, F1', hN1, hsub1, hbt⟩
    have HAP := Lib.hid HN1.out.apart
    replace HN2 := Lib.hid (HN2.out.but hbt HAP.out (fun k hk hm => by have h1 := HF2L.out k hk; have h2 := HLT1.out k hm; omega))
    replace HN3S := Lib.hid (HN3S.out.but hbt (fun k hk hm => by have h1 := HR3L.out k hk; have h2 := HLT1.out k hm; have h3 := HS4.out; omega) (fun k hk hm => by have h1 := HF3M.out k hk; have h2 := HLT1.out k hm; have h3 := HS4.out; omega))
    replace HBX := Lib.hid (HBX.out.but hbt (fun hm => by have h1 := HF1.out _ hm; omega))
    replace HB := Lib.hid (HB.out.trans (hbt.toBelow HB.out.size (fun k hk => by have h1 := HF1.out k hk; have h2 := HWG.out; omega)))
    have HS7 := Lib.hid hbt.size
    replace HN1 := Lib.hid hN1
    have HSUB1 := Lib.hid hsub1
    clear hN1 hsub1 hbt
    go_wp2_with fail
    refine (writeS_any q2 d big false X key _ E R F2 A2 m2 c2 two _ HN2.out HL2.out hn2 hc2 ((HR2.out.below HB.out).more HB.out.size) (fun h0 a ha hm => by have h1 := HFR2.out h0 a ha; have h2 := HF2L.out _ hm; have h3 := HWG.out; have h4 := HGL.out; omega)).mono ?_
    rintro e8 u8 ⟨rfl, F2', hN2, hsub2, hbt⟩
    replace HN1 := Lib.hid (HN1.out.but hbt (fun k hk hm => by have h1 := HLTR.out k hk; have h2 := HF2L.out k hm; omega) (fun k hk hm => by have h2 := HF2L.out k hm; have h3 := HLT2.out k hm; have h5 := HS6.out; rcases HSUB1.out k hk with h | h; (have h4 := HLT1.out k h; omega); omega))
    replace HN3S := Lib.hid (HN3S.out.but hbt (fun k hk hm => by have h1 := HR3L.out k hk; have h2 := HLT2.out k hm; omega) (fun k hk hm => by have h1 := HF3M.out k hk; have h2 := HLT2.out k hm; omega))
    replace HBX := Lib.hid (HBX.out.but hbt (fun hm => by have h1 := HF2L.out _ hm; have h4 := HGL.out; omega))
    replace HB := Lib.hid (HB.out.trans (hbt.toBelow HB.out.size (fun k hk => by have h1 := HF2L.out k hk; have h2 := HWG.out; have h4 := HGL.out; omega)))
    replace HN2 := Lib.hid hN2
    have HSUB2 := Lib.hid hsub2
    clear hN2 hsub2 hbt
    go_wp2_with fail
    refine (writeS_any q3 d big false X key _ E R3 F3' A2 m2 c2 two _ HN3S.out HL2.out hn2 hc2 ((HR2.out.below HB.out).more HB.out.size) (fun h0 a ha hm => by have h1 := HFR2.out h0 a ha; have h2 := HF3M.out _ hm; have h3 := HWG.out; have h4 := HGL.out; have h5 := HS4.out; omega)).mono ?_
    rintro e9 u9 ⟨rfl, F3x, hN3, hsub3, hbt⟩
    replace HN1 := Lib.hid (HN1.out.but hbt (fun k hk hm => by have h1 := HLTR.out k hk; have h2 := HF3M.out k hm; have h3 := HS4.out; omega) (fun k hk hm => by have h2 := HF3M.out k hm; have h3 := HLT3.out k hm; have h5 := HS4.out; rcases HSUB1.out k hk with h | h; (have h4 := HLT1.out k h; omega); omega))
    replace HN2 := Lib.hid (HN2.out.but hbt (fun k hk hm => by have h1 := HLTR.out k hk; have h2 := HF3M.out k hm; have h3 := HS4.out; omega) (fun k hk hm => by have h2 := HF3M.out k hm; have h3 := HLT3.out k hm; have h5 := HS7.out; rcases HSUB2.out k hk with h | h; (have h4 := HLT2.out k h; omega); omega))
    replace HBX := Lib.hid (HBX.out.but hbt (fun hm => by have h1 := HF3M.out _ hm; have h4 := HGL.out; have h5 := HS4.out; omega))
    replace HB := Lib.hid (HB.out.trans (hbt.toBelow HB.out.size (fun k hk => by have h1 := HF3M.out k hk; have h2 := HWG.out; have h4 := HGL.out; have h5 := HS4.out; omega)))
    replace HN3S := Lib.hid hN3
    clear hN3 hsub3 hbt
    go_upto_region 12 with fail
    clear HSUB1 HSUB2 HAP
    generalize u9 = u at *
    obtain ⟨Fa, hNa, -⟩ := HN1.out.nd
    obtain ⟨Fb, hNb, -⟩ := HN2.out.nd
    obtain ⟨Fc, hNc, -⟩ := HN3S.out.nd
    have HNa := Lib.hid hNa; have HNb := Lib.hid hNb; have HNc := Lib.hid hNc
    clear hNa hNb hNc HN1 HN2 HN3S
    refine wp_region_ords (fun W' => Below u.heap.size u W') (fun _ n h => bdr h n) (Ords.of [(0, 0), (0, 1), (0, 3), (2, 2), (2, 4), (2, 5), (0, 6)] .fin) (by kernel_rfl) rfl (by kernel_rfl) (by kernel_rfl) (fun c a d v w h => by cases d <;> exact h) (b0 u) ?_
    refine ords_held (v := Value.agg CS) rfl rfl (fun w9 hS => pure_load_blk 28 (.tmp 4) rfl g rfl CS _ 28 (HBX.out.below hS HBX.out.lt) hust.out rfl HSZ.out) ?_; go_simp
    iterate 2 (refine ords_pure rfl (fun K hK => ?_); go_simp; refine hK _ ?_; clear hK K)
    refine ords_loud rfl (fun n1 => ?_)
    go_wp2_with (go_at_call 11; refine (HCP.out _ (((HRD.out.below HB.out).more HB.out.size).drewN n1)).mono ?_; rintro e1 v1 ⟨A7, c7, rfl, ho7, hb7⟩; have HO7 := Lib.hid ho7; have HB7 := Lib.hid (bcall (bdr (b0 u) _) hb7); clear ho7 hb7)
    refine ⟨HB7.out, ?_⟩
    refine ords_loud rfl (fun n2 => ?_)
    (refine wpList_appB _ rfl (.tmp 81) (.tmp 82) rfl (HO7.out.drewN n2) rfl HDL.out ((((HR1.out.below HB.out).more HB.out.size).below HB7.out).drewN n2) rfl HL1.out (by omega) HB7.out.size ?_; intro A8 c8 v2 ho8 hg8 hA8; have HO8 := Lib.hid ho8; have HB8 := Lib.hid (bapp (bdr HB7.out n2) (HO7.out.drewN n2) hg8); clear ho8 hg8 hA8)
    refine ⟨HB8.out, ?_⟩
    refine ords_loud rfl (fun n3 => ?_)
    have hln : (data ++ one).length = nd + m1 := by rw [List.length_append, HDL.out, HL1.out]
    have hle := HO8.out.len_le
    rw [hln] at hle
    have HLE := Lib.hid hle; have HLN := Lib.hid hln
    clear hle hln
    go_wp2_with (go_at_call 6; refine (HF1C.out A8 (nd + m1) c8 _ HLN.out HLE.out.1 (by have := HLE.out.2; unfold maxLen at this; omega) (by omega) (bdr (HB.out.trans (HB8.out.mono HB.out.size)) _) ((HO8.out.reads).drewN _)).mono ?_; rintro e3 v3 ⟨q4, Fq4, rfl, hN4, hF4, hb9⟩; have HNq4 := Lib.hid hN4; have HB9 := Lib.hid (bcall (bdr HB8.out _) hb9); clear hN4 hF4 hb9)
    refine ⟨HB9.out, ?_⟩
    refine ords_pure rfl (fun K hK => ?_); go_simp; refine hK _ ?_; clear hK K
    refine ords_end (fun n4 => ?_)
    have hb9 := bdr HB9.out n4
    replace HNq4 := Lib.hid (HNq4.out.drewN n4)
    clear HO7 HB7 HO8 HB8 HB9 HLE HLN
    generalize v3.drewN n4 = u9 at *
    replace HNa := Lib.hid (HNa.out.below hb9); replace HNb := Lib.hid (HNb.out.below hb9); replace HNc := Lib.hid (HNc.out.below hb9)
    replace HB := Lib.hid (bcall HB.out hb9)
    replace HBX := Lib.hid (HBX.out.below hb9 HBX.out.lt)
    clear hb9
    generalize u9 = u at *
    go_upto_region 13 with fail
    refine wp_region_ords (fun W' => Below u.heap.size u W') (fun _ n h => bdr h n) (Ords.of [(0, 0), (0, 1), (0, 3), (2, 2), (2, 4), (2, 5), (0, 6)] .fin) (by kernel_rfl) rfl (by kernel_rfl) (by kernel_rfl) (fun c a d v w h => by cases d <;> exact h) (b0 u) ?_
    refine ords_held (v := Value.agg CS) rfl rfl (fun w9 hS => pure_load_blk 28 (.tmp 4) rfl g rfl CS _ 28 (HBX.out.below hS HBX.out.lt) hust.out rfl HSZ.out) ?_; go_simp
    iterate 2 (refine ords_pure rfl (fun K hK => ?_); go_simp; refine hK _ ?_; clear hK K)
    refine ords_loud rfl (fun n1 => ?_)
    go_wp2_with (go_at_call 11; refine (HCP.out _ (((HRD.out.below HB.out).more HB.out.size).drewN n1)).mono ?_; rintro e1 v1 ⟨A7, c7, rfl, ho7, hb7⟩; have HO7 := Lib.hid ho7; have HB7 := Lib.hid (bcall (bdr (b0 u) _) hb7); clear ho7 hb7)
    refine ⟨HB7.out, ?_⟩
    refine ords_loud rfl (fun n2 => ?_)
    (refine wpList_appB _ rfl (.tmp 87) (.tmp 88) rfl (HO7.out.drewN n2) rfl HDL.out ((((HR2.out.below HB.out).more HB.out.size).below HB7.out).drewN n2) rfl HL2.out (by omega) HB7.out.size ?_; intro A8 c8 v2 ho8 hg8 hA8; have HO8 := Lib.hid ho8; have HB8 := Lib.hid (bapp (bdr HB7.out n2) (HO7.out.drewN n2) hg8); clear ho8 hg8 hA8)
    refine ⟨HB8.out, ?_⟩
    refine ords_loud rfl (fun n3 => ?_)
    have hln : (data ++ two).length = nd + m2 := by rw [List.length_append, HDL.out, HL2.out]
    have hle := HO8.out.len_le
    rw [hln] at hle
    have HLE := Lib.hid hle; have HLN := Lib.hid hln
    clear hle hln
    go_wp2_with (go_at_call 6; refine (HF2C.out A8 (nd + m2) c8 _ HLN.out HLE.out.1 (by have := HLE.out.2; unfold maxLen at this; omega) (by omega) (bdr (HB.out.trans (HB8.out.mono HB.out.size)) _) ((HO8.out.reads).drewN _)).mono ?_; rintro e3 v3 ⟨q5, Fq5, rfl, hN4, hF4, hb9⟩; have HNq5 := Lib.hid hN4; have HB9 := Lib.hid (bcall (bdr HB8.out _) hb9); clear hN4 hF4 hb9)
    refine ⟨HB9.out, ?_⟩
    refine ords_pure rfl (fun K hK => ?_); go_simp; refine hK _ ?_; clear hK K
    refine ords_end (fun n4 => ?_)
    have hb9 := bdr HB9.out n4
    replace HNq5 := Lib.hid (HNq5.out.drewN n4)
    clear HO7 HB7 HO8 HB8 HB9 HLE HLN
    generalize v3.drewN n4 = u9 at *
    replace HNq4 := Lib.hid (HNq4.out.below hb9)
    replace HNa := Lib.hid (HNa.out.below hb9); replace HNb := Lib.hid (HNb.out.below hb9); replace HNc := Lib.hid (HNc.out.below hb9)
    replace HB := Lib.hid (bcall HB.out hb9)
    replace HBX := Lib.hid (HBX.out.below hb9 HBX.out.lt)
    clear hb9
    generalize u9 = u at *
    go_wp2_with fail
    refine (HS1.out q1 Fa _ _ HNa.out).mono ?_
    rintro f1 s1 ⟨B1, b1, rfl, hp1, hv1⟩
    have HP1 := Lib.hid hp1.reads; have HV1 := Lib.hid (hv1)
    clear hp1 hv1
    go_wp2_with fail
    refine (HS1.out q4 Fq4 _ _ (HNq4.out.below HV1.out)).mono ?_
    rintro f2 s2 ⟨B2, b2, rfl, hp2, hv2⟩
    have HP2 := Lib.hid hp2.reads; have HV2 := Lib.hid (bcall HV1.out hv2); replace HP1 := Lib.hid ((HP1.out.below hv2).more hv2.size)
    clear hp2 hv2
    go_wp2_with fail
    refine (HM1.out _ _ _ _ _ HP1.out HP2.out).mono ?_
    rintro f3 s3 ⟨rfl, hv3⟩
    have HV3 := Lib.hid (bcall HV2.out hv3)
    clear hv3
    go_wp2_with fail
    refine (HS2.out q2 Fb _ _ (HNb.out.below HV3.out)).mono ?_
    rintro f4 s4 ⟨B4, b4, rfl, hp4, hv4⟩
    have HP4 := Lib.hid hp4.reads; have HV4 := Lib.hid (bcall HV3.out hv4)
    clear hp4 hv4
    go_wp2_with fail
    refine (HS2.out q5 Fq5 _ _ (HNq5.out.below HV4.out)).mono ?_
    rintro f5 s5 ⟨B5, b5, rfl, hp5, hv5⟩
    have HP5 := Lib.hid hp5.reads; have HV5 := Lib.hid (bcall HV4.out hv5); replace HP4 := Lib.hid ((HP4.out.below hv5).more hv5.size)
    clear hp5 hv5
    go_wp2_with fail
    refine (HM2.out _ _ _ _ _ HP4.out HP5.out).mono ?_
    rintro f6 s6 ⟨rfl, hv6⟩
    have HV6 := Lib.hid (bcall HV5.out hv6)
    clear hv6
    go_wp2_with fail
    refine (HS2.out q3 Fc _ _ (HNc.out.below HV6.out)).mono ?_
    rintro f7 s7 ⟨B7, b7, rfl, hp7, hv7⟩
    have HP7 := Lib.hid hp7.reads; have HV7 := Lib.hid (bcall HV6.out hv7)
    clear hp7 hv7
    go_wp2_with fail
    refine (HS2.out q5 Fq5 _ _ (HNq5.out.below HV7.out)).mono ?_
    rintro f8 s8 ⟨B8, b8, rfl, hp8, hv8⟩
    have HP8 := Lib.hid hp8.reads; have HV8 := Lib.hid (bcall HV7.out hv8); replace HP7 := Lib.hid ((HP7.out.below hv8).more hv8.size)
    clear hp8 hv8
    go_wp2_with fail
    refine (HM2.out _ _ _ _ _ HP7.out HP8.out).mono ?_
    rintro f9 s9 ⟨rfl, hv9⟩
    have HV9 := Lib.hid (bcall HV8.out hv9)
    clear hv9
    go_wp2_with fail
    exact bodyPost_ret (results_tmp rfl _ _ _) rfl ⟨rfl, HB.out.trans (HV9.out.mono HB.out.size)⟩
theorem nodeApart_law (k : Int) (p : Pr) (ls lp key data one two : List UInt8) (Ak Ad A1 A2 : Option Addr) (nk ck nd cd m1 c1 m2 c2 : Nat) (w : World) (hp : PrIn w p ls lp)
    (hk : key.length = nk) (hrk : RS cB w w.heap.size Ak key) (hdl : data.length = nd) (hnd : nd ≤ cd) (hcd : cd ≤ 9223372036854775807) (hn47 : nd ≤ 1099511627776) (hrd : RS cB w w.heap.size Ad data)
    (hl1 : one.length = m1) (hn1 : m1 ≤ c1) (hc1 : c1 ≤ 9223372036854775807) (hn147 : m1 ≤ 1099511627776) (hr1 : RS cB w w.heap.size A1 one) (hl2 : two.length = m2) (hn2 : m2 ≤ c2) (hc2 : c2 ≤ 9223372036854775807) (hn247 : m2 ≤ 1099511627776) (hr2 : RS cB w w.heap.size A2 two) :
    Calls Try.prog 3 #[stV k p (.slice Ak nk ck), .slice Ad nd cd, .slice A1 m1 c1, .slice A2 m2 c2] w fun e w' => e = .returned (.bool true) ∧ Below w.heap.size w w' := by
  by_cases hc : chk k p = 0
  · by_cases h1 : nk = 0 ∨ (nk : Int) = p.key
    · obtain ⟨big, rfl⟩ := kind_of hc
      obtain ⟨d, hd⟩ : ∃ d : Nat, p.digest = d := ⟨p.digest.toNat, by have := chk_range hc; omega⟩
      exact nodeApart_main big d p ls lp key data one two Ak Ad A1 A2 nk ck nd cd m1 c1 m2 c2 w hc hp hd hk h1 hrk hdl hnd hcd hn47 hrd hl1 hn1 hc1 hn147 hr1 hl2 hn2 hc2 hn247 hr2
    · exact nodeApart_out k p Ak nk ck _ _ _ w (.inr ⟨hc, fun h => h1 (.inl h), fun h => h1 (.inr h)⟩)
  · exact nodeApart_out k p Ak nk ck _ _ _ w (.inl hc)
end Go.Proofs.Ytboihcigcfmhhaa

/-
  NodeCuts' law. Contracts alone; no statement is claimed here.
-/
import Derived.Test.YtlnnfijdldkpiaaNKeys
import Derived.Test.YtlnnfijdldkpiaaSave
namespace Go.Proofs.Ytlnnfijdldkpiaa
open Go.RowKit
attribute [local go_sem] pureUpon Ords.of

set_option maxRecDepth 20000 in
set_option maxHeartbeats 2000000 in
theorem nodeCuts_out (k : Int) (p : Pr) (Ak : Option Addr) (nk ck : Nat) (data cuts : Value) (w : World) (h : chk k p ≠ 0 ∨ (chk k p = 0 ∧ nk ≠ 0 ∧ (nk : Int) ≠ p.key)) :
    Calls Try.prog 6 #[stV k p (.slice Ak nk ck), data, cuts] w fun e w' => e = .returned (.bool true) ∧ Below w.heap.size w w' := by
  have hck := fun W => refCheck_any k p W
  have ha := fun W => awake5_any W
  rcases h with h | ⟨h, h1, h2⟩
  · have t1 : (chk k p != 0) = true := by simpa using h
    generalize chk k p = r at *
    unfold stV
    unfold Pr.v Pr.cs Sl.v at *
    have HCK := Lib.hid hck; have HA := Lib.hid ha; clear hck ha h
    go_enter Try.func6, Try.ntmps6
    go_wp2_with (first | (go_at_call 12; refine (HA.out _).mono ?_; rintro e w1 ⟨rfl, hbw1⟩; (first | refine withN hbw1 ?_ | refine withD hbw1 ?_ | refine with0 hbw1 ?_); intro hcw1 hfw1; have z0w1 : w.heap.size < w1.heap.size := (by have := hbw1.size; (try simp at this); omega)) | (go_at_call 13; refine (HCK.out _).mono ?_; rintro e w2 ⟨rfl, hbw2⟩; (first | refine withN hbw2 ?_ | refine withD hbw2 ?_ | refine with0 hbw2 ?_); intro hcw2 hfw2))
    exact bodyPost_ret (results_tmp rfl _ _ _) rfl ⟨rfl, bcall (bcall (bal (b0 w) _) hbw1) hbw2⟩
  · have t1 : (chk k p != 0) = false := by simpa using h
    have t2 : ((nk : Int) != p.key) = true := by simpa using h2
    have t3 : ((nk : Int) != 0) = true := by simpa using h1
    generalize chk k p = r at *
    unfold stV
    unfold Pr.v Pr.cs Sl.v at *
    have HCK := Lib.hid hck; have HA := Lib.hid ha; clear hck ha h h1 h2
    go_enter Try.func6, Try.ntmps6
    go_wp2_with (first | (go_at_call 12; refine (HA.out _).mono ?_; rintro e w1 ⟨rfl, hbw1⟩; (first | refine withN hbw1 ?_ | refine withD hbw1 ?_ | refine with0 hbw1 ?_); intro hcw1 hfw1; have z0w1 : w.heap.size < w1.heap.size := (by have := hbw1.size; (try simp at this); omega)) | (go_at_call 13; refine (HCK.out _).mono ?_; rintro e w2 ⟨rfl, hbw2⟩; (first | refine withN hbw2 ?_ | refine withD hbw2 ?_ | refine with0 hbw2 ?_); intro hcw2 hfw2))
    exact bodyPost_ret (results_tmp rfl _ _ _) rfl ⟨rfl, bcall (bcall (bal (b0 w) _) hbw1) hbw2⟩
set_option maxRecDepth 20000 in
set_option maxHeartbeats 4000000 in
theorem nodeCuts_main (big : Bool) (d : Nat) (p : Pr) (ls lp key data : List UInt8) (zs : List Int) (Ak Ad Ac : Option Addr) (nk ck nd cd nc cc : Nat) (w : World) (hc : chk (kOf big) p = 0) (hp : PrIn w p ls lp) (hd : p.digest = d)
    (hk : key.length = nk) (hkk : nk = 0 ∨ (nk : Int) = p.key) (hrk : RS cB w w.heap.size Ak key) (hdl : data.length = nd) (hnd : nd ≤ cd) (hcd : cd ≤ 9223372036854775807) (hn47 : nd ≤ 140737488351232) (hrd : RS cB w w.heap.size Ad data)
    (hz : zs.length = nc) (hnc : nc ≤ 9223372036854775807) (hrz : RS cI w w.heap.size Ac zs) (hzr : ∀ z ∈ zs, -9223372036854775808 ≤ z ∧ z ≤ 9223372036854775807) :
    Calls Try.prog 6 #[stV (kOf big) p (.slice Ak nk ck), .slice Ad nd cd, .slice Ac nc cc] w fun e w' => e = .returned (.bool true) ∧ Below w.heap.size w w' := by
  obtain ⟨hf, hls, hlp, hrs, hrp, -, -⟩ := hp
  have hrg := chk_range hc
  have hb64 : bOf big ≤ 64 := by cases big <;> decide
  have hnkb : nk ≤ bOf big := by rcases hkk with h | h <;> omega
  have hdb : d ≤ bOf big := by omega
  have hd1 : 1 ≤ d := by omega
  have hck := fun W => refCheck_any (kOf big) p W
  have ha := fun W => awake5_any W
  have hf1 := fun W hrs hrp hrk hrd hrz => fed_any big d p ls lp key data zs Ak Ad Ac nk ck nd cd nc cc W hc hf hd hls hlp hrs hrp hk hkk hrk hdl hnd hcd (by omega) hrd hz hnc hrz hzr
  have hf2 := fun W hrs hrp hrk hrd => fed_any big d p ls lp key data [] Ak Ad none nk ck nd cd 0 0 W hc hf hd hls hlp hrs hrp hk hkk hrk hdl hnd hcd (by omega) hrd rfl (by decide) (RS.nil _) (fun _ h => by cases h)
  have hha := fun W hrs hrp hrk hrd => hash_any big false d d p ls lp key data Ak Ad nk ck nd cd W hc hf hd hls hlp hrs hrp hk hkk hrk hdl hnd hcd hrd ⟨hd1, hdb⟩
  have hel := encL_len big p ls lp (by omega) (by omega)
  have hsf := startK_full big (encL big p ls lp) key
  unfold hashL at hha
  have hsz1 : ((startK big (encL big p ls lp) key).feed data).full = bOf big := by rw [Eng.feed_full, hsf]
  have hol := Eng.out_len ((startK big (encL big p ls lp) key).feed data) false
  rw [hsz1] at hol
  have hs1 := fun q F W h => sumN_any q d big false (encL big p ls lp) key (UInt64.ofNat nd) ((startK big (encL big p ls lp) key).feed data) F W h (by rw [hsz1]; exact hdb)
  have hwn := fun q F W h => writtenN_any q d big false (encL big p ls lp) key (UInt64.ofNat nd) ((startK big (encL big p ls lp) key).feed data) F W h
  have hsv := fun q F W h => save_any q d big false (encL big p ls lp) key (UInt64.ofNat nd) ((startK big (encL big p ls lp) key).feed data) F W h (by omega) (by omega)
  have hsm := fun A1 A2 c1 c2 W h1 h2 => same5_any A1 A2 c1 c2 ((((startK big (encL big p ls lp) key).feed data).out false).take d) ((((startK big (encL big p ls lp) key).feed data).out false).take d) d d W (by rw [List.length_take, hol]; omega) (by rw [List.length_take, hol]; omega) (by omega) h1 h2
  have x0 : wrd (UInt64.ofNat nd) = (nd : Int) := by rw [wrd_ofNat]; omega
  rw [x0] at hwn
  have t3 : ((nk : Int) != 0) = false ∨ (((nk : Int) != 0) = true ∧ ((nk : Int) != p.key) = false) := by
    by_cases h : nk = 0
    · exact .inl (by simpa using h)
    · exact .inr ⟨by simpa using h, by have := hkk.resolve_left h; simpa using this⟩
  simp only [hc] at hck
  clear hsz1 hol hrg hel hsf x0 hkk
  generalize (startK big (encL big p ls lp) key).feed data = E at *
  generalize encL big p ls lp = X at *
  generalize E.out false = EO at *
  have hss := fun A1 A2 c1 c2 n W (hn : (saveL big X key false E).length = n) (hn2 : n ≤ 1024) h1 h2 => same5_any A1 A2 c1 c2 (saveL big X key false E) (saveL big X key false E) n n W hn hn (by omega) h1 h2
  generalize saveL big X key false E = SV at *
  generalize UInt64.ofNat nd = u1 at *
  have x2 : IntKind.u64.wrap (nd : Int) = nd := by rw [wrap_u64]; omega
  have t1 : ((0 : Int) != 0) = false := rfl
  generalize hkq : kOf big = kk at *
  unfold stV at *
  unfold Pr.v Pr.cs Sl.v at *
  rw [hd] at *
  have HCK := Lib.hid hck; have HA := Lib.hid ha; have HF1 := Lib.hid hf1; have HF2 := Lib.hid hf2; have HHA := Lib.hid hha; have HS1 := Lib.hid hs1; have HWN := Lib.hid hwn; have HSV := Lib.hid hsv; have HSM := Lib.hid hsm; have HSS := Lib.hid hss
  have HRS := Lib.hid hrs; have HRP := Lib.hid hrp; have HRK := Lib.hid hrk; have HRD := Lib.hid hrd; have HRZ := Lib.hid hrz
  clear hck ha hf1 hf2 hha hs1 hwn hsv hsm hss hrs hrp hrk hrd hrz hk hdl hd hc hf hls hlp hz hzr hkq
  rcases t3 with t3 | ⟨t3, t4⟩
  all_goals
    go_enter Try.func6, Try.ntmps6
    go_wp2_with (first | (go_at_call 12; refine (HA.out _).mono ?_; rintro e w1 ⟨rfl, hbw1⟩; (first | refine withN hbw1 ?_ | refine withD hbw1 ?_ | refine with0 hbw1 ?_); intro hcw1 hfw1; have z0w1 : w.heap.size < w1.heap.size := (by have := hbw1.size; (try simp at this); omega)) | (go_at_call 13; refine (HCK.out _).mono ?_; rintro e w2 ⟨rfl, hbw2⟩; (first | refine withN hbw2 ?_ | refine withD hbw2 ?_ | refine with0 hbw2 ?_); intro hcw2 hfw2))
    have HB2 := Lib.hid (bcall (bcall (bal (b0 w) _) hbw1) hbw2)
    have hz2 : w.heap.size < w2.heap.size := Nat.lt_of_lt_of_le z0w1 hbw2.size
    refine (HF1.out _ ((HRS.out.below HB2.out).more HB2.out.size) ((HRP.out.below HB2.out).more HB2.out.size) ((HRK.out.below HB2.out).more HB2.out.size) ((HRD.out.below HB2.out).more HB2.out.size) ((HRZ.out.below HB2.out).more HB2.out.size)).mono ?_
    rintro e3 w3 ⟨q1, F1, rfl, hN1, hF1, hbw3⟩
    have HN1 := Lib.hid hN1; have HB3 := Lib.hid (bcall HB2.out hbw3); clear hN1 hF1
    have hz3 : w.heap.size < w3.heap.size := Nat.lt_of_lt_of_le hz2 hbw3.size
    (refine with0 hbw3 ?_; intro hcw3 hfw3)
    go_wp2_with fail
    refine (HF2.out _ ((HRS.out.below HB3.out).more HB3.out.size) ((HRP.out.below HB3.out).more HB3.out.size) ((HRK.out.below HB3.out).more HB3.out.size) ((HRD.out.below HB3.out).more HB3.out.size)).mono ?_
    rintro e4 w4 ⟨q2, F2, rfl, hN2, hF2, hbw4⟩
    have HN2 := Lib.hid hN2; have HB4 := Lib.hid (bcall HB3.out hbw4); have HN1' := Lib.hid (HN1.out.below hbw4); clear hN2 hF2
    have hz4 : w.heap.size < w4.heap.size := Nat.lt_of_lt_of_le hz3 hbw4.size
    (refine with0 hbw4 ?_; intro hcw4 hfw4)
    go_wp2_with fail
    refine (HHA.out _ ((HRS.out.below HB4.out).more HB4.out.size) ((HRP.out.below HB4.out).more HB4.out.size) ((HRK.out.below HB4.out).more HB4.out.size) ((HRD.out.below HB4.out).more HB4.out.size)).mono ?_
    rintro e5 w5 ⟨A5, c5, rfl, ho5, hbw5⟩
    have HO5 := Lib.hid ho5.reads; have HB5 := Lib.hid (bcall HB4.out hbw5); have HN15 := Lib.hid (HN1'.out.below hbw5); have HN25 := Lib.hid (HN2.out.below hbw5); clear ho5
    have hz5 : w.heap.size < w5.heap.size := Nat.lt_of_lt_of_le hz4 hbw5.size
    (refine with0 hbw5 ?_; intro hcw5 hfw5)
    go_wp2_with fail
    refine (HS1.out q1 F1 _ HN15.out).mono ?_
    rintro e6 w6 ⟨A6, c6, rfl, ho6, hbw6⟩
    have HO6 := Lib.hid ho6.reads; have HB6 := Lib.hid (bcall HB5.out hbw6); have HX6 := Lib.hid hbw6; clear ho6
    go_wp2_with fail
    refine (HS1.out q2 F2 _ (HN25.out.below HX6.out)).mono ?_
    rintro e7 w7 ⟨A7, c7, rfl, ho7, hbw7⟩
    have HO7 := Lib.hid ho7.reads; have HX7 := Lib.hid (bcall HX6.out hbw7); have HO67 := Lib.hid ((HO6.out.below hbw7).more hbw7.size); clear ho7
    go_wp2_with fail
    refine (HSM.out _ _ _ _ _ HO67.out HO7.out).mono ?_
    rintro e8 w8 ⟨rfl, hbw8⟩
    have HX8 := Lib.hid (bcall HX7.out hbw8); clear hbw8
    go_wp2_with fail
    have hN18 := HN15.out.below HX8.out
    refine (HS1.out q1 F1 _ hN18).mono ?_
    rintro e9 w9 ⟨A9, c9, rfl, ho9, hbw9⟩
    have HO9 := Lib.hid ho9.reads; have HX9 := Lib.hid (bcall HX8.out hbw9); clear ho9 hN18
    go_wp2_with fail
    refine (HSM.out _ _ _ _ _ HO9.out ((HO5.out.below HX9.out).more HX9.out.size)).mono ?_
    rintro e10 w10 ⟨rfl, hbw10⟩
    have HX10 := Lib.hid (bcall HX9.out hbw10); clear hbw10
    have f5 : w5.cell? ⟨w.heap.size, 1, none⟩ = some (.int .i64 d) := by
      rw [hcw5 _ _ hz4, hcw4 _ _ hz3, hcw3 _ _ hz2, hcw2 _ _ z0w1, hcw1 _ _ (by simp)]
      exact (Blk.new w _ _).cell 1
    have f10 : w10.cell? ⟨w.heap.size, 1, none⟩ = some (.int .i64 d) := (HX10.out.cell (p := ⟨w.heap.size, 1, none⟩) hz5).trans f5
    go_wp2_with fail
    refine (HWN.out q1 F1 _ (HN15.out.below HX10.out)).mono ?_
    rintro e11 w11 ⟨rfl, rfl⟩
    go_wp2_with fail
    refine (HSV.out q1 F1 _ (HN15.out.below HX10.out)).mono ?_
    rintro e12 w12 ⟨A12, n12, c12, rfl, hn12, hl12, ho12, hbw12⟩
    have HO12 := Lib.hid ho12.reads; have HX12 := Lib.hid (bcall HX10.out hbw12); have HL12 := Lib.hid hl12; clear ho12 hl12
    go_wp2_with fail
    refine (HSV.out q2 F2 _ (HN25.out.below HX12.out)).mono ?_
    rintro e13 w13 ⟨A13, n13, c13, rfl, hn13, hl13, ho13, hbw13⟩
    obtain rfl : n12 = n13 := HL12.out.symm.trans hl13
    have HO13 := Lib.hid ho13.reads; have HX13 := Lib.hid (bcall HX12.out hbw13); have HO123 := Lib.hid ((HO12.out.below hbw13).more hbw13.size); clear ho13 hl13 hn13
    go_wp2_with fail
    refine (HSS.out _ _ _ _ n12 _ HL12.out hn12 HO123.out HO13.out).mono ?_
    rintro e14 w14 ⟨rfl, hbw14⟩
    have HX14 := Lib.hid (bcall HX13.out hbw14); clear hbw14
    go_wp2_with fail
    exact bodyPost_ret (results_tmp rfl _ _ _) rfl ⟨rfl, bcall HB5.out HX14.out⟩
theorem nodeCuts_law (k : Int) (p : Pr) (ls lp key data : List UInt8) (zs : List Int) (Ak Ad Ac : Option Addr) (nk ck nd cd nc cc : Nat) (w : World) (hp : PrIn w p ls lp) (hk : key.length = nk) (hrk : RS cB w w.heap.size Ak key) (hdl : data.length = nd) (hnd : nd ≤ cd) (hcd : cd ≤ 9223372036854775807) (hn47 : nd ≤ 140737488351232) (hrd : RS cB w w.heap.size Ad data)
    (hz : zs.length = nc) (hnc : nc ≤ 9223372036854775807) (hrz : RS cI w w.heap.size Ac zs) (hzr : ∀ z ∈ zs, -9223372036854775808 ≤ z ∧ z ≤ 9223372036854775807) :
    Calls Try.prog 6 #[stV k p (.slice Ak nk ck), .slice Ad nd cd, .slice Ac nc cc] w fun e w' => e = .returned (.bool true) ∧ Below w.heap.size w w' := by
  by_cases hc : chk k p = 0
  · by_cases h1 : nk = 0 ∨ (nk : Int) = p.key
    · obtain ⟨big, rfl⟩ := kind_of hc
      obtain ⟨d, hd⟩ : ∃ d : Nat, p.digest = d := ⟨p.digest.toNat, by have := chk_range hc; omega⟩
      exact nodeCuts_main big d p ls lp key data zs Ak Ad Ac nk ck nd cd nc cc w hc hp hd hk h1 hrk hdl hnd hcd hn47 hrd hz hnc hrz hzr
    · exact nodeCuts_out k p Ak nk ck _ _ w (.inr ⟨hc, fun h => h1 (.inl h), fun h => h1 (.inr h)⟩)
  · exact nodeCuts_out k p Ak nk ck _ _ w (.inl hc)
end Go.Proofs.Ytlnnfijdldkpiaa

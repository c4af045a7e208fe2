/-
  NodeKeys' law. Contracts alone; no statement is claimed here.
-/
import Derived.Test.YtlnnfijdldkpiaaFed
import Derived.Test.YtlnnfijdldkpiaaSame
import Derived.Test.YtlnnfijdldkpiaaNought
import Derived.Test.YtlnnfijdldkpiaaAwk5
import Derived.Test.YtlnnfijdldkpiaaParB
import Derived.Test.YtlnnfijdldkpiaaOpenP
namespace Go.Proofs.Ytlnnfijdldkpiaa
open Go.RowKit
attribute [local go_sem] pureUpon Ords.of

set_option maxHeartbeats 1000000 in
theorem copied5_any (A : Option Addr) (c n : Nat) (l : List UInt8) (w : World) (hn : l.length = n) (hm : n ≤ 140737488355328) (hr : RS cB w w.heap.size A l) :
    Calls Try.prog 15 #[.slice A n c] w fun e w' => ∃ A' c', e = .returned (.slice A' n c') ∧ OS cB w' w.heap.size A' c' l ∧ Below w.heap.size w w' := by
  have HN := Lib.hid hn; have HR := Lib.hid hr; clear hn hr
  go_enter Try.func15, Try.ntmps15
  have ho : OS cB (w.alloc (.cells #[] 5)) w.heap.size (some ⟨w.heap.size, 0, none⟩) 0 [] := by
    have h := OS.madeAt (cd := cB) (base := w.heap.size) w 0 0 0 rfl (Nat.le_refl _) (by unfold maxLen; omega) (Nat.le_refl _) rfl
    rw [show madeCells #[cB.zero] 0 = #[] by simp [madeCells]] at h
    exact h
  have HO := Lib.hid ho; clear ho
  go_wp2_with (at_builtin; refine wpList_appB _ rfl (.tmp 3) (.tmp 4) rfl HO.out rfl rfl (HR.out.alloc (Nat.le_refl _) _) rfl HN.out (by omega) (by simp) ?_; intro A3 c3 w3 hown3 hgrow hat; have hw3 := bapp (bal (b0 w) _) HO.out hgrow; have HO3 := Lib.hid hown3; clear hown3 hgrow hat)
  exact bodyPost_ret (results_tmp rfl _ _ _) rfl ⟨A3, c3, rfl, HO3.out, hw3⟩
theorem same5_any (A1 A2 : Option Addr) (c1 c2 : Nat) (l1 l2 : List UInt8) (n1 n2 : Nat) (w : World) (hn1 : l1.length = n1) (hn2 : l2.length = n2) (hm : n1 ≤ 9223372036854775807) (h1 : RS cB w w.heap.size A1 l1) (h2 : RS cB w w.heap.size A2 l2) :
    Calls Try.prog 17 #[.slice A1 n1 c1, .slice A2 n2 c2] w fun e w' => e = .returned (.bool (decide (l1 = l2))) ∧ Below w.heap.size w w' := by
  have hs := sameR_any A1 A2 c1 c2 l1 l2 w.heap.size w.heap.size n1 n2 w hn1 hn2 hm h1 h2
  have HS := Lib.hid hs; clear hs hn1 hn2 h1 h2
  go_enter Try.func17, Try.ntmps17
  go_wp2_with (go_at_call 32; refine HS.out.mono ?_; rintro e1 w1 ⟨rfl, n, rfl⟩)
  exact bodyPost_ret (results_tmp rfl _ _ _) rfl ⟨rfl, bdr (b0 w) n⟩
theorem block5_any (big : Bool) (w : World) : Calls Try.prog 16 #[.int .i64 (kOf big)] w fun e w' => e = .returned (.int .i64 (2 * bOf big : Nat)) ∧ w = w' := by
  cases big with
  | true =>
    show Calls _ _ #[.int .i64 1] w _
    go_enter Try.func16, Try.ntmps16
    go_wp2_with fail
    exact bodyPost_ret (results_tmp rfl _ _ _) rfl ⟨rfl, rfl⟩
  | false =>
    show Calls _ _ #[.int .i64 2] w _
    go_enter Try.func16, Try.ntmps16
    go_wp2_with fail
    exact bodyPost_ret (results_tmp rfl _ _ _) rfl ⟨rfl, rfl⟩
theorem kind_of {k : Int} {p : Pr} (h : chk k p = 0) : ∃ big, k = kOf big := by
  by_cases h1 : k = 1
  · exact ⟨true, h1⟩
  · by_cases h2 : k = 2
    · exact ⟨false, h2⟩
    · exfalso
      unfold chk mostOf at h
      simp [h1, h2] at h
set_option maxRecDepth 20000 in
set_option maxHeartbeats 2000000 in
theorem nodeKeys_out (k : Int) (p : Pr) (Ak : Option Addr) (nk ck : Nat) (data : Value) (w : World) (h : chk k p ≠ 0 ∨ (chk k p = 0 ∧ (nk : Int) ≠ p.key) ∨ (chk k p = 0 ∧ (nk : Int) = p.key ∧ nk = 0)) :
    Calls Try.prog 4 #[stV k p (.slice Ak nk ck), data] w fun e w' => e = .returned (.bool true) ∧ Below w.heap.size w w' := by
  have hck := fun W => refCheck_any k p W
  have ha := fun W => awake5_any W
  rcases h with h | ⟨h, h1⟩ | ⟨h, h1, h2⟩
  · have t1 : (chk k p != 0) = true := by simpa using h
    generalize chk k p = r at *
    unfold stV
    unfold Pr.v Pr.cs Sl.v at *
    have HCK := Lib.hid hck; have HA := Lib.hid ha; clear hck ha h
    go_enter Try.func4, Try.ntmps4
    go_wp2_with (first | (go_at_call 12; refine (HA.out _).mono ?_; rintro e w1 ⟨rfl, hbw1⟩; (first | refine withN hbw1 ?_ | refine withD hbw1 ?_ | refine with0 hbw1 ?_); intro hcw1 hfw1; have z0w1 : w.heap.size < w1.heap.size := (by have := hbw1.size; (try simp at this); omega)) | (go_at_call 13; refine (HCK.out _).mono ?_; rintro e w2 ⟨rfl, hbw2⟩; (first | refine withN hbw2 ?_ | refine withD hbw2 ?_ | refine with0 hbw2 ?_); intro hcw2 hfw2))
    exact bodyPost_ret (results_tmp rfl _ _ _) rfl ⟨rfl, bcall (bcall (bal (b0 w) _) hbw1) hbw2⟩
  · have t1 : (chk k p != 0) = false := by simpa using h
    have t2 : ((nk : Int) != p.key) = true := by simpa using h1
    generalize chk k p = r at *
    unfold stV
    unfold Pr.v Pr.cs Sl.v at *
    have HCK := Lib.hid hck; have HA := Lib.hid ha; clear hck ha h h1
    go_enter Try.func4, Try.ntmps4
    go_wp2_with (first | (go_at_call 12; refine (HA.out _).mono ?_; rintro e w1 ⟨rfl, hbw1⟩; (first | refine withN hbw1 ?_ | refine withD hbw1 ?_ | refine with0 hbw1 ?_); intro hcw1 hfw1; have z0w1 : w.heap.size < w1.heap.size := (by have := hbw1.size; (try simp at this); omega)) | (go_at_call 13; refine (HCK.out _).mono ?_; rintro e w2 ⟨rfl, hbw2⟩; (first | refine withN hbw2 ?_ | refine withD hbw2 ?_ | refine with0 hbw2 ?_); intro hcw2 hfw2))
    exact bodyPost_ret (results_tmp rfl _ _ _) rfl ⟨rfl, bcall (bcall (bal (b0 w) _) hbw1) hbw2⟩
  · have t1 : (chk k p != 0) = false := by simpa using h
    subst h2
    have t2 : ((0 : Int) != p.key) = false := by simp [← h1]
    generalize chk k p = r at *
    unfold stV
    unfold Pr.v Pr.cs Sl.v at *
    have HCK := Lib.hid hck; have HA := Lib.hid ha; clear hck ha h h1
    go_enter Try.func4, Try.ntmps4
    go_wp2_with (first | (go_at_call 12; refine (HA.out _).mono ?_; rintro e w1 ⟨rfl, hbw1⟩; (first | refine withN hbw1 ?_ | refine withD hbw1 ?_ | refine with0 hbw1 ?_); intro hcw1 hfw1; have z0w1 : w.heap.size < w1.heap.size := (by have := hbw1.size; (try simp at this); omega)) | (go_at_call 13; refine (HCK.out _).mono ?_; rintro e w2 ⟨rfl, hbw2⟩; (first | refine withN hbw2 ?_ | refine withD hbw2 ?_ | refine with0 hbw2 ?_); intro hcw2 hfw2))
    exact bodyPost_ret (results_tmp rfl _ _ _) rfl ⟨rfl, bcall (bcall (bal (b0 w) _) hbw1) hbw2⟩
set_option maxRecDepth 20000 in
set_option maxHeartbeats 4000000 in
theorem nodeKeys_main (big : Bool) (d : Nat) (p : Pr) (ls lp key data : List UInt8) (Ak Ad : Option Addr) (nk ck nd cd : Nat) (w : World) (hc : chk (kOf big) p = 0) (hp : PrIn w p ls lp) (hd : p.digest = d)
    (hk : key.length = nk) (hk0 : nk ≠ 0) (hkk : (nk : Int) = p.key) (hrk : RS cB w w.heap.size Ak key) (hdl : data.length = nd) (hnd : nd ≤ cd) (hcd : cd ≤ 9223372036854775807) (hn47 : nd ≤ 140737488351232) (hrd : RS cB w w.heap.size Ad data) :
    Calls Try.prog 4 #[stV (kOf big) p (.slice Ak nk ck), .slice Ad nd cd] w fun e w' => e = .returned (.bool true) ∧ Below w.heap.size w w' := by
  obtain ⟨hf, hls, hlp, hrs, hrp, -, -⟩ := hp
  have hrg := chk_range hc
  have hb64 : bOf big ≤ 64 := by cases big <;> decide
  have hnkb : nk ≤ bOf big := by omega
  have hdb : d ≤ bOf big := by omega
  have hck := fun W => refCheck_any (kOf big) p W
  have ha := fun W => awake5_any W
  have hf1 := fun W hrs hrp hrk hrd => fed_any big d p ls lp key data [] Ak Ad none nk ck nd cd 0 0 W hc hf hd hls hlp hrs hrp hk (.inr hkk) hrk hdl hnd (by omega) (by omega) hrd rfl (by decide) (RS.nil _) (fun _ h => by cases h)
  have hpl := padTo_len key (2 * bOf big) (by omega)
  have hf2 := fun A c W hc1 hc2 hrs hrp hrd => fed_any big d p ls lp [] (padTo key (2 * bOf big) ++ data) [] none A none 0 0 (2 * bOf big + nd) c 0 0 W hc hf hd hls hlp hrs hrp rfl (.inl rfl) (RS.nil _) (by rw [List.length_append, hpl, hdl]) hc1 hc2 (by omega) hrd rfl (by decide) (RS.nil _) (fun _ h => by cases h)
  have hX : startK big (encL big p ls lp) key = (startOf big (encL big p ls lp)).feed (padTo key (2 * bOf big)) := by
    unfold startK
    rw [if_neg (fun h => hk0 (by rw [← hk, h]; rfl))]
  have hX2 : startK big (encL big p ls lp) [] = startOf big (encL big p ls lp) := by unfold startK; rw [if_pos rfl]
  have hfe := Eng.feed_append (startOf big (encL big p ls lp)) (startOf_ok big _) (padTo key (2 * bOf big)) data
  have hful := startOf_full big (encL big p ls lp)
  rw [hX] at hf1
  rw [hX2, hfe] at hf2
  have hs1 := fun q F W ky wr h => sumN_any q d big false (encL big p ls lp) ky wr (((startOf big (encL big p ls lp)).feed (padTo key (2 * bOf big))).feed data) F W h (by rw [Eng.feed_full, Eng.feed_full, hful]; exact hdb)
  have hpad : padTo key (2 * bOf big) = key ++ List.replicate (2 * bOf big - nk) 0 := by unfold padTo; rw [hk]
  have hcp := fun W hr => copied5_any Ak ck nk key W hk (by omega) hr
  have hbk := fun W => block5_any big W
  have hsz1 : (((startOf big (encL big p ls lp)).feed (padTo key (2 * bOf big))).feed data).full = bOf big := by rw [Eng.feed_full, Eng.feed_full, hful]
  have hol := Eng.out_len (((startOf big (encL big p ls lp)).feed (padTo key (2 * bOf big))).feed data) false
  rw [hsz1] at hol
  have hsm := fun A1 A2 c1 c2 W h1 h2 => same5_any A1 A2 c1 c2 (((((startOf big (encL big p ls lp)).feed (padTo key (2 * bOf big))).feed data).out false).take d) (((((startOf big (encL big p ls lp)).feed (padTo key (2 * bOf big))).feed data).out false).take d) d d W (by rw [List.length_take, hol]; omega) (by rw [List.length_take, hol]; omega) (by omega) h1 h2
  simp only [hc] at hck
  clear hfe hful hX hX2 hsz1 hol hrg
  have hbb2 : 2 * bOf big ≤ 128 ∧ nk ≤ 2 * bOf big := by omega
  generalize 2 * bOf big = bb at *
  obtain ⟨mm, hmm⟩ : ∃ mm : Nat, bb - nk = mm := ⟨_, rfl⟩
  rw [hmm] at hpad
  generalize ((startOf big (encL big p ls lp)).feed (padTo key bb)).feed data = E at *
  generalize encL big p ls lp = X at *
  generalize E.out false = EO at *
  have x1 : IntKind.u64.wrap (wrd (UInt64.ofNat nd) + (bb : Int)) = wrd (UInt64.ofNat (bb + nd)) := by rw [wrd_addN, ← UInt64.ofNat_add, Nat.add_comm]
  generalize UInt64.ofNat nd = u1 at *
  generalize UInt64.ofNat (bb + nd) = u2 at *
  have x2 : IntKind.u64.wrap (bb : Int) = bb := by rw [wrap_u64]; omega
  have x3 : (bb : Int) - (nk : Int) = (mm : Int) := by omega
  have x4 : IntKind.i64.wrap (mm : Int) = mm := by simp [IntKind.wrap, IntKind.bits, IntKind.signed]; omega
  have t1 : ((0 : Int) != 0) = false := rfl
  have t2 : ((nk : Int) != (nk : Int)) = false := by simp
  have t3 : ((nk : Int) == 0) = false := by simpa using hk0
  have hkp : p.key = nk := hkk.symm
  have hmm2 : nk + mm = bb := by omega
  generalize hkq : kOf big = kk at *
  unfold stV at *
  unfold Pr.v Pr.cs Sl.v at *
  rw [hd, hkp] at *
  obtain ⟨CS, hCS⟩ : ∃ CS : Array Value, CS = #[.int .i64 kk, .int .i64 d, .int .i64 nk, .int .i64 p.fanout, .int .i64 p.depth, .int .u32 p.leaf, .int .u64 p.offset, .int .u32 p.xof, .int .i64 p.nd, .int .i64 p.inner, .slice p.salt.A p.salt.n p.salt.c, .slice p.pers.A p.pers.n p.pers.c, .slice Ak nk ck] := ⟨_, rfl⟩
  have HCK := Lib.hid hck; have HA := Lib.hid ha; have HF1 := Lib.hid hf1; have HF2 := Lib.hid hf2; have HS1 := Lib.hid hs1; have HCP := Lib.hid hcp; have HBK := Lib.hid hbk; have HSM := Lib.hid hsm; have HPAD := Lib.hid hpad; have HPL := Lib.hid hpl
  have HRS := Lib.hid hrs; have HRP := Lib.hid hrp; have HRK := Lib.hid hrk; have HRD := Lib.hid hrd; have HK := Lib.hid hk; have HDL := Lib.hid hdl; have HMM := Lib.hid hmm2; have HCS := Lib.hid hCS; have hnk0 : 0 < nk := by omega
  clear hck ha hf1 hf2 hs1 hcp hbk hsm hpad hpl hrs hrp hrk hrd hk hdl hmm2 hmm hkp hkk hd hc hf hls hlp hkq hk0 hCS
  go_enter Try.func4, Try.ntmps4
  go_wp2_with (first | (go_at_call 12; refine (HA.out _).mono ?_; rintro e w1 ⟨rfl, hbw1⟩; (first | refine withN hbw1 ?_ | refine withD hbw1 ?_ | refine with0 hbw1 ?_); intro hcw1 hfw1; have z0w1 : w.heap.size < w1.heap.size := (by have := hbw1.size; (try simp at this); omega)) | (go_at_call 13; refine (HCK.out _).mono ?_; rintro e w2 ⟨rfl, hbw2⟩; (first | refine withN hbw2 ?_ | refine withD hbw2 ?_ | refine with0 hbw2 ?_); intro hcw2 hfw2))
  have hbx := ((Blk.new w 34 CS).below (by rw [HCS.out]; exact hbw1) (by simp)).below hbw2 z0w1
  have HB2 := Lib.hid (bcall (bcall (bal (b0 w) _) hbw1) hbw2)
  have hz2 : w.heap.size < w2.heap.size := Nat.lt_of_lt_of_le z0w1 hbw2.size
  clear hbw1 hbw2 hcw1 hcw2 hfw1 hfw2 z0w1
  refine (HF1.out _ ((HRS.out.below HB2.out).more HB2.out.size) ((HRP.out.below HB2.out).more HB2.out.size) ((HRK.out.below HB2.out).more HB2.out.size) ((HRD.out.below HB2.out).more HB2.out.size)).mono ?_
  rintro e3 w3 ⟨q1, F1, rfl, hN1, hF1, hb3⟩
  have hbx3 := hbx.below hb3 hz2
  have hF1' : ∀ k, k ∈ F1 → w.heap.size < k := fun k hk => Nat.lt_of_lt_of_le hz2 (hF1 k hk)
  have HN1 := Lib.hid hN1; have HB3 := Lib.hid (bcall HB2.out hb3); have HBX := Lib.hid hbx3; have HF1' := Lib.hid hF1'; have hz3 : w.heap.size < w3.heap.size := Nat.lt_of_lt_of_le hz2 hb3.size
  have d0 : w3.cell? ⟨w.heap.size, 0, none⟩ = some (.int .i64 kk) := (hbx3.cell 0).trans (by rw [HCS.out]; rfl)
  have d12 : w3.cell? ⟨w.heap.size, 12, none⟩ = some (.slice Ak nk ck) := (hbx3.cell 12).trans (by rw [HCS.out]; rfl)
  clear hN1 hF1 hb3 hbx hbx3 hF1'
  go_wp2_with fail
  refine wp_region_B (Ords.of [(0, 0), (0, 1), (0, 3), (0, 4), (0, 6), (0, 7), (0, 8), (2, 2), (2, 5), (0, 9), (2, 10), (0, 11)] .fin) (by kernel_rfl) rfl (by kernel_rfl) (by kernel_rfl) (fun c a d v w h => by cases d <;> exact h) ?_
  refine ords_pure rfl (fun K hK => ?_); go_simp; refine hK _ ?_; clear hK K
  refine ords_heldK rfl (fun K K2 hK hK2 => ?_); go_simp; refine ⟨hK2 _ (fun w9 hS => ?_), hK _ ?_⟩; (clear hK hK2 K K2; (first | refine withN hS ?_ | refine withD hS ?_ | refine with0 hS ?_); intro hcS hfS; go_simp); (clear hK hK2 K K2)
  refine ords_pure rfl (fun K hK => ?_); go_simp; refine hK _ ?_; clear hK K
  refine ords_heldK rfl (fun K K2 hK hK2 => ?_); go_simp; refine ⟨hK2 _ (fun w9 hS => ?_), hK _ ?_⟩; (clear hK hK2 K K2; (first | refine withN hS ?_ | refine withD hS ?_ | refine with0 hS ?_); intro hcS hfS; go_simp); (clear hK hK2 K K2)
  refine ords_pure rfl (fun K hK => ?_); go_simp; refine hK _ ?_; clear hK K
  refine ords_heldK rfl (fun K K2 hK hK2 => ?_); go_simp; refine ⟨hK2 _ (fun w9 hS => ?_), hK _ ?_⟩; (clear hK hK2 K K2; (first | refine withN hS ?_ | refine withD hS ?_ | refine with0 hS ?_); intro hcS hfS; go_simp); (clear hK hK2 K K2)
  refine ords_pure rfl (fun K hK => ?_); go_simp; refine hK _ ?_; clear hK K
  refine ords_loud rfl (fun n1 => ?_)
  go_wp2_with (go_at_call 15; refine (HCP.out _ (((HRK.out.below HB3.out).more HB3.out.size).drewN n1)).mono ?_; rintro e4 w4 ⟨A4, c4, rfl, ho4, hb4⟩; obtain ⟨g4, rfl⟩ : ∃ g4, A4 = some ⟨g4, 0, none⟩ := (by rcases ho4.form with ⟨_, _, h⟩ | ⟨g, h, _⟩; (have := HK.out; rw [h] at this; simp at this; omega); exact ⟨g, h⟩); have HO4 := Lib.hid ho4; have HB4 := Lib.hid (bcall (bdr (b0 w3) n1) hb4); clear ho4 hb4); refine ⟨HB4.out, ?_⟩
  refine ords_loud rfl (fun n2 => ?_)
  go_wp2_with (go_at_call 16; refine (HBK.out _).mono ?_; rintro e5 w5 ⟨rfl, rfl⟩); refine ⟨bdr HB4.out _, ?_⟩
  refine ords_pure rfl (fun K hK => ?_); go_simp; refine hK _ ?_; clear hK K
  refine ords_loud rfl (fun n3 => ?_)
  (refine wpList_noughtsA rfl (.tmp 36) (.tmp 43) rfl ((HO4.out.drewN n2).drewN n3) rfl rfl HK.out (by omega) (show w3.heap.size ≤ w4.heap.size from HB4.out.size) ?_; intro g6 c6 w6 ho6 hg6; rw [HMM.out]; rw [← HPAD.out] at ho6; have HO6 := Lib.hid ho6; have HB6 := Lib.hid ((bdr (bdr HB4.out n2) n3).grown hg6 HB4.out.size (fun k hk => by have h := Option.some.inj hk; rw [← h]; exact (HO4.out.block_lt _ rfl).1)); clear ho6 hg6; go_wp2; refine ⟨HB6.out, ?_⟩)
  refine ords_pure rfl (fun K hK => ?_); go_simp; refine hK _ ?_; clear hK K
  refine ords_end (fun n4 => ?_)
  have hO7 := HO6.out.drewN n4
  have hB7 := bdr HB6.out n4
  generalize w6.drewN n4 = w7 at *
  have hbx7 := HBX.out.below hB7 hz3
  have hB7w := HB3.out.trans (hB7.mono HB3.out.size)
  have hg6 : w3.heap.size ≤ g6 := (hO7.block_lt _ rfl).1
  have hg7 : g6 < w7.heap.size := (hO7.block_lt _ rfl).2
  have hlt1 := HN1.out.lt
  have hN7 := HN1.out.below hB7
  have hz7 : w.heap.size < w7.heap.size := Nat.lt_of_lt_of_le hz3 hB7.size
  have HO7 := Lib.hid hO7; have HBX7 := Lib.hid hbx7; have HB7 := Lib.hid hB7w; have HLT1 := Lib.hid hlt1; have HN7 := Lib.hid hN7
  have hne : w.heap.size ∉ [g6] := by simp; omega
  have HNE := Lib.hid hne
  have e0 : w7.cell? ⟨w.heap.size, 0, none⟩ = some (.int .i64 kk) := (hbx7.cell 0).trans (by rw [HCS.out]; rfl)
  have hr11 : ∀ W, But [g6] w7 W → W.rangeAt w.heap.size 1 [.int .i64 d, .int .i64 nk, .int .i64 p.fanout, .int .i64 p.depth, .int .u32 p.leaf, .int .u64 p.offset, .int .u32 p.xof, .int .i64 p.nd, .int .i64 p.inner, .slice p.salt.A p.salt.n p.salt.c, .slice p.pers.A p.pers.n p.pers.c] := fun W hW => by
    have h := (HBX7.out.but hW HNE.out).range 1 11
    rw [HCS.out] at h
    exact h
  have HR11 := Lib.hid hr11
  clear hO7 hB7 hbx7 hB7w hlt1 hN7 hne hr11 d0 d12 HO6 HB6 HO4 HB4
  have hu := Lib.hid Try.underlying26
  go_wp2_with fail
  refine wp_region_ords (fun W' => But [g6] w7 W') (fun _ n h => h.drewN n) (Ords.of [(0, 0), (0, 1), (0, 2), (0, 3), (0, 4), (0, 5), (0, 6), (2, 7), (2, 8), (0, 9)] .fin) (by kernel_rfl) rfl (by kernel_rfl) (by kernel_rfl) (fun c a d v w h => by cases d <;> exact h) (But.refl _ _) ?_
  refine ords_pure rfl (fun K hK => ?_); go_simp; refine hK _ ?_; clear hK K
  refine ords_heldK rfl (fun K K2 hK hK2 => ?_); go_simp; refine ⟨hK2 _ (fun w9 hS => ?_), hK _ ?_⟩; (clear hK hK2 K K2; have q0 : w9.cell? ⟨w.heap.size, 0, none⟩ = some (.int .i64 kk) := ((HBX7.out.but hS HNE.out).cell 0).trans (by rw [HCS.out]; rfl); go_simp); (clear hK hK2 K K2)
  refine ords_pure rfl (fun K hK => ?_); go_simp; refine hK _ ?_; clear hK K
  refine ords_held (v := Value.agg [.int .i64 d, .int .i64 nk, .int .i64 p.fanout, .int .i64 p.depth, .int .u32 p.leaf, .int .u64 p.offset, .int .u32 p.xof, .int .i64 p.nd, .int .i64 p.inner, .slice p.salt.A p.salt.n p.salt.c, .slice p.pers.A p.pers.n p.pers.c].toArray) rfl rfl (fun w9 hS => pure_load_mid 26 (.tmp 47) rfl w.heap.size 1 rfl _ _ (HR11.out _ hS) hu.out rfl (by kernel_rfl)) ?_; go_simp
  refine ords_pure rfl (fun K hK => ?_); go_simp; refine hK _ ?_; clear hK K
  refine ords_pure rfl (fun K hK => ?_); go_simp; refine hK _ ?_; clear hK K
  refine ords_pure rfl (fun K hK => ?_); go_simp; refine hK _ ?_; clear hK K
  refine ords_loud rfl (fun n1 => ?_)
  (refine wpList_appB _ rfl (.tmp 50) (.tmp 51) rfl (HO7.out.drewN n1) rfl HPL.out (((HRD.out.below HB7.out).more HB7.out.size).drewN n1) rfl HDL.out (by omega) (show w3.heap.size ≤ w7.heap.size by omega) ?_; intro A8 c8 w8 ho8 hg8 hA8; have HO8 := Lib.hid ho8; have HS8 := Lib.hid (But.grown (F := [g6]) (gdr_in hg8) (fun k hk => .inl (by have h := Option.some.inj hk; simp [← h]))); clear ho8 hg8 hA8; have HB8 := Lib.hid (HB7.out.trans (HS8.out.toBelow (B := w.heap.size) HB7.out.size (fun k hk => by have h : k = g6 := (by simpa using hk); omega))); go_wp2; refine ⟨HS8.out, ?_⟩)
  refine ords_loud rfl (fun n2 => ?_)
  go_wp2_with (go_at_call 14; refine (HF2.out A8 c8 _ (by have h := HO8.out.len_le.1; rw [List.length_append, HPL.out, HDL.out] at h; exact h) (by have h := HO8.out.len_le.2; unfold maxLen at h; exact h) (((HRS.out.below HB8.out).more HB8.out.size).drewN n2) (((HRP.out.below HB8.out).more HB8.out.size).drewN n2) (HO8.out.reads.drewN n2)).mono ?_; rintro e9 w9 ⟨q2, F2, rfl, hN9, hF9, hb9⟩; have HN9 := Lib.hid hN9; have HB9 := Lib.hid (HB8.out.trans ((undrN hb9).mono HB8.out.size)); have HS9 := Lib.hid (HS8.out.below (undrN hb9)); clear hN9 hF9 hb9); refine ⟨HS9.out, ?_⟩
  refine ords_pure rfl (fun K hK => ?_); go_simp; refine hK _ ?_; clear hK K
  refine ords_end (fun n3 => ?_)
  have hN1 := HN7.out.but (HS9.out.drewN n3) (fun k hk h => by have h1 := HLT1.out k hk; have h2 : k = g6 := (by simpa using h); omega)
  have hN2 := HN9.out.drewN n3
  have hbx9 := HBX7.out.but (HS9.out.drewN n3) HNE.out
  have hB9 := bdr HB9.out n3
  generalize w9.drewN n3 = W at *
  have HN1 := Lib.hid hN1; have HN2 := Lib.hid hN2; have HB := Lib.hid hB9
  have f0 : W.cell? ⟨w.heap.size, 0, none⟩ = some (.int .i64 kk) := (hbx9.cell 0).trans (by rw [HCS.out]; rfl)
  have hzW := hbx9.lt
  clear hN1 hN2 hbx9 hB9 e0
  go_wp2_with fail
  refine wp_region_B (Ords.of [(0, 0), (0, 1), (0, 2), (0, 3), (0, 4), (0, 5), (0, 6), (0, 7), (0, 9), (2, 8), (2, 10), (2, 11), (0, 12), (0, 13), (0, 14), (0, 16), (0, 17), (0, 21), (2, 15), (2, 18), (0, 19), (0, 20), (2, 22), (0, 23), (0, 24), (0, 25)] .fin) (by kernel_rfl) rfl (by kernel_rfl) (by kernel_rfl) (fun c a d v w h => by cases d <;> exact h) ?_
  refine ords_pure rfl (fun K hK => ?_); go_simp; refine hK _ ?_; clear hK K
  refine ords_pure rfl (fun K hK => ?_); go_simp; refine hK _ ?_; clear hK K
  refine ords_pure rfl (fun K hK => ?_); go_simp; refine hK _ ?_; clear hK K
  refine ords_pure rfl (fun K hK => ?_); go_simp; refine hK _ ?_; clear hK K
  refine ords_pure rfl (fun K hK => ?_); go_simp; refine hK _ ?_; clear hK K
  refine ords_pure rfl (fun K hK => ?_); go_simp; refine hK _ ?_; clear hK K
  refine ords_pure rfl (fun K hK => ?_); go_simp; refine hK _ ?_; clear hK K
  refine ords_pure rfl (fun K hK => ?_); go_simp; refine hK _ ?_; clear hK K
  refine ords_pure rfl (fun K hK => ?_); go_simp; refine hK _ ?_; clear hK K
  refine ords_loud rfl (fun n1 => ?_)
  go_wp2_with fail; refine (HS1.out q1 F1 _ key u1 (HN1.out.drewN n1)).mono ?_; rintro r1 v1 ⟨B1, b1, rfl, hp1, hv1⟩; have HP1 := Lib.hid hp1; have HV1 := Lib.hid (bcall (bdr (b0 W) n1) hv1); clear hp1 hv1; go_wp2_with fail; refine ⟨HV1.out, ?_⟩
  refine ords_loud rfl (fun n2 => ?_)
  go_wp2_with (go_at_call 18; refine (HS1.out q2 F2 _ [] u2 ((HN2.out.below HV1.out).drewN n2)).mono ?_; rintro r2 v2 ⟨B2, b2, rfl, hp2, hv2⟩; have HP2 := Lib.hid hp2; have HV2 := Lib.hid (bcall (bdr HV1.out n2) hv2); have HP1 := Lib.hid ((HP1.out.drewN n2).below hv2 (Nat.le_refl _)); clear hp2 hv2); refine ⟨HV2.out, ?_⟩
  refine ords_loud rfl (fun n3 => ?_)
  go_wp2_with (go_at_call 17; refine (HSM.out B1 B2 d d _ (HP1.out.drewN n3).reads (HP2.out.drewN n3).reads).mono ?_; rintro r3 v3 ⟨rfl, hv3⟩; have HV3 := Lib.hid (bcall (bdr HV2.out n3) hv3); have f3 : v3.cell? ⟨w.heap.size, 0, none⟩ = some (.int .i64 kk) := (HV3.out.cell (p := ⟨w.heap.size, 0, none⟩) hzW).trans f0; clear hv3); refine ⟨HV3.out, ?_⟩
  refine ords_pure rfl (fun K hK => ?_); go_simp; refine hK _ ?_; clear hK K
  refine ords_pure rfl (fun K hK => ?_); go_simp; refine hK _ ?_; clear hK K
  refine ords_pure rfl (fun K hK => ?_); go_simp; refine hK _ ?_; clear hK K
  refine ords_pure rfl (fun K hK => ?_); go_simp; refine hK _ ?_; clear hK K
  refine ords_heldK rfl (fun K K2 hK hK2 => ?_); go_simp; refine ⟨hK2 _ (fun w9 hS => ?_), hK _ ?_⟩; (clear hK hK2 K K2; (first | refine withN hS ?_ | refine withD hS ?_ | refine with0 hS ?_); intro hcS hfS; go_simp); (clear hK hK2 K K2)
  refine ords_pure rfl (fun K hK => ?_); go_simp; refine hK _ ?_; clear hK K
  refine ords_loud rfl (fun n4 => ?_)
  go_wp2_with (go_at_call 19; refine (writtenN_any q1 d big false X key u1 E F1 _ ((HN1.out.below HV3.out).drewN n4)).mono ?_; rintro r4 v4 ⟨rfl, rfl⟩); refine ⟨bdr HV3.out n4, ?_⟩
  refine ords_loud rfl (fun n5 => ?_)
  go_wp2_with (go_at_call 16; refine (HBK.out _).mono ?_; rintro r5 v5 ⟨rfl, rfl⟩); refine ⟨(by first | exact bdr HV3.out _ | exact bdr (bdr HV3.out _) _), ?_⟩
  refine ords_pure rfl (fun K hK => ?_); go_simp; refine hK _ ?_; clear hK K
  refine ords_pure rfl (fun K hK => ?_); go_simp; refine hK _ ?_; clear hK K
  refine ords_loud rfl (fun n6 => ?_)
  go_wp2_with (go_at_call 19; refine (writtenN_any q2 d big false X [] u2 E F2 _ (by exact (HN2.out.below HV3.out).of_ (fun _ _ => rfl))).mono ?_; rintro r6 v6 ⟨rfl, rfl⟩); refine ⟨(by first | exact bdr HV3.out _ | exact bdr (bdr HV3.out _) _ | exact bdr (bdr (bdr HV3.out _) _) _), ?_⟩
  refine ords_pure rfl (fun K hK => ?_); go_simp; refine hK _ ?_; clear hK K
  refine ords_pure rfl (fun K hK => ?_); go_simp; refine hK _ ?_; clear hK K
  refine ords_pure rfl (fun K hK => ?_); go_simp; refine hK _ ?_; clear hK K
  refine ords_end (fun n7 => ?_)
  go_wp2_with fail; exact bodyPost_ret (results_tmp rfl _ _ _) rfl ⟨rfl, (by first | exact HB.out.trans ((bdr HV3.out _).mono HB.out.size) | exact HB.out.trans ((bdr (bdr HV3.out _) _).mono HB.out.size) | exact HB.out.trans ((bdr (bdr (bdr HV3.out _) _) _).mono HB.out.size))⟩
theorem nodeKeys_law (k : Int) (p : Pr) (ls lp key data : List UInt8) (Ak Ad : Option Addr) (nk ck nd cd : Nat) (w : World) (hp : PrIn w p ls lp) (hk : key.length = nk) (hrk : RS cB w w.heap.size Ak key) (hdl : data.length = nd) (hnd : nd ≤ cd) (hcd : cd ≤ 9223372036854775807) (hn47 : nd ≤ 140737488351232) (hrd : RS cB w w.heap.size Ad data) :
    Calls Try.prog 4 #[stV k p (.slice Ak nk ck), .slice Ad nd cd] w fun e w' => e = .returned (.bool true) ∧ Below w.heap.size w w' := by
  by_cases hc : chk k p = 0
  · by_cases h1 : (nk : Int) = p.key
    · by_cases h2 : nk = 0
      · exact nodeKeys_out k p Ak nk ck _ w (.inr (.inr ⟨hc, h1, h2⟩))
      · obtain ⟨big, rfl⟩ := kind_of hc
        obtain ⟨d, hd⟩ : ∃ d : Nat, p.digest = d := ⟨p.digest.toNat, by have := chk_range hc; omega⟩
        exact nodeKeys_main big d p ls lp key data Ak Ad nk ck nd cd w hc hp hd hk h2 h1 hrk hdl hnd hcd hn47 hrd
    · exact nodeKeys_out k p Ak nk ck _ w (.inr (.inl ⟨hc, h1⟩))
  · exact nodeKeys_out k p Ak nk ck _ w (.inl hc)
end Go.Proofs.Ytlnnfijdldkpiaa

/-
  Y34: contracts and lemmas alone; no statement is claimed here.
-/
import Derived.Test.YtmapfcdffklopaaGreatY33
namespace Go.Proofs.YtmapfcdffklopaaGreat
open Go.RowKit
attribute [local go_sem] pureUpon Ords.of

set_option maxRecDepth 20000 in
set_option maxHeartbeats 1000000 in
theorem xreadBad_any (p : Nat) (n : Int) (w : World) (hn : n < 0 ∨ 65536 < n)
  (hno : Calls Tryz.prog 29 #[.pointer (some ⟨p, 0, none⟩)] w fun r w' => r = .returned (.bool false) ∧ w = w') :
  Calls Tryz.prog 26 #[.pointer (some ⟨p, 0, none⟩), .int .i64 n] w fun r w' => r = .returned (.tuple #[.slice none 0 0, .int .i64 1]) ∧ w = w' := by
 have HNO := Lib.hid hno; clear hno
 by_cases h1 : n < 0
 ·have t1 : decide (n < 0) = true := by simpa using h1
  clear hn h1
  go_enter Tryz.func26, Tryz.ntmps26
  go_wp2_with (go_at_call 29; refine HNO.out.mono ?_; rintro e0 w0 ⟨rfl, rfl⟩)
  exact bodyPost_ret (results_tmp2 rfl _ _ _) rfl ⟨rfl, rfl⟩
 ·have t1 : decide (n < 0) = false := by simpa using h1
  have t2 : decide (65536 < n) = true := by simp; omega
  clear hn h1
  go_enter Tryz.func26, Tryz.ntmps26
  go_wp2_with (go_at_call 29; refine HNO.out.mono ?_; rintro e0 w0 ⟨rfl, rfl⟩)
  exact bodyPost_ret (results_tmp2 rfl _ _ _) rfl ⟨rfl, rfl⟩
theorem pieceL_len (big : Bool) (len : Int) (ls lp root : List UInt8) (i : Nat) : (pieceL big len ls lp root i).length = pceM (bOf big) (totN (kOf big) len) i := by
 unfold pieceL
 rw [List.length_take, hashL_len]
 unfold pceM
 omega
theorem pieceL_le (big : Bool) (len : Int) (ls lp root : List UInt8) (i : Nat) (h : i * bOf big < totN (kOf big) len) : 1 ≤ (pieceL big len ls lp root i).length ∧ (pieceL big len ls lp root i).length ≤ 64 := by
 rw [pieceL_len]
 have := bOf_le big
 unfold pceM
 omega
theorem xpieceL_any (big : Bool) (len : Int) (T i : Nat) (kn : Bool) (s t : Sl) (ls lp root : List UInt8) (Ar : Option Addr) (w : World) (hTT : totN (kOf big) len = T) (hI : i * bOf big < totN (kOf big) len) (hT : totN (kOf big) len ≤ bOf big * 4294967296) (hc : 1 ≤ codN (kOf big) len ∧ codN (kOf big) len ≤ codeMax big) (hs : 4 * s.n ≤ bOf big) (ht : 4 * t.n ≤ bOf big)
  (hls : ls.length = s.n) (hlp : lp.length = t.n) (hl : root.length = bOf big) (hrs : RS cB w w.heap.size s.A ls) (hrp : RS cB w w.heap.size t.A lp) (hrr : RS cB w w.heap.size Ar root) :
  Calls Tryz.prog 47 #[.agg #[.int .i64 (kOf big), .int .i64 (bOf big), .int .u32 (codN (kOf big) len), .int .u64 T, .bool kn], s.v, t.v, .slice Ar (bOf big) (bOf big), .int .u64 i] w fun r w' => ∃ A n c' cc, r = .returned (.slice A n cc) ∧ (pieceL big len ls lp root i).length = n ∧ n ≤ cc ∧ OS cB w' w.heap.size A c' (pieceL big len ls lp root i) ∧ Below w.heap.size w w' := by
 have h := xpiece_any big T i (codN (kOf big) len) kn s t ls lp root Ar (bOf big) (bOf big) w (by rw [← hTT]; exact hI) (by rw [← hTT]; exact hT) hc hs ht hls hlp hrs hrp hl (Nat.le_refl _) (by have := (bOf_le big).2; omega) hrr
 have e : (hashL big (pceP (bOf big) T i (codN (kOf big) len) s t) ls lp [] false root).take (pceM (bOf big) T i) = pieceL big len ls lp root i := by rw [← hTT]; rfl
 rw [e] at h
 exact h
theorem meas_lt (k m n : Nat) (h : k + m ≤ n) (h1 : 1 ≤ m) : n - (k + m) < n - k := by omega
theorem piece_cut (f T i fr m at_ : Nat) (P : Nat → List UInt8) (now : List UInt8) (hn : now.length = 64) (hv : now.take (pceM f T i) = P i) (hi : i = at_ / f) (hfr : fr = at_ % f) (hm : fr + m ≤ f) (hf : 1 ≤ f ∧ f ≤ 64) (hT : at_ + m ≤ T) : (now.drop fr).take m = rowOf f P at_ m := by
 have hd := Nat.div_add_mod at_ f
 rw [← hi, ← hfr, Nat.mul_comm] at hd
 have hp : fr + m ≤ pceM f T i := by unfold pceM; omega
 have hl : (P i).length = pceM f T i := by rw [← hv, List.length_take, hn]; unfold pceM; omega
 rw [← rowOf_piece f P at_ m hf.1 (by rw [← hi, ← hfr, hl]; exact hp) (by rw [← hfr]; exact hm), ← hi, ← hfr, ← hv, List.drop_take, List.take_take, Nat.min_eq_left (by omega)]
theorem XG.cutRow {w : World} {base p : Nat} {big : Bool} {len : Int} {key ls lp : List UInt8} {wr : UInt64} {e : Eng} {root : List UInt8} {pos : Nat} {cs : Array Value} {Ak : Option Addr} {ck : Nat} {s pp : Sl} {q : Nat} {F : List Nat} {Ar : Option Addr} {cr i : Nat} {now : List UInt8} (h : XG w base p big len key ls lp wr e root pos cs Ak ck s pp q F Ar cr i now)
  (f T fr m at_ : Nat) (hf : f = bOf big) (hT : totN (kOf big) len = T) (hi : i = at_ / f) (hfr : fr = at_ % f) (hm : fr + m ≤ f) (hmT : at_ + m ≤ T) : (now.drop fr).take m = rowOf (bOf big) (pieceL big len ls lp root) at_ m := by
 subst hf
 rcases h.hve with h1 | ⟨j, h1, -, h3⟩
 ·exact absurd h1 (by omega)
 ·have hij : i = j := Int.ofNat_inj.1 h1
  rw [← hij, hT] at h3
  exact piece_cut (bOf big) T i fr m at_ _ now h.hnow h3 hi hfr hm (by have := bOf_le big; omega) hmT
theorem read_nums (n k at_ f T pos L : Nat) (hat : at_ = pos + k) (hf : 1 ≤ f ∧ f ≤ 64) (hlt : k < n) (hle : n ≤ L) (hL : L = T - pos) (hpo : pos ≤ T) (hT : T ≤ 274877906944) (hn : n ≤ 65536) :
  ∃ i fr nk ff m a2 : Nat, Hid (at_ = pos + k ∧ i = at_ / f ∧ fr = at_ % f ∧ nk = n - k ∧ ff = f - fr ∧ fr < f ∧ at_ < T ∧ (m ≤ nk ∧ m ≤ ff ∧ 1 ≤ m) ∧ k < n) ∧ (((ff < nk) = True ∧ m = ff) ∨ ((ff < nk) = False ∧ m = nk)) ∧
   IntKind.u64.wrap ((at_ : Int) / (f : Int)) = i ∧ IntKind.u64.wrap ((at_ : Int) % (f : Int)) = fr ∧ IntKind.i64.wrap (fr : Int) = fr ∧ IntKind.u64.wrap (f : Int) = f ∧ IntKind.i64.wrap (i : Int) = i ∧ ((f : Int) == 0) = false ∧ (f = 0) = False ∧
   wrap64 ((n : Int) - (k : Int)) = nk ∧ wrap64 ((f : Int) - (fr : Int)) = ff ∧ wrap64 ((fr : Int) + (m : Int)) = ((fr + m : Nat) : Int) ∧ wrap64 ((at_ : Int) % (f : Int)) = fr ∧ IntKind.i64.wrap ((at_ : Int).tmod (f : Int)) = fr ∧ fr + m ≤ 64 ∧ k + m ≤ n ∧ 1 ≤ m ∧ Hid (IntKind.u64.wrap (m : Int) = m ∧ IntKind.u64.wrap ((at_ : Int) + (m : Int)) = a2) ∧ Hid (a2 = pos + (k + m) ∧ a2 ≤ T ∧ fr + m ≤ f ∧ at_ + m ≤ T) := by
 obtain ⟨i, hi⟩ : ∃ i, i = at_ / f := ⟨_, rfl⟩
 obtain ⟨fr, hfr⟩ : ∃ fr, fr = at_ % f := ⟨_, rfl⟩
 have hatT : at_ < T := by omega
 have hil : i ≤ 274877906944 := by have h1 := Nat.div_le_self at_ f; omega
 have hfl : fr < f := by rw [hfr]; exact Nat.mod_lt _ (by omega)
 obtain ⟨nk, hnk⟩ : ∃ nk, nk = n - k := ⟨_, rfl⟩
 obtain ⟨ff, hff⟩ : ∃ ff, ff = f - fr := ⟨_, rfl⟩
 obtain ⟨m, hm⟩ : ∃ m, m = min nk ff := ⟨_, rfl⟩
 refine ⟨i, fr, nk, ff, m, at_ + m, Lib.hid ⟨hat, hi, hfr, hnk, hff, hfl, hatT, by omega, hlt⟩, ?_, ?_, ?_, ?_, ?_, ?_, ?_, ?_, ?_, ?_, ?_, ?_, ?_, by omega, by omega, by omega, Lib.hid ⟨by rw [wrap_u64]; omega, by rw [wrap_u64]; omega⟩, Lib.hid (by omega)⟩
 ·rcases Nat.lt_or_ge ff nk with h | h
  ·exact .inl ⟨by simp [h], by omega⟩
  ·exact .inr ⟨by simp <;> omega, by omega⟩
 ·rw [wrap_u64, ← Int.natCast_ediv, ← hi]; omega
 ·rw [wrap_u64, ← Int.natCast_emod, ← hfr]; omega
 ·simp [IntKind.wrap, IntKind.bits, IntKind.signed]; omega
 ·rw [wrap_u64]; omega
 ·simp [IntKind.wrap, IntKind.bits, IntKind.signed]; omega
 ·simp <;> omega
 ·simp <;> omega
 ·unfold wrap64; omega
 ·unfold wrap64; omega
 ·unfold wrap64; omega
 ·rw [← Int.natCast_emod, ← hfr]; unfold wrap64; omega
 ·rw [Int.tmod_eq_emod_of_nonneg (by omega), ← Int.natCast_emod, ← hfr]; simp [IntKind.wrap, IntKind.bits, IntKind.signed]; omega
set_option maxRecDepth 20000 in
set_option maxHeartbeats 4000000 in
theorem xread_of (Q : Option Addr → Prop) (base p : Nat) (big : Bool) (len : Int) (key ls lp : List UInt8) (wn : UInt64) (e : Eng) (root : List UInt8) (pos n T L : Nat) (Ak : Option Addr) (ck : Nat) (s pp : Sl) (q : Nat) (F : List Nat) (w : World) (hn : n ≤ 65536) (hTT : totN (kOf big) len = T) (hT : xTotal (kOf big) len = T) (hT2 : T ≤ 274877906944) (hpo : pos ≤ T) (hL : L = T - pos) (h0 : 0 < n) (hle : n ≤ L) (hT2' : totN (kOf big) len ≤ bOf big * 4294967296) (hC : xCode (kOf big) len = codN (kOf big) len) (hC2 : 1 ≤ codN (kOf big) len ∧ codN (kOf big) len ≤ codeMax big) (hs4 : 4 * s.n ≤ bOf big) (ht4 : 4 * pp.n ≤ bOf big)
  (hno : Calls Tryz.prog 29 #[.pointer (some ⟨p, 0, none⟩)] w fun r w' => r = .returned (.bool false) ∧ w = w')
  (hgi : Calls Tryz.prog 44 #[.pointer (some ⟨p, 0, none⟩)] w fun r w' => r = .returned (.tuple #[]) ∧ ∃ cs' Ar cr hv now, XG w' base p big len key ls lp wn e root pos cs' Ak ck s pp q F Ar cr hv now ∧ But [p] w w' ∧ Q Ar) :
  Calls Tryz.prog 26 #[.pointer (some ⟨p, 0, none⟩), .int .i64 n] w fun r w' => ∃ A cc, r = .returned (.tuple #[.slice A n cc, .int .i64 0]) ∧ n ≤ cc ∧ OS cB w' w.heap.size A cc (rowOf (bOf big) (pieceL big len ls lp root) pos n) ∧ ∃ cs' Ar cr hv now, XG w' base p big len key ls lp wn e root (pos + n) cs' Ak ck s pp q F Ar cr hv now ∧ But [p] w w' ∧ Q Ar ∧ (∀ a, A = some a → a.block ∉ xfoot p F Ak s.A pp.A Ar) := by
 have HNO := Lib.hid hno; have HGI := Lib.hid hgi; have HT := Lib.hid hT; have HTT := Lib.hid hTT; clear hno hgi hT hTT
 have w1' : IntKind.u64.wrap ((T : Int) - (pos : Int)) = L := by rw [wrap_u64]; omega
 have w2' : IntKind.u64.wrap (n : Int) = n := by rw [wrap_u64]; omega
 have t1 : decide ((n : Int) < 0) = false := by simp <;> omega
 have t2 : decide ((65536 : Int) < (n : Int)) = false := by simp <;> omega
 have t3 : (L < n) = False := by simp <;> omega
 have HLE := Lib.hid hle; have HLQ := Lib.hid hL; have HPO := Lib.hid hpo; have HT2 := Lib.hid hT2; have HN6 := Lib.hid hn
 have t4 : (0 < n) = True := by simp [h0]
 have t5 : ((L : Int) == 0) = false := by simp <;> omega
 have t6 : (L = 0) = False := by simp <;> omega
 clear hL hpo hT2 hn hle h0
 go_enter Tryz.func26, Tryz.ntmps26
 go_wp2_with (go_at_call 29; refine HNO.out.mono ?_; rintro e0 w0 ⟨rfl, rfl⟩)
 refine HGI.out.mono ?_
 rintro e1 w1 ⟨rfl, cs, Ar, cr, hv, now, hX, hbut, hQ⟩
 have d3 : w1.cell? ⟨p, 3, none⟩ = some (.int .u64 T) := by rw [← HT.out]; exact (hX.blk.cell 3).trans hX.xc.c3
 have d10 : w1.cell? ⟨p, 10, none⟩ = some (.int .u64 pos) := (hX.blk.cell 10).trans hX.xc.c10
 have hpl := hX.blk.lt
 have HX := Lib.hid hX; have HB := Lib.hid hbut; have HQ := Lib.hid hQ; clear hX hbut hQ HGI HNO
 go_upto_region 6 with fail
 refine wp_region_ords (fun _ => True) (fun _ _ h => h) (Ords.of [(0, 0), (0, 1), (0, 2), (0, 3), (1, 4), (0, 5), (0, 6), (0, 7), (1, 8), (0, 9), (0, 10)] .fin) (by kernel_rfl) rfl (by kernel_rfl) (by kernel_rfl) (fun c a d v w h => by cases d <;> exact h) trivial ?_
 iterate 4 (refine ords_pure rfl (fun K hK => ?_); go_simp; refine hK _ ?_; clear hK K)
 refine ords_read rfl (fun K hK => ?_); go_simp; refine hK _ ?_; clear hK K
 iterate 3 (refine ords_pure rfl (fun K hK => ?_); go_simp; refine hK _ ?_; clear hK K)
 refine ords_read rfl (fun K hK => ?_); go_simp; refine hK _ ?_; clear hK K
 iterate 2 (refine ords_pure rfl (fun K hK => ?_); go_simp; refine hK _ ?_; clear hK K)
 refine ords_end (fun n1 => ?_)
 go_wp2_with fail
 have HX0 := Lib.hid (HX.out.drewN n1); have HB0 := Lib.hid (HB.out.drewN n1); clear HX HB d3 d10 hpl
 generalize w1.drewN n1 = w2 at *
 have hws : w.heap.size ≤ w2.heap.size := HB0.out.size
 go_loopw [7, 8, 9, 10] (fun o a b c wr' => ∃ (k : Nat) (A : Option Addr) (cc : Nat) (cs : Array Value) (hv : Int) (now : List UInt8), k ≤ n ∧ o = .slice A k cc ∧ OS cB wr' w2.heap.size A cc (rowOf (bOf big) (pieceL big len ls lp root) pos k) ∧ XG wr' base p big len key ls lp wn e root (pos + k) cs Ak ck s pp q F Ar cr hv now ∧ But [p] w2 wr') (fun o _ _ _ _ => n - slLen o)
 case atStart => exact ⟨0, none, 0, cs, hv, now, Nat.zero_le _, rfl, OS.nil _ _ _ rfl, HX0.out, But.refl _ _⟩
 case round =>
  obtain ⟨k, A, cc, cs, hv, now, hk, rfl, hos, hX, hbut⟩ := hrel
  have hb := bOf_le big
  obtain ⟨at_, hat⟩ : ∃ at_, at_ = pos + k := ⟨_, rfl⟩
  rw [← hat] at hX
  have HAT := Lib.hid hat
  obtain ⟨f, hf⟩ : ∃ f, f = bOf big := ⟨_, rfl⟩
  have HWS := Lib.hid hws
  have HX := Lib.hid hX; have HB := Lib.hid hbut; have HO := Lib.hid hos; clear hX hbut hos hws
  by_cases hlt : k < n
  ·have hkd : decide ((k : Int) < (n : Int)) = true := by simp <;> omega
   have hkn : (k < n) = True := by simp [hlt]
   obtain ⟨i, fr, nk, ff, m, a2, HNUM, hcs, wA, wR, wR2, wf, wi, z1, z2, wK, wF, wM, wQ, wT, hfm, hkm, hm1, HWM, HA2⟩ := read_nums n k at_ f T pos L hat (by omega) hlt HLE.out HLQ.out HPO.out HT2.out HN6.out
   have hif : i * bOf big < totN (kOf big) len := by
    obtain ⟨-, h2, -, -, -, -, h7, -, -⟩ := HNUM.out
    rw [HTT.out, ← hf, h2]
    exact Nat.lt_of_le_of_lt (Nat.div_mul_le_self at_ f) h7
   have HF := Lib.hid hf
   clear hb hat
   obtain ⟨d0, d1, d2, d3, d4, d6, d7, d9, d10, d75⟩ := HX.out.cells HT.out hC
   rw [← HF.out] at d1
   clear hf
   by_cases hvi : hv = i
   ·have c1 : (hv != (i : Int)) = false := by simpa using hvi
    have c2 : (hv == (i : Int)) = true := by simpa using hvi
    subst hvi
    have HIF := Lib.hid hif; clear hif hlt
    go_upto_region 13 with fail
    refine wp_region_ords (fun _ => True) (fun _ _ h => h) (Ords.of [(0, 0), (0, 1), (0, 2), (1, 3), (0, 4), (0, 5), (0, 6), (0, 7), (1, 8), (0, 9), (0, 10), (0, 11)] .fin) (by kernel_rfl) rfl (by kernel_rfl) (by kernel_rfl) (fun c a d v w h => by cases d <;> exact h) trivial ?_
    iterate 2 (refine ords_pure rfl (fun K hK => ?_); go_simp; refine hK _ ?_; clear hK K; refine ords_pure rfl (fun K hK => ?_); go_simp; refine hK _ ?_; clear hK K; refine ords_pure rfl (fun K hK => ?_); go_simp; refine hK _ ?_; clear hK K; refine ords_read rfl (fun K hK => ?_); go_simp; refine hK _ ?_; clear hK K; refine ords_pure rfl (fun K hK => ?_); go_simp; refine hK _ ?_; clear hK K)
    iterate 2 (refine ords_pure rfl (fun K hK => ?_); go_simp; refine hK _ ?_; clear hK K)
    refine ords_end (fun n1 => ?_)
    go_upto_region 17 with fail
    have HX3 := Lib.hid (HX.out.drewN n1); have HB3 := Lib.hid (HB.out.drewN n1); have HO3 := Lib.hid (HO.out.drewN n1)
    clear HX HB HO d0 d1 d2 d3 d4 d6 d7 d9 d10 d75
    generalize wr.drewN n1 = W at *
    obtain ⟨cs7, now7, HX3⟩ : ∃ cs7 now7, Hid (XG W base p big len key ls lp wn e root at_ cs7 Ak ck s pp q F Ar cr i now7) := ⟨_, _, HX3⟩
    rcases hcs with ⟨t9, hmm⟩ | ⟨t9, hmm⟩
    all_goals
     subst hmm
     obtain ⟨-, d1, -, -, -, -, -, -, d10, -⟩ := HX3.out.cells HT.out hC
     rw [← HF.out] at d1
     refine wp_region_ords (fun _ => True) (fun _ _ h => h) (Ords.of [(0, 0), (0, 1), (0, 2), (1, 3), (0, 4), (0, 5), (0, 6), (0, 7), (1, 8), (0, 9), (0, 10), (0, 11), (0, 12)] .fin) (by kernel_rfl) rfl (by kernel_rfl) (by kernel_rfl) (fun c a d v w h => by cases d <;> exact h) trivial ?_
     iterate 2 (refine ords_pure rfl (fun K hK => ?_); go_simp; refine hK _ ?_; clear hK K; refine ords_pure rfl (fun K hK => ?_); go_simp; refine hK _ ?_; clear hK K; refine ords_pure rfl (fun K hK => ?_); go_simp; refine hK _ ?_; clear hK K; refine ords_read rfl (fun K hK => ?_); go_simp; refine hK _ ?_; clear hK K; refine ords_pure rfl (fun K hK => ?_); go_simp; refine hK _ ?_; clear hK K)
     iterate 3 (refine ords_pure rfl (fun K hK => ?_); go_simp; refine hK _ ?_; clear hK K)
     refine ords_end (fun n1 => ?_)
     go_upto_region 19 with fail
     clear wA wR wR2 wf wi z1 z2 wK wF wQ wT w1' w2' t9
     have hsl := slice_now p fr m hfm hm1
     have HC := Lib.hid (HX3.out.cut fr m hfm)
     go_wp2_with (at_builtin; refine wpList_appB _ rfl (.tmp 117) (.tmp 125) rfl (HO3.out.drewN _) rfl (rowOf_len _ _ _ _) (HC.out.drewN _) rfl (by rw [List.length_take, List.length_drop, HX3.out.hnow]; omega) (by have := HN6.out; omega) (Nat.le_of_lt_succ (by have := HB3.out.size; simp; omega)) ?_; intro A3 c3 w3 hown3 hgrow hat; have HO4 := Lib.hid hown3; have hbg : But (obl A) W w3 := But.grown (gdr_in hgrow) (fun k9 h9 => .inl (mem_obl.2 (by cases A with | none => cases h9 | some a9 => exact ⟨a9, rfl, Option.some.inj h9⟩))); have HX4 := Lib.hid (HX3.out.but hbg (fun k9 h9 hm9 => by obtain ⟨a9, ha9, hb9⟩ := mem_obl.1 hm9; have g1 := (HO3.out.block_lt a9 ha9).1; have g2 := HX0.out.lt k9 h9; rw [hb9] at g1; exact Nat.lt_irrefl _ (Nat.lt_of_lt_of_le g2 g1))); have HB4 := Lib.hid (HB3.out.trans hbg (fun k9 hm9 => by obtain ⟨a9, ha9, hb9⟩ := mem_obl.1 hm9; have g1 := (HO3.out.block_lt a9 ha9).1; rw [hb9] at g1; exact .inr g1)); clear hown3 hgrow hat hbg; have e10 : w3.cell? ⟨p, 10, none⟩ = some (.int .u64 at_) := (HX4.out.blk.cell 10).trans HX4.out.xc.c10; have f10 := HX4.out.blk.frozen 10; have hpl := HX4.out.blk.lt; obtain ⟨wm, wS⟩ := HWM.out)
     go_roundw
     case rel =>
      have hpc := HX4.out.cutRow f T fr m at_ HF.out HTT.out HNUM.out.2.1 HNUM.out.2.2.1 HA2.out.2.2.1 HA2.out.2.2.2
      refine ⟨k + m, A3, c3, cs7.setIfInBounds 10 (.int .u64 a2), (i : Int), now7, hkm, rfl, ?_, ?_, ?_⟩
      ·rw [rowOf_add, ← HNUM.out.1, ← hpc]
       exact HO4.out.setFar (p := ⟨p, 10, none⟩) (HO4.out.ne_blk HX4.out.blk (by decide)) _
      ·rw [← HA2.out.1]
       exact HX4.out.moved a2 (by rw [HTT.out]; exact HA2.out.2.1)
      ·exact But.setCell (p := ⟨p, 10, none⟩) HB4.out (.inl (List.mem_singleton.2 rfl)) _
     case measure => exact meas_lt _ _ _ hkm hm1
   ·have c1 : (hv != (i : Int)) = true := by simpa using hvi
    have c2 : (hv == (i : Int)) = false := by simpa using hvi
    have hpi := fun W hrs hrp hrr => xpieceL_any big len T i (!decide (len = -1)) s pp ls lp root Ar W HTT.out hif hT2' hC2 hs4 ht4 HX.out.hls HX.out.hlp HX.out.rl hrs hrp hrr
    unfold Sl.v at hpi
    have HPI := Lib.hid hpi
    have HIF := Lib.hid hif; clear hif hlt hpi hvi
    go_upto_region 13 with fail
    refine wp_region_ords (fun _ => True) (fun _ _ h => h) (Ords.of [(0, 0), (0, 1), (0, 2), (1, 3), (0, 4), (0, 5), (0, 6), (0, 7), (1, 8), (0, 9), (0, 10), (0, 11)] .fin) (by kernel_rfl) rfl (by kernel_rfl) (by kernel_rfl) (fun c a d v w h => by cases d <;> exact h) trivial ?_
    iterate 2 (refine ords_pure rfl (fun K hK => ?_); go_simp; refine hK _ ?_; clear hK K; refine ords_pure rfl (fun K hK => ?_); go_simp; refine hK _ ?_; clear hK K; refine ords_pure rfl (fun K hK => ?_); go_simp; refine hK _ ?_; clear hK K; refine ords_read rfl (fun K hK => ?_); go_simp; refine hK _ ?_; clear hK K; refine ords_pure rfl (fun K hK => ?_); go_simp; refine hK _ ?_; clear hK K)
    iterate 2 (refine ords_pure rfl (fun K hK => ?_); go_simp; refine hK _ ?_; clear hK K)
    refine ords_end (fun n1 => ?_)
    have HX1 := Lib.hid (HX.out.drewN n1); have HB1 := Lib.hid (HB.out.drewN n1); have HO1 := Lib.hid (HO.out.drewN n1)
    clear HX HB HO d0 d1 d2 d3 d4 d6 d7 d9 d10 d75
    generalize wr.drewN n1 = W1 at *
    obtain ⟨d0, d1, d2, d3, d4, d6, d7, d9, d10, d75⟩ := HX1.out.cells HT.out hC
    go_upto_region 15 with fail
    refine wp_region_ords (fun _ => True) (fun _ _ h => h) (Ords.of [(0, 0), (0, 1), (0, 2), (0, 3), (0, 4), (0, 5), (0, 6), (1, 7), (0, 8), (0, 9), (0, 10), (1, 11), (0, 12), (0, 13), (0, 14), (1, 15), (0, 16), (0, 17), (0, 18), (1, 19), (0, 20), (2, 21), (2, 22)] .fin) (by kernel_rfl) rfl (by kernel_rfl) (by kernel_rfl) (fun c a d v w h => by cases d <;> exact h) trivial ?_
    iterate 7 (refine ords_pure rfl (fun K hK => ?_); go_simp; refine hK _ ?_; clear hK K)
    iterate 3 (refine ords_read rfl (fun K hK => ?_); go_simp; refine hK _ ?_; clear hK K; refine ords_pure rfl (fun K hK => ?_); go_simp; refine hK _ ?_; clear hK K; refine ords_pure rfl (fun K hK => ?_); go_simp; refine hK _ ?_; clear hK K; refine ords_pure rfl (fun K hK => ?_); go_simp; refine hK _ ?_; clear hK K)
    refine ords_read rfl (fun K hK => ?_); go_simp; refine hK _ ?_; clear hK K
    refine ords_pure rfl (fun K hK => ?_); go_simp; refine hK _ ?_; clear hK K
    refine ords_loud rfl (fun n1 => ?_)
    go_wp2_with (go_at_call 47; refine (HPI.out _ (HX1.out.os.reads.drewN _) (HX1.out.op.reads.drewN _) (HX1.out.or.reads.drewN _)).mono ?_; rintro e4 w4 ⟨A4, n4, c4, cc4, rfl, hl4, hn4, ho4, hb4⟩)
    have HB4 := Lib.hid (undrN hb4); have HO4 := Lib.hid ho4; have HL4 := Lib.hid hl4; clear hb4 ho4 hl4 hn4
    have hX4 := Lib.hid (HX1.out.below HB4.out)
    refine ⟨trivial, ?_⟩
    refine ords_loud rfl (fun n2 => ?_)
    (refine wpList_copyRow rfl (.tmp 68) (.tmp 86) rfl rfl rfl (hX4.out.blk.drewN n2) (HO4.out.reads.drewN n2) HL4.out (by rw [← HL4.out]; exact (pieceL_le big len ls lp root i HIF.out).2) (by have h1 := (pieceL_le big len ls lp root i HIF.out).2; rw [hX4.out.xc.sz, ← HL4.out]; omega) (by rw [← HL4.out]; exact (pieceL_le big len ls lp root i HIF.out).1) ?_; intro w5 hblk5 hg5)
    change True ∧ _
    first | (refine ⟨trivial, ?_⟩; refine ords_end (fun n3 => ?_)) | (rintro _ ⟨n3, rfl⟩)
    have hP := pieceL_le big len ls lp root i HIF.out
    have hb5 : But [p] w4 w5 := But.grown (gdr_in hg5) (fun k9 h9 => .inl (List.mem_singleton.2 (Option.some.inj h9).symm))
    have hx5 := hX4.out.xc.putNow (pieceL big len ls lp root i) hP.2
    rw [HL4.out] at hx5
    have HK5 := Lib.hid hblk5; have HBB := Lib.hid hb5; have HX5 := Lib.hid hx5; have HP := Lib.hid hP
    clear hblk5 hg5 hb5 hx5 hP d0 d1 d2 d3 d4 d6 d7 d9 d10 d75
    have e75 : w5.cell? ⟨p, 75, none⟩ = some (.int .i64 hv) := (HK5.out.cell 75).trans HX5.out.c75
    have f75 := HK5.out.frozen 75
    have hpl := HK5.out.lt
    go_upto_region 17 with fail
    have HB6 : But [p] w4 ((w5.drewN n3).setCell ⟨p, 75, none⟩ (.int .i64 i)) := But.setCell (p := ⟨p, 75, none⟩) (HBB.out.drewN n3) (.inl (List.mem_singleton.2 rfl)) _
    have HX3 := Lib.hid (hX4.out.own HB6 ((HK5.out.drewN n3).set_ 75 _) (HX5.out.put75 i) (by rw [List.length_append, List.length_drop, hX4.out.hnow, HL4.out]; have h1 := HP.out.2; rw [HL4.out] at h1; omega) (.inr ⟨i, rfl, HIF.out, by rw [← pieceL_len big len ls lp root i, List.take_left]⟩) hX4.out.hpos)
    have HB3 := Lib.hid ((HB1.out.below HB4.out).trans HB6 (fun k9 h9 => .inl h9))
    have HO3 := Lib.hid ((HO1.out.below HB4.out (Nat.le_refl _)).but HB6 (fun a9 h9 hm9 => by have g1 := (HO1.out.block_lt a9 h9).1; have g2 := HX0.out.blk.lt; rw [List.mem_singleton.1 hm9] at g1; exact Nat.lt_irrefl _ (Nat.lt_of_lt_of_le g2 g1)))
    clear hX4 HB6 HBB HK5 HX5 HP HX1 HB1 HO1 e75 f75 hpl HPI HO4 HB4 c1 c2
    generalize (w5.drewN n3).setCell ⟨p, 75, none⟩ (.int .i64 i) = W at *
    obtain ⟨cs7, now7, HX3⟩ : ∃ cs7 now7, Hid (XG W base p big len key ls lp wn e root at_ cs7 Ak ck s pp q F Ar cr i now7) := ⟨_, _, HX3⟩
    rcases hcs with ⟨t9, hmm⟩ | ⟨t9, hmm⟩
    all_goals
     subst hmm
     obtain ⟨-, d1, -, -, -, -, -, -, d10, -⟩ := HX3.out.cells HT.out hC
     rw [← HF.out] at d1
     refine wp_region_ords (fun _ => True) (fun _ _ h => h) (Ords.of [(0, 0), (0, 1), (0, 2), (1, 3), (0, 4), (0, 5), (0, 6), (0, 7), (1, 8), (0, 9), (0, 10), (0, 11), (0, 12)] .fin) (by kernel_rfl) rfl (by kernel_rfl) (by kernel_rfl) (fun c a d v w h => by cases d <;> exact h) trivial ?_
     iterate 2 (refine ords_pure rfl (fun K hK => ?_); go_simp; refine hK _ ?_; clear hK K; refine ords_pure rfl (fun K hK => ?_); go_simp; refine hK _ ?_; clear hK K; refine ords_pure rfl (fun K hK => ?_); go_simp; refine hK _ ?_; clear hK K; refine ords_read rfl (fun K hK => ?_); go_simp; refine hK _ ?_; clear hK K; refine ords_pure rfl (fun K hK => ?_); go_simp; refine hK _ ?_; clear hK K)
     iterate 3 (refine ords_pure rfl (fun K hK => ?_); go_simp; refine hK _ ?_; clear hK K)
     refine ords_end (fun n1 => ?_)
     go_upto_region 19 with fail
     clear wA wR wR2 wf wi z1 z2 wK wF wQ wT w1' w2' t9
     have hsl := slice_now p fr m hfm hm1
     have HC := Lib.hid (HX3.out.cut fr m hfm)
     go_wp2_with (at_builtin; refine wpList_appB _ rfl (.tmp 117) (.tmp 125) rfl (HO3.out.drewN _) rfl (rowOf_len _ _ _ _) (HC.out.drewN _) rfl (by rw [List.length_take, List.length_drop, HX3.out.hnow]; omega) (by have := HN6.out; omega) (Nat.le_of_lt_succ (by have := HB3.out.size; simp; omega)) ?_; intro A3 c3 w3 hown3 hgrow hat; have HO4 := Lib.hid hown3; have hbg : But (obl A) W w3 := But.grown (gdr_in hgrow) (fun k9 h9 => .inl (mem_obl.2 (by cases A with | none => cases h9 | some a9 => exact ⟨a9, rfl, Option.some.inj h9⟩))); have HX4 := Lib.hid (HX3.out.but hbg (fun k9 h9 hm9 => by obtain ⟨a9, ha9, hb9⟩ := mem_obl.1 hm9; have g1 := (HO3.out.block_lt a9 ha9).1; have g2 := HX0.out.lt k9 h9; rw [hb9] at g1; exact Nat.lt_irrefl _ (Nat.lt_of_lt_of_le g2 g1))); have HB4 := Lib.hid (HB3.out.trans hbg (fun k9 hm9 => by obtain ⟨a9, ha9, hb9⟩ := mem_obl.1 hm9; have g1 := (HO3.out.block_lt a9 ha9).1; rw [hb9] at g1; exact .inr g1)); clear hown3 hgrow hat hbg; have e10 : w3.cell? ⟨p, 10, none⟩ = some (.int .u64 at_) := (HX4.out.blk.cell 10).trans HX4.out.xc.c10; have f10 := HX4.out.blk.frozen 10; have hpl := HX4.out.blk.lt; obtain ⟨wm, wS⟩ := HWM.out)
     go_roundw
     case rel =>
      have hpc := HX4.out.cutRow f T fr m at_ HF.out HTT.out HNUM.out.2.1 HNUM.out.2.2.1 HA2.out.2.2.1 HA2.out.2.2.2
      refine ⟨k + m, A3, c3, cs7.setIfInBounds 10 (.int .u64 a2), (i : Int), now7, hkm, rfl, ?_, ?_, ?_⟩
      ·rw [rowOf_add, ← HNUM.out.1, ← hpc]
       exact HO4.out.setFar (p := ⟨p, 10, none⟩) (HO4.out.ne_blk HX4.out.blk (by decide)) _
      ·rw [← HA2.out.1]
       exact HX4.out.moved a2 (by rw [HTT.out]; exact HA2.out.2.1)
      ·exact But.setCell (p := ⟨p, 10, none⟩) HB4.out (.inl (List.mem_singleton.2 rfl)) _
     case measure => exact meas_lt _ _ _ hkm hm1
  ·obtain rfl : k = n := by omega
   have hkd : decide ((k : Int) < (k : Int)) = false := by simp
   have hkn : (k < k) = False := by simp
   clear hlt hat hf
   go_wp2_with fail
   exact bodyPost_ret (results_tmp2 rfl _ _ _) rfl ⟨A, cc, rfl, (by have h := HO.out.len_le.1; rw [rowOf_len] at h; exact h), HO.out.mono HWS.out, cs, Ar, cr, hv, now, by rw [← HAT.out]; exact HX.out, HB0.out.trans HB.out (fun k9 h9 => .inl h9), HQ.out, fun a9 h9 hm9 => by have g1 := (HO.out.block_lt a9 h9).1; have g2 := HX0.out.lt _ hm9; exact Nat.lt_irrefl _ (Nat.lt_of_lt_of_le g2 g1)⟩
set_option maxRecDepth 20000 in
set_option maxHeartbeats 1000000 in
theorem xreadNil_of (Q : Option Addr → Prop) (base p : Nat) (big : Bool) (len : Int) (key ls lp : List UInt8) (wn : UInt64) (e : Eng) (root : List UInt8) (pos T : Nat) (Ak : Option Addr) (ck : Nat) (s pp : Sl) (q : Nat) (F : List Nat) (w : World) (hT : xTotal (kOf big) len = T) (hT2 : T ≤ 274877906944) (hpo : pos ≤ T)
  (hno : Calls Tryz.prog 29 #[.pointer (some ⟨p, 0, none⟩)] w fun r w' => r = .returned (.bool false) ∧ w = w')
  (hgi : Calls Tryz.prog 44 #[.pointer (some ⟨p, 0, none⟩)] w fun r w' => r = .returned (.tuple #[]) ∧ ∃ cs' Ar cr hv now, XG w' base p big len key ls lp wn e root pos cs' Ak ck s pp q F Ar cr hv now ∧ But [p] w w' ∧ Q Ar) :
  Calls Tryz.prog 26 #[.pointer (some ⟨p, 0, none⟩), .int .i64 0] w fun r w' => r = .returned (.tuple #[.slice none 0 0, .int .i64 0]) ∧ ∃ cs' Ar cr hv now, XG w' base p big len key ls lp wn e root pos cs' Ak ck s pp q F Ar cr hv now ∧ But [p] w w' ∧ Q Ar := by
 have HNO := Lib.hid hno; have HGI := Lib.hid hgi; have HT := Lib.hid hT; clear hno hgi hT
 obtain ⟨L, hL⟩ : ∃ L, L = T - pos := ⟨_, rfl⟩
 have w1' : IntKind.u64.wrap ((T : Int) - (pos : Int)) = L := by rw [wrap_u64]; omega
 clear hL hpo hT2
 go_enter Tryz.func26, Tryz.ntmps26
 go_wp2_with (go_at_call 29; refine HNO.out.mono ?_; rintro e0 w0 ⟨rfl, rfl⟩)
 refine HGI.out.mono ?_
 rintro e1 w1 ⟨rfl, cs, Ar, cr, hv, now, hX, hbut, hQ⟩
 have d3 : w1.cell? ⟨p, 3, none⟩ = some (.int .u64 T) := by rw [← HT.out]; exact (hX.blk.cell 3).trans hX.xc.c3
 have d10 : w1.cell? ⟨p, 10, none⟩ = some (.int .u64 pos) := (hX.blk.cell 10).trans hX.xc.c10
 have hpl := hX.blk.lt
 have HX := Lib.hid hX; have HB := Lib.hid hbut; have HQ := Lib.hid hQ; clear hX hbut hQ HGI HNO
 go_upto_region 6 with fail
 refine wp_region_ords (fun _ => True) (fun _ _ h => h) (Ords.of [(0, 0), (0, 1), (0, 2), (0, 3), (1, 4), (0, 5), (0, 6), (0, 7), (1, 8), (0, 9), (0, 10)] .fin) (by kernel_rfl) rfl (by kernel_rfl) (by kernel_rfl) (fun c a d v w h => by cases d <;> exact h) trivial ?_
 iterate 4 (refine ords_pure rfl (fun K hK => ?_); go_simp; refine hK _ ?_; clear hK K)
 refine ords_read rfl (fun K hK => ?_); go_simp; refine hK _ ?_; clear hK K
 iterate 3 (refine ords_pure rfl (fun K hK => ?_); go_simp; refine hK _ ?_; clear hK K)
 refine ords_read rfl (fun K hK => ?_); go_simp; refine hK _ ?_; clear hK K
 iterate 2 (refine ords_pure rfl (fun K hK => ?_); go_simp; refine hK _ ?_; clear hK K)
 refine ords_end (fun n1 => ?_)
 go_wp2_with fail
 refine wp_loop_rounds 1 ?_
 rw [rounds_succ]
 go_wp2_with fail
 exact bodyPost_ret (results_tmp2 rfl _ _ _) rfl ⟨rfl, cs, Ar, cr, hv, now, HX.out.drewN _, HB.out.drewN _, HQ.out⟩
set_option maxRecDepth 20000 in
set_option maxHeartbeats 1000000 in
theorem xreadEnd_of (Q : Option Addr → Prop) (base p : Nat) (big : Bool) (len : Int) (key ls lp : List UInt8) (wn : UInt64) (e : Eng) (root : List UInt8) (n T : Nat) (Ak : Option Addr) (ck : Nat) (s pp : Sl) (q : Nat) (F : List Nat) (w : World) (pos : Nat) (hn : n ≤ 65536) (h0 : 0 < n) (hT : xTotal (kOf big) len = T) (hpo : pos = T)
  (hno : Calls Tryz.prog 29 #[.pointer (some ⟨p, 0, none⟩)] w fun r w' => r = .returned (.bool false) ∧ w = w')
  (hgi : Calls Tryz.prog 44 #[.pointer (some ⟨p, 0, none⟩)] w fun r w' => r = .returned (.tuple #[]) ∧ ∃ cs' Ar cr hv now, XG w' base p big len key ls lp wn e root pos cs' Ak ck s pp q F Ar cr hv now ∧ But [p] w w' ∧ Q Ar) :
  Calls Tryz.prog 26 #[.pointer (some ⟨p, 0, none⟩), .int .i64 n] w fun r w' => r = .returned (.tuple #[.slice none 0 0, .int .i64 70]) ∧ ∃ cs' Ar cr hv now, XG w' base p big len key ls lp wn e root pos cs' Ak ck s pp q F Ar cr hv now ∧ But [p] w w' ∧ Q Ar := by
 have HNO := Lib.hid hno; have HGI := Lib.hid hgi; have HT := Lib.hid hT; clear hno hgi hT
 have w1' : IntKind.u64.wrap ((T : Int) - (pos : Int)) = 0 := by rw [wrap_u64]; omega
 have t1 : decide ((n : Int) < 0) = false := by simp <;> omega
 have t2 : decide ((65536 : Int) < (n : Int)) = false := by simp <;> omega
 have t4 : (0 < n) = True := by simp [h0]
 clear hpo hn h0
 go_enter Tryz.func26, Tryz.ntmps26
 go_wp2_with (go_at_call 29; refine HNO.out.mono ?_; rintro e0 w0 ⟨rfl, rfl⟩)
 refine HGI.out.mono ?_
 rintro e1 w1 ⟨rfl, cs, Ar, cr, hv, now, hX, hbut, hQ⟩
 have d3 : w1.cell? ⟨p, 3, none⟩ = some (.int .u64 T) := by rw [← HT.out]; exact (hX.blk.cell 3).trans hX.xc.c3
 have d10 : w1.cell? ⟨p, 10, none⟩ = some (.int .u64 pos) := (hX.blk.cell 10).trans hX.xc.c10
 have hpl := hX.blk.lt
 have HX := Lib.hid hX; have HB := Lib.hid hbut; have HQ := Lib.hid hQ; clear hX hbut hQ HGI HNO
 go_upto_region 6 with fail
 refine wp_region_ords (fun _ => True) (fun _ _ h => h) (Ords.of [(0, 0), (0, 1), (0, 2), (0, 3), (1, 4), (0, 5), (0, 6), (0, 7), (1, 8), (0, 9), (0, 10)] .fin) (by kernel_rfl) rfl (by kernel_rfl) (by kernel_rfl) (fun c a d v w h => by cases d <;> exact h) trivial ?_
 iterate 4 (refine ords_pure rfl (fun K hK => ?_); go_simp; refine hK _ ?_; clear hK K)
 refine ords_read rfl (fun K hK => ?_); go_simp; refine hK _ ?_; clear hK K
 iterate 3 (refine ords_pure rfl (fun K hK => ?_); go_simp; refine hK _ ?_; clear hK K)
 refine ords_read rfl (fun K hK => ?_); go_simp; refine hK _ ?_; clear hK K
 iterate 2 (refine ords_pure rfl (fun K hK => ?_); go_simp; refine hK _ ?_; clear hK K)
 refine ords_end (fun n1 => ?_)
 go_wp2_with fail
 exact bodyPost_ret (results_tmp2 rfl _ _ _) rfl ⟨rfl, cs, Ar, cr, hv, now, HX.out.drewN _, HB.out.drewN _, HQ.out⟩
set_option maxRecDepth 20000 in
set_option maxHeartbeats 4000000 in
theorem xreadCut_of (Q : Option Addr → Prop) (base p : Nat) (big : Bool) (len : Int) (key ls lp : List UInt8) (wn : UInt64) (e : Eng) (root : List UInt8) (pos n0 n T L : Nat) (Ak : Option Addr) (ck : Nat) (s pp : Sl) (q : Nat) (F : List Nat) (w : World) (hn0 : n0 ≤ 65536) (hnL : n = L) (hlt0 : L < n0) (hTT : totN (kOf big) len = T) (hT : xTotal (kOf big) len = T) (hT2 : T ≤ 274877906944) (hpo : pos ≤ T) (hL : L = T - pos) (h0 : 0 < L) (hT2' : totN (kOf big) len ≤ bOf big * 4294967296) (hC : xCode (kOf big) len = codN (kOf big) len) (hC2 : 1 ≤ codN (kOf big) len ∧ codN (kOf big) len ≤ codeMax big) (hs4 : 4 * s.n ≤ bOf big) (ht4 : 4 * pp.n ≤ bOf big)
  (hno : Calls Tryz.prog 29 #[.pointer (some ⟨p, 0, none⟩)] w fun r w' => r = .returned (.bool false) ∧ w = w')
  (hgi : Calls Tryz.prog 44 #[.pointer (some ⟨p, 0, none⟩)] w fun r w' => r = .returned (.tuple #[]) ∧ ∃ cs' Ar cr hv now, XG w' base p big len key ls lp wn e root pos cs' Ak ck s pp q F Ar cr hv now ∧ But [p] w w' ∧ Q Ar) :
  Calls Tryz.prog 26 #[.pointer (some ⟨p, 0, none⟩), .int .i64 n0] w fun r w' => ∃ A cc, r = .returned (.tuple #[.slice A n cc, .int .i64 0]) ∧ n ≤ cc ∧ OS cB w' w.heap.size A cc (rowOf (bOf big) (pieceL big len ls lp root) pos n) ∧ ∃ cs' Ar cr hv now, XG w' base p big len key ls lp wn e root (pos + n) cs' Ak ck s pp q F Ar cr hv now ∧ But [p] w w' ∧ Q Ar ∧ (∀ a, A = some a → a.block ∉ xfoot p F Ak s.A pp.A Ar) := by
 have HNO := Lib.hid hno; have HGI := Lib.hid hgi; have HT := Lib.hid hT; have HTT := Lib.hid hTT; clear hno hgi hT hTT
 have w1' : IntKind.u64.wrap ((T : Int) - (pos : Int)) = L := by rw [wrap_u64]; omega
 have w2' : IntKind.u64.wrap (n0 : Int) = n0 := by rw [wrap_u64]; omega
 have t1 : decide ((n0 : Int) < 0) = false := by simp <;> omega
 have t2 : decide ((65536 : Int) < (n0 : Int)) = false := by simp <;> omega
 have t3 : (L < n0) = True := by simp [hlt0]
 have HLE := Lib.hid (Nat.le_of_eq hnL); have HLQ := Lib.hid hL; have HPO := Lib.hid hpo; have HT2 := Lib.hid hT2; have HN6 := Lib.hid (show n ≤ 65536 by omega)
 have t4 : (0 < n0) = True := by simp <;> omega
 have t5 : ((L : Int) == 0) = false := by simp <;> omega
 have t6 : (L = 0) = False := by simp <;> omega
 have w4' : IntKind.i64.wrap (L : Int) = (n : Int) := by rw [hnL]; simp [IntKind.wrap, IntKind.bits, IntKind.signed]; omega
 clear hL hpo hT2 hn0 hnL hlt0 h0
 go_enter Tryz.func26, Tryz.ntmps26
 go_wp2_with (go_at_call 29; refine HNO.out.mono ?_; rintro e0 w0 ⟨rfl, rfl⟩)
 refine HGI.out.mono ?_
 rintro e1 w1 ⟨rfl, cs, Ar, cr, hv, now, hX, hbut, hQ⟩
 have d3 : w1.cell? ⟨p, 3, none⟩ = some (.int .u64 T) := by rw [← HT.out]; exact (hX.blk.cell 3).trans hX.xc.c3
 have d10 : w1.cell? ⟨p, 10, none⟩ = some (.int .u64 pos) := (hX.blk.cell 10).trans hX.xc.c10
 have hpl := hX.blk.lt
 have HX := Lib.hid hX; have HB := Lib.hid hbut; have HQ := Lib.hid hQ; clear hX hbut hQ HGI HNO
 go_upto_region 6 with fail
 refine wp_region_ords (fun _ => True) (fun _ _ h => h) (Ords.of [(0, 0), (0, 1), (0, 2), (0, 3), (1, 4), (0, 5), (0, 6), (0, 7), (1, 8), (0, 9), (0, 10)] .fin) (by kernel_rfl) rfl (by kernel_rfl) (by kernel_rfl) (fun c a d v w h => by cases d <;> exact h) trivial ?_
 iterate 4 (refine ords_pure rfl (fun K hK => ?_); go_simp; refine hK _ ?_; clear hK K)
 refine ords_read rfl (fun K hK => ?_); go_simp; refine hK _ ?_; clear hK K
 iterate 3 (refine ords_pure rfl (fun K hK => ?_); go_simp; refine hK _ ?_; clear hK K)
 refine ords_read rfl (fun K hK => ?_); go_simp; refine hK _ ?_; clear hK K
 iterate 2 (refine ords_pure rfl (fun K hK => ?_); go_simp; refine hK _ ?_; clear hK K)
 refine ords_end (fun n1 => ?_)
 go_wp2_with fail
 have HX0 := Lib.hid (HX.out.drewN n1); have HB0 := Lib.hid (HB.out.drewN n1); clear HX HB d3 d10 hpl
 generalize w1.drewN n1 = w2 at *
 have hws : w.heap.size ≤ w2.heap.size := HB0.out.size
 go_loopw [7, 8, 9, 10] (fun o a b c wr' => ∃ (k : Nat) (A : Option Addr) (cc : Nat) (cs : Array Value) (hv : Int) (now : List UInt8), k ≤ n ∧ o = .slice A k cc ∧ OS cB wr' w2.heap.size A cc (rowOf (bOf big) (pieceL big len ls lp root) pos k) ∧ XG wr' base p big len key ls lp wn e root (pos + k) cs Ak ck s pp q F Ar cr hv now ∧ But [p] w2 wr') (fun o _ _ _ _ => n - slLen o)
 case atStart => exact ⟨0, none, 0, cs, hv, now, Nat.zero_le _, rfl, OS.nil _ _ _ rfl, HX0.out, But.refl _ _⟩
 case round =>
  obtain ⟨k, A, cc, cs, hv, now, hk, rfl, hos, hX, hbut⟩ := hrel
  have hb := bOf_le big
  obtain ⟨at_, hat⟩ : ∃ at_, at_ = pos + k := ⟨_, rfl⟩
  rw [← hat] at hX
  have HAT := Lib.hid hat
  obtain ⟨f, hf⟩ : ∃ f, f = bOf big := ⟨_, rfl⟩
  have HWS := Lib.hid hws
  have HX := Lib.hid hX; have HB := Lib.hid hbut; have HO := Lib.hid hos; clear hX hbut hos hws
  by_cases hlt : k < n
  ·have hkd : decide ((k : Int) < (n : Int)) = true := by simp <;> omega
   have hkn : (k < n) = True := by simp [hlt]
   obtain ⟨i, fr, nk, ff, m, a2, HNUM, hcs, wA, wR, wR2, wf, wi, z1, z2, wK, wF, wM, wQ, wT, hfm, hkm, hm1, HWM, HA2⟩ := read_nums n k at_ f T pos L hat (by omega) hlt HLE.out HLQ.out HPO.out HT2.out HN6.out
   have hif : i * bOf big < totN (kOf big) len := by
    obtain ⟨-, h2, -, -, -, -, h7, -, -⟩ := HNUM.out
    rw [HTT.out, ← hf, h2]
    exact Nat.lt_of_le_of_lt (Nat.div_mul_le_self at_ f) h7
   have HF := Lib.hid hf
   clear hb hat
   obtain ⟨d0, d1, d2, d3, d4, d6, d7, d9, d10, d75⟩ := HX.out.cells HT.out hC
   rw [← HF.out] at d1
   clear hf
   by_cases hvi : hv = i
   ·have c1 : (hv != (i : Int)) = false := by simpa using hvi
    have c2 : (hv == (i : Int)) = true := by simpa using hvi
    subst hvi
    have HIF := Lib.hid hif; clear hif hlt
    go_upto_region 13 with fail
    refine wp_region_ords (fun _ => True) (fun _ _ h => h) (Ords.of [(0, 0), (0, 1), (0, 2), (1, 3), (0, 4), (0, 5), (0, 6), (0, 7), (1, 8), (0, 9), (0, 10), (0, 11)] .fin) (by kernel_rfl) rfl (by kernel_rfl) (by kernel_rfl) (fun c a d v w h => by cases d <;> exact h) trivial ?_
    iterate 2 (refine ords_pure rfl (fun K hK => ?_); go_simp; refine hK _ ?_; clear hK K; refine ords_pure rfl (fun K hK => ?_); go_simp; refine hK _ ?_; clear hK K; refine ords_pure rfl (fun K hK => ?_); go_simp; refine hK _ ?_; clear hK K; refine ords_read rfl (fun K hK => ?_); go_simp; refine hK _ ?_; clear hK K; refine ords_pure rfl (fun K hK => ?_); go_simp; refine hK _ ?_; clear hK K)
    iterate 2 (refine ords_pure rfl (fun K hK => ?_); go_simp; refine hK _ ?_; clear hK K)
    refine ords_end (fun n1 => ?_)
    go_upto_region 17 with fail
    have HX3 := Lib.hid (HX.out.drewN n1); have HB3 := Lib.hid (HB.out.drewN n1); have HO3 := Lib.hid (HO.out.drewN n1)
    clear HX HB HO d0 d1 d2 d3 d4 d6 d7 d9 d10 d75
    generalize wr.drewN n1 = W at *
    obtain ⟨cs7, now7, HX3⟩ : ∃ cs7 now7, Hid (XG W base p big len key ls lp wn e root at_ cs7 Ak ck s pp q F Ar cr i now7) := ⟨_, _, HX3⟩
    rcases hcs with ⟨t9, hmm⟩ | ⟨t9, hmm⟩
    all_goals
     subst hmm
     obtain ⟨-, d1, -, -, -, -, -, -, d10, -⟩ := HX3.out.cells HT.out hC
     rw [← HF.out] at d1
     refine wp_region_ords (fun _ => True) (fun _ _ h => h) (Ords.of [(0, 0), (0, 1), (0, 2), (1, 3), (0, 4), (0, 5), (0, 6), (0, 7), (1, 8), (0, 9), (0, 10), (0, 11), (0, 12)] .fin) (by kernel_rfl) rfl (by kernel_rfl) (by kernel_rfl) (fun c a d v w h => by cases d <;> exact h) trivial ?_
     iterate 2 (refine ords_pure rfl (fun K hK => ?_); go_simp; refine hK _ ?_; clear hK K; refine ords_pure rfl (fun K hK => ?_); go_simp; refine hK _ ?_; clear hK K; refine ords_pure rfl (fun K hK => ?_); go_simp; refine hK _ ?_; clear hK K; refine ords_read rfl (fun K hK => ?_); go_simp; refine hK _ ?_; clear hK K; refine ords_pure rfl (fun K hK => ?_); go_simp; refine hK _ ?_; clear hK K)
     iterate 3 (refine ords_pure rfl (fun K hK => ?_); go_simp; refine hK _ ?_; clear hK K)
     refine ords_end (fun n1 => ?_)
     go_upto_region 19 with fail
     clear wA wR wR2 wf wi z1 z2 wK wF wQ wT w1' w2' t9
     have hsl := slice_now p fr m hfm hm1
     have HC := Lib.hid (HX3.out.cut fr m hfm)
     go_wp2_with (at_builtin; refine wpList_appB _ rfl (.tmp 117) (.tmp 125) rfl (HO3.out.drewN _) rfl (rowOf_len _ _ _ _) (HC.out.drewN _) rfl (by rw [List.length_take, List.length_drop, HX3.out.hnow]; omega) (by have := HN6.out; omega) (Nat.le_of_lt_succ (by have := HB3.out.size; simp; omega)) ?_; intro A3 c3 w3 hown3 hgrow hat; have HO4 := Lib.hid hown3; have hbg : But (obl A) W w3 := But.grown (gdr_in hgrow) (fun k9 h9 => .inl (mem_obl.2 (by cases A with | none => cases h9 | some a9 => exact ⟨a9, rfl, Option.some.inj h9⟩))); have HX4 := Lib.hid (HX3.out.but hbg (fun k9 h9 hm9 => by obtain ⟨a9, ha9, hb9⟩ := mem_obl.1 hm9; have g1 := (HO3.out.block_lt a9 ha9).1; have g2 := HX0.out.lt k9 h9; rw [hb9] at g1; exact Nat.lt_irrefl _ (Nat.lt_of_lt_of_le g2 g1))); have HB4 := Lib.hid (HB3.out.trans hbg (fun k9 hm9 => by obtain ⟨a9, ha9, hb9⟩ := mem_obl.1 hm9; have g1 := (HO3.out.block_lt a9 ha9).1; rw [hb9] at g1; exact .inr g1)); clear hown3 hgrow hat hbg; have e10 : w3.cell? ⟨p, 10, none⟩ = some (.int .u64 at_) := (HX4.out.blk.cell 10).trans HX4.out.xc.c10; have f10 := HX4.out.blk.frozen 10; have hpl := HX4.out.blk.lt; obtain ⟨wm, wS⟩ := HWM.out)
     go_roundw
     case rel =>
      have hpc := HX4.out.cutRow f T fr m at_ HF.out HTT.out HNUM.out.2.1 HNUM.out.2.2.1 HA2.out.2.2.1 HA2.out.2.2.2
      refine ⟨k + m, A3, c3, cs7.setIfInBounds 10 (.int .u64 a2), (i : Int), now7, hkm, rfl, ?_, ?_, ?_⟩
      ·rw [rowOf_add, ← HNUM.out.1, ← hpc]
       exact HO4.out.setFar (p := ⟨p, 10, none⟩) (HO4.out.ne_blk HX4.out.blk (by decide)) _
      ·rw [← HA2.out.1]
       exact HX4.out.moved a2 (by rw [HTT.out]; exact HA2.out.2.1)
      ·exact But.setCell (p := ⟨p, 10, none⟩) HB4.out (.inl (List.mem_singleton.2 rfl)) _
     case measure => exact meas_lt _ _ _ hkm hm1
   ·have c1 : (hv != (i : Int)) = true := by simpa using hvi
    have c2 : (hv == (i : Int)) = false := by simpa using hvi
    have hpi := fun W hrs hrp hrr => xpieceL_any big len T i (!decide (len = -1)) s pp ls lp root Ar W HTT.out hif hT2' hC2 hs4 ht4 HX.out.hls HX.out.hlp HX.out.rl hrs hrp hrr
    unfold Sl.v at hpi
    have HPI := Lib.hid hpi
    have HIF := Lib.hid hif; clear hif hlt hpi hvi
    go_upto_region 13 with fail
    refine wp_region_ords (fun _ => True) (fun _ _ h => h) (Ords.of [(0, 0), (0, 1), (0, 2), (1, 3), (0, 4), (0, 5), (0, 6), (0, 7), (1, 8), (0, 9), (0, 10), (0, 11)] .fin) (by kernel_rfl) rfl (by kernel_rfl) (by kernel_rfl) (fun c a d v w h => by cases d <;> exact h) trivial ?_
    iterate 2 (refine ords_pure rfl (fun K hK => ?_); go_simp; refine hK _ ?_; clear hK K; refine ords_pure rfl (fun K hK => ?_); go_simp; refine hK _ ?_; clear hK K; refine ords_pure rfl (fun K hK => ?_); go_simp; refine hK _ ?_; clear hK K; refine ords_read rfl (fun K hK => ?_); go_simp; refine hK _ ?_; clear hK K; refine ords_pure rfl (fun K hK => ?_); go_simp; refine hK _ ?_; clear hK K)
    iterate 2 (refine ords_pure rfl (fun K hK => ?_); go_simp; refine hK _ ?_; clear hK K)
    refine ords_end (fun n1 => ?_)
    have HX1 := Lib.hid (HX.out.drewN n1); have HB1 := Lib.hid (HB.out.drewN n1); have HO1 := Lib.hid (HO.out.drewN n1)
    clear HX HB HO d0 d1 d2 d3 d4 d6 d7 d9 d10 d75
    generalize wr.drewN n1 = W1 at *
    obtain ⟨d0, d1, d2, d3, d4, d6, d7, d9, d10, d75⟩ := HX1.out.cells HT.out hC
    go_upto_region 15 with fail
    refine wp_region_ords (fun _ => True) (fun _ _ h => h) (Ords.of [(0, 0), (0, 1), (0, 2), (0, 3), (0, 4), (0, 5), (0, 6), (1, 7), (0, 8), (0, 9), (0, 10), (1, 11), (0, 12), (0, 13), (0, 14), (1, 15), (0, 16), (0, 17), (0, 18), (1, 19), (0, 20), (2, 21), (2, 22)] .fin) (by kernel_rfl) rfl (by kernel_rfl) (by kernel_rfl) (fun c a d v w h => by cases d <;> exact h) trivial ?_
    iterate 7 (refine ords_pure rfl (fun K hK => ?_); go_simp; refine hK _ ?_; clear hK K)
    iterate 3 (refine ords_read rfl (fun K hK => ?_); go_simp; refine hK _ ?_; clear hK K; refine ords_pure rfl (fun K hK => ?_); go_simp; refine hK _ ?_; clear hK K; refine ords_pure rfl (fun K hK => ?_); go_simp; refine hK _ ?_; clear hK K; refine ords_pure rfl (fun K hK => ?_); go_simp; refine hK _ ?_; clear hK K)
    refine ords_read rfl (fun K hK => ?_); go_simp; refine hK _ ?_; clear hK K
    refine ords_pure rfl (fun K hK => ?_); go_simp; refine hK _ ?_; clear hK K
    refine ords_loud rfl (fun n1 => ?_)
    go_wp2_with (go_at_call 47; refine (HPI.out _ (HX1.out.os.reads.drewN _) (HX1.out.op.reads.drewN _) (HX1.out.or.reads.drewN _)).mono ?_; rintro e4 w4 ⟨A4, n4, c4, cc4, rfl, hl4, hn4, ho4, hb4⟩)
    have HB4 := Lib.hid (undrN hb4); have HO4 := Lib.hid ho4; have HL4 := Lib.hid hl4; clear hb4 ho4 hl4 hn4
    have hX4 := Lib.hid (HX1.out.below HB4.out)
    refine ⟨trivial, ?_⟩
    refine ords_loud rfl (fun n2 => ?_)
    (refine wpList_copyRow rfl (.tmp 68) (.tmp 86) rfl rfl rfl (hX4.out.blk.drewN n2) (HO4.out.reads.drewN n2) HL4.out (by rw [← HL4.out]; exact (pieceL_le big len ls lp root i HIF.out).2) (by have h1 := (pieceL_le big len ls lp root i HIF.out).2; rw [hX4.out.xc.sz, ← HL4.out]; omega) (by rw [← HL4.out]; exact (pieceL_le big len ls lp root i HIF.out).1) ?_; intro w5 hblk5 hg5)
    change True ∧ _
    first | (refine ⟨trivial, ?_⟩; refine ords_end (fun n3 => ?_)) | (rintro _ ⟨n3, rfl⟩)
    have hP := pieceL_le big len ls lp root i HIF.out
    have hb5 : But [p] w4 w5 := But.grown (gdr_in hg5) (fun k9 h9 => .inl (List.mem_singleton.2 (Option.some.inj h9).symm))
    have hx5 := hX4.out.xc.putNow (pieceL big len ls lp root i) hP.2
    rw [HL4.out] at hx5
    have HK5 := Lib.hid hblk5; have HBB := Lib.hid hb5; have HX5 := Lib.hid hx5; have HP := Lib.hid hP
    clear hblk5 hg5 hb5 hx5 hP d0 d1 d2 d3 d4 d6 d7 d9 d10 d75
    have e75 : w5.cell? ⟨p, 75, none⟩ = some (.int .i64 hv) := (HK5.out.cell 75).trans HX5.out.c75
    have f75 := HK5.out.frozen 75
    have hpl := HK5.out.lt
    go_upto_region 17 with fail
    have HB6 : But [p] w4 ((w5.drewN n3).setCell ⟨p, 75, none⟩ (.int .i64 i)) := But.setCell (p := ⟨p, 75, none⟩) (HBB.out.drewN n3) (.inl (List.mem_singleton.2 rfl)) _
    have HX3 := Lib.hid (hX4.out.own HB6 ((HK5.out.drewN n3).set_ 75 _) (HX5.out.put75 i) (by rw [List.length_append, List.length_drop, hX4.out.hnow, HL4.out]; have h1 := HP.out.2; rw [HL4.out] at h1; omega) (.inr ⟨i, rfl, HIF.out, by rw [← pieceL_len big len ls lp root i, List.take_left]⟩) hX4.out.hpos)
    have HB3 := Lib.hid ((HB1.out.below HB4.out).trans HB6 (fun k9 h9 => .inl h9))
    have HO3 := Lib.hid ((HO1.out.below HB4.out (Nat.le_refl _)).but HB6 (fun a9 h9 hm9 => by have g1 := (HO1.out.block_lt a9 h9).1; have g2 := HX0.out.blk.lt; rw [List.mem_singleton.1 hm9] at g1; exact Nat.lt_irrefl _ (Nat.lt_of_lt_of_le g2 g1)))
    clear hX4 HB6 HBB HK5 HX5 HP HX1 HB1 HO1 e75 f75 hpl HPI HO4 HB4 c1 c2
    generalize (w5.drewN n3).setCell ⟨p, 75, none⟩ (.int .i64 i) = W at *
    obtain ⟨cs7, now7, HX3⟩ : ∃ cs7 now7, Hid (XG W base p big len key ls lp wn e root at_ cs7 Ak ck s pp q F Ar cr i now7) := ⟨_, _, HX3⟩
    rcases hcs with ⟨t9, hmm⟩ | ⟨t9, hmm⟩
    all_goals
     subst hmm
     obtain ⟨-, d1, -, -, -, -, -, -, d10, -⟩ := HX3.out.cells HT.out hC
     rw [← HF.out] at d1
     refine wp_region_ords (fun _ => True) (fun _ _ h => h) (Ords.of [(0, 0), (0, 1), (0, 2), (1, 3), (0, 4), (0, 5), (0, 6), (0, 7), (1, 8), (0, 9), (0, 10), (0, 11), (0, 12)] .fin) (by kernel_rfl) rfl (by kernel_rfl) (by kernel_rfl) (fun c a d v w h => by cases d <;> exact h) trivial ?_
     iterate 2 (refine ords_pure rfl (fun K hK => ?_); go_simp; refine hK _ ?_; clear hK K; refine ords_pure rfl (fun K hK => ?_); go_simp; refine hK _ ?_; clear hK K; refine ords_pure rfl (fun K hK => ?_); go_simp; refine hK _ ?_; clear hK K; refine ords_read rfl (fun K hK => ?_); go_simp; refine hK _ ?_; clear hK K; refine ords_pure rfl (fun K hK => ?_); go_simp; refine hK _ ?_; clear hK K)
     iterate 3 (refine ords_pure rfl (fun K hK => ?_); go_simp; refine hK _ ?_; clear hK K)
     refine ords_end (fun n1 => ?_)
     go_upto_region 19 with fail
     clear wA wR wR2 wf wi z1 z2 wK wF wQ wT w1' w2' t9
     have hsl := slice_now p fr m hfm hm1
     have HC := Lib.hid (HX3.out.cut fr m hfm)
     go_wp2_with (at_builtin; refine wpList_appB _ rfl (.tmp 117) (.tmp 125) rfl (HO3.out.drewN _) rfl (rowOf_len _ _ _ _) (HC.out.drewN _) rfl (by rw [List.length_take, List.length_drop, HX3.out.hnow]; omega) (by have := HN6.out; omega) (Nat.le_of_lt_succ (by have := HB3.out.size; simp; omega)) ?_; intro A3 c3 w3 hown3 hgrow hat; have HO4 := Lib.hid hown3; have hbg : But (obl A) W w3 := But.grown (gdr_in hgrow) (fun k9 h9 => .inl (mem_obl.2 (by cases A with | none => cases h9 | some a9 => exact ⟨a9, rfl, Option.some.inj h9⟩))); have HX4 := Lib.hid (HX3.out.but hbg (fun k9 h9 hm9 => by obtain ⟨a9, ha9, hb9⟩ := mem_obl.1 hm9; have g1 := (HO3.out.block_lt a9 ha9).1; have g2 := HX0.out.lt k9 h9; rw [hb9] at g1; exact Nat.lt_irrefl _ (Nat.lt_of_lt_of_le g2 g1))); have HB4 := Lib.hid (HB3.out.trans hbg (fun k9 hm9 => by obtain ⟨a9, ha9, hb9⟩ := mem_obl.1 hm9; have g1 := (HO3.out.block_lt a9 ha9).1; rw [hb9] at g1; exact .inr g1)); clear hown3 hgrow hat hbg; have e10 : w3.cell? ⟨p, 10, none⟩ = some (.int .u64 at_) := (HX4.out.blk.cell 10).trans HX4.out.xc.c10; have f10 := HX4.out.blk.frozen 10; have hpl := HX4.out.blk.lt; obtain ⟨wm, wS⟩ := HWM.out)
     go_roundw
     case rel =>
      have hpc := HX4.out.cutRow f T fr m at_ HF.out HTT.out HNUM.out.2.1 HNUM.out.2.2.1 HA2.out.2.2.1 HA2.out.2.2.2
      refine ⟨k + m, A3, c3, cs7.setIfInBounds 10 (.int .u64 a2), (i : Int), now7, hkm, rfl, ?_, ?_, ?_⟩
      ·rw [rowOf_add, ← HNUM.out.1, ← hpc]
       exact HO4.out.setFar (p := ⟨p, 10, none⟩) (HO4.out.ne_blk HX4.out.blk (by decide)) _
      ·rw [← HA2.out.1]
       exact HX4.out.moved a2 (by rw [HTT.out]; exact HA2.out.2.1)
      ·exact But.setCell (p := ⟨p, 10, none⟩) HB4.out (.inl (List.mem_singleton.2 rfl)) _
     case measure => exact meas_lt _ _ _ hkm hm1
  ·obtain rfl : k = n := by omega
   have hkd : decide ((k : Int) < (k : Int)) = false := by simp
   have hkn : (k < k) = False := by simp
   clear hlt hat hf
   go_wp2_with fail
   exact bodyPost_ret (results_tmp2 rfl _ _ _) rfl ⟨A, cc, rfl, (by have h := HO.out.len_le.1; rw [rowOf_len] at h; exact h), HO.out.mono HWS.out, cs, Ar, cr, hv, now, by rw [← HAT.out]; exact HX.out, HB0.out.trans HB.out (fun k9 h9 => .inl h9), HQ.out, fun a9 h9 hm9 => by have g1 := (HO.out.block_lt a9 h9).1; have g2 := HX0.out.lt _ hm9; exact Nat.lt_irrefl _ (Nat.lt_of_lt_of_le g2 g1)⟩
end Go.Proofs.YtmapfcdffklopaaGreat

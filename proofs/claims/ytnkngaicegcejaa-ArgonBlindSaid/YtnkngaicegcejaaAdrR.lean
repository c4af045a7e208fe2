/-
  A block of addresses, by the reference. Contracts alone; no statement is claimed here.
-/
import Derived.Test.YtnkngaicegcejaaAdrP
namespace Go.Proofs.Ytnkngaicegcejaa
open Go.RowKit
attribute [local go_sem] pureUpon Ords.of

def wints (l : List UInt64) : Array Value := (l.map fun x => Value.int .i64 (wrd x)).toArray
theorem wints_at (l : List UInt64) (k : Nat) (v : UInt64) (h : l[k]? = some v) : (wints l)[k]? = some (.int .i64 (wrd v)) := by simp [wints, h]

set_option maxRecDepth 20000 in
set_option maxHeartbeats 4000000 in
theorem addressR_any (k m pp ll t p s l C n : Int) (x0 x1 x2 x3 x4 x5 x6 : UInt64) (e0 : p = wrd x0) (e1 : l = wrd x1) (e2 : s = wrd x2) (e3 : IntKind.i64.wrap (ll * C) = wrd x3) (e4 : pp = wrd x4) (e5 : k = wrd x5) (e6 : n = wrd x6) (w : World) :
    Calls Try.prog 74 #[.agg #[.int .i64 k, .int .i64 m, .int .i64 pp, .int .i64 ll, .int .i64 t], .int .i64 p, .int .i64 s, .int .i64 l, .int .i64 C, .int .i64 n] w fun e w' => ∃ A c, e = .returned (.slice A 1024 c) ∧ OS cB w' w.heap.size A c (adrB [x0, x1, x2, x3, x4, x5, x6]) ∧ Below w.heap.size w w' := by
  subst e0; subst e1; subst e2; subst e4; subst e5; subst e6
  have hmk : ∀ (W : World), (Instr.makeSlice 22 (.int .i64 1024) (.int .i64 1024)).run Try.prog W = .ok (.slice (some ⟨W.heap.size, 0, none⟩) 1024 1024) (W.alloc (.cells (madeCells #[cB.zero] 1024) 5)) := fun (W : World) => run_makeS cB_ok .i64 .i64 1024 1024 (Nat.le_refl _) (by show 1 * 1024 ≤ _; omega) (by omega) W
  have HMK := Lib.hid hmk; clear hmk
  obtain ⟨L, hL⟩ : ∃ L, L = [x0, x1, x2, x3, x4, x5, x6] := ⟨_, rfl⟩
  have HLl : Hid (L.length = 7) := by show _ = _; rw [hL]; rfl
  rw [← hL]
  have HL := Lib.hid hL; clear hL
  go_enter Try.func74, Try.ntmps74
  go_upto_region 2 with fail
  have d0 : Blk ((w.alloc (.cells #[.int .i64 (wrd x5), .int .i64 m, .int .i64 (wrd x4), .int .i64 ll, .int .i64 t] 49)).alloc (.cells #[.int .i64 (wrd x0), .int .i64 (wrd x1), .int .i64 (wrd x2), .int .i64 (wrd x3), .int .i64 (wrd x4), .int .i64 (wrd x5), .int .i64 (wrd x6)] 3)) (w.heap.size + 1) 3 (wints L) := by
    rw [HL.out]; simpa [wints] using Blk.new (w.alloc (.cells #[.int .i64 (wrd x5), .int .i64 m, .int .i64 (wrd x4), .int .i64 ll, .int .i64 t] 49)) 3 (wints [x0, x1, x2, x3, x4, x5, x6])
  have d1 := bal (bal (b0 w) (.cells #[.int .i64 (wrd x5), .int .i64 m, .int .i64 (wrd x4), .int .i64 ll, .int .i64 t] 49)) (.cells #[.int .i64 (wrd x0), .int .i64 (wrd x1), .int .i64 (wrd x2), .int .i64 (wrd x3), .int .i64 (wrd x4), .int .i64 (wrd x5), .int .i64 (wrd x6)] 3)
  obtain ⟨g, hg⟩ : ∃ g, g = w.heap.size + 1 := ⟨_, rfl⟩
  rw [← hg] at d0 ⊢
  generalize (w.alloc (.cells #[.int .i64 (wrd x5), .int .i64 m, .int .i64 (wrd x4), .int .i64 ll, .int .i64 t] 49)).alloc (.cells #[.int .i64 (wrd x0), .int .i64 (wrd x1), .int .i64 (wrd x2), .int .i64 (wrd x3), .int .i64 (wrd x4), .int .i64 (wrd x5), .int .i64 (wrd x6)] 3) = w0 at *
  have D0 := Lib.hid d0; have D1 := Lib.hid d1; have HG := Lib.hid hg; clear d0 d1 hg
  go_wp2_with fail
  go_loopw [14, 15] (fun o i wr => ∃ (k n : Nat) (A : Option Addr) (c : Nat), k ≤ 7 ∧ i = .int .i64 k ∧ n = 8 * k ∧ o = .slice A n c ∧ OS cB wr w.heap.size A c (flat (L.take k)) ∧ Blk wr g 3 (wints L) ∧ Below w.heap.size w wr) (fun _ i _ => 7 - (intOf i).toNat)
  case atStart => exact ⟨0, 0, none, 0, by omega, rfl, rfl, rfl, OS.nil _ _ _ rfl, D0.out, D1.out⟩
  case round =>
    clear D0 D1
    obtain ⟨k, n, A, c, hk, rfl, hn, rfl, hos, hbl, hbw⟩ := hrel
    have HO := Lib.hid hos; have HN := Lib.hid hn; have HB := Lib.hid hbl; clear hos hn hbl
    by_cases hlt : k < 7
    · obtain ⟨v, hv⟩ : ∃ v, L[k]? = some v := ⟨_, List.getElem?_eq_getElem (by rw [HLl.out]; exact hlt)⟩
      have gv : wr.cell? ⟨g, k, none⟩ = some (.int .i64 (wrd v)) := (HB.out.cell k).trans (wints_at L k v hv)
      have HV := Lib.hid hv; clear hv
      have hwr := wrd_wrap v
      have hst := refStore_any v 8 (by omega)
      rw [show ((8 : Nat) : Int) = 8 from rfl] at hst
      have HST := Lib.hid hst; clear hst
      have hlen : Hid ((flat (L.take k)).length = n) := by show _ = _; rw [flat_len, List.length_take, HLl.out, HN.out]; omega
      have hn8 : n ≤ 1024 := by have := HN.out; omega
      have hkd : decide ((k : Int) < 7) = true := by simp; omega
      have hki : (k : Int) < 7 := by omega
      go_wp2_with (first
        | (go_at_call 72; refine (HST.out _).mono ?_; rintro e w5 ⟨A5, c5, rfl, ho5, hb5⟩; have HO5 := Lib.hid ho5; clear ho5)
        | (at_builtin; refine wpList_appB _ rfl (.tmp 40) (.tmp 46) rfl (HO.out.below hb5 (Nat.le_refl _)) rfl hlen.out HO5.out.reads rfl (storeN_len _ _) (by omega) (by have := hbw.size; have := hb5.size; omega) ?_; intro A3 c3 w3 hown3 hgrow hat; have hw3 := bapp (bcall hbw hb5) (HO.out.below hb5 (Nat.le_refl _)) hgrow; have HO3 := Lib.hid hown3; have HB3 := Lib.hid ((HB.out.below hb5 HB.out.lt).grown hgrow (HO.out.ne_row HB.out (by decide))); clear hown3 hgrow hat))
      go_roundw
      case rel =>
        refine ⟨k + 1, n + 8, A3, c3, by omega, by go_num, by have := HN.out; omega, rfl, ?_, HB3.out, hw3⟩
        rw [List.take_add_one, HV.out]
        show OS cB _ _ _ _ (flat (L.take k ++ [v]))
        rw [flat_snoc]
        exact HO3.out
      case measure => simp [intOf]; omega
    · obtain rfl : k = 7 := by omega
      have hn := HN.out
      subst hn
      clear HN HB hlt hk
      have ho := HO.out
      rw [List.take_of_length_le (Nat.le_of_eq HLl.out)] at ho
      have HO := Lib.hid ho; clear ho
      rw [show ((7 : Nat) : Int) = 7 from rfl]
      go_wp2_with fail
      go_loopw [14] (fun o wr => ∃ (n : Nat) (A : Option Addr) (c : Nat), 56 ≤ n ∧ n ≤ 1024 ∧ o = .slice A n c ∧ OS cB wr w.heap.size A c (flat L ++ List.replicate (n - 56) 0) ∧ Below w.heap.size w wr) (fun o _ => 1024 - slLen o)
      case atStart => exact ⟨56, A, c, by omega, by omega, rfl, by simpa using HO.out, hbw⟩
      case round =>
        obtain ⟨n, A, c, hn1, hn2, rfl, hos, hbw⟩ := hrel
        have HO := Lib.hid hos; clear hos
        have hfl : (flat L ++ List.replicate (n - 56) (0 : UInt8)).length = n := by rw [List.length_append, List.length_replicate, flat_len, HLl.out]; omega
        have HFL := Lib.hid hfl; clear hfl
        by_cases hlt : n < 1024
        · have hnd : decide ((n : Int) < 1024) = true := by simp; omega
          go_wp2_with (at_builtin; refine wpList_appB1 _ rfl (.tmp 51) (.tmp 52) rfl (HO.out.alloc _) rfl HFL.out rfl (cnew _ _ _ rfl) 0 rfl (by omega) (by have := hbw.size; simp; omega) ?_; intro A3 c3 w3 hown3 hgrow hat; have hw3 := bapp (bal hbw _) (HO.out.alloc _) hgrow; have HO3 := Lib.hid hown3; clear hown3 hgrow hat)
          go_roundw
          case rel =>
            refine ⟨n + 1, A3, c3, by omega, by omega, rfl, ?_, hw3⟩
            have h := HO3.out
            rw [List.append_assoc, show [(0 : UInt8)] = List.replicate 1 0 from rfl, List.replicate_append_replicate, show n - 56 + 1 = n + 1 - 56 by omega] at h
            exact h
          case measure => simp [slLen]; omega
        · obtain rfl : n = 1024 := by omega
          clear hlt hn1 hn2
          have hI : Hid ((adrIn L).length = 1024) := adrIn_len L HLl.out
          have ho : Hid (OS cB wr w.heap.size A c (adrIn L)) := HO.out
          clear HO HFL
          have hmk := HMK.out
          go_wp2_with fail
          have hz := OS.madeAt (cd := cB) (base := wr.heap.size) wr 1024 1024 0 rfl (Nat.le_refl _) (by unfold maxLen; omega) (Nat.le_refl _) rfl
          have hb1 := bal (b0 wr) (.cells (madeCells #[cB.zero] 1024) 5)
          have hzr : Hid (RS cB (wr.alloc (.cells (madeCells #[cB.zero] 1024) 5)) (wr.alloc (.cells (madeCells #[cB.zero] 1024) 5)).heap.size (some ⟨wr.heap.size, 0, none⟩) zeroB) := hz.reads
          clear hz
          refine (mixR_yes _ _ _ _ zeroB (adrIn L) _ zeroB_len hI.out hzr.out (ho.out.below hb1 (Nat.le_refl _)).reads).mono ?_
          rintro e w2 ⟨A2, c2, rfl, ho2, hb2⟩
          have HO2 := Lib.hid ho2; clear ho2
          go_wp2_with fail
          refine (mixR_yes _ _ _ _ zeroB (mixB zeroB (adrIn L)) _ zeroB_len (mixB_len _ _) ((hzr.out.below hb2).more hb2.size) HO2.out.reads).mono ?_
          rintro e w3 ⟨A3, c3, rfl, ho3, hb3⟩
          have HO3 := Lib.hid ho3; clear ho3
          have hb4 := bcall (bcall (bcall hbw hb1) hb2) hb3
          have h5 := HO3.out.mono (Nat.le_trans hbw.size (Nat.le_trans hb1.size hb2.size))
          go_wp2_with fail
          exact bodyPost_ret (results_tmp rfl _ _ _) rfl ⟨A3, c3, rfl, h5, hb4⟩
end Go.Proofs.Ytnkngaicegcejaa

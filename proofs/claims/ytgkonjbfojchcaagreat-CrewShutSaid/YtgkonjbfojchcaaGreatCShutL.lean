/-
  CrewShut's law. Contracts alone; no statement is claimed here.
-/
import Derived.Test.YtgkonjbfojchcaaGreatCNew
import Derived.Test.YtgkonjbfojchcaaGreatCShut
namespace Go.Proofs.YtgkonjbfojchcaaGreat
open Go.RowKit
attribute [local go_sem] pureUpon Ords.of

set_option maxRecDepth 20000 in
set_option maxHeartbeats 2000000 in
theorem crewShutNo (t : Tr) (a b : Int) (Ad : Option Addr) (nd cd ag : Nat) (w : World) (h : ¬ (treeE t = 0 ∧ poolE a b = 0)) :
    Calls Tryz.prog 4 #[.agg t.cs, .agg #[.int .i64 a, .int .i64 b], .slice Ad nd cd, .int .u8 ag] w fun e w' => e = .returned (.bool true) ∧ Below w.heap.size w w' := by
  have hv := fun W => refValid17_any t a b W
  obtain ⟨V, hV⟩ : ∃ V, V = if treeE t ≠ 0 then treeE t else poolE a b := ⟨_, rfl⟩
  have t0 : (V != 0) = true := by
    rw [bne_iff_ne]
    intro h0
    rw [hV] at h0
    split at h0
    · rename_i h1; exact h1 h0
    · rename_i h1; exact h ⟨Decidable.not_not.1 h1, h0⟩
  rw [← hV] at hv
  have HV := Lib.hid hv
  clear hv hV h
  have HSZ := Lib.hid (Tr.size t)
  have HAW := Lib.hid (fun W => awake17_any W)
  have hu := Lib.hid Tryz.underlying28
  have hup := Lib.hid Tryz.underlying30
  have hps : Hid ((Tryz.prog.info? 30).map (·.size) = some (#[Value.int .i64 a, .int .i64 b]).size) := by show _ = _; kernel_rfl
  go_enter Tryz.func4, Tryz.ntmps4
  go_upto_region 1 with fail
  have HK := Lib.hid ((Blk.new w 28 t.cs).alloc (.cells #[.int .i64 a, .int .i64 b] 30))
  have HL := Lib.hid (Blk.new2 w (.cells t.cs 28) 30 #[.int .i64 a, .int .i64 b])
  have HB := Lib.hid (bal (bal (b0 w) (.cells t.cs 28)) (.cells #[.int .i64 a, .int .i64 b] 30))
  generalize (w.alloc (.cells t.cs 28)).alloc (.cells #[.int .i64 a, .int .i64 b] 30) = u at *
  go_wp2_with (first
  | (go_at_call 5; refine (HAW.out _).mono ?_; rintro e1 u ⟨rfl, hb1⟩; replace HK := Lib.hid (HK.out.below hb1 HK.out.lt); replace HL := Lib.hid (HL.out.below hb1 HL.out.lt); replace HB := Lib.hid (bcall HB.out hb1); clear hb1)
    | (go_at_call 13; refine (HV.out _).mono ?_; rintro e2 u ⟨rfl, hb1⟩; replace HK := Lib.hid (HK.out.below hb1 HK.out.lt); replace HL := Lib.hid (HL.out.below hb1 HL.out.lt); replace HB := Lib.hid (bcall HB.out hb1); clear hb1)
    | (refine wpList_load_row rfl 28 _ rfl w.heap.size rfl 28 t.cs (0, 0) _ HK.out hu.out rfl HSZ.out ?_)
    | (refine wpList_load_row rfl 30 _ rfl (w.heap.size + 1) rfl 30 _ (0, 0) _ HL.out hup.out rfl hps.out ?_))
  exact bodyPost_ret (results_tmp rfl _ _ _) rfl ⟨rfl, HB.out⟩
theorem again_nums (ag : Nat) : ∃ r : Nat, r ≤ 3 ∧ (ag : Int).tmod 4 = (r : Int) ∧ (ag : Int) % 4 = (r : Int) ∧ IntKind.u8.wrap (r : Int) = (r : Int) ∧ wrap64 (r : Int) = (r : Int) := by
  refine ⟨ag % 4, by omega, ?_, by omega, ?_, ?_⟩
  · rw [Int.tmod_eq_emod_of_nonneg (by omega)]; omega
  · simp [IntKind.wrap, IntKind.bits, IntKind.signed]; omega
  · unfold wrap64; omega
set_option maxRecDepth 20000 in
set_option maxHeartbeats 4000000 in
theorem crewShutYes (t : Tr) (a b : Int) (lk ls lp data : List UInt8) (Ad : Option Addr) (nd cd ag : Nat) (w : World) (h : treeE t = 0) (h2 : poolE a b = 0) (hk : lk.length = t.key.n) (hs : ls.length = t.salt.n) (hp : lp.length = t.pers.n) (nk : t.key.n ≤ 140737488351232) (ns : t.salt.n ≤ 140737488351232) (np : t.pers.n ≤ 140737488351232)
    (rk : RS cB w w.heap.size t.key.A lk) (rs : RS cB w w.heap.size t.salt.A ls) (rp : RS cB w w.heap.size t.pers.A lp) (hd : data.length = nd) (hnd : nd ≤ 140737488351232) (hrd : RS cB w w.heap.size Ad data) :
    Calls Tryz.prog 4 #[.agg t.cs, .agg #[.int .i64 a, .int .i64 b], .slice Ad nd cd, .int .u8 ag] w fun e w' => e = .returned (.bool true) ∧ Below w.heap.size w w' := by
  have hv := fun W => refValid17_any t a b W
  rw [if_neg (fun h0 => h0 h), h2] at hv
  have hn := fun W rk rs rp => crewNew_any t a b lk ls lp W h h2 hk hs hp nk ns np rk rs rp
  have HV := Lib.hid hv; have HNW := Lib.hid hn; have RK := Lib.hid rk; have RSS := Lib.hid rs; have RP := Lib.hid rp; have HRD := Lib.hid hrd; have HD := Lib.hid hd; have HND := Lib.hid hnd
  have wn : IntKind.u64.wrap (nd : Int) = (nd : Int) := by rw [wrap_u64]; omega
  obtain ⟨r, hr3, m1, m2, m3, m4⟩ := again_nums ag
  clear hv hn rk rs rp hrd hd hnd h h2 hk hs hp nk ns np
  have HSZ := Lib.hid (Tr.size t)
  have HAW := Lib.hid (fun W => awake17_any W)
  have hu := Lib.hid Tryz.underlying28
  have hup := Lib.hid Tryz.underlying30
  have hps : Hid ((Tryz.prog.info? 30).map (·.size) = some (#[Value.int .i64 a, .int .i64 b]).size) := by show _ = _; kernel_rfl
  go_enter Tryz.func4, Tryz.ntmps4
  go_upto_region 1 with fail
  have HK := Lib.hid ((Blk.new w 28 t.cs).alloc (.cells #[.int .i64 a, .int .i64 b] 30))
  have HL := Lib.hid (Blk.new2 w (.cells t.cs 28) 30 #[.int .i64 a, .int .i64 b])
  have HB := Lib.hid (bal (bal (b0 w) (.cells t.cs 28)) (.cells #[.int .i64 a, .int .i64 b] 30))
  generalize (w.alloc (.cells t.cs 28)).alloc (.cells #[.int .i64 a, .int .i64 b] 30) = u at *
  go_wp2_with (first
  | (go_at_call 5; refine (HAW.out _).mono ?_; rintro e1 u ⟨rfl, hb1⟩; replace HK := Lib.hid (HK.out.below hb1 HK.out.lt); replace HL := Lib.hid (HL.out.below hb1 HL.out.lt); replace HB := Lib.hid (bcall HB.out hb1); clear hb1)
    | (go_at_call 13; refine (HV.out _).mono ?_; rintro e2 u ⟨rfl, hb1⟩; replace HK := Lib.hid (HK.out.below hb1 HK.out.lt); replace HL := Lib.hid (HL.out.below hb1 HL.out.lt); replace HB := Lib.hid (bcall HB.out hb1); clear hb1)
    | (refine wpList_load_row rfl 28 _ rfl w.heap.size rfl 28 t.cs (0, 0) _ HK.out hu.out rfl HSZ.out ?_)
    | (refine wpList_load_row rfl 30 _ rfl (w.heap.size + 1) rfl 30 _ (0, 0) _ HL.out hup.out rfl hps.out ?_))
  refine (HNW.out _ ((RK.out.below HB.out).more HB.out.size) ((RSS.out.below HB.out).more HB.out.size) ((RP.out.below HB.out).more HB.out.size)).mono ?_
  rintro e3 u ⟨g, cs, rfl, hg, hbl, h11, h12, h13, hb3⟩
  have HC := Lib.hid (show CW u g (.slice none 0 0) false from ⟨cs, hbl, h11, h12, h13⟩)
  have HG := Lib.hid (Nat.le_trans HB.out.size hg)
  replace HB := Lib.hid (bcall HB.out hb3)
  clear hbl h11 h12 h13 hb3 hg HK HL
  go_upto_region 8 with (first
    | (go_at_call 7; refine (copenWrite g Ad nd cd data _ HC.out HD.out HND.out ((HRD.out.below HB.out).more HB.out.size)).mono ?_; rintro e4 u ⟨A4, c4, rfl, hc4, hb4⟩; have HC4 := Lib.hid hc4; replace HB := Lib.hid (HB.out.trans (hb4 w.heap.size HG.out HB.out.size)); clear hb4 hc4)
    | (go_at_call 12; refine (copenClosed g _ _ HC4.out).mono ?_; rintro e5 w5 ⟨rfl, rfl⟩)
    | (go_at_call 10; refine (copenWritten g A4 nd c4 HND.out _ HC4.out).mono ?_; rintro e6 w6 ⟨rfl, rfl⟩))
  go_wp2_with fail
  go_loopw [11] (fun i wr => ∃ k : Nat, k ≤ r + 1 ∧ i = .int .i64 k ∧ CW wr g (.slice A4 nd c4) (decide (0 < k)) ∧ Below w.heap.size w wr) (fun i _ => r + 1 - (intOf i).toNat)
  case atStart => exact ⟨0, Nat.zero_le _, rfl, HC4.out, HB.out⟩
  case round =>
    obtain ⟨k, hk, rfl, hc, hbw⟩ := hrel
    have HCK := Lib.hid hc; have HBW := Lib.hid hbw; clear hc hbw
    by_cases hlt : k < r + 1
    · have hkr : decide ((k : Int) ≤ (r : Int)) = true := by simp; omega
      have hki : (k : Int) ≤ (r : Int) := by omega
      have hkt : (k ≤ r) = True := by simp only [eq_iff_iff, iff_true]; omega
      have hk4 : k ≤ 3 := by omega
      have HLT := Lib.hid hlt; clear hlt hk
      go_wp2_with (first
        | (go_at_call 9; refine (cclose g _ _ _ HCK.out).mono ?_; rintro e7 u7 ⟨rfl, hu7⟩; have HC7 := Lib.hid (HCK.out.put13 true); rw [← hu7] at HC7; have HB7 := Lib.hid (bput HBW.out (p := ⟨g, 13, none⟩) HG.out (.bool true)); rw [← hu7] at HB7; clear hu7)
        | (go_at_call 12; refine (cshutClosed _ _ (cstate_shut g _ _ HC7.out)).mono ?_; rintro e8 w8 ⟨rfl, rfl⟩))
      case roundEnd => exact ⟨⟨k + 1, HLT.out, by go_num, by rw [decide_eq_true (Nat.succ_pos k)]; exact HC7.out, HB7.out⟩, by have := HLT.out; simp [intOf]; omega⟩
    · obtain rfl : k = r + 1 := by omega
      have hkr : decide (((r + 1 : Nat) : Int) ≤ (r : Int)) = false := by simp; omega
      have hc := HCK.out
      rw [decide_eq_true (Nat.succ_pos r)] at hc
      have HST := Lib.hid (cstate_shut g _ _ hc)
      clear hc HCK hlt hk
      go_wp2_with fail
      refine (cshutSum _ _ HST.out).mono ?_
      rintro e9 w9 ⟨rfl, rfl⟩
      go_wp2_with (first
        | (go_at_call 7; refine (cshutWrite _ _ _ HST.out).mono ?_; rintro e9 w9 ⟨rfl, rfl⟩)
        | (go_at_call 8; refine (cshutReset _ _ HST.out).mono ?_; rintro e9 w9 ⟨rfl, rfl⟩)
        | (go_at_call 10; refine (cshutWritten _ _ HST.out).mono ?_; rintro e9 w9 ⟨rfl, rfl⟩)
        | (go_at_call 11; refine (cshutRows _ _ HST.out).mono ?_; rintro e9 w9 ⟨rfl, rfl⟩))
      exact bodyPost_ret (results_tmp rfl _ _ _) rfl ⟨rfl, HBW.out⟩
end Go.Proofs.YtgkonjbfojchcaaGreat

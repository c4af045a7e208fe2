/-
  A hasher that is fed with cuts. Contracts alone; no statement is claimed here.
-/
import Derived.Test.YtboihcigcfmhhaaFeedA
import Derived.Test.YtboihcigcfmhhaaHashC
namespace Go.Proofs.Ytboihcigcfmhhaa
open Go.RowKit
attribute [local go_sem] pureUpon Ords.of

def stV (k : Int) (p : Pr) (key : Value) : Value := .agg #[.int .i64 k, .int .i64 p.digest, .int .i64 p.key, .int .i64 p.fanout, .int .i64 p.depth, .int .u32 p.leaf, .int .u64 p.offset, .int .u32 p.xof, .int .i64 p.nd, .int .i64 p.inner, p.salt.v, p.pers.v, key]
/-- whole numbers that came in -/
def cI : Cod Int := ⟨3, 46, 8, .int .i64 0, fun z => .int .i64 z⟩
theorem tmod_bounds (z : Int) (r : Nat) : -(r : Int) ≤ z.tmod ((r : Int) + 1) ∧ z.tmod ((r : Int) + 1) ≤ r := by
  by_cases h : 0 ≤ z
  · rw [Int.tmod_eq_emod_of_nonneg h]
    have h1 := Int.emod_nonneg z (show (r : Int) + 1 ≠ 0 by omega)
    have h2 := Int.emod_lt_of_pos z (show (0 : Int) < (r : Int) + 1 by omega)
    omega
  · have e : z.tmod ((r : Int) + 1) = -((-z).tmod ((r : Int) + 1)) := by rw [Int.neg_tmod, Int.neg_neg]
    rw [e, Int.tmod_eq_emod_of_nonneg (a := -z) (by omega)]
    have h1 := Int.emod_nonneg (-z) (show (r : Int) + 1 ≠ 0 by omega)
    have h2 := Int.emod_lt_of_pos (-z) (show (0 : Int) < (r : Int) + 1 by omega)
    omega
/-- what a hasher has had, and what is left -/
structure FedTo (w wr : World) (q d : Nat) (big : Bool) (X key data : List UInt8) (e0 : Eng) (nd off : Nat) (Ar : Option Addr) (cr : Nat) (F : List Nat) : Prop where
  le : off ≤ nd
  cap : nd - off ≤ cr
  cap2 : cr ≤ 9223372036854775807
  rs : RS cB wr w.heap.size Ar (data.drop off)
  nd : Nd wr q big d X key false (UInt64.ofNat off) (e0.feed (data.take off)) F
  low : ∀ k, k ∈ F → w.heap.size ≤ k
  blw : Below w.heap.size w wr
theorem fed_write {w wr : World} {q d nd off cr m : Nat} {big : Bool} {X key data : List UInt8} {e0 : Eng} {Ar : Option Addr} {F : List Nat} (h : FedTo w wr q d big X key data e0 nd off Ar cr F) (hok : e0.Ok) (hdl : data.length = nd) (hm : m ≤ nd - off) :
    Calls Try.prog 10 #[.pointer (some ⟨q, 0, none⟩), .slice Ar m cr] wr fun r w' => r = .returned (.int .i64 0) ∧ ∃ F', FedTo w w' q d big X key data e0 nd (off + m) (if cr = m then Ar else Ar.map (·.add m)) (cr - m) F' := by
  have hl : (data.drop off).length = nd - off := by rw [List.length_drop, hdl]
  have hle := h.le
  have hcap := h.cap
  have hcap2 := h.cap2
  refine (writeN_any q d big false X key (UInt64.ofNat off) (e0.feed (data.take off)) F Ar m cr ((data.drop off).take m) wr h.nd (by rw [List.length_take, hl]; omega) (by omega) hcap2 ((h.rs.take m).more h.blw.size) (fun h0 a ha hF => by
    have h1 := (h.rs.take m).low h0 a ha
    have h2 := h.low _ hF
    omega)).mono ?_
  rintro r w2 ⟨rfl, F', hN, hF', hB⟩
  have hb2 : Below w.heap.size w w2 := h.blw.trans (hB.toBelow h.blw.size h.low)
  refine ⟨rfl, F', ⟨by omega, by omega, by omega, ?_, ?_, ?_, hb2⟩⟩
  · have h1 := (h.rs.below (hB.toBelow h.blw.size h.low)).cut (k := m) (cap := cr) (by rw [hl]; exact hm) (by rw [hl]; exact hcap)
    rw [List.drop_drop] at h1
    exact h1
  · have e1 : data.take (off + m) = data.take off ++ (data.drop off).take m := List.take_add ..
    have e2 : UInt64.ofNat off + UInt64.ofNat m = UInt64.ofNat (off + m) := (UInt64.ofNat_add off m).symm
    rw [e1, Eng.feed_append _ hok, ← e2]
    exact hN
  · intro k hk
    rcases hF' k hk with h1 | h1
    · exact h.low k h1
    · exact Nat.le_trans h.blw.size h1
set_option maxRecDepth 20000 in
set_option maxHeartbeats 4000000 in
theorem fed_any (big : Bool) (d : Nat) (p : Pr) (ls lp key data : List UInt8) (zs : List Int) (Ak Ad Ac : Option Addr) (nk ck nd cd nc cc : Nat) (w : World) (hc : chk (kOf big) p = 0) (hf : p.Fit) (hd : p.digest = d) (hls : ls.length = p.salt.n) (hlp : lp.length = p.pers.n) (hrs : RS cB w w.heap.size p.salt.A ls) (hrp : RS cB w w.heap.size p.pers.A lp)
    (hk : key.length = nk) (hkk : nk = 0 ∨ (nk : Int) = p.key) (hrk : RS cB w w.heap.size Ak key) (hdl : data.length = nd) (hnd : nd ≤ cd) (hcd : cd ≤ 9223372036854775807) (hnm : nd ≤ 9223372036854775806) (hrd : RS cB w w.heap.size Ad data)
    (hz : zs.length = nc) (hnc : nc ≤ 9223372036854775807) (hrz : RS cI w w.heap.size Ac zs) (hzr : ∀ z ∈ zs, -9223372036854775808 ≤ z ∧ z ≤ 9223372036854775807) :
    Calls Try.prog 6 #[stV (kOf big) p (.slice Ak nk ck), .slice Ad nd cd, .slice Ac nc cc] w fun e w' => ∃ q F, e = .returned (.pointer (some ⟨q, 0, none⟩)) ∧ Nd w' q big d (encL big p ls lp) key false (UInt64.ofNat nd) ((startK big (encL big p ls lp) key).feed data) F ∧ (∀ k, k ∈ F → w.heap.size ≤ k) ∧ Below w.heap.size w w' := by
  have hnew := fun W hrs hrp hrk => new_any big d p ls lp key Ak nk ck W hc hf hd hls hlp hrs hrp hk hkk hrk
  have hok := startK_ok big (encL big p ls lp) key
  generalize startK big (encL big p ls lp) key = e0 at *
  generalize encL big p ls lp = X at *
  clear hc hkk hf
  unfold stV
  unfold Pr.v Pr.cs Sl.v at *
  rw [hd] at hnew
  simp only [hd] at *
  have HNEW := Lib.hid hnew; have HRS := Lib.hid hrs; have HRP := Lib.hid hrp; have HRK := Lib.hid hrk; have HRD := Lib.hid hrd; have HDL := Lib.hid hdl; have HOK := Lib.hid hok; have HZ := Lib.hid hz; have HRZ := Lib.hid hrz; have HZR := Lib.hid hzr; clear hnew hrs hrp hrk hrd hls hlp hk hd hdl hok hz hrz hzr
  generalize hkq : kOf big = kk at *
  clear hkq
  go_enter Try.func6, Try.ntmps6
  go_wp2_with (go_at_call 14; refine (HNEW.out _ ((HRS.out.alloc (Nat.le_refl _) _).more (by simp)) ((HRP.out.alloc (Nat.le_refl _) _).more (by simp)) ((HRK.out.alloc (Nat.le_refl _) _).more (by simp))).mono ?_; rintro e w1 ⟨q, F, rfl, hN1, hF1, hbw1⟩; (first | refine withN hbw1 ?_ | refine withD hbw1 ?_ | refine with0 hbw1 ?_); intro hcw1 hfw1; have z0w1 : w.heap.size < w1.heap.size := (by have := hbw1.size; (try simp at this); omega))
  have hW1 := bcall (bal (b0 w) _) hbw1
  have h0 : FedTo w w1 q d big X key data e0 nd 0 Ad cd F := ⟨Nat.zero_le _, hnd, by omega, HRD.out.below hW1, (by rw [List.take_zero, Eng.feed_nil]; exact hN1), fun k hk => by have h := hF1 k hk; simp at h; omega, hW1⟩
  have H0 := Lib.hid h0; clear h0 hN1 hF1 hcw1 hfw1 hbw1 hW1 z0w1
  go_loopw [9, 28] (fun r i wr => ∃ (j off cr : Nat) (Ar : Option Addr) (F : List Nat), j ≤ nc ∧ i = .int .i64 j ∧ r = .slice Ar (nd - off) cr ∧ FedTo w wr q d big X key data e0 nd off Ar cr F) (fun _ i _ => nc - (intOf i).toNat)
  case atStart => exact ⟨0, 0, cd, Ad, F, Nat.zero_le _, rfl, rfl, H0.out⟩
  case round =>
    obtain ⟨j, off, cr, Ar, F2, hj, rfl, rfl, hfd⟩ := hrel
    obtain ⟨r, hr⟩ : ∃ r, r = nd - off := ⟨_, rfl⟩
    rw [← hr]
    have hcap := hfd.cap
    have hcap2 := hfd.cap2
    rw [← hr] at hcap
    have hrl : (data.drop off).length = r := by rw [List.length_drop, HDL.out, hr]
    have HR := Lib.hid hr; have HFD := Lib.hid hfd; have HRL := Lib.hid hrl; clear hr hfd hrl
    have hrm : r ≤ 9223372036854775806 := by have := HR.out; omega
    by_cases hlt : j < nc
    · have hjd : decide ((j : Int) < nc) = true := by simp; omega
      obtain ⟨ad, z, rfl, hab, hgl, hgc⟩ := (HRZ.out.below HFD.out.blw).at_ (k := j) (by rw [HZ.out]; exact hlt)
      have hgc2 : wr.cell? (ad.add j) = some (.int .i64 z) := hgc
      have hzb := HZR.out z (List.mem_of_getElem? hgl)
      clear hgc hgl
      obtain ⟨t, ht⟩ : ∃ t, z.tmod ((r : Int) + 1) = t := ⟨_, rfl⟩
      have htb := tmod_bounds z r
      rw [ht] at htb
      obtain ⟨hz1, hz2⟩ := hzb
      obtain ⟨ht1, ht2⟩ := htb
      have HTR := Lib.hid ht
      by_cases h0 : t < 0
      · obtain ⟨m, hm⟩ : ∃ m : Nat, -t = m := ⟨(-t).toNat, by omega⟩
        have hmr : m ≤ r := by omega
        have t1 : decide (t < 0) = true := by simpa using h0
        have hmw : IntKind.i64.wrap (-t) = m := by rw [hm]; simp [IntKind.wrap, IntKind.bits, IntKind.signed]; omega
        have hwr := fed_write HFD.out HOK.out HDL.out (m := m) (by rw [← HR.out]; exact hmr)
        have HWR := Lib.hid hwr; clear hwr
        have HE := Lib.hid (show r - m = nd - (off + m) by rw [HR.out]; omega)
        go_wp2_with (go_at_call 10; refine HWR.out.mono ?_; rintro e5 w5 ⟨rfl, F5, hf5⟩; have HF5 := Lib.hid hf5; clear hf5)
        case roundEnd => exact ⟨⟨j + 1, off + m, cr - m, _, F5, by omega, by go_num, by rw [← HE.out], HF5.out⟩, by simp [intOf]; omega⟩
      · obtain ⟨m, hm⟩ : ∃ m : Nat, t = m := ⟨t.toNat, by omega⟩
        subst hm
        have hmr : m ≤ r := by omega
        have t1 : decide ((m : Int) < 0) = false := by simp
        have hwr := fed_write HFD.out HOK.out HDL.out (m := m) (by rw [← HR.out]; exact hmr)
        have HWR := Lib.hid hwr; clear hwr h0
        have HE := Lib.hid (show r - m = nd - (off + m) by rw [HR.out]; omega)
        go_wp2_with (go_at_call 10; refine HWR.out.mono ?_; rintro e5 w5 ⟨rfl, F5, hf5⟩; have HF5 := Lib.hid hf5; clear hf5)
        case roundEnd => exact ⟨⟨j + 1, off + m, cr - m, _, F5, by omega, by go_num, by rw [← HE.out], HF5.out⟩, by simp [intOf]; omega⟩
    · obtain rfl : j = nc := by omega
      have hwr := fed_write HFD.out HOK.out HDL.out (m := r) (by rw [← HR.out]; exact Nat.le_refl _)
      have HWR := Lib.hid hwr; clear hwr
      go_wp2_with (go_at_call 10; refine HWR.out.mono ?_; rintro e5 w5 ⟨rfl, F5, hf5⟩; have HF5 := Lib.hid hf5; clear hf5)
      have hl := HF5.out.nd
      have he : off + r = nd := by have := HR.out; have := HFD.out.le; omega
      rw [he, List.take_of_length_le (Nat.le_of_eq HDL.out)] at hl
      exact bodyPost_ret (results_tmp rfl _ _ _) rfl ⟨q, F5, rfl, hl, HF5.out.low, HF5.out.blw⟩
end Go.Proofs.Ytboihcigcfmhhaa

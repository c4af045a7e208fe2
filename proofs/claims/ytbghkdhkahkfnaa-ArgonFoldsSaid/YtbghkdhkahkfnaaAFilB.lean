/-
  Argon's memory begun by the program. Contracts alone; no statement is claimed here.
-/
import Derived.Test.YtbghkdhkahkfnaaAFilA
namespace Go.Proofs.Ytbghkdhkahkfnaa
open Go.RowKit
attribute [local go_sem] pureUpon Ords.of

def argC (a : Ar) : Array Value := #[.int .i64 a.kind, .int .i64 a.mem, .int .i64 a.passes, .int .i64 a.lanes, .int .i64 a.tag]
theorem argC_size (a : Ar) : (Try.prog.info? 23).map (·.size) = some (argC a).size := by kernel_rfl
theorem numF (k : Nat) : Value.int .i64 ((k : Int) + 1) = .int .i64 ((k + 1 : Nat) : Int) := rfl
theorem measF (n k : Nat) (h : k < n) : n - (intOf (.int .i64 ((k : Int) + 1))).toNat < n - (intOf (.int .i64 (k : Int))).toNat := by simp [intOf]; omega
def lnTo (st : List UInt8) (l c : Nat) : Nat → List UInt8 := fun c' => if c' < c then firstB st l c' else zeroB
theorem lnTo_len (st : List UInt8) (l c : Nat) : ∀ c', (lnTo st l c c').length = 1024 := fun c' => by
 unfold lnTo firstB
 split
 ·exact longL_len _ _
 ·exact zeroB_len
theorem lnTo_two (st : List UInt8) (l : Nat) : lnTo st l 2 = startM st l := rfl
theorem lnTo_put (st : List UInt8) (l c : Nat) : (fun c' => if c' = c then firstB st l c else lnTo st l c c') = lnTo st l (c + 1) := by
 funext c'
 unfold lnTo
 by_cases h : c' = c
 ·subst h; rw [if_pos rfl, if_pos (by omega)]
 ·rw [if_neg h]
  by_cases h2 : c' < c
  ·rw [if_pos h2, if_pos (by omega)]
  ·rw [if_neg h2, if_neg (by omega)]
set_option maxRecDepth 20000 in
set_option maxHeartbeats 4000000 in
theorem abegin_any (a : Ar) (h : a.ok) (As : Option Addr) (ns cs : Nat) (st : List UInt8) (w : World) (hs : st.length = ns) (hn : ns ≤ 1000) (hr : RS cB w w.heap.size As st) :
  Calls Try.prog 20 #[a.v, .slice As ns cs] w fun r w' => ∃ gm gl cap gs, r = .returned (.pointer (some ⟨gm, 0, none⟩)) ∧ Blk w' gm 58 (memC a (some ⟨gl, 0, none⟩) a.ln cap) ∧ PLn w' w.heap.size a a.ln (some ⟨gl, 0, none⟩) cap gs (startM st) ∧ w.heap.size ≤ gm ∧ gm ≠ gl ∧ gm ∉ gs ∧ Below w.heap.size w w' := by
 have hN := Ar.n h
 have hco := fun W => columns_any h W
 obtain ⟨n, hn2⟩ : ∃ n, n = a.ln := ⟨_, rfl⟩
 obtain ⟨C, hC⟩ : ∃ C, C = a.cl := ⟨_, rfl⟩
 have hCs : 4 * a.seg = (C : Int) := by rw [hC, hN.sg]; unfold Ar.cl; push_cast; rfl
 have hC0 : 0 < a.cl := by have := hN.s2; unfold Ar.cl; omega
 have hC4 : C ≤ 4096 := by rw [hC]; have := hN.s3; unfold Ar.cl; omega
 have hC8 : 8 ≤ C := by rw [hC]; have := hN.s2; unfold Ar.cl; omega
 have hln : a.lanes = (n : Int) := by rw [hn2]; exact hN.ln
 have h8 : 1 ≤ n ∧ n ≤ 8 := by rw [hn2]; exact ⟨hN.l1, hN.l8⟩
 rw [hCs] at hco
 have hn3 := fun (A : Option Addr) (n c base : Nat) (l : List UInt8) (x : Nat) (W : World) h1 h2 h3 h4 h5 => n32_any A n c base l x W h1 h2 h3 h4 h5
 have hlo := fun (A : Option Addr) (nb c : Nat) (l : List UInt8) (W : World) h1 h2 h3 => longHash_any 1024 A nb c l W (by omega) h1 h2 h3
 have HCO := Lib.hid hco; have HN3 := Lib.hid hn3; have HLO := Lib.hid hlo; have HR := Lib.hid hr; have HS := Lib.hid hs; have HNN := Lib.hid hn2; have HCC := Lib.hid hC; have HC0 := Lib.hid hC0; have HLN := Lib.hid hln
 have hau := Lib.hid Try.underlying23
 have hbu := Lib.hid Try.underlying61
 clear hco hn3 hlo hr hs hN hCs h hln hn2 hC hC0
 go_enter Try.func20, Try.ntmps20
 unfold Ar.v
 go_upto_region 1 with fail
 rw [show #[Value.int .i64 a.kind, .int .i64 a.mem, .int .i64 a.passes, .int .i64 a.lanes, .int .i64 a.tag] = argC a from rfl]
 have HBK := Lib.hid (Blk.new w 23 (argC a))
 have HB := Lib.hid (bal (b0 w) (.cells (argC a) 23))
 have HGE := Lib.hid (Nat.le_refl w.heap.size)
 obtain ⟨ga, hga⟩ : ∃ g, g = w.heap.size := ⟨_, rfl⟩
 have HGA := Lib.hid hga
 rw [← hga] at HBK ⊢
 clear hga HGE
 generalize w.alloc (.cells (argC a) 23) = u at *
 go_upto_region 2 with (refine wpList_load_row rfl 23 _ rfl ga rfl 23 #[Value.int .i64 a.kind, .int .i64 a.mem, .int .i64 a.passes, .int .i64 a.lanes, .int .i64 a.tag] (0, 0) _ HBK.out hau.out rfl (argC_size a) ?_)
 rw [show #[Value.int .i64 a.kind, .int .i64 a.mem, .int .i64 a.passes, .int .i64 a.lanes, .int .i64 a.tag, .slice none 0 0] = memC a none 0 0 from rfl]
 have HMB := Lib.hid (Blk.new u 58 (memC a none 0 0))
 have hbm := bal (b0 u) (.cells (memC a none 0 0) 58)
 have HGM := Lib.hid (show ga < u.heap.size from HBK.out.lt)
 replace HBK := Lib.hid (HBK.out.below hbm HBK.out.lt)
 have HGW := Lib.hid (show w.heap.size ≤ u.heap.size from HB.out.size)
 replace HB := Lib.hid (bcall HB.out hbm)
 clear hbm
 obtain ⟨gm, hgm⟩ : ∃ g, g = u.heap.size := ⟨_, rfl⟩
 rw [← hgm] at HMB HGM HGW ⊢
 clear hgm
 generalize u.alloc (.cells (memC a none 0 0) 58) = u2 at *
 clear u
 have q3 : u2.cell? ⟨ga, 3, none⟩ = some (.int .i64 n) := by rw [← HLN.out]; exact HBK.out.cell 3
 have l3 := HBK.out.lt
 go_wp2_with fail
 clear q3 l3
 go_loopw [16] (fun ix wr => ∃ (j : Nat) (A : Option Addr) (cap : Nat) (gs : List Nat), j ≤ n ∧ ix = .int .i64 j ∧ Blk wr gm 58 (memC a A j cap) ∧ PLn wr w.heap.size a j A cap gs (startM st) ∧ (∀ x, A = some x → x.block ≠ gm) ∧ gm ∉ gs ∧ Blk wr ga 23 (argC a) ∧ Below w.heap.size w wr) (fun ix _ => n - (intOf ix).toNat)
 case atStart => exact ⟨0, none, 0, [], Nat.zero_le _, rfl, HMB.out, PLn.empty _ _ _ _, fun _ h => (nomatch h), by simp, HBK.out, HB.out⟩
 case round =>
  clear HMB HBK HB
  clear u2
  obtain ⟨j, A, cap, gs, hj, rfl, hmb, hpl, hag, hgg, hbk, hbw⟩ := hrel
  have HMB := Lib.hid hmb; have HPL := Lib.hid hpl; have HAG := Lib.hid hag; have HGG := Lib.hid hgg; have HBK := Lib.hid hbk; have HBW := Lib.hid hbw
  clear hmb hpl hag hgg hbk hbw
  by_cases hlt : j < n
  ·have HJ := Lib.hid hlt
   have d1 : decide ((j : Int) < (n : Int)) = true := by simp; omega
   have hj8 : j ≤ 8 := by omega
   clear hj hlt
   have hmk := fun W => run_makeBlocks C hC4 W
   go_upto_region 6 with first
    | (refine wpList_load_row rfl 23 _ rfl ga rfl 23 (argC a) (0, 0) _ HBK.out hau.out rfl (argC_size a) ?_)
    | (go_at_call 22; refine (HCO.out wr).mono ?_; rintro e3 w3 ⟨rfl, hb3⟩)
   have HB3 := Lib.hid hb3
   have HLA := Lib.hid (lane_made w3 C)
   have hba := bal (b0 w3) (.cells (Array.replicate (C * 1024) (.int .u8 0)) 61)
   have HGL := Lib.hid (show w.heap.size ≤ w3.heap.size from Nat.le_trans HBW.out.size hb3.size)
   have HGN := Lib.hid (show wr.heap.size ≤ w3.heap.size from hb3.size)
   have HB4 := Lib.hid (bcall hb3 hba)
   clear hb3 hba hmk HB3
   obtain ⟨gL, hgL⟩ : ∃ g, g = w3.heap.size := ⟨_, rfl⟩
   rw [← hgL] at HLA HGL HGN ⊢
   clear hgL
   generalize w3.alloc (.cells (Array.replicate (C * 1024) (.int .u8 0)) 61) = w4 at *
   clear w3
   obtain ⟨wo, hwo⟩ : ∃ wo : World, wo = wr := ⟨_, rfl⟩
   rw [← hwo] at HMB HPL HBK HBW HB4 HGN
   clear hwo
   clear wr
   go_wp2_with fail
   go_loopw [22] (fun ix wr => ∃ k : Nat, k ≤ 2 ∧ ix = .int .i64 k ∧ LaneAt wr gL C (lnTo st j k) ∧ Below wo.heap.size wo wr) (fun ix _ => 2 - (intOf ix).toNat)
   case atStart => exact ⟨0, Nat.zero_le _, rfl, HLA.out, HB4.out⟩
   case round =>
    clear HLA HB4
    obtain ⟨k, hk, rfl, hla, hbw⟩ := hrel
    have HLA := Lib.hid hla; have HB4 := Lib.hid hbw
    clear hla hbw
    by_cases hlt : k < 2
    ·have HK := Lib.hid hlt
     have d2 : decide ((k : Int) < 2) = true := by simp; omega
     have hk2 : k ≤ 2 := hk
     clear hk hlt
     have HBS := Lib.hid (bcall HBW.out HB4.out)
     have hrs := (HR.out.below HBS.out).more HBS.out.size
     have hns : 0 + ns ≤ 140737488355328 := by omega
     go_upto_region 10 with first
      | (refine wpList_appB _ rfl (.const (.slice none 0 0)) (.tmp 26) rfl (OS.nil wr wr.heap.size 0 rfl) rfl rfl hrs rfl HS.out hns (Nat.le_refl _) ?_; intro A1 c1 w1 ho1 hg1 hA1)
     have hb1 := (b0 wr).grown hg1 (Nat.le_refl _) (fun _ h => nomatch h)
     rw [List.nil_append] at ho1
     have HO1 := Lib.hid ho1; have HW1 := Lib.hid hb1
     clear ho1 hg1 hA1 hb1 hrs hns
     refine (HN3.out A1 ns c1 wr.heap.size st k w1 (by omega) HS.out (by omega) HW1.out.size HO1.out).mono ?_
     rintro e2 w2 ⟨A2, c2, rfl, ho2, hb2⟩
     have HO2 := Lib.hid ho2; have HW2 := Lib.hid (HW1.out.trans hb2)
     clear ho2 hb2 HO1 HW1
     go_wp2_with fail
     refine (HN3.out A2 (ns + 4) c2 wr.heap.size (st ++ storeN k 4) j w2 (by omega) (by rw [List.length_append, HS.out, storeN_len]) (by omega) HW2.out.size HO2.out).mono ?_
     rintro e3 w3 ⟨A3, c3, rfl, ho3, hb3⟩
     have HO3 := Lib.hid ho3; have HW3 := Lib.hid (HW2.out.trans hb3)
     clear ho3 hb3 HO2 HW2
     go_wp2_with fail
     refine (HLO.out A3 (ns + 4 + 4) c3 (st ++ storeN k 4 ++ storeN j 4) w3 (by rw [List.length_append, List.length_append, HS.out, storeN_len, storeN_len]) (by omega) HO3.out.reads).mono ?_
     rintro e5 w5 ⟨A5, c5, cc5, rfl, ho5, hb5⟩
     have ho6 : OS cB w5 w3.heap.size A5 c5 (firstB st j k) := ho5
     have hfl : (firstB st j k).length = 1024 := longL_len _ _
     obtain ⟨fb, hfb⟩ : ∃ fb, fb = firstB st j k := ⟨_, rfl⟩
     rw [← hfb] at ho6 hfl
     have HFB := Lib.hid hfb
     have HO5 := Lib.hid ho6; have HW5 := Lib.hid (HW3.out.trans (hb5.mono HW3.out.size))
     clear ho5 ho6 hb5 HO3 HW3 hfb
     obtain ⟨g5, hA5⟩ : ∃ g5, A5 = some ⟨g5, 0, none⟩ := by
      rcases HO5.out.form with ⟨_, _, h0⟩ | ⟨g, h, _⟩
      ·rw [h0] at hfl; cases hfl
      ·exact ⟨g, h⟩
     subst hA5
     have hra : w5.rangeAt g5 0 (bcs fb) := fun i v hv => by
      obtain ⟨ad, e, -, hc⟩ := HO5.out.reads.2 (by rw [hfl]; decide)
      injection e with e
      subst e
      have h1 := hc i v hv
      rw [Addr.add_mid] at h1
      exact h1
     have HRA := Lib.hid hra; have HFL := Lib.hid hfl
     have HL5 := Lib.hid (HLA.out.of_ (HW5.out.block gL (HLA.out.lt (by omega))))
     have hkC : (k : Int) < (C : Int) := by omega
     clear hra hfl
     have har : ∀ (g c : Nat) (W : World), (Instr.arrayAt 61 (.slice (some ⟨g, 0, none⟩) 1024 c)).run Try.prog W = .ok (.pointer (some ⟨g, 0, none⟩)) W := fun g c W => run_arrayAt (P := Try.prog) W _ _ 1024 _ _ _ Try.underlying61 (Nat.le_refl _)
     have hth : w5.there gL (k * 1024) (bcs fb).toArray.size := by rw [List.size_toArray, bcs_len, HFL.out]; exact HL5.out.thereC (by omega)
     have HTH := Lib.hid hth
     clear hth
     go_wp2_with first
      | (refine wpList_load_mid rfl 61 (.tmp 38) rfl g5 0 rfl (bcs fb) _ HRA.out hbu.out rfl (bcs_size HFL.out) ?_)
      | (refine wpList_store_mid rfl 61 (.tmp 40) (.tmp 39) rfl gL (k * 1024) (bcs fb).toArray rfl rfl HTH.out (bcs_sizeA HFL.out) (all_oneCell_toArray (bcs_ones fb)) ?_)
     have hl6 := HL5.out.put (lnTo_len st j k) (c := k) (by omega) HFL.out
     rw [HFB.out, lnTo_put, ← HFB.out] at hl6
     have HL6 := Lib.hid hl6
     have hbb := ((HB4.out.trans (HW5.out.mono HB4.out.size))).trans (show Below wo.heap.size w5 (w5.setCells gL (k * 1024) (bcs fb)) from ⟨(grown_setCells (bcs fb) (k * 1024) (World.grownBy.refl w5 (some gL))).os, (grown_setCells (bcs fb) (k * 1024) (World.grownBy.refl w5 (some gL))).tape, (grown_setCells (bcs fb) (k * 1024) (World.grownBy.refl w5 (some gL))).output, (grown_setCells (bcs fb) (k * 1024) (World.grownBy.refl w5 (some gL))).size, fun q hq => heap_setCells_other gL q (bcs fb) (k * 1024) w5 (by have := HGN.out; omega)⟩)
     have HBB := Lib.hid hbb
     clear hl6 hbb har HTH HL5 HRA HO5 HW5
     exact ⟨⟨k + 1, HK.out, numF k, HL6.out, HBB.out⟩, measF 2 k HK.out⟩
    ·obtain rfl : k = 2 := by omega
     have d2 : decide (((2 : Nat) : Int) < 2) = false := by decide
     have d3 : decide ((2 : Int) < 2) = false := by decide
     have HMr := Lib.hid (HMB.out.below HB4.out HMB.out.lt)
     have HPr := Lib.hid (HPL.out.below HC0.out HB4.out)
     have HWr := Lib.hid (bcall HBW.out HB4.out)
     have HA8 := Lib.hid (bal (b0 wr) (.cells #[.slice (some ⟨gL, 0, none⟩) C C] 59))
     have z5 : wr.cell? ⟨gm, 5, none⟩ = some (.slice A j cap) := HMr.out.cell 5
     have l5 := HMr.out.lt
     go_wp2_with (refine wpList_appS _ (cK_ok a.cl) rfl (.tmp 46) (.tmp 48) rfl (HPr.out.below HC0.out HA8.out).row rfl HPr.out.len (RS.one' (x := gL) (by rw [show (cK a.cl).enc gL = Value.slice (some ⟨gL, 0, none⟩) C C by rw [HCC.out]; rfl]; exact cnew _ _ _ rfl)) rfl rfl (by show (j + 1) * 24 ≤ _; omega) (by omega) (Nat.le_trans HWr.out.size HA8.out.size) ?_; intro A' cap' w8 ho8 hg8 hA8; clear z5 l5; have hm8 := (HMr.out.below HA8.out HMr.out.lt).grown hg8 (fun e => by cases hh : A with | none => rw [hh] at e; cases e | some x => rw [hh] at e; exact HAG.out x hh (Option.some.inj e).symm); have z5 : w8.cell? ⟨gm, 5, none⟩ = some (.slice A j cap) := hm8.cell 5; have f5 := hm8.frozen 5; have l5 := hm8.lt; have HM8 := Lib.hid hm8; have HO8 := Lib.hid ho8; have HG8 := Lib.hid hg8; have HA9 := Lib.hid hA8; clear hm8 ho8 hg8 hA8)
     have hgl : wr.heap.size ≤ (wr.alloc (.cells #[.slice (some ⟨gL, 0, none⟩) C C] 59)).heap.size := HA8.out.size
     have hlt0 := HPL.out.lt HC0.out
     have hgm0 := HMB.out.lt
     have hgn := HGN.out
     have hlane : LaneAt (wr.alloc (.cells #[.slice (some ⟨gL, 0, none⟩) C C] 59)) gL a.cl (startM st j) := by
      rw [← lnTo_two, ← HCC.out]
      exact HLA.out.of_ (HA8.out.block gL (HLA.out.lt (by omega)))
     have hpn := (HPr.out.below HC0.out HA8.out).snoc HC0.out hlane HGL.out (fun hm => by have := hlt0 _ hm; omega) (fun x hx => by have := (HPL.out.row.block_lt x hx).2; omega) HO8.out HG8.out HA9.out
     have hA' : ∀ x, A' = some x → x.block ≠ gm := fun x hx e => by
      rcases HA9.out with e2 | e2
      ·cases hh : A with
       | none => rw [hx, hh] at e2; cases e2
       | some y => rw [hx, hh] at e2; have e3 : x.block = y.block := Option.some.inj e2; exact HAG.out y hh (by rw [← e3]; exact e)
      ·rw [hx] at e2
       have e3 : x.block = (wr.alloc (.cells #[.slice (some ⟨gL, 0, none⟩) C C] 59)).heap.size := Option.some.inj e2
       have := HMr.out.lt
       omega
     have hgs' : gm ∉ gs ++ [gL] := fun hm => by
      rcases List.mem_append.1 hm with hm | hm
      ·exact HGG.out hm
      ·rw [List.mem_singleton] at hm; omega
     have hpp := hpn.but HC0.out ((But.refl [gm] w8).setCell (p := ⟨gm, 5, none⟩) (.inl (by simp)) (.slice A' (j + 1) cap')) (fun q hq hm => by rw [List.mem_singleton] at hm; subst hm; exact hgs' hq) (fun x hx hm => hA' x hx (by rw [List.mem_singleton] at hm; exact hm))
     have hba := (((HBK.out.below HB4.out HBK.out.lt).below HA8.out (HBK.out.below HB4.out HBK.out.lt).lt).grown HG8.out (fun e => by
      cases hh : A with
      | none => rw [hh] at e; cases e
      | some x => rw [hh] at e; exact (HPr.out.row.ne_blk (HBK.out.below HB4.out HBK.out.lt) (by show 59 ≠ 23; decide)) x hh (Option.some.inj e).symm)).far (p := ⟨gm, 5, none⟩) (Nat.ne_of_lt HGM.out) (.slice A' (j + 1) cap')
     have hbe := (below_app (bcall HWr.out HA8.out) (HPr.out.below HC0.out HA8.out).row HG8.out (Nat.le_refl _) (Nat.le_trans HWr.out.size HA8.out.size)).setCell (p := ⟨gm, 5, none⟩) HGW.out (.slice A' (j + 1) cap')
     exact ⟨⟨j + 1, A', cap', gs ++ [gL], HJ.out, numF j, HM8.out.set_ 5 (.slice A' (j + 1) cap'), hpp, hA', hgs', hba, hbe⟩, measF n j HJ.out⟩
  ·obtain rfl : j = n := by omega
   have d1 : decide ((j : Int) < (j : Int)) = false := by simp
   obtain ⟨gl, hA⟩ : ∃ gl, A = some ⟨gl, 0, none⟩ := by
    rcases HPL.out.row.form with ⟨_, _, h0⟩ | ⟨g, h, _⟩
    ·have := HPL.out.len; rw [h0] at this; simp at this; omega
    ·exact ⟨g, h⟩
   subst hA
   go_wp2_with fail
   refine bodyPost_ret (results_tmp rfl _ _ _) rfl ⟨gm, gl, cap, gs, rfl, ?_, ?_, HGW.out, fun e => HAG.out _ rfl e.symm, HGG.out, HBW.out⟩
   ·rw [← HNN.out]; exact HMB.out
   ·rw [← HNN.out]; exact HPL.out
end Go.Proofs.Ytbghkdhkahkfnaa

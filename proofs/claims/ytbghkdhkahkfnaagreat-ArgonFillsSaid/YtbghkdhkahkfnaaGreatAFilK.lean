/-
  Argon's memory filled by the reference. Contracts alone; no statement is claimed here.
-/
import Derived.Test.YtbghkdhkahkfnaaGreatAFilJ
import Derived.Test.YtbghkdhkahkfnaaGreatAFilG
import Derived.Test.YtbghkdhkahkfnaaGreatRLong
import Derived.Test.YtbghkdhkahkfnaaGreatStartR
namespace Go.Proofs.YtbghkdhkahkfnaaGreat
open Go.RowKit
attribute [local go_sem] pureUpon Ords.of

theorem putM_same (F : AMem) (l c : Nat) : putM F l c (F l c) = F := by
 funext l' c'
 unfold putM
 by_cases e : l' = l ∧ c' = c
 ·rw [if_pos e, e.1, e.2]
 ·rw [if_neg e]
structure RFl (w wr : World) (gm cap ga : Nat) (a : Ar) (hd : List SV) (F : AMem) (S : Nat → Nat → Prop) : Prop where
  mem : RIn wr w.heap.size gm cap hd a F S
  arg : Blk wr ga 23 (argC a)
  ne : ga ≠ gm
  low : w.heap.size ≤ gm
  bel : Below w.heap.size w wr
section
variable {w wr w' : World} {gm cap ga : Nat} {a : Ar} {hd hd' : List SV} {F F' : AMem} {S S' : Nat → Nat → Prop}
theorem RFl.below (h : RFl w wr gm cap ga a hd F S) (hb : Below wr.heap.size wr w') : RFl w w' gm cap ga a hd F S := ⟨h.mem.below hb, h.arg.below hb h.arg.lt, h.ne, h.low, h.bel.trans (hb.mono h.bel.size)⟩
theorem RFl.less (h : RFl w wr gm cap ga a hd F S) (hS : ∀ l c, l < a.ln → c < a.cl → S' l c → S l c) : RFl w wr gm cap ga a hd F S' := ⟨h.mem.less hS, h.arg, h.ne, h.low, h.bel⟩
theorem RFl.next (h : RFl w wr gm cap ga a hd F S) (hm : RIn w' w.heap.size gm cap hd' a F' S') (hb : But [gm] wr w') : RFl w w' gm cap ga a hd' F' S' :=
 ⟨hm, h.arg.but hb (fun e => h.ne (List.mem_singleton.1 e)), h.ne, h.low, h.bel.trans (hb.toBelow h.bel.size (fun k hk => by rw [List.mem_singleton.1 hk]; exact h.low))⟩
theorem RFl.put (h : RFl w wr gm cap ga a hd F S) {l c k k' : Nat} {A : Option Addr} {b : List UInt8} (hl : l < a.ln) (hc : c < a.cl) (ho : OS cB wr w.heap.size A k' b) (hA : ∀ x, A = some x → x.block ≠ gm) (hF : F l c = b) (hS : ∀ l' c', l' < a.ln → c' < a.cl → S' l' c' → S l' c' ∨ (l' = l ∧ c' = c)) :
  RFl w (wr.setCell ⟨gm, l * a.cl + c, none⟩ (SV.v ⟨A, k, b⟩)) gm cap ga a (hd.set (l * a.cl + c) ⟨A, k, b⟩) F S' := by
 have h1 := h.mem.put (k := k) hl hc ho hA hS
 have e : putM F l c b = F := by rw [← hF]; exact putM_same F l c
 rw [e] at h1
 exact h.next h1 ((But.refl [gm] wr).setCell (.inl (by simp)) _)
end
set_option maxRecDepth 20000 in
set_option maxHeartbeats 8000000 in
theorem fillA_any (a : Ar) (h : a.ok) (As : Option Addr) (cs : Nat) (st : List UInt8) (w : World) (hs : st.length = 64) (hr : RS cB w w.heap.size As st) :
  Calls Tryz.prog 7 #[a.v, .slice As 64 cs] w fun r w' => ∃ gm cap hd, r = .returned (.tuple #[.slice (some ⟨gm, 0, none⟩) (a.ln * a.cl) cap, .int .i64 0]) ∧ RIn w' w.heap.size gm cap hd a (fullM a st) (fun _ _ => True) ∧ Below w.heap.size w w' := by
 have hN := Ar.n h
 have hau := Lib.hid Tryz.underlying23
 obtain ⟨np, hnp, hnp2⟩ := passes_nat h
 have hnp1 : np ≠ 0 := by unfold Ar.ok at h; omega
 have hco := fun W => refColumns_any a W
 simp only [if_pos h] at hco
 have hcl : 4 * a.seg = (a.cl : Int) := by rw [hN.sg]; unfold Ar.cl; push_cast; rfl
 rw [hcl] at hco
 obtain ⟨n, hn⟩ : ∃ n, n = a.ln * a.cl := ⟨_, rfl⟩
 have hlc : (a.ln : Int) * (a.cl : Int) = (n : Int) := by rw [hn]; push_cast; rfl
 have hn4 : n ≤ 4096 := by rw [hn]; exact hN.lc
 have hmk : ∀ (W : World), (Instr.makeSlice 26 (.int .i64 (n : Int)) (.int .i64 (n : Int))).run Tryz.prog W = .ok (.slice (some ⟨W.heap.size, 0, none⟩) n n) (W.alloc (.cells (madeCells #[cL.zero] n) 24)) := fun (W : World) => run_makeS cL_ok .i64 .i64 n n (Nat.le_refl _) (by show 24 * n ≤ _; omega) (by omega) W
 have HMK := Lib.hid hmk
 have HBX := Lib.hid (Blk.new w 23 (argC a))
 have HBA := Lib.hid (bal (b0 w) (.cells (argC a) 23))
 have HCO := Lib.hid hco; have HR := Lib.hid hr; have HS := Lib.hid hs; have HNN := Lib.hid hn
 have HLN := Lib.hid hN.ln; have HNP := Lib.hid hnp; have HNZ := Lib.hid hnp1; have HC2 : Hid (2 ≤ a.cl) := Lib.hid (by have := hN.s2; unfold Ar.cl; omega)
 have hfm : allM a (startM st) np = fullM a st := by unfold fullM; rw [hnp, Int.toNat_natCast]
 have HFM := Lib.hid hfm
 have h8 := hN.l8
 clear hmk hco hr hs hcl hnp hnp1 hfm
 rw [← hn]
 clear hn
 go_enter Tryz.func7, Tryz.ntmps7
 unfold Ar.v
 go_upto_region 1 with fail
 rw [show #[Value.int .i64 a.kind, .int .i64 a.mem, .int .i64 a.passes, .int .i64 a.lanes, .int .i64 a.tag] = argC a from rfl]
 obtain ⟨ga, hga⟩ : ∃ g, g = w.heap.size := ⟨_, rfl⟩
 rw [← hga] at HBX ⊢
 have HGA := Lib.hid hga
 clear hga
 generalize w.alloc (.cells (argC a) 23) = u at *
 go_upto_region 2 with first
  | (refine wpList_load_row rfl 23 _ rfl ga rfl 23 (argC a) (0, 0) _ HBX.out hau.out rfl (argC_size a) ?_)
  | (go_at_call 17; refine (HCO.out u).mono ?_; rintro e3 w3 ⟨rfl, hb3⟩)
 replace HBX := Lib.hid (HBX.out.below hb3 HBX.out.lt)
 replace HBA := Lib.hid (bcall HBA.out hb3)
 clear hb3 HCO
 clear u
 obtain ⟨u, hu⟩ : ∃ x, x = w3 := ⟨_, rfl⟩
 rw [← hu] at HBX HBA ⊢
 clear hu
 have q3 : u.cell? ⟨ga, 3, none⟩ = some (.int .i64 a.ln) := by rw [← HLN.out]; exact HBX.out.cell 3
 have la := HBX.out.lt
 have hmk := HMK.out
 go_upto_region 7 with fail
 clear q3 la hmk
 have HSV := Lib.hid (OS.madeAt (cd := cL) (base := w.heap.size) u n n SV.none rfl (Nat.le_refl _) (by unfold maxLen; omega) HBA.out.size rfl)
 have HBN := Lib.hid (HBX.out.alloc (.cells (madeCells #[cL.zero] n) 24))
 have HBB := Lib.hid (bal HBA.out (.cells (madeCells #[cL.zero] n) 24))
 have HLT := Lib.hid (show ga < u.heap.size from HBX.out.lt)
 have HLW := Lib.hid HBA.out.size
 clear HBX HBA HMK
 obtain ⟨gm, hgm⟩ : ∃ g, g = u.heap.size := ⟨_, rfl⟩
 rw [← hgm] at HSV HLT HLW ⊢
 clear hgm
 change Hid (OS cL (u.alloc (.cells (madeCells #[cL.zero] n) 24)) w.heap.size (some ⟨gm, 0, none⟩) n (List.replicate n SV.none)) at HSV
 generalize u.alloc (.cells (madeCells #[cL.zero] n) 24) = v at *
 have HI : Hid (RFl w v gm n ga a (List.replicate n SV.none) (startM st) (fun l c => c < 2 ∧ l < 0)) := Lib.hid ⟨⟨HSV.out, by rw [List.length_replicate, HNN.out], fun l c _ _ hs => absurd hs.2 (Nat.not_lt_zero _)⟩, HBN.out, Nat.ne_of_lt HLT.out, HLW.out, HBB.out⟩
 clear HSV HBN HBB HLT HLW
 clear u
 go_wp2_with fail
 go_loopw [9] (fun ix wr => ∃ (L : Nat) (hd : List SV), L ≤ a.ln ∧ ix = .int .i64 L ∧ RFl w wr gm n ga a hd (startM st) (fun l c => c < 2 ∧ l < L)) (fun ix _ => a.ln - (intOf ix).toNat)
 case atStart => exact ⟨0, _, Nat.zero_le _, rfl, HI.out⟩
 case round =>
  clear HI
  clear v
  obtain ⟨L, hd, hL, rfl, hI⟩ := hrel
  have HI := Lib.hid hI
  clear hI
  have q3 : wr.cell? ⟨ga, 3, none⟩ = some (.int .i64 a.ln) := by rw [← HLN.out]; exact HI.out.arg.cell 3
  have la := HI.out.arg.lt
  by_cases hlt : L < a.ln
  ·have d1 : decide ((L : Int) < (a.ln : Int)) = true := by simp; omega
   have HLL := Lib.hid hlt
   go_upto_region 10 with fail
   clear q3 la
   go_wp2_with fail
   obtain ⟨wo, hwo⟩ : ∃ x, x = wr := ⟨_, rfl⟩
   rw [← hwo] at HI ⊢
   clear hwo
   clear wr
   go_loopw [10] (fun ix wr => ∃ (C : Nat) (hd : List SV), C ≤ 2 ∧ ix = .int .i64 C ∧ RFl w wr gm n ga a hd (startM st) (fun l c => c < 2 ∧ (l < L ∨ (l = L ∧ c < C)))) (fun ix _ => 2 - (intOf ix).toNat)
   case atStart => exact ⟨0, _, Nat.zero_le _, rfl, HI.out.less (fun l c _ _ hs => ⟨hs.1, hs.2.elim id (fun e => absurd e.2 (Nat.not_lt_zero _))⟩)⟩
   case round =>
    clear HI
    clear wo
    clear hd
    obtain ⟨C, hd, hC, rfl, hI⟩ := hrel
    have HI := Lib.hid hI
    clear hI
    by_cases hlt2 : C < 2
    ·have d2 : decide ((C : Int) < 2) = true := by simp; omega
     have HCL := Lib.hid hlt2
     have hc2 : C < a.cl := by have := HC2.out; omega
     have HCC := Lib.hid hc2
     obtain ⟨lm, hlm⟩ : ∃ lm, lm = L * a.cl := ⟨_, rfl⟩
     obtain ⟨q, NQ⟩ := rnum h hlm HNN.out hlt hc2
     have HNQ := Lib.hid NQ
     have hC4 : C < 4294967296 := by omega
     have hL4 : L < 4294967296 := by omega
     have hrs := (HR.out.below HI.out.bel).more HI.out.bel.size
     have HRS := Lib.hid hrs
     clear hlm NQ hC hlt2 hc2 hrs
     have HBW := Lib.hid (b0 wr)
     go_upto_region 15 with (at_builtin; refine wpList_appB _ rfl (.tmp 41) (.tmp 42) rfl (OS.nil wr wr.heap.size 0 rfl) rfl rfl HRS.out rfl HS.out (by omega) (Nat.le_refl _) ?_; intro A1 c1 w1 ho1 hg1 hA1)
     have HB1 := Lib.hid ((b0 wr).grown hg1 (Nat.le_refl _) (fun _ h => nomatch h))
     rw [List.nil_append] at ho1
     have HO1 := Lib.hid ho1
     clear ho1 hg1 hA1 HRS
     go_upto_region 16 with first
      | (go_at_call 18; refine (rn32_any C hC4 w1).mono ?_; rintro e2 w2 ⟨A2, c2, rfl, ho2, hb2⟩; have HO2 := Lib.hid ho2; have HB2 := Lib.hid (bcall HB1.out hb2); replace HO1 := Lib.hid (HO1.out.below hb2 (Nat.le_refl _)); clear ho2 hb2)
      | (at_builtin; refine wpList_appB _ rfl (.tmp 44) (.tmp 46) rfl HO1.out rfl HS.out HO2.out.reads rfl (storeN_len _ _) (by omega) HB2.out.size ?_; intro A3 c3 w3 ho3 hg3 hA3)
     have HB3 := Lib.hid (bapp HB2.out HO1.out hg3)
     have HO3 := Lib.hid ho3
     clear ho3 hg3 hA3 HO1 HO2 HB1 HB2
     go_upto_region 17 with first
      | (go_at_call 18; refine (rn32_any L hL4 w3).mono ?_; rintro e4 w4 ⟨A4, c4, rfl, ho4, hb4⟩; have HO4 := Lib.hid ho4; have HB4 := Lib.hid (bcall HB3.out hb4); replace HO3 := Lib.hid (HO3.out.below hb4 (Nat.le_refl _)); clear ho4 hb4)
      | (at_builtin; refine wpList_appB _ rfl (.tmp 48) (.tmp 50) rfl HO3.out rfl (by rw [List.length_append, storeN_len, HS.out]) HO4.out.reads rfl (storeN_len _ _) (by omega) HB4.out.size ?_; intro A5 c5 w5 ho5 hg5 hA5)
     have HB5 := Lib.hid (bapp HB4.out HO3.out hg5)
     have HO5 := Lib.hid ho5
     clear ho5 hg5 hA5 HO3 HO4 HB3 HB4
     replace HI := Lib.hid (HI.out.below HB5.out)
     have hlo := refLong_any 1024 A5 72 c5 (st ++ storeN C 4 ++ storeN L 4) w5 ⟨by decide, by decide⟩ (by rw [List.length_append, List.length_append, storeN_len, storeN_len, HS.out]) (by decide) HO5.out.reads
     rw [show longL 1024 (st ++ storeN C 4 ++ storeN L 4) = firstB st L C from rfl] at hlo
     have HLO := Lib.hid hlo
     clear hlo
     have nm := HNQ.out.m; have ns := HNQ.out.s; have n4 := HNQ.out.q4; have nm4 := HNQ.out.m4; have nn := HNQ.out.qn
     have HFB : Hid (startM st L C = firstB st L C) := Lib.hid (by unfold startM; rw [if_pos HCL.out])
     have HFL : Hid ((firstB st L C).length = 1024) := Lib.hid (by unfold firstB; exact longL_len _ _)
     go_wp2_with first
      | (go_at_call 19; refine HLO.out.mono ?_; rintro e6 w6 ⟨A6, k6, c6, rfl, ho6, hb6⟩; have HO6 := Lib.hid ho6; have HI6 := Lib.hid (HI.out.below hb6); have HL6 := Lib.hid (HI.out.mem.row.block_lt _ rfl).2; have HS6 := Lib.hid HI.out.bel.size; obtain ⟨⟨vc, zc⟩, fc, lg⟩ := HI6.out.mem.slot HLL.out HCC.out HNQ.out.q_; clear ho6 hb6)
     have hput := HI6.out.put (A := A6) (k := c6) (b := firstB st L C) (S' := fun l c => c < 2 ∧ (l < L ∨ (l = L ∧ c < C + 1))) HLL.out HCC.out (HO6.out.mono HS6.out) (fun y hy => by have h1 := (HO6.out.block_lt y hy).1; have h2 : gm < w5.heap.size := HL6.out; omega) HFB.out (fun l' c' _ _ hs' => by have := hs'.1; have := hs'.2; omega)
     have hv : SV.v ⟨A6, c6, firstB st L C⟩ = .slice A6 1024 c6 := by show Value.slice A6 (firstB st L C).length c6 = _; rw [HFL.out]
     rw [hv, ← HNQ.out.q_] at hput
     exact ⟨⟨C + 1, _, HCL.out, numF C, hput⟩, measF 2 C HCL.out⟩
    ·obtain rfl : C = 2 := by omega
     have d2 : decide (((2 : Nat) : Int) < 2) = false := by decide
     have d3 : decide ((2 : Int) < 2) = false := by decide
     go_wp2_with fail
     exact ⟨⟨L + 1, hd, HLL.out, numF L, HI.out.less (fun l c _ _ hs => ⟨hs.1, by have := hs.1; have := hs.2; omega⟩)⟩, measF a.ln L HLL.out⟩
  ·obtain rfl : L = a.ln := by omega
   have d1 : decide ((a.ln : Int) < (a.ln : Int)) = false := by simp
   clear hlt hL
   go_upto_region 18 with fail
   clear q3 la
   have HI1 : Hid (RFl w wr gm n ga a hd (allM a (startM st) 0) (Stood a 0 0 0 0)) := Lib.hid (HI.out.less (fun l c hl _ hs => ⟨hs.start, hl⟩))
   clear HI
   go_wp2_with fail
   obtain ⟨wo, hwo⟩ : ∃ x, x = wr := ⟨_, rfl⟩
   rw [← hwo] at HI1 ⊢
   clear hwo
   clear wr
   go_loopw [12, 8] (fun ix v8 wr => ∃ (P : Nat) (hd : List SV), P ≤ np ∧ ix = .int .i64 P ∧ v8 = .slice (some ⟨gm, 0, none⟩) n n ∧ RFl w wr gm n ga a hd (allM a (startM st) P) (Stood a P 0 0 0)) (fun ix _ _ => np - (intOf ix).toNat)
   case atStart => exact ⟨0, _, Nat.zero_le _, rfl, rfl, HI1.out⟩
   case round =>
    clear HI1
    clear wo
    clear hd
    obtain ⟨P, hd, hP, rfl, rfl, hI⟩ := hrel
    have HI := Lib.hid hI
    clear hI
    have q2 : wr.cell? ⟨ga, 2, none⟩ = some (.int .i64 np) := by rw [← HNP.out]; exact HI.out.arg.cell 2
    have la := HI.out.arg.lt
    by_cases hlt : P < np
    ·have d1 : decide ((P : Int) < (np : Int)) = true := by simp; omega
     have HPP := Lib.hid hlt
     have HPA : Hid ((P : Int) < a.passes) := Lib.hid (by rw [HNP.out]; omega)
     go_upto_region 21 with fail
     clear q2 la
     go_wp2_with fail
     obtain ⟨wo, hwo⟩ : ∃ x, x = wr := ⟨_, rfl⟩
     rw [← hwo] at HI ⊢
     clear hwo
     clear wr
     go_loopw [13, 8] (fun ix v8 wr => ∃ (s : Nat) (hd : List SV), s ≤ 4 ∧ ix = .int .i64 s ∧ v8 = .slice (some ⟨gm, 0, none⟩) n n ∧ RFl w wr gm n ga a hd (passM a P (allM a (startM st) P) s) (Stood a P s 0 0)) (fun ix _ _ => 4 - (intOf ix).toNat)
     case atStart => exact ⟨0, _, Nat.zero_le _, rfl, rfl, HI.out⟩
     case round =>
      clear HI
      clear wo
      clear hd
      obtain ⟨s, hd, hs, rfl, rfl, hI⟩ := hrel
      have HI := Lib.hid hI
      clear hI
      by_cases hls : s < 4
      ·have d2 : decide ((s : Int) < 4) = true := by simp; omega
       have HSS := Lib.hid hls
       go_upto_region 24 with fail
       go_wp2_with fail
       obtain ⟨wo, hwo⟩ : ∃ x, x = wr := ⟨_, rfl⟩
       rw [← hwo] at HI ⊢
       clear hwo
       clear wr
       go_loopw [14, 8] (fun ix v8 wr => ∃ (l : Nat) (hd : List SV), l ≤ a.ln ∧ ix = .int .i64 l ∧ v8 = .slice (some ⟨gm, 0, none⟩) n n ∧ RFl w wr gm n ga a hd (sliceM a P s (passM a P (allM a (startM st) P) s) l) (Stood a P s l 0)) (fun ix _ _ => a.ln - (intOf ix).toNat)
       case atStart => exact ⟨0, _, Nat.zero_le _, rfl, rfl, HI.out⟩
       case round =>
        clear HI
        clear wo
        clear hd
        obtain ⟨l, hd, hl, rfl, rfl, hI⟩ := hrel
        have HI := Lib.hid hI
        clear hI
        have q3 : wr.cell? ⟨ga, 3, none⟩ = some (.int .i64 a.ln) := by rw [← HLN.out]; exact HI.out.arg.cell 3
        have la := HI.out.arg.lt
        by_cases hll : l < a.ln
        ·have d3 : decide ((l : Int) < (a.ln : Int)) = true := by simp; omega
         have HL2 := Lib.hid hll
         have hfi := fillR_any a h P s l HPA.out HSS.out hll w.heap.size gm n hd _ (sliceM_len a P s _ (passM_len a P _ (allM_len a _ (startM_len st) P) s) l) wr n HNN.out HI.out.mem HI.out.bel.size
         have HFI := Lib.hid hfi
         clear hfi
         go_wp2_with first
          | (refine wpList_load_row rfl 23 _ rfl ga rfl 23 (argC a) (0, 0) _ HI.out.arg hau.out rfl (argC_size a) ?_)
          | (go_at_call 20; refine HFI.out.mono ?_; rintro e7 w7 ⟨hd7, rfl, hm7, hb7⟩)
         exact ⟨⟨l + 1, hd7, HL2.out, numF l, rfl, (HI.out.next hm7 hb7).less (fun l' c' _ _ hs' => hs'.lane)⟩, measF a.ln l HL2.out⟩
        ·obtain rfl : l = a.ln := by omega
         have d3 : decide ((a.ln : Int) < (a.ln : Int)) = false := by simp
         go_wp2_with fail
         exact ⟨⟨s + 1, hd, HSS.out, numF s, rfl, HI.out.less (fun l' c' hl' _ hs' => hs'.slice hl')⟩, measF 4 s HSS.out⟩
      ·obtain rfl : s = 4 := by omega
       have d2 : decide (((4 : Nat) : Int) < 4) = false := by decide
       have d3 : decide ((4 : Int) < 4) = false := by decide
       have hPn := HPP.out
       go_wp2_with fail
       exact ⟨⟨P + 1, hd, HPP.out, numF P, rfl, HI.out.less (fun l' c' _ hc' _ => Stood.pass hc')⟩, measF np P HPP.out⟩
    ·obtain rfl : P = np := by omega
     have d1 : decide ((P : Int) < (P : Int)) = false := by simp
     clear hlt hP
     go_wp2_with fail
     have hmf := HI.out.mem.less (S' := fun _ _ => True) (fun l c _ _ _ => .inl HNZ.out)
     rw [HFM.out] at hmf
     exact bodyPost_ret (results_tmp2 rfl _ _ _) rfl ⟨gm, n, hd, rfl, hmf, HI.out.bel⟩
theorem fillAno_any (a : Ar) (h : ¬ a.ok) (As : Option Addr) (ns cs : Nat) (w : World) :
  Calls Tryz.prog 7 #[a.v, .slice As ns cs] w fun r w' => r = .returned (.tuple #[.slice none 0 0, .int .i64 200]) ∧ Below w.heap.size w w' := by
 have hco := fun W => refColumns_any a W
 simp only [if_neg h] at hco
 have HCO := Lib.hid hco
 have hau := Lib.hid Tryz.underlying23
 have HBX := Lib.hid (Blk.new w 23 (argC a))
 have HBA := Lib.hid (bal (b0 w) (.cells (argC a) 23))
 clear hco h
 go_enter Tryz.func7, Tryz.ntmps7
 go_wp2_with first
  | (refine wpList_load_row rfl 23 _ rfl w.heap.size rfl 23 (argC a) (0, 0) _ HBX.out hau.out rfl (argC_size a) ?_)
  | (go_at_call 17; refine (HCO.out _).mono ?_; rintro e3 w3 ⟨rfl, hb3⟩; have HB3 := Lib.hid (bcall HBA.out hb3); clear hb3)
 exact bodyPost_ret (results_tmp2 rfl _ _ _) rfl ⟨rfl, HB3.out⟩
set_option maxRecDepth 20000 in
theorem fillAshort_any (a : Ar) (h : a.ok) (As : Option Addr) (ns cs : Nat) (hn : ns ≠ 64) (w : World) :
  Calls Tryz.prog 7 #[a.v, .slice As ns cs] w fun r w' => r = .returned (.tuple #[.slice none 0 0, .int .i64 1]) ∧ Below w.heap.size w w' := by
 have hco := fun W => refColumns_any a W
 simp only [if_pos h] at hco
 have HCO := Lib.hid hco
 have t1 : ((ns : Int) == 64) = false := by simp; omega
 have hau := Lib.hid Tryz.underlying23
 have HBX := Lib.hid (Blk.new w 23 (argC a))
 have HBA := Lib.hid (bal (b0 w) (.cells (argC a) 23))
 clear hco h hn
 go_enter Tryz.func7, Tryz.ntmps7
 go_wp2_with first
  | (refine wpList_load_row rfl 23 _ rfl w.heap.size rfl 23 (argC a) (0, 0) _ HBX.out hau.out rfl (argC_size a) ?_)
  | (go_at_call 17; refine (HCO.out _).mono ?_; rintro e3 w3 ⟨rfl, hb3⟩; have HB3 := Lib.hid (bcall HBA.out hb3); clear hb3)
 exact bodyPost_ret (results_tmp2 rfl _ _ _) rfl ⟨rfl, HB3.out⟩
end Go.Proofs.YtbghkdhkahkfnaaGreat

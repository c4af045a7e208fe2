/-
  Fp: contracts and lemmas alone; no statement is claimed here.
-/
import Derived.Test.YtbghkdhkahkfnaaAFilC
/- All segments of Argon's memory filled by the program, one behind the other. Contracts alone; no statement is claimed here. -/
namespace Go.Proofs.Ytbghkdhkahkfnaa
open Go.RowKit
attribute [local go_sem] pureUpon Ords.of

structure MIn (w : World) (H : Nat) (a : Ar) (gm gl cap : Nat) (gs : List Nat) (F : AMem) : Prop where
  mem : Blk w gm 58 (memC a (some ⟨gl, 0, none⟩) a.ln cap)
  pl : PLn w H a a.ln (some ⟨gl, 0, none⟩) cap gs F
  gm_ : gm ∉ gs
section
variable {w w' : World} {H : Nat} {a : Ar} {gm gl cap : Nat} {gs : List Nat} {F : AMem}
theorem MIn.below (h : MIn w H a gm gl cap gs F) (hC : 0 < a.cl) (hb : Below w.heap.size w w') : MIn w' H a gm gl cap gs F := ⟨h.mem.below hb h.mem.lt, h.pl.below hC hb, h.gm_⟩
theorem MIn.lane (h : MIn w H a gm gl cap gs F) {l : Nat} (hl : l < a.ln) : ∃ g, gs[l]? = some g := ⟨_, List.getElem?_eq_getElem (by rw [h.pl.len]; exact hl)⟩
end
set_option maxRecDepth 20000 in
theorem all1_any (a : Ar) (h : a.ok) (p s l : Nat) (hp : (p : Int) < a.passes) (hs : s < 4) (hl : l < a.ln) (H gm gl cap : Nat) (gs : List Nat) (F : AMem) (hF : ∀ l c, (F l c).length = 1024) (w : World) (hm : MIn w H a gm gl cap gs F) (b1 b2 b3 : Nat) (c1 : w.cell? ⟨b1, 0, none⟩ = some (.pointer (some ⟨gm, 0, none⟩))) (c2 : w.cell? ⟨b2, 0, none⟩ = some (.int .i64 p)) (c3 : w.cell? ⟨b3, 0, none⟩ = some (.int .i64 s)) :
  Calls Try.prog 30 #[.int .i64 l, .pointer (some ⟨b1, 0, none⟩), .pointer (some ⟨b2, 0, none⟩), .pointer (some ⟨b3, 0, none⟩)] w fun r w' => r = .returned (.tuple #[]) ∧ MIn w' H a gm gl cap gs (segM a p s l F a.sg) ∧ But gs w w' := by
 obtain ⟨g, hg⟩ := hm.lane hl
 have hf := fill_any a h p s l hp hs hl H gm gl cap gs g F hF w hm.mem hm.pl hm.gm_ hg
 have HFI := Lib.hid hf; have HM := Lib.hid hm; have HG := Lib.hid hg
 clear hf hm hg hF hp h
 go_enter Try.func30, Try.ntmps30
 go_wp2_with (go_at_call 31; refine HFI.out.mono ?_; rintro e3 w3 ⟨rfl, hp3, hb3⟩)
 go_end0
 refine ⟨rfl, ⟨HM.out.mem.but hb3 ?_, hp3, HM.out.gm_⟩, hb3.more ?_⟩
 ·intro e
  rw [List.mem_singleton] at e
  exact HM.out.gm_ (by rw [e]; exact List.mem_of_getElem? HG.out)
 ·intro k hk
  rw [List.mem_singleton] at hk
  exact .inl (by rw [hk]; exact List.mem_of_getElem? HG.out)
set_option maxRecDepth 20000 in
theorem inTurn_any (a : Ar) (h : a.ok) (p s : Nat) (hp : (p : Int) < a.passes) (hs : s < 4) (H gm gl cap : Nat) (gs : List Nat) (F : AMem) (hF : ∀ l c, (F l c).length = 1024) (w : World) (hm : MIn w H a gm gl cap gs F) (b1 b2 b3 : Nat) (n1 : b1 ∉ gs) (n2 : b2 ∉ gs) (n3 : b3 ∉ gs) (c1 : Blk w b1 53 #[.pointer (some ⟨gm, 0, none⟩)]) (c2 : Blk w b2 3 #[.int .i64 p]) (c3 : Blk w b3 3 #[.int .i64 s]) :
  Calls Try.prog 15 #[.int .i64 a.lanes, .func (.func 30) #[] #[.pointer (some ⟨b1, 0, none⟩), .pointer (some ⟨b2, 0, none⟩), .pointer (some ⟨b3, 0, none⟩)]] w fun r w' => r = .returned (.tuple #[]) ∧ MIn w' H a gm gl cap gs (sliceM a p s F a.ln) ∧ But gs w w' := by
 have hN := Ar.n h
 rw [hN.ln]
 have hln := hN.l8
 have H1 := fun (j : Nat) (hj : j < a.ln) (W : World) (hW : MIn W H a gm gl cap gs (sliceM a p s F j)) (hb : But gs w W) => all1_any a h p s j hp hs hj H gm gl cap gs _ (sliceM_len a p s F hF j) W hW b1 b2 b3 ((c1.but hb n1).cell 0) ((c2.but hb n2).cell 0) ((c3.but hb n3).cell 0)
 have HA := Lib.hid H1; have HM := Lib.hid hm
 clear H1 hm hF c1 c2 c3 n1 n2 n3 hp hs hN h
 go_enter Try.func15, Try.ntmps15
 go_wp2_with fail
 go_loopw [6] (fun ix wr => ∃ j : Nat, j ≤ a.ln ∧ ix = .int .i64 j ∧ MIn wr H a gm gl cap gs (sliceM a p s F j) ∧ But gs w wr) (fun ix _ => a.ln - (intOf ix).toNat)
 case atStart => exact ⟨0, Nat.zero_le _, rfl, HM.out, But.refl gs w⟩
 case round =>
  obtain ⟨j, hj, rfl, hmi, hbu⟩ := hrel
  have HMI := Lib.hid hmi; have HBU := Lib.hid hbu
  clear hmi hbu HM
  by_cases hlt : j < a.ln
  ·have d1 : decide ((j : Int) < (a.ln : Int)) = true := by simp; omega
   have HJ := Lib.hid hlt
   go_wp2_with (go_at_call 30; refine (HA.out j HJ.out wr HMI.out HBU.out).mono ?_; rintro e3 w3 ⟨rfl, hm3, hb3⟩)
   exact ⟨⟨j + 1, HJ.out, numF j, hm3, HBU.out.trans hb3 (fun k hk => .inl hk)⟩, measF a.ln j HJ.out⟩
  ·obtain rfl : j = a.ln := by omega
   have d1 : decide ((a.ln : Int) < (a.ln : Int)) = false := by simp
   go_wp2_with fail
   go_end0
   exact ⟨rfl, HMI.out, HBU.out⟩
end Go.Proofs.Ytbghkdhkahkfnaa

/- Argon's memory filled by the program: memory.all, and what comes out. Contracts alone; no statement is claimed here. -/
namespace Go.Proofs.Ytbghkdhkahkfnaa
open Go.RowKit
attribute [local go_sem] pureUpon Ords.of

theorem MIn.but {w w' : World} {H : Nat} {a : Ar} {gm gl cap : Nat} {gs : List Nat} {F : AMem} (h : MIn w H a gm gl cap gs F) (hb : But gs w w') : w'.cell? ⟨gm, 2, none⟩ = some (.int .i64 a.passes) ∧ w'.cell? ⟨gm, 3, none⟩ = some (.int .i64 a.lanes) ∧ w'.cell? ⟨gm, 5, none⟩ = some (.slice (some ⟨gl, 0, none⟩) a.ln cap) ∧ gm < w'.heap.size := by
 have h1 := h.mem.but hb h.gm_
 exact ⟨h1.cell 2, h1.cell 3, h1.cell 5, h1.lt⟩
theorem passes_nat {a : Ar} (h : a.ok) : ∃ n : Nat, a.passes = (n : Int) ∧ n ≤ 4096 := by
 unfold Ar.ok at h
 exact ⟨a.passes.toNat, by omega, by omega⟩
set_option maxRecDepth 20000 in
theorem all_any (a : Ar) (h : a.ok) (H gm gl cap : Nat) (gs : List Nat) (F : AMem) (hF : ∀ l c, (F l c).length = 1024) (w : World) (hm : MIn w H a gm gl cap gs F) :
  Calls Try.prog 21 #[.pointer (some ⟨gm, 0, none⟩), .func (.func 15) #[] #[]] w fun r w' => r = .returned (.tuple #[]) ∧ MIn w' H a gm gl cap gs (allM a F a.passes.toNat) ∧ But gs w w' := by
 obtain ⟨np, hnp, hnp2⟩ := passes_nat h
 have hgl : ∀ k, k ∈ gs → k < w.heap.size := hm.pl.lt (by have := (Ar.n h).s2; unfold Ar.cl; omega)
 rw [hnp, Int.toNat_natCast]
 have q2 := hm.mem.cell 2
 have hpp : w.cell? ⟨gm, 2, none⟩ = some (.int .i64 np) := by rw [q2, ← hnp]; rfl
 clear q2
 have lm := hm.mem.lt
 have HM := Lib.hid hm; have HF := Lib.hid hF; have HL := Lib.hid hgl; have HNP := Lib.hid hnp
 clear hm hF hgl hnp
 go_enter Try.func21, Try.ntmps21
 go_upto_region 2 with fail
 have HC0 : Hid (0 < a.cl) := Lib.hid (by have := (Ar.n h).s2; unfold Ar.cl; omega)
 have HBX := Lib.hid (Blk.new w 53 #[.pointer (some ⟨gm, 0, none⟩)])
 have HBU := Lib.hid ((But.refl gs w).alloc (.cells #[.pointer (some ⟨gm, 0, none⟩)] 53))
 have HMI := Lib.hid (HM.out.below HC0.out (bal (b0 w) (.cells #[.pointer (some ⟨gm, 0, none⟩)] 53)))
 obtain ⟨b1, hb1⟩ : ∃ b, b = w.heap.size := ⟨_, rfl⟩
 rw [← hb1] at HBX ⊢
 have HB1 := Lib.hid hb1
 clear hb1 hpp lm
 generalize w.alloc (.cells #[.pointer (some ⟨gm, 0, none⟩)] 53) = u at *
 go_loopw [11] (fun ix wr => ∃ P : Nat, P ≤ np ∧ ix = .int .i64 P ∧ MIn wr H a gm gl cap gs (allM a F P) ∧ Blk wr b1 53 #[.pointer (some ⟨gm, 0, none⟩)] ∧ But gs w wr) (fun ix _ => np - (intOf ix).toNat)
 case atStart => exact ⟨0, Nat.zero_le _, rfl, HMI.out, HBX.out, HBU.out⟩
 case round =>
  clear HMI HBX HBU HM
  obtain ⟨P, hP, rfl, hmi, hbx, hbu⟩ := hrel
  have HMI := Lib.hid hmi; have HBX := Lib.hid hbx; have HBU := Lib.hid hbu
  clear hmi hbx hbu u
  by_cases hlt : P < np
  ·have d1 : decide ((P : Int) < (np : Int)) = true := by simp; omega
   have HP := Lib.hid hlt
   go_upto_region 5 with fail
   have HB2X := Lib.hid (Blk.new wr 3 #[.int .i64 P])
   have HBX2 := Lib.hid (HBX.out.alloc (.cells #[.int .i64 P] 3))
   have HBU2 := Lib.hid (HBU.out.alloc (.cells #[.int .i64 P] 3))
   have HMI2 := Lib.hid (HMI.out.below HC0.out (bal (b0 wr) (.cells #[.int .i64 P] 3)))
   obtain ⟨b2, hb2⟩ : ∃ b, b = wr.heap.size := ⟨_, rfl⟩
   have HB2 : Hid (w.heap.size ≤ b2) := Lib.hid (by rw [hb2]; exact HBU.out.size)
   rw [← hb2] at HB2X ⊢
   clear hb2 hP hlt
   generalize wr.alloc (.cells #[.int .i64 P] 3) = u at *
   clear HMI HBX HBU
   clear wr
   have HMI := HMI2; have HBX := HBX2; have HBU := HBU2
   clear HMI2 HBX2 HBU2
   go_loopw [14] (fun ix wr => ∃ s : Nat, s ≤ 4 ∧ ix = .int .i64 s ∧ MIn wr H a gm gl cap gs (passM a P (allM a F P) s) ∧ Blk wr b1 53 #[.pointer (some ⟨gm, 0, none⟩)] ∧ Blk wr b2 3 #[.int .i64 P] ∧ But gs w wr) (fun ix _ => 4 - (intOf ix).toNat)
   case atStart => exact ⟨0, Nat.zero_le _, rfl, HMI.out, HBX.out, HB2X.out, HBU.out⟩
   case round =>
    clear HMI HBX HBU HB2X
    obtain ⟨s, hs, rfl, hmi, hbx, hb2x, hbu⟩ := hrel
    have HMI := Lib.hid hmi; have HBX := Lib.hid hbx; have HBU := Lib.hid hbu; have HB2X := Lib.hid hb2x
    clear hmi hbx hbu hb2x u
    by_cases hls : s < 4
    ·have d2 : decide ((s : Int) < 4) = true := by simp; omega
     have HS := Lib.hid hls
     go_upto_region 7 with fail
     have HB3X := Lib.hid (Blk.new wr 3 #[.int .i64 s])
     have HBX3 := Lib.hid (HBX.out.alloc (.cells #[.int .i64 s] 3))
     have HB2X3 := Lib.hid (HB2X.out.alloc (.cells #[.int .i64 s] 3))
     have HBU3 := Lib.hid (HBU.out.alloc (.cells #[.int .i64 s] 3))
     have HMI3 := Lib.hid (HMI.out.below HC0.out (bal (b0 wr) (.cells #[.int .i64 s] 3)))
     obtain ⟨b3, hb3⟩ : ∃ b, b = wr.heap.size := ⟨_, rfl⟩
     have HB3 : Hid (w.heap.size ≤ b3) := Lib.hid (by rw [hb3]; exact HBU.out.size)
     rw [← hb3] at HB3X ⊢
     clear hb3 hs hls
     generalize wr.alloc (.cells #[.int .i64 s] 3) = u at *
     clear HMI HBX HBU HB2X
     clear wr
     have qx : u.cell? ⟨b1, 0, none⟩ = some (.pointer (some ⟨gm, 0, none⟩)) := HBX3.out.cell 0
     have lx := HBX3.out.lt
     have ql : u.cell? ⟨gm, 3, none⟩ = some (.int .i64 a.lanes) := HMI3.out.mem.cell 3
     have lm := HMI3.out.mem.lt
     have hpl : (P : Int) < a.passes := by have h1 := HNP.out; have h2 := HP.out; omega
     have hs4 := HS.out
     have hit := inTurn_any a h P s hpl HS.out H gm gl cap gs _ (passM_len a P _ (allM_len a F HF.out P) s) u HMI3.out b1 b2 b3 (fun e => by have := HL.out _ e; have := HB1.out; omega) (fun e => by have := HL.out _ e; have := HB2.out; omega) (fun e => by have := HL.out _ e; have := HB3.out; omega) HBX3.out HB2X3.out HB3X.out
     have HIT := Lib.hid hit
     clear hit hpl
     go_wp2_with (go_at_call 15; refine HIT.out.mono ?_; rintro e4 u4 ⟨rfl, hm4, hb4⟩)
     have hn1 : b1 ∉ gs := fun e => by have := HL.out _ e; have := HB1.out; omega
     have hn2 : b2 ∉ gs := fun e => by have := HL.out _ e; have := HB2.out; omega
     exact ⟨⟨s + 1, HS.out, numF s, hm4, HBX3.out.but hb4 hn1, HB2X3.out.but hb4 hn2, HBU3.out.trans hb4 (fun k hk => .inl hk)⟩, measF 4 s HS.out⟩
    ·obtain rfl : s = 4 := by omega
     have d2 : decide (((4 : Nat) : Int) < 4) = false := by decide
     have d3 : decide ((4 : Int) < 4) = false := by decide
     have hPn := HP.out
     go_wp2_with fail
     exact ⟨⟨P + 1, HP.out, numF P, HMI.out, HBX.out, HBU.out⟩, measF np P HP.out⟩
  ·obtain rfl : P = np := by omega
   have d1 : decide ((P : Int) < (P : Int)) = false := by simp
   go_wp2_with fail
   go_end0
   exact ⟨rfl, HMI.out, HBU.out⟩
end Go.Proofs.Ytbghkdhkahkfnaa

/- What comes out of Argon's memory: memory.tag. Contracts alone; no statement is claimed here. -/
namespace Go.Proofs.Ytbghkdhkahkfnaa
open Go.RowKit
attribute [local go_sem] pureUpon Ords.of

def tagX (a : Ar) (F : AMem) : Nat → List UInt8
  | 0 => zeroB
  | l + 1 => xorB (tagX a F l) (F l (a.cl - 1))
theorem tagX_len (a : Ar) (F : AMem) (hF : ∀ l c, (F l c).length = 1024) : ∀ l, (tagX a F l).length = 1024
 | 0 => zeroB_len
 | l + 1 => by
  have h := tagX_len a F hF l
  show (xorB (tagX a F l) (F l (a.cl - 1))).length = 1024
  rw [xorB_len _ _ (by rw [hF, h]), h]
theorem one_made (w : World) : LaneAt (w.alloc (.cells (Array.replicate 1024 (.int .u8 0)) 61)) w.heap.size 1 (fun _ => zeroB) := lane_made w 1
theorem LaneAt.below {w w' : World} {g C : Nat} {f : Nat → List UInt8} (h : LaneAt w g C f) (hC : 0 < C) (hb : Below w.heap.size w w') : LaneAt w' g C f := h.of_ (hb.block g (h.lt hC))
theorem zero51 : Try.zeroCells61 = Array.replicate 1024 (.int .u8 0) := by kernel_rfl
set_option maxRecDepth 20000 in
set_option maxHeartbeats 4000000 in
theorem tag_any (a : Ar) (h : a.ok) (H gm gl cap : Nat) (gs : List Nat) (F : AMem) (hF : ∀ l c, (F l c).length = 1024) (w : World) (hm : MIn w H a gm gl cap gs F) :
  Calls Try.prog 27 #[.pointer (some ⟨gm, 0, none⟩)] w fun r w' => ∃ A c cc, r = .returned (.slice A a.tag.toNat cc) ∧ OS cB w' w.heap.size A c (longL a.tag.toNat (tagX a F a.ln)) ∧ Below w.heap.size w w' := by
 have hN := Ar.n h
 have hC0 : 0 < a.cl := by have := hN.s2; unfold Ar.cl; omega
 have hln := hN.l8
 have htg : a.tag = (a.tag.toNat : Int) ∧ 1 ≤ a.tag.toNat ∧ a.tag.toNat ≤ 1048576 := by unfold Ar.ok at h; omega
 obtain ⟨tn, htn⟩ : ∃ tn, tn = a.tag.toNat := ⟨_, rfl⟩
 rw [← htn] at htg ⊢
 clear htn
 have hc4 : a.cl ≤ 4096 := by have := hN.lc; have := hN.l1; have h2 : 1 * a.cl ≤ a.ln * a.cl := Nat.mul_le_mul_right _ hN.l1; omega
 have HM := Lib.hid hm; have HF := Lib.hid hF; have HC0 := Lib.hid hC0; have HTG := Lib.hid htg
 have z5 : w.cell? ⟨gm, 5, none⟩ = some (.slice (some ⟨gl, 0, none⟩) a.ln cap) := hm.mem.cell 5
 have lm := hm.mem.lt
 clear hm hF htg h
 go_enter Try.func27, Try.ntmps27
 go_upto_region 3 with fail
 have hlo := one_made w
 have hbo := bal (b0 w) (.cells (Array.replicate 1024 (.int .u8 0)) 61)
 rw [← zero51] at hlo hbo
 have HLO := Lib.hid hlo; have HB := Lib.hid hbo
 obtain ⟨bx, hbx⟩ : ∃ b, b = w.heap.size := ⟨_, rfl⟩
 rw [← hbx] at HLO ⊢
 have HBX := Lib.hid hbx
 clear hlo hbo hbx z5 lm
 generalize w.alloc (.cells Try.zeroCells61 61) = u at *
 have hac : ∃ ac : Nat, ac + 1 = a.cl := ⟨a.cl - 1, by omega⟩
 obtain ⟨ac, hac⟩ := hac
 have hac2 : a.cl - 1 = ac := by omega
 have hci : (a.cl : Int) - 1 = (ac : Int) := by omega
 have hai : (ac : Int) < (a.cl : Int) := by omega
 have hwa : IntKind.i64.wrap (ac : Int) = (ac : Int) := by rw [IntKind.wrap_i64]; omega
 have HAC := Lib.hid hac2; have HAL := Lib.hid (show ac < a.cl by omega)
 clear hac2
 go_loopw [15] (fun ix wr => ∃ j : Nat, j ≤ a.ln ∧ ix = .int .i64 j ∧ LaneAt wr bx 1 (fun _ => tagX a F j) ∧ Below w.heap.size w wr) (fun ix _ => a.ln - (intOf ix).toNat)
 case atStart => exact ⟨0, Nat.zero_le _, rfl, HLO.out, HB.out⟩
 case round =>
  clear HLO HB
  clear u
  obtain ⟨j, hj, rfl, hlo, hb⟩ := hrel
  have HLO := Lib.hid hlo; have HB := Lib.hid hb
  clear hlo hb
  by_cases hlt : j < a.ln
  ·have d1 : decide ((j : Int) < (a.ln : Int)) = true := by simp; omega
   have HJ := Lib.hid hlt
   obtain ⟨g, hg⟩ := HM.out.lane hlt
   have HG := Lib.hid hg
   have hmr := HM.out.below HC0.out HB.out
   have HMR := Lib.hid hmr
   have hji : (j : Int) < (a.ln : Int) := by omega
   have zl : wr.cell? ⟨gl, j, none⟩ = some (.slice (some ⟨g, 0, none⟩) a.cl a.cl) := by
    obtain ⟨g', y, e, -, -, e2, h3, -⟩ := hmr.pl.row.at_ (List.getElem?_eq_some_iff.1 hg).1
    injection e with e; injection e with e
    subst e
    rw [hg] at e2
    rw [Option.some.inj e2]
    exact h3
   have ll := (hmr.pl.row.block_lt _ rfl).2
   clear hmr hg hj hlt
   go_upto_region 5 with fail
   clear zl ll
   have hsA := fun o b W => blk_sliceAll b o W
   have HXL := Lib.hid (tagX_len a F HF.out j)
   refine wp_region_ords (fun _ => True) (fun _ _ h => h) (Ords.of [(0, 0), (0, 1), (0, 2), (0, 3), (0, 4), (0, 5), (0, 6), (2, 7), (0, 8), (0, 9), (0, 10), (0, 11), (0, 12)] .fin) (by kernel_rfl) rfl (by kernel_rfl) (by kernel_rfl) (fun c a d v w h => by cases d <;> exact h) trivial ?_
   iterate 7 (refine ords_pure rfl (fun K hK => ?_); go_simp; refine hK _ ?_; clear hK K)
   refine ords_loud rfl (fun n1 => ?_)
   replace HMR := Lib.hid (HMR.out.below HC0.out (bdr (b0 wr) n1))
   replace HLO := Lib.hid (HLO.out.below Nat.one_pos (bdr (b0 wr) n1))
   have HW := Lib.hid (bdr (b0 wr) n1)
   generalize wr.drewN n1 = u1 at *
   have hmx := xorP_yes (some ⟨bx, 0, none⟩) (some ⟨g, ac * 1024, none⟩) 1024 1024 (tagX a F j) (F j ac) u1 HXL.out (HF.out _ _) (HLO.out.reads Nat.one_pos (c := 0) Nat.one_pos) ((HMR.out.pl.lane j g HG.out).reads HC0.out HAL.out)
   have HMX := Lib.hid hmx; clear hmx
   go_wp2_with (go_at_call 10; refine HMX.out.mono ?_; rintro e3 w3 ⟨A3, c3, rfl, ho3, hb3⟩)
   have HO3 := Lib.hid ho3; have HB3 := Lib.hid hb3
   clear ho3 hb3 HMX
   refine ⟨trivial, ?_⟩
   go_simp
   iterate 5 (refine ords_pure rfl (fun K hK => ?_); go_simp; refine hK _ ?_; clear hK K)
   refine ords_end (fun n2 => ?_)
   have hfl : (xorB (tagX a F j) (F j ac)).length = 1024 := by rw [xorB_len _ _ (by rw [HF.out, HXL.out]), HXL.out]
   obtain ⟨fb, hfb⟩ : ∃ fb, fb = xorB (tagX a F j) (F j ac) := ⟨_, rfl⟩
   rw [← hfb] at HO3 hfl
   obtain ⟨g5, hA5⟩ : ∃ g5, A3 = some ⟨g5, 0, none⟩ := by
    rcases HO3.out.form with ⟨_, _, h0⟩ | ⟨g, h, _⟩
    ·rw [h0] at hfl; cases hfl
    ·exact ⟨g, h⟩
   subst hA5
   have hra : w3.rangeAt g5 0 (bcs fb) := fun i v hv => by
    obtain ⟨ad, e, -, hc⟩ := HO3.out.reads.2 (by rw [hfl]; decide)
    injection e with e
    subst e
    have h1 := hc i v hv
    rw [Addr.add_mid] at h1
    exact h1
   have HRA := Lib.hid (show (w3.drewN n2).rangeAt g5 0 (bcs fb) from hra); have HFL2 := Lib.hid hfl; have HFB := Lib.hid hfb
   replace HLO := Lib.hid (HLO.out.below Nat.one_pos (bdr HB3.out n2))
   have HB4 := Lib.hid (bcall HB.out (bcall HW.out (bdr HB3.out n2)))
   clear hra hfl hfb HO3 HMR HW HB3
   generalize w3.drewN n2 = w4 at *
   have hbu := Lib.hid Try.underlying61
   have har : ∀ (g c : Nat) (W : World), (Instr.arrayAt 61 (.slice (some ⟨g, 0, none⟩) 1024 c)).run Try.prog W = .ok (.pointer (some ⟨g, 0, none⟩)) W := fun g c W => run_arrayAt (P := Try.prog) W _ _ 1024 _ _ _ Try.underlying61 (Nat.le_refl _)
   have hth : w4.there bx 0 (bcs fb).toArray.size := by rw [List.size_toArray, bcs_len, HFL2.out]; exact HLO.out.thereC (c := 0) Nat.one_pos
   have HTH := Lib.hid hth
   clear hth
   go_wp2_with first
    | (refine wpList_load_mid rfl 61 (.tmp 31) rfl g5 0 rfl (bcs fb) _ HRA.out hbu.out rfl (bcs_size HFL2.out) ?_)
    | (refine wpList_store_mid rfl 61 (.tmp 3) (.tmp 32) rfl bx 0 (bcs fb).toArray rfl rfl HTH.out (bcs_sizeA HFL2.out) (all_oneCell_toArray (bcs_ones fb)) ?_)
   have hgr := grown_setCells (bcs fb) 0 (World.grownBy.refl w4 (some bx))
   exact ⟨⟨j + 1, HJ.out, numF j, (HLO.out.put (fun _ => HXL.out) (c := 0) Nat.one_pos HFL2.out).ext (fun c hc => by rw [if_pos (show c = 0 by omega), HFB.out, ← HAC.out]; rfl), HB4.out.trans (show Below w.heap.size w4 (w4.setCells bx 0 (bcs fb)) from ⟨hgr.os, hgr.tape, hgr.output, hgr.size, fun q hq => heap_setCells_other bx q (bcs fb) 0 w4 (by have := HBX.out; omega)⟩)⟩, measF a.ln j HJ.out⟩
  ·obtain rfl : j = a.ln := by omega
   have d1 : decide ((a.ln : Int) < (a.ln : Int)) = false := by simp
   have HXL := Lib.hid (tagX_len a F HF.out a.ln)
   have hmr := HM.out.below HC0.out HB.out
   have HTN := HTG
   have hq4 : ∀ W, MIn W H a gm gl cap gs F → W.cell? ⟨gm, 4, none⟩ = some (.int .i64 (tn : Int)) := fun W hW => by rw [← HTN.out.1]; exact hW.mem.cell 4
   have HQ4 := Lib.hid hq4
   have q4 := hq4 wr hmr
   have lm := hmr.mem.lt
   have HMR := Lib.hid hmr
   clear hmr hq4
   go_upto_region 8 with fail
   have hsA := fun o b W => blk_sliceAll b o W
   refine wp_region_ords (fun w' => MIn w' H a gm gl cap gs F) (fun _ n h => h.below HC0.out (bdr (b0 _) n)) (Ords.of [(0, 0), (0, 1), (0, 2), (0, 3), (0, 4), (0, 5), (2, 6), (0, 7), (0, 8), (0, 9), (0, 10), (0, 11)] .fin) (by kernel_rfl) rfl (by kernel_rfl) (by kernel_rfl) (fun c a d v w h => by cases d <;> exact h) HMR.out ?_
   iterate 4 (refine ords_pure rfl (fun K hK => ?_); go_simp; refine hK _ ?_; clear hK K)
   refine ords_heldK rfl (fun K K2 hK hK2 => ?_); go_simp; refine ⟨hK2 _ (fun w9 hS => ?_), hK _ ?_⟩; (clear hK hK2 K K2; clear q4 lm; have q4 := HQ4.out w9 hS; have lm := hS.mem.lt; clear hS; go_simp); (clear hK hK2 K K2)
   refine ords_pure rfl (fun K hK => ?_); go_simp; refine hK _ ?_; clear hK K
   refine ords_loud rfl (fun n1 => ?_)
   clear q4 lm
   replace HMR := Lib.hid (HMR.out.below HC0.out (bdr (b0 wr) n1))
   replace HLO := Lib.hid (HLO.out.below Nat.one_pos (bdr (b0 wr) n1))
   replace HB := Lib.hid (bdr HB.out n1)
   generalize wr.drewN n1 = u1 at *
   have hmx := longHash_any tn (some ⟨bx, 0, none⟩) 1024 1024 (tagX a F a.ln) u1 HTN.out.2 HXL.out (by omega) (HLO.out.reads Nat.one_pos (c := 0) Nat.one_pos)
   have HMX := Lib.hid hmx; clear hmx
   go_wp2_with (go_at_call 11; refine HMX.out.mono ?_; rintro e3 w3 ⟨A3, c3, cc3, rfl, ho3, hb3⟩)
   have HO3 := Lib.hid ho3; have HB3 := Lib.hid hb3
   clear ho3 hb3 HMX
   refine ⟨HMR.out.below HC0.out HB3.out, ?_⟩
   go_simp
   iterate 5 (refine ords_pure rfl (fun K hK => ?_); go_simp; refine hK _ ?_; clear hK K)
   refine ords_end (fun n2 => ?_)
   have HB4 := Lib.hid (bcall HB.out (bdr HB3.out n2)); have HSZ := Lib.hid HB.out.size
   go_wp2_with fail
   exact bodyPost_ret (results_tmp rfl _ _ _) rfl ⟨A3, c3, cc3, rfl, (HO3.out.drewN n2).mono HSZ.out, HB4.out⟩
end Go.Proofs.Ytbghkdhkahkfnaa

/-
  Y37: contracts and lemmas alone; no statement is claimed here.
-/
import Derived.Test.YtmapfcdffklopaaGreatY36
import Derived.Test.YtmapfcdffklopaaGreatY19
namespace Go.Proofs.YtmapfcdffklopaaGreat
open Go.RowKit
attribute [local go_sem] pureUpon Ords.of

theorem nodeCopy_any (p d : Nat) (big last : Bool) (x key : List UInt8) (wr : UInt64) (e : Eng) (F : List Nat) (w : World) (hN : Nd w p big d x key last wr e F) :
  Calls Tryz.prog 45 #[.pointer (some ⟨p, 0, none⟩)] w fun r w' => ∃ q F', r = .returned (.pointer (some ⟨q, 0, none⟩)) ∧ w.heap.size ≤ q ∧ Nd w' q big d x key last wr e F' ∧ (∀ k, k ∈ F' → k ∈ F ∨ w.heap.size ≤ k) ∧ Below w.heap.size w w' := by
 obtain ⟨R, F1, h1, h2⟩ := hN.s
 refine (copyS_any p d big last x key wr e R F1 w h1).mono ?_
 rintro r w' ⟨q, F2, rfl, h3, h4, h5⟩
 obtain ⟨F3, h6, h7⟩ := h3.nd
 refine ⟨q, F3, rfl, h4 _ h3.here, h6, fun k hk => ?_, h5⟩
 rcases (h7 k).1 hk with h | h
 ·exact .inr (h4 k h)
 ·exact .inl ((h2 k).2 (.inr h))
set_option maxRecDepth 20000 in
set_option maxHeartbeats 1000000 in
theorem xbound_any (g : Nat) (cs : Array Value) (a : Nat) (n c : Nat) (wv : Value) (w : World) (hb : Blk w g 71 cs) (h9 : cs[9]? = some (.slice (some ⟨a, 0, none⟩) n c)) (h76 : cs[76]? = some wv) :
  Calls Tryz.prog 46 #[.pointer (some ⟨g, 0, none⟩)] w fun r w' => r = .returned (.pointer (some ⟨g, 0, none⟩)) ∧ w' = (w.setCell ⟨g, 76, none⟩ (takesV g)).setCell ⟨g, 76, none⟩ (givesV g) := by
 have d9 : w.cell? ⟨g, 9, none⟩ = some (.slice (some ⟨a, 0, none⟩) n c) := (hb.cell 9).trans h9
 have d76 : w.cell? ⟨g, 76, none⟩ = some wv := (hb.cell 76).trans h76
 have f76 := hb.frozen 76
 have hlt := hb.lt
 have hmf : ∀ (fn : Fn) (first cap : Array Value) (w : World), (Instr.makeFunc fn first cap).run Tryz.prog w = .ok (.func fn first cap) w := fun _ _ _ _ => rfl
 have hbo : ∀ W, Sem.run Tryz.prog (Go.binOp .neq 22 (.slice (some ⟨a, 0, none⟩) n c) (.slice none 0 0)) W = .ok (.bool true) W := by intro W; rfl
 clear hb h9 h76
 go_enter Tryz.func46, Tryz.ntmps46
 go_wp2_with fail
 exact bodyPost_ret (results_tmp rfl _ _ _) rfl ⟨rfl, rfl⟩
set_option maxRecDepth 20000 in
set_option maxHeartbeats 1000000 in
theorem xboundT_any (g : Nat) (cs : Array Value) (wv : Value) (w : World) (hb : Blk w g 71 cs) (h9 : cs[9]? = some (.slice none 0 0)) (h76 : cs[76]? = some wv) :
  Calls Tryz.prog 46 #[.pointer (some ⟨g, 0, none⟩)] w fun r w' => r = .returned (.pointer (some ⟨g, 0, none⟩)) ∧ w' = w.setCell ⟨g, 76, none⟩ (takesV g) := by
 have d9 : w.cell? ⟨g, 9, none⟩ = some (.slice none 0 0) := (hb.cell 9).trans h9
 have d76 : w.cell? ⟨g, 76, none⟩ = some wv := (hb.cell 76).trans h76
 have f76 := hb.frozen 76
 have hlt := hb.lt
 have hmf : ∀ (fn : Fn) (first cap : Array Value) (w : World), (Instr.makeFunc fn first cap).run Tryz.prog w = .ok (.func fn first cap) w := fun _ _ _ _ => rfl
 have hbo : ∀ W, Sem.run Tryz.prog (Go.binOp .neq 22 (.slice none 0 0) (.slice none 0 0)) W = .ok (.bool false) W := by intro W; rfl
 clear hb h9 h76
 go_enter Tryz.func46, Tryz.ntmps46
 go_wp2_with fail
 exact bodyPost_ret (results_tmp rfl _ _ _) rfl ⟨rfl, rfl⟩
theorem XC.all {cs : Array Value} {k f c t : Int} {kn : Bool} {kv sv pv nv rv : Value} {pos hv : Int} {wv : Value} {now : List UInt8} (h : XC cs k f c t kn kv sv pv nv rv pos hv wv now) (hn : now.length = 64) (h5 : kv.oneCell' = true) (h6 : sv.oneCell' = true) (h7 : pv.oneCell' = true) (h8 : nv.oneCell' = true) (h9 : rv.oneCell' = true) (hw : wv.oneCell' = true) : cs.all (·.oneCell') = true := by
 rw [Array.all_eq_true]
 intro i hi
 have e : ∀ (j : Nat) (v : Value), cs[j]? = some v → v.oneCell' = true → j = i → (cs[i]).oneCell' = true := by
  rintro j v h1 h2 rfl
  rw [Array.getElem?_eq_getElem hi] at h1
  rw [Option.some.inj h1]
  exact h2
 have h77 := h.sz
 by_cases i0 : 0 = i
 ·exact e 0 _ h.c0 rfl i0
 by_cases i1 : 1 = i
 ·exact e 1 _ h.c1 rfl i1
 by_cases i2 : 2 = i
 ·exact e 2 _ h.c2 rfl i2
 by_cases i3 : 3 = i
 ·exact e 3 _ h.c3 rfl i3
 by_cases i4 : 4 = i
 ·exact e 4 _ h.c4 rfl i4
 by_cases i5 : 5 = i
 ·exact e 5 _ h.c5 h5 i5
 by_cases i6 : 6 = i
 ·exact e 6 _ h.c6 h6 i6
 by_cases i7 : 7 = i
 ·exact e 7 _ h.c7 h7 i7
 by_cases i8 : 8 = i
 ·exact e 8 _ h.c8 h8 i8
 by_cases i9 : 9 = i
 ·exact e 9 _ h.c9 h9 i9
 by_cases i10 : 10 = i
 ·exact e 10 _ h.c10 rfl i10
 by_cases i75 : 75 = i
 ·exact e 75 _ h.c75 rfl i75
 by_cases i76 : 76 = i
 ·exact e 76 _ h.c76 hw i76
 have e1 : (cs.extract 11 75).toList[i - 11]? = cs[i]? := by
  rw [Array.getElem?_toList, Array.getElem?_extract, if_pos (by omega)]
  congr 1
  omega
 rw [h.now, List.getElem?_map, List.getElem?_eq_getElem (by omega)] at e1
 exact e i _ e1.symm rfl rfl
set_option maxRecDepth 20000 in
set_option maxHeartbeats 4000000 in
theorem XGv.copy {p : Nat} {m : Xm} {root : List UInt8} {pos : Nat} {F : List Nat} {w : World} (hX : XGv w p m root pos F) :
  Calls Tryz.prog 25 #[.pointer (some ⟨p, 0, none⟩)] w fun r w' => ∃ g F', r = .returned (.pointer (some ⟨g, 0, none⟩)) ∧ w.heap.size ≤ g ∧ XGv w' g m root pos F' ∧ p ∉ F' ∧ Fresh F F' w ∧ Below w.heap.size w w' := by
 obtain ⟨wr, e, cs, Ak, ck, s, pp, q, F0, Ar, cr, hv, now, h, rfl⟩ := hX
 have h0 : 1 ≤ root.length := by rw [h.rl]; cases m.big <;> decide
 obtain ⟨a_, rfl, -⟩ : ∃ a, Ar = some ⟨a, 0, none⟩ ∧ True := by
  rcases h.or.form with ⟨-, -, h1⟩ | ⟨a, h1, -⟩
  ·rw [h1] at h0; cases h0
  ·exact ⟨a, h1, trivial⟩
 have hno := xnone_any p cs w h.blk _ _ _ h.xc.c76
 have hcp := fun W hN => nodeCopy_any q (bOf m.big) m.big false (encL m.big (rootP (kOf m.big) m.len m.key.length s pp) m.ls m.lp) m.key wr e F0 W hN
 have hbd := fun g cs a n c wv W hb h9 h76 => xbound_any g cs a n c wv W hb h9 h76
 have hsz : (Tryz.prog.info? 71).map (·.size) = some cs.size := by rw [h.xc.sz]; kernel_rfl
 have hall := h.xc.all h.hnow rfl rfl rfl rfl rfl rfl
 have hu := Lib.hid Tryz.underlying71
 have HX := Lib.hid h; have HNO := Lib.hid hno; have HCP := Lib.hid hcp; have HBD := Lib.hid hbd; have HSZ := Lib.hid hsz; have HALL := Lib.hid hall; have HB := Lib.hid h.blk
 have HZ := Lib.hid (Blk.new w 71 Tryz.zeroCells71)
 have HS0 := Lib.hid (show Tryz.zeroCells71.size = cs.size by rw [h.xc.sz]; kernel_rfl)
 clear h hno hcp hbd hsz hall h0
 go_enter Tryz.func25, Tryz.ntmps25
 go_upto_region 4 with (first
  | (go_at_call 29; refine HNO.out.mono ?_; rintro e0 w0 ⟨rfl, rfl⟩)
  | (refine wpList_load_row rfl 71 _ rfl p rfl 71 cs (0, 0) _ HB.out hu.out rfl HSZ.out ?_)
  | (refine wpList_store_row rfl 71 _ _ rfl w.heap.size cs rfl rfl 71 _ HZ.out HSZ.out HS0.out HALL.out ?_))
 have HW1 := Lib.hid (brow (bal (b0 w) (.cells Tryz.zeroCells71 71)) (Nat.le_refl _) cs)
 have HK := Lib.hid (HZ.out.row cs)
 generalize (w.alloc _).setRow w.heap.size cs = w1 at *
 have HX1 := Lib.hid (HX.out.below HW1.out)
 have d8 : w1.cell? ⟨p, 8, none⟩ = some (.pointer (some ⟨q, 0, none⟩)) := (HX1.out.blk.cell 8).trans HX1.out.xc.c8
 go_wp2_with fail
 refine (HCP.out _ HX1.out.nd).mono ?_
 rintro e2 w2 ⟨q2, F2, rfl, hq2, hN2, hF2, hb2⟩
 have HW2 := Lib.hid (bcall HW1.out hb2); have HX2 := Lib.hid (HX1.out.below hb2); have HK2 := Lib.hid (HK.out.below hb2 HK.out.lt); have HN2 := Lib.hid hN2
 have HF2 := Lib.hid (fun k (hk : k ∈ F2) => (hF2 k hk).elim (fun h => Or.inl h) (fun h => Or.inr (Nat.lt_of_lt_of_le HK.out.lt h)))
 have e8 : w2.cell? ⟨w.heap.size, 8, none⟩ = some (.pointer (some ⟨q, 0, none⟩)) := (HK2.out.cell 8).trans HX.out.xc.c8
 have f8 := HK2.out.frozen 8
 have hl8 := HK2.out.lt
 clear hq2 hN2 hF2 hb2 d8
 go_wp2_with fail
 have hk3 := HK2.out.set_ 8 (.pointer (some ⟨q2, 0, none⟩))
 have hx3 := HX.out.xc.put8 (.pointer (some ⟨q2, 0, none⟩))
 refine (HBD.out _ _ _ _ _ _ _ hk3 hx3.c9 hx3.c76).mono ?_
 rintro e4 w4 ⟨rfl, rfl⟩
 have HK4 := Lib.hid ((hk3.set_ 76 (takesV w.heap.size)).set_ 76 (givesV w.heap.size)); have HX4 := Lib.hid ((hx3.put76 (takesV w.heap.size)).put76 (givesV w.heap.size))
 have HB4 : Hid (But [w.heap.size] w2 (((w2.setCell ⟨w.heap.size, 8, none⟩ (.pointer (some ⟨q2, 0, none⟩))).setCell ⟨w.heap.size, 76, none⟩ (takesV w.heap.size)).setCell ⟨w.heap.size, 76, none⟩ (givesV w.heap.size))) :=
  But.setCell (p := ⟨w.heap.size, 76, none⟩) (But.setCell (p := ⟨w.heap.size, 76, none⟩) (But.setCell (p := ⟨w.heap.size, 8, none⟩) (But.refl _ _) (.inl (List.mem_singleton.2 rfl)) _) (.inl (List.mem_singleton.2 rfl)) _) (.inl (List.mem_singleton.2 rfl)) _
 clear hk3 hx3 e8 f8 hl8
 generalize ((w2.setCell _ _).setCell _ _).setCell _ _ = w4 at *
 go_wp2_with fail
 have hlt := HX.out.lt
 have hg2 : w.heap.size < w2.heap.size := HK2.out.lt
 have inK : ∀ b, Ak = some b → b.block ∈ xfoot p F0 Ak s.A pp.A (some ⟨a_, 0, none⟩) := fun b hb => mem_xfoot.2 (.inr (.inr (.inl ⟨b, hb, rfl⟩)))
 have inS : ∀ b, s.A = some b → b.block ∈ xfoot p F0 Ak s.A pp.A (some ⟨a_, 0, none⟩) := fun b hb => mem_xfoot.2 (.inr (.inr (.inr (.inl ⟨b, hb, rfl⟩))))
 have inP : ∀ b, pp.A = some b → b.block ∈ xfoot p F0 Ak s.A pp.A (some ⟨a_, 0, none⟩) := fun b hb => mem_xfoot.2 (.inr (.inr (.inr (.inr (.inl ⟨b, hb, rfl⟩)))))
 have inR : ∀ b, (some ⟨a_, 0, none⟩ : Option Addr) = some b → b.block ∈ xfoot p F0 Ak s.A pp.A (some ⟨a_, 0, none⟩) := fun b hb => mem_xfoot.2 (.inr (.inr (.inr (.inr (.inr ⟨b, hb, rfl⟩)))))
 have nog : ∀ k, k ∈ xfoot p F0 Ak s.A pp.A (some ⟨a_, 0, none⟩) → k ∉ [w.heap.size] := fun k hk hm => by have := hlt k hk; rw [List.mem_singleton.1 hm] at this; exact Nat.lt_irrefl _ this
 have far : ∀ {A : Option Addr}, (∀ b, A = some b → b.block ∈ xfoot p F0 Ak s.A pp.A (some ⟨a_, 0, none⟩)) → (∀ b, A = some b → b.block ∉ p :: F0) → ∀ b, A = some b → b.block ∉ w.heap.size :: F2 := by
  intro A h1 h2 b hb hm
  rcases List.mem_cons.1 hm with h3 | h3
  ·exact nog _ (h1 b hb) (List.mem_singleton.2 h3)
  ·rcases HF2.out _ h3 with h4 | h4
   ·exact h2 b hb (List.mem_cons_of_mem _ h4)
   ·exact Nat.lt_asymm h4 (hlt _ (h1 b hb))
 have g2 : w.heap.size ∉ F2 := fun hm => by
  rcases HF2.out _ hm with h4 | h4
  ·exact Nat.lt_irrefl _ (HX.out.nd.lt _ h4)
  ·exact Nat.lt_irrefl _ h4
 have p2 : p ∉ F2 := fun hm => by
  rcases HF2.out _ hm with h4 | h4
  ·exact HX.out.pF h4
  ·exact Nat.lt_asymm h4 HX.out.blk.lt
 refine bodyPost_ret (results_tmp rfl _ _ _) rfl ⟨w.heap.size, xfoot w.heap.size F2 Ak s.A pp.A (some ⟨a_, 0, none⟩), rfl, Nat.le_refl _, ⟨wr, e, _, Ak, ck, s, pp, q2, F2, some ⟨a_, 0, none⟩, cr, hv, now, ⟨HK4.out, HX4.out, HX.out.hnow, HX.out.hls, HX.out.hlp, HX2.out.ok.but HB4.out (fun b hb => nog _ (inK b hb)), HX2.out.os.but HB4.out (fun b hb => nog _ (inS b hb)), HX2.out.op.but HB4.out (fun b hb => nog _ (inP b hb)),
  far inK HX.out.fk, far inS HX.out.fs, far inP HX.out.fp, HN2.out.but HB4.out (fun k hk hm => g2 (by rw [← List.mem_singleton.1 hm]; exact hk)), Nat.zero_le _, fun _ _ => Nat.zero_le _, g2, HX2.out.or.but HB4.out (fun b hb => nog _ (inR b hb)), HX.out.rl, far inR HX.out.fr, HX.out.hve, HX.out.hpos⟩, rfl⟩, ?_, ?_, HW2.out.trans (HB4.out.toBelow HW2.out.size (fun k hk => by rw [List.mem_singleton.1 hk]; exact Nat.le_refl _))⟩
 ·intro hm
  have pn : ∀ {A : Option Addr}, (∀ b, A = some b → b.block ∉ p :: F0) → ¬ ∃ b, A = some b ∧ b.block = p := by
   rintro A h2 ⟨b, h3, h4⟩
   exact h2 b h3 (by rw [h4]; exact List.mem_cons_self ..)
  rcases mem_xfoot.1 hm with h1 | h1 | h1 | h1 | h1 | h1
  ·exact Nat.ne_of_lt HX.out.blk.lt h1
  ·exact p2 h1
  ·exact pn HX.out.fk h1
  ·exact pn HX.out.fs h1
  ·exact pn HX.out.fp h1
  ·exact pn HX.out.fr h1
 ·intro k hk
  rcases mem_xfoot.1 hk with h1 | h1 | h1 | h1 | h1 | h1
  ·exact .inr (Nat.le_of_eq h1.symm)
  ·rcases HF2.out k h1 with h4 | h4
   ·exact .inl (mem_xfoot.2 (.inr (.inl h4)))
   ·exact .inr (Nat.le_of_lt h4)
  ·exact .inl (mem_xfoot.2 (.inr (.inr (.inl h1))))
  ·exact .inl (mem_xfoot.2 (.inr (.inr (.inr (.inl h1)))))
  ·exact .inl (mem_xfoot.2 (.inr (.inr (.inr (.inr (.inl h1))))))
  ·exact .inl (mem_xfoot.2 (.inr (.inr (.inr (.inr (.inr h1))))))
set_option maxRecDepth 20000 in
theorem xat_any (p : Nat) (k f c t : Int) (kn : Bool) (kv sv pv nv rv : Value) (pos : Nat) (hv : Int) (fn : Fn) (xs ys : Array Value) (now : List UInt8) (cs : Array Value) (w : World) (hb : Blk w p 71 cs) (hx : XC cs k f c t kn kv sv pv nv rv pos hv (.func fn xs ys) now) :
  Calls Tryz.prog 8 #[.pointer (some ⟨p, 0, none⟩)] w fun r w' => r = .returned (.int .u64 pos) ∧ w = w' := by
 have hno := xnone_any p cs w hb fn xs ys hx.c76
 have d10 : w.cell? ⟨p, 10, none⟩ = some (.int .u64 pos) := (hb.cell 10).trans hx.c10
 have HNO := Lib.hid hno; clear hno hb hx
 go_enter Tryz.func8, Tryz.ntmps8
 go_wp2_with (go_at_call 29; refine HNO.out.mono ?_; rintro e1 w1 ⟨rfl, rfl⟩)
 exact bodyPost_ret (results_tmp rfl _ _ _) rfl ⟨rfl, rfl⟩
theorem XGv.atq {p : Nat} {m : Xm} {root : List UInt8} {pos : Nat} {F : List Nat} {w : World} (hX : XGv w p m root pos F) : Calls Tryz.prog 8 #[.pointer (some ⟨p, 0, none⟩)] w fun r w' => r = .returned (.int .u64 pos) ∧ w = w' := by
 obtain ⟨wr, e, cs, Ak, ck, s, pp, q, F0, Ar, cr, hv, now, h, rfl⟩ := hX
 exact xat_any p _ _ _ _ _ _ _ _ _ _ pos _ _ _ _ _ cs w h.blk h.xc
end Go.Proofs.YtmapfcdffklopaaGreat

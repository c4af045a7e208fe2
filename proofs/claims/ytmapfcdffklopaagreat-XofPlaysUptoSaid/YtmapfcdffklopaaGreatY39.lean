/-
  Y39: contracts and lemmas alone; no statement is claimed here.
-/
import Derived.Test.YtmapfcdffklopaaGreatY37
import Derived.Test.YtmapfcdffklopaaGreatY28
namespace Go.Proofs.YtmapfcdffklopaaGreat
open Go.RowKit
attribute [local go_sem] pureUpon Ords.of

structure XSt where
  msg : List UInt8
  gv : Bool
  pos : Nat
section
variable {w : World} {p : Nat} {m : Xm} {msg root : List UInt8} {pos : Nat} {F : List Nat}
theorem XTk.left (hX : XTk w p m msg F) (hm : m.Ok) : Calls Tryz.prog 9 #[.pointer (some ⟨p, 0, none⟩)] w fun r w' => r = .returned (.int .u64 (m.T : Nat)) ∧ Below w.heap.size w w' := by
 have h2 := hm.T37
 obtain ⟨wr, cs, Ak, ck, s, pp, q, F0, h, rfl⟩ := hX
 obtain ⟨now, -, hx⟩ := h.xc
 have e : xTotal (kOf m.big) m.len - ((0 : Nat) : Int) = (m.T : Int) := by rw [hm.T]; omega
 rw [← e]
 exact xleft_any p _ _ _ _ _ _ _ _ _ _ 0 _ _ _ _ _ cs w h.blk hx (by rw [hm.T]; omega)
theorem XGv.leftq (hX : XGv w p m root pos F) (hm : m.Ok) : Calls Tryz.prog 9 #[.pointer (some ⟨p, 0, none⟩)] w fun r w' => r = .returned (.int .u64 ((m.T - pos : Nat) : Int)) ∧ Below w.heap.size w w' := by
 have h1 := hX.posle
 have h2 := hm.T37
 obtain ⟨wr, e, cs, Ak, ck, s, pp, q, F0, Ar, cr, hv, now, h, rfl⟩ := hX
 have e : xTotal (kOf m.big) m.len - (pos : Int) = ((m.T - pos : Nat) : Int) := by rw [hm.T]; omega
 rw [← e]
 exact xleft_any p _ _ _ _ _ _ _ _ _ _ pos _ _ _ _ _ cs w h.blk h.xc (by rw [e]; omega)
theorem XTk.atq (hX : XTk w p m msg F) : Calls Tryz.prog 8 #[.pointer (some ⟨p, 0, none⟩)] w fun r w' => r = .returned (.int .u64 0) ∧ w = w' := by
 obtain ⟨wr, cs, Ak, ck, s, pp, q, F0, h, rfl⟩ := hX
 obtain ⟨now, -, hx⟩ := h.xc
 exact xat_any p _ _ _ _ _ _ _ _ _ _ 0 _ _ _ _ _ cs w h.blk hx
theorem XTk.none_ (hX : XTk w p m msg F) : Calls Tryz.prog 29 #[.pointer (some ⟨p, 0, none⟩)] w fun r w' => r = .returned (.bool false) ∧ w = w' := by
 obtain ⟨wr, cs, Ak, ck, s, pp, q, F0, h, rfl⟩ := hX
 obtain ⟨now, -, hx⟩ := h.xc
 exact xnone_any p cs w h.blk _ _ _ hx.c76
theorem XGv.none_ (hX : XGv w p m root pos F) : Calls Tryz.prog 29 #[.pointer (some ⟨p, 0, none⟩)] w fun r w' => r = .returned (.bool false) ∧ w = w' := by
 obtain ⟨wr, e, cs, Ak, ck, s, pp, q, F0, Ar, cr, hv, now, h, rfl⟩ := hX
 exact xnone_any p cs w h.blk _ _ _ h.xc.c76
theorem XGv.writeNo (hX : XGv w p m root pos F) (Ab : Option Addr) (nb cb : Nat) : Calls Tryz.prog 21 #[.pointer (some ⟨p, 0, none⟩), .slice Ab nb cb] w fun r w' => r = .returned (.int .i64 5) ∧ w = w' := by
 have hno := hX.none_
 obtain ⟨wr, e, cs, Ak, ck, s, pp, q, F0, Ar, cr, hv, now, h, rfl⟩ := hX
 have c76 : cs[76]? = some (.func (.func 65) #[.pointer (some ⟨p, 0, none⟩)] #[]) := h.xc.c76
 have d76 : w.cell? ⟨p, 76, none⟩ = some (.func (.func 65) #[.pointer (some ⟨p, 0, none⟩)] #[]) := (h.blk.cell 76).trans c76
 have hgv : Calls Tryz.prog 65 #[.pointer (some ⟨p, 0, none⟩), .slice Ab nb cb] w fun r w' => r = .returned (.int .i64 5) ∧ w = w' := by
  clear hno h c76 d76
  go_enter Tryz.func65, Tryz.ntmps65
  go_wp2_with fail
  exact bodyPost_ret (results_tmp rfl _ _ _) rfl ⟨rfl, rfl⟩
 have HNO := Lib.hid hno; have HGV := Lib.hid hgv
 clear hno h c76 hgv
 go_enter Tryz.func21, Tryz.ntmps21
 go_wp2_with (go_at_call 29; refine HNO.out.mono ?_; rintro e0 w0 ⟨rfl, rfl⟩)
 refine HGV.out.mono ?_
 rintro e1 w1 ⟨rfl, rfl⟩
 go_wp2_with fail
 exact bodyPost_ret (results_tmp rfl _ _ _) rfl ⟨rfl, rfl⟩
set_option maxRecDepth 20000 in
set_option maxHeartbeats 1000000 in
theorem xreset_any (m : Xm) (hm : m.Ok) (p : Nat) (Ak : Option Addr) (ck : Nat) (s pp : Sl) (nv rv : Value) (pos : Int) (hv : Int) (fn : Fn) (xs ys : Array Value) (now : List UInt8) (cs : Array Value) (w : World)
  (hb : Blk w p 71 cs) (hx : XC cs (kOf m.big) (mostOf (kOf m.big)) (xCode (kOf m.big) m.len) (xTotal (kOf m.big) m.len) (decide (m.len ≠ -1)) (.slice Ak m.key.length ck) s.v pp.v nv rv pos hv (.func fn xs ys) now) (h64 : now.length = 64)
  (hls : m.ls.length = s.n) (hlp : m.lp.length = pp.n) (ok : OS cB w 0 Ak ck m.key) (os : OS cB w 0 s.A s.c m.ls) (op : OS cB w 0 pp.A pp.c m.lp) (fk : ∀ a, Ak = some a → a.block ≠ p) (fs : ∀ a, s.A = some a → a.block ≠ p) (fp : ∀ a, pp.A = some a → a.block ≠ p) :
  Calls Tryz.prog 28 #[.pointer (some ⟨p, 0, none⟩)] w fun r w' => r = .returned (.int .i64 0) ∧ ∃ cs' q F', XT w' 0 p m.big m.len m.key m.ls m.lp 0 (m.e0.feed []) cs' Ak ck s pp q F' ∧ (∀ k, k ∈ F' → w.heap.size ≤ k) ∧ But [p] w w' := by
 have hv0 := hm.val s pp hls.symm hlp.symm
 have ho := xOK_of hv0
 have hk0 : ¬ mostOf (kOf m.big) < m.key.length := fun h => by rw [xValid_key ho h] at hv0; exact absurd hv0 (by decide)
 have hchk : chk (kOf m.big) (rootP (kOf m.big) m.len m.key.length s pp) = 0 := by rw [xValid_chk ho hk0] at hv0; exact hv0
 have hfit := rootP_fit (nk := m.key.length) (s := s) (t := pp) ho
 have hno := xnone_any p cs w hb fn xs ys hx.c76
 have hbe := xbegin_any p (bOf m.big) m.big (mostOf (kOf m.big)) (xCode (kOf m.big) m.len) (xTotal (kOf m.big) m.len) (decide (m.len ≠ -1)) Ak m.key.length ck s pp nv rv pos hv (.func fn xs ys) now m.ls m.lp m.key cs w hb hx (by cases m.big <;> rfl) hchk hfit hls hlp os.reads op.reads rfl ok.reads
 have hpl := hb.lt
 have HNO := Lib.hid hno; have HBE := Lib.hid hbe; have HPL := Lib.hid hpl; have HOK := Lib.hid ok; have HOS := Lib.hid os; have HOP := Lib.hid op; have HFK := Lib.hid fk; have HFS := Lib.hid fs; have HFP := Lib.hid fp
 clear hno hbe hpl hv0 ho hk0 hchk hfit ok os op fk fs fp hb hx
 go_enter Tryz.func28, Tryz.ntmps28
 go_wp2_with first
  | (go_at_call 29; refine HNO.out.mono ?_; rintro e0 w0 ⟨rfl, rfl⟩)
  | (go_at_call 40; refine HBE.out.mono ?_; rintro e1 w1 ⟨rfl, cs', q, F', h1, h2, h3, h4, h5⟩; have H1 := Lib.hid h1; have H2 := Lib.hid h2; have H3 := Lib.hid h3; have H4 := Lib.hid h4; have H5 := Lib.hid h5; clear h1 h2 h3 h4 h5)
 have nf : ∀ {A : Option Addr} {c : Nat} {l : List UInt8}, OS cB w 0 A c l → (∀ a, A = some a → a.block ≠ p) → ∀ a, A = some a → a.block ∉ p :: F' := by
  intro A c l h1 h2 a ha hm
  rcases List.mem_cons.1 hm with h3 | h3
  ·exact h2 a ha h3
  ·exact Nat.lt_irrefl _ (Nat.lt_of_lt_of_le (h1.block_lt a ha).2 (H4.out _ h3))
 have n1 : ∀ {A : Option Addr}, (∀ a, A = some a → a.block ≠ p) → ∀ a, A = some a → a.block ∉ [p] := fun h2 a ha hm => h2 a ha (List.mem_singleton.1 hm)
 refine bodyPost_ret (results_tmp rfl _ _ _) rfl ⟨rfl, cs', q, F', ⟨H1.out, ⟨now, h64, H2.out⟩, hls, hlp, HOK.out.but H5.out (n1 HFK.out), HOS.out.but H5.out (n1 HFS.out), HOP.out.but H5.out (n1 HFP.out), nf HOK.out HFK.out, nf HOS.out HFS.out, nf HOP.out HFP.out, ?_, Nat.zero_le _, fun _ _ => Nat.zero_le _, fun hm => Nat.lt_irrefl _ (Nat.lt_of_lt_of_le HPL.out (H4.out _ hm))⟩, H4.out, H5.out⟩
 rw [Eng.feed_nil]
 exact H3.out
theorem XTk.reset (hX : XTk w p m msg F) (hm : m.Ok) : Calls Tryz.prog 28 #[.pointer (some ⟨p, 0, none⟩)] w fun r w' => r = .returned (.int .i64 0) ∧ ∃ F', XTk w' p m [] F' ∧ Fresh F F' w ∧ But [p] w w' := by
 obtain ⟨wr, cs, Ak, ck, s, pp, q, F0, h, rfl⟩ := hX
 obtain ⟨now, h64, hx⟩ := h.xc
 have np : ∀ {A : Option Addr}, (∀ a, A = some a → a.block ∉ p :: F0) → ∀ a, A = some a → a.block ≠ p := fun h1 a ha e => h1 a ha (by rw [e]; exact List.mem_cons_self ..)
 refine (xreset_any m hm p Ak ck s pp _ _ 0 _ _ _ _ now cs w h.blk hx h64 h.hls h.hlp h.ok h.os h.op (np h.fk) (np h.fs) (np h.fp)).mono ?_
 rintro r w' ⟨rfl, cs', q', F', h1, h2, h3⟩
 exact ⟨rfl, _, ⟨_, _, _, _, _, _, _, _, h1, rfl⟩, xfoot_more (fun k hk => .inr (h2 k hk)) (fun a h1 => by cases h1), h3⟩
theorem XGv.reset (hX : XGv w p m root pos F) (hm : m.Ok) : Calls Tryz.prog 28 #[.pointer (some ⟨p, 0, none⟩)] w fun r w' => r = .returned (.int .i64 0) ∧ ∃ F', XTk w' p m [] F' ∧ Fresh F F' w ∧ But [p] w w' := by
 obtain ⟨wr, e, cs, Ak, ck, s, pp, q, F0, Ar, cr, hv, now, h, rfl⟩ := hX
 have np : ∀ {A : Option Addr}, (∀ a, A = some a → a.block ∉ p :: F0) → ∀ a, A = some a → a.block ≠ p := fun h1 a ha e => h1 a ha (by rw [e]; exact List.mem_cons_self ..)
 refine (xreset_any m hm p Ak ck s pp _ _ pos _ _ _ _ now cs w h.blk h.xc h.hnow h.hls h.hlp h.ok h.os h.op (np h.fk) (np h.fs) (np h.fp)).mono ?_
 rintro r w' ⟨rfl, cs', q', F', h1, h2, h3⟩
 exact ⟨rfl, _, ⟨_, _, _, _, _, _, _, _, h1, rfl⟩, xfoot_more (fun k hk => .inr (h2 k hk)) (fun a h1 => by cases h1), h3⟩
end
set_option maxRecDepth 20000 in
set_option maxHeartbeats 2000000 in
theorem XTk.copy {p : Nat} {m : Xm} {msg : List UInt8} {F : List Nat} {w : World} (hX : XTk w p m msg F) :
  Calls Tryz.prog 25 #[.pointer (some ⟨p, 0, none⟩)] w fun r w' => ∃ g F', r = .returned (.pointer (some ⟨g, 0, none⟩)) ∧ w.heap.size ≤ g ∧ XTk w' g m msg F' ∧ p ∉ F' ∧ Fresh F F' w ∧ Below w.heap.size w w' := by
 obtain ⟨wr, cs, Ak, ck, s, pp, q, F0, h, rfl⟩ := hX
 obtain ⟨now, hnow, hxc⟩ := h.xc
 have hno := xnone_any p cs w h.blk _ _ _ hxc.c76
 have hcp := fun W hN => nodeCopy_any q (bOf m.big) m.big false (encL m.big (rootP (kOf m.big) m.len m.key.length s pp) m.ls m.lp) m.key wr (m.e0.feed msg) F0 W hN
 have hbd := fun g cs wv W hb h9 h76 => xboundT_any g cs wv W hb h9 h76
 have hsz : (Tryz.prog.info? 71).map (·.size) = some cs.size := by rw [hxc.sz]; kernel_rfl
 have hall := hxc.all hnow rfl rfl rfl rfl rfl rfl
 have HXC := Lib.hid hxc
 have hu := Lib.hid Tryz.underlying71
 have HX := Lib.hid h; have HNO := Lib.hid hno; have HCP := Lib.hid hcp; have HBD := Lib.hid hbd; have HSZ := Lib.hid hsz; have HALL := Lib.hid hall; have HB := Lib.hid h.blk
 have HZ := Lib.hid (Blk.new w 71 Tryz.zeroCells71)
 have HS0 := Lib.hid (show Tryz.zeroCells71.size = cs.size by rw [hxc.sz]; kernel_rfl)
 clear h hno hcp hbd hsz hall hxc
 go_enter Tryz.func25, Tryz.ntmps25
 go_upto_region 4 with (first
  | (go_at_call 29; refine HNO.out.mono ?_; rintro e0 w0 ⟨rfl, rfl⟩)
  | (refine wpList_load_row rfl 71 _ rfl p rfl 71 cs (0, 0) _ HB.out hu.out rfl HSZ.out ?_)
  | (refine wpList_store_row rfl 71 _ _ rfl w.heap.size cs rfl rfl 71 _ HZ.out HSZ.out HS0.out HALL.out ?_))
 have HW1 := Lib.hid (brow (bal (b0 w) (.cells Tryz.zeroCells71 71)) (Nat.le_refl _) cs)
 have HK := Lib.hid (HZ.out.row cs)
 generalize (w.alloc _).setRow w.heap.size cs = w1 at *
 have HX1 := Lib.hid (HX.out.below HW1.out)
 have d8 : w1.cell? ⟨p, 8, none⟩ = some (.pointer (some ⟨q, 0, none⟩)) := (HX1.out.blk.cell 8).trans HXC.out.c8
 go_wp2_with fail
 refine (HCP.out _ HX1.out.nd).mono ?_
 rintro e2 w2 ⟨q2, F2, rfl, hq2, hN2, hF2, hb2⟩
 have HW2 := Lib.hid (bcall HW1.out hb2); have HX2 := Lib.hid (HX1.out.below hb2); have HK2 := Lib.hid (HK.out.below hb2 HK.out.lt); have HN2 := Lib.hid hN2
 have HF2 := Lib.hid (fun k (hk : k ∈ F2) => (hF2 k hk).elim (fun h => Or.inl h) (fun h => Or.inr (Nat.lt_of_lt_of_le HK.out.lt h)))
 have e8 : w2.cell? ⟨w.heap.size, 8, none⟩ = some (.pointer (some ⟨q, 0, none⟩)) := (HK2.out.cell 8).trans HXC.out.c8
 have f8 := HK2.out.frozen 8
 have hl8 := HK2.out.lt
 clear hq2 hN2 hF2 hb2 d8
 go_wp2_with fail
 have hk3 := HK2.out.set_ 8 (.pointer (some ⟨q2, 0, none⟩))
 have hx3 := HXC.out.put8 (.pointer (some ⟨q2, 0, none⟩))
 refine (HBD.out _ _ _ _ hk3 hx3.c9 hx3.c76).mono ?_
 rintro e4 w4 ⟨rfl, rfl⟩
 have HK4 := Lib.hid (hk3.set_ 76 (takesV w.heap.size)); have HX4 := Lib.hid (hx3.put76 (takesV w.heap.size))
 have HB4 : Hid (But [w.heap.size] w2 ((w2.setCell ⟨w.heap.size, 8, none⟩ (.pointer (some ⟨q2, 0, none⟩))).setCell ⟨w.heap.size, 76, none⟩ (takesV w.heap.size))) :=
  But.setCell (p := ⟨w.heap.size, 76, none⟩) (But.setCell (p := ⟨w.heap.size, 8, none⟩) (But.refl _ _) (.inl (List.mem_singleton.2 rfl)) _) (.inl (List.mem_singleton.2 rfl)) _
 clear hk3 hx3 e8 f8 hl8
 generalize (w2.setCell _ _).setCell _ _ = w4 at *
 go_wp2_with fail
 have hlt := HX.out.flt
 have hg2 : w.heap.size < w2.heap.size := HK2.out.lt
 have inK : ∀ b, Ak = some b → b.block ∈ xfoot p F0 Ak s.A pp.A none := fun b hb => mem_xfoot.2 (.inr (.inr (.inl ⟨b, hb, rfl⟩)))
 have inS : ∀ b, s.A = some b → b.block ∈ xfoot p F0 Ak s.A pp.A none := fun b hb => mem_xfoot.2 (.inr (.inr (.inr (.inl ⟨b, hb, rfl⟩))))
 have inP : ∀ b, pp.A = some b → b.block ∈ xfoot p F0 Ak s.A pp.A none := fun b hb => mem_xfoot.2 (.inr (.inr (.inr (.inr (.inl ⟨b, hb, rfl⟩)))))
 have nog : ∀ k, k ∈ xfoot p F0 Ak s.A pp.A none → k ∉ [w.heap.size] := fun k hk hm => by have := hlt k hk; rw [List.mem_singleton.1 hm] at this; exact Nat.lt_irrefl _ this
 have far : ∀ {A : Option Addr}, (∀ b, A = some b → b.block ∈ xfoot p F0 Ak s.A pp.A none) → (∀ b, A = some b → b.block ∉ p :: F0) → ∀ b, A = some b → b.block ∉ w.heap.size :: F2 := by
  intro A h1 h2 b hb hm
  rcases List.mem_cons.1 hm with h3 | h3
  ·exact nog _ (h1 b hb) (List.mem_singleton.2 h3)
  ·rcases HF2.out _ h3 with h4 | h4
   ·exact h2 b hb (List.mem_cons_of_mem _ h4)
   ·exact Nat.lt_asymm h4 (hlt _ (h1 b hb))
 have g2 : w.heap.size ∉ F2 := fun hm => by
  rcases HF2.out _ hm with h4 | h4
  ·exact Nat.lt_irrefl _ (HX.out.nd.lt _ h4)
  ·exact Nat.lt_irrefl _ h4
 have p2 : p ∉ F2 := fun hm => by
  rcases HF2.out _ hm with h4 | h4
  ·exact HX.out.pF h4
  ·exact Nat.lt_asymm h4 HX.out.blk.lt
 refine bodyPost_ret (results_tmp rfl _ _ _) rfl ⟨w.heap.size, xfoot w.heap.size F2 Ak s.A pp.A none, rfl, Nat.le_refl _, ⟨wr, _, Ak, ck, s, pp, q2, F2, ⟨HK4.out, ⟨now, hnow, HX4.out⟩, HX.out.hls, HX.out.hlp, HX2.out.ok.but HB4.out (fun b hb => nog _ (inK b hb)), HX2.out.os.but HB4.out (fun b hb => nog _ (inS b hb)), HX2.out.op.but HB4.out (fun b hb => nog _ (inP b hb)),
  far inK HX.out.fk, far inS HX.out.fs, far inP HX.out.fp, HN2.out.but HB4.out (fun k hk hm => g2 (by rw [← List.mem_singleton.1 hm]; exact hk)), Nat.zero_le _, fun _ _ => Nat.zero_le _, g2⟩, rfl⟩, ?_, ?_, HW2.out.trans (HB4.out.toBelow HW2.out.size (fun k hk => by rw [List.mem_singleton.1 hk]; exact Nat.le_refl _))⟩
 ·intro hm
  have pn : ∀ {A : Option Addr}, (∀ b, A = some b → b.block ∉ p :: F0) → ¬ ∃ b, A = some b ∧ b.block = p := by
   rintro A h2 ⟨b, h3, h4⟩
   exact h2 b h3 (by rw [h4]; exact List.mem_cons_self ..)
  rcases mem_xfoot.1 hm with h1 | h1 | h1 | h1 | h1 | h1
  ·exact Nat.ne_of_lt HX.out.blk.lt h1
  ·exact p2 h1
  ·exact pn HX.out.fk h1
  ·exact pn HX.out.fs h1
  ·exact pn HX.out.fp h1
  ·obtain ⟨b, h3, -⟩ := h1; cases h3
 ·intro k hk
  rcases mem_xfoot.1 hk with h1 | h1 | h1 | h1 | h1 | h1
  ·exact .inr (Nat.le_of_eq h1.symm)
  ·rcases HF2.out k h1 with h4 | h4
   ·exact .inl (mem_xfoot.2 (.inr (.inl h4)))
   ·exact .inr (Nat.le_of_lt h4)
  ·exact .inl (mem_xfoot.2 (.inr (.inr (.inl h1))))
  ·exact .inl (mem_xfoot.2 (.inr (.inr (.inr (.inl h1)))))
  ·exact .inl (mem_xfoot.2 (.inr (.inr (.inr (.inr (.inl h1))))))
  ·obtain ⟨b, h3, -⟩ := h1; cases h3
end Go.Proofs.YtmapfcdffklopaaGreat

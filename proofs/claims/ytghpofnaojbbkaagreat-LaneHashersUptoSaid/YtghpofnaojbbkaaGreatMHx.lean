/-
  A hasher of lanes that may be forked, told by what it reads and what it writes. Contracts alone; no statement is claimed here.
-/
import Derived.Test.YtghpofnaojbbkaaGreatMFork
namespace Go.Proofs.YtghpofnaojbbkaaGreat
open Go.RowKit
attribute [local go_sem] pureUpon Ords.of

set_option maxRecDepth 20000 in
set_option maxHeartbeats 4000000 in
theorem lnewM_any (P : LP) (he : P.err = 0) (d : Nat) (hd : P.digest = d) (sk ss sp sd : Sl) (w : World) (h : LIn w P sk ss sp sd) :
  Calls Tryz.prog 5 #[.int .i64 (kOf P.big), .int .i64 P.digest, .slice sk.A sk.n sk.c, .slice ss.A ss.n ss.c, .slice sp.A sp.n sp.c] w fun r w' => ∃ H g a b c A cap ps F, r = .returned (.tuple #[.pointer (some ⟨g, 0, none⟩), .int .i64 0]) ∧ w.heap.size ≤ H ∧ Hs w' H g P d a b c A cap 0 ps F P.eng0 ∧ (∀ x, a.A = some x ∨ b.A = some x ∨ c.A = some x → w.heap.size ≤ x.block ∧ x.block < H) ∧ Below w.heap.size w w' := by
 have hs := lset_any P sk ss sp sd w h
 rw [he] at hs
 have hr := fun (a b c : Sl) (g H : Nat) W h1 h2 h3 => reset_any P he d hd a b c g H none 0 0 0 W h1 h2 h3
 have HS := Lib.hid hs; have HR := Lib.hid hr; have HIN := Lib.hid h
 have hsu := Lib.hid Tryz.underlying50
 clear hs hr h he hd
 go_enter Tryz.func5, Tryz.ntmps5
 go_wp2_with fail
 refine HS.out.mono ?_
 rintro e1 w1 ⟨a, b, c, rfl, ha, hb, hc, hoa, hob, hoc, hb1⟩
 have HST := Lib.hid ((Blk.new w1 50 zset).row (setC (lnOf P.big) (blOf P.big) (bOf P.big) (kOf P.big) P.digest a b c))
 have hbu := brow (g := w1.heap.size) (bal (b0 w1) (.cells zset 50)) (Nat.le_refl _) (setC (lnOf P.big) (blOf P.big) (bOf P.big) (kOf P.big) P.digest a b c)
 have HOA := Lib.hid (hoa.below hbu (Nat.le_refl _)); have HOB := Lib.hid (hob.below hbu (Nat.le_refl _)); have HOC := Lib.hid (hoc.below hbu (Nat.le_refl _))
 have HB := Lib.hid (bcall hb1 hbu)
 have HHA := Lib.hid ha; have HHB := Lib.hid hb; have HHC := Lib.hid hc
 clear hoa hob hoc hb1 hbu ha hb hc
 go_upto_region 2 with (refine wpList_store_row rfl 50 _ _ rfl w1.heap.size (setC (lnOf P.big) (blOf P.big) (bOf P.big) (kOf P.big) P.digest a b c) rfl rfl 50 zset (Blk.new _ _ _) (setC_size _ _ _ _ _ _ _ _) rfl (setC_ones _ _ _ _ _ _ _ _) ?_)
 have hz : zset = #[.int .i64 0, .int .i64 0, .int .i64 0, .int .i64 0, .int .i64 0, .slice none 0 0, .slice none 0 0, .slice none 0 0] := rfl
 rw [← hz]
 clear hz
 obtain ⟨gS, hgS⟩ : ∃ g, g = w1.heap.size := ⟨_, rfl⟩
 rw [← hgS] at HST HB HOA HOB HOC ⊢
 clear hgS
 generalize (w1.alloc (.cells zset 50)).setRow gS (setC (lnOf P.big) (blOf P.big) (bOf P.big) (kOf P.big) P.digest a b c) = u at *
 clear w1
 go_upto_region 5 with (refine wpList_load_row rfl 50 _ rfl gS rfl 50 (#[Value.int .i64 (lnOf P.big : Nat), .int .i64 (blOf P.big : Nat), .int .i64 (bOf P.big : Nat), .int .i64 (kOf P.big), .int .i64 P.digest, .slice a.A a.n a.c, .slice b.A b.n b.c, .slice c.A c.n c.c]) (0, 0) _ HST.out hsu.out rfl (setC_size _ _ _ _ _ _ _ _) ?_)
 have HG := Lib.hid (Blk.new u 55 (hasC P a b c none 0 0 0))
 have hba := bal (b0 u) (.cells (hasC P a b c none 0 0 0) 55)
 have HWH := Lib.hid HB.out.size
 have HSL : Hid (SetLow (u.alloc (.cells (hasC P a b c none 0 0 0) 55)) u.heap.size P a b c) :=
  ⟨by rw [HHA.out]; exact HIN.out.hk, by rw [HHB.out]; exact HIN.out.hs, by rw [HHC.out]; exact HIN.out.hp, HOA.out.reads.alloc (Nat.le_refl _) _, HOB.out.reads.alloc (Nat.le_refl _) _, HOC.out.reads.alloc (Nat.le_refl _) _⟩
 have HB2 := Lib.hid (bcall HB.out hba)
 have HLW : Hid (∀ x, a.A = some x ∨ b.A = some x ∨ c.A = some x → w.heap.size ≤ x.block ∧ x.block < u.heap.size) := Lib.hid (fun x hx => by
  rcases hx with hx | hx | hx
  ·exact HOA.out.block_lt x hx
  ·exact HOB.out.block_lt x hx
  ·exact HOC.out.block_lt x hx)
 rw [show #[Value.int .i64 (lnOf P.big : Nat), .int .i64 (blOf P.big : Nat), .int .i64 (bOf P.big : Nat), .int .i64 (kOf P.big), .int .i64 P.digest, .slice a.A a.n a.c, .slice b.A b.n b.c, .slice c.A c.n c.c, .slice none 0 0, .int .u64 0] = hasC P a b c none 0 0 0 from rfl]
 obtain ⟨g, hg⟩ : ∃ g, g = u.heap.size := ⟨_, rfl⟩
 rw [← hg] at HG HSL HWH HLW ⊢
 clear hg hba HB HST HOA HOB HOC
 generalize u.alloc (.cells (hasC P a b c none 0 0 0) 55) = u2 at *
 go_wp2_with (go_at_call 13; refine (HR.out a b c g g _ HG.out (Nat.le_refl _) HSL.out).mono ?_; rintro e3 u3 ⟨A, cap, ps, F, rfl, hb3, hn3, hf3, ha3, hw3⟩)
 exact bodyPost_ret (results_tmp2 rfl _ _ _) rfl ⟨g, g, a, b, c, A, cap, ps, F, rfl, HWH.out, ⟨hb3, hn3, hf3, ha3, Nat.le_refl _, HSL.out.below hw3⟩, HLW.out, HB2.out.trans (hw3.mono HWH.out)⟩
def dOf (A a b c : Option Addr) (n : Nat) (R : Nat → List Nat) : List Nat := obl A ++ (obl a ++ (obl b ++ (obl c ++ (List.range n).flatMap R)))
theorem mem_dOf {A a b c : Option Addr} {n k : Nat} {R : Nat → List Nat} : k ∈ dOf A a b c n R ↔ (∃ x, A = some x ∧ x.block = k) ∨ (∃ x, (a = some x ∨ b = some x ∨ c = some x) ∧ x.block = k) ∨ ∃ i, i < n ∧ k ∈ R i := by
 simp only [dOf, List.mem_append, mem_obl, List.mem_flatMap, List.mem_range]
 constructor
 ·rintro (h | ⟨x, h, h2⟩ | ⟨x, h, h2⟩ | ⟨x, h, h2⟩ | h)
  ·exact .inl h
  ·exact .inr (.inl ⟨x, .inl h, h2⟩)
  ·exact .inr (.inl ⟨x, .inr (.inl h), h2⟩)
  ·exact .inr (.inl ⟨x, .inr (.inr h), h2⟩)
  ·exact .inr (.inr h)
 ·rintro (h | ⟨x, h | h | h, h2⟩ | h)
  ·exact .inl h
  ·exact .inr (.inl ⟨x, h, h2⟩)
  ·exact .inr (.inr (.inl ⟨x, h, h2⟩))
  ·exact .inr (.inr (.inr (.inl ⟨x, h, h2⟩)))
  ·exact .inr (.inr (.inr (.inr h)))
def HX (w : World) (P : LP) (d g : Nat) (M : List UInt8) (D Wr : List Nat) : Prop :=
  ∃ (H : Nat) (a b c : Sl) (A : Option Addr) (cap : Nat) (ps : List Nat) (R F : Nat → List Nat), Hm w H g P d a b c A cap (M.length % 18446744073709551616) ps R F (P.engs M) ∧ (∀ x, a.A = some x ∨ b.A = some x ∨ c.A = some x → x.block < H) ∧ D = dOf A a.A b.A c.A (lnOf P.big) R ∧ Wr = hsB g (lnOf P.big) F
def digOf (P : LP) (d : Nat) (M : List UInt8) : List UInt8 := (((P.eng0 (lnOf P.big)).feed (catTo (P.outOf (P.engs M)) (lnOf P.big))).out true).take d
section
variable {w w' : World} {P : LP} {d g : Nat} {M : List UInt8} {D Wr G : List Nat}
theorem HX.ltW (h : HX w P d g M D Wr) : ∀ k, k ∈ Wr → k < w.heap.size := by
 obtain ⟨H, a, b, c, A, cap, ps, R, F, hm, -, -, rfl⟩ := h
 intro k hk
 rcases mem_hsB.1 hk with rfl | ⟨i, hi, hk⟩
 ·exact hm.blk.lt
 ·obtain ⟨p, r, -, hn⟩ := hm.nds.node i hi
  exact hn.lt k hk
theorem HX.ltD (h : HX w P d g M D Wr) : ∀ k, k ∈ D → k < w.heap.size := by
 obtain ⟨H, a, b, c, A, cap, ps, R, F, hm, hl, rfl, -⟩ := h
 intro k hk
 rcases mem_dOf.1 hk with ⟨x, hx, rfl⟩ | ⟨x, hx, rfl⟩ | ⟨i, hi, hk⟩
 ·exact (hm.nds.row.block_lt x hx).2
 ·exact Nat.lt_trans (hl x hx) (Nat.lt_of_le_of_lt hm.low hm.blk.lt)
 ·obtain ⟨p, r, -, hn⟩ := hm.nds.node i hi
  exact hn.ltR k hk
theorem HX.here (h : HX w P d g M D Wr) : g ∈ Wr := by
 obtain ⟨H, a, b, c, A, cap, ps, R, F, hm, -, -, rfl⟩ := h
 exact mem_hsB.2 (.inl rfl)
theorem HX.apart (h : HX w P d g M D Wr) : ∀ k, k ∈ D → k ∉ Wr := by
 obtain ⟨H, a, b, c, A, cap, ps, R, F, hm, hl, rfl, rfl⟩ := h
 intro k hk hw
 rcases mem_dOf.1 hk with ⟨x, hx, rfl⟩ | ⟨x, hx, rfl⟩ | ⟨i, hi, hk⟩
 ·rcases mem_hsB.1 hw with e | ⟨j, hj, hw⟩
  ·exact hm.ah x hx e
  ·exact (hm.nds.fa j hj x hx).1 hw
 ·have h1 := hl x hx
  rcases mem_hsB.1 hw with e | ⟨j, hj, hw⟩
  ·have := hm.low; omega
  ·have := hm.nds.low j hj _ (.inl hw); omega
 ·rcases mem_hsB.1 hw with rfl | ⟨j, hj, hw⟩
  ·exact (hm.fh i hi).2 hk
  ·exact hm.nds.rf i j hi hj k hk hw
theorem SetLow.but {H : Nat} {a b c : Sl} (h : SetLow w H P a b c) (hH : H ≤ w.heap.size) (hb : But G w w') (hG : ∀ x, a.A = some x ∨ b.A = some x ∨ c.A = some x → x.block ∉ G) : SetLow w' H P a b c :=
 ⟨h.hk, h.hs, h.hp, h.rk.but hH hb (fun x hx => hG x (.inl hx)), h.rs.but hH hb (fun x hx => hG x (.inr (.inl hx))), h.rp.but hH hb (fun x hx => hG x (.inr (.inr hx)))⟩
theorem HX.but (h : HX w P d g M D Wr) (hb : But G w w') (hD : ∀ k, k ∈ D → k ∉ G) (hW : ∀ k, k ∈ Wr → k ∉ G) : HX w' P d g M D Wr := by
 obtain ⟨H, a, b, c, A, cap, ps, R, F, hm, hl, rfl, rfl⟩ := h
 refine ⟨H, a, b, c, A, cap, ps, R, F, ⟨hm.blk.but hb (hW g (mem_hsB.2 (.inl rfl))), hm.nds.but hb (fun i hi k hk => ?_) (fun x hx => hD _ (mem_dOf.2 (.inl ⟨x, hx, rfl⟩))), hm.fh, hm.ah, hm.low, hm.set_.but (Nat.le_trans hm.low (Nat.le_of_lt hm.blk.lt)) hb (fun x hx => hD _ (mem_dOf.2 (.inr (.inl ⟨x, hx, rfl⟩))))⟩, hl, rfl, rfl⟩
 rcases hk with hk | hk
 ·exact hW k (mem_hsB.2 (.inr ⟨i, hi, hk⟩))
 ·exact hD k (mem_dOf.2 (.inr (.inr ⟨i, hi, hk⟩)))
theorem HX.below (h : HX w P d g M D Wr) (hb : Below w.heap.size w w') : HX w' P d g M D Wr := h.but (But.of hb []) (fun _ _ h => by cases h) (fun _ _ h => by cases h)
theorem HX.drewN (h : HX w P d g M D Wr) (n : Nat) : HX (w.drewN n) P d g M D Wr := h.below (bdr (b0 w) n)
end
theorem newX_any (P : LP) (he : P.err = 0) (d : Nat) (hd : P.digest = d) (sk ss sp sd : Sl) (w : World) (h : LIn w P sk ss sp sd) :
  Calls Tryz.prog 5 #[.int .i64 (kOf P.big), .int .i64 P.digest, .slice sk.A sk.n sk.c, .slice ss.A ss.n ss.c, .slice sp.A sp.n sp.c] w fun r w' => ∃ g D Wr, r = .returned (.tuple #[.pointer (some ⟨g, 0, none⟩), .int .i64 0]) ∧ HX w' P d g [] D Wr ∧ (∀ k, k ∈ D → w.heap.size ≤ k) ∧ (∀ k, k ∈ Wr → w.heap.size ≤ k) ∧ Below w.heap.size w w' := by
 refine (lnewM_any P he d hd sk ss sp sd w h).mono ?_
 rintro r w' ⟨H, g, a, b, c, A, cap, ps, F0, rfl, hH, hs, hl, hb⟩
 obtain ⟨R, F, hm, hF⟩ := hs.hm
 refine ⟨g, _, _, rfl, ⟨H, a, b, c, A, cap, ps, R, F, by rw [P.engs_nil]; exact hm, fun x hx => (hl x hx).2, rfl, rfl⟩, fun k hk => ?_, fun k hk => ?_, hb⟩
 ·rcases mem_dOf.1 hk with ⟨x, hx, rfl⟩ | ⟨x, hx, rfl⟩ | ⟨i, hi, hk⟩
  ·exact Nat.le_trans hH (hm.nds.row.block_lt x hx).1
  ·exact (hl x hx).1
  ·exact Nat.le_trans hH (hm.nds.low i hi k (.inr hk))
 ·rcases mem_hsB.1 hk with rfl | ⟨i, hi, hk⟩
  ·exact Nat.le_trans hH hm.low
  ·exact Nat.le_trans hH (hm.nds.low i hi k (.inl hk))
theorem writeX_any (P : LP) (d g : Nat) (M L : List UInt8) (D Wr : List Nat) (Ab : Option Addr) (nb cb : Nat) (w : World) (hh : HX w P d g M D Wr) (hL : L.length = nb) (hnb : nb ≤ cb) (hcb : cb ≤ 9223372036854775807) (hr : RS cB w w.heap.size Ab L) (hfar : L ≠ [] → ∀ x, Ab = some x → x.block ∉ Wr) :
  Calls Tryz.prog 9 #[.pointer (some ⟨g, 0, none⟩), .slice Ab nb cb] w fun r w' => r = .returned (.int .i64 0) ∧ ∃ Wr', HX w' P d g (M ++ L) D Wr' ∧ (∀ k, k ∈ Wr' → k ∈ Wr ∨ w.heap.size ≤ k) ∧ But Wr w w' := by
 obtain ⟨H, a, b, c, A, cap, ps, R, F, hm, hl, rfl, rfl⟩ := hh
 refine (lwriteM_any P d a b c H g A cap ps R F M L Ab nb cb w hm hL hnb hcb hr hfar).mono ?_
 rintro r w' ⟨rfl, F', hm', hF, hb⟩
 refine ⟨rfl, _, ⟨H, a, b, c, A, cap, ps, R, F', hm', hl, rfl, rfl⟩, fun k hk => ?_, hb⟩
 rcases mem_hsB.1 hk with rfl | ⟨i, hi, hk⟩
 ·exact .inl (mem_hsB.2 (.inl rfl))
 ·rcases hF i hi k hk with h1 | h1
  ·exact .inl (mem_hsB.2 (.inr ⟨i, hi, h1⟩))
  ·exact .inr h1
theorem sumX_any (P : LP) (he : P.err = 0) (d : Nat) (hd : P.digest = d) (g : Nat) (M : List UInt8) (D Wr : List Nat) (w : World) (hh : HX w P d g M D Wr) :
  Calls Tryz.prog 11 #[.pointer (some ⟨g, 0, none⟩)] w fun r w' => ∃ A' c', r = .returned (.slice A' d d) ∧ OS cB w' w.heap.size A' c' (digOf P d M) ∧ Below w.heap.size w w' := by
 obtain ⟨H, a, b, c, A, cap, ps, R, F, hm, -, rfl, rfl⟩ := hh
 obtain ⟨F', hs⟩ := hm.hs
 exact lsum_any P he d hd a b c H g A cap _ ps F' (P.engs M) w hs (fun i _ => P.engs_full M i)
theorem resetX_any (P : LP) (he : P.err = 0) (d : Nat) (hd : P.digest = d) (g : Nat) (M : List UInt8) (D Wr : List Nat) (w : World) (hh : HX w P d g M D Wr) :
  Calls Tryz.prog 13 #[.pointer (some ⟨g, 0, none⟩)] w fun r w' => r = .returned (.int .i64 0) ∧ ∃ D' Wr', HX w' P d g [] D' Wr' ∧ (∀ k, k ∈ D' → k ∈ D ∨ w.heap.size ≤ k) ∧ (∀ k, k ∈ Wr' → k ∈ Wr ∨ w.heap.size ≤ k) ∧ But Wr w w' := by
 obtain ⟨H, a, b, c, A, cap, ps, R, F, hm, hl, rfl, rfl⟩ := hh
 refine (resetM_any P he d hd a b c g H A _ cap _ w hm.blk hm.low hm.set_).mono ?_
 rintro r w' ⟨A', cap', ps', F0, rfl, hb', hn, hf, ha, hb⟩
 have hH : H ≤ w.heap.size := Nat.le_trans hm.low (Nat.le_of_lt hm.blk.lt)
 obtain ⟨R', F', hs, hF⟩ := hn.split
 refine ⟨rfl, _, _, ⟨H, a, b, c, A', cap', ps', R', F', ⟨hb', by rw [P.engs_nil]; exact hs.mono hH, fun i hi => ⟨fun h => hf i hi ((hF i hi g).2 (.inl h)), fun h => hf i hi ((hF i hi g).2 (.inr h))⟩, ha, hm.low, hm.set_.below (hb.toBelow hH (fun k hk => by rw [List.mem_singleton] at hk; rw [hk]; exact hm.low))⟩, hl, rfl, rfl⟩, fun k hk => ?_, fun k hk => ?_, hb.more (fun k hk => by rw [List.mem_singleton] at hk; rw [hk]; exact .inl (mem_hsB.2 (.inl rfl)))⟩
 ·rcases mem_dOf.1 hk with ⟨x, hx, rfl⟩ | ⟨x, hx, rfl⟩ | ⟨i, hi, hk⟩
  ·exact .inr (hs.row.block_lt x hx).1
  ·exact .inl (mem_dOf.2 (.inr (.inl ⟨x, hx, rfl⟩)))
  ·exact .inr (hs.low i hi k (.inr hk))
 ·rcases mem_hsB.1 hk with rfl | ⟨i, hi, hk⟩
  ·exact .inl (mem_hsB.2 (.inl rfl))
  ·exact .inr (hs.low i hi k (.inl hk))
theorem forkX_any (P : LP) (d g : Nat) (M : List UInt8) (D Wr : List Nat) (w : World) (hh : HX w P d g M D Wr) :
  Calls Tryz.prog 16 #[.pointer (some ⟨g, 0, none⟩)] w fun r w' => ∃ q D' Wr', r = .returned (.pointer (some ⟨q, 0, none⟩)) ∧ HX w' P d q M D' Wr' ∧ (∀ k, k ∈ D' → k ∈ D ∨ w.heap.size ≤ k) ∧ (∀ k, k ∈ Wr' → w.heap.size ≤ k) ∧ Below w.heap.size w w' := by
 obtain ⟨H, a, b, c, A, cap, ps, R, F, hm, hl, rfl, rfl⟩ := hh
 refine (fork_any P d a b c H g A cap _ ps R F _ w hm).mono ?_
 rintro r w' ⟨q, A', cap', qs, F', rfl, hm', hq, hF, hA, hb⟩
 refine ⟨q, _, _, rfl, ⟨H, a, b, c, A', cap', qs, R, F', hm', hl, rfl, rfl⟩, fun k hk => ?_, fun k hk => ?_, hb⟩
 ·rcases mem_dOf.1 hk with ⟨x, hx, rfl⟩ | h | h
  ·exact .inr (hA x hx)
  ·exact .inl (mem_dOf.2 (.inr (.inl h)))
  ·exact .inl (mem_dOf.2 (.inr (.inr h)))
 ·rcases mem_hsB.1 hk with rfl | ⟨i, hi, hk⟩
  ·exact hq
  ·exact hF i hi k hk
theorem takenX_any (P : LP) (d g : Nat) (M : List UInt8) (D Wr : List Nat) (w : World) (hh : HX w P d g M D Wr) :
  Calls Tryz.prog 14 #[.pointer (some ⟨g, 0, none⟩)] w fun r w' => r = .returned (.tuple #[.int .u64 (M.length % 18446744073709551616 : Nat), .int .i64 (M.length % 18446744073709551616 / blOf P.big % lnOf P.big : Nat)]) ∧ Below w.heap.size w w' := by
 obtain ⟨H, a, b, c, A, cap, ps, R, F, hm, -, rfl, rfl⟩ := hh
 exact taken_any P a b c A cap _ (Nat.mod_lt _ (by decide)) g w hm.blk
end Go.Proofs.YtghpofnaojbbkaaGreat

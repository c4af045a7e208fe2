/-
  A hasher of lanes that may be forked: Write. Contracts alone; no statement is claimed here.
-/
import Derived.Test.YtghpofnaojbbkaaGreatMHas
namespace Go.Proofs.YtghpofnaojbbkaaGreat
open Go.RowKit
attribute [local go_sem] pureUpon Ords.of

structure WIm (w wr : World) (H h : Nat) (P : LP) (d : Nat) (a b c : Sl) (A : Option Addr) (cap : Nat) (ps : List Nat) (R F0 F : Nat → List Nat) (t : Nat) (e : Nat → Eng) (L : List UInt8) (k : Nat) (Ab Ar : Option Addr) (cb cr : Nat) : Prop where
  hs : Hm wr H h P d a b c A cap t ps R F e
  le : k ≤ L.length
  fit : L.length - k ≤ cr
  cr_ : cr ≤ cb
  rs : RS cB wr w.heap.size Ar (L.drop k)
  bl : Ar.map (·.block) = Ab.map (·.block)
  fin : ∀ i, i < lnOf P.big → ∀ x, x ∈ F i → x ∈ F0 i ∨ w.heap.size ≤ x
  but : But (hsB h (lnOf P.big) F0) w wr
section
variable {w wr w' : World} {H h : Nat} {P : LP} {d : Nat} {a b c : Sl} {A : Option Addr} {cap : Nat} {ps : List Nat} {R F0 F : Nat → List Nat} {t : Nat} {e : Nat → Eng} {L : List UInt8} {k : Nat} {Ab Ar : Option Addr} {cb cr : Nat}
theorem WIm.below (hh : WIm w wr H h P d a b c A cap ps R F0 F t e L k Ab Ar cb cr) (hb : Below wr.heap.size wr w') : WIm w w' H h P d a b c A cap ps R F0 F t e L k Ab Ar cb cr :=
 ⟨hh.hs.below hb (Nat.le_trans hh.hs.low (Nat.le_of_lt hh.hs.blk.lt)), hh.le, hh.fit, hh.cr_, hh.rs.below (hb.mono hh.but.size), hh.bl, hh.fin, hh.but.below hb⟩
theorem WIm.drewN (hh : WIm w wr H h P d a b c A cap ps R F0 F t e L k Ab Ar cb cr) (n : Nat) : WIm w (wr.drewN n) H h P d a b c A cap ps R F0 F t e L k Ab Ar cb cr := hh.below (bdr (b0 wr) n)
theorem WIm.at_ (hh : WIm w wr H h P d a b c A cap ps R F0 F t e L k Ab Ar cb cr) (hf : L ≠ [] → ∀ x, Ab = some x → x.block ∉ hsB h (lnOf P.big) F0) (hlt : L.drop k ≠ []) : ∀ x, Ar = some x → x.block ≠ h ∧ ∀ i, i < lnOf P.big → x.block ∉ F i := by
 intro x hx
 have hb : ∃ y, Ab = some y ∧ x.block = y.block := by
  have h1 := hh.bl
  rw [hx] at h1
  cases hA : Ab with
  | none => rw [hA] at h1; cases h1
  | some y => rw [hA] at h1; exact ⟨y, rfl, Option.some.inj h1⟩
 obtain ⟨y, hy, e1⟩ := hb
 have h2 := hf (fun e => hlt (by rw [e]; exact List.drop_nil)) y hy
 have h3 := hh.rs.low hlt x hx
 rw [← e1] at h2
 refine ⟨fun e => h2 (mem_hsB.2 (.inl e)), fun i hi hm => ?_⟩
 rcases hh.fin i hi _ hm with h4 | h4
 ·exact h2 (mem_hsB.2 (.inr ⟨i, hi, h4⟩))
 ·omega
theorem WIm.wrote (hh : WIm w wr H h P d a b c A cap ps R F0 F t e L k Ab Ar cb cr) (hf : L ≠ [] → ∀ x, Ab = some x → x.block ∉ hsB h (lnOf P.big) F0) (hlt : L.drop k ≠ []) {i p : Nat} {r : UInt64} {G : List Nat} {e' : Eng} (hi : i < lnOf P.big) (hp : ps[i]? = some p)
  (hN : NdS w' p P.big d (P.blk i) (P.nkey i) (P.nlast i) r e' (R i) G) (hG : ∀ x, x ∈ G → x ∈ F i ∨ wr.heap.size ≤ x) (hb : But (F i) wr w') :
  WIm w w' H h P d a b c A cap ps R F0 (fun j => if j = i then G else F j) t (fun j => if j = i then e' else e j) L k Ab Ar cb cr := by
 have hnd := hh.hs.nds
 have hH : H ≤ wr.heap.size := Nat.le_trans hh.hs.low (Nat.le_of_lt hh.hs.blk.lt)
 have sub : ∀ x, x ∈ F i → x ∈ hsB h (lnOf P.big) F0 ∨ w.heap.size ≤ x := fun x hx => by
  rcases hh.fin i hi x hx with h1 | h1
  ·exact .inl (mem_hsB.2 (.inr ⟨i, hi, h1⟩))
  ·exact .inr h1
 have old : ∀ j, j < lnOf P.big → ∀ x, x ∈ F j → x < wr.heap.size := fun j hj x hx => by obtain ⟨q, s, -, h2⟩ := hnd.node j hj; exact h2.lt x hx
 have oldR : ∀ j, j < lnOf P.big → ∀ x, x ∈ R j → x < wr.heap.size := fun j hj x hx => by obtain ⟨q, s, -, h2⟩ := hnd.node j hj; exact h2.ltR x hx
 have nin : ∀ {x : Nat}, x < wr.heap.size → x ∉ F i → x ∉ G := fun h1 h2 h3 => by
  rcases hG _ h3 with h4 | h4
  ·exact h2 h4
  ·omega
 refine ⟨⟨hh.hs.blk.but hb (hh.hs.fh i hi).1, ⟨hnd.row.but hb (fun x hx => (hnd.fa i hi x hx).1), hnd.len, fun j hj => ?_, fun j hj x hx => ?_, fun j l hj hl hjl x hx hx2 => ?_, fun j l hj hl x hx hx2 => ?_, hnd.rr, fun j hj x hx => ⟨?_, (hnd.fa j hj x hx).2⟩⟩, fun j hj => ⟨?_, (hh.hs.fh j hj).2⟩, hh.hs.ah, hh.hs.low, hh.hs.set_.below (hb.toBelow hH (fun x hx => hnd.low i hi x (.inl hx)))⟩, hh.le, hh.fit, hh.cr_, ?_, hh.bl, fun j hj x hx => ?_, ?_⟩
 ·show ∃ q s, _ ∧ NdS _ _ _ _ _ _ _ _ (if j = i then e' else e j) _ (if j = i then G else F j)
  by_cases e1 : j = i
  ·subst e1; rw [if_pos rfl, if_pos rfl]; exact ⟨p, r, hp, hN⟩
  ·rw [if_neg e1, if_neg e1]
   obtain ⟨q, s, h1, h2⟩ := hnd.node j hj
   exact ⟨q, s, h1, h2.but hb (fun x hx => hnd.rf j i hj hi x hx) (fun x hx => hnd.far j i hj hi e1 x hx)⟩
 ·change x ∈ (if j = i then G else F j) ∨ _ at hx
  by_cases e1 : j = i
  ·rw [if_pos e1] at hx
   rcases hx with hx | hx
   ·rcases hG x hx with h1 | h1
    ·exact hnd.low i hi x (.inl h1)
    ·omega
   ·exact hnd.low j hj x (.inr hx)
  ·rw [if_neg e1] at hx; exact hnd.low j hj x hx
 ·change x ∈ (if j = i then G else F j) at hx
  change x ∈ (if l = i then G else F l) at hx2
  by_cases e1 : j = i
  ·rw [if_pos e1] at hx
   rw [if_neg (by omega)] at hx2
   exact nin (old l hl x hx2) (hnd.far l i hl hi (by omega) x hx2) hx
  ·rw [if_neg e1] at hx
   by_cases e2 : l = i
   ·rw [if_pos e2] at hx2
    exact nin (old j hj x hx) (hnd.far j i hj hi e1 x hx) hx2
   ·rw [if_neg e2] at hx2
    exact hnd.far j l hj hl hjl x hx hx2
 ·change x ∈ (if l = i then G else F l) at hx2
  by_cases e2 : l = i
  ·rw [if_pos e2] at hx2
   exact nin (oldR j hj x hx) (hnd.rf j i hj hi x hx) hx2
  ·rw [if_neg e2] at hx2
   exact hnd.rf j l hj hl x hx hx2
 ·show x.block ∉ (if j = i then G else F j)
  by_cases e1 : j = i
  ·rw [if_pos e1]; exact nin (hnd.row.block_lt x hx).2 (hnd.fa i hi x hx).1
  ·rw [if_neg e1]; exact (hnd.fa j hj x hx).1
 ·show h ∉ (if j = i then G else F j)
  by_cases e1 : j = i
  ·rw [if_pos e1]; exact nin hh.hs.blk.lt (hh.hs.fh i hi).1
  ·rw [if_neg e1]; exact (hh.hs.fh j hj).1
 ·exact hh.rs.but hh.but.size hb (fun x hx => (hh.at_ hf hlt x hx).2 i hi)
 ·change x ∈ (if j = i then G else F j) at hx
  by_cases e1 : j = i
  ·rw [if_pos e1] at hx
   subst e1
   rcases hG x hx with h1 | h1
   ·exact hh.fin j hj x h1
   ·exact .inr (Nat.le_trans hh.but.size h1)
  ·rw [if_neg e1] at hx; exact hh.fin j hj x hx
 ·exact hh.but.trans hb sub
theorem WIm.took (hh : WIm w wr H h P d a b c A cap ps R F0 F t e L k Ab Ar cb cr) (hf : L ≠ [] → ∀ x, Ab = some x → x.block ∉ hsB h (lnOf P.big) F0) (hlt : L.drop k ≠ []) (t' : Nat) : WIm w (wr.setCell ⟨h, 9, none⟩ (.int .u64 t')) H h P d a b c A cap ps R F0 F t' e L k Ab Ar cb cr :=
 ⟨⟨hh.hs.blk.set_ 9 (.int .u64 t'), hh.hs.nds.but ((But.refl [h] wr).setCell (p := ⟨h, 9, none⟩) (.inl (by simp)) _) (fun i hi k hk hm => by
   rw [List.mem_singleton] at hm
   subst hm
   rcases hk with hk | hk
   ·exact (hh.hs.fh i hi).1 hk
   ·exact (hh.hs.fh i hi).2 hk) (fun x hx hm => hh.hs.ah x hx (by rw [List.mem_singleton] at hm; exact hm)), hh.hs.fh, hh.hs.ah, hh.hs.low, hh.hs.set_.below ((Below.refl H wr).setCell (p := ⟨h, 9, none⟩) hh.hs.low _)⟩, hh.le, hh.fit, hh.cr_,
  hh.rs.but hh.but.size ((But.refl [h] wr).setCell (p := ⟨h, 9, none⟩) (.inl (by simp)) _) (fun x hx => by simp; exact (hh.at_ hf hlt x hx).1), hh.bl, hh.fin, hh.but.setCell (p := ⟨h, 9, none⟩) (.inl (mem_hsB.2 (.inl rfl))) _⟩
theorem WIm.cut (hh : WIm w wr H h P d a b c A cap ps R F0 F t e L k Ab Ar cb cr) {m : Nat} (hm : m ≤ L.length - k) : WIm w wr H h P d a b c A cap ps R F0 F t e L (k + m) Ab (if cr = m then Ar else Ar.map (·.add m)) cb (cr - m) := by
 have hl := hh.le
 have hf := hh.fit
 have hc := hh.cr_
 refine ⟨hh.hs, by omega, by omega, by omega, ?_, ?_, hh.fin, hh.but⟩
 ·have h1 := hh.rs.cut (k := m) (cap := cr) (by rw [List.length_drop]; exact hm) (by rw [List.length_drop]; exact hf)
  rw [List.drop_drop] at h1
  exact h1
 ·rw [← hh.bl]
  split
  ·rfl
  ·cases Ar with
   | none => rfl
   | some x => show some (x.add m).block = some x.block; rw [block_of_add]
end
set_option maxRecDepth 20000 in
set_option maxHeartbeats 4000000 in
theorem lwriteM_any (P : LP) (d : Nat) (a b c : Sl) (H gh : Nat) (A : Option Addr) (cap : Nat) (ps : List Nat) (R F0 : Nat → List Nat) (M L : List UInt8) (Ab : Option Addr) (nb cb : Nat) (w : World) (hh : Hm w H gh P d a b c A cap (M.length % 18446744073709551616) ps R (F0) (P.engs M))
  (hL : L.length = nb) (hnb : nb ≤ cb) (hcb : cb ≤ 9223372036854775807) (hr : RS cB w w.heap.size Ab L) (hfar : L ≠ [] → ∀ x, Ab = some x → x.block ∉ hsB gh (lnOf P.big) F0) :
  Calls Tryz.prog 9 #[.pointer (some ⟨gh, 0, none⟩), .slice Ab nb cb] w fun r w' => r = .returned (.int .i64 0) ∧ ∃ F, Hm w' H gh P d a b c A cap ((M ++ L).length % 18446744073709551616) ps R F (P.engs (M ++ L)) ∧ (∀ i, i < lnOf P.big → ∀ x, x ∈ F i → x ∈ F0 i ∨ w.heap.size ≤ x) ∧ But (hsB gh (lnOf P.big) F0) w w' := by
 have hno := lnoneH_any P a b c A (lnOf P.big) cap (M.length % 18446744073709551616) gh w hh.blk
 have hall := fun W => all8_any P.big (bOf P.big) W
 have h8 := lnOf_pos P.big
 have H0 : Hid (WIm w w H gh P d a b c A cap ps R F0 F0 ((M ++ L.take 0).length % 18446744073709551616) (P.engs (M ++ L.take 0)) L 0 Ab Ab cb cb) := by
  have e : M ++ L.take 0 = M := by rw [List.take_zero, List.append_nil]
  rw [e]
  exact ⟨hh, Nat.zero_le _, by rw [hL]; exact hnb, Nat.le_refl _, hr, rfl, fun i _ x hx => .inl hx, But.refl _ w⟩
 have HNO := Lib.hid hno; have HALL := Lib.hid hall; have HL := Lib.hid hL; have HFAR := Lib.hid hfar; have H8 := Lib.hid h8
 clear hno hall hh hr hfar h8 hL
 have hsu := Lib.hid Tryz.underlying48
 go_enter Tryz.func9, Tryz.ntmps9
 go_upto_region 3 with (go_at_call 20; refine HNO.out.mono ?_; rintro e1 w1 ⟨rfl, rfl⟩)
 go_loopw [1, 5, 6] (fun v i1 i2 wr => ∃ (k r cr : Nat) (Ar : Option Addr) (F : Nat → List Nat), k + r = nb ∧ v = .slice Ar r cr ∧ WIm w wr H gh P d a b c A cap ps R F0 F ((M ++ L.take k).length % 18446744073709551616) (P.engs (M ++ L.take k)) L k Ab Ar cb cr) (fun v _ _ _ => lnV v)
 case atStart => exact ⟨0, nb, cb, Ab, F0, by omega, rfl, H0.out⟩
 case round =>
  clear H0
  obtain ⟨k, r, cr, Ar, F, hkr, rfl, hw⟩ := hrel
  have HW := Lib.hid hw; have HKR := Lib.hid hkr
  clear hw
  by_cases hlt : 0 < r
  ·have hdr : L.drop k ≠ [] := fun e => by have h1 := congrArg List.length e; rw [List.length_drop, HL.out] at h1; simp at h1; omega
   obtain ⟨x, hx⟩ : ∃ x, x = (M ++ L.take k).length := ⟨_, rfl⟩
   have HX := Lib.hid hx
   rw [← hx] at HW
   obtain ⟨q, p, i, at_, ⟨n1, n2, n3⟩, ⟨n4, n5, n6, n7, n8⟩, ⟨m1, m2, m3, m4, m5, m6⟩, m7, m8⟩ := wnums P.big x
   obtain ⟨t, ht⟩ : ∃ t, t = x % 18446744073709551616 := ⟨_, rfl⟩
   rw [← ht] at n1 n2 m8 HW
   have HT := Lib.hid ht; have HM5 := Lib.hid m5; have HM6 := Lib.hid m6; have HDR := Lib.hid hdr; have HLT := Lib.hid hlt
   have hcr : r ≤ cr := by have := HW.out.fit; have := HL.out; omega
   have hcr2 : cr ≤ 9223372036854775807 := by have := HW.out.cr_; omega
   clear ht m5 m6 hdr hx
   obtain ⟨n, hn⟩ : ∃ n, n = lnOf P.big := ⟨_, rfl⟩
   obtain ⟨blk, hbl⟩ : ∃ n, n = blOf P.big := ⟨_, rfl⟩
   have HN := Lib.hid hn; have HBL := Lib.hid hbl
   rw [← hbl] at n4 n5 n6 n7 n8 m1
   rw [← hn] at m4
   obtain ⟨u, hu⟩ : ∃ u, u = wr := ⟨_, rfl⟩
   rw [← hu] at HW ⊢
   obtain ⟨pp, wrt, hp1, hp2⟩ := HW.out.hs.nds.node i (by rw [← hn]; exact m4)
   obtain ⟨g1, p2, hA, hg1, hg2, hs, -, -⟩ := HW.out.hs.nds.row.at_ (k := i) (by rw [HW.out.hs.nds.len, ← hn]; exact m4)
   rw [hp1] at hs
   obtain rfl : pp = p2 := Option.some.inj hs
   subst hA
   have HP1 := Lib.hid hp1
   have hb8 : blk ≤ 128 := by rw [hbl]; exact (taken_facts P.big 0).2.2.2
   have h88 : n ≤ 8 := by rw [hn]; exact H8.out.2
   clear hn hbl hu hs hp1 hp2 hg1 hg2
   clear wr
   have u512 : IntKind.u64.wrap 512 = 512 := rfl
   go_upto_region 4 with fail
   have q9 : u.cell? ⟨gh, 9, none⟩ = some (.int .u64 t) := HW.out.hs.blk.cell 9
   refine wp_region_ords (fun w' => (w'.rangeAt gh 0 [Value.int .i64 (lnOf P.big : Nat), .int .i64 (blOf P.big : Nat), .int .i64 (bOf P.big : Nat)] ∧ w'.cell? ⟨gh, 9, none⟩ = some (.int .u64 t))) (fun _ n h => h) (Ords.of [(0, 0), (0, 1), (0, 2), (0, 3), (0, 4), (0, 5), (0, 6), (0, 7), (0, 8), (2, 9), (0, 10), (0, 11), (0, 12), (0, 13)] .fin) (by kernel_rfl) rfl (by kernel_rfl) (by kernel_rfl) (fun c a d v w h => by cases d <;> exact h) ⟨HW.out.hs.blk.range 0 3, HW.out.hs.blk.cell 9⟩ ?_
   iterate 3 (refine ords_pure rfl (fun K hK => ?_); go_simp; refine hK _ ?_; clear hK K)
   refine ords_heldK rfl (fun K K2 hK hK2 => ?_); go_simp; refine ⟨hK2 _ (fun w9 hS => ?_), hK _ ?_⟩; (clear hK hK2 K K2; have q9 : w9.cell? ⟨gh, 9, none⟩ = some (.int .u64 t) := hS.2; clear hS; go_simp); (clear hK hK2 K K2)
   iterate 4 (refine ords_pure rfl (fun K hK => ?_); go_simp; refine hK _ ?_; clear hK K)
   refine ords_held (v := Value.agg #[Value.int .i64 (lnOf P.big : Nat), .int .i64 (blOf P.big : Nat), .int .i64 (bOf P.big : Nat)]) rfl rfl (fun w9 hS => pure_load_mid 48 (.tmp 19) rfl gh 0 rfl _ _ hS.1 hsu.out rfl rfl) ?_; go_simp
   refine ords_loud rfl (fun n1 => ?_)
   clear q9
   replace HW := Lib.hid (HW.out.drewN n1); generalize u.drewN n1 = u at *
   go_wp2_with (go_at_call 21; refine (HALL.out u).mono ?_; rintro e3 u ⟨rfl, hb3⟩)
   replace HW := Lib.hid (HW.out.below hb3)
   clear hb3
   refine ⟨⟨HW.out.hs.blk.range 0 3, HW.out.hs.blk.cell 9⟩, ?_⟩
   go_simp
   iterate 4 (refine ords_pure rfl (fun K hK => ?_); go_simp; refine hK _ ?_; clear hK K)
   refine ords_end (fun n2 => ?_)
   replace HW := Lib.hid (HW.out.drewN n2); generalize u.drewN n2 = u at *
   have q1 : u.cell? ⟨gh, 1, none⟩ = some (.int .i64 blk) := by rw [HBL.out]; exact HW.out.hs.blk.cell 1
   have l1 := HW.out.hs.blk.lt
   have HI : Hid (i < lnOf P.big) := (by rw [← HN.out]; exact m4)
   have hin : (i : Int) < (n : Int) := by omega
   have hbz : ¬ blk = 0 := by omega
   have hwi : IntKind.i64.wrap (i : Int) = i := by clear n1 n2 n3 n4 n5 n6 n7 n8; simp [IntKind.wrap, IntKind.bits, IntKind.signed]; omega
   go_wp2_with fail
   go_quiet (fail)
   all_goals go_wp2_with fail
   ·have hrp := h
    clear h
    have hpr : r ≤ p := by omega
    have hrr : r ≤ r := Nat.le_refl _
    clear q1 l1
    replace HW := Lib.hid (HW.out.drewN nq); generalize u.drewN nq = u at *
    have q1 : u.cell? ⟨gh, 1, none⟩ = some (.int .i64 blk) := by rw [HBL.out]; exact HW.out.hs.blk.cell 1
    have l1 := HW.out.hs.blk.lt
    have HPR := Lib.hid hpr; have HRR := Lib.hid hrr
    have hll : ((L.drop k).take r).length = r := by rw [List.length_take, List.length_drop, HL.out]; omega
    have HLL := Lib.hid hll
    obtain ⟨t2, ht2⟩ : ∃ t2, t2 = (x + r) % 18446744073709551616 := ⟨_, rfl⟩
    have hwt := wtook x r (by omega)
    rw [← HT.out, ← ht2] at hwt
    obtain ⟨w1, w2⟩ := hwt
    have HT2 := Lib.hid ht2
    clear hll ht2 hpr hrr hrp
    have q8 : u.cell? ⟨gh, 8, none⟩ = some (.slice (some ⟨g1, 0, none⟩) n cap) := by rw [HN.out]; exact HW.out.hs.blk.cell 8
    have qi : u.cell? ⟨g1, i, none⟩ = some (.pointer (some ⟨pp, 0, none⟩)) := HW.out.hs.nds.row.ptr HP1.out
    refine wp_region_ords (fun w' => (Blk w' gh 55 (hasC P a b c (some ⟨g1, 0, none⟩) (lnOf P.big) cap t) ∧ w'.cell? ⟨g1, i, none⟩ = some (.pointer (some ⟨pp, 0, none⟩)))) (fun _ n h => ⟨h.1.drewN n, h.2⟩) (Ords.of [(0, 0), (0, 1), (0, 2), (0, 3), (0, 4), (0, 5), (0, 6), (0, 7), (0, 8), (0, 9), (0, 10), (0, 11), (0, 12), (0, 13), (0, 14), (0, 15), (0, 16), (2, 17)] .fin) (by kernel_rfl) rfl (by kernel_rfl) (by kernel_rfl) (fun c a d v w h => by cases d <;> exact h) ⟨HW.out.hs.blk, HW.out.hs.nds.row.ptr HP1.out⟩ ?_
    iterate 3 (refine ords_pure rfl (fun K hK => ?_); go_simp; refine hK _ ?_; clear hK K)
    refine ords_heldK rfl (fun K K2 hK hK2 => ?_); go_simp; refine ⟨hK2 _ (fun w9 hS => ?_), hK _ ?_⟩; (clear hK hK2 K K2; have q1 : w9.cell? ⟨gh, 1, none⟩ = some (.int .i64 blk) := (by rw [HBL.out]; exact hS.1.cell 1); have q8 : w9.cell? ⟨gh, 8, none⟩ = some (.slice (some ⟨g1, 0, none⟩) n cap) := (by rw [HN.out]; exact hS.1.cell 8); have qi : w9.cell? ⟨g1, i, none⟩ = some (.pointer (some ⟨pp, 0, none⟩)) := hS.2; clear hS; go_simp); (clear hK hK2 K K2)
    iterate 6 (refine ords_pure rfl (fun K hK => ?_); go_simp; refine hK _ ?_; clear hK K)
    iterate 2 (refine ords_heldK rfl (fun K K2 hK hK2 => ?_); go_simp; refine ⟨hK2 _ (fun w9 hS => ?_), hK _ ?_⟩; (clear hK hK2 K K2; have q1 : w9.cell? ⟨gh, 1, none⟩ = some (.int .i64 blk) := (by rw [HBL.out]; exact hS.1.cell 1); have q8 : w9.cell? ⟨gh, 8, none⟩ = some (.slice (some ⟨g1, 0, none⟩) n cap) := (by rw [HN.out]; exact hS.1.cell 8); have qi : w9.cell? ⟨g1, i, none⟩ = some (.pointer (some ⟨pp, 0, none⟩)) := hS.2; clear hS; go_simp); (clear hK hK2 K K2); refine ords_pure rfl (fun K hK => ?_); go_simp; refine hK _ ?_; clear hK K; refine ords_pure rfl (fun K hK => ?_); go_simp; refine hK _ ?_; clear hK K)
    refine ords_pure rfl (fun K hK => ?_); go_simp; refine hK _ ?_; clear hK K
    refine ords_loud rfl (fun n1 => ?_)
    clear q1 q8 qi l1
    replace HW := Lib.hid (HW.out.drewN n1); generalize u.drewN n1 = u at *
    obtain ⟨p2, r2, e2, hN2⟩ := HW.out.hs.nds.node i HI.out
    rw [HP1.out] at e2
    obtain rfl : pp = p2 := Option.some.inj e2
    have HWN := Lib.hid (writeS_any pp d P.big (P.nlast i) (P.blk i) (P.nkey i) r2 _ (R i) (F i) Ar r cr ((L.drop k).take r) u hN2 HLL.out (by omega) hcr2 ((HW.out.rs.take r).more HW.out.but.size) (fun _ x hx => (HW.out.at_ HFAR.out HDR.out x hx).2 i HI.out))
    clear hN2 e2
    go_wp2_with (go_at_call 22; refine HWN.out.mono ?_; rintro e5 u ⟨rfl, F5, hn5, hf5, hb5⟩)
    replace HW := Lib.hid (HW.out.wrote HFAR.out HDR.out HI.out HP1.out hn5 hf5 hb5)
    clear hn5 hf5 hb5 HWN
    refine ⟨⟨HW.out.hs.blk, HW.out.hs.nds.row.ptr HP1.out⟩, ?_⟩
    go_simp
    refine ords_end (fun n2 => ?_)
    replace HW := Lib.hid (HW.out.drewN n2); generalize u.drewN n2 = u at *
    have HX2 : Hid (M ++ L.take (k + r) = (M ++ L.take k) ++ (L.drop k).take r) := (by rw [List.append_assoc, List.take_add]; exact Lib.hid rfl)
    have hst := P.engs_step (M ++ L.take k) ((L.drop k).take r) i (by rw [← HX.out]; exact HM5.out) (fun y hy => by rw [← HX.out]; exact HM6.out y (by rw [HLL.out] at hy; have := HPR.out; omega))
    rw [← HX2.out] at hst
    rw [hst] at HW
    have q9 : u.cell? ⟨gh, 9, none⟩ = some (.int .u64 t) := HW.out.hs.blk.cell 9
    have f9 := HW.out.hs.blk.frozen 9
    have l9 := HW.out.hs.blk.lt
    clear hst
    go_upto_region 8 with fail
    replace HW := Lib.hid (HW.out.took HFAR.out HDR.out t2)
    replace HW := Lib.hid (HW.out.cut (m := r) (by rw [HL.out]; have := HRR.out; omega))
    have HTT : Hid ((M ++ L.take (k + r)).length % 18446744073709551616 = t2) := (by rw [HX2.out, List.length_append, HLL.out, ← HX.out]; exact Lib.hid HT2.out.symm)
    clear q9 f9 l9
    go_wp2_with fail
    exact ⟨⟨k + r, 0, cr - r, _, _, by have := HKR.out; have := HRR.out; omega, rfl, (by rw [HTT.out]; exact HW.out)⟩, by have := HLT.out; have := HRR.out; show 0 < r; omega⟩
   ·have hrp := h
    clear h
    have hpr : p ≤ p := Nat.le_refl _
    have hrr : p ≤ r := by omega
    have hpc : p ≤ cr := by omega
    clear q1 l1
    replace HW := Lib.hid (HW.out.drewN nq); generalize u.drewN nq = u at *
    have q1 : u.cell? ⟨gh, 1, none⟩ = some (.int .i64 blk) := by rw [HBL.out]; exact HW.out.hs.blk.cell 1
    have l1 := HW.out.hs.blk.lt
    have HPR := Lib.hid hpr; have HRR := Lib.hid hrr
    have hll : ((L.drop k).take p).length = p := by rw [List.length_take, List.length_drop, HL.out]; omega
    have HLL := Lib.hid hll
    obtain ⟨t2, ht2⟩ : ∃ t2, t2 = (x + p) % 18446744073709551616 := ⟨_, rfl⟩
    have hwt := wtook x p (by omega)
    rw [← HT.out, ← ht2] at hwt
    obtain ⟨w1, w2⟩ := hwt
    have HT2 := Lib.hid ht2
    clear hll ht2 hpr hrr hrp
    have q8 : u.cell? ⟨gh, 8, none⟩ = some (.slice (some ⟨g1, 0, none⟩) n cap) := by rw [HN.out]; exact HW.out.hs.blk.cell 8
    have qi : u.cell? ⟨g1, i, none⟩ = some (.pointer (some ⟨pp, 0, none⟩)) := HW.out.hs.nds.row.ptr HP1.out
    refine wp_region_ords (fun w' => (Blk w' gh 55 (hasC P a b c (some ⟨g1, 0, none⟩) (lnOf P.big) cap t) ∧ w'.cell? ⟨g1, i, none⟩ = some (.pointer (some ⟨pp, 0, none⟩)))) (fun _ n h => ⟨h.1.drewN n, h.2⟩) (Ords.of [(0, 0), (0, 1), (0, 2), (0, 3), (0, 4), (0, 5), (0, 6), (0, 7), (0, 8), (0, 9), (0, 10), (0, 11), (0, 12), (0, 13), (0, 14), (0, 15), (0, 16), (2, 17)] .fin) (by kernel_rfl) rfl (by kernel_rfl) (by kernel_rfl) (fun c a d v w h => by cases d <;> exact h) ⟨HW.out.hs.blk, HW.out.hs.nds.row.ptr HP1.out⟩ ?_
    iterate 3 (refine ords_pure rfl (fun K hK => ?_); go_simp; refine hK _ ?_; clear hK K)
    refine ords_heldK rfl (fun K K2 hK hK2 => ?_); go_simp; refine ⟨hK2 _ (fun w9 hS => ?_), hK _ ?_⟩; (clear hK hK2 K K2; have q1 : w9.cell? ⟨gh, 1, none⟩ = some (.int .i64 blk) := (by rw [HBL.out]; exact hS.1.cell 1); have q8 : w9.cell? ⟨gh, 8, none⟩ = some (.slice (some ⟨g1, 0, none⟩) n cap) := (by rw [HN.out]; exact hS.1.cell 8); have qi : w9.cell? ⟨g1, i, none⟩ = some (.pointer (some ⟨pp, 0, none⟩)) := hS.2; clear hS; go_simp); (clear hK hK2 K K2)
    iterate 6 (refine ords_pure rfl (fun K hK => ?_); go_simp; refine hK _ ?_; clear hK K)
    iterate 2 (refine ords_heldK rfl (fun K K2 hK hK2 => ?_); go_simp; refine ⟨hK2 _ (fun w9 hS => ?_), hK _ ?_⟩; (clear hK hK2 K K2; have q1 : w9.cell? ⟨gh, 1, none⟩ = some (.int .i64 blk) := (by rw [HBL.out]; exact hS.1.cell 1); have q8 : w9.cell? ⟨gh, 8, none⟩ = some (.slice (some ⟨g1, 0, none⟩) n cap) := (by rw [HN.out]; exact hS.1.cell 8); have qi : w9.cell? ⟨g1, i, none⟩ = some (.pointer (some ⟨pp, 0, none⟩)) := hS.2; clear hS; go_simp); (clear hK hK2 K K2); refine ords_pure rfl (fun K hK => ?_); go_simp; refine hK _ ?_; clear hK K; refine ords_pure rfl (fun K hK => ?_); go_simp; refine hK _ ?_; clear hK K)
    refine ords_pure rfl (fun K hK => ?_); go_simp; refine hK _ ?_; clear hK K
    refine ords_loud rfl (fun n1 => ?_)
    clear q1 q8 qi l1
    replace HW := Lib.hid (HW.out.drewN n1); generalize u.drewN n1 = u at *
    obtain ⟨p2, r2, e2, hN2⟩ := HW.out.hs.nds.node i HI.out
    rw [HP1.out] at e2
    obtain rfl : pp = p2 := Option.some.inj e2
    have HWN := Lib.hid (writeS_any pp d P.big (P.nlast i) (P.blk i) (P.nkey i) r2 _ (R i) (F i) Ar p cr ((L.drop k).take p) u hN2 HLL.out (by omega) hcr2 ((HW.out.rs.take p).more HW.out.but.size) (fun _ x hx => (HW.out.at_ HFAR.out HDR.out x hx).2 i HI.out))
    clear hN2 e2
    go_wp2_with (go_at_call 22; refine HWN.out.mono ?_; rintro e5 u ⟨rfl, F5, hn5, hf5, hb5⟩)
    replace HW := Lib.hid (HW.out.wrote HFAR.out HDR.out HI.out HP1.out hn5 hf5 hb5)
    clear hn5 hf5 hb5 HWN
    refine ⟨⟨HW.out.hs.blk, HW.out.hs.nds.row.ptr HP1.out⟩, ?_⟩
    go_simp
    refine ords_end (fun n2 => ?_)
    replace HW := Lib.hid (HW.out.drewN n2); generalize u.drewN n2 = u at *
    have HX2 : Hid (M ++ L.take (k + p) = (M ++ L.take k) ++ (L.drop k).take p) := (by rw [List.append_assoc, List.take_add]; exact Lib.hid rfl)
    have hst := P.engs_step (M ++ L.take k) ((L.drop k).take p) i (by rw [← HX.out]; exact HM5.out) (fun y hy => by rw [← HX.out]; exact HM6.out y (by rw [HLL.out] at hy; have := HPR.out; omega))
    rw [← HX2.out] at hst
    rw [hst] at HW
    have q9 : u.cell? ⟨gh, 9, none⟩ = some (.int .u64 t) := HW.out.hs.blk.cell 9
    have f9 := HW.out.hs.blk.frozen 9
    have l9 := HW.out.hs.blk.lt
    clear hst
    go_upto_region 8 with fail
    replace HW := Lib.hid (HW.out.took HFAR.out HDR.out t2)
    replace HW := Lib.hid (HW.out.cut (m := p) (by rw [HL.out]; have := HRR.out; omega))
    have HTT : Hid ((M ++ L.take (k + p)).length % 18446744073709551616 = t2) := (by rw [HX2.out, List.length_append, HLL.out, ← HX.out]; exact Lib.hid HT2.out.symm)
    clear q9 f9 l9
    go_wp2_with fail
    exact ⟨⟨k + p, (r - p), cr - p, _, _, by have := HKR.out; have := HRR.out; omega, rfl, (by rw [HTT.out]; exact HW.out)⟩, by have := HLT.out; have := HRR.out; show (r - p) < r; omega⟩
  ·obtain rfl : r = 0 := by omega
   obtain rfl : k = nb := by omega
   go_wp2_with fail
   have h1 := HW.out.hs
   rw [List.take_of_length_le (Nat.le_of_eq HL.out)] at h1
   exact bodyPost_ret (results_tmp rfl _ _ _) rfl ⟨rfl, F, h1, HW.out.fin, HW.out.but⟩
end Go.Proofs.YtghpofnaojbbkaaGreat

/-
  Y38: contracts and lemmas alone; no statement is claimed here.
-/
import Derived.Test.YtmapfcdffklopaaGreatY36
import Derived.Test.YtmapfcdffklopaaGreatY30
namespace Go.Proofs.YtmapfcdffklopaaGreat
open Go.RowKit
attribute [local go_sem] pureUpon Ords.of

theorem kOf_big {a b : Bool} (h : kOf a = kOf b) : a = b := by cases a <;> cases b <;> first | rfl | exact absurd h (by decide)
theorem Xm.Ok.val0 {m : Xm} (h : m.Ok) (s p : Sl) (hs : s.n = m.ls.length) (hp : p.n = m.lp.length) : xValid (kOf m.big) m.len 0 s p = 0 := by
  have hv := h.val s p hs hp
  have ho := xOK_of hv
  have hk0 : ¬ mostOf (kOf m.big) < m.key.length := fun h => by rw [xValid_key ho h] at hv; exact absurd hv (by decide)
  have hk1 : ¬ mostOf (kOf m.big) < ((0 : Nat) : Int) := by have : 0 ≤ mostOf (kOf m.big) := by cases m.big <;> decide
                                                            omega
  rw [xValid_chk ho hk0] at hv
  rw [xValid_chk ho hk1, ← hv]
  unfold chk rootP
  dsimp only
  rw [if_neg (show ¬ (((0 : Nat) : Int) < 0 ∨ mostOf (kOf m.big) < ((0 : Nat) : Int)) from fun h => h.elim (by omega) hk1), if_neg (show ¬ ((m.key.length : Int) < 0 ∨ mostOf (kOf m.big) < (m.key.length : Int)) from fun h => h.elim (by omega) hk0)]
theorem Xm.rootS_eq {m : Xm} (h : m.Ok) (s p : Sl) (hs : s.n = m.ls.length) (hp : p.n = m.lp.length) (data : List UInt8) : rootS (kOf m.big) m.len m.key.length s p m.ls m.lp m.key data = (m.root data, 0) := by
 have hv := h.val s p hs hp
 have ho := xOK_of hv
 have hk0 : ¬ mostOf (kOf m.big) < m.key.length := fun h => by rw [xValid_key ho h] at hv; exact absurd hv (by decide)
 unfold rootS
 rw [if_neg (fun h => h hv)]
 rw [xValid_chk ho hk0] at hv
 refine hash_ways (P := fun R => R = (m.root data, 0)) _ _ _ _ _ _ _ _ (fun h1 => absurd hv h1) (fun _ _ _ _ h2 => absurd rfl h2) (fun big hb _ _ h3 => ?_) (fun big hb _ _ n hn _ => ?_)
 ·have := kOf_big hb; subst this
  rw [mostOf_k] at h3
  have := bOf_le m.big
  omega
 ·have := kOf_big hb; subst this
  rw [mostOf_k] at hn
  have : n = bOf m.big := by omega
  subst this
  rfl
theorem Xm.pieceS_eq {m : Xm} (h : m.Ok) (s p : Sl) (hs : s.n = m.ls.length) (hp : p.n = m.lp.length) (root : List UInt8) (hr : root.length = bOf m.big) (I : Nat) (hI : I * bOf m.big < m.T) : pieceS (kOf m.big) m.len s p m.ls m.lp root I = (m.P root I, 0) :=
 pieceS_ok (h.val0 s p hs hp) (fun h2 => h2.elim (fun h3 => h3 hr) (fun h3 => by unfold Xm.T at hI; omega))
def rsCells (m : Xm) (Ak : Option Addr) (ck : Nat) (s t : Sl) (mv : Value) (g : Bool) (a : Nat) : Array Value := #[.int .i64 (kOf m.big), .int .i64 m.len, .slice Ak m.key.length ck, s.v, t.v, mv, .bool g, .int .u64 a]
theorem byte_eq {f i j a : Nat} {P : Nat → List UInt8} {x : UInt8} (h : (P i)[j]? = some x) (hj : j < f) (ha : j + i * f = a) : byteOf f P a = x := by
 have h1 : a / f = i := by rw [← ha, Nat.add_mul_div_right _ _ (by omega), Nat.div_eq_of_lt hj, Nat.zero_add]
 have h2 : a % f = j := by rw [← ha, Nat.add_mul_mod_self_right, Nat.mod_eq_of_lt hj]
 unfold byteOf
 rw [h1, h2, List.getD_eq_getElem?_getD, h]
 rfl
theorem part_nums (fr0 k n T f : Nat) (hf : 1 ≤ f ∧ f ≤ 64) (hk : k < n) (hkT : fr0 + k < T) (hT : T ≤ 274877906944) : ∃ a i j lb : Nat, Hid (a = fr0 + k ∧ i = a / f ∧ j = a % f ∧ lb = pceM f T i ∧ j < lb ∧ lb ≤ f ∧ j + i * f = a ∧ i * f < T ∧ lb + i * f ≤ T) ∧
  IntKind.u64.wrap ((a : Int) / (f : Int)) = i ∧ IntKind.u64.wrap ((a : Int) % (f : Int)) = j ∧ IntKind.i64.wrap (j : Int) = j ∧ IntKind.i64.wrap ((a : Int).tmod (f : Int)) = j ∧ ((f : Int) == 0) = false ∧ (f = 0) = False ∧ decide ((k : Int) < (n : Int)) = true ∧ (k < n) = True ∧ (a < T) = True ∧ wrap64 ((a : Int) % (f : Int)) = j := by
 obtain ⟨a, ha⟩ : ∃ a, a = fr0 + k := ⟨_, rfl⟩
 obtain ⟨i, hi⟩ : ∃ i, i = a / f := ⟨_, rfl⟩
 obtain ⟨j, hj⟩ : ∃ j, j = a % f := ⟨_, rfl⟩
 have hjf : j < f := by rw [hj]; exact Nat.mod_lt _ (by omega)
 have hd := Nat.div_add_mod a f
 rw [← hi, ← hj, Nat.mul_comm, Nat.add_comm] at hd
 have hil : i ≤ a := by rw [hi]; exact Nat.div_le_self _ _
 obtain ⟨b, hb⟩ : ∃ b, b = i * f := ⟨_, rfl⟩
 rw [← hb] at hd
 refine ⟨a, i, j, pceM f T i, Lib.hid ⟨ha, hi, hj, rfl, ?_, ?_, ?_, ?_, ?_⟩, ?_, ?_, ?_, ?_, ?_, ?_, ?_, ?_, ?_, ?_⟩
 ·unfold pceM; rw [← hb]; omega
 ·unfold pceM; omega
 ·rw [← hb]; exact hd
 ·rw [← hb]; omega
 ·unfold pceM; rw [← hb]; omega
 ·rw [wrap_u64, ← Int.natCast_ediv, ← hi]; omega
 ·rw [wrap_u64, ← Int.natCast_emod, ← hj]; omega
 ·simp [IntKind.wrap, IntKind.bits, IntKind.signed]; omega
 ·rw [Int.tmod_eq_emod_of_nonneg (by omega), ← Int.natCast_emod, ← hj]; simp [IntKind.wrap, IntKind.bits, IntKind.signed]; omega
 ·simp <;> omega
 ·simp <;> omega
 ·simp <;> omega
 ·simp <;> omega
 ·simp <;> omega
 ·rw [← Int.natCast_emod, ← hj]; unfold wrap64; omega
theorem part_more (n fr0 f i k k' a' j' j0 lb a : Nat) (h1 : k ≤ k') (h3 : a' = fr0 + k') (h4 : j' + i * f = a') (h5 : j' ≤ lb) (h6 : a = fr0 + k) (h7 : j0 + i * f = a) (h8 : j0 < lb) (h9 : ¬ (k' < n ∧ j' < lb)) (h10 : k < n) : k + 1 ≤ k' := by
 obtain ⟨b, hb⟩ : ∃ b, b = i * f := ⟨_, rfl⟩
 rw [← hb] at h4 h7
 omega
theorem part_step (k n T fr0 f i j lb a : Nat) (h1 : k ≤ min n (T - fr0)) (h2 : k < n) (h3 : a = fr0 + k) (h4 : j + i * f = a) (h5 : j < lb) (h6 : lb + i * f ≤ T) (hT : T ≤ 274877906944) (hn : n ≤ 65536) (hl : lb ≤ 64) : ∃ a2 j2 : Nat, Hid (k + 1 ≤ min n (T - fr0) ∧ a2 = fr0 + (k + 1) ∧ j2 + i * f = a2 ∧ j2 ≤ lb) ∧ wrap64 ((j : Int) + 1) = j2 ∧
  IntKind.u64.wrap ((a : Int) + 1) = a2 ∧ decide ((j : Int) < (lb : Int)) = true ∧ (j < lb) = True ∧ ((j : Int) < (lb : Int)) ∧ decide ((k : Int) < (n : Int)) = true ∧ (k < n) = True ∧ k + 1 ≤ 65536 := by
 obtain ⟨b, hb⟩ : ∃ b, b = i * f := ⟨_, rfl⟩
 rw [← hb] at h4 h6 ⊢
 refine ⟨a + 1, j + 1, Lib.hid ⟨?_, ?_, ?_, ?_⟩, ?_, ?_, ?_, ?_, ?_, ?_, ?_, ?_⟩
 ·omega
 ·omega
 ·omega
 ·omega
 ·unfold wrap64; omega
 ·rw [wrap_u64]; omega
 ·simp <;> omega
 ·simp <;> omega
 ·omega
 ·simp <;> omega
 ·simp <;> omega
 ·omega
theorem but_app {α : Type} {cd : Cod α} {W w w3 : World} {A0 A A3 : Option Addr} {c base : Nat} {l : List α} (hb : But (obl A0) W w) (hrow : ∀ a, A = some a → a.block ∈ obl A0 ∨ W.heap.size ≤ a.block) (_ho : OS cd w base A c l) (hg : w.grownBy w3 (A.map (·.block))) (hA : A3.map (·.block) = A.map (·.block) ∨ A3.map (·.block) = some w.heap.size) :
  But (obl A0) W w3 ∧ ∀ a, A3 = some a → a.block ∈ obl A0 ∨ W.heap.size ≤ a.block := by
 refine ⟨hb.trans (But.grown (F := obl A) hg (fun j hj => .inl (mem_obl.2 (by cases A with | none => cases hj | some a => exact ⟨a, rfl, Option.some.inj hj⟩)))) (fun j hj => ?_), fun a ha => ?_⟩
 ·obtain ⟨a, ha, hb'⟩ := mem_obl.1 hj
  rw [← hb']; exact hrow a ha
 ·subst ha
  rcases hA with h | h
  ·cases A with
   | none => cases h
   | some b => have h2 : a.block = b.block := Option.some.inj h; rw [h2]; exact hrow b rfl
  ·have h2 : a.block = _ := Option.some.inj h
   have := hb.size
   exact .inr (by rw [h2]; exact this)
theorem meas2 (k k' n : Nat) (h : k + 1 ≤ k') (h2 : k' ≤ n) : n - k' < n - k := by omega
set_option maxRecDepth 20000 in
set_option maxHeartbeats 4000000 in
theorem refPart_any (q : Nat) (m : Xm) (hm : m.Ok) (Ak : Option Addr) (ck : Nat) (s t : Sl) (Am : Option Addr) (nm cm : Nat) (g : Bool) (at0 : Nat) (msg : List UInt8) (fr0 n : Nat) (w : World) (hb : Blk w q 38 (rsCells m Ak ck s t (.slice Am nm cm) g at0)) (hls : m.ls.length = s.n) (hlp : m.lp.length = t.n) (hrk : RS cB w w.heap.size Ak m.key) (hrs : RS cB w w.heap.size s.A m.ls) (hrp : RS cB w w.heap.size t.A m.lp)
  (hmn : msg.length = nm) (hnm : nm ≤ 140737488355200) (hrm : RS cB w w.heap.size Am msg) (hn : n ≤ 65536) :
  Calls Tryz.prog 48 #[.pointer (some ⟨q, 0, none⟩), .int .u64 fr0, .int .i64 n] w fun r w' => ∃ A c, r = .returned (.slice A (min n (m.T - fr0)) c) ∧ OS cB w' w.heap.size A c (m.row (m.root msg) fr0 (min n (m.T - fr0))) ∧ Below w.heap.size w w' := by
 have ho := xOK_of (hm.val s t hls.symm hlp.symm)
 have hto := fun W => refTotal_any (kOf m.big) m.len ho W
 change ∀ W, Calls _ _ _ W fun e w' => e = .returned (.int .u64 (m.T : Nat)) ∧ _ at hto
 have hfu := fun W => refXfull_any m.big W
 rw [mostOf_k] at hfu
 have hro := fun W hrs hrp hrk hrd => refRoot_any (kOf m.big) m.len m.ls m.lp m.key msg Ak Am m.key.length ck nm cm s t W hls hlp hrs hrp rfl hrk hmn hnm hrd
 rw [Xm.rootS_eq hm s t hls.symm hlp.symm] at hro
 have hpi : ∀ (I : Nat) (Ar : Option Addr) (cr : Nat) W, I * bOf m.big < m.T → RS cB W W.heap.size s.A m.ls → RS cB W W.heap.size t.A m.lp → RS cB W W.heap.size Ar (m.root msg) → Calls Tryz.prog 69 #[.int .i64 (kOf m.big), .int .i64 m.len, s.v, t.v, .slice Ar (bOf m.big) cr, .int .u64 I] W fun r w' => ∃ A n c cc, r = .returned (.tuple #[.slice A n cc, .int .i64 0]) ∧ (m.P (m.root msg) I).length = n ∧ n ≤ cc ∧ OS cB w' W.heap.size A c (m.P (m.root msg) I) ∧ Below W.heap.size W w' := by
  intro I Ar cr W hI h1 h2 h3
  have h := refPiece_any (kOf m.big) m.len m.ls m.lp (m.root msg) Ar (bOf m.big) cr I s t W hls hlp h1 h2 (m.root_len msg) h3
  rw [Xm.pieceS_eq hm s t hls.symm hlp.symm _ (m.root_len msg) I hI] at h
  exact h
 have hrl := m.root_len msg
 have hT := hm.T37
 have hbl := bOf_le m.big
 have hpl : ∀ root i, (m.P root i).length = pceM (bOf m.big) m.T i := fun root i => pieceL_len m.big m.len m.ls m.lp root i
 have hrow : ∀ root a k, m.row root a k = rowOf (bOf m.big) (m.P root) a k := fun _ _ _ => rfl
 generalize m.root msg = root at *
 unfold Sl.v at *
 unfold rsCells at hb
 generalize hf : bOf m.big = f at *
 generalize hTT : m.T = T at *
 generalize hkk : kOf m.big = kk at *
 generalize hll : m.len = len at *
 have d0 : w.cell? ⟨q, 0, none⟩ = some (.int .i64 kk) := hb.cell 0
 have d1 : w.cell? ⟨q, 1, none⟩ = some (.int .i64 len) := hb.cell 1
 have d2 : w.cell? ⟨q, 2, none⟩ = some (.slice Ak m.key.length ck) := hb.cell 2
 have d3 : w.cell? ⟨q, 3, none⟩ = some (.slice s.A s.n s.c) := hb.cell 3
 have d4 : w.cell? ⟨q, 4, none⟩ = some (.slice t.A t.n t.c) := hb.cell 4
 have d5 : w.cell? ⟨q, 5, none⟩ = some (.slice Am nm cm) := hb.cell 5
 have wf : IntKind.u64.wrap (f : Int) = f := by rw [wrap_u64]; omega
 have HB := Lib.hid hb; have HTO := Lib.hid hto; have HFU := Lib.hid hfu; have HRO := Lib.hid hro; have HPI := Lib.hid hpi; have HRL := Lib.hid hrl; have HT := Lib.hid hT; have HBL := Lib.hid hbl; have HPL := Lib.hid hpl; have HROW := Lib.hid hrow; have HRS := Lib.hid hrs; have HRP := Lib.hid hrp; have HRK := Lib.hid hrk; have HRM := Lib.hid hrm; have HN := Lib.hid hn
 clear hb hto hfu hro hpi hrl hT hbl hpl hrow hrs hrp hrk hrm hn hls hlp hmn hnm ho hm hf hTT hkk hll
 go_enter Tryz.func48, Tryz.ntmps48
 go_upto_region 2 with fail
 refine wp_region_ords (fun _ => True) (fun _ _ h => h) (Ords.of [(0, 0), (0, 1), (0, 2), (1, 3), (0, 4), (0, 5), (0, 6), (1, 7), (2, 8), (0, 9)] .fin) (by kernel_rfl) rfl (by kernel_rfl) (by kernel_rfl) (fun c a d v w h => by cases d <;> exact h) trivial ?_
 iterate 2 (refine ords_pure rfl (fun K hK => ?_); go_simp; refine hK _ ?_; clear hK K; refine ords_pure rfl (fun K hK => ?_); go_simp; refine hK _ ?_; clear hK K; refine ords_pure rfl (fun K hK => ?_); go_simp; refine hK _ ?_; clear hK K; refine ords_read rfl (fun K hK => ?_); go_simp; refine hK _ ?_; clear hK K)
 refine ords_loud rfl (fun n1 => ?_)
 go_wp2_with (go_at_call 30; refine (HTO.out _).mono ?_; rintro e1 w1 ⟨rfl, rfl⟩)
 refine ⟨trivial, ?_⟩
 refine ords_pure rfl (fun K hK => ?_); go_simp; refine hK _ ?_; clear hK K
 refine ords_end (fun n2 => ?_)
 go_upto_region 4 with (go_at_call 41; refine (HFU.out _).mono ?_; rintro e2 w2 ⟨rfl, rfl⟩)
 refine wp_region_ords (fun _ => True) (fun _ _ h => h) (Ords.of [(0, 0), (0, 1), (0, 2), (1, 3), (0, 4), (0, 5), (0, 6), (1, 7), (0, 8), (0, 9), (0, 10), (1, 11), (0, 12), (0, 13), (0, 14), (1, 15), (0, 16), (0, 17), (0, 18), (1, 19), (0, 20), (0, 21), (0, 22), (1, 23), (2, 24), (0, 25), (0, 26), (0, 27), (0, 28), (0, 29)] .fin) (by kernel_rfl) rfl (by kernel_rfl) (by kernel_rfl) (fun c a d v w h => by cases d <;> exact h) trivial ?_
 iterate 6 (refine ords_pure rfl (fun K hK => ?_); go_simp; refine hK _ ?_; clear hK K; refine ords_pure rfl (fun K hK => ?_); go_simp; refine hK _ ?_; clear hK K; refine ords_pure rfl (fun K hK => ?_); go_simp; refine hK _ ?_; clear hK K; refine ords_read rfl (fun K hK => ?_); go_simp; refine hK _ ?_; clear hK K)
 refine ords_loud rfl (fun n1 => ?_)
 go_wp2_with (go_at_call 68; refine (HRO.out _ (HRS.out.drewN _) (HRP.out.drewN _) (HRK.out.drewN _) (HRM.out.drewN _)).mono ?_; rintro e4 w4 ⟨A4, n4, c4, cc4, rfl, hl4, hcc4, ho4, hb4⟩; have HL4 := Lib.hid hl4; have HO4 := Lib.hid ho4; have HB4 := Lib.hid (undrN hb4); clear hl4 hcc4 ho4 hb4)
 refine ⟨trivial, ?_⟩
 iterate 5 (refine ords_pure rfl (fun K hK => ?_); go_simp; refine hK _ ?_; clear hK K)
 refine ords_end (fun n2 => ?_)
 go_wp2_with fail
 have hb5 := HB.out.below HB4.out HB.out.lt
 have HB5 := Lib.hid (bdr HB4.out n2); have HO5 : Hid (RS cB (w4.drewN n2) (w4.drewN n2).heap.size A4 root) := HO4.out.reads.drewN n2
 obtain rfl : f = n4 := by rw [← HL4.out]; exact HRL.out.symm
 have HK5 := Lib.hid (hb5.drewN n2); clear hb5 HO4 HB4 HL4 d0 d1 d2 d3 d4 d5
 generalize w4.drewN n2 = W at *
 go_loopw [1, 7, 12, 13, 14] (fun fr o _ _ _ wr' => ∃ (k a : Nat) (A : Option Addr) (c : Nat), k ≤ min n (T - fr0) ∧ a = fr0 + k ∧ fr = .int .u64 a ∧ o = .slice A k c ∧ OS cB wr' W.heap.size A c (m.row root fr0 k) ∧ Below W.heap.size W wr') (fun _ o _ _ _ _ => n - slLen o)
 case atStart => exact ⟨0, fr0, none, 0, Nat.zero_le _, rfl, rfl, rfl, OS.nil _ _ _ rfl, Below.refl _ _⟩
 case round =>
  obtain ⟨k, a, A, c, hk, ha, rfl, rfl, hos, hbe⟩ := hrel
  have HBE := Lib.hid hbe; have HO := Lib.hid hos; have HA := Lib.hid ha; clear hbe hos
  by_cases hlt : k < n
  ·by_cases hat : a < T
   ·obtain ⟨a', i, j0, lb, HNUM, wA, wR, wJ, wM, z1, z2, hkd, hkn, haT, wQ⟩ := part_nums fr0 k n T f (by have := HBL.out; omega) hlt (by omega) HT.out
    obtain rfl : a = a' := by rw [ha]; exact HNUM.out.1.symm
    have HKR := Lib.hid (HK5.out.below HBE.out HK5.out.lt)
    have d0 : wr.cell? ⟨q, 0, none⟩ = some (.int .i64 kk) := HKR.out.cell 0
    have d1 : wr.cell? ⟨q, 1, none⟩ = some (.int .i64 len) := HKR.out.cell 1
    have d3 : wr.cell? ⟨q, 3, none⟩ = some (.slice s.A s.n s.c) := HKR.out.cell 3
    have d4 : wr.cell? ⟨q, 4, none⟩ = some (.slice t.A t.n t.c) := HKR.out.cell 4
    have hsz := HBE.out.size
    have hsz5 := HB5.out.size
    have HRSW := Lib.hid (((HRS.out.below HB5.out).below (HBE.out.mono hsz5)).more (Nat.le_trans hsz5 hsz))
    have HRPW := Lib.hid (((HRP.out.below HB5.out).below (HBE.out.mono hsz5)).more (Nat.le_trans hsz5 hsz))
    have HRRW := Lib.hid ((HO5.out.below HBE.out).more hsz)
    have HPX := Lib.hid (fun W h1 h2 h3 => HPI.out i A4 cc4 W HNUM.out.2.2.2.2.2.2.2.1 h1 h2 h3)
    have HLT := Lib.hid hlt
    clear hlt hat ha hsz hsz5
    go_upto_region 6 with fail
    refine wp_region_ords (fun _ => True) (fun _ _ h => h) (Ords.of [(0, 0), (0, 1), (0, 2), (1, 3), (0, 4), (0, 5), (0, 6), (1, 7), (0, 8), (0, 9), (0, 10), (1, 11), (0, 12), (0, 13), (0, 14), (1, 15), (0, 16), (0, 17), (0, 18), (0, 19), (2, 20), (0, 21), (0, 22), (0, 23), (0, 24), (0, 25)] .fin) (by kernel_rfl) rfl (by kernel_rfl) (by kernel_rfl) (fun c a d v w h => by cases d <;> exact h) trivial ?_
    iterate 4 (refine ords_pure rfl (fun K hK => ?_); go_simp; refine hK _ ?_; clear hK K; refine ords_pure rfl (fun K hK => ?_); go_simp; refine hK _ ?_; clear hK K; refine ords_pure rfl (fun K hK => ?_); go_simp; refine hK _ ?_; clear hK K; refine ords_read rfl (fun K hK => ?_); go_simp; refine hK _ ?_; clear hK K)
    iterate 4 (refine ords_pure rfl (fun K hK => ?_); go_simp; refine hK _ ?_; clear hK K)
    refine ords_loud rfl (fun n1 => ?_)
    go_wp2_with (go_at_call 69; refine (HPX.out _ (HRSW.out.drewN _) (HRPW.out.drewN _) (HRRW.out.drewN _)).mono ?_; rintro e6 w6 ⟨A6, n6, c6, cc6, rfl, hl6, hcc6, ho6, hb6⟩; have HL6 := Lib.hid hl6; have HO6 := Lib.hid ho6; have HB6 := Lib.hid (undrN hb6); clear hl6 hcc6 ho6 hb6)
    refine ⟨trivial, ?_⟩
    iterate 5 (refine ords_pure rfl (fun K hK => ?_); go_simp; refine hK _ ?_; clear hK K)
    refine ords_end (fun n2 => ?_)
    go_wp2_with fail
    rw [wQ]
    obtain rfl : lb = n6 := by rw [← HL6.out, HPL.out, HNUM.out.2.2.2.1]
    have HB7 := Lib.hid (bdr HB6.out n2); have HO7 := Lib.hid ((HO.out.below HB6.out (Nat.le_refl _)).drewN n2)
    have HR7 : Hid (RS cB (w6.drewN n2) (w6.drewN n2).heap.size A6 (m.P root i)) := HO6.out.reads.drewN n2
    have HF7 : Hid (∀ a, A6 = some a → a.block ∉ obl A) := fun a6 h6 hm6 => by
     obtain ⟨a9, ha9, hb9⟩ := mem_obl.1 hm6
     have g1 := (HO6.out.block_lt a6 h6).1
     have g2 := (HO.out.block_lt a9 ha9).2
     rw [hb9] at g2
     exact Nat.lt_irrefl _ (Nat.lt_of_lt_of_le g2 g1)
    clear HO6 HB6 d0 d1 d3 d4 wA wR wJ wM wQ z1 z2 hkd hkn haT HPX HKR
    generalize w6.drewN n2 = W6 at *
    obtain ⟨wo, hwo⟩ : ∃ wo : World, wo = wr := ⟨_, rfl⟩
    rw [← hwo] at *
    clear hwo
    go_loopw [1, 7, 14] (fun fr o j wr' => ∃ (k' a' j' : Nat) (A' : Option Addr) (c' : Nat), k ≤ k' ∧ k' ≤ min n (T - fr0) ∧ a' = fr0 + k' ∧ j' + i * f = a' ∧ j' ≤ lb ∧ fr = .int .u64 a' ∧ o = .slice A' k' c' ∧ j = .int .i64 j' ∧ OS cB wr' W.heap.size A' c' (m.row root fr0 k') ∧ But (obl A) W6 wr' ∧ (∀ a, A' = some a → a.block ∈ obl A ∨ W6.heap.size ≤ a.block)) (fun _ o _ _ => n - slLen o)
    case atStart =>
     obtain ⟨h1, h2, h3, h4, h5, h6, h7, h8, h9⟩ := HNUM.out
     exact ⟨k, a, j0, A, c, Nat.le_refl _, hk, h1, h7, Nat.le_of_lt h5, rfl, rfl, rfl, HO7.out, But.refl _ _, fun a9 h9 => .inl (mem_obl.2 ⟨a9, h9, rfl⟩)⟩
    case round =>
     obtain ⟨k', a', j', A', c', hkk, hkK, ha', hj', hjl, rfl, rfl, rfl, hos', hbut', hrow'⟩ := hrel
     have HO8 := Lib.hid hos'; have HB8 := Lib.hid hbut'; have HW8 := Lib.hid hrow'; have HX8 := Lib.hid (show k ≤ k' ∧ k' ≤ min n (T - fr0) ∧ a' = fr0 + k' ∧ j' + i * f = a' ∧ j' ≤ lb from ⟨hkk, hkK, ha', hj', hjl⟩)
     clear hos' hbut' hrow' hkk hkK ha' hj' hjl
     by_cases hjb : j' < lb
     ·by_cases hkn : k' < n
      ·have hrs8 := HR7.out.but (Nat.le_refl _) HB8.out HF7.out
       obtain ⟨ad, x, hA6, hab, hlx, hcx⟩ := hrs8.at_ (k := j') (by rw [HL6.out]; exact hjb)
       subst hA6
       change wr.cell? (ad.add j') = some (.int .u8 (byt x)) at hcx
       obtain ⟨a2, j2, HS, wJ2, wS, hjd, hjT, hji, hkd, hkT, hk5⟩ := part_step k' n T fr0 f i j' lb a' HX8.out.2.1 hkn HX8.out.2.2.1 HX8.out.2.2.2.1 hjb HNUM.out.2.2.2.2.2.2.2.2 HT.out HN.out (Nat.le_trans HNUM.out.2.2.2.2.2.1 HBL.out.2)
       have hadl : ad.block < wr.heap.size := Nat.lt_of_lt_of_le hab HB8.out.size
       have hW8 : W.heap.size ≤ wr.heap.size := Nat.le_trans (Nat.le_trans HBE.out.size HB7.out.size) HB8.out.size
       have HLX := Lib.hid hlx; have HWL := Lib.hid hW8
       clear hrs8 hlx hjb hkn hW8
       go_wp2_with (at_builtin; refine wpList_appB1 _ rfl (.tmp 107) (.tmp 112) rfl (HO8.out.alloc _) rfl (m.row_len _ _ _) rfl (cnew _ _ _ rfl) x rfl (by omega) (Nat.le_trans HWL.out (by simp)) ?_; intro A3 c3 w3 ho3 hg3 hA3; have hba := but_app (HB8.out.alloc _) HW8.out (HO8.out.alloc _) hg3 hA3; have HO9 := Lib.hid ho3; have HB9 := Lib.hid hba; clear ho3 hg3 hA3 hba)
       go_roundw
       case rel =>
        rw [wJ2]
        refine ⟨k' + 1, a2, j2, A3, c3, by have h := HX8.out.1; omega, HS.out.1, HS.out.2.1, HS.out.2.2.1, HS.out.2.2.2, rfl, rfl, rfl, ?_, HB9.out.1, HB9.out.2⟩
        rw [HROW.out, rowOf_succ, ← HROW.out, byte_eq HLX.out (by have h := HX8.out.2.2.2.2; have h2 := HNUM.out.2.2.2.2.2.1; have h3 := HS.out.2.2.2; have h4 := HS.out.2.2.1; have h5 := HS.out.2.1; have h6 := HX8.out.2.2.1; have h7 := HX8.out.2.2.2.1; omega) (HX8.out.2.2.2.1.trans HX8.out.2.2.1)]
        exact HO9.out
       case measure => exact meas_lt k' 1 n (by have h := HS.out.1; omega) (Nat.le_refl 1)
      ·have hjd : decide ((j' : Int) < (lb : Int)) = true := by simp <;> omega
       have hjT : (j' < lb) = True := by simp [hjb]
       have hkd : decide ((k' : Int) < (n : Int)) = false := by simp <;> omega
       have hkT : (k' < n) = False := by simp [hkn]
       have g3 := HX8.out
       have g2 : k + 1 ≤ k' := part_more n fr0 f i k k' a' j' j0 lb a g3.1 g3.2.2.1 g3.2.2.2.1 g3.2.2.2.2 HNUM.out.1 HNUM.out.2.2.2.2.2.2.1 HNUM.out.2.2.2.2.1 (by omega) HLT.out
       have g4 : k' ≤ n := by have := g3.2.1; omega
       have G2 := Lib.hid g2; have G4 := Lib.hid g4
       clear g2 g3 g4 hjb hkn
       go_wp2_with fail
       go_roundw
       case rel =>
        have hb9 : Below W.heap.size W6 wr := HB8.out.toBelow (Nat.le_trans HBE.out.size HB7.out.size) (fun k9 h9 => by
         obtain ⟨a9, ha9, hb9⟩ := mem_obl.1 h9
         rw [← hb9]; exact (HO.out.block_lt a9 ha9).1)
        exact ⟨k', a', A', c', HX8.out.2.1, HX8.out.2.2.1, rfl, rfl, HO8.out, HBE.out.trans ((HB7.out.mono HBE.out.size).trans hb9)⟩
       case measure =>
        show n - k' < n - k
        exact meas2 _ _ _ G2.out G4.out
     ·have hjd : decide ((j' : Int) < (lb : Int)) = false := by simp <;> omega
      have hjT : (j' < lb) = False := by simp [hjb]
      have g3 := HX8.out
      have g2 : k + 1 ≤ k' := part_more n fr0 f i k k' a' j' j0 lb a g3.1 g3.2.2.1 g3.2.2.2.1 g3.2.2.2.2 HNUM.out.1 HNUM.out.2.2.2.2.2.2.1 HNUM.out.2.2.2.2.1 (by omega) HLT.out
      have g4 : k' ≤ n := by have := g3.2.1; omega
      have G2 := Lib.hid g2; have G4 := Lib.hid g4
      clear g2 g3 g4 hjb
      go_wp2_with fail
      go_roundw
      case rel =>
       have hb9 : Below W.heap.size W6 wr := HB8.out.toBelow (Nat.le_trans HBE.out.size HB7.out.size) (fun k9 h9 => by
        obtain ⟨a9, ha9, hb9⟩ := mem_obl.1 h9
        rw [← hb9]; exact (HO.out.block_lt a9 ha9).1)
       exact ⟨k', a', A', c', HX8.out.2.1, HX8.out.2.2.1, rfl, rfl, HO8.out, HBE.out.trans ((HB7.out.mono HBE.out.size).trans hb9)⟩
      case measure =>
       show n - k' < n - k
       exact meas2 _ _ _ G2.out G4.out
   ·have hkd : decide ((k : Int) < (n : Int)) = true := by simp <;> omega
    have hkT : (k < n) = True := by simp [hlt]
    have haT : (a < T) = False := by simp [hat]
    have hkk : k = min n (T - fr0) := by omega
    clear hlt hat
    have HKK := Lib.hid hkk
    clear hkk hk ha
    go_wp2_with fail
    exact bodyPost_ret (results_tmp rfl _ _ _) rfl ⟨A, c, by rw [← HKK.out]; rfl, by rw [← HKK.out]; exact HO.out.mono HB5.out.size, HB5.out.trans (HBE.out.mono HB5.out.size)⟩
  ·have hkd : decide ((k : Int) < (n : Int)) = false := by simp <;> omega
   have hkT : (k < n) = False := by simp [hlt]
   have hkk : k = min n (T - fr0) := by omega
   clear hlt
   have HKK := Lib.hid hkk
   clear hkk hk ha
   go_wp2_with fail
   exact bodyPost_ret (results_tmp rfl _ _ _) rfl ⟨A, c, by rw [← HKK.out]; rfl, by rw [← HKK.out]; exact HO.out.mono HB5.out.size, HB5.out.trans (HBE.out.mono HB5.out.size)⟩
end Go.Proofs.YtmapfcdffklopaaGreat

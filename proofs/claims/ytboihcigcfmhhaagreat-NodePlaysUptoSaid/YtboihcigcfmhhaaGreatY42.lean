/-
  Y42: contracts and lemmas alone; no statement is claimed here.
-/
import Derived.Test.YtboihcigcfmhhaaGreatY41
import Derived.Test.YtboihcigcfmhhaaGreatY17
set_option maxHeartbeats 4000000
set_option maxRecDepth 20000
namespace Go.Proofs.YtboihcigcfmhhaaGreat
open _root_.Nat renaming le_trans → aZL
open Go renaming bodyPost_ret → aZB
open Lib renaming hid -> zH
open Go.RowKit
attribute [local go_sem] pureUpon Ords.of
section
variable {w : World} {H q : Nat} {m : NPm} {t : NSt} {Am : Option Addr} {nm cm : Nat}
theorem NR.write (h : NR w H q m t Am nm cm) (Ad : Option Addr) (nd cd : Nat) (data : List UInt8) (hd : data.length = nd) (hr : RS cB w H Ad data) (hlen : nm + nd <= 140737488355328) :
  Calls Tryz.prog 17 #[.pointer (some ⟨q, 0, none⟩), .slice Ad nd cd] w fun e w' => e = .returned (.tuple #[]) /\ ∃ Am' cm', NR w' H q m ⟨t.last, t.data ++ data⟩ Am' (nm + nd) cm' /\ But (q :: obl Am) w w' /\ (∀ a, Am' = some a -> a.block ∈ obl Am \/ w.heap.size <= a.block) := by
 obtain ⟨base, g1, h, g2, g3⟩ := h;have hbb : base <= w.heap.size := aZL h.lo (Nat.le_of_lt h.blk.lt);have hAm := fun b hb => (h.own.block_lt b hb).1
 refine (refWrite_any base q m.big m.pr m.ls m.lp m.key m.Ak m.nk m.ck t.last _ Am nm cm _ Ad nd cd data w h hd (hr.more g1) hlen).mono ?_;rintro e w' ⟨e1, Am', cm', h1, h2, h3⟩;have hB := h2.toBelow (aZL g1 hbb) (fun k hk => by
  rcases List.mem_cons.1 hk with h4 | h4
  ·rw [h4]; exact aZL g1 h.lo
  ·obtain ⟨b, h5, h6⟩ := mem_obl.1 h4; rw [<- h6]; exact aZL g1 (hAm b h5))
 refine ⟨e1, Am', cm', ⟨base, g1, ?_, g2.below hB, g3.below hB⟩, h2, h3⟩;rw [List.append_assoc, <- UInt64.ofNat_add, <- hd, <- List.length_append] at h1;rw [<- hd];exact h1
theorem NR.reset (h : NR w H q m t Am nm cm) (hm : m.Ok) :
  Calls Tryz.prog 21 #[.pointer (some ⟨q, 0, none⟩)] w fun e w' => e = .returned (.tuple #[]) /\ ∃ Am' nm' cm', NR w' H q m ⟨false, []⟩ Am' nm' cm' /\ But [q] w w' /\ (∀ a, Am' = some a -> w.heap.size <= a.block) := by
 obtain ⟨base, g1, h, g2, g3⟩ := h;have hbb : base <= w.heap.size := aZL h.lo (Nat.le_of_lt h.blk.lt);have hqq := h.lo;refine (refReset_any base q m.big m.pr m.ls m.lp m.key m.Ak m.nk m.ck t.last _ Am nm cm _ w h hm.key hm.nkb).mono ?_;rintro e w' ⟨e1, Am', nm', cm', h1, h2, h3⟩;have hB := h2.toBelow (aZL g1 hbb) (fun k hk => by simp at hk; rw [hk]; exact aZL g1 hqq);refine ⟨e1, Am', nm', cm', ⟨base, g1, ?_, g2.below hB, g3.below hB⟩, h2, h3⟩
 show RN w' base q m.big m.pr m.ls m.lp m.key m.Ak m.nk m.ck false (keyL m.big m.key ++ []) Am' nm' cm' 0
 rw [List.append_nil];exact h1
theorem NR.save (h : NR w H q m t Am nm cm) (hm : m.Ok) (hnm : nm <= 140737488355328) :
  Calls Tryz.prog 24 #[.pointer (some ⟨q, 0, none⟩)] w fun e w' => ∃ A k c, e = .returned (.slice A k c) /\ (saveL m.big m.x m.key t.last (m.e t.data)).length = k /\ k <= 1024 /\ OS cB w' w.heap.size A c (saveL m.big m.x m.key t.last (m.e t.data)) /\ Below w.heap.size w w' := by
 obtain ⟨base, g1, h, -, -⟩ := h;refine (refSave_any base q m.big m.pr m.ls m.lp m.key m.Ak m.nk m.ck t.last _ Am nm cm _ (2 * bOf m.big) w h hm.chk hm.fit hm.ls hm.lp hnm rfl hm.key hm.nkb hm.xlen).mono ?_;rintro e w' ⟨j, a, S, lo, hi, A, k, c, h1, h2, h3, h4, h5, rfl, h6, h7, h8, h9⟩;have e2 := refSvL_eq m.big m.x m.key t.data t.last (2 * bOf m.big) j a S lo hi rfl h1 h2 (by rw [h.len]; exact h3) (by rw [h.len]; exact h4) (by rw [h.len]; exact h5);change refSvL m.big m.x m.key t.last (keyL m.big m.key ++ t.data) a S lo hi = saveL m.big m.x m.key t.last (m.e t.data) at e2;change (refSvL m.big m.x m.key t.last (keyL m.big m.key ++ t.data) a S lo hi).length = k at h6;change OS cB w' w.heap.size A c (refSvL m.big m.x m.key t.last (keyL m.big m.key ++ t.data) a S lo hi) at h8;rw [e2] at h6 h8;exact ⟨A, k, c, rfl, h6, h7, h8, h9⟩
theorem NR.out (h : NR w H q m t Am nm cm) (hm : m.Ok) (hnm : nm <= 140737488355328) :
  Calls Tryz.prog 28 #[.pointer (some ⟨q, 0, none⟩)] w fun e w' => ∃ A c, e = .returned (.slice A (bOf m.big) c) /\ OS cB w' w.heap.size A c ((m.e t.data).out t.last) /\ Below w.heap.size w w' := by
 obtain ⟨base, g1, h, -, -⟩ := h;refine (refOut_any base q m.big m.pr m.ls m.lp m.key m.Ak m.nk m.ck t.last _ Am nm cm _ (2 * bOf m.big) w h hm.chk hm.fit hm.ls hm.lp hnm rfl).mono ?_;rintro e w' ⟨j, a, S, lo, hi, A, c, h1, h2, h3, h4, h5, rfl, h8, h9⟩;have e2 := out_law m.big m.x m.key t.data t.last (2 * bOf m.big) j a S lo hi rfl h1 h2 (by rw [h.len]; exact h3) (by rw [h.len]; exact h4) (by rw [h.len]; exact h5);rw [e2] at h8;exact ⟨A, c, rfl, h8, h9⟩
end
theorem NR.sum {w : World} {H q : Nat} {m : NPm} {t : NSt} {Am : Option Addr} {nm cm : Nat} (h : NR w H q m t Am nm cm) (hm : m.Ok) (hnm : nm <= 140737488355328) :
  Calls Tryz.prog 9 #[.pointer (some ⟨q, 0, none⟩)] w fun e w' => ∃ A c cc, e = .returned (.slice A m.d cc) /\ OS cB w' w.heap.size A c ((m.e t.data).out t.last) /\ Below w.heap.size w w' := by
 have hou := fun n => NR.out (h.but (G := []) ((But.refl [] w).drewN n) (by simp) (fun _ _ => by simp) (fun _ _ _ => by simp) (fun _ hk => by cases hk)) hm hnm
 have hol : ((m.e t.data).out t.last).length = bOf m.big := by rw [Eng.out_len, NPm.full_]
 have hdb := hm.db.2;have c1 : w.cell? ⟨q, 1, none⟩ = some (.int .i64 m.d) := by rw [<- hm.d]; exact h.blk.cell 1
 have hlt := h.blk.lt;have HOU := zH hou; have HOL := zH hol;clear hou hol h;generalize bOf m.big = bb at *;go_enter Tryz.func9, Tryz.ntmps9;go_wp2_with fail;refine wp_region_B (Ords.of [(0, 0), (0, 2), (0, 3), (0, 4), (0, 5), (0, 6), (2, 1), (0, 7), (0, 8)] .fin) (by kernel_rfl) rfl (by kernel_rfl) (by kernel_rfl) (fun c a d v w h => by cases d <;> exact h) ?_
 iterate 5 (refine ords_pure rfl (fun K hK => ?_); go_simp; refine hK _ ?_; clear hK K)
 refine ords_heldK rfl (fun K K2 hK hK2 => ?_); go_simp; refine ⟨hK2 _ (fun w9 hS => ?_), hK _ ?_⟩; (clear hK hK2 K K2; (first | refine withN hS ?_ | refine withD hS ?_ | refine with0 hS ?_); intro hcS hfS; go_simp); (clear hK hK2 K K2);refine ords_loud rfl (fun n1 => ?_);go_wp2_with (go_at_call 28; refine (HOU.out _).mono ?_; rintro e1 w1 ⟨A1, k1, rfl, ho1, hb1⟩; have hdc : (m.d : Int) <= (k1 : Int) := (by have h2 := ho1.len_le.1; rw [HOL.out] at h2; omega); have HO1 := zH ho1; have HB1 := zH (bcall (bdr (b0 w) _) hb1); clear ho1 hb1);refine ⟨HB1.out, ?_⟩
 iterate 2 (refine ords_pure rfl (fun K hK => ?_); go_simp; refine hK _ ?_; clear hK K)
 refine ords_end (fun n2 => ?_);go_wp2_with fail;exact aZB (results_tmp rfl _ _ _) rfl ⟨A1, k1, _, rfl, HO1.drewN _, bdr HB1 _⟩
theorem out5_any {H : Nat} {w0 w : World} {p q : Nat} {m : NPm} {t : NSt} {R F : List Nat} {Am : Option Addr} {nm cm : Nat} (h : PN H w0 w p q m t t R F Am nm cm) (hm : m.Ok) (hnm : nm <= 140737488355328) (k : Int) :
  Calls Tryz.prog 19 #[.pointer (some ⟨p, 0, none⟩), .pointer (some ⟨q, 0, none⟩), .int .i64 k] w fun r w' => r = .returned (.bool true) /\ Below w.heap.size w w' := by
 have hol : ((m.e t.data).out t.last).length = bOf m.big := by rw [Eng.out_len, NPm.full_]
 have hb64 : bOf m.big <= 64 := by cases m.big <;> decide
 have hfu := fun W => refFull_any m.big W
 have hq0 : Hid (∀ W, Below w.heap.size w W -> W.cell? ⟨q, 0, none⟩ = some (.int .i64 (kOf m.big)) /\ q < W.heap.size) := fun W hb => ⟨(h.below hb).r.blk.cell 0, (h.below hb).r.blk.lt⟩
 have hro := fun (W : World) (hb : Below w.heap.size w W) => (h.below hb).r.out hm hnm
 by_cases h1 : k < 1
 ·have hx := h.x.outBad k (.inl h1)
  have t1 : decide (k < 1) = true := by simpa using h1
  have HX := zH hx;clear hx hro hfu hol hb64 h hm hnm;go_enter Tryz.func19, Tryz.ntmps19;go_wp2_with (go_at_call 33; refine HX.mono ?_; rintro e1 w1 ⟨rfl, hb1⟩);exact aZB (results_tmp rfl _ _ _) rfl ⟨rfl, hb1⟩
 ·by_cases h2 : (bOf m.big : Int) < k
  ·have hx := h.x.outBad k (.inr h2)
   have HX := zH hx; have HFU := zH hfu; have H2 := zH h2;have t1 : decide (k < 1) = false := by simpa using h1
   clear hx hro hfu hol h hm hnm h2;generalize bOf m.big = bb at *;generalize kOf m.big = kk at *;have t2 : decide ((bb : Int) < k) = true := by simpa using H2.out
   go_enter Tryz.func19, Tryz.ntmps19;go_wp2_with (go_at_call 33; refine HX.mono ?_; rintro e1 w1 ⟨rfl, hb1⟩; have q0 := (hq0.out w1 hb1).1; have ql := (hq0.out w1 hb1).2);refine (HFU _).mono ?_;rintro e2 w2 ⟨rfl, rfl⟩;go_wp2_with fail;exact aZB (results_tmp rfl _ _ _) rfl ⟨rfl, hb1⟩
  ·obtain ⟨n, rfl⟩ : ∃ n : Nat, k = n := ⟨k.toNat, by omega⟩
   have hx := h.x.out n ⟨by omega, by omega⟩;have HX := zH hx; have HFU := zH hfu; have H2 := zH h2; have HRO := zH hro; have HOL := zH hol; have H1 := zH h1;clear hx hro hfu hol h hm hnm h2 h1;generalize bOf m.big = bb at *;generalize kOf m.big = kk at *;go_enter Tryz.func19, Tryz.ntmps19;go_wp2_with (go_at_call 33; refine HX.mono ?_; rintro e1 w1 ⟨A1, c1, rfl, ho1, hb1⟩; have q0 := (hq0.out w1 hb1).1; have ql := (hq0.out w1 hb1).2);refine (HFU _).mono ?_;rintro e2 w2 ⟨rfl, rfl⟩;have t1 : decide ((n : Int) < 1) = false := by simpa using H1.out
   have t2 : decide (bb < n) = false := by have := H2.out; simp; omega
   have HO1 := zH ho1; have HB1 := zH hb1;clear ho1 hb1 q0 ql;go_wp2_with fail;refine (HRO w1 HB1).mono ?_;rintro e3 w3 ⟨A3, c3, rfl, ho3, hb3⟩;have hnb : n <= bb := by have := H2.out; omega
   have hdc : (n : Int) <= (c3 : Int) := by have h2 := ho3.len_le.1; rw [HOL.out] at h2; omega
   have HO3 := zH ho3; have HB3 := zH hb3; have HNB := zH hnb;clear ho3 hb3 hnb;go_wp2_with fail;refine (same5_any A1 A3 n c3 _ _ n n w3 (by rw [List.length_take, HOL.out]; exact Nat.min_eq_left HNB.out) (by rw [List.length_take, HOL.out]; exact Nat.min_eq_left HNB.out) (by have := HNB.out; omega) ((HO1.reads.below HB3.out).more HB3.size) (HO3.reads.take n)).mono ?_;rintro e4 w4 ⟨rfl, hb4⟩;have t5 : decide (List.take n ((m.e t.data).out t.last) = List.take n ((m.e t.data).out t.last)) = true := decide_eq_true rfl;go_wp2_with fail;exact aZB (results_tmp rfl _ _ _) rfl ⟨rfl, bcall (bcall HB1 HB3) hb4⟩
end Go.Proofs.YtboihcigcfmhhaaGreat

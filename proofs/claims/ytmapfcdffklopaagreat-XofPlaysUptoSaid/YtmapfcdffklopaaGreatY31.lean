/-
  Y31: contracts and lemmas alone; no statement is claimed here.
-/
import Derived.Test.YtmapfcdffklopaaGreatY29
namespace Go.Proofs.YtmapfcdffklopaaGreat
open Go.RowKit
attribute [local go_sem] pureUpon Ords.of

set_option maxRecDepth 20000 in
theorem xgiven_any (base p : Nat) (big : Bool) (len : Int) (key ls lp : List UInt8) (wr : UInt64) (e : Eng) (root : List UInt8) (pos : Nat) (cs : Array Value) (Ak : Option Addr) (ck : Nat) (s pp : Sl) (q : Nat) (F : List Nat) (Ar : Option Addr) (cr : Nat) (hv : Int) (now : List UInt8) (w : World)
  (hX : XG w base p big len key ls lp wr e root pos cs Ak ck s pp q F Ar cr hv now) :
  Calls Tryz.prog 44 #[.pointer (some ⟨p, 0, none⟩)] w fun r w' => r = .returned (.tuple #[]) ∧ w = w' := by
 have h0 : 1 ≤ root.length := by rw [hX.rl]; cases big <;> decide
 obtain ⟨g, rfl, -⟩ : ∃ g, Ar = some ⟨g, 0, none⟩ ∧ True := by
  rcases hX.or.form with ⟨-, -, h⟩ | ⟨g, h, -⟩
  ·rw [h] at h0; cases h0
  ·exact ⟨g, h, trivial⟩
 have d9 : w.cell? ⟨p, 9, none⟩ = some (.slice (some ⟨g, 0, none⟩) (bOf big) (bOf big)) := (hX.blk.cell 9).trans hX.xc.c9
 have hbo : ∀ W, Sem.run Tryz.prog (Go.binOp .eql 22 (.slice (some ⟨g, 0, none⟩) (bOf big) (bOf big)) (.slice none 0 0)) W = .ok (.bool false) W := by intro W; rfl
 clear hX h0
 generalize bOf big = f at *
 go_enter Tryz.func44, Tryz.ntmps44
 go_wp2_with fail
 go_end0
 exact ⟨rfl, rfl⟩
def skipS (T pos n : Nat) : Nat × Int := if 0 < n ∧ T - pos = 0 then (0, 70) else (min n (T - pos), 0)
theorem XG.drewN {w : World} {base p : Nat} {big : Bool} {len : Int} {key ls lp : List UInt8} {wr : UInt64} {e : Eng} {root : List UInt8} {pos : Nat} {cs : Array Value} {Ak : Option Addr} {ck : Nat} {s pp : Sl} {q : Nat} {F : List Nat} {Ar : Option Addr} {cr : Nat} {hv : Int} {now : List UInt8} (h : XG w base p big len key ls lp wr e root pos cs Ak ck s pp q F Ar cr hv now) (n : Nat) : XG (w.drewN n) base p big len key ls lp wr e root pos cs Ak ck s pp q F Ar cr hv now :=
 ⟨h.blk.drewN n, h.xc, h.hnow, h.hls, h.hlp, h.ok.drewN n, h.os.drewN n, h.op.drewN n, h.fk, h.fs, h.fp, h.nd.drewN n, h.hp, h.hF, h.pF, h.or.drewN n, h.rl, h.fr, h.hve, h.hpos⟩
theorem XG.moved {w : World} {base p : Nat} {big : Bool} {len : Int} {key ls lp : List UInt8} {wr : UInt64} {e : Eng} {root : List UInt8} {pos : Nat} {cs : Array Value} {Ak : Option Addr} {ck : Nat} {s pp : Sl} {q : Nat} {F : List Nat} {Ar : Option Addr} {cr : Nat} {hv : Int} {now : List UInt8} (h : XG w base p big len key ls lp wr e root pos cs Ak ck s pp q F Ar cr hv now) (pos' : Nat) (hp : pos' ≤ totN (kOf big) len) : XG (w.setCell ⟨p, 10, none⟩ (.int .u64 pos')) base p big len key ls lp wr e root pos' (cs.setIfInBounds 10 (.int .u64 pos')) Ak ck s pp q F Ar cr hv now := by
 have B5 := But.setCell (p := ⟨p, 10, none⟩) (But.refl [p] w) (.inl (List.mem_singleton.2 rfl)) (.int .u64 pos')
 have sg : ∀ {k : Nat}, k ∈ [p] → k ∈ p :: F := fun h => List.mem_cons.2 (.inl (List.mem_singleton.1 h))
 exact ⟨h.blk.set_ 10 _, h.xc.put10 _, h.hnow, h.hls, h.hlp, h.ok.but B5 (fun a ha hm => h.fk a ha (sg hm)), h.os.but B5 (fun a ha hm => h.fs a ha (sg hm)), h.op.but B5 (fun a ha hm => h.fp a ha (sg hm)), h.fk, h.fs, h.fp, h.nd.but B5 (fun k hk hm => h.pF (by rw [← List.mem_singleton.1 hm]; exact hk)), h.hp, h.hF, h.pF, h.or.but B5 (fun a ha hm => h.fr a ha (sg hm)), h.rl, h.fr, h.hve, hp⟩
set_option maxRecDepth 20000 in
set_option maxHeartbeats 2000000 in
theorem xskip_of (Q : Option Addr → Prop) (base p : Nat) (big : Bool) (len : Int) (key ls lp : List UInt8) (wr : UInt64) (e : Eng) (root : List UInt8) (pos n T : Nat) (Ak : Option Addr) (ck : Nat) (s pp : Sl) (q : Nat) (F : List Nat) (w : World) (hn : n < 18446744073709551616) (hTT : totN (kOf big) len = T) (hT : xTotal (kOf big) len = T) (hT2 : T ≤ 274877906944) (hpo : pos ≤ T)
  (hno : Calls Tryz.prog 29 #[.pointer (some ⟨p, 0, none⟩)] w fun r w' => r = .returned (.bool false) ∧ w = w')
  (hgi : Calls Tryz.prog 44 #[.pointer (some ⟨p, 0, none⟩)] w fun r w' => r = .returned (.tuple #[]) ∧ ∃ cs' Ar cr hv now, XG w' base p big len key ls lp wr e root pos cs' Ak ck s pp q F Ar cr hv now ∧ But [p] w w' ∧ Q Ar) :
  Calls Tryz.prog 23 #[.pointer (some ⟨p, 0, none⟩), .int .u64 n] w fun r w' => r = .returned (.tuple #[.int .u64 (skipS T pos n).1, .int .i64 (skipS T pos n).2]) ∧ ∃ cs' Ar cr hv now, XG w' base p big len key ls lp wr e root (pos + (skipS T pos n).1) cs' Ak ck s pp q F Ar cr hv now ∧ But [p] w w' ∧ Q Ar := by
 have HNO := Lib.hid hno; have HGI := Lib.hid hgi; have HT := Lib.hid hT; have HTT := Lib.hid hTT; clear hno hgi hT hTT
 obtain ⟨L, hL⟩ : ∃ L, L = T - pos := ⟨_, rfl⟩
 have w1' : IntKind.u64.wrap ((T : Int) - (pos : Int)) = L := by rw [wrap_u64]; omega
 unfold skipS
 rw [← hL]
 by_cases h : 0 < n ∧ L = 0
 ·rw [if_pos h]
  obtain ⟨h1, h2⟩ := h
  have t1 : (0 < n) = True := by simp [h1]
  have t3 : (n = 0) = False := by simp; omega
  subst h2
  clear hL hpo hT2 hn h1
  go_enter Tryz.func23, Tryz.ntmps23
  go_wp2_with (go_at_call 29; refine HNO.out.mono ?_; rintro e0 w0 ⟨rfl, rfl⟩)
  refine HGI.out.mono ?_
  rintro e1 w1 ⟨rfl, cs, Ar, cr, hv, now, hX, hbut, hQ⟩
  have d3 : w1.cell? ⟨p, 3, none⟩ = some (.int .u64 T) := by rw [← HT.out]; exact (hX.blk.cell 3).trans hX.xc.c3
  have d10 : w1.cell? ⟨p, 10, none⟩ = some (.int .u64 pos) := (hX.blk.cell 10).trans hX.xc.c10
  have f10 := hX.blk.frozen 10
  have hpl := hX.blk.lt
  have HX := Lib.hid hX; have HB := Lib.hid hbut; have HQ := Lib.hid hQ; clear hX hbut hQ HGI HNO
  go_upto_region 4 with fail
  refine wp_region_ords (fun _ => True) (fun _ _ h => h) (Ords.of [(0, 0), (0, 1), (0, 2), (0, 3), (1, 4), (0, 5), (0, 6), (0, 7), (1, 8), (0, 9), (0, 10)] .fin) (by kernel_rfl) rfl (by kernel_rfl) (by kernel_rfl) (fun c a d v w h => by cases d <;> exact h) trivial ?_
  iterate 4 (refine ords_pure rfl (fun K hK => ?_); go_simp; refine hK _ ?_; clear hK K)
  refine ords_read rfl (fun K hK => ?_); go_simp; refine hK _ ?_; clear hK K
  iterate 3 (refine ords_pure rfl (fun K hK => ?_); go_simp; refine hK _ ?_; clear hK K)
  refine ords_read rfl (fun K hK => ?_); go_simp; refine hK _ ?_; clear hK K
  iterate 2 (refine ords_pure rfl (fun K hK => ?_); go_simp; refine hK _ ?_; clear hK K)
  refine ords_end (fun n1 => ?_)
  go_wp2_with fail
  exact bodyPost_ret (results_tmp2 rfl _ _ _) rfl ⟨rfl, cs, Ar, cr, hv, now, HX.out.drewN _, HB.out.drewN _, HQ.out⟩
 ·rw [if_neg h]
  by_cases h1 : 0 < n
  ·have t1 : (0 < n) = True := by simp [h1]
   have t2 : (L = 0) = False := by simp; omega
   have t3 : ((L : Int) == 0) = false := by simp; omega
   by_cases h2 : L < n
   ·rw [Nat.min_eq_right (Nat.le_of_lt h2)]
    have hm : pos + L ≤ T := by omega
    have w2' : IntKind.u64.wrap ((pos : Int) + (L : Int)) = ((pos + L : Nat) : Int) := by rw [wrap_u64]; omega
    have t4 : (L < n) = True := by simp [h2]
    have t5 : (n < L) = False := by simp; omega
    have t6 : (n ≤ L) = False := by simp; omega
    have HM := Lib.hid hm
    clear hL hpo hT2 hn hm h h1 h2
    go_enter Tryz.func23, Tryz.ntmps23
    go_wp2_with (go_at_call 29; refine HNO.out.mono ?_; rintro e0 w0 ⟨rfl, rfl⟩)
    refine HGI.out.mono ?_
    rintro e1 w1 ⟨rfl, cs, Ar, cr, hv, now, hX, hbut, hQ⟩
    have d3 : w1.cell? ⟨p, 3, none⟩ = some (.int .u64 T) := by rw [← HT.out]; exact (hX.blk.cell 3).trans hX.xc.c3
    have d10 : w1.cell? ⟨p, 10, none⟩ = some (.int .u64 pos) := (hX.blk.cell 10).trans hX.xc.c10
    have f10 := hX.blk.frozen 10
    have hpl := hX.blk.lt
    have HX := Lib.hid hX; have HB := Lib.hid hbut; have HQ := Lib.hid hQ; clear hX hbut hQ HGI HNO
    go_upto_region 4 with fail
    refine wp_region_ords (fun _ => True) (fun _ _ h => h) (Ords.of [(0, 0), (0, 1), (0, 2), (0, 3), (1, 4), (0, 5), (0, 6), (0, 7), (1, 8), (0, 9), (0, 10)] .fin) (by kernel_rfl) rfl (by kernel_rfl) (by kernel_rfl) (fun c a d v w h => by cases d <;> exact h) trivial ?_
    iterate 4 (refine ords_pure rfl (fun K hK => ?_); go_simp; refine hK _ ?_; clear hK K)
    refine ords_read rfl (fun K hK => ?_); go_simp; refine hK _ ?_; clear hK K
    iterate 3 (refine ords_pure rfl (fun K hK => ?_); go_simp; refine hK _ ?_; clear hK K)
    refine ords_read rfl (fun K hK => ?_); go_simp; refine hK _ ?_; clear hK K
    iterate 2 (refine ords_pure rfl (fun K hK => ?_); go_simp; refine hK _ ?_; clear hK K)
    refine ords_end (fun n1 => ?_)
    go_wp2_with fail
    exact bodyPost_ret (results_tmp2 rfl _ _ _) rfl ⟨rfl, _, Ar, cr, hv, now, (HX.out.drewN _).moved (pos + L) (by rw [HTT.out]; exact HM.out), But.setCell (p := ⟨p, 10, none⟩) (HB.out.drewN _) (.inl (List.mem_singleton.2 rfl)) _, HQ.out⟩
   ·rw [Nat.min_eq_left (by omega)]
    have hm : pos + n ≤ T := by omega
    have w2' : IntKind.u64.wrap ((pos : Int) + (n : Int)) = ((pos + n : Nat) : Int) := by rw [wrap_u64]; omega
    have t4 : (L < n) = False := by simp; omega
    have t6 : (n ≤ L) = True := by simp; omega
    have HM := Lib.hid hm
    clear hL hpo hT2 hn hm h h1 h2
    go_enter Tryz.func23, Tryz.ntmps23
    go_wp2_with (go_at_call 29; refine HNO.out.mono ?_; rintro e0 w0 ⟨rfl, rfl⟩)
    refine HGI.out.mono ?_
    rintro e1 w1 ⟨rfl, cs, Ar, cr, hv, now, hX, hbut, hQ⟩
    have d3 : w1.cell? ⟨p, 3, none⟩ = some (.int .u64 T) := by rw [← HT.out]; exact (hX.blk.cell 3).trans hX.xc.c3
    have d10 : w1.cell? ⟨p, 10, none⟩ = some (.int .u64 pos) := (hX.blk.cell 10).trans hX.xc.c10
    have f10 := hX.blk.frozen 10
    have hpl := hX.blk.lt
    have HX := Lib.hid hX; have HB := Lib.hid hbut; have HQ := Lib.hid hQ; clear hX hbut hQ HGI HNO
    go_upto_region 4 with fail
    refine wp_region_ords (fun _ => True) (fun _ _ h => h) (Ords.of [(0, 0), (0, 1), (0, 2), (0, 3), (1, 4), (0, 5), (0, 6), (0, 7), (1, 8), (0, 9), (0, 10)] .fin) (by kernel_rfl) rfl (by kernel_rfl) (by kernel_rfl) (fun c a d v w h => by cases d <;> exact h) trivial ?_
    iterate 4 (refine ords_pure rfl (fun K hK => ?_); go_simp; refine hK _ ?_; clear hK K)
    refine ords_read rfl (fun K hK => ?_); go_simp; refine hK _ ?_; clear hK K
    iterate 3 (refine ords_pure rfl (fun K hK => ?_); go_simp; refine hK _ ?_; clear hK K)
    refine ords_read rfl (fun K hK => ?_); go_simp; refine hK _ ?_; clear hK K
    iterate 2 (refine ords_pure rfl (fun K hK => ?_); go_simp; refine hK _ ?_; clear hK K)
    refine ords_end (fun n1 => ?_)
    go_wp2_with fail
    exact bodyPost_ret (results_tmp2 rfl _ _ _) rfl ⟨rfl, _, Ar, cr, hv, now, (HX.out.drewN _).moved (pos + n) (by rw [HTT.out]; exact HM.out), But.setCell (p := ⟨p, 10, none⟩) (HB.out.drewN _) (.inl (List.mem_singleton.2 rfl)) _, HQ.out⟩
  ·have hn0 : n = 0 := by omega
   subst hn0
   have w2' : IntKind.u64.wrap (pos : Int) = (pos : Int) := by rw [wrap_u64]; omega
   have HM := Lib.hid hpo
   clear hL hpo hT2 hn h h1
   rw [Nat.zero_min]
   go_enter Tryz.func23, Tryz.ntmps23
   go_wp2_with (go_at_call 29; refine HNO.out.mono ?_; rintro e0 w0 ⟨rfl, rfl⟩)
   refine HGI.out.mono ?_
   rintro e1 w1 ⟨rfl, cs, Ar, cr, hv, now, hX, hbut, hQ⟩
   have d3 : w1.cell? ⟨p, 3, none⟩ = some (.int .u64 T) := by rw [← HT.out]; exact (hX.blk.cell 3).trans hX.xc.c3
   have d10 : w1.cell? ⟨p, 10, none⟩ = some (.int .u64 pos) := (hX.blk.cell 10).trans hX.xc.c10
   have f10 := hX.blk.frozen 10
   have hpl := hX.blk.lt
   have HX := Lib.hid hX; have HB := Lib.hid hbut; have HQ := Lib.hid hQ; clear hX hbut hQ HGI HNO
   go_upto_region 4 with fail
   refine wp_region_ords (fun _ => True) (fun _ _ h => h) (Ords.of [(0, 0), (0, 1), (0, 2), (0, 3), (1, 4), (0, 5), (0, 6), (0, 7), (1, 8), (0, 9), (0, 10)] .fin) (by kernel_rfl) rfl (by kernel_rfl) (by kernel_rfl) (fun c a d v w h => by cases d <;> exact h) trivial ?_
   iterate 4 (refine ords_pure rfl (fun K hK => ?_); go_simp; refine hK _ ?_; clear hK K)
   refine ords_read rfl (fun K hK => ?_); go_simp; refine hK _ ?_; clear hK K
   iterate 3 (refine ords_pure rfl (fun K hK => ?_); go_simp; refine hK _ ?_; clear hK K)
   refine ords_read rfl (fun K hK => ?_); go_simp; refine hK _ ?_; clear hK K
   iterate 2 (refine ords_pure rfl (fun K hK => ?_); go_simp; refine hK _ ?_; clear hK K)
   refine ords_end (fun n1 => ?_)
   go_wp2_with fail
   exact bodyPost_ret (results_tmp2 rfl _ _ _) rfl ⟨rfl, _, Ar, cr, hv, now, (HX.out.drewN _).moved (pos + 0) (by rw [HTT.out]; exact HM.out), But.setCell (p := ⟨p, 10, none⟩) (HB.out.drewN _) (.inl (List.mem_singleton.2 rfl)) _, HQ.out⟩
end Go.Proofs.YtmapfcdffklopaaGreat

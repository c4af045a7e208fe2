/-
  Y41: contracts and lemmas alone; no statement is claimed here.
-/
import Derived.Test.YtmapfcdffklopaaGreatY40
namespace Go.Proofs.YtmapfcdffklopaaGreat
open Go.RowKit
attribute [local go_sem] pureUpon Ords.of

set_option maxRecDepth 20000 in
theorem rxWriteNo_any (H q : Nat) (m : Xm) (t : XSt) (hgv : t.gv = true) (Ak : Option Addr) (ck : Nat) (s tt : Sl) (Am : Option Addr) (nm cm : Nat) (Ad : Option Addr) (nd cd : Nat) (w : World) (h : RX w H q m t Ak ck s tt Am nm cm) :
  Calls Tryz.prog 22 #[.pointer (some ⟨q, 0, none⟩), .slice Ad nd cd] w fun r w' => r = .returned (.int .i64 5) ∧ w = w' := by
 have q6 : w.cell? ⟨q, 6, none⟩ = some (.bool true) := by have := h.cell 6; rw [hgv] at this; exact this
 clear h hgv
 go_enter Tryz.func22, Tryz.ntmps22
 go_wp2_with fail
 exact bodyPost_ret (results_tmp rfl _ _ _) rfl ⟨rfl, rfl⟩
structure RXw (w wr : World) (H q : Nat) (m : Xm) (Ak : Option Addr) (ck : Nat) (s tt : Sl) (pos : Nat) (M : List UInt8) (Am : Option Addr) (n : Nat) (A : Option Addr) (c : Nat) : Prop where
  blk : Blk wr q 38 (rsCells m Ak ck s tt (.slice A n c) false pos)
  own : OS cB wr H A c M
  far : ∀ a, A = some a → a.block ≠ q
  row : ∀ a, A = some a → a.block ∈ obl Am ∨ w.heap.size ≤ a.block
  but : But (q :: obl Am) w wr
set_option maxRecDepth 20000 in
set_option maxHeartbeats 4000000 in
theorem rxWrite_any (H q : Nat) (m : Xm) (t : XSt) (hgv : t.gv = false) (Ak : Option Addr) (ck : Nat) (s tt : Sl) (Am : Option Addr) (nm cm : Nat) (Ad : Option Addr) (nd cd : Nat) (data : List UInt8) (w : World) (h : RX w H q m t Ak ck s tt Am nm cm) (hd : data.length = nd) (hr : RS cB w H Ad data) (hlen : nm + nd ≤ 140737488355328) :
  Calls Tryz.prog 22 #[.pointer (some ⟨q, 0, none⟩), .slice Ad nd cd] w fun r w' => r = .returned (.int .i64 0) ∧ ∃ Am' cm', RX w' H q m ⟨t.msg ++ data, false, t.pos⟩ Ak ck s tt Am' (nm + nd) cm' ∧ But (q :: obl Am) w w' ∧ (∀ a, Am' = some a → a.block ∈ obl Am ∨ w.heap.size ≤ a.block) := by
 have HN := Lib.hid h; have HR := Lib.hid hr; have HD := Lib.hid hd; clear hr hd
 have hqb : H ≤ q := HN.out.lo
 have hq0 : q < w.heap.size := HN.out.blk.lt
 have hOB : Hid (∀ a, Am = some a → H ≤ a.block) := fun a ha => (HN.out.own.block_lt a ha).1
 have H0 : Hid (RXw w w H q m Ak ck s tt t.pos (t.msg ++ data.take 0) Am (nm + 0) Am cm) := ⟨by have := h.blk; rw [hgv] at this; exact this, by rw [List.take_zero, List.append_nil]; exact HN.out.own, HN.out.far, fun a ha => .inl (by rw [ha]; simp [obl]), But.refl _ _⟩
 have q6 : w.cell? ⟨q, 6, none⟩ = some (.bool false) := by have := h.cell 6; rw [hgv] at this; exact this
 clear hgv h
 go_enter Tryz.func22, Tryz.ntmps22
 go_wp2_with fail
 clear q6
 go_loopw [5] (fun i wr => ∃ (k n : Nat) (A : Option Addr) (c : Nat), k ≤ nd ∧ i = .int .i64 k ∧ n = nm + k ∧ RXw w wr H q m Ak ck s tt t.pos (t.msg ++ data.take k) Am n A c) (fun i _ => nd - (intOf i).toNat)
 case atStart => exact ⟨0, nm, Am, cm, Nat.zero_le _, rfl, rfl, H0.out⟩
 case round =>
  clear H0
  obtain ⟨k, n, A, c, hk, rfl, hnk, hrw⟩ := hrel
  have HW := Lib.hid hrw; have HNK := Lib.hid hnk; clear hrw
  have hqs : q < wr.heap.size := HW.out.blk.lt
  have hBe : Below H w wr := HW.out.but.toBelow (by omega) (fun j hj => by
   rcases List.mem_cons.1 hj with rfl | h
   ·exact hqb
   ·obtain ⟨a, ha, hb⟩ := mem_obl.1 h
    rw [← hb]; exact hOB.out a ha)
  have HRW := Lib.hid (HR.out.below hBe)
  clear hBe
  by_cases hlt : k < nd
  ·obtain ⟨ad, x, rfl, hab, hlx, hcx⟩ := HRW.out.at_ (k := k) (by rw [HD.out]; exact hlt)
   change wr.cell? (ad.add k) = some (.int .u8 (byt x)) at hcx
   have htk := take_more data k x hlx
   have HTK := Lib.hid htk
   have HML : Hid ((t.msg ++ data.take k).length = n) := by show _ = _; rw [List.length_append, HN.out.len, List.length_take, HD.out, HNK.out]; omega
   have hkd : decide ((k : Int) < nd) = true := by simp; omega
   have hki : (k : Int) < nd := by omega
   have hnb : n + 1 ≤ 140737488355328 := by omega
   have c5 : wr.cell? ⟨q, 5, none⟩ = some (.slice A n c) := HW.out.blk.cell 5
   have d5 : ∀ a, ((wr.drewN a).alloc (.cells #[.int .u8 (byt x)] 5)).cell? ⟨q, 5, none⟩ = some (.slice A n c) := fun a => ((HW.out.blk.drewN a).alloc _).cell 5
   have hcell : Hid (∀ W', RS cB W' H (some ad) data → W'.cell? (ad.add k) = some (.int .u8 (byt x))) := fun W' h => by
    obtain ⟨ad', x', e1, -, hlx', hcx'⟩ := h.at_ (k := k) (by rw [HD.out]; exact hlt)
    cases e1
    rw [hlx] at hlx'
    cases hlx'
    exact hcx'
   clear hnk htk hlx
   go_wp2_with fail
   refine wp_region_ords (fun W' => RS cB W' H (some ad) data) (fun _ n h => h.drewN n) (Ords.of [(0, 0), (0, 1), (0, 2), (0, 3), (0, 5), (0, 6), (0, 7), (0, 8)] (.two 4 9 (Ords.of [(2, 9), (2, 10), (0, 11), (0, 12), (2, 13)] .fin) (Ords.of [(2, 4), (2, 10), (0, 11), (0, 12), (2, 13)] .fin))) (by kernel_rfl) rfl (by kernel_rfl) (by kernel_rfl) (fun c a d v w h => by cases d <;> exact h) HRW.out ?_
   iterate 7 (refine ords_pure rfl (fun K hK => ?_); go_simp; refine hK _ ?_; clear hK K)
   refine ords_heldK rfl (fun K K2 hK hK2 => ?_); go_simp; refine ⟨hK2 _ (fun w9 hS => ?_), hK _ ?_⟩; (clear hK hK2 K K2; have q0 := hcell.out w9 hS; go_simp); (clear hK hK2 K K2)
   refine ords_two rfl rfl (fun n1 => ?_) (fun n1 => ?_)
   ·go_wp2
    refine ⟨by first | exact HRW.out.drewN _ | exact ((HRW.out.drewN _).alloc (by simp; omega) _).drewN _, ?_⟩
    refine ords_loud rfl (fun n2 => ?_)
    go_wp2
    refine ⟨((HRW.out.drewN _).alloc (by simp; omega) _), ?_⟩
    refine ords_loud rfl (fun n3 => ?_)
    (try simp only [World.drewN_drewN])
    (refine wpList_appB1 _ rfl (.tmp 20) (.tmp 25) rfl (((HW.out.own.drewN _).alloc _).drewN _) rfl HML.out rfl (show World.cell? (World.drewN (World.alloc _ _) _) _ = _ from cnew _ _ _ rfl) x rfl (by omega) (by simp; omega) ?_; intro A3 c3 w3 ho3 hg3 hA3)
    have hbl3 := ((((HW.out.blk.drewN _).alloc _).drewN _).grown hg3 (fun h => by
     cases hA : A with
     | none => rw [hA] at h; cases h
     | some a => rw [hA] at h; exact HW.out.far a hA (Option.some.inj h).symm))
    have hrs3 := ((((HRW.out.drewN _).alloc (by simp; omega) _).drewN _).grown hg3 (by simp; omega) (fun g hg => by
     cases hA : A with
     | none => rw [hA] at hg; cases hg
     | some a => rw [hA] at hg; have h := (HW.out.own.block_lt a hA).1; have h2 : a.block = g := Option.some.inj hg; omega))
    have hrow3 : ∀ a, A3 = some a → a.block ∈ obl Am ∨ w.heap.size ≤ a.block := fun a ha => by
     rw [ha] at hA3
     rcases hA3 with h | h
     ·cases hA : A with
      | none => rw [hA] at h; cases h
      | some b => rw [hA] at h; have h2 : a.block = b.block := Option.some.inj h; rw [h2]; exact HW.out.row b hA
     ·have h2 : a.block = _ := Option.some.inj h; have h3 := HW.out.but.size; simp at h2; right; omega
    have hfar3 : ∀ a, A3 = some a → a.block ≠ q := fun a ha => by
     rw [ha] at hA3
     rcases hA3 with h | h
     ·cases hA : A with
      | none => rw [hA] at h; cases h
      | some b => rw [hA] at h; have h2 : a.block = b.block := Option.some.inj h; rw [h2]; exact HW.out.far b hA
     ·have h2 : a.block = _ := Option.some.inj h; simp at h2; omega
    have hbut3 : But (q :: obl Am) w w3 := (((HW.out.but.drewN _).alloc _).drewN _).trans (But.grown (F := obl A) hg3 (fun j hj => by
     cases hA : A with
     | none => rw [hA] at hj; cases hj
     | some b => rw [hA] at hj; have h2 : b.block = j := Option.some.inj hj; left; simp [obl]; omega)) (fun j hj => by
     obtain ⟨a, ha, hb⟩ := mem_obl.1 hj
     rcases HW.out.row a ha with h | h
     ·left; rw [← hb]; exact List.mem_cons_of_mem _ h
     ·right; omega)
    have g5 := hbl3.cell 5
    change w3.cell? ⟨q, 5, none⟩ = some (.slice A n c) at g5
    have f5 := hbl3.frozen 5
    have hbb : ∀ a b, Blk (((w3.drewN a).setCell ⟨q, 5, none⟩ (.slice A3 (n + 1) c3)).drewN b) q 38 (rsCells m Ak ck s tt (.slice A3 (n + 1) c3) false t.pos) := fun a b => ((hbl3.drewN a).set_ 5 _).drewN b
    have hoo : ∀ a b, OS cB (((w3.drewN a).setCell ⟨q, 5, none⟩ (.slice A3 (n + 1) c3)).drewN b) H A3 c3 (t.msg ++ data.take (k + 1)) := fun a b => by
     have ho := ((ho3.drewN a).setFar (p := ⟨q, 5, none⟩) hfar3 (.slice A3 (n + 1) c3)).drewN b
     rw [List.append_assoc, ← HTK.out] at ho
     exact ho
    have HB3 := Lib.hid hbb; have HRS3 := Lib.hid hrs3; have HROW3 := Lib.hid hrow3; have HFAR3 := Lib.hid hfar3; have HBUT3 := Lib.hid hbut3; have HO3 := Lib.hid hoo
    clear hbb hoo hbl3 hrs3 hrow3 hfar3 hbut3 ho3 hg3 hA3
    go_wp2
    refine ⟨HRS3.out, ?_⟩
    iterate 2 (refine ords_pure rfl (fun K hK => ?_); go_simp; refine hK _ ?_; clear hK K)
    refine ords_loud rfl (fun n4 => ?_)
    go_wp2
    refine ⟨(HRS3.out.drewN _).setCell hqb _, ?_⟩
    refine ords_end (fun n5 => ?_)
    go_wp2_with fail
    go_roundw
    case rel =>
     exact ⟨k + 1, n + 1, A3, c3, by omega, by go_num, by have := HNK.out; omega, ⟨HB3.out _ _, HO3.out _ _, HFAR3.out, HROW3.out, ((HBUT3.out.drewN _).setCell (p := ⟨q, 5, none⟩) (.inl (by simp)) _).drewN _⟩⟩
    case measure => simp [intOf]; omega
   ·go_wp2
    refine ⟨((HRW.out.drewN _).alloc (by simp; omega) _), ?_⟩
    refine ords_loud rfl (fun n2 => ?_)
    go_wp2
    refine ⟨by first | exact HRW.out.drewN _ | exact ((HRW.out.drewN _).alloc (by simp; omega) _).drewN _, ?_⟩
    refine ords_loud rfl (fun n3 => ?_)
    (try simp only [World.drewN_drewN])
    (refine wpList_appB1 _ rfl (.tmp 20) (.tmp 25) rfl (((HW.out.own.drewN _).alloc _).drewN _) rfl HML.out rfl (show World.cell? (World.drewN (World.alloc _ _) _) _ = _ from cnew _ _ _ rfl) x rfl (by omega) (by simp; omega) ?_; intro A3 c3 w3 ho3 hg3 hA3)
    have hbl3 := ((((HW.out.blk.drewN _).alloc _).drewN _).grown hg3 (fun h => by
     cases hA : A with
     | none => rw [hA] at h; cases h
     | some a => rw [hA] at h; exact HW.out.far a hA (Option.some.inj h).symm))
    have hrs3 := ((((HRW.out.drewN _).alloc (by simp; omega) _).drewN _).grown hg3 (by simp; omega) (fun g hg => by
     cases hA : A with
     | none => rw [hA] at hg; cases hg
     | some a => rw [hA] at hg; have h := (HW.out.own.block_lt a hA).1; have h2 : a.block = g := Option.some.inj hg; omega))
    have hrow3 : ∀ a, A3 = some a → a.block ∈ obl Am ∨ w.heap.size ≤ a.block := fun a ha => by
     rw [ha] at hA3
     rcases hA3 with h | h
     ·cases hA : A with
      | none => rw [hA] at h; cases h
      | some b => rw [hA] at h; have h2 : a.block = b.block := Option.some.inj h; rw [h2]; exact HW.out.row b hA
     ·have h2 : a.block = _ := Option.some.inj h; have h3 := HW.out.but.size; simp at h2; right; omega
    have hfar3 : ∀ a, A3 = some a → a.block ≠ q := fun a ha => by
     rw [ha] at hA3
     rcases hA3 with h | h
     ·cases hA : A with
      | none => rw [hA] at h; cases h
      | some b => rw [hA] at h; have h2 : a.block = b.block := Option.some.inj h; rw [h2]; exact HW.out.far b hA
     ·have h2 : a.block = _ := Option.some.inj h; simp at h2; omega
    have hbut3 : But (q :: obl Am) w w3 := (((HW.out.but.drewN _).alloc _).drewN _).trans (But.grown (F := obl A) hg3 (fun j hj => by
     cases hA : A with
     | none => rw [hA] at hj; cases hj
     | some b => rw [hA] at hj; have h2 : b.block = j := Option.some.inj hj; left; simp [obl]; omega)) (fun j hj => by
     obtain ⟨a, ha, hb⟩ := mem_obl.1 hj
     rcases HW.out.row a ha with h | h
     ·left; rw [← hb]; exact List.mem_cons_of_mem _ h
     ·right; omega)
    have g5 := hbl3.cell 5
    change w3.cell? ⟨q, 5, none⟩ = some (.slice A n c) at g5
    have f5 := hbl3.frozen 5
    have hbb : ∀ a b, Blk (((w3.drewN a).setCell ⟨q, 5, none⟩ (.slice A3 (n + 1) c3)).drewN b) q 38 (rsCells m Ak ck s tt (.slice A3 (n + 1) c3) false t.pos) := fun a b => ((hbl3.drewN a).set_ 5 _).drewN b
    have hoo : ∀ a b, OS cB (((w3.drewN a).setCell ⟨q, 5, none⟩ (.slice A3 (n + 1) c3)).drewN b) H A3 c3 (t.msg ++ data.take (k + 1)) := fun a b => by
     have ho := ((ho3.drewN a).setFar (p := ⟨q, 5, none⟩) hfar3 (.slice A3 (n + 1) c3)).drewN b
     rw [List.append_assoc, ← HTK.out] at ho
     exact ho
    have HB3 := Lib.hid hbb; have HRS3 := Lib.hid hrs3; have HROW3 := Lib.hid hrow3; have HFAR3 := Lib.hid hfar3; have HBUT3 := Lib.hid hbut3; have HO3 := Lib.hid hoo
    clear hbb hoo hbl3 hrs3 hrow3 hfar3 hbut3 ho3 hg3 hA3
    go_wp2
    refine ⟨HRS3.out, ?_⟩
    iterate 2 (refine ords_pure rfl (fun K hK => ?_); go_simp; refine hK _ ?_; clear hK K)
    refine ords_loud rfl (fun n4 => ?_)
    go_wp2
    refine ⟨(HRS3.out.drewN _).setCell hqb _, ?_⟩
    refine ords_end (fun n5 => ?_)
    go_wp2_with fail
    go_roundw
    case rel =>
     exact ⟨k + 1, n + 1, A3, c3, by omega, by go_num, by have := HNK.out; omega, ⟨HB3.out _ _, HO3.out _ _, HFAR3.out, HROW3.out, ((HBUT3.out.drewN _).setCell (p := ⟨q, 5, none⟩) (.inl (by simp)) _).drewN _⟩⟩
    case measure => simp [intOf]; omega
  ·obtain rfl : k = nd := by omega
   have hB2 : Below H w wr := HW.out.but.toBelow (by omega) (fun j hj => by
    rcases List.mem_cons.1 hj with rfl | h
    ·exact hqb
    ·obtain ⟨a, ha, hb⟩ := mem_obl.1 h
     rw [← hb]; exact hOB.out a ha)
   have HB2 := Lib.hid hB2; clear hB2 hnk
   go_wp2_with fail
   have ho := HW.out.own
   rw [List.take_of_length_le (Nat.le_of_eq HD.out)] at ho
   refine bodyPost_ret (results_tmp rfl _ _ _) rfl ⟨rfl, A, c, ⟨?_, ho, ?_, HW.out.far, hqb, HN.out.hls, HN.out.hlp, HN.out.rk.below HB2.out, HN.out.rs.below HB2.out, HN.out.rp.below HB2.out⟩, HW.out.but, HW.out.row⟩
   ·rw [← HNK.out]; exact HW.out.blk
   ·rw [List.length_append, HN.out.len, HD.out]
end Go.Proofs.YtmapfcdffklopaaGreat

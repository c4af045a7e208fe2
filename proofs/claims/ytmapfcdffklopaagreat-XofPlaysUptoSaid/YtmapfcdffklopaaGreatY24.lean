/-
  Y24: contracts and lemmas alone; no statement is claimed here.
-/
import Derived.Test.YtmapfcdffklopaaGreatY17
import Derived.Test.YtmapfcdffklopaaGreatY21
namespace Go.Proofs.YtmapfcdffklopaaGreat
open Go.RowKit
attribute [local go_sem] pureUpon Ords.of

theorem xValid_bad {k len : Int} {nk : Nat} {s t : Sl} (h : ¬ xOK k len) : xValid k len nk s t = 1 := by unfold xValid; rw [if_pos h]
theorem xValid_key {k len : Int} {nk : Nat} {s t : Sl} (h : xOK k len) (h2 : mostOf k < nk) : xValid k len nk s t = 8 := by unfold xValid; rw [if_neg (fun h3 => h3 h), if_pos h2]
theorem xValid_chk {k len : Int} {nk : Nat} {s t : Sl} (h : xOK k len) (h2 : ¬ mostOf k < nk) : xValid k len nk s t = chk k (rootP k len nk s t) := by unfold xValid; rw [if_neg (fun h3 => h3 h), if_neg h2]
def zSh : Array Value := #[.int .i64 0, .int .i64 0, .int .u32 0, .int .u64 0, .bool false]
set_option maxRecDepth 20000 in
set_option maxHeartbeats 2000000 in
theorem xvalid_any (k len : Int) (Ak : Option Addr) (nk ck : Nat) (s p : Sl) (w : World) :
  Calls Tryz.prog 38 #[.int .i64 k, .int .i64 len, .slice Ak nk ck, s.v, p.v] w fun e w' => ∃ c t kn, e = .returned (.tuple #[.agg (shCells k c t kn), .int .i64 (xValid k len nk s p)]) ∧ (xValid k len nk s p = 0 → c = xCode k len ∧ t = xTotal k len ∧ kn = decide (len ≠ -1)) ∧ Below w.heap.size w w' := by
 have hs := fun W => shaped_any k len W
 have hu := Lib.hid Tryz.underlying67
 obtain ⟨f, hmo⟩ : ∃ f, mostOf k = f := ⟨_, rfl⟩
 by_cases ho : xOK k len
 ·rw [decide_eq_true ho] at hs
  by_cases hk : mostOf k < nk
  ·rw [xValid_key ho hk]
   have t1 : decide (f < (nk : Int)) = true := by rw [← hmo]; simpa using hk
   have HS := Lib.hid hs; clear hs ho hk
   unfold Sl.v
   go_enter Tryz.func38, Tryz.ntmps38
   go_wp2_with fail
   refine (HS.out _).mono ?_
   rintro e1 w1 ⟨c, t, kn, rfl, hok, hb1⟩
   have hz := ((Blk.new w 67 zSh).below hb1 (by simp)).alloc (.cells (shCells k c t kn) 67)
   have hn := Blk.new w1 67 (shCells k c t kn)
   have hB := bal (bcall (bal (b0 w) _) hb1) (.cells (shCells k c t kn) 67)
   have hlt : w.heap.size < w1.heap.size := by have := hb1.size; simp at this; omega
   have hsz : Hid ((Tryz.prog.info? 67).map (·.size) = some (shCells k c t kn).size) := by show _ = _; kernel_rfl
   have hal : Hid ((shCells k c t kn).all (·.oneCell') = true) := by show _ = _; simp [shCells, Value.oneCell']
   have hold : Hid (zSh.size = (shCells k c t kn).size) := rfl
   have HZ := Lib.hid hz; have HN := Lib.hid hn; have HB := Lib.hid hB; have HOK := Lib.hid hok
   unfold shCells at HZ HN HB hsz hal hold ⊢
   rw [hmo] at HZ HN HB hsz hal hold ⊢
   clear hz hn hB hb1 hok
   go_wp2_with (refine wpList_store_row rfl 67 _ _ rfl w.heap.size #[.int .i64 k, .int .i64 f, .int .u32 c, .int .u64 t, .bool kn] rfl rfl 67 _ HZ.out hsz.out hold.out hal.out ?_)
   exact bodyPost_ret (results_cell_tmp rfl _ _ w.heap.size _ _ _ rfl (HZ.out.row _) hu.out rfl hsz.out) rfl ⟨c, t, kn, (by unfold shCells; rw [hmo]; rfl), (fun h => absurd h (by decide)), brow HB.out (Nat.le_refl _) _⟩
  ·rw [xValid_chk ho hk]
   have t1 : decide (f < (nk : Int)) = false := by rw [← hmo]; simpa using hk
   have hck := fun P W => check_any k P W
   have hpa := fun c t kn W => pars_any k f c t kn Ak nk ck s p W
   have HS := Lib.hid hs; have HCK := Lib.hid hck; have HPA := Lib.hid hpa; have HO := Lib.hid ho; clear hs hk hck hpa ho
   unfold Sl.v at *
   go_enter Tryz.func38, Tryz.ntmps38
   go_wp2_with fail
   refine (HS.out _).mono ?_
   rintro e1 w1 ⟨c, t, kn, rfl, hok, hb1⟩
   have hz := ((Blk.new w 67 zSh).below hb1 (by simp)).alloc (.cells (shCells k c t kn) 67)
   have hn := Blk.new w1 67 (shCells k c t kn)
   have hB := bal (bcall (bal (b0 w) _) hb1) (.cells (shCells k c t kn) 67)
   have hlt : w.heap.size < w1.heap.size := by have := hb1.size; simp at this; omega
   have hsz : Hid ((Tryz.prog.info? 67).map (·.size) = some (shCells k c t kn).size) := by show _ = _; kernel_rfl
   have hal : Hid ((shCells k c t kn).all (·.oneCell') = true) := by show _ = _; simp [shCells, Value.oneCell']
   have hold : Hid (zSh.size = (shCells k c t kn).size) := rfl
   have HZ := Lib.hid hz; have HN := Lib.hid hn; have HB := Lib.hid hB; have HOK := Lib.hid hok
   unfold shCells at HZ HN HB hsz hal hold ⊢
   rw [hmo] at HZ HN HB hsz hal hold ⊢
   clear hz hn hB hb1 hok
   obtain ⟨hc1, ht1, hk1⟩ := HOK.out HO.out
   have HC1 := Lib.hid hc1; have HT1 := Lib.hid ht1; have HK1 := Lib.hid hk1; clear hc1 ht1 hk1
   obtain ⟨g, hg⟩ : ∃ g, g = w1.heap.size := ⟨_, rfl⟩
   obtain ⟨b, hb⟩ : ∃ b, b = w.heap.size := ⟨_, rfl⟩
   have hn := HN.out; have hz := HZ.out; have hB := HB.out
   rw [← hg] at hn hlt; rw [← hb] at hz hlt
   clear HN HZ HB
   go_upto_region 6 with fail
   rw [← hg, ← hb]
   generalize w1.alloc _ = w2 at *
   have d0 : w2.cell? ⟨g, 0, none⟩ = some (.int .i64 k) := hn.cell 0
   have d1 : w2.cell? ⟨g, 1, none⟩ = some (.int .i64 f) := hn.cell 1
   have d2 : w2.cell? ⟨g, 2, none⟩ = some (.int .u32 c) := hn.cell 2
   have d3 : w2.cell? ⟨g, 3, none⟩ = some (.int .u64 t) := hn.cell 3
   have d4 : w2.cell? ⟨g, 4, none⟩ = some (.bool kn) := hn.cell 4
   have HN := Lib.hid hn; have HZ := Lib.hid hz; have HB := Lib.hid hB; have HBE := Lib.hid hb; clear hn hz hB hb hg
   refine wp_region_ords (fun w' => Blk w' g 67 #[.int .i64 k, .int .i64 f, .int .u32 c, .int .u64 t, .bool kn]) (fun _ n h => h.drewN n) (Ords.of [(0, 0), (0, 1), (0, 2), (0, 3), (0, 4), (0, 5), (2, 6), (2, 7), (2, 8), (0, 9)] .fin) (by kernel_rfl) rfl (by kernel_rfl) (by kernel_rfl) (fun c a d v w h => by cases d <;> exact h) HN.out ?_
   iterate 2 (refine ords_heldK rfl (fun K K2 hK hK2 => ?_); go_simp; refine ⟨hK2 _ (fun w9 hS => ?_), hK _ ?_⟩; (clear hK hK2 K K2; have q0 : w9.cell? ⟨g, 0, none⟩ = some (.int .i64 k) := hS.cell 0; have q1 : w9.cell? ⟨g, 1, none⟩ = some (.int .i64 f) := hS.cell 1; have q2 : w9.cell? ⟨g, 2, none⟩ = some (.int .u32 c) := hS.cell 2; have q3 : w9.cell? ⟨g, 3, none⟩ = some (.int .u64 t) := hS.cell 3; have q4 : w9.cell? ⟨g, 4, none⟩ = some (.bool kn) := hS.cell 4; go_simp); (clear hK hK2 K K2); refine ords_pure rfl (fun K hK => ?_); go_simp; refine hK _ ?_; clear hK K)
   iterate 2 (refine ords_pure rfl (fun K hK => ?_); go_simp; refine hK _ ?_; clear hK K)
   refine ords_loud rfl (fun n1 => ?_)
   go_wp2_with (go_at_call 59; refine (HPA.out c t kn _).mono ?_; rintro e3 w3 ⟨rfl, hb3⟩)
   have M1 := Lib.hid ((HN.out.drewN _).below hb3 (HN.out.drewN _).lt); have M0 := Lib.hid ((HZ.out.drewN _).below hb3 (HZ.out.drewN _).lt); have MB := Lib.hid (bcall (bdr HB.out _) hb3); clear hb3
   refine ⟨M1.out, ?_⟩
   refine ords_loud rfl (fun n2 => ?_)
   go_wp2_with (go_at_call 58; refine (HCK.out ⟨f, nk, 1, 1, 0, 0, c, 0, 0, s, p⟩ _).mono ?_; rintro e4 w4 ⟨rfl, hb4⟩)
   have K1 := Lib.hid ((M1.out.drewN _).below hb4 (M1.out.drewN _).lt); have K0 := Lib.hid ((M0.out.drewN _).below hb4 (M0.out.drewN _).lt); have KB := Lib.hid (bcall (bdr MB.out _) hb4); clear hb4
   refine ⟨K1.out, ?_⟩
   refine ords_loud rfl (fun n3 => ?_)
   go_wp2_with (refine wpList_store_row rfl 67 _ _ rfl b #[.int .i64 k, .int .i64 f, .int .u32 c, .int .u64 t, .bool kn] rfl rfl 67 _ (K0.out.drewN _) hsz.out hold.out hal.out ?_)
   refine ⟨(K1.out.drewN _).rowFar (by omega) _, ?_⟩
   refine ords_pure rfl (fun K hK => ?_); go_simp; refine hK _ ?_; clear hK K
   refine ords_end (fun n4 => ?_)
   go_wp2_with fail
   refine bodyPost_ret (results_cell_tmp rfl _ _ b _ _ _ rfl (((K0.out.drewN _).row _).drewN _) hu.out rfl hsz.out) rfl ⟨c, t, kn, ?_, fun _ => ⟨HC1.out, HT1.out, HK1.out⟩, bdr (brow (bdr KB.out _) (by have := HBE.out; omega) _) _⟩
   have e : rootP k len nk s p = ⟨f, nk, 1, 1, 0, 0, c, 0, 0, s, p⟩ := by unfold rootP; rw [HC1.out, hmo]
   rw [e]
   unfold shCells
   rw [hmo]
   rfl
 ·rw [decide_eq_false ho] at hs
  rw [xValid_bad ho]
  have HS := Lib.hid hs; clear hs ho
  unfold Sl.v
  go_enter Tryz.func38, Tryz.ntmps38
  go_wp2_with fail
  refine (HS.out _).mono ?_
  rintro e1 w1 ⟨c, t, kn, rfl, hok, hb1⟩
  have hz := ((Blk.new w 67 zSh).below hb1 (by simp)).alloc (.cells (shCells k c t kn) 67)
  have hn := Blk.new w1 67 (shCells k c t kn)
  have hB := bal (bcall (bal (b0 w) _) hb1) (.cells (shCells k c t kn) 67)
  have hlt : w.heap.size < w1.heap.size := by have := hb1.size; simp at this; omega
  have hsz : Hid ((Tryz.prog.info? 67).map (·.size) = some (shCells k c t kn).size) := by show _ = _; kernel_rfl
  have hal : Hid ((shCells k c t kn).all (·.oneCell') = true) := by show _ = _; simp [shCells, Value.oneCell']
  have hold : Hid (zSh.size = (shCells k c t kn).size) := rfl
  have HZ := Lib.hid hz; have HN := Lib.hid hn; have HB := Lib.hid hB; have HOK := Lib.hid hok
  unfold shCells at HZ HN HB hsz hal hold ⊢
  rw [hmo] at HZ HN HB hsz hal hold ⊢
  clear hz hn hB hb1 hok
  go_wp2_with (refine wpList_store_row rfl 67 _ _ rfl w.heap.size #[.int .i64 k, .int .i64 f, .int .u32 c, .int .u64 t, .bool kn] rfl rfl 67 _ HZ.out hsz.out hold.out hal.out ?_)
  exact bodyPost_ret (results_cell_tmp rfl _ _ w.heap.size _ _ _ rfl (HZ.out.row _) hu.out rfl hsz.out) rfl ⟨c, t, kn, (by unfold shCells; rw [hmo]; rfl), (fun h => absurd h (by decide)), brow HB.out (Nat.le_refl _) _⟩
def rootS (k len : Int) (nk : Nat) (s t : Sl) (ls lp key data : List UInt8) : List UInt8 × Int :=
  if xValid k len nk s t ≠ 0 then ([], xValid k len nk s t) else hashS k (rootP k len nk s t) ls lp key false (mostOf k) data
theorem xOK_of {k len : Int} {nk : Nat} {s t : Sl} (h : xValid k len nk s t = 0) : xOK k len := by
 by_cases ho : xOK k len
 ·exact ho
 ·rw [xValid_bad ho] at h; exact absurd h (by decide)
theorem rootP_fit {k len : Int} {nk : Nat} {s t : Sl} (h : xOK k len) : (rootP k len nk s t).Fit := by
 have hm : 0 ≤ xMost k ∧ xMost k ≤ 4294967294 := by unfold xMost; split <;> decide
 have hc : 0 ≤ xCode k len ∧ xCode k len < 4294967296 := by
  unfold xCode
  split
  ·omega
  ·rename_i h3
   have := h.2.resolve_left h3
   omega
 exact ⟨⟨Int.le_refl 0, show (0 : Int) < 4294967296 by decide⟩, ⟨Int.le_refl 0, show (0 : Int) < 18446744073709551616 by decide⟩, hc⟩
end Go.Proofs.YtmapfcdffklopaaGreat

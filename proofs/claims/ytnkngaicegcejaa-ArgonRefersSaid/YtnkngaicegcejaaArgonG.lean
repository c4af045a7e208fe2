/-
  ArgonRefers, the law. Contracts alone; no statement is claimed here.
-/
import Derived.Test.YtnkngaicegcejaaArgonF
namespace Go.Proofs.Ytnkngaicegcejaa
open Go.RowKit

set_option maxHeartbeats 2000000 in
theorem refers_law (a : Ar) (p s l x : Int) (j : UInt64) (w : World) :
    Calls Try.prog 6 #[a.v, .agg #[.int .i64 p, .int .i64 s, .int .i64 l, .int .i64 x, .int .u64 (wrd j)]] w fun e w' => e = .returned (.bool true) ∧ Below w.heap.size w w' := by
  have hp := fun w => referP_any a p s l x j w
  have hr := fun w => referR_any a p s l x j w
  generalize ansL a p s l x j = aL at *
  generalize ansZ a p s l x j = aZ at *
  generalize ansE a p s l x = aE at *
  obtain ⟨kk, m, pp, ll, t⟩ := a
  unfold Ar.v at *
  dsimp only at *
  have HP := Lib.hid hp; have HR := Lib.hid hr; clear hp hr
  obtain ⟨H, hH⟩ : ∃ H, H = w.heap.size := ⟨_, rfl⟩
  rw [← hH]
  go_enter Try.func6, Try.ntmps6
  go_upto_region 1 with fail
  have HX : Blk ((w.alloc (.cells #[.int .i64 kk, .int .i64 m, .int .i64 pp, .int .i64 ll, .int .i64 t] 49)).alloc (.cells #[.int .i64 p, .int .i64 s, .int .i64 l, .int .i64 x, .int .u64 (wrd j)] 51)) H 49 #[.int .i64 kk, .int .i64 m, .int .i64 pp, .int .i64 ll, .int .i64 t] := by rw [hH]; exact (Blk.new _ _ _).alloc _
  have HY : Blk ((w.alloc (.cells #[.int .i64 kk, .int .i64 m, .int .i64 pp, .int .i64 ll, .int .i64 t] 49)).alloc (.cells #[.int .i64 p, .int .i64 s, .int .i64 l, .int .i64 x, .int .u64 (wrd j)] 51)) (H + 1) 51 #[.int .i64 p, .int .i64 s, .int .i64 l, .int .i64 x, .int .u64 (wrd j)] := by
    have := Blk.new (w.alloc (.cells #[.int .i64 kk, .int .i64 m, .int .i64 pp, .int .i64 ll, .int .i64 t] 49)) 51 #[.int .i64 p, .int .i64 s, .int .i64 l, .int .i64 x, .int .u64 (wrd j)]
    rw [hH]; simpa using this
  have hbw : Below H w ((w.alloc (.cells #[.int .i64 kk, .int .i64 m, .int .i64 pp, .int .i64 ll, .int .i64 t] 49)).alloc (.cells #[.int .i64 p, .int .i64 s, .int .i64 l, .int .i64 x, .int .u64 (wrd j)] 51)) := ((Below.refl _ _).alloc (by omega) _).alloc (by simp; omega) _
  rw [← hH]
  have HH := Lib.hid hH; clear hH
  generalize (w.alloc (.cells #[.int .i64 kk, .int .i64 m, .int .i64 pp, .int .i64 ll, .int .i64 t] 49)).alloc (.cells #[.int .i64 p, .int .i64 s, .int .i64 l, .int .i64 x, .int .u64 (wrd j)] 51) = w0 at *
  have HX := Lib.hid HX; have HY := Lib.hid HY
  have c0 : w0.cell? ⟨H, 0, none⟩ = some (.int .i64 kk) := HX.out.cell 0; have c1 : w0.cell? ⟨H, 1, none⟩ = some (.int .i64 m) := HX.out.cell 1; have c2 : w0.cell? ⟨H, 2, none⟩ = some (.int .i64 pp) := HX.out.cell 2; have c3 : w0.cell? ⟨H, 3, none⟩ = some (.int .i64 ll) := HX.out.cell 3; have c4 : w0.cell? ⟨H, 4, none⟩ = some (.int .i64 t) := HX.out.cell 4
  have d0 : w0.cell? ⟨H + 1, 0, none⟩ = some (.int .i64 p) := HY.out.cell 0; have d1 : w0.cell? ⟨H + 1, 1, none⟩ = some (.int .i64 s) := HY.out.cell 1; have d2 : w0.cell? ⟨H + 1, 2, none⟩ = some (.int .i64 l) := HY.out.cell 2; have d3 : w0.cell? ⟨H + 1, 3, none⟩ = some (.int .i64 x) := HY.out.cell 3; have d4 : w0.cell? ⟨H + 1, 4, none⟩ = some (.int .u64 (wrd j)) := HY.out.cell 4
  go_upto_region 3 with (first
    | (go_at_call 27; refine (HP.out _).mono ?_; rintro e w1 ⟨rfl, hb1⟩; have HX1 := HX.out.below hb1 HX.out.lt; have HY1 := HY.out.below hb1 HY.out.lt; have hbw1 := hbw.trans (hb1.mono (Nat.le_of_lt HX.out.lt)); have cc0 : w1.cell? ⟨H, 0, none⟩ = some (.int .i64 kk) := HX1.cell 0; have cc1 : w1.cell? ⟨H, 1, none⟩ = some (.int .i64 m) := HX1.cell 1; have cc2 : w1.cell? ⟨H, 2, none⟩ = some (.int .i64 pp) := HX1.cell 2; have cc3 : w1.cell? ⟨H, 3, none⟩ = some (.int .i64 ll) := HX1.cell 3; have cc4 : w1.cell? ⟨H, 4, none⟩ = some (.int .i64 t) := HX1.cell 4; have dd0 : w1.cell? ⟨H + 1, 0, none⟩ = some (.int .i64 p) := HY1.cell 0; have dd1 : w1.cell? ⟨H + 1, 1, none⟩ = some (.int .i64 s) := HY1.cell 1; have dd2 : w1.cell? ⟨H + 1, 2, none⟩ = some (.int .i64 l) := HY1.cell 2; have dd3 : w1.cell? ⟨H + 1, 3, none⟩ = some (.int .i64 x) := HY1.cell 3; have dd4 : w1.cell? ⟨H + 1, 4, none⟩ = some (.int .u64 (wrd j)) := HY1.cell 4; have HX1 := Lib.hid HX1; have HY1 := Lib.hid HY1; clear hb1)
    | (go_at_call 28; refine (HR.out _).mono ?_; rintro e w2 ⟨rfl, hb2⟩; have hbw2 := hbw1.trans (hb2.mono (Nat.le_of_lt HX1.out.lt)); clear hb2))
  go_wp2
  exact bodyPost_ret (results_tmp rfl _ _ _) rfl ⟨rfl, hbw2⟩
end Go.Proofs.Ytnkngaicegcejaa

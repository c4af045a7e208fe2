/-
  Mix, of the program. Contracts alone; no statement is claimed here.
-/
import Derived.Test.YtnkngaicegcejaaMixC
namespace Go.Proofs.Ytnkngaicegcejaa
open Go.RowKit
attribute [local go_sem] pureUpon Ords.of

/-- the first k words are those of z already -/
def half (z x : List UInt64) (k : Nat) : List UInt64 := z.take k ++ x.drop k
theorem half_put (z x : List UInt64) (k : Nat) (v : UInt64) (hz : z[k]? = some v) (hl : x.length = z.length) : (half z x k).set k v = half z x (k + 1) := by
  have hk : k < z.length := (List.getElem?_eq_some_iff.1 hz).1
  have h1 : (z.take k).length = k := by simp; omega
  unfold half
  rw [List.take_add_one, hz, List.drop_eq_getElem_cons (by omega), List.set_append, if_neg (by rw [h1]; omega), h1, Nat.sub_self, List.set_cons_zero, List.append_assoc]
  rfl
theorem half_at (z x : List UInt64) (k : Nat) (hk : k < x.length) (hl : x.length = z.length) : (half z x k)[k]? = some (x.getD k 0) := by
  have h1 : (z.take k).length = k := by simp; omega
  unfold half
  rw [List.getElem?_append_right (by omega), h1, Nat.sub_self, List.getElem?_drop, Nat.add_zero, List.getD_eq_getElem?_getD, List.getElem?_eq_getElem hk]
  rfl
theorem half_all (z x : List UInt64) (n : Nat) (hz : z.length = n) (hx : x.length = n) : half z x n = z := by
  unfold half; rw [List.take_of_length_le (by omega), List.drop_of_length_le (by omega), List.append_nil]
theorem wcs_at (l : List UInt64) (k : Nat) (v : UInt64) (h : l[k]? = some v) : (wcs l)[k]? = some (wv v) := by unfold wcs; simp [h]
theorem getD_some (l : List UInt64) (k : Nat) (h : k < l.length) : l[k]? = some (l.getD k 0) := by rw [List.getD_eq_getElem?_getD, List.getElem?_eq_getElem h]; rfl
theorem bgr {w w1 w2 : World} {g : Nat} (h : Below w.heap.size w w1) (hg : w1.grownBy w2 (some g)) (hw : w.heap.size ≤ g) : Below w.heap.size w w2 :=
  h.grown hg h.size (fun k hk => by injection hk with hk; omega)

set_option maxRecDepth 20000 in
set_option maxHeartbeats 4000000 in
theorem mixP_yes (A1 A2 : Option Addr) (c1 c2 : Nat) (x y : List UInt8) (w : World) (hx : x.length = 1024) (hy : y.length = 1024) (hr1 : RS cB w w.heap.size A1 x) (hr2 : RS cB w w.heap.size A2 y) :
    Calls Try.prog 36 #[.slice A1 1024 c1, .slice A2 1024 c2] w fun e w' => ∃ A c, e = .returned (.tuple #[.slice A 1024 c, .int .i64 0]) ∧ OS cB w' w.heap.size A c (mixB x y) ∧ Below w.heap.size w w' := by
  have hXY := wordsOf_xor x y 128 (by omega) (by omega)
  have HXY := Lib.hid hXY; clear hXY
  have HX := Lib.hid hx; have HY := Lib.hid hy; have HR1 := Lib.hid hr1; have HR2 := Lib.hid hr2; clear hx hy hr1 hr2
  obtain ⟨X, hX⟩ : ∃ X, X = wordsOf x 128 := ⟨_, rfl⟩
  obtain ⟨Y, hY⟩ : ∃ Y, Y = wordsOf y 128 := ⟨_, rfl⟩
  have HXl : Hid (X.length = 128) := by show _ = _; rw [hX, wordsOf_len]
  have HYl : Hid (Y.length = 128) := by show _ = _; rw [hY, wordsOf_len]
  have HXX := Lib.hid hX; have HYY := Lib.hid hY; clear hX hY
  have SX := Lib.hid (sz128 X HXl.out); have SY := Lib.hid (sz128 Y HYl.out)
  have AX := Lib.hid (wcs_all X); have AY := Lib.hid (wcs_all Y)
  have ZX : Hid (Try.zeroCells100.size = (wcs X).size) := by show _ = _; rw [z128, wcs_len _ 128 (by simp [fillW]), wcs_len X 128 HXl.out]
  have ZY : Hid (Try.zeroCells100.size = (wcs Y).size) := by show _ = _; rw [z128, wcs_len _ 128 (by simp [fillW]), wcs_len Y 128 HYl.out]
  have U := Lib.hid Try.underlying100
  go_enter Try.func36, Try.ntmps36
  go_wp2_with fail
  refine (blocks2 ⟨A1, 1024, c1⟩ ⟨A2, 1024, c2⟩ w).mono ?_
  rintro e w1 ⟨rfl, rfl⟩
  have hb1 := bal (b0 w) (.cells #[.slice A1 1024 c1, .slice A2 1024 c2] 22)
  go_wp2_with fail
  refine (words_any A1 c1 x _ HX.out ((HR1.out.below hb1).more hb1.size)).mono ?_
  rintro e w2 ⟨rfl, hb2⟩
  have hb12 := bcall hb1 hb2; rw [← HXX.out]
  go_wp2_with fail
  refine (words_any A2 c2 y _ HY.out ((HR2.out.below hb12).more hb12.size)).mono ?_
  rintro e w3 ⟨rfl, hb3⟩
  have hb13 := bcall hb12 hb3; rw [← HYY.out]
  have q1 := (Blk.new w3 100 Try.zeroCells100).alloc (.cells Try.zeroCells100 100)
  have q2 : Blk ((w3.alloc (.cells Try.zeroCells100 100)).alloc (.cells Try.zeroCells100 100)) (w3.heap.size + 1) 100 Try.zeroCells100 := (by simpa using Blk.new (w3.alloc (.cells Try.zeroCells100 100)) 100 Try.zeroCells100)
  have q3 := q2.rowFar (k := w3.heap.size) (by omega) (wcs X)
  have q4 := (q1.row (wcs X)).rowFar (k := w3.heap.size + 1) (by omega) (wcs Y)
  have q5 := q3.row (wcs Y)
  have q6 := brow (brow (bal (bal hb13 (.cells Try.zeroCells100 100)) (.cells Try.zeroCells100 100)) hb13.size (wcs X)) (g := w3.heap.size + 1) (by have := hb13.size; omega) (wcs Y)
  have Q1 := Lib.hid q1; have Q3 := Lib.hid q3; clear q1 q2 q3
  clear hb1 hb2 hb3 hb12
  go_upto_region 4 with (first | (refine wpList_store_row rfl 100 _ _ rfl w3.heap.size (wcs X) rfl rfl 100 Try.zeroCells100 Q1.out SX.out ZX.out AX.out ?_) | (refine wpList_store_row rfl 100 _ _ rfl (w3.heap.size + 1) (wcs Y) rfl rfl 100 Try.zeroCells100 Q3.out SY.out ZY.out AY.out ?_))
  clear Q1 Q3 SX SY ZX ZY AX AY
  obtain ⟨g, hg⟩ : ∃ g, g = w3.heap.size := ⟨_, rfl⟩
  have hwg : w.heap.size ≤ g := by rw [hg]; exact hb13.size
  rw [← hg] at q4 q5 q6 ⊢
  clear hg hb13
  generalize (((w3.alloc (.cells Try.zeroCells100 100)).alloc (.cells Try.zeroCells100 100)).setRow g (wcs X)).setRow (g + 1) (wcs Y) = w4 at *
  obtain ⟨R, hR⟩ : ∃ R, R = xorW X Y := ⟨_, rfl⟩
  have HRl : Hid (R.length = 128) := by show _ = _; rw [hR, xorW_len X Y (HYl.out.trans HXl.out.symm), HXl.out]
  have HR := Lib.hid hR; clear hR
  have Q4 := Lib.hid q4; have Q5 := Lib.hid q5; have Q6 := Lib.hid q6; clear q4 q5 q6
  go_wp2_with fail
  go_loopw [23] (fun i wr => ∃ k : Nat, k ≤ 128 ∧ i = .int .i64 k ∧ Blk wr g 100 (wcs (half R X k)) ∧ Blk wr (g + 1) 100 (wcs Y) ∧ Below w.heap.size w wr) (fun i _ => 128 - (intOf i).toNat)
  case atStart => exact ⟨0, by omega, rfl, by simpa [half] using Q4.out, Q5.out, Q6.out⟩
  case round =>
    clear Q4 Q5 Q6
    obtain ⟨k, hk, rfl, hb0, hb1, hbw⟩ := hrel
    have HB0 := Lib.hid hb0; have HB1 := Lib.hid hb1; clear hb0 hb1
    by_cases hlt : k < 128
    · have eX := getD_some X k (by rw [HXl.out]; exact hlt)
      have eY := getD_some Y k (by rw [HYl.out]; exact hlt)
      have gx := (HB0.out.cell k).trans (wcs_at _ _ _ (half_at R X k (by rw [HXl.out]; exact hlt) (HXl.out.trans HRl.out.symm)))
      have gy := (HB1.out.cell k).trans (wcs_at _ _ _ eY)
      have eR := xorW_at X Y k _ _ eX eY
      rw [← HR.out] at eR
      generalize X.getD k 0 = a at *
      generalize Y.getD k 0 = b at *
      change wr.cell? ⟨g, k, none⟩ = some (.int .u64 (wrd a)) at gx
      change wr.cell? ⟨g + 1, k, none⟩ = some (.int .u64 (wrd b)) at gy
      have gf : wr.frozen? ⟨g, k, none⟩ = false := HB0.out.frozen k
      have ER := Lib.hid eR; clear eX eY eR
      have hx := wrd_xor a b
      have hki : (k : Int) < 128 := by omega
      have hkd : decide ((k : Int) < 128) = true := by simp; omega
      go_wp2
      refine wp_region_ords (fun _ => True) (fun _ _ h => h) (Ords.of [(0, 0), (0, 1), (1, 2), (0, 3), (0, 4), (1, 5), (0, 6), (0, 7), (2, 8)] .fin) (by kernel_rfl) rfl (by kernel_rfl) (by kernel_rfl) (fun c a d v w h => by cases d <;> exact h) trivial ?_
      refine ords_pure rfl (fun K hK => ?_); go_simp; refine hK _ ?_; clear hK K
      refine ords_pure rfl (fun K hK => ?_); go_simp; refine hK _ ?_; clear hK K
      refine ords_read rfl (fun K hK => ?_); go_simp; refine hK _ ?_; clear hK K
      refine ords_pure rfl (fun K hK => ?_); go_simp; refine hK _ ?_; clear hK K
      refine ords_pure rfl (fun K hK => ?_); go_simp; refine hK _ ?_; clear hK K
      refine ords_read rfl (fun K hK => ?_); go_simp; refine hK _ ?_; clear hK K
      refine ords_pure rfl (fun K hK => ?_); go_simp; refine hK _ ?_; clear hK K
      refine ords_pure rfl (fun K hK => ?_); go_simp; refine hK _ ?_; clear hK K
      refine ords_loud rfl (fun n1 => ?_)
      go_wp2
      refine ⟨trivial, ?_⟩
      refine ords_end (fun n2 => ?_)
      go_wp2
      case roundEnd =>
        have h0 := ((HB0.out.drewN n1).set_ k (wv (a ^^^ b))).drewN n2
        rw [wcs_set, half_put R X k _ ER.out (HXl.out.trans HRl.out.symm)] at h0
        exact ⟨⟨k + 1, by omega, by go_num, h0, ((HB1.out.drewN n1).far (p := ⟨g, k, none⟩) (by simp) (wv (a ^^^ b))).drewN n2, bdr (bput (bdr hbw n1) (p := ⟨g, k, none⟩) hwg (wv (a ^^^ b))) n2⟩, by simp [intOf]; omega⟩
    · obtain rfl : k = 128 := by omega
      clear hlt hk
      have h0 := HB0.out
      rw [half_all R X 128 HRl.out HXl.out] at h0
      have H0 := Lib.hid h0; clear h0
      have SR := Lib.hid (sz128 R HRl.out); have AR := Lib.hid (wcs_all R)
      have ZR : Hid (Try.zeroCells100.size = (wcs R).size) := by show _ = _; rw [z128, wcs_len _ 128 (by simp [fillW]), wcs_len R 128 HRl.out]
      have q1 := Blk.new wr 100 Try.zeroCells100
      have q2 := q1.row (wcs R)
      have q3 := (H0.out.alloc (.cells Try.zeroCells100 100)).rowFar (k := wr.heap.size) (by have := H0.out.lt; omega) (wcs R)
      have q4 := brow (bal hbw (.cells Try.zeroCells100 100)) hbw.size (wcs R)
      have Q1 := Lib.hid q1; have Q2 := Lib.hid q2; have Q3 := Lib.hid q3; have Q4 := Lib.hid q4; clear q1 q2 q3 q4
      go_upto_region 11 with (first
        | (refine wpList_load_row rfl 100 _ rfl g rfl 100 (wcs R) (0, 0) _ H0.out U.out rfl SR.out ?_)
        | (refine wpList_store_row rfl 100 _ _ rfl wr.heap.size (wcs R) rfl rfl 100 Try.zeroCells100 Q1.out SR.out ZR.out AR.out ?_))
      obtain ⟨gz, hgz⟩ : ∃ gz, gz = wr.heap.size := ⟨_, rfl⟩
      have hwgz : w.heap.size ≤ gz := by rw [hgz]; exact hbw.size
      have hggz : g < gz := by rw [hgz]; exact H0.out.lt
      have q2 := Q2.out; have q3 := Q3.out; have q4 := Q4.out
      rw [← hgz] at q2 q3 q4 ⊢
      clear Q1 Q2 Q3 Q4 hgz SR AR ZR HB0 HB1 H0 hbw
      generalize (wr.alloc (.cells Try.zeroCells100 100)).setRow gz (wcs R) = w5 at *
      have HE0 := Lib.hid q3; have HE1 := Lib.hid q2; have HEW := Lib.hid q4; clear q2 q3 q4
      go_wp2_with fail
      go_loopw [37] (fun j wr => ∃ n : Nat, n ≤ 8 ∧ j = .int .i64 n ∧ Blk wr g 100 (wcs R) ∧ Blk wr gz 100 (wcs (rowsTo R n)) ∧ Below w.heap.size w wr) (fun j _ => 8 - (intOf j).toNat)
      case atStart => exact ⟨0, by omega, rfl, HE0.out, HE1.out, HEW.out⟩
      case round =>
        clear HE0 HE1 HEW
        obtain ⟨n, hn, rfl, hb0, hb1, hbw⟩ := hrel
        have HC0 := Lib.hid hb0; have HC1 := Lib.hid hb1; have HGW := Lib.hid hbw; clear hb0 hb1 hbw
        by_cases hlt : n < 8
        · have hpt := put1_any n gz wr.heap.size (rowsTo R n) (wr.alloc (.cells #[.int .i64 n] 3)) hlt (by rw [rowsTo_len, HRl.out]) (HC1.out.alloc _) (Blk.new _ _ _)
          have HPT := Lib.hid hpt; clear hpt
          have hnd : decide ((n : Int) < 8) = true := by simp; omega
          go_wp2_with (go_at_call 66; refine HPT.out.mono ?_; rintro e w6 ⟨rfl, hz6, hg6⟩; have HZ6 := Lib.hid hz6; have HG6 := Lib.hid hg6; clear hz6 hg6)
          go_roundw
          case rel =>
            have hne : g ≠ gz := by omega
            have h0 := (HC0.out.alloc (.cells #[.int .i64 n] 3)).grown HG6.out (by simpa using hne)
            exact ⟨n + 1, by omega, by go_num, h0, HZ6.out, bgr (bal HGW.out _) HG6.out hwgz⟩
          case measure => simp [intOf]; omega
        · obtain rfl : n = 8 := by omega
          rw [show ((8 : Nat) : Int) = 8 from rfl]
          clear hlt hn
          have HE0 := HC0; have HE1 := HC1; have HEW := HGW
          clear HC0 HC1 HGW
          obtain ⟨Z1, hZ1⟩ : ∃ Z1, Z1 = rowsTo R 8 := ⟨_, rfl⟩
          have HZ1e := Lib.hid hZ1; have he1 := HE1.out
          rw [← hZ1] at he1
          have HZ1 : Hid (Z1.length = 128) := by show _ = _; rw [hZ1, rowsTo_len, HRl.out]
          clear hZ1 HE1
          have HE1 : Hid (Blk wr gz 100 (wcs (colsTo Z1 0))) := he1
          clear he1
          go_wp2_with fail
          go_loopw [44] (fun j wr => ∃ n : Nat, n ≤ 8 ∧ j = .int .i64 n ∧ Blk wr g 100 (wcs R) ∧ Blk wr gz 100 (wcs (colsTo Z1 n)) ∧ Below w.heap.size w wr) (fun j _ => 8 - (intOf j).toNat)
          case atStart => exact ⟨0, by omega, rfl, HE0.out, HE1.out, HEW.out⟩
          case round =>
            clear HE0 HE1 HEW
            obtain ⟨n, hn, rfl, hb0, hb1, hbw⟩ := hrel
            have HC0 := Lib.hid hb0; have HC1 := Lib.hid hb1; have HGW := Lib.hid hbw; clear hb0 hb1 hbw
            by_cases hlt : n < 8
            · have hpt := put2_any n gz wr.heap.size (colsTo Z1 n) (wr.alloc (.cells #[.int .i64 n] 3)) hlt (by rw [colsTo_len, HZ1.out]) (HC1.out.alloc _) (Blk.new _ _ _)
              have HPT := Lib.hid hpt; clear hpt
              have hnd : decide ((n : Int) < 8) = true := by simp; omega
              go_wp2_with (go_at_call 66; refine HPT.out.mono ?_; rintro e w6 ⟨rfl, hz6, hg6⟩; have HZ6 := Lib.hid hz6; have HG6 := Lib.hid hg6; clear hz6 hg6)
              go_roundw
              case rel =>
                have hne : g ≠ gz := by omega
                have h0 := (HC0.out.alloc (.cells #[.int .i64 n] 3)).grown HG6.out (by simpa using hne)
                exact ⟨n + 1, by omega, by go_num, h0, HZ6.out, bgr (bal HGW.out _) HG6.out hwgz⟩
              case measure => simp [intOf]; omega
            · obtain rfl : n = 8 := by omega
              rw [show ((8 : Nat) : Int) = 8 from rfl]
              clear hlt hn
              have HE0 := HC0; have HE1 := HC1; have HEW := HGW
              clear HC0 HC1 HGW
              obtain ⟨Z2, hZ2⟩ : ∃ Z2, Z2 = colsTo Z1 8 := ⟨_, rfl⟩
              have HZ2 := Lib.hid hZ2; have he1 := HE1.out
              rw [← hZ2] at he1
              have HZ2l : Hid (Z2.length = 128) := by show _ = _; rw [hZ2, colsTo_len, HZ1.out]
              clear hZ2 HE1
              have HE1 := Lib.hid he1; clear he1
              have HM : Hid (Z2 = mixZ R) := by show _ = _; unfold mixZ; rw [HZ2.out, HZ1e.out]
              go_wp2_with fail
              obtain ⟨F, hF⟩ : ∃ F, F = xorW Z2 R := ⟨_, rfl⟩
              have HFl : Hid (F.length = 128) := by show _ = _; rw [hF, xorW_len Z2 R (HRl.out.trans HZ2l.out.symm), HZ2l.out]
              have HF := Lib.hid hF; clear hF
              go_loopw [51] (fun i wx => ∃ k : Nat, k ≤ 128 ∧ i = .int .i64 k ∧ Blk wx gz 100 (wcs (half F Z2 k)) ∧ Blk wx g 100 (wcs R) ∧ Below w.heap.size w wx) (fun i _ => 128 - (intOf i).toNat)
              case atStart => exact ⟨0, by omega, rfl, by simpa [half] using HE1.out, HE0.out, HEW.out⟩
              case round =>
                clear HE0 HE1 HEW
                obtain ⟨k, hk, rfl, hb0, hb1, hbw⟩ := hrel
                have HB0 := Lib.hid hb0; have HB1 := Lib.hid hb1; clear hb0 hb1
                by_cases hlt : k < 128
                · have eX := getD_some Z2 k (by rw [HZ2l.out]; exact hlt)
                  have eY := getD_some R k (by rw [HRl.out]; exact hlt)
                  have gx := (HB0.out.cell k).trans (wcs_at _ _ _ (half_at F Z2 k (by rw [HZ2l.out]; exact hlt) (HZ2l.out.trans HFl.out.symm)))
                  have gy := (HB1.out.cell k).trans (wcs_at _ _ _ eY)
                  have eR := xorW_at Z2 R k _ _ eX eY
                  rw [← HF.out] at eR
                  generalize Z2.getD k 0 = a at *
                  generalize R.getD k 0 = b at *
                  change _ = some (Value.int .u64 (wrd a)) at gx
                  change _ = some (Value.int .u64 (wrd b)) at gy
                  have gf := HB0.out.frozen k
                  have ER := Lib.hid eR; clear eX eY eR
                  have hx := wrd_xor a b
                  have hki : (k : Int) < 128 := by omega
                  have hkd : decide ((k : Int) < 128) = true := by simp; omega
                  go_wp2
                  refine wp_region_ords (fun _ => True) (fun _ _ h => h) (Ords.of [(0, 0), (0, 1), (1, 2), (0, 3), (0, 4), (1, 5), (0, 6), (0, 7), (2, 8)] .fin) (by kernel_rfl) rfl (by kernel_rfl) (by kernel_rfl) (fun c a d v w h => by cases d <;> exact h) trivial ?_
                  refine ords_pure rfl (fun K hK => ?_); go_simp; refine hK _ ?_; clear hK K
                  refine ords_pure rfl (fun K hK => ?_); go_simp; refine hK _ ?_; clear hK K
                  refine ords_read rfl (fun K hK => ?_); go_simp; refine hK _ ?_; clear hK K
                  refine ords_pure rfl (fun K hK => ?_); go_simp; refine hK _ ?_; clear hK K
                  refine ords_pure rfl (fun K hK => ?_); go_simp; refine hK _ ?_; clear hK K
                  refine ords_read rfl (fun K hK => ?_); go_simp; refine hK _ ?_; clear hK K
                  refine ords_pure rfl (fun K hK => ?_); go_simp; refine hK _ ?_; clear hK K
                  refine ords_pure rfl (fun K hK => ?_); go_simp; refine hK _ ?_; clear hK K
                  refine ords_loud rfl (fun n1 => ?_)
                  go_wp2
                  refine ⟨trivial, ?_⟩
                  refine ords_end (fun n2 => ?_)
                  go_wp2
                  case roundEnd =>
                    have h0 := ((HB0.out.drewN n1).set_ k (wv (a ^^^ b))).drewN n2
                    rw [wcs_set, half_put F Z2 k _ ER.out (HZ2l.out.trans HFl.out.symm)] at h0
                    exact ⟨⟨k + 1, by omega, by go_num, h0, ((HB1.out.drewN n1).far (p := ⟨gz, k, none⟩) (by simp; omega) (wv (a ^^^ b))).drewN n2, bdr (bput (bdr hbw n1) (p := ⟨gz, k, none⟩) hwgz (wv (a ^^^ b))) n2⟩, by simp [intOf]; omega⟩
                · obtain rfl : k = 128 := by omega
                  clear hlt hk
                  have h0 := HB0.out
                  rw [half_all F Z2 128 HFl.out HZ2l.out] at h0
                  have H0 := Lib.hid h0; clear h0
                  go_wp2_with (go_at_call 69; refine (laid_any gz F _ HFl.out H0.out).mono ?_; rintro e w9 ⟨A9, c9, rfl, ho9, hb9⟩; have HO9 := Lib.hid ho9; clear ho9)
                  have hm : flat F = mixB x y := by
                    unfold mixB
                    rw [HF.out, HM.out, HR.out, HXY.out, ← HXX.out, ← HYY.out]
                  have ho := HO9.out.mono hbw.size
                  rw [hm] at ho
                  exact bodyPost_ret (results_tmp2 rfl _ _ _) rfl ⟨A9, c9, rfl, ho, bcall hbw hb9⟩
end Go.Proofs.Ytnkngaicegcejaa

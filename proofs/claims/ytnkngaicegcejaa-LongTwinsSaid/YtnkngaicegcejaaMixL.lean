/-
  LongMixes, the law. Contracts alone; no statement is claimed here.
-/
import Derived.Test.YtnkngaicegcejaaMixN
import Derived.Test.YtnkngaicegcejaaMixQ
import Derived.Test.YtnkngaicegcejaaSame
import Derived.Test.YtnkngaicegcejaaBlends
namespace Go.Proofs.Ytnkngaicegcejaa
open Go.RowKit

theorem same19_any (A1 A2 : Option Addr) (c1 c2 : Nat) (l1 l2 : List UInt8) (B1 B2 n1 n2 : Nat) (w : World) (hn1 : l1.length = n1) (hn2 : l2.length = n2) (hm : n1 ≤ 9223372036854775807)
   (h1 : RS cB w B1 A1 l1) (h2 : RS cB w B2 A2 l2) :
    Calls Try.prog 35 #[.slice A1 n1 c1, .slice A2 n2 c2] w fun e w' => e = .returned (.bool (decide (l1 = l2))) ∧ ∃ n, w' = w.drewN n := by
  have h := sameR_any A1 A2 c1 c2 l1 l2 B1 B2 n1 n2 w hn1 hn2 hm h1 h2
  have H := Lib.hid h; clear h hn1 hn2 h1 h2
  generalize decide (l1 = l2) = b at *
  go_enter Try.func35, Try.ntmps35
  go_wp2_with (go_at_call 64; refine H.out.mono ?_; rintro e w1 ⟨rfl, n, rfl⟩)
  exact bodyPost_ret (results_tmp rfl _ _ _) rfl ⟨rfl, n, rfl⟩

set_option maxHeartbeats 2000000 in
theorem mixes_law (A1 A2 A3 : Option Addr) (n1 n2 n3 c1 c2 c3 : Nat) (x y z : List UInt8) (w : World) (h1 : x.length = n1) (h2 : y.length = n2) (h3 : z.length = n3)
    (hr1 : RS cB w w.heap.size A1 x) (hr2 : RS cB w w.heap.size A2 y) (hr3 : RS cB w w.heap.size A3 z) :
    Calls Try.prog 10 #[.slice A1 n1 c1, .slice A2 n2 c2, .slice A3 n3 c3] w fun e w' => e = .returned (.bool true) ∧ Below w.heap.size w w' := by
  have H1 := Lib.hid h1; have H2 := Lib.hid h2; have H3 := Lib.hid h3; have R1 := Lib.hid hr1; have R2 := Lib.hid hr2; have R3 := Lib.hid hr3; clear h1 h2 h3 hr1 hr2 hr3
  obtain ⟨d2, hd2⟩ : ∃ d, d = codO (blk2 x y) := ⟨_, rfl⟩
  obtain ⟨d3, hd3⟩ : ∃ d, d = codO (blk3 x y z) := ⟨_, rfl⟩
  go_enter Try.func10, Try.ntmps10
  go_wp2_with fail
  refine (xorP_any A1 A2 n1 n2 c1 c2 x y w H1.out H2.out R1.out R2.out).mono ?_
  rintro e w1 ⟨B1, m1, k1, rfl, hm1, hq1, ho1, hb1⟩
  have M1 := Lib.hid hm1; have O1 := Lib.hid ho1; clear hm1 ho1
  rw [← hd2]
  go_wp2_with fail
  refine (xorR_any A1 A2 n1 n2 c1 c2 x y w1 H1.out H2.out ((R1.out.below hb1).more hb1.size) ((R2.out.below hb1).more hb1.size)).mono ?_
  rintro e w2 ⟨B2, m2, k2, rfl, hm2, hq2, ho2, hb2⟩
  have M2 := Lib.hid hm2; have O2 := Lib.hid ho2; clear hm2 ho2
  rw [← hd2]
  have hb12 := bcall hb1 hb2
  go_wp2_with fail
  refine (same19_any B1 B2 k1 k2 _ _ _ _ m1 m2 w2 M1.out.symm M2.out.symm (by omega) (O1.out.below hb2 (Nat.le_refl _)).reads O2.out.reads).mono ?_
  rintro e w3 ⟨rfl, q3, rfl⟩
  rw [decide_eq_true rfl]
  have hb13 := bdr hb12 q3
  go_wp2_with fail
  refine (mixP_any A1 A2 n1 n2 c1 c2 x y _ H1.out H2.out ((R1.out.below hb13).more hb13.size) ((R2.out.below hb13).more hb13.size)).mono ?_
  rintro e w4 ⟨B4, m4, k4, rfl, hm4, hq4, ho4, hb4⟩
  have M4 := Lib.hid hm4; have O4 := Lib.hid ho4; clear hm4 ho4
  rw [← hd2]
  have hb14 := bcall hb13 hb4
  go_wp2_with fail
  refine (mixR_any A1 A2 n1 n2 c1 c2 x y _ H1.out H2.out ((R1.out.below hb14).more hb14.size) ((R2.out.below hb14).more hb14.size)).mono ?_
  rintro e w5 ⟨B5, m5, k5, rfl, hm5, hq5, ho5, hb5⟩
  have M5 := Lib.hid hm5; have O5 := Lib.hid ho5; clear hm5 ho5
  rw [← hd2]
  have hb15 := bcall hb14 hb5
  go_wp2_with fail
  refine (same19_any B4 B5 k4 k5 _ _ _ _ m4 m5 w5 M4.out.symm M5.out.symm (by omega) (O4.out.below hb5 (Nat.le_refl _)).reads O5.out.reads).mono ?_
  rintro e w6 ⟨rfl, q6, rfl⟩
  rw [decide_eq_true rfl]
  have hb16 := bdr hb15 q6
  go_wp2_with fail
  refine (overP_any A1 A2 A3 n1 n2 n3 c1 c2 c3 x y z _ H1.out H2.out ((R1.out.below hb16).more hb16.size) ((R2.out.below hb16).more hb16.size) H3.out ((R3.out.below hb16).more hb16.size)).mono ?_
  rintro e w7 ⟨B7, m7, k7, rfl, hm7, hq7, ho7, hb7⟩
  have M7 := Lib.hid hm7; have O7 := Lib.hid ho7; clear hm7 ho7
  rw [← hd3]
  have hb17 := bcall hb16 hb7
  go_wp2_with fail
  refine (overR_any A1 A2 A3 n1 n2 n3 c1 c2 c3 x y z _ H1.out H2.out ((R1.out.below hb17).more hb17.size) ((R2.out.below hb17).more hb17.size) H3.out ((R3.out.below hb17).more hb17.size)).mono ?_
  rintro e w8 ⟨B8, m8, k8, rfl, hm8, hq8, ho8, hb8⟩
  have M8 := Lib.hid hm8; have O8 := Lib.hid ho8; clear hm8 ho8
  rw [← hd3]
  have hb18 := bcall hb17 hb8
  go_wp2_with fail
  refine (same19_any B7 B8 k7 k8 _ _ _ _ m7 m8 w8 M7.out.symm M8.out.symm (by omega) (O7.out.below hb8 (Nat.le_refl _)).reads O8.out.reads).mono ?_
  rintro e w9 ⟨rfl, q9, rfl⟩
  rw [decide_eq_true rfl]
  have hb19 := bdr hb18 q9
  go_wp2_with (go_at_call 24; refine (awake_any _).mono ?_; rintro e w10 ⟨rfl, hb10⟩)
  exact bodyPost_ret (results_tmp rfl _ _ _) rfl ⟨rfl, bcall hb19 hb10⟩
end Go.Proofs.Ytnkngaicegcejaa

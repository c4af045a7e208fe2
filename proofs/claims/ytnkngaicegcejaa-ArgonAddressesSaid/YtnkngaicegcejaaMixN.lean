/-
  Xor, Mix and Over, of the program, whatever comes in. Contracts alone; no statement is claimed here.
-/
import Derived.Test.YtnkngaicegcejaaMixM
namespace Go.Proofs.Ytnkngaicegcejaa
open Go.RowKit

theorem mixP_no (A1 A2 : Option Addr) (n1 n2 c1 c2 : Nat) (h : (n1 == 1024 && n2 == 1024) = false) (w : World) :
    Calls Try.prog 36 #[.slice A1 n1 c1, .slice A2 n2 c2] w fun e w' => e = .returned (.tuple #[.slice none 0 0, .int .i64 1]) ∧ Below w.heap.size w w' := by
  have hb := blocks2 ⟨A1, n1, c1⟩ ⟨A2, n2, c2⟩
  unfold Ln.v at hb
  dsimp only at hb
  rw [h] at hb
  have HB := Lib.hid hb; clear hb h
  go_enter Try.func36, Try.ntmps36
  go_wp2_with (go_at_call 63; refine (HB.out w).mono ?_; rintro e w1 ⟨rfl, rfl⟩)
  exact bodyPost_ret (results_tmp2 rfl _ _ _) rfl ⟨rfl, bal (b0 _) _⟩

theorem overP_no (A1 A2 A3 : Option Addr) (n1 n2 n3 c1 c2 c3 : Nat) (h : (n1 == 1024 && n2 == 1024 && n3 == 1024) = false) (w : World) :
    Calls Try.prog 38 #[.slice A1 n1 c1, .slice A2 n2 c2, .slice A3 n3 c3] w fun e w' => e = .returned (.tuple #[.slice none 0 0, .int .i64 1]) ∧ Below w.heap.size w w' := by
  have hb := blocks3 ⟨A1, n1, c1⟩ ⟨A2, n2, c2⟩ ⟨A3, n3, c3⟩
  unfold Ln.v at hb
  dsimp only at hb
  rw [h] at hb
  have HB := Lib.hid hb; clear hb h
  go_enter Try.func38, Try.ntmps38
  go_wp2_with (go_at_call 63; refine (HB.out w).mono ?_; rintro e w1 ⟨rfl, rfl⟩)
  exact bodyPost_ret (results_tmp2 rfl _ _ _) rfl ⟨rfl, bal (b0 _) _⟩

set_option maxHeartbeats 1000000 in
theorem overP_yes (A1 A2 A3 : Option Addr) (c1 c2 c3 : Nat) (x y z : List UInt8) (w : World) (hx : x.length = 1024) (hy : y.length = 1024) (hz : z.length = 1024) (hr1 : RS cB w w.heap.size A1 x) (hr2 : RS cB w w.heap.size A2 y) (hr3 : RS cB w w.heap.size A3 z) :
    Calls Try.prog 38 #[.slice A1 1024 c1, .slice A2 1024 c2, .slice A3 1024 c3] w fun e w' => ∃ A c, e = .returned (.tuple #[.slice A 1024 c, .int .i64 0]) ∧ OS cB w' w.heap.size A c (xorB (mixB x y) z) ∧ Below w.heap.size w w' := by
  have hb := blocks3 ⟨A1, 1024, c1⟩ ⟨A2, 1024, c2⟩ ⟨A3, 1024, c3⟩
  unfold Ln.v at hb
  have HB := Lib.hid hb; have HX := Lib.hid hx; have HY := Lib.hid hy; have HZ := Lib.hid hz; have HR1 := Lib.hid hr1; have HR2 := Lib.hid hr2; have HR3 := Lib.hid hr3; clear hb hx hy hz hr1 hr2 hr3
  go_enter Try.func38, Try.ntmps38
  go_wp2_with fail
  refine (HB.out w).mono ?_
  rintro e w1 ⟨rfl, rfl⟩
  have hb1 := bal (b0 w) (.cells #[.slice A1 1024 c1, .slice A2 1024 c2, .slice A3 1024 c3] 22)
  go_wp2_with fail
  refine (mixP_yes A1 A2 c1 c2 x y _ HX.out HY.out ((HR1.out.below hb1).more hb1.size) ((HR2.out.below hb1).more hb1.size)).mono ?_
  rintro e w2 ⟨A, c, rfl, ho, hb2⟩
  have hb12 := bcall hb1 hb2
  have HO := Lib.hid ho; clear ho
  go_wp2_with fail
  refine (xorP_yes A A3 c c3 (mixB x y) z _ (mixB_len x y) HZ.out HO.out.reads ((HR3.out.below hb12).more hb12.size)).mono ?_
  rintro e w3 ⟨A4, c4, rfl, ho4, hb3⟩
  have HO4 := Lib.hid ho4; clear ho4
  go_wp2_with fail
  exact bodyPost_ret (results_tmp2 rfl _ _ _) rfl ⟨A4, c4, rfl, HO4.out.mono hb12.size, bcall hb12 hb3⟩

def codO (b : Bool) : Int := if b then 0 else 1
def blk2 (x y : List UInt8) : Bool := x.length == 1024 && y.length == 1024
def blk3 (x y z : List UInt8) : Bool := x.length == 1024 && y.length == 1024 && z.length == 1024
def ifB (b : Bool) (l : List UInt8) : List UInt8 := if b then l else []
def Ans (b : Bool) (l : List UInt8) (w : World) (e : Ending) (w' : World) : Prop :=
  ∃ A n c, e = .returned (.tuple #[.slice A n c, .int .i64 (codO b)]) ∧ n = (ifB b l).length ∧ n ≤ 1024 ∧ OS cB w' w.heap.size A c (ifB b l) ∧ Below w.heap.size w w'
theorem ans_of {f : FuncId} {args : Array Value} {w : World} {b : Bool} {l : List UInt8} (hl : b = true → l.length = 1024)
    (hy : b = true → Calls Try.prog f args w fun e w' => ∃ A c, e = .returned (.tuple #[.slice A 1024 c, .int .i64 0]) ∧ OS cB w' w.heap.size A c l ∧ Below w.heap.size w w')
    (hn : b = false → Calls Try.prog f args w fun e w' => e = .returned (.tuple #[.slice none 0 0, .int .i64 1]) ∧ Below w.heap.size w w') : Calls Try.prog f args w (Ans b l w) := by
  cases b with
  | true => exact (hy rfl).mono fun e w' ⟨A, c, he, ho, hb⟩ => ⟨A, 1024, c, he, (hl rfl).symm, Nat.le_refl _, ho, hb⟩
  | false => exact (hn rfl).mono fun e w' ⟨he, hb⟩ => ⟨none, 0, 0, he, rfl, by omega, OS.nil _ _ _ rfl, hb⟩
theorem blk2_yes {x y : List UInt8} (h : blk2 x y = true) : x.length = 1024 ∧ y.length = 1024 := by simpa [blk2] using h
theorem blk3_yes {x y z : List UInt8} (h : blk3 x y z = true) : x.length = 1024 ∧ y.length = 1024 ∧ z.length = 1024 := by simpa [blk3, and_assoc] using h
section
variable (A1 A2 A3 : Option Addr) (n1 n2 n3 c1 c2 c3 : Nat) (x y z : List UInt8) (w : World) (h1 : x.length = n1) (h2 : y.length = n2) (hr1 : RS cB w w.heap.size A1 x) (hr2 : RS cB w w.heap.size A2 y)
include h1 h2 hr1 hr2
theorem xorP_any : Calls Try.prog 33 #[.slice A1 n1 c1, .slice A2 n2 c2] w (Ans (blk2 x y) (xorB x y) w) := by
  subst h1; subst h2
  refine ans_of (fun h => ?_) (fun h => ?_) (fun h => xorP_no A1 A2 _ _ c1 c2 h w)
  · rw [xorB_len x y ((blk2_yes h).2.trans (blk2_yes h).1.symm), (blk2_yes h).1]
  · rw [(blk2_yes h).1, (blk2_yes h).2]; exact xorP_yes A1 A2 c1 c2 x y w (blk2_yes h).1 (blk2_yes h).2 hr1 hr2
theorem xorR_any : Calls Try.prog 34 #[.slice A1 n1 c1, .slice A2 n2 c2] w (Ans (blk2 x y) (xorB x y) w) := by
  subst h1; subst h2
  refine ans_of (fun h => ?_) (fun h => ?_) (fun h => xorR_no A1 A2 _ _ c1 c2 h w)
  · rw [xorB_len x y ((blk2_yes h).2.trans (blk2_yes h).1.symm), (blk2_yes h).1]
  · rw [(blk2_yes h).1, (blk2_yes h).2]; exact xorR_yes A1 A2 c1 c2 x y w (blk2_yes h).1 (blk2_yes h).2 hr1 hr2
theorem mixP_any : Calls Try.prog 36 #[.slice A1 n1 c1, .slice A2 n2 c2] w (Ans (blk2 x y) (mixB x y) w) := by
  subst h1; subst h2
  refine ans_of (fun h => mixB_len x y) (fun h => ?_) (fun h => mixP_no A1 A2 _ _ c1 c2 h w)
  rw [(blk2_yes h).1, (blk2_yes h).2]; exact mixP_yes A1 A2 c1 c2 x y w (blk2_yes h).1 (blk2_yes h).2 hr1 hr2
theorem overP_any (h3 : z.length = n3) (hr3 : RS cB w w.heap.size A3 z) : Calls Try.prog 38 #[.slice A1 n1 c1, .slice A2 n2 c2, .slice A3 n3 c3] w (Ans (blk3 x y z) (xorB (mixB x y) z) w) := by
  subst h1; subst h2; subst h3
  refine ans_of (fun h => ?_) (fun h => ?_) (fun h => overP_no A1 A2 A3 _ _ _ c1 c2 c3 h w)
  · rw [xorB_len _ z ((blk3_yes h).2.2.trans (mixB_len x y).symm), mixB_len]
  · rw [(blk3_yes h).1, (blk3_yes h).2.1, (blk3_yes h).2.2]; exact overP_yes A1 A2 A3 c1 c2 c3 x y z w (blk3_yes h).1 (blk3_yes h).2.1 (blk3_yes h).2.2 hr1 hr2 hr3
end
end Go.Proofs.Ytnkngaicegcejaa

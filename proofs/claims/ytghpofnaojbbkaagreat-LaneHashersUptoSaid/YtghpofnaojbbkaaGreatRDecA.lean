/-
  Parameters out of a block, by the reference: the parts. Contracts alone; no statement is claimed here.
-/
import Derived.Test.YtghpofnaojbbkaaGreatBu1
import Derived.Test.YtghpofnaojbbkaaGreatRefNA
namespace Go.Proofs.YtghpofnaojbbkaaGreat
open Go.RowKit
attribute [local go_sem] pureUpon Ords.of

def cN : Cod Nat := ⟨41, 100, 8, .int .u64 0, fun n => .int .u64 (n : Int)⟩
theorem cN_ok : cN.Ok Tryz.prog := ⟨Tryz.underlying100, by kernel_rfl, rfl, fun _ => rfl⟩
theorem shl_or (x j : Nat) (b : UInt8) (hj : j < 8) (hx : x < 256 ^ j) : bits .or .u64 (IntKind.u64.wrap ((x : Int) * 256)) (byt b) = ((b.toNat + 256 * x : Nat) : Int) := by
 have hb : b.toNat < 256 := b.toNat_lt
 have h2 := pow256 (j + 1) (by omega)
 rw [Nat.pow_succ] at h2
 have e : IntKind.u64.wrap ((x : Int) * 256) = ((256 * x : Nat) : Int) := by rw [wrap_u64]; omega
 rw [e]
 unfold byt
 rw [u64_or_nat _ _ (by omega) (by omega)]
 congr 1
 have h3 : (256 * x) ||| b.toNat = 2 ^ 8 * x + b.toNat := (Nat.two_pow_add_eq_or_of_lt (i := 8) hb x).symm
 rw [h3]
 omega
set_option maxHeartbeats 1000000 in
theorem refRead_any (A : Option Addr) (c N at_ n B : Nat) (l : List UInt8) (w : World) (hN : l.length = N) (hm : N ≤ 1024) (hr : RS cB w B A l) (hat : at_ + n ≤ N) (hn : n ≤ 8) :
  Calls Tryz.prog 57 #[.slice A N c, .int .i64 at_, .int .i64 n] w fun e w' => e = .returned (.int .u64 (fld l at_ n : Nat)) ∧ w = w' := by
 have HN := Lib.hid hN; have HR := Lib.hid hr; clear hN hr
 have w0 : wrap64 ((n : Int) - 1) = (n : Int) - 1 := by unfold wrap64; omega
 go_enter Tryz.func57, Tryz.ntmps57
 go_wp2
 go_loop [7, 8] (fun v i => ∃ (j x : Nat), j ≤ n ∧ i = .int .i64 ((j : Int) - 1) ∧ v = .int .u64 x ∧ x = le ((l.drop (at_ + j)).take (n - j))) (fun _ i => (intOf i + 1).toNat)
 case atStart => exact ⟨n, 0, by omega, rfl, rfl, by simp [le]⟩
 case round =>
  obtain ⟨j, x, hj, rfl, rfl, hx⟩ := hrel
  have HX := Lib.hid hx; clear hx
  by_cases hlt : 0 < j
  ·obtain ⟨i, rfl⟩ : ∃ i, j = i + 1 := ⟨j - 1, by omega⟩
   obtain ⟨ad, b, rfl, -, eb, gb⟩ := HR.out.at_ (k := at_ + i) (by rw [HN.out]; omega)
   change w.cell? (ad.add (at_ + i)) = some (.int .u8 (byt b)) at gb
   have EB := Lib.hid eb; clear eb
   have gk : (at_ : Int) + i < N := by omega
   have ei : ((i + 1 : Nat) : Int) - 1 = (i : Int) := by omega
   have hx8 : x < 256 ^ (n - (i + 1)) := by
    have := le_lt ((l.drop (at_ + (i + 1))).take (n - (i + 1)))
    rw [← HX.out] at this
    have e4 : ((l.drop (at_ + (i + 1))).take (n - (i + 1))).length = n - (i + 1) := by simp; have := HN.out; omega
    rwa [e4] at this
   have so := shl_or x (n - (i + 1)) b (by omega) hx8
   have HX8 := Lib.hid hx8; clear hx8
   have r1 := byt_range b
   obtain ⟨r1, r2⟩ := r1
   rw [ei]
   go_wp2
   case roundEnd =>
    have e3 : n - i = (n - (i + 1)) + 1 := by omega
    have e : (l.drop (at_ + i)).take (n - i) = b :: (l.drop (at_ + (i + 1))).take (n - (i + 1)) := by
     have hl : at_ + i < l.length := by have := HN.out; omega
     rw [e3, List.drop_eq_getElem_cons hl, List.take_succ_cons]
     have : l[at_ + i] = b := by have := EB.out; rw [List.getElem?_eq_getElem hl] at this; exact Option.some.inj this
     rw [this]; rfl
    refine ⟨⟨i, b.toNat + 256 * x, by omega, rfl, (by first | rw [so] | rfl), ?_⟩, by simp [intOf]⟩
    rw [e, HX.out]; rfl
  ·obtain rfl : j = 0 := by omega
   go_wp2
   exact bodyPost_ret (results_tmp rfl _ _ _) rfl ⟨by rw [HX.out]; simp only [Nat.add_zero, Nat.sub_zero]; rfl, rfl⟩
theorem Trim.all2 (l : List UInt8) : Trim l l.length := ⟨Nat.le_refl _, by simp⟩
set_option maxHeartbeats 2000000 in
theorem refTrim_any (A : Option Addr) (c N : Nat) (l : List UInt8) (w : World) (hl : l.length = N) (hN : N ≤ 1024) (hr : RS cB w w.heap.size A l) :
  Calls Tryz.prog 70 #[.slice A N c] w fun r w' => ∃ (A' : Option Addr) (t c' : Nat), r = .returned (.slice A' t c') ∧ Trim l t ∧ OS cB w' w.heap.size A' c' (l.take t) ∧ Below w.heap.size w w' := by
 have HL := Lib.hid hl; have HR := Lib.hid hr; clear hr
 go_enter Tryz.func70, Tryz.ntmps70
 go_wp2
 go_loop [3] (fun v => ∃ t : Nat, t ≤ N ∧ v = .int .i64 t ∧ Trim l t) (fun v => (intOf v).toNat)
 case atStart => exact ⟨N, Nat.le_refl _, rfl, by rw [← hl]; exact Trim.all2 l⟩
 case round =>
  obtain ⟨t, ht, rfl, hT⟩ := hrel
  have HT := Lib.hid hT; clear hT hl
  by_cases h0 : 0 < t
  ·obtain ⟨k, rfl⟩ : ∃ k, t = k + 1 := ⟨t - 1, by omega⟩
   obtain ⟨ad, b, rfl, -, eb, gb⟩ := HR.out.at_ (k := k) (by rw [HL.out]; omega)
   change w.cell? (ad.add k) = some (.int .u8 (byt b)) at gb
   have ek : ((k + 1 : Nat) : Int) - 1 = (k : Int) := by omega
   have wk : wrap64 (((k + 1 : Nat) : Int) - 1) = (k : Int) := by unfold wrap64; omega
   have EB := Lib.hid eb; clear eb
   by_cases hb : b = 0
   ·subst hb
    go_wp2
    case roundEnd =>
     exact ⟨⟨k, by omega, by go_num, HT.out.less EB.out⟩, by simp [intOf]⟩
   ·have tb : (byt b == 0) = false := by
     rw [beq_eq_false_iff_ne]
     intro h
     exact hb (UInt8.toNat_inj.1 (Int.ofNat.inj h))
    clear hb EB
    generalize byt b = y at *
    go_wp2_with fail
    go_loopw [4, 5] (fun o i wr => ∃ (kk : Nat) (A' : Option Addr) (c' : Nat), kk ≤ (k + 1) ∧ i = .int .i64 kk ∧ o = .slice A' kk c' ∧ OS cB wr w.heap.size A' c' (l.take kk) ∧ Below w.heap.size w wr) (fun _ i _ => (k + 1) - (intOf i).toNat)
    case atStart => exact ⟨0, none, 0, Nat.zero_le _, rfl, rfl, OS.nil _ _ _ rfl, b0 w⟩
    case round =>
     obtain ⟨k2, A', c', hk2, rfl, rfl, hos, hbw⟩ := hrel
     have HO := Lib.hid hos; have HBW := Lib.hid hbw; clear hos hbw
     by_cases hlt2 : k2 < (k + 1)
     ·obtain ⟨ad2, b2, hA2, hab2, eb2, gb2⟩ := (HR.out.below HBW.out).at_ (k := k2) (by rw [HL.out]; omega)
      have EB2 := Lib.hid eb2
      injection hA2 with hA2
      rw [← hA2] at gb2 hab2
      clear hA2
      change wr.cell? (ad.add k2) = some (.int .u8 (byt b2)) at gb2
      have hlen := Lib.hid (show (l.take k2).length = k2 by rw [List.length_take, HL.out]; omega)
      have hlo : ad.block < wr.heap.size := Nat.lt_of_lt_of_le hab2 HBW.out.size
      have HLT2 := Lib.hid hlt2
      clear eb2
      go_wp2_with (at_builtin; refine wpList_appB1 _ rfl (.tmp 25) (.tmp 30) rfl (HO.out.alloc _) rfl hlen.out rfl (cnew _ _ _ rfl) b2 rfl (by omega) (by have := HBW.out.size; simp; omega) ?_; intro A3 c3 w3 hown3 hgrow hat; have hw3 := bapp (bal HBW.out _) (HO.out.alloc _) hgrow; have HO3 := Lib.hid hown3; have HW3 := Lib.hid hw3; clear hown3 hgrow hat hw3)
      case roundEnd => exact ⟨⟨k2 + 1, A3, c3, HLT2.out, by go_num, rfl, by rw [List.take_add_one, EB2.out]; exact HO3.out, HW3.out⟩, by have h := HLT2.out; simp [intOf]; omega⟩
     ·obtain rfl : k2 = (k + 1) := by omega
      go_wp2
      exact bodyPost_ret (results_tmp rfl _ _ _) rfl ⟨A', (k + 1), c', rfl, HT.out, HO.out, HBW.out⟩
  ·obtain rfl : t = 0 := by omega
   go_wp2_with fail
   go_loopw [4, 5] (fun o i wr => o = .slice none 0 0 ∧ i = .int .i64 0 ∧ Below w.heap.size w wr) (fun _ _ _ => 0)
   case atStart => exact ⟨rfl, rfl, b0 w⟩
   case round =>
    obtain ⟨rfl, rfl, hbw⟩ := hrel
    go_wp2
    exact bodyPost_ret (results_tmp rfl _ _ _) rfl ⟨none, 0, 0, rfl, HT.out, OS.nil _ _ _ rfl, hbw⟩
theorem refSized_any (big : Bool) (A : Option Addr) (n c : Nat) (w : World) : Calls Tryz.prog 56 #[.int .i64 (kOf big), .slice A n c] w fun e w' => e = .returned (.int .i64 (if n < bOf big then 3 else if bOf big < n then 2 else 0)) ∧ w = w' := by
 have hs := fun W => refSize_any big W
 have hm := fun W => refMost_any big W
 have h0 : ((bOf big : Int) == 0) = false := by cases big <;> rfl
 generalize bOf big = m at *
 generalize kOf big = k at *
 have HS := Lib.hid hs; have HM := Lib.hid hm; clear hs hm
 by_cases h1 : n < m
 ·rw [if_pos h1]
  have t1 : decide ((n : Int) < (m : Int)) = true := decide_eq_true (Int.ofNat_lt.2 h1)
  go_enter Tryz.func56, Tryz.ntmps56
  go_wp2_with (first | (go_at_call 35; refine (HM.out _).mono ?_; rintro e1 w1 ⟨rfl, rfl⟩) | (go_at_call 46; refine (HS.out _).mono ?_; rintro e1 w1 ⟨rfl, rfl⟩))
  exact bodyPost_ret (results_tmp rfl _ _ _) rfl ⟨rfl, rfl⟩
 ·rw [if_neg h1]
  have t1 : decide ((n : Int) < (m : Int)) = false := decide_eq_false (fun h => h1 (Int.ofNat_lt.1 h))
  by_cases h2 : m < n
  ·rw [if_pos h2]
   have t2 : decide ((m : Int) < (n : Int)) = true := decide_eq_true (Int.ofNat_lt.2 h2)
   go_enter Tryz.func56, Tryz.ntmps56
   go_wp2_with (first | (go_at_call 35; refine (HM.out _).mono ?_; rintro e1 w1 ⟨rfl, rfl⟩) | (go_at_call 46; refine (HS.out _).mono ?_; rintro e1 w1 ⟨rfl, rfl⟩))
   exact bodyPost_ret (results_tmp rfl _ _ _) rfl ⟨rfl, rfl⟩
  ·rw [if_neg h2]
   have t2 : decide ((m : Int) < (n : Int)) = false := decide_eq_false (fun h => h2 (Int.ofNat_lt.1 h))
   go_enter Tryz.func56, Tryz.ntmps56
   go_wp2_with (first | (go_at_call 35; refine (HM.out _).mono ?_; rintro e1 w1 ⟨rfl, rfl⟩) | (go_at_call 46; refine (HS.out _).mono ?_; rintro e1 w1 ⟨rfl, rfl⟩))
   exact bodyPost_ret (results_tmp rfl _ _ _) rfl ⟨rfl, rfl⟩
end Go.Proofs.YtghpofnaojbbkaaGreat

/-
  LongHashes' law. Contracts alone; no statement is claimed here.
-/
import Derived.Test.YtgephdbicbmpeaaGreatRLong
import Derived.Test.YtgephdbicbmpeaaGreatLaw19
import Derived.Test.YtgephdbicbmpeaaGreatAwk19
namespace Go.Proofs.YtgephdbicbmpeaaGreat
open Go.RowKit
attribute [local go_sem] pureUpon Ords.of

/-- what the long Hash tells: the bytes, the error -/
def longS (size : Int) (l : List UInt8) : List UInt8 × Int := if size < 1 ∨ 1048576 < size then ([], 1) else (longL size.toNat l, 0)
theorem longS_len (size : Int) (l : List UInt8) : (longS size l).1.length ≤ 1048576 := by
  unfold longS
  split
  · exact Nat.zero_le _
  · show (longL _ _).length ≤ _
    rw [longL_len]; omega
theorem longS_any (size : Int) (A : Option Addr) (nb c : Nat) (l : List UInt8) (w : World) (hl : l.length = nb) (hnb : nb ≤ 140737488351232) (hr : RS cB w w.heap.size A l) :
    Calls Tryz.prog 24 #[.int .i64 size, .slice A nb c] w fun e w' => ∃ A' n c' cc, e = .returned (.tuple #[.slice A' n cc, .int .i64 (longS size l).2]) ∧ (longS size l).1.length = n ∧ OS cB w' w.heap.size A' c' (longS size l).1 ∧ Below w.heap.size w w' := by
  by_cases h : size < 1 ∨ 1048576 < size
  · have e : longS size l = ([], 1) := by unfold longS; rw [if_pos h]
    rw [e]
    exact (longBad_any size A nb c w h).mono fun r w' ⟨h1, h2⟩ => ⟨none, 0, 0, 0, h1, rfl, OS.nil _ _ _ rfl, h2 ▸ b0 w⟩
  · have e : longS size l = (longL size.toNat l, 0) := by unfold longS; rw [if_neg h]
    rw [e]
    obtain ⟨n, rfl⟩ : ∃ n : Nat, size = n := ⟨size.toNat, by omega⟩
    exact (longHash_any n A nb c l w (by omega) hl hnb hr).mono fun r w' ⟨A', c', cc, h1, h2, h3⟩ => ⟨A', n, c', cc, h1, longL_len n l, h2, h3⟩
theorem refLongS_any (size : Int) (A : Option Addr) (nb c : Nat) (l : List UInt8) (w : World) (hl : l.length = nb) (hnb : nb ≤ 140737488351232) (hr : RS cB w w.heap.size A l) :
    Calls Tryz.prog 25 #[.int .i64 size, .slice A nb c] w fun e w' => ∃ A' n c' cc, e = .returned (.tuple #[.slice A' n cc, .int .i64 (longS size l).2]) ∧ (longS size l).1.length = n ∧ OS cB w' w.heap.size A' c' (longS size l).1 ∧ Below w.heap.size w w' := by
  by_cases h : size < 1 ∨ 1048576 < size
  · have e : longS size l = ([], 1) := by unfold longS; rw [if_pos h]
    rw [e]
    exact (refLongBad_any size A nb c w h).mono fun r w' ⟨h1, h2⟩ => ⟨none, 0, 0, 0, h1, rfl, OS.nil _ _ _ rfl, h2 ▸ b0 w⟩
  · have e : longS size l = (longL size.toNat l, 0) := by unfold longS; rw [if_neg h]
    rw [e]
    obtain ⟨n, rfl⟩ : ∃ n : Nat, size = n := ⟨size.toNat, by omega⟩
    exact (refLong_any n A nb c l w (by omega) hl hnb hr).mono fun r w' ⟨A', c', cc, h1, h2, h3⟩ => ⟨A', n, c', cc, h1, longL_len n l, h2, h3⟩
set_option maxRecDepth 20000 in
set_option maxHeartbeats 2000000 in
theorem longHashes_law (size : Int) (A : Option Addr) (n c : Nat) (data : List UInt8) (w : World) (hn : data.length = n) (hn47 : n ≤ 140737488351232) (hr : RS cB w w.heap.size A data) :
    Calls Tryz.prog 5 #[.int .i64 size, .slice A n c] w fun e w' => e = .returned (.bool true) ∧ Below w.heap.size w w' := by
  have hcp := fun W hr => copied19_any A c n data W hn (by omega) hr
  have hsm := fun (A1 A2 : Option Addr) (c1 c2 n1 n2 : Nat) (l1 l2 : List UInt8) W h1 h2 hm r1 r2 => same19_any A1 A2 c1 c2 l1 l2 n1 n2 W h1 h2 hm r1 r2
  have hlo := fun A c W hr => longS_any size A n c data W hn hn47 hr
  have hrl := fun A c W hr => refLongS_any size A n c data W hn hn47 hr
  have hlen := longS_len size data
  generalize longS size data = R at *
  obtain ⟨OUT, ERR⟩ := R
  dsimp only at hlo hrl hlen
  have haw := fun W => awake_any W
  have HCP := Lib.hid hcp; have HSM := Lib.hid hsm; have HLO := Lib.hid hlo; have HRL := Lib.hid hrl; have HLN := Lib.hid hlen; have HAW := Lib.hid haw; have HR := Lib.hid hr; have HN := Lib.hid hn
  clear hcp hsm hlo hrl hlen haw hr hn
  go_enter Tryz.func5, Tryz.ntmps5
  go_wp2_with (first
    | (go_at_call 23; refine (HCP.out _ HR.out).mono ?_; rintro e1 w1 ⟨A1, c1, rfl, ho1, hb1⟩; have HO1 := Lib.hid ho1; have HB1 := Lib.hid hb1; clear ho1 hb1)
    | (go_at_call 24; refine (HLO.out A1 c1 _ HO1.out.reads).mono ?_; rintro e2 w2 ⟨A2, n2, c2, cc2, rfl, hl2, ho2, hb2⟩; have HO2 := Lib.hid ho2; have HL2 := Lib.hid hl2; have HB2 := Lib.hid (bcall HB1.out hb2); have HO12 := Lib.hid (HO1.out.below hb2 (Nat.le_refl _)); clear ho2 hl2 hb2)
    | (go_at_call 25; refine (HRL.out A c _ ((HR.out.below HB2.out).more HB2.out.size)).mono ?_; rintro e3 w3 ⟨A3, n3, c3, cc3, rfl, hl3, ho3, hb3⟩; have HO3 := Lib.hid ho3; have HL3 := Lib.hid hl3; have HB3 := Lib.hid (bcall HB2.out hb3); have HO13 := Lib.hid (HO12.out.below hb3 (Nat.le_refl _)); have HO23 := Lib.hid (HO2.out.below hb3 (Nat.le_refl _)); clear ho3 hl3 hb3)
    | (go_at_call 26; refine (HSM.out A2 A3 cc2 cc3 n2 n3 OUT OUT _ HL2.out HL3.out (by have h1 := HL2.out; have h2 := HLN.out; omega) HO23.out.reads HO3.out.reads).mono ?_; rintro e7 w7 ⟨rfl, hb7⟩; rw [decide_eq_true (rfl : OUT = OUT)]; have HB7 := Lib.hid hb7; clear hb7)
    | (go_at_call 26; refine (HSM.out A1 A c1 c n n data data _ HN.out HN.out (by omega) ((HO13.out.below HB7.out (Nat.le_refl _)).reads) (((HR.out.below HB3.out).more HB3.out.size).below HB7.out |>.more HB7.out.size)).mono ?_; rintro e8 w8 ⟨rfl, hb8⟩; rw [decide_eq_true (rfl : data = data)]; have HB8 := Lib.hid (bcall HB7.out hb8); clear hb8)
    | (go_at_call 27; refine (HAW.out _).mono ?_; rintro e9 w9 ⟨rfl, hb9⟩; have HB9 := Lib.hid (bcall HB8.out hb9); clear hb9))
  exact bodyPost_ret (results_tmp rfl _ _ _) rfl ⟨rfl, bcall HB3.out HB9.out⟩
end Go.Proofs.YtgephdbicbmpeaaGreat

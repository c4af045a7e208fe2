/-
  The reference's hasher: counts, pieces, bytes. Contracts alone; no statement is claimed here.
-/
import Derived.Test.YtgephdbicbmpeaaGreatRefE
import Derived.Test.YtgephdbicbmpeaaGreatLoadR
namespace Go.Proofs.YtgephdbicbmpeaaGreat
open Go.RowKit
attribute [local go_sem] pureUpon Ords.of

theorem refBlock_any (big : Bool) (w : World) : Calls Tryz.prog 152 #[.int .i64 (kOf big)] w fun e w' => e = .returned (.int .i64 (2 * bOf big : Nat)) ∧ w = w' := by
  cases big with
  | true =>
    show Calls _ _ #[.int .i64 1] w _
    go_enter Tryz.func152, Tryz.ntmps152
    go_wp2_with fail
    exact bodyPost_ret (results_tmp rfl _ _ _) rfl ⟨rfl, rfl⟩
  | false =>
    show Calls _ _ #[.int .i64 2] w _
    go_enter Tryz.func152, Tryz.ntmps152
    go_wp2_with fail
    exact bodyPost_ret (results_tmp rfl _ _ _) rfl ⟨rfl, rfl⟩
theorem refFull_any (big : Bool) (w : World) : Calls Tryz.prog 77 #[.int .i64 (kOf big)] w fun e w' => e = .returned (.int .i64 (bOf big : Nat)) ∧ w = w' := by
  cases big with
  | true =>
    show Calls _ _ #[.int .i64 1] w _
    go_enter Tryz.func77, Tryz.ntmps77
    go_wp2_with fail
    exact bodyPost_ret (results_tmp rfl _ _ _) rfl ⟨rfl, rfl⟩
  | false =>
    show Calls _ _ #[.int .i64 2] w _
    go_enter Tryz.func77, Tryz.ntmps77
    go_wp2_with fail
    exact bodyPost_ret (results_tmp rfl _ _ _) rfl ⟨rfl, rfl⟩
theorem addHi_keep (lo hi n : UInt64) (h : lo.toNat ≤ (lo + n).toNat) : addHi lo hi n = hi := by
  have h1 : lo.toNat < 18446744073709551616 := lo.toNat_lt
  have h2 : n.toNat < 18446744073709551616 := n.toNat_lt
  rw [UInt64.toNat_add] at h
  unfold addHi cyOf
  have : (lo.toNat + n.toNat + (0 : UInt64).toNat) / 18446744073709551616 = 0 := by show (lo.toNat + n.toNat + 0) / _ = 0; omega
  rw [this]
  exact UInt64.add_zero hi
theorem addHi_more (lo hi n : UInt64) (h : ¬ lo.toNat ≤ (lo + n).toNat) : addHi lo hi n = hi + 1 := by
  have h1 : lo.toNat < 18446744073709551616 := lo.toNat_lt
  have h2 : n.toNat < 18446744073709551616 := n.toNat_lt
  rw [UInt64.toNat_add] at h
  unfold addHi cyOf
  have : (lo.toNat + n.toNat + (0 : UInt64).toNat) / 18446744073709551616 = 1 := by show (lo.toNat + n.toNat + 0) / _ = 1; omega
  rw [this]
  rfl
theorem refAdd_any (lo hi n : UInt64) (w : World) :
    Calls Tryz.prog 148 #[.int .u64 (wrd lo), .int .u64 (wrd hi), .int .u64 (wrd n)] w fun e w' => ∃ b, e = .returned (.tuple #[.int .u64 (wrd (addLo lo n)), .int .u64 (wrd (addHi lo hi n)), .bool b]) ∧ w = w' := by
  have h1 := wrd_add lo n
  have h2 := wrd_add hi 1
  have e1 : wrd 1 = 1 := rfl
  rw [e1] at h2
  unfold addLo
  by_cases h : lo.toNat ≤ (lo + n).toNat
  · have hk := addHi_keep lo hi n h
    have t : decide (wrd lo ≤ wrd (lo + n)) = true := decide_eq_true (Int.ofNat_le.2 h)
    rw [hk]
    generalize lo + n = s at *
    clear hk h2 e1 h
    go_enter Tryz.func148, Tryz.ntmps148
    go_wp2_with fail
    exact bodyPost_ret (results_tmp3 rfl _ _ _) rfl ⟨_, rfl, rfl⟩
  · have hk := addHi_more lo hi n h
    have t : decide (wrd lo ≤ wrd (lo + n)) = false := decide_eq_false (fun hh => h (Int.ofNat_le.1 hh))
    rw [hk]
    generalize lo + n = s at *
    generalize hi + 1 = i at *
    clear hk e1 h
    go_enter Tryz.func148, Tryz.ntmps148
    go_wp2_with fail
    exact bodyPost_ret (results_tmp3 rfl _ _ _) rfl ⟨_, rfl, rfl⟩

/-- the n bytes from a place on, filled up with noughts -/
def cutL (m : List UInt8) (at_ n : Nat) : List UInt8 := padTo ((m.drop at_).take n) n
theorem cutL_len (m : List UInt8) (at_ n : Nat) : (cutL m at_ n).length = n := padTo_len _ _ (by rw [List.length_take]; omega)
theorem cutL_in (m : List UInt8) (at_ n k : Nat) (x : UInt8) (hk : k < n) (hx : m[at_ + k]? = some x) : (cutL m at_ n)[k]? = some x := by
  have hl := (List.getElem?_eq_some_iff.1 hx).1
  unfold cutL padTo
  rw [List.getElem?_append_left (by rw [List.length_take, List.length_drop]; omega), List.getElem?_take_of_lt hk, List.getElem?_drop, hx]
theorem cutL_out (m : List UInt8) (at_ n k : Nat) (hk : k < n) (hx : m.length ≤ at_ + k) : (cutL m at_ n)[k]? = some 0 := by
  unfold cutL padTo
  rw [List.getElem?_append_right (by rw [List.length_take, List.length_drop]; omega), List.getElem?_replicate_of_lt (by rw [List.length_take, List.length_drop]; omega)]
theorem take_more {α : Type} (l : List α) (k : Nat) (x : α) (h : l[k]? = some x) : l.take (k + 1) = l.take k ++ [x] := by rw [List.take_add_one, h]; rfl
set_option maxHeartbeats 1000000 in
theorem refCut_any (A : Option Addr) (N c at_ n : Nat) (m : List UInt8) (w : World) (hm : m.length = N) (hN : N ≤ 140737488355328) (hat : at_ ≤ N) (hn : n ≤ 1024) (hr : RS cB w w.heap.size A m) :
    Calls Tryz.prog 151 #[.slice A N c, .int .i64 at_, .int .i64 n] w fun e w' => ∃ A' c', e = .returned (.slice A' n c') ∧ OS cB w' w.heap.size A' c' (cutL m at_ n) ∧ Below w.heap.size w w' := by
  have hin := fun k x hk hx => cutL_in m at_ n k x hk hx
  have hout := fun k hk hx => cutL_out m at_ n k hk hx
  have hcl := cutL_len m at_ n
  rw [hm] at hout
  obtain ⟨C, hC⟩ : ∃ C, C = cutL m at_ n := ⟨_, rfl⟩
  simp only [← hC] at hin hout hcl ⊢
  have HIN := Lib.hid hin; have HOUT := Lib.hid hout; have HCL := Lib.hid hcl; have HR := Lib.hid hr; have HM := Lib.hid hm
  clear hin hout hcl hC hr hm
  go_enter Tryz.func151, Tryz.ntmps151
  go_wp2_with fail
  go_loopw [7, 8] (fun o i wr => ∃ (k : Nat) (A' : Option Addr) (c' : Nat), k ≤ n ∧ i = .int .i64 k ∧ o = .slice A' k c' ∧ OS cB wr w.heap.size A' c' (C.take k) ∧ Below w.heap.size w wr) (fun _ i _ => n - (intOf i).toNat)
  case atStart => exact ⟨0, none, 0, Nat.zero_le _, rfl, rfl, OS.nil _ _ _ rfl, b0 _⟩
  case round =>
    obtain ⟨k, A1, c1, hk, rfl, rfl, hos, hbw⟩ := hrel
    have HO := Lib.hid hos; have HB := Lib.hid hbw; clear hos hbw
    by_cases hlt : k < n
    · have hkd : decide ((k : Int) < n) = true := by simp; omega
      have hkl : Hid ((C.take k).length = k) := by show _ = _; rw [List.length_take, HCL.out]; omega
      obtain ⟨j, hj⟩ : ∃ j, j = at_ + k := ⟨_, rfl⟩
      have hji : (at_ : Int) + (k : Int) = (j : Int) := by omega
      have hjw : IntKind.i64.wrap (j : Int) = j := by simp [IntKind.wrap, IntKind.bits, IntKind.signed]; omega
      have HJ := Lib.hid hj
      by_cases hjN : j < N
      · obtain ⟨ad, x, rfl, -, hlx, hcx⟩ := (HR.out.below HB.out).at_ (k := j) (by rw [HM.out]; exact hjN)
        change wr.cell? (ad.add j) = some (.int .u8 (byt x)) at hcx
        have htk := take_more C k x (HIN.out k x hlt (by rw [← hj]; exact hlx))
        have HTK := Lib.hid htk
        have hjd : decide ((j : Int) < N) = true := by simp; omega
        clear hj htk hlx
        go_wp2_with (at_builtin; refine wpList_appB1 _ rfl (.tmp 27) (.tmp 29) rfl (HO.out.alloc _) rfl hkl.out rfl (cnew _ _ _ rfl) x rfl (by omega) (by have := HB.out.size; simp; omega) ?_; intro A3 c3 w3 hown3 hgrow hat; have HW3 := Lib.hid (bapp (bal HB.out _) (HO.out.alloc _) hgrow); have HO3 := Lib.hid hown3; clear hown3 hgrow hat)
        go_roundw
        case rel => exact ⟨k + 1, A3, c3, by omega, by go_num, rfl, by rw [HTK.out]; exact HO3.out, HW3.out⟩
        case measure => simp [intOf]; omega
      · have htk := take_more C k 0 (HOUT.out k hlt (by rw [← hj]; omega))
        have HTK := Lib.hid htk
        have hjd : decide ((j : Int) < N) = false := by simp; omega
        clear hj htk
        go_wp2_with (at_builtin; refine wpList_appB1 _ rfl (.tmp 27) (.tmp 29) rfl (HO.out.alloc _) rfl hkl.out rfl (cnew _ _ _ rfl) 0 rfl (by omega) (by have := HB.out.size; simp; omega) ?_; intro A3 c3 w3 hown3 hgrow hat; have HW3 := Lib.hid (bapp (bal HB.out _) (HO.out.alloc _) hgrow); have HO3 := Lib.hid hown3; clear hown3 hgrow hat)
        go_roundw
        case rel => exact ⟨k + 1, A3, c3, by omega, by go_num, rfl, by rw [HTK.out]; exact HO3.out, HW3.out⟩
        case measure => simp [intOf]; omega
    · obtain rfl : k = n := by omega
      have hos := HO.out
      rw [List.take_of_length_le (Nat.le_of_eq HCL.out)] at hos
      have HO2 := Lib.hid hos; clear hos
      go_wp2_with fail
      exact bodyPost_ret (results_tmp rfl _ _ _) rfl ⟨_, _, rfl, HO2.out, HB.out⟩

/-- a state of the reference, of either kind -/
inductive HS
  | big (H : List UInt64)
  | small (H : List UInt32)
namespace HS
def k : HS → Bool
  | big _ => true
  | small _ => false
def words : HS → List UInt64
  | big H => H ++ zw 8
  | small H => H.map (fun x => x.toUInt64) ++ zw 8
def Ok : HS → Prop
  | big H => H.length = 8
  | small H => H.length = 8
def mix : HS → List UInt8 → UInt64 → UInt64 → Bool → Bool → HS
  | big H, x, lo, hi, l, n => big (comp64 H (wordsOf x 16) lo hi l n)
  | small H, x, lo, _, l, n => small (comp32 H (words3 x 16) lo l n)
def bytes : HS → List UInt8
  | big H => flat H
  | small H => flat3 H
theorem mix_k (S : HS) (x : List UInt8) (lo hi : UInt64) (l n : Bool) : (S.mix x lo hi l n).k = S.k := by cases S <;> rfl
theorem mix_ok (S : HS) (x : List UInt8) (lo hi : UInt64) (l n : Bool) : (S.mix x lo hi l n).Ok := by
  cases S
  · exact comp64_len _ _ _ _ _ _
  · exact comp32_len _ _ _ _ _
theorem words_len {S : HS} (h : S.Ok) : S.words.length = 16 := by
  cases S <;> (show (_ ++ zw 8).length = 16; simp [zw]; exact h)
end HS
def bytesTo (L : List UInt64) (q k : Nat) : List UInt8 := (L.take k).flatMap fun x => storeN x.toNat q
theorem bytesTo_len (L : List UInt64) (q k : Nat) (hk : k ≤ L.length) : (bytesTo L q k).length = k * q := by
  have : ∀ l : List UInt64, (l.flatMap fun x => storeN x.toNat q).length = l.length * q := by
    intro l
    induction l with
    | nil => simp
    | cons a l ih => simp only [List.flatMap_cons, List.length_append, storeN_len, ih, List.length_cons, Nat.succ_mul]; omega
  unfold bytesTo
  rw [this, List.length_take]
  congr 1
  omega
theorem bytesTo_more (L : List UInt64) (q k : Nat) (x : UInt64) (h : L[k]? = some x) : bytesTo L q (k + 1) = bytesTo L q k ++ storeN x.toNat q := by
  unfold bytesTo
  rw [take_more L k x h, List.flatMap_append]
  simp
theorem HS.bytes_eq {S : HS} (h : S.Ok) : S.bytes = bytesTo S.words (bOf S.k / 8) 8 := by
  cases S with
  | big H =>
    rw [show bOf (HS.big H).k / 8 = 8 from congrArg (· / 8) (show bOf (HS.big H).k = 64 from rfl)]
    show flat H = ((H ++ zw 8).take 8).flatMap _
    rw [List.take_append_of_le_length (Nat.le_of_eq (Eq.symm h)), List.take_of_length_le (Nat.le_of_eq h)]
    rfl
  | small H =>
    have h1 : (H.map (fun x : UInt32 => x.toUInt64)).length = 8 := by rw [List.length_map]; exact h
    rw [show bOf (HS.small H).k / 8 = 4 from congrArg (· / 8) (show bOf (HS.small H).k = 32 from rfl)]
    show flat3 H = ((H.map (fun x : UInt32 => x.toUInt64) ++ zw 8).take 8).flatMap _
    rw [List.take_append_of_le_length (by omega), List.take_of_length_le (by omega)]
    unfold flat3
    rw [List.flatMap_map]
    rfl
set_option maxRecDepth 20000 in
set_option maxHeartbeats 2000000 in
theorem refBytesW_any (big : Bool) (L : List UInt64) (q : Nat) (w : World) (hL : L.length = 16) (hq : bOf big = 8 * q) (hq8 : q ≤ 8) :
    Calls Tryz.prog 149 #[.int .i64 (kOf big), .agg (wcs L)] w fun e w' => ∃ A c, e = .returned (.slice A (8 * q) c) ∧ OS cB w' w.heap.size A c (bytesTo L q 8) ∧ Below w.heap.size w w' := by
  have hfu := fun W => refFull_any big W
  rw [hq] at hfu
  have HFU := Lib.hid hfu; have HL := Lib.hid hL; clear hfu hL hq
  generalize kOf big = kk at *
  have n0 := Blk.new w 121 (wcs L)
  have n4 := bal (b0 w) (.cells (wcs L) 121)
  have hqd : ((8 * q : Nat) : Int).tdiv 8 = q := by rw [Int.tdiv_eq_ediv_of_nonneg (by omega)]; omega
  have hqd' : ((8 * q : Nat) : Int) / 8 = q := by omega
  obtain ⟨q8, hq8e⟩ : ∃ q8, q8 = 8 * q := ⟨_, rfl⟩
  rw [← hq8e] at hqd hqd' HFU
  obtain ⟨g, hg⟩ : ∃ g, g = w.heap.size := ⟨_, rfl⟩
  go_enter Tryz.func149, Tryz.ntmps149
  go_wp2_with fail
  rw [← hg] at n0 ⊢
  generalize w.alloc (.cells (wcs L) 121) = w0 at *
  have N0 := Lib.hid n0; have N4 := Lib.hid n4; have HQ := Lib.hid hq8e; clear n0 n4 hg hq8e
  go_loopw [5, 6] (fun o i wr => ∃ (k m : Nat) (A : Option Addr) (c : Nat), k ≤ 8 ∧ i = .int .i64 k ∧ m = k * q ∧ o = .slice A m c ∧ OS cB wr w.heap.size A c (bytesTo L q k) ∧ Blk wr g 121 (wcs L) ∧ Below w.heap.size w wr) (fun _ i _ => 8 - (intOf i).toNat)
  case atStart => exact ⟨0, 0, none, 0, Nat.zero_le _, rfl, (Nat.zero_mul _).symm, rfl, OS.nil _ _ _ rfl, N0.out, N4.out⟩
  case round =>
    clear N0 N4
    obtain ⟨k, m, A, c, hk, rfl, hm, rfl, hos, x0, x4⟩ := hrel
    have HO := Lib.hid hos; have N0 := Lib.hid x0; have N4 := Lib.hid x4; have HM := Lib.hid hm; clear hos x0 x4
    by_cases hlt : k < 8
    · have hkd : decide ((k : Int) < 8) = true := by simp; omega
      have hki : (k : Int) < 16 := by omega
      have hmb : m ≤ 64 := by rw [hm]; exact Nat.le_trans (Nat.mul_le_mul hk hq8) (by decide)
      obtain ⟨v, hv⟩ : ∃ v, v = L.getD k 0 := ⟨_, rfl⟩
      have hLk : L[k]? = some v := by rw [hv]; exact getDW L k (by rw [HL.out]; omega)
      have HMO := Lib.hid (bytesTo_more L q k v hLk)
      have HBL := Lib.hid (show (bytesTo L q k).length = m by rw [hm]; exact bytesTo_len L q k (by rw [HL.out]; omega))
      have HLK := Lib.hid (wcs_at' L k v hLk)
      have c0 : wr.cell? ⟨g, k, none⟩ = some (.int .u64 (wrd v)) := (N0.out.cell _).trans HLK.out
      clear hm hv hLk
      go_wp2_with fail
      refine wp_region_ords (fun w' => Blk w' g 121 (wcs L)) (fun _ n h => h.drewN n) (Ords.of [(0, 0), (0, 1), (0, 2), (0, 3), (0, 4), (2, 5), (0, 6), (2, 7), (2, 8), (0, 9)] .fin) (by kernel_rfl) rfl (by kernel_rfl) (by kernel_rfl) (fun c a d v w h => by cases d <;> exact h) N0.out ?_
      refine ords_pure rfl (fun K hK => ?_); go_simp; refine hK _ ?_; clear hK K
      refine ords_pure rfl (fun K hK => ?_); go_simp; refine hK _ ?_; clear hK K
      refine ords_pure rfl (fun K hK => ?_); go_simp; refine hK _ ?_; clear hK K
      refine ords_heldK rfl (fun K K2 hK hK2 => ?_); go_simp; refine ⟨hK2 _ (fun w9 hS => ?_), hK _ ?_⟩; (clear hK hK2 K K2; have q0 : w9.cell? ⟨g, k, none⟩ = some (.int .u64 (wrd v)) := (hS.cell _).trans HLK.out; go_simp); (clear hK hK2 K K2)
      refine ords_pure rfl (fun K hK => ?_); go_simp; refine hK _ ?_; clear hK K
      refine ords_loud rfl (fun n1 => ?_)
      go_wp2_with (go_at_call 77; refine (HFU.out _).mono ?_; rintro e1 w1 ⟨rfl, rfl⟩)
      refine ⟨N0.out.drewN _, ?_⟩
      refine ords_pure rfl (fun K hK => ?_); go_simp; refine hK _ ?_; clear hK K
      refine ords_loud rfl (fun n2 => ?_)
      go_wp2_with (go_at_call 28; refine (refStore_any v q hq8 _).mono ?_; rintro e2 w2 ⟨A2, c2, rfl, ho2, hb2⟩)
      have HO2 := Lib.hid ho2; have HP := Lib.hid ((HO.out.drewN _).below hb2 (Nat.le_refl _)); have N2 := Lib.hid ((N0.out.drewN _).below hb2 (N0.out.drewN _).lt); have HB2 := Lib.hid (bcall (bdr N4.out _) hb2); clear ho2 hb2
      refine ⟨N2.out, ?_⟩
      refine ords_loud rfl (fun n3 => ?_)
      (refine wpList_appB _ rfl (.tmp 11) (.tmp 18) rfl (HP.out.drewN _) rfl HBL.out (HO2.out.reads.drewN _) rfl (storeN_len _ _) (by omega) HB2.out.size ?_; intro A3 c3 w3 ho3 hg3 hA3)
      have N3 := Lib.hid ((N2.out.drewN _).grown hg3 (HP.out.ne_row N2.out (by show 5 ≠ 121; decide))); have HO3 := Lib.hid ho3; have HB3 := Lib.hid (bapp (bdr HB2.out _) (HP.out.drewN _) hg3); clear ho3 hg3 hA3
      go_wp2
      refine ⟨N3.out, ?_⟩
      refine ords_pure rfl (fun K hK => ?_); go_simp; refine hK _ ?_; clear hK K
      refine ords_end (fun n4 => ?_)
      go_wp2_with fail
      go_roundw
      case rel => exact ⟨k + 1, m + q, A3, c3, by omega, by go_num, by have := HM.out; rw [this, Nat.succ_mul], rfl, by rw [HMO.out]; exact HO3.out.drewN _, N3.out.drewN _, bdr HB3.out _⟩
      case measure => simp [intOf]; omega
    · obtain rfl : k = 8 := by omega
      subst hm
      go_wp2_with fail
      exact bodyPost_ret (results_tmp rfl _ _ _) rfl ⟨_, _, rfl, HO.out, N4.out⟩
theorem refBytes_any (S : HS) (w : World) (hS : S.Ok) :
    Calls Tryz.prog 149 #[.int .i64 (kOf S.k), .agg (wcs S.words)] w fun e w' => ∃ A c, e = .returned (.slice A (bOf S.k) c) ∧ OS cB w' w.heap.size A c S.bytes ∧ Below w.heap.size w w' := by
  rw [HS.bytes_eq hS]
  cases S with
  | big H => rw [show bOf (HS.big H).k = 8 * 8 from rfl, show 8 * 8 / 8 = 8 from rfl]; exact refBytesW_any true _ 8 w (HS.words_len hS) rfl (by decide)
  | small H => rw [show bOf (HS.small H).k = 8 * 4 from rfl, show 8 * 4 / 8 = 4 from rfl]; exact refBytesW_any false _ 4 w (HS.words_len hS) rfl (by decide)
end Go.Proofs.YtgephdbicbmpeaaGreat

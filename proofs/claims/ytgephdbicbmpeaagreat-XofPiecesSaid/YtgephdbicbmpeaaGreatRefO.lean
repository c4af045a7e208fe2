/-
  The reference's hasher: New, Write. Contracts alone; no statement is claimed here.
-/
import Derived.Test.YtgephdbicbmpeaaGreatRefM
import Derived.Deep.CutRange
namespace Go.Proofs.YtgephdbicbmpeaaGreat
open Go.RowKit
attribute [local go_sem] pureUpon Ords.of

/-- the key's block -/
def keyL (big : Bool) (key : List UInt8) : List UInt8 := if key = [] then [] else padTo key (2 * bOf big)
theorem bOf_le (big : Bool) : 32 ≤ bOf big ∧ bOf big ≤ 64 := by cases big <;> decide
theorem keyL_len (big : Bool) (key : List UInt8) (h : key.length ≤ 2 * bOf big) : (keyL big key).length ≤ 128 := by
  unfold keyL
  split
  · exact Nat.zero_le _
  · rw [padTo_len _ _ h]; have := bOf_le big; omega
theorem padTo_in (l : List UInt8) (n k : Nat) (x : UInt8) (hx : l[k]? = some x) : (padTo l n)[k]? = some x := by
  have hl := (List.getElem?_eq_some_iff.1 hx).1
  unfold padTo
  rw [List.getElem?_append_left hl, hx]
theorem padTo_out (l : List UInt8) (n k : Nat) (hk : k < n) (hx : l.length ≤ k) : (padTo l n)[k]? = some 0 := by
  unfold padTo
  rw [List.getElem?_append_right hx, List.getElem?_replicate_of_lt (by omega)]
set_option maxHeartbeats 1000000 in
theorem refKeyed_any (big : Bool) (A : Option Addr) (nk c : Nat) (key : List UInt8) (w : World) (hk : key.length = nk) (hnk : nk ≤ bOf big) (hr : RS cB w w.heap.size A key) :
    Calls Tryz.prog 146 #[.int .i64 (kOf big), .slice A nk c] w fun e w' => ∃ A' m c', e = .returned (.slice A' m c') ∧ (keyL big key).length = m ∧ OS cB w' w.heap.size A' c' (keyL big key) ∧ Below w.heap.size w w' := by
  have hbl := fun W => refBlock_any big W
  have hb2 := bOf_le big
  obtain ⟨n, hn⟩ : ∃ n, n = 2 * bOf big := ⟨_, rfl⟩
  by_cases h0 : nk = 0
  · subst h0
    have hk0 : keyL big key = [] := by unfold keyL; rw [if_pos (List.eq_nil_of_length_eq_zero hk)]
    rw [hk0]
    clear hbl hk0 hn
    generalize kOf big = kk at *
    go_enter Tryz.func146, Tryz.ntmps146
    go_wp2_with fail
    exact bodyPost_ret (results_tmp rfl _ _ _) rfl ⟨none, 0, 0, rfl, rfl, OS.nil _ _ _ rfl, b0 _⟩
  · have hke : keyL big key = padTo key n := by unfold keyL; rw [if_neg (fun h => h0 (by rw [← hk, h]; rfl)), hn]
    rw [hke]
    rw [← hn] at hbl
    have hcl := padTo_len key n (by rw [hk]; omega)
    have hin := fun k x hx => padTo_in key n k x hx
    have hout := fun k hk hx => padTo_out key n k hk hx
    rw [hk] at hout
    obtain ⟨C, hC⟩ : ∃ C, C = padTo key n := ⟨_, rfl⟩
    simp only [← hC] at hin hout hcl ⊢
    have HIN := Lib.hid hin; have HOUT := Lib.hid hout; have HCL := Lib.hid hcl; have HR := Lib.hid hr; have HM := Lib.hid hk; have HBL := Lib.hid hbl
    have hn128 : n ≤ 128 := by omega
    have t0 : ((nk : Int) == 0) = false := by simp; omega
    clear hin hout hcl hC hr hk hbl hke hn hb2
    generalize kOf big = kk at *
    go_enter Tryz.func146, Tryz.ntmps146
    go_wp2_with fail
    go_loopw [5, 6] (fun o i wr => ∃ (k : Nat) (A' : Option Addr) (c' : Nat), k ≤ n ∧ i = .int .i64 k ∧ o = .slice A' k c' ∧ OS cB wr w.heap.size A' c' (C.take k) ∧ Below w.heap.size w wr) (fun _ i _ => n - (intOf i).toNat)
    case atStart => exact ⟨0, none, 0, Nat.zero_le _, rfl, rfl, OS.nil _ _ _ rfl, b0 _⟩
    case round =>
      obtain ⟨k, A1, c1, hk, rfl, rfl, hos, hbw⟩ := hrel
      have HO := Lib.hid hos; have HB := Lib.hid hbw; clear hos hbw
      by_cases hlt : k < n
      · have hkd : decide ((k : Int) < n) = true := by simp; omega
        have hkl : Hid ((C.take k).length = k) := by show _ = _; rw [List.length_take, HCL.out]; omega
        by_cases hjN : k < nk
        · obtain ⟨ad, x, rfl, -, hlx, hcx⟩ := (HR.out.below HB.out).at_ (k := k) (by rw [HM.out]; exact hjN)
          change wr.cell? (ad.add k) = some (.int .u8 (byt x)) at hcx
          have htk := take_more C k x (HIN.out k x hlx)
          have HTK := Lib.hid htk
          have hjd : decide ((k : Int) < nk) = true := by simp; omega
          clear htk hlx
          go_wp2_with (first
            | (go_at_call 152; refine (HBL.out _).mono ?_; rintro e2 w2 ⟨rfl, rfl⟩)
            | (at_builtin; refine wpList_appB1 _ rfl (.tmp 25) (.tmp 27) rfl (HO.out.alloc _) rfl hkl.out rfl (cnew _ _ _ rfl) x rfl (by omega) (by have := HB.out.size; simp; omega) ?_; intro A3 c3 w3 hown3 hgrow hat; have HW3 := Lib.hid (bapp (bal HB.out _) (HO.out.alloc _) hgrow); have HO3 := Lib.hid hown3; clear hown3 hgrow hat))
          go_roundw
          case rel => exact ⟨k + 1, A3, c3, by omega, by go_num, rfl, by rw [HTK.out]; exact HO3.out, HW3.out⟩
          case measure => simp [intOf]; omega
        · have htk := take_more C k 0 (HOUT.out k hlt (by omega))
          have HTK := Lib.hid htk
          have hjd : decide ((k : Int) < nk) = false := by simp; omega
          clear htk
          go_wp2_with (first
            | (go_at_call 152; refine (HBL.out _).mono ?_; rintro e2 w2 ⟨rfl, rfl⟩)
            | (at_builtin; refine wpList_appB1 _ rfl (.tmp 25) (.tmp 27) rfl (HO.out.alloc _) rfl hkl.out rfl (cnew _ _ _ rfl) 0 rfl (by omega) (by have := HB.out.size; simp; omega) ?_; intro A3 c3 w3 hown3 hgrow hat; have HW3 := Lib.hid (bapp (bal HB.out _) (HO.out.alloc _) hgrow); have HO3 := Lib.hid hown3; clear hown3 hgrow hat))
          go_roundw
          case rel => exact ⟨k + 1, A3, c3, by omega, by go_num, rfl, by rw [HTK.out]; exact HO3.out, HW3.out⟩
          case measure => simp [intOf]; omega
      · obtain rfl : k = n := by omega
        have hos := HO.out
        rw [List.take_of_length_le (Nat.le_of_eq HCL.out)] at hos
        have HO2 := Lib.hid hos; clear hos
        go_wp2_with (go_at_call 152; refine (HBL.out _).mono ?_; rintro e2 w2 ⟨rfl, rfl⟩)
        exact bodyPost_ret (results_tmp rfl _ _ _) rfl ⟨_, _, _, rfl, HCL.out, HO2.out, HB.out⟩

/-- the reference's hasher in memory -/
def rnCells (big : Bool) (p : Pr) (kv : Value) (last : Bool) (mv : Value) (cnt : UInt64) : Array Value :=
  #[.int .i64 (kOf big), .int .i64 p.digest, .int .i64 p.key, .int .i64 p.fanout, .int .i64 p.depth, .int .u32 p.leaf, .int .u64 p.offset, .int .u32 p.xof, .int .i64 p.nd, .int .i64 p.inner, .slice p.salt.A p.salt.n p.salt.c, .slice p.pers.A p.pers.n p.pers.c, kv, .bool last,
    .int .u64 0, .int .u64 0, .int .u64 0, .int .u64 0, .int .u64 0, .int .u64 0, .int .u64 0, .int .u64 0, .int .u64 0, .int .u64 0, .int .u64 0, .int .u64 0, .int .u64 0, .int .u64 0, .int .u64 0, .int .u64 0, .bool false, .int .u64 0, .int .u64 0, mv, .int .u64 (wrd cnt)]
structure RN (w : World) (base q : Nat) (big : Bool) (p : Pr) (ls lp key : List UInt8) (Ak : Option Addr) (nk ck : Nat) (last : Bool) (msg : List UInt8) (Am : Option Addr) (nm cm : Nat) (cnt : UInt64) : Prop where
  blk : Blk w q 123 (rnCells big p (.slice Ak nk ck) last (.slice Am nm cm) cnt)
  lo : base ≤ q
  salt : RS cB w base p.salt.A ls
  pers : RS cB w base p.pers.A lp
  key : RS cB w base Ak key
  own : OS cB w base Am cm msg
  len : msg.length = nm
  far : ∀ a, Am = some a → a.block ≠ q
theorem RN.below {w w' : World} {base q : Nat} {big : Bool} {p : Pr} {ls lp key : List UInt8} {Ak : Option Addr} {nk ck : Nat} {last : Bool} {msg : List UInt8} {Am : Option Addr} {nm cm : Nat} {cnt : UInt64} (h : RN w base q big p ls lp key Ak nk ck last msg Am nm cm cnt) (hb : Below w.heap.size w w') : RN w' base q big p ls lp key Ak nk ck last msg Am nm cm cnt :=
  have hB : base ≤ w.heap.size := Nat.le_trans h.lo (Nat.le_of_lt h.blk.lt)
  ⟨h.blk.below hb h.blk.lt, h.lo, h.salt.below (hb.mono hB), h.pers.below (hb.mono hB), h.key.below (hb.mono hB), h.own.below hb (Nat.le_refl _), h.len, h.far⟩
theorem RN.drewN {w : World} {base q : Nat} {big : Bool} {p : Pr} {ls lp key : List UInt8} {Ak : Option Addr} {nk ck : Nat} {last : Bool} {msg : List UInt8} {Am : Option Addr} {nm cm : Nat} {cnt : UInt64} (h : RN w base q big p ls lp key Ak nk ck last msg Am nm cm cnt) (n : Nat) : RN (w.drewN n) base q big p ls lp key Ak nk ck last msg Am nm cm cnt := ⟨h.blk.drewN n, h.lo, h.salt.drewN n, h.pers.drewN n, h.key.drewN n, h.own.drewN n, h.len, h.far⟩

theorem refNewBad_any (k : Int) (p : Pr) (Ak : Option Addr) (nk ck : Nat) (w : World) (hc : chk k p ≠ 0) :
    Calls Tryz.prog 76 #[.int .i64 k, p.v, .slice Ak nk ck] w fun e w' => e = .returned (.tuple #[.pointer none, .int .i64 (chk k p)]) ∧ Below w.heap.size w w' := by
  have hck := fun W => refCheck_any k p W
  have t0 : (chk k p == 0) = false := by simpa using hc
  obtain ⟨r, hr⟩ : ∃ r, r = chk k p := ⟨_, rfl⟩
  rw [← hr] at t0 ⊢
  simp only [← hr] at hck
  have HCK := Lib.hid hck; clear hck hr hc
  unfold Pr.v Pr.cs Sl.v at *
  go_enter Tryz.func76, Tryz.ntmps76
  go_wp2_with (go_at_call 145; refine (HCK.out _).mono ?_; rintro e w1 ⟨rfl, hbw1⟩; (first | refine withN hbw1 ?_ | refine withD hbw1 ?_ | refine with0 hbw1 ?_); intro hcw1 hfw1; have z0w1 : w.heap.size < w1.heap.size := (by have := hbw1.size; (try simp at this); omega))
  exact bodyPost_ret (results_tmp2 rfl _ _ _) rfl ⟨rfl, bcall (bal (b0 w) _) hbw1⟩
theorem refNewKey_any (k : Int) (p : Pr) (Ak : Option Addr) (nk ck : Nat) (w : World) (hc : chk k p = 0) (hn : nk ≠ 0) (hk : (nk : Int) ≠ p.key) :
    Calls Tryz.prog 76 #[.int .i64 k, p.v, .slice Ak nk ck] w fun e w' => e = .returned (.tuple #[.pointer none, .int .i64 8]) ∧ Below w.heap.size w w' := by
  have hck := fun W => refCheck_any k p W
  simp only [hc] at hck
  have t0 : ((nk : Int) == 0) = false := by simp; omega
  have t1 : ((nk : Int) == p.key) = false := by simpa using hk
  have t2 : ((nk : Int) != p.key) = true := by simpa using hk
  have t3 : ((nk : Int) != 0) = true := by simp; omega
  have HCK := Lib.hid hck; clear hck hc hk
  unfold Pr.v Pr.cs Sl.v at *
  go_enter Tryz.func76, Tryz.ntmps76
  go_wp2_with (go_at_call 145; refine (HCK.out _).mono ?_; rintro e w1 ⟨rfl, hbw1⟩; (first | refine withN hbw1 ?_ | refine withD hbw1 ?_ | refine with0 hbw1 ?_); intro hcw1 hfw1; have z0w1 : w.heap.size < w1.heap.size := (by have := hbw1.size; (try simp at this); omega))
  exact bodyPost_ret (results_tmp2 rfl _ _ _) rfl ⟨rfl, bcall (bal (b0 w) _) hbw1⟩
set_option maxRecDepth 20000 in
set_option maxHeartbeats 2000000 in
theorem refNew_any (big : Bool) (p : Pr) (ls lp key : List UInt8) (Ak : Option Addr) (nk ck : Nat) (w : World) (hc : chk (kOf big) p = 0) (hrs : RS cB w w.heap.size p.salt.A ls) (hrp : RS cB w w.heap.size p.pers.A lp) (hk : key.length = nk) (hkk : nk = 0 ∨ (nk : Int) = p.key) (hrk : RS cB w w.heap.size Ak key) :
    Calls Tryz.prog 76 #[.int .i64 (kOf big), p.v, .slice Ak nk ck] w fun e w' => ∃ q Am nm cm, e = .returned (.tuple #[.pointer (some ⟨q, 0, none⟩), .int .i64 0]) ∧ RN w' w.heap.size q big p ls lp key Ak nk ck false (keyL big key) Am nm cm 0 ∧ Below w.heap.size w w' := by
  have hck := fun W => refCheck_any (kOf big) p W
  simp only [hc] at hck
  obtain ⟨-, ⟨hr1, hr2⟩, -, -, -, -, -, -⟩ := chk_range hc
  have hkd := fun W hr => refKeyed_any big Ak nk ck key W hk (by rcases hkk with h | h <;> omega) hr
  generalize keyL big key = KL at *
  obtain ⟨kk, hkk2⟩ : ∃ kk, kOf big = kk := ⟨_, rfl⟩
  rw [hkk2]
  simp only [hkk2] at hck hkd
  have HCK := Lib.hid hck; have HKD := Lib.hid hkd; have HRS := Lib.hid hrs; have HRP := Lib.hid hrp; have HRK := Lib.hid hrk; clear hck hkd hrs hrp hrk hc hk hr1 hr2
  unfold Pr.v Pr.cs Sl.v at *
  by_cases h0 : nk = 0
  · subst h0
    clear hkk
    go_enter Tryz.func76, Tryz.ntmps76
    go_wp2_with (go_at_call 145; refine (HCK.out _).mono ?_; rintro e w1 ⟨rfl, hbw1⟩; (first | refine withN hbw1 ?_ | refine withD hbw1 ?_ | refine with0 hbw1 ?_); intro hcw1 hfw1; have z0w1 : w.heap.size < w1.heap.size := (by have := hbw1.size; (try simp at this); omega))
    have hW1 := bcall (bal (b0 w) _) hbw1
    have hq := Blk.new w1 123 (rnCells big p (.slice Ak 0 ck) false (.slice none 0 0) 0)
    have hW2 := bal hW1 (.cells (rnCells big p (.slice Ak 0 ck) false (.slice none 0 0) 0) 123)
    have e0 : wrd 0 = 0 := rfl
    have hqs : Hid (w.heap.size ≤ w1.heap.size) := hW1.size
    unfold rnCells at hq hW2
    rw [e0] at hq hW2
    obtain ⟨q, hqe⟩ : ∃ q, q = w1.heap.size := ⟨_, rfl⟩
    have hqs2 : Hid (w.heap.size ≤ q) := by (show _ ≤ _; rw [hqe]; exact hqs.out)
    rw [← hqe] at hq ⊢
    rw [hkk2] at hq hW2
    generalize w1.alloc _ = w2 at *
    have HQ := Lib.hid hq; have HW2 := Lib.hid hW2; clear hq hW2 hW1 hbw1 hcw1 hfw1 hqe hqs z0w1 e0
    go_wp2_with fail
    refine (HKD.out _ ((HRK.out.below HW2.out).more HW2.out.size)).mono ?_
    rintro e3 w3 ⟨A3, m3, c3, rfl, hlen3, ho3, hb3⟩
    have hq3 := HQ.out.below hb3 HQ.out.lt
    have hql := HQ.out.lt
    have g33 := hq3.cell 33
    change w3.cell? ⟨q, 33, none⟩ = some (.slice none 0 0) at g33
    have f33 := hq3.frozen 33
    have HQ3 := Lib.hid hq3; have HO3 := Lib.hid ho3; have HL3 := Lib.hid hlen3; have HB3 := Lib.hid hb3; have HKE := Lib.hid hkk2; clear hq3 ho3 hlen3 hb3 hkk2
    go_wp2_with fail
    have hb := HQ3.out.set_ 33 (.slice A3 m3 c3)
    have hW := bput (bcall HW2.out HB3.out) (p := ⟨q, 33, none⟩) hqs2.out (.slice A3 m3 c3)
    have hfar : ∀ a, A3 = some a → a.block ≠ q := fun a ha he => by have h := (HO3.out.block_lt a ha).1; omega
    refine bodyPost_ret (results_tmp2 rfl _ _ _) rfl ⟨q, A3, m3, c3, rfl, ⟨?_, hqs2.out, HRS.out.below hW, HRP.out.below hW, HRK.out.below hW, (HO3.out.setFar (p := ⟨q, 33, none⟩) hfar _).mono HW2.out.size, HL3.out, hfar⟩, hW⟩
    rw [← HKE.out] at hb
    exact hb
  · have h1 : (nk : Int) = p.key := hkk.resolve_left h0
    have t0 : ((nk : Int) == 0) = false := by simp; omega
    have t1 : ((nk : Int) == p.key) = true := by simpa using h1
    have t2 : ((nk : Int) != p.key) = false := by simpa using h1
    have t3 : ((nk : Int) != 0) = true := by simp; omega
    clear hkk h1
    go_enter Tryz.func76, Tryz.ntmps76
    go_wp2_with (go_at_call 145; refine (HCK.out _).mono ?_; rintro e w1 ⟨rfl, hbw1⟩; (first | refine withN hbw1 ?_ | refine withD hbw1 ?_ | refine with0 hbw1 ?_); intro hcw1 hfw1; have z0w1 : w.heap.size < w1.heap.size := (by have := hbw1.size; (try simp at this); omega))
    have hW1 := bcall (bal (b0 w) _) hbw1
    have hq := Blk.new w1 123 (rnCells big p (.slice Ak nk ck) false (.slice none 0 0) 0)
    have hW2 := bal hW1 (.cells (rnCells big p (.slice Ak nk ck) false (.slice none 0 0) 0) 123)
    have e0 : wrd 0 = 0 := rfl
    have hqs : Hid (w.heap.size ≤ w1.heap.size) := hW1.size
    unfold rnCells at hq hW2
    rw [e0] at hq hW2
    obtain ⟨q, hqe⟩ : ∃ q, q = w1.heap.size := ⟨_, rfl⟩
    have hqs2 : Hid (w.heap.size ≤ q) := by (show _ ≤ _; rw [hqe]; exact hqs.out)
    rw [← hqe] at hq ⊢
    rw [hkk2] at hq hW2
    generalize w1.alloc _ = w2 at *
    have HQ := Lib.hid hq; have HW2 := Lib.hid hW2; clear hq hW2 hW1 hbw1 hcw1 hfw1 hqe hqs z0w1 e0
    go_wp2_with fail
    refine (HKD.out _ ((HRK.out.below HW2.out).more HW2.out.size)).mono ?_
    rintro e3 w3 ⟨A3, m3, c3, rfl, hlen3, ho3, hb3⟩
    have hq3 := HQ.out.below hb3 HQ.out.lt
    have hql := HQ.out.lt
    have g33 := hq3.cell 33
    change w3.cell? ⟨q, 33, none⟩ = some (.slice none 0 0) at g33
    have f33 := hq3.frozen 33
    have HQ3 := Lib.hid hq3; have HO3 := Lib.hid ho3; have HL3 := Lib.hid hlen3; have HB3 := Lib.hid hb3; have HKE := Lib.hid hkk2; clear hq3 ho3 hlen3 hb3 hkk2
    go_wp2_with fail
    have hb := HQ3.out.set_ 33 (.slice A3 m3 c3)
    have hW := bput (bcall HW2.out HB3.out) (p := ⟨q, 33, none⟩) hqs2.out (.slice A3 m3 c3)
    have hfar : ∀ a, A3 = some a → a.block ≠ q := fun a ha he => by have h := (HO3.out.block_lt a ha).1; omega
    refine bodyPost_ret (results_tmp2 rfl _ _ _) rfl ⟨q, A3, m3, c3, rfl, ⟨?_, hqs2.out, HRS.out.below hW, HRP.out.below hW, HRK.out.below hW, (HO3.out.setFar (p := ⟨q, 33, none⟩) hfar _).mono HW2.out.size, HL3.out, hfar⟩, hW⟩
    rw [← HKE.out] at hb
    exact hb
end Go.Proofs.YtgephdbicbmpeaaGreat

/-
  Settings of Argon2 and the bytes that its memory is begun with, by the reference. Contracts alone; no statement is claimed here.
-/
import Derived.Test.YtbghkdhkahkfnaaGreatStartA
import Derived.Test.YtbghkdhkahkfnaaGreatRefH
namespace Go.Proofs.YtbghkdhkahkfnaaGreat
open Go.RowKit
attribute [local go_sem] pureUpon Ords.of

set_option maxHeartbeats 2000000 in
theorem refCheck20_any (a : Ar) (A : Option Addr) (n c : Nat) (w : World) : Calls Tryz.prog 44 #[a.v, .slice A n c] w fun e w' => e = .returned (.int .i64 (checkE a n)) ∧ Below w.heap.size w w' := by
 have hm := fun W => valid_any a W
 obtain ⟨r, hr⟩ : ∃ r, r = checkE a n := ⟨_, rfl⟩
 rw [← hr]
 unfold checkE at hr
 by_cases h : a.ok
 ·rw [if_neg (fun h2 => h2 h)] at hr
  simp only [if_pos h] at hm
  clear h
  obtain ⟨kk, m, pp, ll, t⟩ := a
  unfold Ar.v at *
  have HM := Lib.hid hm; have HR := Lib.hid hr; clear hm hr
  go_enter Tryz.func44, Tryz.ntmps44
  go_wp2_with (go_at_call 33; refine (HM.out _).mono ?_; rintro e w1 ⟨rfl, hbw1⟩; (first | refine withN hbw1 ?_ | refine withD hbw1 ?_ | refine with0 hbw1 ?_); intro hcw1 hfw1; have z0w1 : w.heap.size < w1.heap.size := (by have := hbw1.size; (try simp at this); omega))
  all_goals
   have hr := HR.out
   refine bodyPost_ret (results_tmp rfl _ _ _) rfl ⟨?_, bcall (bal (b0 w) _) hbw1⟩
   first
    | (rw [if_pos (by omega)] at hr; rw [hr]; rfl)
    | (rw [if_neg (by omega)] at hr; rw [hr]; rfl)
 ·rw [if_pos h] at hr
  subst hr
  simp only [if_neg h] at hm
  clear h
  obtain ⟨kk, m, pp, ll, t⟩ := a
  unfold Ar.v at *
  have HM := Lib.hid hm; clear hm
  go_enter Tryz.func44, Tryz.ntmps44
  go_wp2_with (go_at_call 33; refine (HM.out _).mono ?_; rintro e w1 ⟨rfl, hbw1⟩; (first | refine withN hbw1 ?_ | refine withD hbw1 ?_ | refine with0 hbw1 ?_); intro hcw1 hfw1; have z0w1 : w.heap.size < w1.heap.size := (by have := hbw1.size; (try simp at this); omega))
  exact bodyPost_ret (results_tmp rfl _ _ _) rfl ⟨rfl, bcall (bal (b0 w) _) hbw1⟩
set_option maxRecDepth 20000 in
set_option maxHeartbeats 4000000 in
theorem inputs_any (a : Ar) (Ap As Ax Ae : Option Addr) (np cp ns cs nx cx ne ce : Nat) (w : World) :
  Calls Tryz.prog 24 #[a.v, .slice Ap np cp, .slice As ns cs, .slice Ax nx cx, .slice Ae ne ce] w fun e w' => e = .returned (.int .i64 (startE a np ns nx ne)) ∧ Below w.heap.size w w' := by
 have hm := fun W => valid_any a W
 have hc := fun W => refCheck20_any a As ns cs W
 rcases startE_ways a np ns nx ne with ⟨h1, e⟩ | ⟨h1, h2, e⟩ | ⟨h1, h2, h3, e⟩ | ⟨h1, h2, h3, h4, e⟩ | ⟨h1, h2, h3, h4, h5, e⟩ | ⟨h1, h2, h3, h4, h5, e⟩
 ·rw [e]
  simp only [if_neg h1] at hm
  have HM := Lib.hid hm; have HC := Lib.hid hc; clear hm hc h1 e
  obtain ⟨kk, m, pp, ll, t⟩ := a
  unfold Ar.v at *
  go_enter Tryz.func24, Tryz.ntmps24
  go_wp2_with (first | (go_at_call 33; refine (HM.out _).mono ?_; rintro e w1 ⟨rfl, hbw1⟩; (first | refine withN hbw1 ?_ | refine withD hbw1 ?_ | refine with0 hbw1 ?_); intro hcw1 hfw1; have z0w1 : w.heap.size < w1.heap.size := (by have := hbw1.size; (try simp at this); omega)) | (go_at_call 44; refine (HC.out _).mono ?_; rintro e w2 ⟨rfl, hbw2⟩; (first | refine withN hbw2 ?_ | refine withD hbw2 ?_ | refine with0 hbw2 ?_); intro hcw2 hfw2; have z0w2 : w.heap.size < w2.heap.size := (by have := hbw2.size; (try simp at this); omega)))
  exact bodyPost_ret (results_tmp rfl _ _ _) rfl ⟨rfl, by first | exact bcall (bcall (bal (b0 w) _) hbw1) hbw2 | exact bcall (bal (b0 w) _) hbw1⟩
 ·rw [e]
  simp only [if_pos h1] at hm
  have t2 : decide (65536 < (np : Int)) = true := by simp; omega
  have HM := Lib.hid hm; have HC := Lib.hid hc; clear hm hc h1 e h2
  obtain ⟨kk, m, pp, ll, t⟩ := a
  unfold Ar.v at *
  go_enter Tryz.func24, Tryz.ntmps24
  go_wp2_with (first | (go_at_call 33; refine (HM.out _).mono ?_; rintro e w1 ⟨rfl, hbw1⟩; (first | refine withN hbw1 ?_ | refine withD hbw1 ?_ | refine with0 hbw1 ?_); intro hcw1 hfw1; have z0w1 : w.heap.size < w1.heap.size := (by have := hbw1.size; (try simp at this); omega)) | (go_at_call 44; refine (HC.out _).mono ?_; rintro e w2 ⟨rfl, hbw2⟩; (first | refine withN hbw2 ?_ | refine withD hbw2 ?_ | refine with0 hbw2 ?_); intro hcw2 hfw2; have z0w2 : w.heap.size < w2.heap.size := (by have := hbw2.size; (try simp at this); omega)))
  exact bodyPost_ret (results_tmp rfl _ _ _) rfl ⟨rfl, by first | exact bcall (bcall (bal (b0 w) _) hbw1) hbw2 | exact bcall (bal (b0 w) _) hbw1⟩
 ·rw [e]
  simp only [if_pos h1] at hm
  have t2 : decide (65536 < (np : Int)) = false := by simp; omega
  have t3 : (checkE a ns != 0) = true := by simpa using h3
  generalize checkE a ns = z at *
  have HM := Lib.hid hm; have HC := Lib.hid hc; clear hm hc h1 e h2 h3
  obtain ⟨kk, m, pp, ll, t⟩ := a
  unfold Ar.v at *
  go_enter Tryz.func24, Tryz.ntmps24
  go_wp2_with (first | (go_at_call 33; refine (HM.out _).mono ?_; rintro e w1 ⟨rfl, hbw1⟩; (first | refine withN hbw1 ?_ | refine withD hbw1 ?_ | refine with0 hbw1 ?_); intro hcw1 hfw1; have z0w1 : w.heap.size < w1.heap.size := (by have := hbw1.size; (try simp at this); omega)) | (go_at_call 44; refine (HC.out _).mono ?_; rintro e w2 ⟨rfl, hbw2⟩; (first | refine withN hbw2 ?_ | refine withD hbw2 ?_ | refine with0 hbw2 ?_); intro hcw2 hfw2; have z0w2 : w.heap.size < w2.heap.size := (by have := hbw2.size; (try simp at this); omega)))
  exact bodyPost_ret (results_tmp rfl _ _ _) rfl ⟨rfl, by first | exact bcall (bcall (bal (b0 w) _) hbw1) hbw2 | exact bcall (bal (b0 w) _) hbw1⟩
 ·rw [e]
  simp only [if_pos h1] at hm
  have t2 : decide (65536 < (np : Int)) = false := by simp; omega
  have t4 : decide (64 < (nx : Int)) = true := by simp; omega
  simp only [h3] at hc
  have HM := Lib.hid hm; have HC := Lib.hid hc; clear hm hc h1 e h2 h3 h4
  obtain ⟨kk, m, pp, ll, t⟩ := a
  unfold Ar.v at *
  go_enter Tryz.func24, Tryz.ntmps24
  go_wp2_with (first | (go_at_call 33; refine (HM.out _).mono ?_; rintro e w1 ⟨rfl, hbw1⟩; (first | refine withN hbw1 ?_ | refine withD hbw1 ?_ | refine with0 hbw1 ?_); intro hcw1 hfw1; have z0w1 : w.heap.size < w1.heap.size := (by have := hbw1.size; (try simp at this); omega)) | (go_at_call 44; refine (HC.out _).mono ?_; rintro e w2 ⟨rfl, hbw2⟩; (first | refine withN hbw2 ?_ | refine withD hbw2 ?_ | refine with0 hbw2 ?_); intro hcw2 hfw2; have z0w2 : w.heap.size < w2.heap.size := (by have := hbw2.size; (try simp at this); omega)))
  exact bodyPost_ret (results_tmp rfl _ _ _) rfl ⟨rfl, by first | exact bcall (bcall (bal (b0 w) _) hbw1) hbw2 | exact bcall (bal (b0 w) _) hbw1⟩
 ·rw [e]
  simp only [if_pos h1] at hm
  have t2 : decide (65536 < (np : Int)) = false := by simp; omega
  have t4 : decide (64 < (nx : Int)) = false := by simp; omega
  have t5 : decide (1024 < (ne : Int)) = true := by simp; omega
  simp only [h3] at hc
  have HM := Lib.hid hm; have HC := Lib.hid hc; clear hm hc h1 e h2 h3 h4 h5
  obtain ⟨kk, m, pp, ll, t⟩ := a
  unfold Ar.v at *
  go_enter Tryz.func24, Tryz.ntmps24
  go_wp2_with (first | (go_at_call 33; refine (HM.out _).mono ?_; rintro e w1 ⟨rfl, hbw1⟩; (first | refine withN hbw1 ?_ | refine withD hbw1 ?_ | refine with0 hbw1 ?_); intro hcw1 hfw1; have z0w1 : w.heap.size < w1.heap.size := (by have := hbw1.size; (try simp at this); omega)) | (go_at_call 44; refine (HC.out _).mono ?_; rintro e w2 ⟨rfl, hbw2⟩; (first | refine withN hbw2 ?_ | refine withD hbw2 ?_ | refine with0 hbw2 ?_); intro hcw2 hfw2; have z0w2 : w.heap.size < w2.heap.size := (by have := hbw2.size; (try simp at this); omega)))
  exact bodyPost_ret (results_tmp rfl _ _ _) rfl ⟨rfl, by first | exact bcall (bcall (bal (b0 w) _) hbw1) hbw2 | exact bcall (bal (b0 w) _) hbw1⟩
 ·rw [e]
  simp only [if_pos h1] at hm
  have t2 : decide (65536 < (np : Int)) = false := by simp; omega
  have t4 : decide (64 < (nx : Int)) = false := by simp; omega
  have t5 : decide (1024 < (ne : Int)) = false := by simp; omega
  simp only [h3] at hc
  have HM := Lib.hid hm; have HC := Lib.hid hc; clear hm hc h1 e h2 h3 h4 h5
  obtain ⟨kk, m, pp, ll, t⟩ := a
  unfold Ar.v at *
  go_enter Tryz.func24, Tryz.ntmps24
  go_wp2_with (first | (go_at_call 33; refine (HM.out _).mono ?_; rintro e w1 ⟨rfl, hbw1⟩; (first | refine withN hbw1 ?_ | refine withD hbw1 ?_ | refine with0 hbw1 ?_); intro hcw1 hfw1; have z0w1 : w.heap.size < w1.heap.size := (by have := hbw1.size; (try simp at this); omega)) | (go_at_call 44; refine (HC.out _).mono ?_; rintro e w2 ⟨rfl, hbw2⟩; (first | refine withN hbw2 ?_ | refine withD hbw2 ?_ | refine with0 hbw2 ?_); intro hcw2 hfw2; have z0w2 : w.heap.size < w2.heap.size := (by have := hbw2.size; (try simp at this); omega)))
  exact bodyPost_ret (results_tmp rfl _ _ _) rfl ⟨rfl, by first | exact bcall (bcall (bal (b0 w) _) hbw1) hbw2 | exact bcall (bal (b0 w) _) hbw1⟩
theorem rn32_any (x : Nat) (hx : x < 4294967296) (w : World) :
  Calls Tryz.prog 18 #[.int .i64 x] w fun e w' => ∃ A c, e = .returned (.slice A 4 c) ∧ OS cB w' w.heap.size A c (storeN x 4) ∧ Below w.heap.size w w' := by
 have hst := fun W => refStore_any (UInt64.ofNat x) 4 (by decide) W
 rw [wrd_small x (by omega)] at hst
 have hu : (UInt64.ofNat x).toNat = x := by rw [UInt64.toNat_ofNat']; omega
 simp only [hu] at hst
 have hw64 : IntKind.u64.wrap (x : Int) = x := by rw [wrap_u64]; omega
 have HST := Lib.hid hst; clear hst hu hx
 go_enter Tryz.func18, Tryz.ntmps18
 go_wp2_with (go_at_call 34; refine (HST.out _).mono ?_; rintro e1 w1 ⟨A1, c1, rfl, ho1, hb1⟩)
 exact bodyPost_ret (results_tmp rfl _ _ _) rfl ⟨A1, c1, rfl, ho1, hb1⟩
set_option maxRecDepth 20000 in
set_option maxHeartbeats 2000000 in
theorem rmake64_any (A : Option Addr) (nb c : Nat) (l : List UInt8) (w : World) (hl : l.length = nb) (hnb : nb ≤ 140737488355200) (hr : RS cB w w.heap.size A l) :
  Calls Tryz.prog 79 #[.int .i64 1, .int .i64 64, .slice none 0 0, .slice none 0 0, .slice none 0 0, .slice A nb c] w fun r w' => ∃ A' c' cc, r = .returned (.tuple #[.slice A' 64 cc, .int .i64 0]) ∧ 64 ≤ cc ∧ OS cB w' w.heap.size A' c' (plainL 64 l) ∧ Below w.heap.size w w' := by
 have hs : ∀ W, RS cB W W.heap.size A l → Calls Tryz.prog 54 #[.int .i64 1, .agg #[Value.int .i64 64, .int .i64 0, .int .i64 1, .int .i64 1, .int .u32 0, .int .u64 0, .int .u32 0, .int .i64 0, .int .i64 0, .slice none 0 0, .slice none 0 0], .slice none 0 0, .bool false, .int .i64 64, .slice A nb c] W (fun r w' => ∃ A' c' cc, r = .returned (.tuple #[.slice A' 64 cc, .int .i64 0]) ∧ 64 ≤ cc ∧ OS cB w' W.heap.size A' c' (plainL 64 l) ∧ Below W.heap.size W w') :=
  fun W hr => refHash_any true false 64 (plainP 64 0) [] [] [] l none A 0 0 nb c W (plainP_chk true 64 0 ⟨by decide, by decide⟩ (Nat.zero_le _)) (plainP_fit _ _) rfl rfl (RS.nil _) (RS.nil _) rfl (.inl rfl) (RS.nil _) hl hnb hr ⟨by decide, by decide⟩
 have hck := fun W => refCheck_any 1 (plainP 64 0) W
 rw [show chk 1 (plainP 64 0) = 0 from plainP_chk true 64 0 ⟨by decide, by decide⟩ (Nat.zero_le _)] at hck
 generalize plainL 64 l = LS at *
 have PS : Hid ((Tryz.prog.info? 100).map (·.size) = some (#[Value.int .i64 64, .int .i64 0, .int .i64 1, .int .i64 1, .int .u32 0, .int .u64 0, .int .u32 0, .int .i64 0, .int .i64 0, .slice none 0 0, .slice none 0 0]).size) := Pr.size (plainP 64 0)
 have PO : Hid ((#[Value.int .i64 64, .int .i64 0, .int .i64 1, .int .i64 1, .int .u32 0, .int .u64 0, .int .u32 0, .int .i64 0, .int .i64 0, .slice none 0 0, .slice none 0 0]).all (·.oneCell') = true) := Pr.ones (plainP 64 0)
 have HS := Lib.hid hs; have HCK := Lib.hid hck; have HR := Lib.hid hr; clear hs hck hr hl hnb
 have hu := Lib.hid Tryz.underlying100
 go_enter Tryz.func79, Tryz.ntmps79
 go_upto_region 2 with (refine wpList_store_row rfl 100 _ _ rfl w.heap.size #[Value.int .i64 64, .int .i64 0, .int .i64 1, .int .i64 1, .int .u32 0, .int .u64 0, .int .u32 0, .int .i64 0, .int .i64 0, .slice none 0 0, .slice none 0 0] rfl rfl 100 zcs (Blk.new _ _ _) PS.out rfl PO.out ?_)
 have HG := Lib.hid ((Blk.new w 100 zcs).row #[Value.int .i64 64, .int .i64 0, .int .i64 1, .int .i64 1, .int .u32 0, .int .u64 0, .int .u32 0, .int .i64 0, .int .i64 0, .slice none 0 0, .slice none 0 0])
 have HB := Lib.hid (brow (bal (b0 w) (.cells zcs 100)) (Nat.le_refl _) #[Value.int .i64 64, .int .i64 0, .int .i64 1, .int .i64 1, .int .u32 0, .int .u64 0, .int .u32 0, .int .i64 0, .int .i64 0, .slice none 0 0, .slice none 0 0])
 have hz : zcs = #[.int .i64 0, .int .i64 0, .int .i64 0, .int .i64 0, .int .u32 0, .int .u64 0, .int .u32 0, .int .i64 0, .int .i64 0, .slice none 0 0, .slice none 0 0] := rfl
 (try rw [← hz])
 clear hz
 generalize (w.alloc (.cells zcs 100)).setRow w.heap.size #[Value.int .i64 64, .int .i64 0, .int .i64 1, .int .i64 1, .int .u32 0, .int .u64 0, .int .u32 0, .int .i64 0, .int .i64 0, .slice none 0 0, .slice none 0 0] = u at *
 go_wp2_with (first
  | (refine wpList_load_row rfl 100 _ rfl w.heap.size rfl 100 #[Value.int .i64 64, .int .i64 0, .int .i64 1, .int .i64 1, .int .u32 0, .int .u64 0, .int .u32 0, .int .i64 0, .int .i64 0, .slice none 0 0, .slice none 0 0] (0, 0) _ HG.out hu.out rfl PS.out ?_)
  | (go_at_call 83; refine (HCK.out _).mono ?_; rintro e2 u ⟨rfl, hb2⟩; replace HG := Lib.hid (HG.out.below hb2 HG.out.lt); replace HB := Lib.hid (bcall HB.out hb2); clear hb2)
  | (go_at_call 54; refine (HS.out _ ((HR.out.below HB.out).more HB.out.size)).mono ?_; rintro e3 w3 ⟨A3, c3, cc3, rfl, hcc3, ho3, hb3⟩; have HO3 := Lib.hid ho3; have HCC := Lib.hid hcc3; have HB3 := Lib.hid (bcall HB.out hb3); clear hb3 hcc3 ho3))
 exact bodyPost_ret (results_tmp2 rfl _ _ _) rfl ⟨A3, c3, cc3, rfl, HCC.out, HO3.out.mono HB.out.size, HB3.out⟩
theorem rsum64_any (A : Option Addr) (nb c : Nat) (l : List UInt8) (w : World) (hl : l.length = nb) (hnb : nb ≤ 140737488355200) (hr : RS cB w w.heap.size A l) :
  Calls Tryz.prog 60 #[.int .i64 1, .int .i64 64, .slice A nb c] w fun r w' => ∃ A' c' cc, r = .returned (.tuple #[.slice A' 64 cc, .int .i64 0]) ∧ 64 ≤ cc ∧ OS cB w' w.heap.size A' c' (plainL 64 l) ∧ Below w.heap.size w w' := by
 have hd := rmake64_any A nb c l w hl hnb hr
 generalize plainL 64 l = LS at *
 have HD := Lib.hid hd; clear hd hr hl hnb
 go_enter Tryz.func60, Tryz.ntmps60
 go_wp2_with (go_at_call 79; refine HD.out.mono ?_; rintro e1 w1 ⟨A1, c1, cc1, rfl, hcc1, ho1, hb1⟩)
 exact bodyPost_ret (results_tmp2 rfl _ _ _) rfl ⟨A1, c1, cc1, rfl, hcc1, ho1, hb1⟩
set_option maxRecDepth 20000 in
set_option maxHeartbeats 2000000 in
theorem rstartNo_any (a : Ar) (Ap As Ax Ae : Option Addr) (np cp ns cs nx cx ne ce : Nat) (w : World) (h : startE a np ns nx ne ≠ 0) :
  Calls Tryz.prog 45 #[a.v, .slice Ap np cp, .slice As ns cs, .slice Ax nx cx, .slice Ae ne ce] w fun e w' => e = .returned (.tuple #[.slice none 0 0, .int .i64 (startE a np ns nx ne)]) ∧ Below w.heap.size w w' := by
 have hi := fun W => inputs_any a Ap As Ax Ae np cp ns cs nx cx ne ce W
 have t1 : (startE a np ns nx ne != 0) = true := by simpa using h
 generalize startE a np ns nx ne = E at *
 obtain ⟨kk, m, pp, ll, t⟩ := a
 unfold Ar.v at *
 have HI := Lib.hid hi; clear hi h
 go_enter Tryz.func45, Tryz.ntmps45
 go_wp2_with (go_at_call 24; refine (HI.out _).mono ?_; rintro e w1 ⟨rfl, hbw1⟩; (first | refine withN hbw1 ?_ | refine withD hbw1 ?_ | refine with0 hbw1 ?_); intro hcw1 hfw1; have z0w1 : w.heap.size < w1.heap.size := (by have := hbw1.size; (try simp at this); omega))
 exact bodyPost_ret (results_tmp2 rfl _ _ _) rfl ⟨rfl, bcall (bal (b0 w) _) hbw1⟩
set_option maxRecDepth 20000 in
set_option maxHeartbeats 4000000 in
theorem rstart_any (a : Ar) (Ap As Ax Ae : Option Addr) (np cp ns cs nx cx ne ce : Nat) (pass salt secret extra : List UInt8) (w : World) (h : startE a np ns nx ne = 0)
  (lp : pass.length = np) (ls : salt.length = ns) (lx : secret.length = nx) (le_ : extra.length = ne) (rp : RS cB w w.heap.size Ap pass) (rs : RS cB w w.heap.size As salt) (rx : RS cB w w.heap.size Ax secret) (re : RS cB w w.heap.size Ae extra) :
  Calls Tryz.prog 45 #[a.v, .slice Ap np cp, .slice As ns cs, .slice Ax nx cx, .slice Ae ne ce] w fun e w' => ∃ A' c' cc, e = .returned (.tuple #[.slice A' 64 cc, .int .i64 0]) ∧ 64 ≤ cc ∧ OS cB w' w.heap.size A' c' (plainL 64 (startL a pass salt secret extra)) ∧ Below w.heap.size w w' := by
 have hi := fun W => inputs_any a Ap As Ax Ae np cp ns cs nx cx ne ce W
 simp only [h] at hi
 rcases startE_ways a np ns nx ne with ⟨h1, e⟩ | ⟨h1, h2, e⟩ | ⟨h1, h2, h3, e⟩ | ⟨h1, h2, h3, h4, e⟩ | ⟨h1, h2, h3, h4, h5, e⟩ | ⟨h1, h2, h3, h4, h5, e⟩
 iterate 5 (exact absurd (h.symm.trans e) (by decide))
 have n3 : ns ≤ 64 := by
  unfold checkE at h3
  rw [if_neg (fun h => h h1)] at h3
  split at h3
  ·exact absurd h3 (by decide)
  ·omega
 have hsum := fun (A : Option Addr) (nb c : Nat) W (h1 : (startL a pass salt secret extra).length = nb) h2 h3 => rsum64_any A nb c (startL a pass salt secret extra) W h1 h2 h3
 have hsl : ∃ L, L = a.nums ∧ startL a pass salt secret extra = partsTo (numsTo L 6) [pass, salt, secret, extra] 4 := ⟨_, rfl, rfl⟩
 obtain ⟨L, hL, hsl⟩ := hsl
 generalize startL a pass salt secret extra = MSG at *
 unfold Ar.ok at h1
 obtain ⟨kk, m, pp, ll, t⟩ := a
 unfold Ar.v Ar.nums at *
 dsimp only at *
 obtain ⟨k, hk⟩ : ∃ k : Nat, kk = k := ⟨kk.toNat, by omega⟩
 obtain ⟨mm, hmm⟩ : ∃ k : Nat, m = k := ⟨m.toNat, by omega⟩
 obtain ⟨p, hp⟩ : ∃ k : Nat, pp = k := ⟨pp.toNat, by omega⟩
 obtain ⟨l, hl⟩ : ∃ k : Nat, ll = k := ⟨ll.toNat, by omega⟩
 obtain ⟨tt, htt⟩ : ∃ k : Nat, t = k := ⟨t.toNat, by omega⟩
 subst hk hmm hp hl htt
 have b1 : k < 4294967296 ∧ mm < 4294967296 ∧ p < 4294967296 ∧ l < 4294967296 ∧ tt < 4294967296 := by omega
 have HI := Lib.hid hi; have HSUM := Lib.hid hsum; have HSL := Lib.hid hsl; have HL := Lib.hid hL; have B1 := Lib.hid b1
 have LP := Lib.hid lp; have LS := Lib.hid ls; have LX := Lib.hid lx; have LE := Lib.hid le_; have RP := Lib.hid rp; have RSS := Lib.hid rs; have RX := Lib.hid rx; have RE := Lib.hid re
 have BB := Lib.hid (show np ≤ 65536 ∧ ns ≤ 64 ∧ nx ≤ 64 ∧ ne ≤ 1024 from ⟨h2, n3, h4, h5⟩)
 clear hi hsum hsl hL b1 lp ls lx le_ rp rs rx re h h1 h2 h3 h4 h5 n3 e
 have hle := four_le (a := pass) (b := salt) (c := secret) (d := extra) (by rw [LP.out]; exact BB.out.1) (by rw [LS.out]; have := BB.out; omega) (by rw [LX.out]; have := BB.out; omega) (by rw [LE.out]; have := BB.out; omega)
 have HLE := Lib.hid hle
 clear hle
 go_enter Tryz.func45, Tryz.ntmps45
 go_wp2_with (go_at_call 24; refine (HI.out _).mono ?_; rintro e w1 ⟨rfl, hbw1⟩; (first | refine withN hbw1 ?_ | refine withD hbw1 ?_ | refine with0 hbw1 ?_); intro hcw1 hfw1; have z0w1 : w.heap.size < w1.heap.size := (by have := hbw1.size; (try simp at this); omega))
 have HB := Lib.hid (bcall (bal (b0 w) _) hbw1)
 clear hbw1
 have HBK0 := Lib.hid (Blk.new w1 3 (#[Value.int .i64 l, .int .i64 tt, .int .i64 mm, .int .i64 p, .int .i64 19, .int .i64 k]))
 replace HB := Lib.hid (bal HB.out (.cells (#[Value.int .i64 l, .int .i64 tt, .int .i64 mm, .int .i64 p, .int .i64 19, .int .i64 k]) 3))
 obtain ⟨g, hg⟩ : ∃ g, g = w1.heap.size := ⟨_, rfl⟩
 rw [← hg] at HBK0 ⊢
 clear hg
 go_loopw [13, 15] (fun b ix wr => ∃ (j m : Nat) (A : Option Addr) (c : Nat), j ≤ 6 ∧ ix = .int .i64 j ∧ m = 4 * j ∧ b = .slice A m c ∧ OS cB wr w.heap.size A c (numsTo L j) ∧ Blk wr g 3 (#[Value.int .i64 l, .int .i64 tt, .int .i64 mm, .int .i64 p, .int .i64 19, .int .i64 k]) ∧ Below w.heap.size w wr) (fun _ ix _ => 6 - (intOf ix).toNat)
 case atStart => exact ⟨0, 0, none, 0, by omega, rfl, rfl, rfl, OS.nil _ _ _ rfl, HBK0.out, HB.out⟩
 case round =>
  clear HBK0 HB
  obtain ⟨j, m, A, c, hj, rfl, hm, rfl, hos, hbk, hbw⟩ := hrel
  have HOS := Lib.hid hos; have HBW := Lib.hid hbw; have HBK := Lib.hid hbk; clear hos hbw hbk
  have hj2 : j = 0 ∨ j = 1 ∨ j = 2 ∨ j = 3 ∨ j = 4 ∨ j = 5 ∨ j = 6 := by omega
  rcases hj2 with rfl | rfl | rfl | rfl | rfl | rfl | rfl
  ·obtain rfl : m = 0 := hm
   have c5 : wr.cell? ⟨g, 0, none⟩ = some (.int .i64 l) := HBK.out.cell 0
   have l5 := HBK.out.lt
   go_wp2_with (first
    | (go_at_call 18; refine (rn32_any l (by have := B1.out; omega) _).mono ?_; rintro e5 w5 ⟨A5, x5, rfl, ho5, hb5⟩; have HO5 := Lib.hid ho5; have HB5 := Lib.hid hb5; clear ho5 hb5)
    | (at_builtin; refine wpList_appB _ rfl (.tmp 44) (.tmp 49) rfl (HOS.out.below HB5.out (Nat.le_refl _)) rfl (numsTo_len L 0) HO5.out.reads rfl (storeN_len _ _) (by omega) (bcall HBW.out HB5.out).size ?_; intro A6 x6 w6 ho6 hg6 hA6; have HO6 := Lib.hid ho6; have HG6 := Lib.hid hg6; clear ho6 hg6 hA6))
   go_roundw
   case rel =>
    have h := HO6.out
    rw [show numsTo L 0 ++ storeN l 4 = numsTo L (0 + 1) by rw [HL.out]; rfl] at h
    exact ⟨0 + 1, 0 + 4, A6, x6, by omega, rfl, rfl, rfl, h, (HBK.out.below HB5.out HBK.out.lt).grown HG6.out ((HOS.out.below HB5.out (Nat.le_refl _)).ne_row (HBK.out.below HB5.out HBK.out.lt) (by show 5 ≠ 3; decide)), bapp (bcall HBW.out HB5.out) (HOS.out.below HB5.out (Nat.le_refl _)) HG6.out⟩
   case measure => simp [intOf]
  ·obtain rfl : m = 4 := hm
   have c5 : wr.cell? ⟨g, 1, none⟩ = some (.int .i64 tt) := HBK.out.cell 1
   have l5 := HBK.out.lt
   go_wp2_with (first
    | (go_at_call 18; refine (rn32_any tt (by have := B1.out; omega) _).mono ?_; rintro e5 w5 ⟨A5, x5, rfl, ho5, hb5⟩; have HO5 := Lib.hid ho5; have HB5 := Lib.hid hb5; clear ho5 hb5)
    | (at_builtin; refine wpList_appB _ rfl (.tmp 44) (.tmp 49) rfl (HOS.out.below HB5.out (Nat.le_refl _)) rfl (numsTo_len L 1) HO5.out.reads rfl (storeN_len _ _) (by omega) (bcall HBW.out HB5.out).size ?_; intro A6 x6 w6 ho6 hg6 hA6; have HO6 := Lib.hid ho6; have HG6 := Lib.hid hg6; clear ho6 hg6 hA6))
   go_roundw
   case rel =>
    have h := HO6.out
    rw [show numsTo L 1 ++ storeN tt 4 = numsTo L (1 + 1) by rw [HL.out]; rfl] at h
    exact ⟨1 + 1, 4 + 4, A6, x6, by omega, rfl, rfl, rfl, h, (HBK.out.below HB5.out HBK.out.lt).grown HG6.out ((HOS.out.below HB5.out (Nat.le_refl _)).ne_row (HBK.out.below HB5.out HBK.out.lt) (by show 5 ≠ 3; decide)), bapp (bcall HBW.out HB5.out) (HOS.out.below HB5.out (Nat.le_refl _)) HG6.out⟩
   case measure => simp [intOf]
  ·obtain rfl : m = 8 := hm
   have c5 : wr.cell? ⟨g, 2, none⟩ = some (.int .i64 mm) := HBK.out.cell 2
   have l5 := HBK.out.lt
   go_wp2_with (first
    | (go_at_call 18; refine (rn32_any mm (by have := B1.out; omega) _).mono ?_; rintro e5 w5 ⟨A5, x5, rfl, ho5, hb5⟩; have HO5 := Lib.hid ho5; have HB5 := Lib.hid hb5; clear ho5 hb5)
    | (at_builtin; refine wpList_appB _ rfl (.tmp 44) (.tmp 49) rfl (HOS.out.below HB5.out (Nat.le_refl _)) rfl (numsTo_len L 2) HO5.out.reads rfl (storeN_len _ _) (by omega) (bcall HBW.out HB5.out).size ?_; intro A6 x6 w6 ho6 hg6 hA6; have HO6 := Lib.hid ho6; have HG6 := Lib.hid hg6; clear ho6 hg6 hA6))
   go_roundw
   case rel =>
    have h := HO6.out
    rw [show numsTo L 2 ++ storeN mm 4 = numsTo L (2 + 1) by rw [HL.out]; rfl] at h
    exact ⟨2 + 1, 8 + 4, A6, x6, by omega, rfl, rfl, rfl, h, (HBK.out.below HB5.out HBK.out.lt).grown HG6.out ((HOS.out.below HB5.out (Nat.le_refl _)).ne_row (HBK.out.below HB5.out HBK.out.lt) (by show 5 ≠ 3; decide)), bapp (bcall HBW.out HB5.out) (HOS.out.below HB5.out (Nat.le_refl _)) HG6.out⟩
   case measure => simp [intOf]
  ·obtain rfl : m = 12 := hm
   have c5 : wr.cell? ⟨g, 3, none⟩ = some (.int .i64 p) := HBK.out.cell 3
   have l5 := HBK.out.lt
   go_wp2_with (first
    | (go_at_call 18; refine (rn32_any p (by have := B1.out; omega) _).mono ?_; rintro e5 w5 ⟨A5, x5, rfl, ho5, hb5⟩; have HO5 := Lib.hid ho5; have HB5 := Lib.hid hb5; clear ho5 hb5)
    | (at_builtin; refine wpList_appB _ rfl (.tmp 44) (.tmp 49) rfl (HOS.out.below HB5.out (Nat.le_refl _)) rfl (numsTo_len L 3) HO5.out.reads rfl (storeN_len _ _) (by omega) (bcall HBW.out HB5.out).size ?_; intro A6 x6 w6 ho6 hg6 hA6; have HO6 := Lib.hid ho6; have HG6 := Lib.hid hg6; clear ho6 hg6 hA6))
   go_roundw
   case rel =>
    have h := HO6.out
    rw [show numsTo L 3 ++ storeN p 4 = numsTo L (3 + 1) by rw [HL.out]; rfl] at h
    exact ⟨3 + 1, 12 + 4, A6, x6, by omega, rfl, rfl, rfl, h, (HBK.out.below HB5.out HBK.out.lt).grown HG6.out ((HOS.out.below HB5.out (Nat.le_refl _)).ne_row (HBK.out.below HB5.out HBK.out.lt) (by show 5 ≠ 3; decide)), bapp (bcall HBW.out HB5.out) (HOS.out.below HB5.out (Nat.le_refl _)) HG6.out⟩
   case measure => simp [intOf]
  ·obtain rfl : m = 16 := hm
   have c5 : wr.cell? ⟨g, 4, none⟩ = some (.int .i64 19) := HBK.out.cell 4
   have l5 := HBK.out.lt
   go_wp2_with (first
    | (go_at_call 18; refine (rn32_any 19 (by have := B1.out; omega) _).mono ?_; rintro e5 w5 ⟨A5, x5, rfl, ho5, hb5⟩; have HO5 := Lib.hid ho5; have HB5 := Lib.hid hb5; clear ho5 hb5)
    | (at_builtin; refine wpList_appB _ rfl (.tmp 44) (.tmp 49) rfl (HOS.out.below HB5.out (Nat.le_refl _)) rfl (numsTo_len L 4) HO5.out.reads rfl (storeN_len _ _) (by omega) (bcall HBW.out HB5.out).size ?_; intro A6 x6 w6 ho6 hg6 hA6; have HO6 := Lib.hid ho6; have HG6 := Lib.hid hg6; clear ho6 hg6 hA6))
   go_roundw
   case rel =>
    have h := HO6.out
    rw [show numsTo L 4 ++ storeN 19 4 = numsTo L (4 + 1) by rw [HL.out]; rfl] at h
    exact ⟨4 + 1, 16 + 4, A6, x6, by omega, rfl, rfl, rfl, h, (HBK.out.below HB5.out HBK.out.lt).grown HG6.out ((HOS.out.below HB5.out (Nat.le_refl _)).ne_row (HBK.out.below HB5.out HBK.out.lt) (by show 5 ≠ 3; decide)), bapp (bcall HBW.out HB5.out) (HOS.out.below HB5.out (Nat.le_refl _)) HG6.out⟩
   case measure => simp [intOf]
  ·obtain rfl : m = 20 := hm
   have c5 : wr.cell? ⟨g, 5, none⟩ = some (.int .i64 k) := HBK.out.cell 5
   have l5 := HBK.out.lt
   go_wp2_with (first
    | (go_at_call 18; refine (rn32_any k (by have := B1.out; omega) _).mono ?_; rintro e5 w5 ⟨A5, x5, rfl, ho5, hb5⟩; have HO5 := Lib.hid ho5; have HB5 := Lib.hid hb5; clear ho5 hb5)
    | (at_builtin; refine wpList_appB _ rfl (.tmp 44) (.tmp 49) rfl (HOS.out.below HB5.out (Nat.le_refl _)) rfl (numsTo_len L 5) HO5.out.reads rfl (storeN_len _ _) (by omega) (bcall HBW.out HB5.out).size ?_; intro A6 x6 w6 ho6 hg6 hA6; have HO6 := Lib.hid ho6; have HG6 := Lib.hid hg6; clear ho6 hg6 hA6))
   go_roundw
   case rel =>
    have h := HO6.out
    rw [show numsTo L 5 ++ storeN k 4 = numsTo L (5 + 1) by rw [HL.out]; rfl] at h
    exact ⟨5 + 1, 20 + 4, A6, x6, by omega, rfl, rfl, rfl, h, (HBK.out.below HB5.out HBK.out.lt).grown HG6.out ((HOS.out.below HB5.out (Nat.le_refl _)).ne_row (HBK.out.below HB5.out HBK.out.lt) (by show 5 ≠ 3; decide)), bapp (bcall HBW.out HB5.out) (HOS.out.below HB5.out (Nat.le_refl _)) HG6.out⟩
   case measure => simp [intOf]
  ·obtain rfl : m = 24 := hm
   simp only [show ((6 : Nat) : Int) = 6 from rfl]
   have l5 := HBK.out.lt
   go_wp2_with fail
   have HBK0 := Lib.hid (Blk.new wr 24 (#[Value.slice Ap np cp, .slice As ns cs, .slice Ax nx cx, .slice Ae ne ce]))
   have HB := Lib.hid (bal HBW.out (.cells (#[Value.slice Ap np cp, .slice As ns cs, .slice Ax nx cx, .slice Ae ne ce]) 24))
   have HOS2 := Lib.hid (HOS.out.alloc (.cells (#[Value.slice Ap np cp, .slice As ns cs, .slice Ax nx cx, .slice Ae ne ce]) 24))
   obtain ⟨g2, hg⟩ : ∃ g, g = wr.heap.size := ⟨_, rfl⟩
   rw [← hg] at HBK0 ⊢
   clear hg
   go_loopw [13, 17] (fun b ix wr => ∃ (j m : Nat) (A : Option Addr) (c : Nat), j ≤ 4 ∧ ix = .int .i64 j ∧ b = .slice A m c ∧ (partsTo (numsTo L 6) [pass, salt, secret, extra] j).length = m ∧ OS cB wr w.heap.size A c (partsTo (numsTo L 6) [pass, salt, secret, extra] j) ∧ Blk wr g2 24 (#[Value.slice Ap np cp, .slice As ns cs, .slice Ax nx cx, .slice Ae ne ce]) ∧ Below w.heap.size w wr) (fun _ ix _ => 4 - (intOf ix).toNat)
   case atStart => exact ⟨0, 24, A, c, by omega, rfl, rfl, numsTo_len L 6, HOS2.out, HBK0.out, HB.out⟩
   case round =>
    clear HOS HBW HB HBK HBK0 HOS2 l5
    obtain ⟨j, m, A, c, hj, rfl, rfl, hml, hos, hbk, hbw⟩ := hrel
    have HOS := Lib.hid hos; have HBW := Lib.hid hbw; have HML := Lib.hid hml; have HBK := Lib.hid hbk; clear hos hbw hml hbk
    have hj2 : j = 0 ∨ j = 1 ∨ j = 2 ∨ j = 3 ∨ j = 4 := by omega
    rcases hj2 with rfl | rfl | rfl | rfl | rfl
    ·have hlm : m ≤ 24 + 70000 * 0 := by
      rw [← HML.out]
      have h := partsTo_le (numsTo L 6) [pass, salt, secret, extra] HLE.out 0
      rw [numsTo_len] at h
      exact h
     have c5 : wr.cell? ⟨g2, 0, none⟩ = some (.slice Ap np cp) := HBK.out.cell 0
     have l5 := HBK.out.lt
     go_wp2_with (first
      | (go_at_call 18; refine (rn32_any np (by have := BB.out; omega) _).mono ?_; rintro e5 w5 ⟨A5, x5, rfl, ho5, hb5⟩; have HO5 := Lib.hid ho5; have HB5 := Lib.hid hb5; clear ho5 hb5)
      | (at_builtin; refine wpList_appB _ rfl (.tmp 60) (.tmp 66) rfl (HOS.out.below HB5.out (Nat.le_refl _)) rfl HML.out HO5.out.reads rfl (storeN_len _ _) (by omega) (bcall HBW.out HB5.out).size ?_; intro A6 x6 w6 ho6 hg6 hA6; have HO6 := Lib.hid ho6; have HBK6 := Lib.hid ((HBK.out.below HB5.out HBK.out.lt).grown hg6 ((HOS.out.below HB5.out (Nat.le_refl _)).ne_row (HBK.out.below HB5.out HBK.out.lt) (by show 5 ≠ 24; decide))); have HW6 := Lib.hid (bapp (bcall HBW.out HB5.out) (HOS.out.below HB5.out (Nat.le_refl _)) hg6); have c6 : w6.cell? ⟨g2, 0, none⟩ = some (.slice Ap np cp) := HBK6.out.cell 0; have l6 := HBK6.out.lt; clear ho6 hg6 hA6)
      | (at_builtin; refine wpList_appB _ rfl (.tmp 68) (.tmp 72) rfl HO6.out rfl (by rw [List.length_append, storeN_len, HML.out]) ((RP.out.below HW6.out).more HW6.out.size) rfl LP.out (by have := BB.out; omega) HW6.out.size ?_; intro A7 x7 w7 ho7 hg7 hA7; have HO7 := Lib.hid ho7; have HG7 := Lib.hid hg7; clear ho7 hg7 hA7))
     go_roundw
     case rel =>
      have h := HO7.out
      rw [show (partsTo (numsTo L 6) [pass, salt, secret, extra] 0 ++ storeN np 4) ++ pass = partsTo (numsTo L 6) [pass, salt, secret, extra] (0 + 1) by rw [← LP.out]; rfl] at h
      exact ⟨0 + 1, m + 4 + np, A7, x7, by omega, rfl, rfl, by rw [show partsTo (numsTo L 6) [pass, salt, secret, extra] (0 + 1) = (partsTo (numsTo L 6) [pass, salt, secret, extra] 0 ++ storeN np 4) ++ pass by rw [← LP.out]; rfl, List.length_append, List.length_append, storeN_len, HML.out, LP.out], h, HBK6.out.grown HG7.out (HO6.out.ne_row HBK6.out (by show 5 ≠ 24; decide)), bapp HW6.out HO6.out HG7.out⟩
     case measure => simp [intOf]
    ·have hlm : m ≤ 24 + 70000 * 1 := by
      rw [← HML.out]
      have h := partsTo_le (numsTo L 6) [pass, salt, secret, extra] HLE.out 1
      rw [numsTo_len] at h
      exact h
     have c5 : wr.cell? ⟨g2, 1, none⟩ = some (.slice As ns cs) := HBK.out.cell 1
     have l5 := HBK.out.lt
     go_wp2_with (first
      | (go_at_call 18; refine (rn32_any ns (by have := BB.out; omega) _).mono ?_; rintro e5 w5 ⟨A5, x5, rfl, ho5, hb5⟩; have HO5 := Lib.hid ho5; have HB5 := Lib.hid hb5; clear ho5 hb5)
      | (at_builtin; refine wpList_appB _ rfl (.tmp 60) (.tmp 66) rfl (HOS.out.below HB5.out (Nat.le_refl _)) rfl HML.out HO5.out.reads rfl (storeN_len _ _) (by omega) (bcall HBW.out HB5.out).size ?_; intro A6 x6 w6 ho6 hg6 hA6; have HO6 := Lib.hid ho6; have HBK6 := Lib.hid ((HBK.out.below HB5.out HBK.out.lt).grown hg6 ((HOS.out.below HB5.out (Nat.le_refl _)).ne_row (HBK.out.below HB5.out HBK.out.lt) (by show 5 ≠ 24; decide))); have HW6 := Lib.hid (bapp (bcall HBW.out HB5.out) (HOS.out.below HB5.out (Nat.le_refl _)) hg6); have c6 : w6.cell? ⟨g2, 1, none⟩ = some (.slice As ns cs) := HBK6.out.cell 1; have l6 := HBK6.out.lt; clear ho6 hg6 hA6)
      | (at_builtin; refine wpList_appB _ rfl (.tmp 68) (.tmp 72) rfl HO6.out rfl (by rw [List.length_append, storeN_len, HML.out]) ((RSS.out.below HW6.out).more HW6.out.size) rfl LS.out (by have := BB.out; omega) HW6.out.size ?_; intro A7 x7 w7 ho7 hg7 hA7; have HO7 := Lib.hid ho7; have HG7 := Lib.hid hg7; clear ho7 hg7 hA7))
     go_roundw
     case rel =>
      have h := HO7.out
      rw [show (partsTo (numsTo L 6) [pass, salt, secret, extra] 1 ++ storeN ns 4) ++ salt = partsTo (numsTo L 6) [pass, salt, secret, extra] (1 + 1) by rw [← LS.out]; rfl] at h
      exact ⟨1 + 1, m + 4 + ns, A7, x7, by omega, rfl, rfl, by rw [show partsTo (numsTo L 6) [pass, salt, secret, extra] (1 + 1) = (partsTo (numsTo L 6) [pass, salt, secret, extra] 1 ++ storeN ns 4) ++ salt by rw [← LS.out]; rfl, List.length_append, List.length_append, storeN_len, HML.out, LS.out], h, HBK6.out.grown HG7.out (HO6.out.ne_row HBK6.out (by show 5 ≠ 24; decide)), bapp HW6.out HO6.out HG7.out⟩
     case measure => simp [intOf]
    ·have hlm : m ≤ 24 + 70000 * 2 := by
      rw [← HML.out]
      have h := partsTo_le (numsTo L 6) [pass, salt, secret, extra] HLE.out 2
      rw [numsTo_len] at h
      exact h
     have c5 : wr.cell? ⟨g2, 2, none⟩ = some (.slice Ax nx cx) := HBK.out.cell 2
     have l5 := HBK.out.lt
     go_wp2_with (first
      | (go_at_call 18; refine (rn32_any nx (by have := BB.out; omega) _).mono ?_; rintro e5 w5 ⟨A5, x5, rfl, ho5, hb5⟩; have HO5 := Lib.hid ho5; have HB5 := Lib.hid hb5; clear ho5 hb5)
      | (at_builtin; refine wpList_appB _ rfl (.tmp 60) (.tmp 66) rfl (HOS.out.below HB5.out (Nat.le_refl _)) rfl HML.out HO5.out.reads rfl (storeN_len _ _) (by omega) (bcall HBW.out HB5.out).size ?_; intro A6 x6 w6 ho6 hg6 hA6; have HO6 := Lib.hid ho6; have HBK6 := Lib.hid ((HBK.out.below HB5.out HBK.out.lt).grown hg6 ((HOS.out.below HB5.out (Nat.le_refl _)).ne_row (HBK.out.below HB5.out HBK.out.lt) (by show 5 ≠ 24; decide))); have HW6 := Lib.hid (bapp (bcall HBW.out HB5.out) (HOS.out.below HB5.out (Nat.le_refl _)) hg6); have c6 : w6.cell? ⟨g2, 2, none⟩ = some (.slice Ax nx cx) := HBK6.out.cell 2; have l6 := HBK6.out.lt; clear ho6 hg6 hA6)
      | (at_builtin; refine wpList_appB _ rfl (.tmp 68) (.tmp 72) rfl HO6.out rfl (by rw [List.length_append, storeN_len, HML.out]) ((RX.out.below HW6.out).more HW6.out.size) rfl LX.out (by have := BB.out; omega) HW6.out.size ?_; intro A7 x7 w7 ho7 hg7 hA7; have HO7 := Lib.hid ho7; have HG7 := Lib.hid hg7; clear ho7 hg7 hA7))
     go_roundw
     case rel =>
      have h := HO7.out
      rw [show (partsTo (numsTo L 6) [pass, salt, secret, extra] 2 ++ storeN nx 4) ++ secret = partsTo (numsTo L 6) [pass, salt, secret, extra] (2 + 1) by rw [← LX.out]; rfl] at h
      exact ⟨2 + 1, m + 4 + nx, A7, x7, by omega, rfl, rfl, by rw [show partsTo (numsTo L 6) [pass, salt, secret, extra] (2 + 1) = (partsTo (numsTo L 6) [pass, salt, secret, extra] 2 ++ storeN nx 4) ++ secret by rw [← LX.out]; rfl, List.length_append, List.length_append, storeN_len, HML.out, LX.out], h, HBK6.out.grown HG7.out (HO6.out.ne_row HBK6.out (by show 5 ≠ 24; decide)), bapp HW6.out HO6.out HG7.out⟩
     case measure => simp [intOf]
    ·have hlm : m ≤ 24 + 70000 * 3 := by
      rw [← HML.out]
      have h := partsTo_le (numsTo L 6) [pass, salt, secret, extra] HLE.out 3
      rw [numsTo_len] at h
      exact h
     have c5 : wr.cell? ⟨g2, 3, none⟩ = some (.slice Ae ne ce) := HBK.out.cell 3
     have l5 := HBK.out.lt
     go_wp2_with (first
      | (go_at_call 18; refine (rn32_any ne (by have := BB.out; omega) _).mono ?_; rintro e5 w5 ⟨A5, x5, rfl, ho5, hb5⟩; have HO5 := Lib.hid ho5; have HB5 := Lib.hid hb5; clear ho5 hb5)
      | (at_builtin; refine wpList_appB _ rfl (.tmp 60) (.tmp 66) rfl (HOS.out.below HB5.out (Nat.le_refl _)) rfl HML.out HO5.out.reads rfl (storeN_len _ _) (by omega) (bcall HBW.out HB5.out).size ?_; intro A6 x6 w6 ho6 hg6 hA6; have HO6 := Lib.hid ho6; have HBK6 := Lib.hid ((HBK.out.below HB5.out HBK.out.lt).grown hg6 ((HOS.out.below HB5.out (Nat.le_refl _)).ne_row (HBK.out.below HB5.out HBK.out.lt) (by show 5 ≠ 24; decide))); have HW6 := Lib.hid (bapp (bcall HBW.out HB5.out) (HOS.out.below HB5.out (Nat.le_refl _)) hg6); have c6 : w6.cell? ⟨g2, 3, none⟩ = some (.slice Ae ne ce) := HBK6.out.cell 3; have l6 := HBK6.out.lt; clear ho6 hg6 hA6)
      | (at_builtin; refine wpList_appB _ rfl (.tmp 68) (.tmp 72) rfl HO6.out rfl (by rw [List.length_append, storeN_len, HML.out]) ((RE.out.below HW6.out).more HW6.out.size) rfl LE.out (by have := BB.out; omega) HW6.out.size ?_; intro A7 x7 w7 ho7 hg7 hA7; have HO7 := Lib.hid ho7; have HG7 := Lib.hid hg7; clear ho7 hg7 hA7))
     go_roundw
     case rel =>
      have h := HO7.out
      rw [show (partsTo (numsTo L 6) [pass, salt, secret, extra] 3 ++ storeN ne 4) ++ extra = partsTo (numsTo L 6) [pass, salt, secret, extra] (3 + 1) by rw [← LE.out]; rfl] at h
      exact ⟨3 + 1, m + 4 + ne, A7, x7, by omega, rfl, rfl, by rw [show partsTo (numsTo L 6) [pass, salt, secret, extra] (3 + 1) = (partsTo (numsTo L 6) [pass, salt, secret, extra] 3 ++ storeN ne 4) ++ extra by rw [← LE.out]; rfl, List.length_append, List.length_append, storeN_len, HML.out, LE.out], h, HBK6.out.grown HG7.out (HO6.out.ne_row HBK6.out (by show 5 ≠ 24; decide)), bapp HW6.out HO6.out HG7.out⟩
     case measure => simp [intOf]
    ·have hlm : m ≤ 1000000 := by
      rw [← HML.out]
      have h := partsTo_le (numsTo L 6) [pass, salt, secret, extra] HLE.out 4
      rw [numsTo_len] at h
      omega
     go_wp2_with fail
     refine (HSUM.out A m c _ (by rw [HSL.out]; exact HML.out) (by omega) (by rw [HSL.out]; exact HOS.out.reads)).mono ?_
     rintro e7 w7 ⟨A7, c7, cc7, rfl, hcc7, ho7, hb7⟩
     have HO7 := Lib.hid (ho7.mono (show w.heap.size ≤ _ from HBW.out.size)); have HB7 := Lib.hid (bcall HBW.out hb7); have HCC := Lib.hid hcc7; clear ho7 hb7 hcc7
     go_wp2_with fail
     exact bodyPost_ret (results_tmp2 rfl _ _ _) rfl ⟨A7, c7, cc7, rfl, HCC.out, HO7.out, HB7.out⟩
end Go.Proofs.YtbghkdhkahkfnaaGreat

/-
  Calls of the program: the calls of all nodes. Contracts alone; no statement is claimed here.
-/
import Derived.Test.YtghpofnaojbbkaaLCalP
import Derived.Test.YtghpofnaojbbkaaLSet
import Derived.Test.YtghpofnaojbbkaaLaneD
import Derived.Test.YtghpofnaojbbkaaNCalm
namespace Go.Proofs.Ytghpofnaojbbkaa
open Go.RowKit
attribute [local go_sem] pureUpon Ords.of

theorem apart_fresh {s : Sl} {R : Option Nat} {B : Nat} (h : ∀ a, s.A = some a → B ≤ a.block) (hR : ∀ g, R = some g → g < B) : s.apart R := fun _ a ha e => Nat.lt_irrefl _ (Nat.lt_of_lt_of_le (hR _ e) (h a ha))
theorem apart_old {s : Sl} {R : Option Nat} {B : Nat} {w : World} {l : List UInt8} (h : RS cB w B s.A l) (hl : l.length = s.n) (hR : ∀ g, R = some g → B ≤ g) : s.apart R := fun hn a ha e => Nat.lt_irrefl _ (Nat.lt_of_lt_of_le (h.lowC (by rw [hl]; exact hn) a ha) (hR _ e))
theorem row_ge {α : Type} {cd : Cod α} {w : World} {H c : Nat} {A : Option Addr} {l : List α} (h : OS cd w H A c l) : ∀ g, A.map (·.block) = some g → H ≤ g ∧ g < w.heap.size := by
  intro g e
  cases hA : A with
  | none => rw [hA] at e; cases e
  | some a => rw [hA] at e; have := h.block_lt a hA; have e2 : a.block = g := Option.some.inj e; rw [← e2]; exact this
theorem crow_ge {w : World} {H c : Nat} {A : Option Addr} {l : List CC} (h : CO w H A c l) : ∀ g, A.map (·.block) = some g → H ≤ g ∧ g < w.heap.size := by
  intro g e
  cases hA : A with
  | none => rw [hA] at e; cases e
  | some a => rw [hA] at e; have := h.block_lt a hA; have e2 : a.block = g := Option.some.inj e; rw [← e2]; exact this
theorem callC_any (k : Int) (x : CC) (c : CP) (w : World) (h : CIn w k x c) :
    Calls Try.prog 8 #[.agg x.cs] w fun r w' => ∃ A n c2 cc, r = .returned (.tuple #[.slice A n cc, .int .i64 (c.out k).2]) ∧ (c.out k).1.length = n ∧ n ≤ cc ∧ OS cB w' w.heap.size A c2 (c.out k).1 ∧ Below w.heap.size w w' := by
  obtain ⟨kd, hl, hm, hin⟩ := h
  have h2 := callS_any k c.last c.m x.b x.key x.data c.b c.key c.data w hin
  unfold CC.cs CP.out
  rw [kd, hl, hm]
  exact h2
theorem callC_size (x : CC) : (Try.prog.info? 37).map (·.size) = some x.cs.size := by unfold CC.cs callV; kernel_rfl
theorem LP.blk_len (P : LP) (he : P.err = 0) (i : Nat) : (P.blk i).length = bOf P.big := by
  obtain ⟨-, -, -, -, -, -, h7, h8⟩ := chk_range he
  exact encL_len P.big _ P.ls P.lp h7 h8
theorem bsz {H : Nat} {a b : World} (h : H = a.heap.size) (hb : Below H a b) : H ≤ b.heap.size := by rw [h]; exact hb.size
theorem below_appC {B base : Nat} {a w w' : World} {A : Option Addr} {c : Nat} {l : List CC} (h : Below B a w) (hown : CO w base A c l) (hg : w.grownBy w' (A.map (·.block))) (hB : B ≤ base) (hs : B ≤ w.heap.size) : Below B a w' := by
  refine h.grown hg hs (fun g e => ?_)
  exact Nat.le_trans hB (crow_ge hown g e).1
theorem meas8 (n k : Nat) (h : k < n + 1) : n + 1 - (intOf (.int .i64 ((k : Int) + 1))).toNat < n + 1 - (intOf (.int .i64 (k : Int))).toNat := by simp [intOf]; omega
theorem num8 (k : Nat) : Value.int .i64 ((k : Int) + 1) = .int .i64 ((k + 1 : Nat) : Int) := rfl
theorem kindOf_of (big : Bool) (w : World) : Calls Try.prog 17 #[.int .i64 (kOf big)] w fun e w' => e = .returned (.tuple #[.agg (shC (lnOf big) (blOf big) (bOf big)), .bool true]) ∧ Below w.heap.size w w' := by
  cases big with
  | true => exact of_big w
  | false => exact of_small w
/-- what lane.Calls is given -/
structure LIn (w : World) (P : LP) (sk ss sp sd : Sl) : Prop where
  hk : P.key.length = sk.n
  hs : P.ls.length = ss.n
  hp : P.lp.length = sp.n
  hd : P.data.length = sd.n
  nk : sk.n ≤ 140737488351232
  ns : ss.n ≤ 140737488351232
  np : sp.n ≤ 140737488351232
  nd : sd.n ≤ 140737488351232
  dc : sd.n ≤ sd.c ∧ sd.c ≤ 9223372036854775807
  rk : RS cB w w.heap.size sk.A P.key
  rs : RS cB w w.heap.size ss.A P.ls
  rp : RS cB w w.heap.size sp.A P.lp
  rd : RS cB w w.heap.size sd.A P.data
theorem lset_any (P : LP) (sk ss sp sd : Sl) (w : World) (h : LIn w P sk ss sp sd) :
    Calls Try.prog 10 #[.int .i64 (kOf P.big), .int .i64 P.digest, .slice sk.A sk.n sk.c, .slice ss.A ss.n ss.c, .slice sp.A sp.n sp.c] w fun e w' => ∃ a b c : Sl, e = .returned (.tuple #[.agg (setC (lnOf P.big) (blOf P.big) (bOf P.big) (kOf P.big) P.digest a b c), .int .i64 P.err]) ∧ a.n = sk.n ∧ b.n = ss.n ∧ c.n = sp.n ∧ OS cB w' w.heap.size a.A a.c P.key ∧ OS cB w' w.heap.size b.A b.c P.ls ∧ OS cB w' w.heap.size c.A c.c P.lp ∧ Below w.heap.size w w' := by
  have h8 := lnOf_pos P.big
  refine (set_kind (kOf P.big) (lnOf P.big) (blOf P.big) (bOf P.big) P.digest sk ss sp P.key P.ls P.lp (by omega) (by omega) (Lib.hid (kindOf_of P.big)) w h.hk h.hs h.hp h.nk h.ns h.np h.rk h.rs h.rp).mono ?_
  rintro e w' ⟨a, b, c, rfl, ha, hb, hc, r⟩
  refine ⟨a, b, c, ?_, ha, hb, hc, r⟩
  rw [← P.chk_eq (lnOf P.big) (Nat.le_refl _) b c (by rw [h.hs, hb]) (by rw [h.hp, hc])]
  unfold LP.par
  rw [h.hk]
set_option maxRecDepth 20000 in
set_option maxHeartbeats 1000000 in
theorem callsKind_any (k : Int) (d a b c e : Value) (h1 : k ≠ 1) (h2 : k ≠ 2) (w : World) :
    Calls Try.prog 5 #[.int .i64 k, d, a, b, c, e] w fun e w' => e = .returned (.tuple #[.slice none 0 0, .int .i64 1]) ∧ Below w.heap.size w w' := by
  have hs := fun W => set_none k d a b c h1 h2 W
  have HS := Lib.hid hs; clear hs
  go_enter Try.func5, Try.ntmps5
  go_wp2_with fail
  refine (HS.out _).mono ?_
  rintro e w1 ⟨rfl, hb1⟩
  unfold zset
  go_wp2_with fail
  exact bodyPost_ret (results_tmp2 rfl _ _ _) rfl ⟨rfl, bal (bcall (b0 w) hb1) _⟩
set_option maxRecDepth 20000 in
set_option maxHeartbeats 1000000 in
theorem callsErr_any (P : LP) (sk ss sp sd : Sl) (w : World) (h : LIn w P sk ss sp sd) (he : P.err ≠ 0) :
    Calls Try.prog 5 #[.int .i64 (kOf P.big), .int .i64 P.digest, .slice sk.A sk.n sk.c, .slice ss.A ss.n ss.c, .slice sp.A sp.n sp.c, .slice sd.A sd.n sd.c] w fun e w' => e = .returned (.tuple #[.slice none 0 0, .int .i64 P.err]) ∧ Below w.heap.size w w' := by
  have hs := lset_any P sk ss sp sd w h
  have te : (P.err != 0) = true := by simpa using he
  generalize P.err = E at *
  have HS := Lib.hid hs; clear hs h he
  go_enter Try.func5, Try.ntmps5
  go_wp2_with fail
  refine HS.out.mono ?_
  rintro e w1 ⟨a, b, c, rfl, -, -, -, -, -, -, hb1⟩
  unfold setC
  go_wp2_with fail
  exact bodyPost_ret (results_tmp2 rfl _ _ _) rfl ⟨rfl, bal (bcall (b0 w) hb1) _⟩

set_option maxRecDepth 20000 in
set_option maxHeartbeats 8000000 in
theorem calls_any (P : LP) (sk ss sp sd : Sl) (w : World) (h : LIn w P sk ss sp sd) (he : P.err = 0) :
    Calls Try.prog 5 #[.int .i64 (kOf P.big), .int .i64 P.digest, .slice sk.A sk.n sk.c, .slice ss.A ss.n ss.c, .slice sp.A sp.n sp.c, .slice sd.A sd.n sd.c] w fun e w' => ∃ A c l, e = .returned (.tuple #[.slice A (lnOf P.big + 1 : Nat) c, .int .i64 0]) ∧ CO w' w.heap.size A c l ∧ l.length = lnOf P.big + 1 ∧ (∀ (i : Nat) (x : CC), l[i]? = some x → CIn w' (kOf P.big) x (P.call i)) ∧ Below w.heap.size w w' := by
  have hs := lset_any P sk ss sp sd w h
  rw [he] at hs
  have h8 := lnOf_pos P.big
  have hb8 : 0 < blOf P.big ∧ blOf P.big ≤ 128 := by cases P.big <;> decide
  have hde := fun (g : Nat) (W : World) (base : Nat) hr hbase (svs : List SV) ht hl h0 => deal_any (lnOf P.big) (blOf P.big) (bOf P.big) (by omega) h8.2 hb8.1 hb8.2 sd.A sd.c sd.n base g P.data W h.hd h.dc.1 h.dc.2 (by have := h.nd; omega) hr hbase svs ht hl h0
  have hpa := fun (i : Nat) (hi : i ≤ lnOf P.big) (a b c : Sl) W => setParams_any (lnOf P.big) (blOf P.big) (bOf P.big) (kOf P.big) P.digest i a b c (by omega) (by omega) (by omega) W
  have hen := fun (i : Nat) (hi : i ≤ lnOf P.big) (b c : Sl) (hb : P.ls.length = b.n) (hc : P.lp.length = c.n) W r1 r2 => encode_any P.big (P.par i b c) P.ls P.lp W (by rw [P.chk_eq i hi b c hb hc]; exact he) (P.fit i hi b c) hb hc r1 r2
  have hca := fun (x : CC) (c : CP) W (hx : CIn W (kOf P.big) x c) => callC_any (kOf P.big) x c W hx
  have hbl := fun i => P.blk_len he i
  obtain ⟨n, hn⟩ : ∃ n, n = lnOf P.big := ⟨_, rfl⟩
  obtain ⟨kk, hkk⟩ : ∃ k, k = kOf P.big := ⟨_, rfl⟩
  obtain ⟨blk, hblk⟩ : ∃ k, k = blOf P.big := ⟨_, rfl⟩
  obtain ⟨most, hmost⟩ : ∃ k, k = bOf P.big := ⟨_, rfl⟩
  rw [← hkk] at hs hpa hen hca ⊢
  rw [← hn] at hs hde hpa hen h8 ⊢
  rw [← hblk] at hs hde hpa
  rw [← hmost] at hs hde hpa hen
  simp only [← hmost] at hbl
  have hmk : ∀ (W : World), (Instr.makeSlice 46 (.int .i64 (n : Int)) (.int .i64 (n : Int))).run Try.prog W = .ok (.slice (some ⟨W.heap.size, 0, none⟩) n n) (W.alloc (.cells (madeCells #[cL.zero] n) 22)) := fun (W : World) => run_makeS cL_ok .i64 .i64 n n (Nat.le_refl _) (by show 24 * n ≤ _; omega) (by omega) W
  have HDE := Lib.hid hde; have HPA := Lib.hid hpa; have HEN := Lib.hid hen; have HCA := Lib.hid hca; have HBL := Lib.hid hbl; have HBK := Lib.hid hblk; have HIN := Lib.hid h; have HS := Lib.hid hs
  have HN := Lib.hid hn; have HKK := Lib.hid hkk; have HM := Lib.hid hmost
  clear hde hpa hen hca hbl h hs he hb8 hn hkk hblk hmost
  have hcu := Lib.hid Try.underlying37
  have hsu := Lib.hid Try.underlying43
  go_enter Try.func5, Try.ntmps5
  go_wp2_with fail
  refine HS.out.mono ?_
  rintro e w1 ⟨a, b, c, rfl, ha, hb, hc, hoa, hob, hoc, hb1⟩
  have HST := Lib.hid ((Blk.new w1 43 zset).row (setC n blk most kk P.digest a b c))
  have HB := Lib.hid (brow (g := w1.heap.size) (bal (bcall (b0 w) hb1) (.cells zset 43)) hb1.size (setC n blk most kk P.digest a b c))
  go_upto_region 2 with (refine wpList_store_row rfl 43 _ _ rfl w1.heap.size (setC n blk most kk P.digest a b c) rfl rfl 43 zset (Blk.new _ _ _) (setC_size _ _ _ _ _ _ _ _) rfl (setC_ones _ _ _ _ _ _ _ _) ?_)
  have hz : zset = #[.int .i64 0, .int .i64 0, .int .i64 0, .int .i64 0, .int .i64 0, .slice none 0 0, .slice none 0 0, .slice none 0 0] := rfl
  rw [← hz]
  clear hz
  have hbu := brow (g := w1.heap.size) (bal (b0 w1) (.cells zset 43)) (Nat.le_refl _) (setC n blk most kk P.digest a b c)
  have HOA := Lib.hid (hoa.below hbu (Nat.le_refl _)); have HOB := Lib.hid (hob.below hbu (Nat.le_refl _)); have HOC := Lib.hid (hoc.below hbu (Nat.le_refl _))
  obtain ⟨gS, hgS⟩ : ∃ g, g = w1.heap.size := ⟨_, rfl⟩
  rw [← hgS] at HST HB HOA HOB HOC ⊢
  have HGS := Lib.hid (show w.heap.size ≤ gS by rw [hgS]; exact hb1.size)
  have e1 : w1.alloc (.cells zset 43) = w1.alloc (.cells zset 43) := rfl
  clear hbu hoa hob hoc hb1 hgS e1
  generalize (w1.alloc (.cells zset 43)).setRow gS (setC n blk most kk P.digest a b c) = u at *
  clear w1
  have hpa2 : ∀ (i : Nat), i ≤ n → ∀ W, Calls Try.prog 13 #[.agg (setC n blk most kk P.digest a b c), .int .i64 i] W (fun e w' => e = .returned (P.par i b c).v ∧ Below W.heap.size W w') := fun i hi W => by
    have h := HPA.out i hi a b c W
    rw [show lanePar n most P.digest a.n i b c = P.par i b c by unfold LP.par; rw [HN.out, HM.out, ha, HIN.out.hk]] at h
    exact h
  have hen2 : ∀ (i : Nat), i ≤ n → ∀ W, RS cB W W.heap.size b.A P.ls → RS cB W W.heap.size c.A P.lp → Calls Try.prog 12 #[.int .i64 kk, (P.par i b c).v] W (fun e w' => ∃ A c, e = .returned (.tuple #[.slice A most c, .int .i64 0]) ∧ OS cB w' W.heap.size A c (P.blk i) ∧ Below W.heap.size W w') := fun i hi W r1 r2 => by
    have h := HEN.out i hi b c (by rw [HIN.out.hs, hb]) (by rw [HIN.out.hp, hc]) W r1 r2
    rw [P.blk_eq] at h
    exact h
  have han := HIN.out.hk.trans ha.symm
  have HPA2 := Lib.hid hpa2; have HEN2 := Lib.hid hen2; have HAN := Lib.hid han; have HAL := Lib.hid (show a.n ≤ 140737488351232 by rw [ha]; exact HIN.out.nk)
  have hblkl : (P.blk 0).length = most ∨ True := .inr trivial
  clear hpa2 hen2 han HPA HEN hb hc ha hblkl HS
  have z0 : u.cell? ⟨gS, 0, none⟩ = some (.int .i64 n) := HST.out.cell 0
  have zr : u.rangeAt gS 0 [.int .i64 n, .int .i64 blk, .int .i64 most] := HST.out.range 0 3
  have hgl := HST.out.lt
  go_upto_region 5 with fail
  have HGL := Lib.hid hgl
  have HTN := Lib.hid (⟨OS.madeAt (cd := cL) u n n SV.none rfl (Nat.le_refl _) (by unfold maxLen; omega) (Nat.le_refl _) rfl, Parts.none_ _ _ _⟩ : Tab (u.alloc (.cells (madeCells #[cL.zero] n) 22)) u.heap.size u.heap.size n (List.replicate n SV.none))
  have ZR := Lib.hid (show (u.alloc (.cells (madeCells #[cL.zero] n) 22)).rangeAt gS 0 [.int .i64 n, .int .i64 blk, .int .i64 most] from (HST.out.alloc _).range 0 3)
  have HU1 := Lib.hid (bal (b0 u) (.cells (madeCells #[cL.zero] n) 22))
  have hshu := Lib.hid Try.underlying41
  clear z0 zr hgl hmk
  obtain ⟨gT, hgT⟩ : ∃ g, g = u.heap.size := ⟨_, rfl⟩
  generalize hU1 : u.alloc (.cells (madeCells #[cL.zero] n) 22) = u1 at *
  clear hU1
  rw [← hgT] at HTN ⊢
  have HGT := Lib.hid hgT
  clear hgT
  go_wp2_with (refine wpList_load_mid rfl 41 (.tmp 41) rfl gS 0 rfl _ _ ZR.out hshu.out rfl (by kernel_rfl) ?_)
  refine (HDE.out gT u1 gT ((((HIN.out.rd.below HB.out).below (HU1.out.mono HB.out.size)).more HB.out.size).more (by rw [HGT.out]; exact Nat.le_refl _)) (by rw [HGT.out]; exact HU1.out.size) (List.replicate n SV.none) HTN.out (by simp) ?_).mono ?_
  · intro j s hs
    rw [List.getElem?_replicate] at hs
    split at hs
    · injection hs with hs; subst hs; rfl
    · cases hs
  rintro e2 u2 ⟨svs, rfl, htab, hlen, hlane, hb2⟩
  have hbu2 : Below u.heap.size u u2 := HU1.out.trans (by rw [HGT.out] at hb2; exact hb2)
  have HT := Lib.hid htab; have HLEN := Lib.hid hlen; have HLANE := Lib.hid hlane
  replace HB := Lib.hid (bcall HB.out hbu2)
  replace HST := Lib.hid (HST.out.below hbu2 HST.out.lt); replace HOA := Lib.hid (HOA.out.below hbu2 (Nat.le_refl _)); replace HOB := Lib.hid (HOB.out.below hbu2 (Nat.le_refl _)); replace HOC := Lib.hid (HOC.out.below hbu2 (Nat.le_refl _))
  clear HU1 ZR HTN htab hlen hlane hb2 hbu2 HGL HGT HDE u u1
  have z0 : u2.cell? ⟨gS, 0, none⟩ = some (.int .i64 n) := HST.out.cell 0
  have hgl := HST.out.lt
  go_wp2_with fail
  obtain ⟨H, hH⟩ : ∃ H, H = u2.heap.size := ⟨_, rfl⟩
  have HH := Lib.hid hH
  have HRA := Lib.hid (show RS cB u2 H a.A P.key by rw [HH.out]; exact HOA.out.reads)
  have HRB := Lib.hid (show RS cB u2 H b.A P.ls by rw [HH.out]; exact HOB.out.reads)
  have HRC := Lib.hid (show RS cB u2 H c.A P.lp by rw [HH.out]; exact HOC.out.reads)
  have HSL := Lib.hid (show gS < H by rw [HH.out]; exact HST.out.lt)
  have HTL := Lib.hid (show gT < H by rw [HH.out]; obtain ⟨g, s, e, -, h, -⟩ := HT.out.row.at_ (k := 0) (by rw [HLEN.out]; omega); injection e with e; injection e with e; rw [e]; exact h)
  clear z0 hgl hH HOA HOB HOC
  go_loopw [17, 18, 19, 20, 21, 22, 23, 24, 50] (fun lv ov i1 i2 i3 i4 i5 i6 ix wr => ∃ (k olen : Nat) (Al : Option Addr) (cl : Nat) (L : List CC) (Ao : Option Addr) (co : Nat), k ≤ n + 1 ∧ ix = .int .i64 k ∧ lv = .slice Al k cl ∧ ov = .slice Ao olen co ∧ (P.outs (min k n)).length = olen ∧ CRel wr H P k (min k n) Al cl L Ao co ∧ Below H u2 wr) (fun _ _ _ _ _ _ _ _ ix _ => n + 1 - (intOf ix).toNat)
  case atStart => exact ⟨0, 0, none, 0, [], none, 0, by omega, rfl, rfl, rfl, by rw [Nat.zero_min]; rfl, by rw [Nat.zero_min]; exact CRel.start _ _ _, by rw [HH.out]; exact Below.refl _ _⟩
  case round =>
    obtain ⟨k, olen, Al, cl, L, Ao, co, hk, rfl, rfl, rfl, hol, hcr, hbw⟩ := hrel
    have HOL := Lib.hid hol; have HCR := Lib.hid hcr; have HBW := Lib.hid hbw; clear hol hcr hbw
    by_cases hlt : k < n
    · have hmin : min k n = k := by omega
      rw [hmin] at HCR HOL
      have HKN := Lib.hid hlt
      have hkn : Hid (k ≤ n) := Nat.le_of_lt hlt
      have d1 : decide ((k : Int) < (n : Int) + 1) = true := by simp; omega
      have d2 : decide ((k : Int) < (n : Int)) = true := by simp; omega
      have HBR := Lib.hid (b0 wr); have HW := HBW
      have HSW := Lib.hid (HST.out.below HW.out HSL.out)
      go_wp2_with (first
        | (refine wpList_load_row rfl 43 _ rfl gS rfl 43 (setC n blk most kk P.digest a b c) (0, 0) _ HSW.out hsu.out rfl (setC_size _ _ _ _ _ _ _ _) ?_)
        | (go_at_call 13; refine (HPA2.out k hkn.out _).mono ?_; rintro e3 u ⟨rfl, hb3⟩; replace HBR := Lib.hid (bcall HBR.out hb3); replace HW := Lib.hid (HBW.out.trans (HBR.out.mono (bsz HH.out HBW.out))); (try replace HE := Lib.hid (HE.out.below hb3 (Nat.le_refl _))); (try replace HC := Lib.hid (HC.out.below hb3 HC.out.lt)); (try replace HKY := Lib.hid (HKY.out.below hb3 (Nat.le_refl _))); clear hb3))
      refine (HEN2.out k hkn.out u ((HRB.out.below HW.out).more (bsz HH.out HW.out)) ((HRC.out.below HW.out).more (bsz HH.out HW.out))).mono ?_
      rintro e4 u ⟨A4, c4, rfl, ho4, hb4⟩
      have HE := Lib.hid (ho4.mono (show wr.heap.size ≤ _ from HBR.out.size))
      replace HBR := Lib.hid (bcall HBR.out hb4); replace HW := Lib.hid (HBW.out.trans (HBR.out.mono (bsz HH.out HBW.out)))
      clear ho4 hb4 HSW
      have z0 : u.cell? ⟨gS, 0, none⟩ = some (.int .i64 n) := (HST.out.below HW.out HSL.out).cell 0
      have hgl := (HST.out.below HW.out HSL.out).lt
      go_upto_region 13 with fail
      obtain ⟨lst, hls⟩ : ∃ x : Bool, x = decide ((n : Int) - 1 ≤ (k : Int)) := ⟨_, rfl⟩
      have HLS := Lib.hid hls
      rw [← hls]
      clear hls z0 hgl
      have HC := Lib.hid (Blk.new u 37 (callV kk ⟨A4, most, c4⟩ Sl.nil ⟨Ao, olen, co⟩ lst P.digest))
      have hba := bal (b0 u) (.cells (callV kk ⟨A4, most, c4⟩ Sl.nil ⟨Ao, olen, co⟩ lst P.digest) 37)
      replace HE := Lib.hid (HE.out.below hba (Nat.le_refl _))
      obtain ⟨gc, hgc⟩ : ∃ g, g = u.heap.size := ⟨_, rfl⟩
      have HGC := Lib.hid (show wr.heap.size ≤ gc by rw [hgc]; exact HBR.out.size)
      replace HBR := Lib.hid (bcall HBR.out hba); replace HW := Lib.hid (HBW.out.trans (HBR.out.mono (bsz HH.out HBW.out)))
      rw [show #[Value.int .i64 kk, .slice A4 most c4, .slice none 0 0, .bool lst, .int .i64 P.digest, .slice Ao olen co] = callV kk ⟨A4, most, c4⟩ Sl.nil ⟨Ao, olen, co⟩ lst P.digest from rfl]
      rw [← hgc] at HC ⊢
      clear hba hgc
      generalize u.alloc (.cells (callV kk ⟨A4, most, c4⟩ Sl.nil ⟨Ao, olen, co⟩ lst P.digest) 37) = u at *
      have z0 : u.cell? ⟨gS, 0, none⟩ = some (.int .i64 n) := (HST.out.below HW.out HSL.out).cell 0
      have hgl := (HST.out.below HW.out HSL.out).lt
      go_upto_region 14 with fail
      clear z0 hgl
      obtain ⟨g9, s, e9, -, -, hsk, hsc, -⟩ := HT.out.row.at_ (k := k) (by rw [HLEN.out]; exact hlt)
      injection e9 with e9
      injection e9 with e9
      subst e9
      have HSK := Lib.hid hsk
      have HTC : Hid (u2.cell? ⟨gT, k, none⟩ = some (.slice s.A s.l.length s.c)) := hsc
      have HSO := Lib.hid (HT.out.parts.own k s hsk)
      have HSR := Lib.hid (show RS cB u2 H s.A s.l by rw [HH.out]; exact HSO.out.reads)
      clear hsk hsc
      have z5 : u.cell? ⟨gS, 5, none⟩ = some (.slice a.A a.n a.c) := (HST.out.below HW.out HSL.out).cell 5
      have z2 : u.cell? ⟨gS, 2, none⟩ = some (.int .i64 most) := (HST.out.below HW.out HSL.out).cell 2
      have zT : u.cell? ⟨gT, k, none⟩ = some (.slice s.A s.l.length s.c) := (HW.out.cell (p := ⟨gT, k, none⟩) HTL.out).trans HTC.out
      refine wp_region_ords (fun w' => Blk w' gS 43 (setC n blk most kk P.digest a b c) ∧ w'.cell? ⟨gT, k, none⟩ = some (.slice s.A s.l.length s.c)) (fun _ n h => ⟨h.1.drewN n, h.2⟩) (Ords.of [(0, 0), (0, 1), (0, 3), (0, 4), (0, 5), (0, 6), (0, 7), (0, 8), (0, 9), (2, 2), (0, 10), (2, 11), (0, 12), (2, 13), (0, 14), (2, 15)] .fin) (by kernel_rfl) rfl (by kernel_rfl) (by kernel_rfl) (fun c a d v w h => by cases d <;> exact h) ⟨HST.out.below HW.out HSL.out, zT⟩ ?_
      iterate 2 (refine ords_pure rfl (fun K hK => ?_); go_simp; refine hK _ ?_; clear hK K; refine ords_heldK rfl (fun K K2 hK hK2 => ?_); go_simp; refine ⟨hK2 _ (fun w9 hS => ?_), hK _ ?_⟩; (clear hK hK2 K K2; have q5 : w9.cell? ⟨gS, 5, none⟩ = some (.slice a.A a.n a.c) := hS.1.cell 5; have q2 : w9.cell? ⟨gS, 2, none⟩ = some (.int .i64 most) := hS.1.cell 2; have qT := hS.2; clear hS; go_simp); (clear hK hK2 K K2); refine ords_pure rfl (fun K hK => ?_); go_simp; refine hK _ ?_; clear hK K)
      iterate 2 (refine ords_pure rfl (fun K hK => ?_); go_simp; refine hK _ ?_; clear hK K)
      refine ords_heldK rfl (fun K K2 hK hK2 => ?_); go_simp; refine ⟨hK2 _ (fun w9 hS => ?_), hK _ ?_⟩; (clear hK hK2 K K2; have q5 : w9.cell? ⟨gS, 5, none⟩ = some (.slice a.A a.n a.c) := hS.1.cell 5; have q2 : w9.cell? ⟨gS, 2, none⟩ = some (.int .i64 most) := hS.1.cell 2; have qT := hS.2; clear hS; go_simp); (clear hK hK2 K K2)
      refine ords_loud rfl (fun n1 => ?_)
      clear z5 z2 zT
      replace HBR := Lib.hid (bdr HBR.out n1); replace HW := Lib.hid (HBW.out.trans (HBR.out.mono (bsz HH.out HBW.out))); replace HE := Lib.hid (HE.out.drewN n1); replace HC := Lib.hid (HC.out.drewN n1); (try replace HKY := Lib.hid (HKY.out.drewN n1)); generalize u.drewN n1 = u at *
      have HN0 := Lib.hid (OS.nil (cd := cB) u u.heap.size 0 rfl)
      have hz0 := Lib.hid HBR.out.size
      (refine wpList_appB _ rfl (.const (.slice none 0 0)) (.tmp 78) rfl HN0.out rfl rfl ((HRA.out.below HW.out).more (bsz HH.out HW.out)) rfl HAN.out (by have := HAL.out; omega) (Nat.le_refl _) ?_; intro A5 c5 u ho hg hA; rw [List.nil_append] at ho)
      have hbu := bapp (b0 _) HN0.out hg
      replace HBR := Lib.hid (bcall HBR.out hbu); replace HW := Lib.hid (HBW.out.trans (HBR.out.mono (bsz HH.out HBW.out))); (try replace HE := Lib.hid (HE.out.below hbu (Nat.le_refl _))); (try replace HC := Lib.hid (HC.out.below hbu HC.out.lt)); (try replace HKY := Lib.hid (HKY.out.below hbu (Nat.le_refl _)))
      have HKY := Lib.hid (ho.mono hz0.out)
      clear ho hg hA hbu HN0 hz0
      refine ⟨⟨HST.out.below HW.out HSL.out, (HW.out.cell (p := ⟨gT, k, none⟩) HTL.out).trans HTC.out⟩, ?_⟩
      go_simp
      refine ords_pure rfl (fun K hK => ?_); go_simp; refine hK _ ?_; clear hK K
      refine ords_loud rfl (fun n2 => ?_)
      replace HBR := Lib.hid (bdr HBR.out n2); replace HW := Lib.hid (HBW.out.trans (HBR.out.mono (bsz HH.out HBW.out))); replace HE := Lib.hid (HE.out.drewN n2); replace HC := Lib.hid (HC.out.drewN n2); (try replace HKY := Lib.hid (HKY.out.drewN n2)); generalize u.drewN n2 = u at *
      have c0 := HC.out.cell 2
      have f0 := HC.out.frozen 2
      have l0 := HC.out.lt
      go_wp2_with fail
      clear c0 f0 l0
      replace HBR := Lib.hid (bput HBR.out (p := ⟨gc, 2, none⟩) HGC.out (.slice A5 a.n c5))
      replace HW := Lib.hid (HBW.out.trans (HBR.out.mono (bsz HH.out HBW.out)))
      replace HE := Lib.hid (HE.out.setFar (p := ⟨gc, 2, none⟩) (HE.out.ne_blk HC.out (by show 5 ≠ 37; decide)) (.slice A5 a.n c5))
      replace HKY := Lib.hid (HKY.out.setFar (p := ⟨gc, 2, none⟩) (HKY.out.ne_blk HC.out (by show 5 ≠ 37; decide)) (.slice A5 a.n c5))
      replace HC := Lib.hid (HC.out.set_ 2 (.slice A5 a.n c5))
      generalize u.setCell ⟨gc, 2, none⟩ (.slice A5 a.n c5) = u at *
      refine ⟨⟨HST.out.below HW.out HSL.out, (HW.out.cell (p := ⟨gT, k, none⟩) HTL.out).trans HTC.out⟩, ?_⟩
      go_simp
      refine ords_pure rfl (fun K hK => ?_); go_simp; refine hK _ ?_; clear hK K
      refine ords_loud rfl (fun n3 => ?_)
      replace HBR := Lib.hid (bdr HBR.out n3); replace HW := Lib.hid (HBW.out.trans (HBR.out.mono (bsz HH.out HBW.out))); replace HE := Lib.hid (HE.out.drewN n3); replace HC := Lib.hid (HC.out.drewN n3); (try replace HKY := Lib.hid (HKY.out.drewN n3)); generalize u.drewN n3 = u at *
      have c0 := HC.out.cell 4
      have f0 := HC.out.frozen 4
      have l0 := HC.out.lt
      go_wp2_with fail
      clear c0 f0 l0
      replace HBR := Lib.hid (bput HBR.out (p := ⟨gc, 4, none⟩) HGC.out (.int .i64 most))
      replace HW := Lib.hid (HBW.out.trans (HBR.out.mono (bsz HH.out HBW.out)))
      replace HE := Lib.hid (HE.out.setFar (p := ⟨gc, 4, none⟩) (HE.out.ne_blk HC.out (by show 5 ≠ 37; decide)) (.int .i64 most))
      replace HKY := Lib.hid (HKY.out.setFar (p := ⟨gc, 4, none⟩) (HKY.out.ne_blk HC.out (by show 5 ≠ 37; decide)) (.int .i64 most))
      replace HC := Lib.hid (HC.out.set_ 4 (.int .i64 most))
      generalize u.setCell ⟨gc, 4, none⟩ (.int .i64 most) = u at *
      refine ⟨⟨HST.out.below HW.out HSL.out, (HW.out.cell (p := ⟨gT, k, none⟩) HTL.out).trans HTC.out⟩, ?_⟩
      go_simp
      refine ords_pure rfl (fun K hK => ?_); go_simp; refine hK _ ?_; clear hK K
      refine ords_loud rfl (fun n4 => ?_)
      replace HBR := Lib.hid (bdr HBR.out n4); replace HW := Lib.hid (HBW.out.trans (HBR.out.mono (bsz HH.out HBW.out))); replace HE := Lib.hid (HE.out.drewN n4); replace HC := Lib.hid (HC.out.drewN n4); (try replace HKY := Lib.hid (HKY.out.drewN n4)); generalize u.drewN n4 = u at *
      have c0 := HC.out.cell 5
      have f0 := HC.out.frozen 5
      have l0 := HC.out.lt
      go_wp2_with fail
      clear c0 f0 l0
      replace HBR := Lib.hid (bput HBR.out (p := ⟨gc, 5, none⟩) HGC.out (.slice s.A s.l.length s.c))
      replace HW := Lib.hid (HBW.out.trans (HBR.out.mono (bsz HH.out HBW.out)))
      replace HE := Lib.hid (HE.out.setFar (p := ⟨gc, 5, none⟩) (HE.out.ne_blk HC.out (by show 5 ≠ 37; decide)) (.slice s.A s.l.length s.c))
      replace HKY := Lib.hid (HKY.out.setFar (p := ⟨gc, 5, none⟩) (HKY.out.ne_blk HC.out (by show 5 ≠ 37; decide)) (.slice s.A s.l.length s.c))
      replace HC := Lib.hid (HC.out.set_ 5 (.slice s.A s.l.length s.c))
      generalize u.setCell ⟨gc, 5, none⟩ (.slice s.A s.l.length s.c) = u at *
      refine ⟨⟨HST.out.below HW.out HSL.out, (HW.out.cell (p := ⟨gT, k, none⟩) HTL.out).trans HTC.out⟩, ?_⟩
      go_simp
      refine ords_end (fun n5 => ?_)
      replace HBR := Lib.hid (bdr HBR.out n5); replace HW := Lib.hid (HBW.out.trans (HBR.out.mono (bsz HH.out HBW.out))); replace HE := Lib.hid (HE.out.drewN n5); replace HC := Lib.hid (HC.out.drewN n5); (try replace HKY := Lib.hid (HKY.out.drewN n5)); generalize u.drewN n5 = u at *
      have HC2 : Hid (Blk u gc 37 (#[Value.int .i64 kk, .slice A4 most c4, .slice A5 a.n c5, .bool lst, .int .i64 most, .slice s.A s.l.length s.c])) := HC.out
      clear HC
      obtain ⟨y, hyy⟩ : ∃ y : CC, y = ⟨kk, ⟨A4, most, c4⟩, ⟨A5, a.n, c5⟩, ⟨s.A, s.l.length, s.c⟩, lst, most⟩ := ⟨_, rfl⟩
      have hycs : y.cs = (#[Value.int .i64 kk, .slice A4 most c4, .slice A5 a.n c5, .bool lst, .int .i64 most, .slice s.A s.l.length s.c]) := by rw [hyy]; rfl
      have hlane : s.l = laneB n blk k P.data := HLANE.out k s HSK.out
      have hy : CIn u kk y (P.lane k) := by
        rw [hyy]
        refine ⟨rfl, ?_, ?_, ?_, ⟨?_, ?_⟩, ?_, HAN.out, ?_, ?_, ⟨?_, ?_⟩, ?_⟩
        · show lst = decide (lnOf P.big - 1 ≤ k)
          rw [HLS.out, ← HN.out]
          exact decide_eq_decide.2 (by omega)
        · show (most : Int) = (bOf P.big : Int)
          rw [HM.out]
        · exact HBL.out k
        · show most ≤ c4
          rw [← HBL.out k]; exact HE.out.len_le.1
        · show c4 ≤ _
          have h := HE.out.len_le.2; unfold maxLen at h; exact h
        · exact HE.out.reads
        · exact HKY.out.reads
        · show (laneB (lnOf P.big) (blOf P.big) k P.data).length = s.l.length
          rw [hlane, HN.out, HBK.out]
        · exact HSO.out.len_le.1
        · have h := HSO.out.len_le.2; unfold maxLen at h; exact h
        · show RS cB u u.heap.size s.A (laneB (lnOf P.big) (blOf P.big) k P.data)
          rw [← HN.out, ← HBK.out, ← hlane]
          exact (HSR.out.below HW.out).more (bsz HH.out HW.out)
      have hap : ∀ R : Option Nat, (∀ g, R = some g → H ≤ g ∧ g < wr.heap.size) → y.apart R := fun R hR => by
        rw [hyy]
        exact ⟨apart_fresh (fun a ha => (HE.out.block_lt a ha).1) (fun g hg => (hR g hg).2), apart_fresh (fun a ha => (HKY.out.block_lt a ha).1) (fun g hg => (hR g hg).2), apart_old HSR.out rfl (fun g hg => (hR g hg).1)⟩
      have HYY := Lib.hid hycs; have HY := Lib.hid hy; have HAP := Lib.hid hap
      clear hyy hycs hlane hy hap
      go_wp2_with (refine wpList_load_row rfl 37 _ rfl gc rfl 37 (#[Value.int .i64 kk, .slice A4 most c4, .slice A5 a.n c5, .bool lst, .int .i64 most, .slice s.A s.l.length s.c]) (0, 0) _ HC2.out hcu.out rfl (by rw [← HYY.out]; exact callC_size y) ?_)
      rw [← HYY.out]
      refine (HCA.out y (P.lane k) u HY.out).mono ?_
      rintro e6 u' ⟨A6, n6, c6, cc6, rfl, hl6, -, ho6, hb6⟩
      have HO6 := Lib.hid ho6; have HL6 := Lib.hid hl6
      have HC6 := Lib.hid (HC2.out.below hb6 HC2.out.lt); have HY6 := Lib.hid (HY.out.below hb6)
      replace HBR := Lib.hid (bcall HBR.out hb6); replace HW := Lib.hid (HBW.out.trans (HBR.out.mono (bsz HH.out HBW.out)))
      have HCR6 := Lib.hid (HCR.out.below HBR.out)
      clear ho6 hl6 hb6 HC2 HY HE HKY
      have hn6 : n6 ≤ 64 := by rw [← HL6.out]; exact callS_le _ _ _ _ _ _
      have hol : olen ≤ 1000 := by rw [← HOL.out]; have := P.outs_le k; omega
      have HNS := Lib.hid (show n6 ≤ 64 ∧ olen ≤ 1000 ∧ n ≤ 8 from ⟨hn6, hol, h8.2⟩)
      go_upto_region 17 with (at_builtin; refine wpList_appB _ rfl (.tmp 95) (.tmp 96) rfl HCR6.out.out rfl HOL.out HO6.out.reads rfl HL6.out (by omega) (bsz HH.out HW.out) ?_; intro A7 c7 u7 ho7 hg7 hA7)
      have HC7 := Lib.hid (HC6.out.grown hg7 (HCR6.out.out.ne_row HC6.out (by show 5 ≠ 37; decide)))
      have HY7 := Lib.hid (HY6.out.kept hg7 (HAP.out _ (row_ge HCR.out.out)))
      have ho7b : OS cB u7 H A7 c7 (P.outs (k + 1)) := by rw [HKK.out] at ho7; exact ho7
      have HCR7 := Lib.hid (HCR6.out.outs (by rw [← HN.out]; exact hkn.out) ho7b hg7 hA7)
      have HW7 := Lib.hid (below_app HW.out HCR6.out.out hg7 (Nat.le_refl _) (bsz HH.out HW.out))
      have HAPL := Lib.hid (HAP.out _ (crow_ge HCR.out.row))
      have HAPO := Lib.hid (far_step (HAP.out _ (row_ge HCR.out.out)) HY6.out hA7)
      have HK8 : Hid (k ≤ 1000) := by (show k ≤ 1000; have := HNS.out; have := hkn.out; omega)
      clear ho7 ho7b hg7 hA7 HC6 HY6 HCR6 hn6 hol
      go_wp2_with (first
        | (refine wpList_load_row rfl 37 _ rfl gc rfl 37 (#[Value.int .i64 kk, .slice A4 most c4, .slice A5 a.n c5, .bool lst, .int .i64 most, .slice s.A s.l.length s.c]) (0, 0) _ HC7.out hcu.out rfl (by rw [← HYY.out]; exact callC_size y) ?_)
        | (at_builtin; refine wpList_appC _ rfl (.tmp 98) (.tmp 100) rfl (HCR7.out.row.alloc _) rfl HCR7.out.len (y := y) (by rw [HYY.out]; exact Blk.new _ _ _) rfl HK8.out (size_new (bsz HH.out HW7.out)) ?_; intro A8 c8 u8 ho8 hg8 hA8))
      have HCR8 := Lib.hid ((HCR7.out.below (bal (b0 u7) _)).snoc (by rw [← HN.out]; exact hkn.out) ((show CIn u7 (kOf P.big) y (P.call k) from by rw [P.call_lt (by rw [← HN.out]; exact HKN.out), ← HKK.out]; exact HY7.out).below (bal (b0 u7) _)) HAPL.out (fun _ => HAPO.out) ho8 hg8 hA8)
      have HW8 := Lib.hid (below_appC (HW7.out.alloc (bsz HH.out HW7.out) _) (HCR7.out.row.alloc _) hg8 (Nat.le_refl _) (size_new (bsz HH.out HW7.out)))
      all_goals
        have hmn : min (k + 1) n = k + 1 := Nat.min_eq_left HKN.out
        refine ⟨⟨k + 1, olen + n6, A8, c8, L ++ [y], A7, c7, Nat.succ_le_succ hkn.out, num8 k, rfl, rfl, ?_, by rw [hmn]; exact HCR8.out, HW8.out⟩, meas8 n k (Nat.lt_succ_of_le hkn.out)⟩
        rw [hmn]
        show (P.outs k ++ ((P.lane k).out (kOf P.big)).1).length = _
        rw [List.length_append, HOL.out, ← HKK.out, HL6.out]
    · by_cases hkn2 : k = n
      · have hmin : min k n = k := by omega
        rw [hmin] at HCR HOL
        have HKN := Lib.hid hkn2
        have hkn : Hid (k ≤ n) := Nat.le_of_eq hkn2
        have d1 : decide ((k : Int) < (n : Int) + 1) = true := by simp; omega
        have d2 : decide ((k : Int) < (n : Int)) = false := by simp; omega
        have d3 : (k < n) = False := by simp only [eq_iff_iff, iff_false]; omega
        have hk9 : k ≤ 8 := by omega
        clear hlt hkn2 hmin hk
        have HBR := Lib.hid (b0 wr); have HW := HBW
        have HSW := Lib.hid (HST.out.below HW.out HSL.out)
        go_wp2_with (first
          | (refine wpList_load_row rfl 43 _ rfl gS rfl 43 (setC n blk most kk P.digest a b c) (0, 0) _ HSW.out hsu.out rfl (setC_size _ _ _ _ _ _ _ _) ?_)
          | (go_at_call 13; refine (HPA2.out k hkn.out _).mono ?_; rintro e3 u ⟨rfl, hb3⟩; replace HBR := Lib.hid (bcall HBR.out hb3); replace HW := Lib.hid (HBW.out.trans (HBR.out.mono (bsz HH.out HBW.out))); (try replace HE := Lib.hid (HE.out.below hb3 (Nat.le_refl _))); (try replace HC := Lib.hid (HC.out.below hb3 HC.out.lt)); (try replace HKY := Lib.hid (HKY.out.below hb3 (Nat.le_refl _))); clear hb3))
        refine (HEN2.out k hkn.out u ((HRB.out.below HW.out).more (bsz HH.out HW.out)) ((HRC.out.below HW.out).more (bsz HH.out HW.out))).mono ?_
        rintro e4 u ⟨A4, c4, rfl, ho4, hb4⟩
        have HE := Lib.hid (ho4.mono (show wr.heap.size ≤ _ from HBR.out.size))
        replace HBR := Lib.hid (bcall HBR.out hb4); replace HW := Lib.hid (HBW.out.trans (HBR.out.mono (bsz HH.out HBW.out)))
        clear ho4 hb4 HSW
        have z0 : u.cell? ⟨gS, 0, none⟩ = some (.int .i64 n) := (HST.out.below HW.out HSL.out).cell 0
        have hgl := (HST.out.below HW.out HSL.out).lt
        go_upto_region 13 with fail
        obtain ⟨lst, hls⟩ : ∃ x : Bool, x = decide ((n : Int) - 1 ≤ (k : Int)) := ⟨_, rfl⟩
        have HLS := Lib.hid hls
        rw [← hls]
        clear hls z0 hgl
        have HC := Lib.hid (Blk.new u 37 (callV kk ⟨A4, most, c4⟩ Sl.nil ⟨Ao, olen, co⟩ lst P.digest))
        have hba := bal (b0 u) (.cells (callV kk ⟨A4, most, c4⟩ Sl.nil ⟨Ao, olen, co⟩ lst P.digest) 37)
        replace HE := Lib.hid (HE.out.below hba (Nat.le_refl _))
        obtain ⟨gc, hgc⟩ : ∃ g, g = u.heap.size := ⟨_, rfl⟩
        have HGC := Lib.hid (show wr.heap.size ≤ gc by rw [hgc]; exact HBR.out.size)
        replace HBR := Lib.hid (bcall HBR.out hba); replace HW := Lib.hid (HBW.out.trans (HBR.out.mono (bsz HH.out HBW.out)))
        rw [show #[Value.int .i64 kk, .slice A4 most c4, .slice none 0 0, .bool lst, .int .i64 P.digest, .slice Ao olen co] = callV kk ⟨A4, most, c4⟩ Sl.nil ⟨Ao, olen, co⟩ lst P.digest from rfl]
        rw [← hgc] at HC ⊢
        clear hba hgc
        generalize u.alloc (.cells (callV kk ⟨A4, most, c4⟩ Sl.nil ⟨Ao, olen, co⟩ lst P.digest) 37) = u at *
        have z0 : u.cell? ⟨gS, 0, none⟩ = some (.int .i64 n) := (HST.out.below HW.out HSL.out).cell 0
        have hgl := (HST.out.below HW.out HSL.out).lt
        clear z0
        have z0 : u.cell? ⟨gS, 0, none⟩ = some (.int .i64 n) := (HST.out.below HW.out HSL.out).cell 0
        obtain ⟨y, hyy⟩ : ∃ y : CC, y = ⟨kk, ⟨A4, most, c4⟩, Sl.nil, ⟨Ao, olen, co⟩, lst, P.digest⟩ := ⟨_, rfl⟩
        have hycs : y.cs = (#[Value.int .i64 kk, .slice A4 most c4, .slice none 0 0, .bool lst, .int .i64 P.digest, .slice Ao olen co]) := by rw [hyy]; rfl
        have HCR6 := Lib.hid (HCR.out.below HBR.out)
        have hkl : k = lnOf P.big := by rw [HKN.out, HN.out]
        have hy : CIn u kk y P.root := by
          rw [hyy]
          refine ⟨rfl, ?_, rfl, ?_, ⟨?_, ?_⟩, ?_, rfl, RS.nil _, ?_, ⟨?_, ?_⟩, ?_⟩
          · show lst = true
            rw [HLS.out]
            exact decide_eq_true (by have := HKN.out; omega)
          · exact HBL.out _
          · show most ≤ c4
            rw [← HBL.out k]; exact HE.out.len_le.1
          · show c4 ≤ _
            have h := HE.out.len_le.2; unfold maxLen at h; exact h
          · show RS cB u u.heap.size A4 (P.blk (lnOf P.big))
            rw [← hkl]; exact HE.out.reads
          · show (P.outs (lnOf P.big)).length = olen
            rw [← hkl]; exact HOL.out
          · show olen ≤ co
            rw [← HOL.out]; exact HCR6.out.out.len_le.1
          · show co ≤ _
            have h := HCR6.out.out.len_le.2; unfold maxLen at h; exact h
          · show RS cB u u.heap.size Ao (P.outs (lnOf P.big))
            rw [← hkl]; exact HCR6.out.out.reads
        have hap : y.apart (Al.map (·.block)) := by
          rw [hyy]
          refine ⟨apart_fresh (fun a ha => (HE.out.block_lt a ha).1) (fun g hg => (crow_ge HCR.out.row g hg).2), fun h => absurd h (Nat.lt_irrefl 0), fun _ a ha e => ?_⟩
          cases hAl : Al with
          | none => rw [hAl] at e; cases e
          | some b => rw [hAl] at e; exact HCR6.out.row.ne_os HCR6.out.out b a hAl ha (Option.some.inj e)
        have HYY := Lib.hid hycs; have HY := Lib.hid hy; have HAPL := Lib.hid hap; have HKL := Lib.hid hkl
        have HK8 : Hid (k ≤ 1000) := by (show k ≤ 1000; have := HKN.out; omega)
        have HC2 : Hid (Blk u gc 37 (#[Value.int .i64 kk, .slice A4 most c4, .slice none 0 0, .bool lst, .int .i64 P.digest, .slice Ao olen co])) := HC.out
        clear hyy hycs hy hap HC HE hkl
        go_wp2_with (first
          | (refine wpList_load_row rfl 37 _ rfl gc rfl 37 (#[Value.int .i64 kk, .slice A4 most c4, .slice none 0 0, .bool lst, .int .i64 P.digest, .slice Ao olen co]) (0, 0) _ HC2.out hcu.out rfl (by rw [← HYY.out]; exact callC_size y) ?_)
          | (at_builtin; refine wpList_appC _ rfl (.tmp 98) (.tmp 100) rfl (HCR6.out.row.alloc _) rfl HCR6.out.len (y := y) (by rw [HYY.out]; exact Blk.new _ _ _) rfl HK8.out (size_new (bsz HH.out HW.out)) ?_; intro A8 c8 u8 ho8 hg8 hA8))
        have HCR8 := Lib.hid ((HCR6.out.below (bal (b0 u) _)).snoc (by rw [← HN.out]; exact hkn.out) ((show CIn u (kOf P.big) y (P.call k) from by rw [HKL.out, P.call_root, ← HKK.out]; exact HY.out).below (bal (b0 u) _)) HAPL.out (fun h => absurd HKL.out (Nat.ne_of_lt h)) ho8 hg8 hA8)
        have HW8 := Lib.hid (below_appC (HW.out.alloc (bsz HH.out HW.out) _) (HCR6.out.row.alloc _) hg8 (Nat.le_refl _) (size_new (bsz HH.out HW.out)))
        all_goals
          have hmn : min (k + 1) n = k := by rw [HKN.out]; exact Nat.min_eq_right (Nat.le_succ _)
          exact ⟨⟨k + 1, olen, A8, c8, L ++ [y], Ao, co, Nat.succ_le_succ hkn.out, num8 k, rfl, rfl, by rw [hmn]; exact HOL.out, by rw [hmn]; exact HCR8.out, HW8.out⟩, meas8 n k (Nat.lt_succ_of_le hkn.out)⟩
      · obtain rfl : k = n + 1 := by omega
        have d1 : decide (((n + 1 : Nat) : Int) < (n : Int) + 1) = false := by simp
        go_wp2_with fail
        exact bodyPost_ret (results_tmp2 rfl _ _ _) rfl ⟨Al, cl, L, rfl, HCR.out.row.mono (by rw [HH.out]; exact HB.out.size), HCR.out.len, fun i x hx => by rw [HKK.out]; exact HCR.out.inn i x hx, HB.out.trans (HBW.out.mono (by rw [HH.out]; exact HB.out.size))⟩
end Go.Proofs.Ytghpofnaojbbkaa

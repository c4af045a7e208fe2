/-
  The law of ArgonFolds: the tag is made of the last column. Contracts alone; no statement is claimed here.
-/
import Derived.Test.YtbghkdhkahkfnaaAFilH
import Derived.Test.YtbghkdhkahkfnaaAFilQ
import Derived.Test.YtbghkdhkahkfnaaLw
import Derived.Test.YtbghkdhkahkfnaaOp
import Derived.Test.YtbghkdhkahkfnaaAr
namespace Go.Proofs.Ytbghkdhkahkfnaa
open Go.RowKit
attribute [local go_sem] pureUpon Ords.of

theorem zip_zero (n : Nat) : ∀ x : List UInt8, x.length = n → List.zipWith (· ^^^ ·) (List.replicate n (0 : UInt8)) x = x := by
 induction n with
 | zero => intro x h; rw [List.length_eq_zero_iff.1 h]; rfl
 | succ n ih =>
  intro x h
  match x, h with
  | b :: x, h =>
   rw [List.replicate_succ, List.zipWith_cons_cons, ih x (by simpa using h)]
   congr 1
   show 0 ^^^ b = b
   exact UInt8.zero_xor
theorem xorB_zero (x : List UInt8) (h : x.length = 1024) : xorB zeroB x = x := zip_zero 1024 x h
theorem turn_ne (d y : UInt8) (hy : y ≠ 0) : d ^^^ y ≠ d := by
 intro e
 have h1 : d ^^^ (d ^^^ y) = d ^^^ d := by rw [e]
 rw [← UInt8.xor_assoc, UInt8.xor_self, UInt8.zero_xor] at h1
 exact hy h1
theorem set_ne {l : List UInt8} {k : Nat} {x y : UInt8} (hk : l[k]? = some x) (hy : y ≠ x) : l ≠ l.set k y := by
 intro e
 have h1 : (l.set k y)[k]? = some y := by rw [List.getElem?_set_self (List.getElem?_eq_some_iff.1 hk).1]
 rw [← e, hk] at h1
 exact hy (Option.some.inj h1).symm
theorem shl_lit (r : Nat) (h : r < 8) : r = 0 ∨ r = 1 ∨ r = 2 ∨ r = 3 ∨ r = 4 ∨ r = 5 ∨ r = 6 ∨ r = 7 := by omega
structure FoldN (a : Ar) (ST TT : List UInt8) (ln cl ac N tn : Nat) (T TX : Nat → List UInt8) : Prop where
  ln_ : a.lanes = (ln : Int)
  cl_ : 4 * a.seg = (cl : Int)
  N_ : fllN a 64 = N
  E_ : fllE a 64 = 0
  T_ : rowM a (fullM a ST) = T
  tn_ : a.tag = (tn : Int)
  TL : ∀ i, (T i).length = 1024
  XL : ∀ i, (TX i).length = 1024
  X1 : TX 1 = T ac
  XS : ∀ i, TX (i + 1) = xorB (TX i) (T (i * cl + ac))
  TT_ : longL tn (TX ln) = TT
  TTl : TT.length = tn
  l1 : 1 ≤ ln
  l8 : ln ≤ 8
  c8 : 8 ≤ cl
  c4 : cl ≤ 4096
  ac_ : ac + 1 = cl
  NN_ : N = ln * cl
  N4 : N ≤ 4096
  t1 : 1 ≤ tn
  t4 : tn ≤ 1024
theorem fold_facts {a : Ar} (h : a.ok) {ST TT : List UInt8} (hto : TT = longL a.tag.toNat (tagX a (fullM a ST) a.ln)) : ∃ ln cl ac N tn T TX, FoldN a ST TT ln cl ac N tn T TX := by
 have hN := Ar.n h
 have hc : 8 ≤ a.cl ∧ a.cl ≤ 4096 := by have := hN.s2; have := hN.s3; unfold Ar.cl; omega
 have hF : ∀ l c, (fullM a ST l c).length = 1024 := allM_len a _ (startM_len ST) a.passes.toNat
 have hac : a.cl - 1 < a.cl := by omega
 have hr : ∀ i, rowM a (fullM a ST) (i * a.cl + (a.cl - 1)) = fullM a ST i (a.cl - 1) := fun i => rowM_at a _ hac
 have ht : a.tag = (a.tag.toNat : Int) ∧ 1 ≤ a.tag.toNat ∧ a.tag.toNat ≤ 1024 := by unfold Ar.ok at h; omega
 refine ⟨a.ln, a.cl, a.cl - 1, a.ln * a.cl, a.tag.toNat, _, tagX a (fullM a ST), hN.ln, by rw [hN.sg]; unfold Ar.cl; push_cast; rfl, by unfold fllN; rw [if_pos h, if_pos rfl], by unfold fllE; rw [if_pos h, if_pos rfl], rfl, ht.1, rowM_len a ST, tagX_len a _ hF, ?_, fun i => ?_, hto.symm, by rw [hto]; exact longL_len _ _, hN.l1, hN.l8, hc.1, hc.2, by omega, rfl, hN.lc, ht.2.1, ht.2.2⟩
 ·have h0 := hr 0
  rw [Nat.zero_mul, Nat.zero_add] at h0
  show xorB (tagX a (fullM a ST) 0) (fullM a ST 0 (a.cl - 1)) = _
  rw [h0]
  exact xorB_zero _ (hF _ _)
 ·rw [hr]
  rfl
set_option maxRecDepth 20000 in
set_option maxHeartbeats 16000000 in
theorem folds_law (a : Ar) (p s x e tg : Sl) (lp ls lx le_ : List UInt8) (bit : Int) (w : World) (hp : SlIn w p lp) (hs : SlIn w s ls) (hx : SlIn w x lx) (he : SlIn w e le_) (hbit : bit ≤ 9223372036854775807) :
  Calls Try.prog 3 #[.agg (askC a p s x e tg), .int .i64 bit] w fun r w' => r = .returned (.bool true) ∧ Below w.heap.size w w' := by
 have hha := fun (W : World) (hb : Below w.heap.size w W) => hashP_any a p.A s.A x.A e.A p.n p.c s.n s.c x.n x.c e.n e.c lp ls lx le_ W hp.len hs.len hx.len he.len ((hp.below hb).reads) ((hs.below hb).reads) ((hx.below hb).reads) ((he.below hb).reads)
 have hst := fun (W : World) (hb : Below w.heap.size w W) => aStartS_any a p.A s.A x.A e.A p.n p.c s.n s.c x.n x.c e.n e.c lp ls lx le_ W hp.len hs.len hx.len he.len ((hp.below hb).reads) ((hs.below hb).reads) ((hx.below hb).reads) ((he.below hb).reads)
 have hve := fun (At : Option Addr) (nt ct : Nat) (tag : List UInt8) (W : World) (hb : Below w.heap.size w W) (hl : tag.length = nt) (hr : RS cB W W.heap.size At tag) => verifyP_any a At p.A s.A x.A e.A nt ct p.n p.c s.n s.c x.n x.c e.n e.c tag lp ls lx le_ W hl hp.len hs.len hx.len he.len hr ((hp.below hb).reads) ((hs.below hb).reads) ((hx.below hb).reads) ((he.below hb).reads)
 have hvo : ∀ tag, verO a tag lp ls lx le_ = if startE a lp.length ls.length lx.length le_.length ≠ 0 then (false, startE a lp.length ls.length lx.length le_.length) else if (tag.length : Int) ≠ a.tag then (false, 60) else (decide (tagO a lp ls lx le_ = tag), 0) := fun _ => rfl
 have hto : tagO a lp ls lx le_ = if startE a lp.length ls.length lx.length le_.length = 0 then longL a.tag.toNat (tagX a (fullM a (startO a lp ls lx le_)) a.ln) else [] := rfl
 obtain ⟨q, hq, hq2⟩ := startE_i64 a lp.length ls.length lx.length le_.length
 have hok : q = 0 → a.ok := fun e => startE_ok (by rw [hq, e]; rfl)
 have hs64 : q = 0 → (startO a lp ls lx le_).length = 64 := by
  intro e
  unfold startO
  rw [if_pos (by rw [hq, e]; rfl), plainL_len _ _ (Nat.le_refl _)]
 rw [hq] at hha hst hto
 simp only [hq] at hvo
 have HHA := Lib.hid hha; have HST := Lib.hid hst; have HVE := Lib.hid hve; have HVO := Lib.hid hvo; have HTO := Lib.hid hto; have HOK := Lib.hid hok; have HS64 := Lib.hid hs64
 clear hha hst hve hvo hto hok hs64 hq hp hs hx he
 generalize tagO a lp ls lx le_ = TT at *
 generalize startO a lp ls lx le_ = ST at *
 have hal := fun W => alive20_any W
 have HAL := Lib.hid hal
 clear hal
 have hva : ∀ kk m pp ll t, (⟨kk, m, pp, ll, t⟩ : Ar).v = .agg #[.int .i64 kk, .int .i64 m, .int .i64 pp, .int .i64 ll, .int .i64 t] := fun _ _ _ _ _ => rfl
 obtain ⟨kk, m, pp, ll, t⟩ := a
 rw [hva] at HHA HST HVE
 have hua := Lib.hid Try.underlying23
 go_enter Try.func3, Try.ntmps3
 go_upto_region 1 with fail
 have HBK := Lib.hid (Blk.new w 26 (askC ⟨kk, m, pp, ll, t⟩ p s x e tg))
 have HB := Lib.hid (bal (b0 w) (.cells (askC ⟨kk, m, pp, ll, t⟩ p s x e tg) 26))
 obtain ⟨g, hg⟩ : ∃ g, g = w.heap.size := ⟨_, rfl⟩
 rw [← hg] at HBK ⊢
 clear hg
 generalize w.alloc (.cells (askC ⟨kk, m, pp, ll, t⟩ p s x e tg) 26) = u at *
 go_upto_region 3 with (go_at_call 4; refine (HAL.out u).mono ?_; rintro e1 u1 ⟨rfl, hb1⟩)
 replace HB := Lib.hid (bcall HB.out hb1); replace HBK := Lib.hid (HBK.out.below hb1 HBK.out.lt); (try replace OX := Lib.hid (OX.out.below hb1 (Nat.le_refl _))); (try replace OST := Lib.hid (OST.out.below hb1 (Nat.le_refl _))); (try replace OL := Lib.hid (OL.out.below hb1)); (try replace OB := Lib.hid (OB.out.below hb1 (Nat.le_refl _))); (try replace OY := Lib.hid (OY.out.below hb1 (Nat.le_refl _))); (try replace OZ := Lib.hid (OZ.out.below hb1 (Nat.le_refl _)))
 clear hb1 HAL
 clear u
 obtain ⟨u, hu⟩ : ∃ y, y = u1 := ⟨_, rfl⟩; (rw [← hu]); (rw [← hu] at HB HBK); (try rw [← hu] at OX); (try rw [← hu] at OST); (try rw [← hu] at OL); (try rw [← hu] at OB); (try rw [← hu] at OY); (try rw [← hu] at OZ); clear hu
 have ZR := Lib.hid (show u.rangeAt g 0 [Value.int .i64 kk, .int .i64 m, .int .i64 pp, .int .i64 ll, .int .i64 t] from HBK.out.range 0 5)
 have q5 : u.cell? ⟨g, 5, none⟩ = some (.slice p.A p.n p.c) := HBK.out.cell 5; have q6 : u.cell? ⟨g, 6, none⟩ = some (.slice s.A s.n s.c) := HBK.out.cell 6; have q7 : u.cell? ⟨g, 7, none⟩ = some (.slice x.A x.n x.c) := HBK.out.cell 7; have q8 : u.cell? ⟨g, 8, none⟩ = some (.slice e.A e.n e.c) := HBK.out.cell 8
 go_upto_region 4 with first
  | (refine wpList_load_mid rfl 23 (.tmp 19) rfl g 0 rfl _ _ ZR.out hua.out rfl (by kernel_rfl) ?_)
  | (go_at_call 5; refine (HHA.out u HB.out).mono ?_; rintro e3 u3 ⟨A3, n3, c3, x3, rfl, hl3, ho3, hb3⟩)
 have OX := Lib.hid (ho3.mono HB.out.size); have HL3 := Lib.hid hl3
 replace HB := Lib.hid (bcall HB.out hb3); replace HBK := Lib.hid (HBK.out.below hb3 HBK.out.lt)
 clear hb3 ho3 hl3 HHA q5 q6 q7 q8 ZR
 clear u
 obtain ⟨u, hu⟩ : ∃ y, y = u3 := ⟨_, rfl⟩; (rw [← hu]); (rw [← hu] at HB HBK); (try rw [← hu] at OX); (try rw [← hu] at OST); (try rw [← hu] at OL); (try rw [← hu] at OB); (try rw [← hu] at OY); (try rw [← hu] at OZ); clear hu
 have ZR := Lib.hid (show u.rangeAt g 0 [Value.int .i64 kk, .int .i64 m, .int .i64 pp, .int .i64 ll, .int .i64 t] from HBK.out.range 0 5)
 have q5 : u.cell? ⟨g, 5, none⟩ = some (.slice p.A p.n p.c) := HBK.out.cell 5; have q6 : u.cell? ⟨g, 6, none⟩ = some (.slice s.A s.n s.c) := HBK.out.cell 6; have q7 : u.cell? ⟨g, 7, none⟩ = some (.slice x.A x.n x.c) := HBK.out.cell 7; have q8 : u.cell? ⟨g, 8, none⟩ = some (.slice e.A e.n e.c) := HBK.out.cell 8
 go_upto_region 5 with first
  | (refine wpList_load_mid rfl 23 (.tmp 33) rfl g 0 rfl _ _ ZR.out hua.out rfl (by kernel_rfl) ?_)
  | (go_at_call 6; refine (HST.out u HB.out).mono ?_; rintro e4 u4 ⟨A4, n4, c4, x4, rfl, hl4, ho4, hb4⟩)
 have OST := Lib.hid (ho4.mono HB.out.size); have HL4 := Lib.hid hl4
 replace HB := Lib.hid (bcall HB.out hb4); replace HBK := Lib.hid (HBK.out.below hb4 HBK.out.lt); replace OX := Lib.hid (OX.out.below hb4 (Nat.le_refl _))
 clear hb4 ho4 hl4 HST q5 q6 q7 q8 ZR
 clear u
 obtain ⟨u, hu⟩ : ∃ y, y = u4 := ⟨_, rfl⟩; (rw [← hu]); (rw [← hu] at HB HBK); (try rw [← hu] at OX); (try rw [← hu] at OST); (try rw [← hu] at OL); (try rw [← hu] at OB); (try rw [← hu] at OY); (try rw [← hu] at OZ); clear hu
 by_cases hq0 : q = 0
 ·have hok := HOK.out hq0
  have hto := HTO.out
  rw [if_pos (show (q : Int) = 0 by omega)] at hto
  have h64 := HS64.out hq0
  have hn4 : n4 = 64 := by have := HL4.out; omega
  subst hn4
  obtain ⟨ln, cl, ac, N, tn, T, TX, FN⟩ := fold_facts hok hto
  have hfi := fillPS_any ⟨kk, m, pp, ll, t⟩ A4 64 x4 ST u h64 OST.out.reads
  rw [hva, FN.N_, FN.T_, FN.E_] at hfi
  have hco : ∀ W, Calls Try.prog 8 #[.agg #[.int .i64 kk, .int .i64 m, .int .i64 pp, .int .i64 ll, .int .i64 t]] W (fun e w' => e = .returned (.tuple #[.int .i64 cl, .int .i64 0]) ∧ Below W.heap.size W w') := by
   intro W
   have h1 := cols_any ⟨kk, m, pp, ll, t⟩ W
   rw [hva, if_pos hok, if_pos hok, FN.cl_] at h1
   exact h1
  have hvy : verO ⟨kk, m, pp, ll, t⟩ TT lp ls lx le_ = (true, 0) := by
   have e : t = (tn : Int) := FN.tn_
   rw [HVO.out TT, if_neg (by omega), if_neg (by show ¬ ((TT.length : Int) ≠ t); rw [FN.TTl, e]; exact fun h => h rfl), decide_eq_true rfl]
  have hvn : ∀ z : List UInt8, z.length = tn → TT ≠ z → verO ⟨kk, m, pp, ll, t⟩ z lp ls lx le_ = (false, 0) := by
   intro z hz hn
   have e : t = (tn : Int) := FN.tn_
   rw [HVO.out z, if_neg (by omega), if_neg (by show ¬ ((z.length : Int) ≠ t); rw [hz, e]; exact fun h => h rfl), decide_eq_false hn]
  have hln : ll = (ln : Int) := FN.ln_
  have htn : t = (tn : Int) := FN.tn_
  have hn3 : tn = n3 := by have := HL3.out; have := FN.TTl; omega
  subst hn3
  have HFI := Lib.hid hfi; have HCO := Lib.hid hco; have HVY := Lib.hid hvy; have HVN := Lib.hid hvn; have HLN := Lib.hid hln; have HTN := Lib.hid htn; have HFN := Lib.hid FN
  clear hfi hco hvy hvn hln htn hto h64 HS64 HOK HTO HVO
  subst hq0
  have q5 : u.cell? ⟨g, 5, none⟩ = some (.slice p.A p.n p.c) := HBK.out.cell 5; have q6 : u.cell? ⟨g, 6, none⟩ = some (.slice s.A s.n s.c) := HBK.out.cell 6; have q7 : u.cell? ⟨g, 7, none⟩ = some (.slice x.A x.n x.c) := HBK.out.cell 7; have q8 : u.cell? ⟨g, 8, none⟩ = some (.slice e.A e.n e.c) := HBK.out.cell 8
  have ZR := Lib.hid (show u.rangeAt g 0 [Value.int .i64 kk, .int .i64 m, .int .i64 pp, .int .i64 ll, .int .i64 t] from HBK.out.range 0 5)
  go_upto_region 8 with first
   | (refine wpList_load_mid rfl 23 (.tmp 56) rfl g 0 rfl _ _ ZR.out hua.out rfl (by kernel_rfl) ?_)
   | (go_at_call 7; refine HFI.out.mono ?_; rintro e5 u5 ⟨AL, cpL, l, rfl, ho5, hb5⟩)
  have OL := Lib.hid (ho5.mono HB.out.size)
  replace HB := Lib.hid (bcall HB.out hb5); replace HBK := Lib.hid (HBK.out.below hb5 HBK.out.lt); replace OX := Lib.hid (OX.out.below hb5 (Nat.le_refl _))
  clear hb5 ho5 HFI q5 q6 q7 q8 ZR OST HL4
  clear u
  obtain ⟨u, hu⟩ : ∃ y, y = u5 := ⟨_, rfl⟩; (rw [← hu]); (rw [← hu] at HB HBK); (try rw [← hu] at OX); (try rw [← hu] at OST); (try rw [← hu] at OL); (try rw [← hu] at OB); (try rw [← hu] at OY); (try rw [← hu] at OZ); clear hu
  have ZR := Lib.hid (show u.rangeAt g 0 [Value.int .i64 kk, .int .i64 m, .int .i64 pp, .int .i64 ll, .int .i64 t] from HBK.out.range 0 5)
  go_upto_region 9 with first
   | (refine wpList_load_mid rfl 23 (.tmp 63) rfl g 0 rfl _ _ ZR.out hua.out rfl (by kernel_rfl) ?_)
   | (go_at_call 8; refine (HCO.out u).mono ?_; rintro e6 u6 ⟨rfl, hb6⟩)
  replace HB := Lib.hid (bcall HB.out hb6); replace HBK := Lib.hid (HBK.out.below hb6 HBK.out.lt); (try replace OX := Lib.hid (OX.out.below hb6 (Nat.le_refl _))); (try replace OST := Lib.hid (OST.out.below hb6 (Nat.le_refl _))); (try replace OL := Lib.hid (OL.out.below hb6)); (try replace OB := Lib.hid (OB.out.below hb6 (Nat.le_refl _))); (try replace OY := Lib.hid (OY.out.below hb6 (Nat.le_refl _))); (try replace OZ := Lib.hid (OZ.out.below hb6 (Nat.le_refl _)))
  clear hb6 HCO ZR
  clear u
  obtain ⟨u, hu⟩ : ∃ y, y = u6 := ⟨_, rfl⟩; (rw [← hu]); (rw [← hu] at HB HBK); (try rw [← hu] at OX); (try rw [← hu] at OST); (try rw [← hu] at OL); (try rw [← hu] at OB); (try rw [← hu] at OY); (try rw [← hu] at OZ); clear hu
  have q3 : u.cell? ⟨g, 3, none⟩ = some (.int .i64 ln) := by rw [← HLN.out]; exact HBK.out.cell 3
  have hm1 : (cl : Int) * (ln : Int) = (N : Int) := by rw [FN.NN_]; push_cast; exact Int.mul_comm _ _
  have hN4 := FN.N4
  have hc4 := FN.c4
  have d8 : decide ((cl : Int) < 8) = false := by have := FN.c8; simp; omega
  have hn2 : ((N : Int) != (N : Int)) = false := by simp
  go_upto_region 11 with fail
  clear q3 hm1 d8 hn2
  have hacN : ac < N := by have h1 := FN.NN_; have h2 := FN.l1; have h3 := FN.ac_; have h4 : 1 * cl ≤ ln * cl := Nat.mul_le_mul_right _ h2; omega
  obtain ⟨g1, B1, k1, rfl, lg1, z1, r1⟩ := OL.out.at_ hacN
  rw [FN.TL] at z1
  have hca : (cl : Int) - 1 = (ac : Int) := by have := FN.ac_; omega
  have hcn : (ac : Int) < (N : Int) := by omega
  have hcp := copied20_any B1 k1 1024 (T ac) u (FN.TL ac) (by decide) r1
  have HCP := Lib.hid hcp
  clear r1 hcp
  go_upto_region 12 with (go_at_call 9; refine HCP.out.mono ?_; rintro e7 u7 ⟨A7, c7, rfl, ho7, hb7⟩)
  have OB : Hid (OS cB u7 w.heap.size A7 c7 (TX 1)) := Lib.hid (by rw [FN.X1]; exact ho7.mono HB.out.size)
  clear z1 lg1
  replace HB := Lib.hid (bcall HB.out hb7); replace HBK := Lib.hid (HBK.out.below hb7 HBK.out.lt); replace OX := Lib.hid (OX.out.below hb7 (Nat.le_refl _)); replace OL := Lib.hid (OL.out.below hb7)
  clear hb7 ho7 HCP
  clear u
  go_wp2_with fail
  obtain ⟨wo, hwo⟩ : ∃ y, y = u7 := ⟨_, rfl⟩
  have HB0 : Hid (Below wo.heap.size wo u7) := Lib.hid (by rw [hwo]; exact b0 _)
  rw [← hwo] at HB HBK OX OL
  clear hwo
  go_loopw [12, 11, 6] (fun ix v11 v6 wr => ∃ (i : Nat) (A : Option Addr) (k : Nat), 1 ≤ i ∧ i ≤ ln ∧ ix = .int .i64 i ∧ v11 = .slice A 1024 k ∧ v6 = .int .i64 0 ∧ OS cB wr w.heap.size A k (TX i) ∧ Below wo.heap.size wo wr) (fun ix _ _ _ => ln - (intOf ix).toNat)
  case atStart => exact ⟨1, A7, c7, Nat.le_refl _, FN.l1, rfl, rfl, rfl, OB.out, HB0.out⟩
  case round =>
   clear OB HB0
   clear u7
   obtain ⟨i, A, k, hi1, hi, rfl, rfl, rfl, ho, hb⟩ := hrel
   have OB := Lib.hid ho; have HBW := Lib.hid hb
   clear ho hb
   have q3 : wr.cell? ⟨g, 3, none⟩ = some (.int .i64 ln) := by rw [← HLN.out]; exact (HBK.out.below HBW.out HBK.out.lt).cell 3
   have hl8 := FN.l8
   by_cases hlt : i < ln
   ·have d1 : decide ((i : Int) < (ln : Int)) = true := by simp; omega
    have HLT := Lib.hid hlt
    obtain ⟨mi, hmi⟩ : ∃ y, y = i * cl := ⟨_, rfl⟩
    have hq1 : (i : Int) * (cl : Int) = (mi : Int) := by rw [hmi]; push_cast; rfl
    obtain ⟨zz, hzz⟩ : ∃ y, y = mi + cl := ⟨_, rfl⟩
    have hq2 : (mi : Int) + (cl : Int) = (zz : Int) := by rw [hzz]; push_cast; rfl
    obtain ⟨qq, hqq⟩ : ∃ y, y = mi + ac := ⟨_, rfl⟩
    have hq3 : (zz : Int) - 1 = (qq : Int) := by have := FN.ac_; omega
    have hqN : qq < N := by
     have h1 := FN.NN_; have h2 := FN.ac_
     have h3 : (i + 1) * cl ≤ ln * cl := Nat.mul_le_mul_right _ hlt
     rw [Nat.succ_mul] at h3
     omega
    have hqi : (qq : Int) < (N : Int) := by omega
    have hz8 : zz ≤ 8192 := by omega
    have hm8 : mi ≤ 4096 := by omega
    obtain ⟨g2, B2, k2, e2, lg2, z2, r2⟩ := (OL.out.below HBW.out).at_ hqN
    injection e2 with e2; injection e2 with e2
    subst e2
    rw [FN.TL] at z2
    have hxo := xorP_yes A B2 k k2 (TX i) (T qq) wr (FN.XL i) (FN.TL qq) OB.out.reads r2
    rw [show xorB (TX i) (T qq) = TX (i + 1) by rw [FN.XS, hqq, hmi]] at hxo
    have HXO := Lib.hid hxo
    have HSW := Lib.hid (Nat.le_trans HB.out.size HBW.out.size)
    clear hxo r2 hqq hmi hzz hlt hi hi1
    have t6 : ((0 : Int) != 0) = false := rfl
    go_wp2_with (go_at_call 10; refine HXO.out.mono ?_; rintro e8 u8 ⟨A8, c8, rfl, ho8, hb8⟩)
    exact ⟨⟨i + 1, A8, c8, by omega, HLT.out, numF i, rfl, rfl, ho8.mono HSW.out, bcall HBW.out hb8⟩, measF ln i HLT.out⟩
   ·obtain rfl : i = ln := by omega
    have d1 : decide ((i : Int) < (i : Int)) = false := by simp
    have hb := HBW.out
    replace HB := Lib.hid (bcall HB.out hb); replace HBK := Lib.hid (HBK.out.below hb HBK.out.lt); (try replace OX := Lib.hid (OX.out.below hb (Nat.le_refl _))); (try replace OST := Lib.hid (OST.out.below hb (Nat.le_refl _))); (try replace OL := Lib.hid (OL.out.below hb)); (try replace OB := Lib.hid (OB.out.below hb (Nat.le_refl _))); (try replace OY := Lib.hid (OY.out.below hb (Nat.le_refl _))); (try replace OZ := Lib.hid (OZ.out.below hb (Nat.le_refl _)))
    clear hb HBW hlt hi hi1
    have q4 : wr.cell? ⟨g, 4, none⟩ = some (.int .i64 tn) := by rw [← HTN.out]; exact HBK.out.cell 4
    have hlo := longHash_any tn A 1024 k (TX i) wr ⟨FN.t1, by have := FN.t4; omega⟩ (FN.XL i) (by decide) OB.out.reads
    rw [FN.TT_] at hlo
    have HLO := Lib.hid hlo
    clear hlo
    go_upto_region 19 with (go_at_call 11; refine HLO.out.mono ?_; rintro e9 u9 ⟨A9, k9, c9, rfl, ho9, hb9⟩)
    have OY := Lib.hid (ho9.mono HB.out.size)
    replace HB := Lib.hid (bcall HB.out hb9); replace HBK := Lib.hid (HBK.out.below hb9 HBK.out.lt); replace OX := Lib.hid (OX.out.below hb9 (Nat.le_refl _))
    clear ho9 hb9 HLO q3 q4 OB OL
    clear wr
    obtain ⟨u, hu⟩ : ∃ y, y = u9 := ⟨_, rfl⟩; (rw [← hu]); (rw [← hu] at HB HBK); (try rw [← hu] at OX); (try rw [← hu] at OST); (try rw [← hu] at OL); (try rw [← hu] at OB); (try rw [← hu] at OY); (try rw [← hu] at OZ); clear hu
    have q5 : u.cell? ⟨g, 5, none⟩ = some (.slice p.A p.n p.c) := HBK.out.cell 5; have q6 : u.cell? ⟨g, 6, none⟩ = some (.slice s.A s.n s.c) := HBK.out.cell 6; have q7 : u.cell? ⟨g, 7, none⟩ = some (.slice x.A x.n x.c) := HBK.out.cell 7; have q8 : u.cell? ⟨g, 8, none⟩ = some (.slice e.A e.n e.c) := HBK.out.cell 8
    have ZR := Lib.hid (show u.rangeAt g 0 [Value.int .i64 kk, .int .i64 m, .int .i64 pp, .int .i64 ll, .int .i64 t] from HBK.out.range 0 5)
    have hvv := HVE.out A3 tn x3 TT u HB.out FN.TTl OX.out.reads
    rw [HVY.out] at hvv
    dsimp only at hvv
    have HVV := Lib.hid hvv
    clear hvv
    go_upto_region 20 with first
     | (refine wpList_load_mid rfl 23 (.tmp 126) rfl g 0 rfl _ _ ZR.out hua.out rfl (by kernel_rfl) ?_)
     | (go_at_call 12; refine HVV.out.mono ?_; rintro e10 u10 ⟨rfl, hb10⟩)
    replace HB := Lib.hid (bcall HB.out hb10); replace HBK := Lib.hid (HBK.out.below hb10 HBK.out.lt); (try replace OX := Lib.hid (OX.out.below hb10 (Nat.le_refl _))); (try replace OST := Lib.hid (OST.out.below hb10 (Nat.le_refl _))); (try replace OL := Lib.hid (OL.out.below hb10)); (try replace OB := Lib.hid (OB.out.below hb10 (Nat.le_refl _))); (try replace OY := Lib.hid (OY.out.below hb10 (Nat.le_refl _))); (try replace OZ := Lib.hid (OZ.out.below hb10 (Nat.le_refl _)))
    clear hb10 HVV q5 q6 q7 q8 ZR
    clear u
    obtain ⟨u, hu⟩ : ∃ y, y = u10 := ⟨_, rfl⟩; (rw [← hu]); (rw [← hu] at HB HBK); (try rw [← hu] at OX); (try rw [← hu] at OST); (try rw [← hu] at OL); (try rw [← hu] at OB); (try rw [← hu] at OY); (try rw [← hu] at OZ); clear hu
    have q4 : u.cell? ⟨g, 4, none⟩ = some (.int .i64 tn) := by rw [← HTN.out]; exact HBK.out.cell 4
    have htt : ((tn : Int) != (tn : Int)) = false := by simp
    have hsm := same20_any A3 A9 x3 c9 TT TT u.heap.size u.heap.size tn tn u FN.TTl FN.TTl (by have := FN.t4; omega) OX.out.reads OY.out.reads
    rw [decide_eq_true (Eq.refl TT)] at hsm
    have HSM := Lib.hid hsm
    clear hsm
    go_upto_region 22 with (go_at_call 13; refine HSM.out.mono ?_; rintro e11 u11 ⟨rfl, m11, rfl⟩)
    replace HB := Lib.hid (bdr HB.out m11); replace HBK := Lib.hid (HBK.out.drewN m11); replace OX := Lib.hid (OX.out.drewN m11)
    clear q4 htt HSM OY
    generalize u.drewN m11 = u11 at *
    by_cases hbn : bit < 0
    ·have d1 : decide (bit < 0) = true := by simpa using hbn
     clear hbn
     go_wp2_with fail
     exact bodyPost_ret (results_tmp rfl _ _ _) rfl ⟨rfl, HB.out⟩
    ·obtain ⟨b, hb⟩ := Int.eq_ofNat_of_zero_le (show 0 ≤ bit by omega)
     subst hb
     obtain ⟨k, hk⟩ : ∃ k, k = b / 8 := ⟨_, rfl⟩
     obtain ⟨r, hr⟩ : ∃ r, r = b % 8 := ⟨_, rfl⟩
     have hk1 : (b : Int) / 8 = (k : Int) := by omega
     have hk2 : (b : Int).tdiv 8 = (k : Int) := by rw [Int.tdiv_eq_ediv_of_nonneg (by omega)]; exact hk1
     have hr1 : (b : Int) % 8 = (r : Int) := by omega
     have hr2 : (b : Int).tmod 8 = (r : Int) := by rw [Int.tmod_eq_emod_of_nonneg (by omega)]; exact hr1
     have d1 : decide ((b : Int) < 0) = false := by simp
     have hr8 : r < 8 := by omega
     have hkw : IntKind.i64.wrap (k : Int) = (k : Int) := by rw [IntKind.wrap_i64]; omega
     have HK := Lib.hid hk; have HR8 := Lib.hid hr8
     clear hk hr hr8 hbn
     by_cases hkt : k < tn
     ·have d2 : decide ((tn : Int) ≤ (k : Int)) = false := by simp; omega
      have d3 : decide ((k : Int) ≥ (tn : Int)) = false := d2
      have hcp := copied20_any A3 x3 tn TT u11 FN.TTl (by have := FN.t4; omega) OX.out.reads
      have HCP := Lib.hid hcp
      have HKT := Lib.hid hkt
      have hki : (k : Int) < (tn : Int) := by omega
      clear hcp hkt
      go_upto_region 25 with (go_at_call 9; refine HCP.out.mono ?_; rintro e12 u12 ⟨A12, c12, rfl, ho12, hb12⟩)
      have OZ := Lib.hid (ho12.mono HB.out.size)
      replace HB := Lib.hid (bcall HB.out hb12); replace HBK := Lib.hid (HBK.out.below hb12 HBK.out.lt)
      have HGZ := Lib.hid (HBK.out.lt)
      obtain ⟨gz, d, rfl, hge, lz, e2, z2, f2⟩ := OZ.out.at_ (k := k) (by rw [FN.TTl]; exact HKT.out)
      have HTD := Lib.hid e2
      change u12.cell? ⟨gz, k, none⟩ = some (.int .u8 (byt d)) at z2
      have rd := byt_range d
      have HGE := Lib.hid hge
      have hne : g ≠ gz := fun e => by
       have h1 := OZ.out.ne_blk HBK.out (by show 5 ≠ 26; decide) _ rfl
       exact h1 e.symm
      have HNE := Lib.hid hne
      clear ho12 hb12 e2 hge hne HCP OX
      clear u11
      have HZL : Hid (∀ y : UInt8, (TT.set k (d ^^^ y)).length = tn) := Lib.hid (fun y => by rw [List.length_set]; exact FN.TTl)
      have hzv : ∀ (y : UInt8) (W : World), y ≠ 0 → Below w.heap.size w W → RS cB W W.heap.size (some ⟨gz, 0, none⟩) (TT.set k (d ^^^ y)) → Calls Try.prog 12 #[.agg #[.int .i64 kk, .int .i64 m, .int .i64 pp, .int .i64 ll, .int .i64 t], .slice (some ⟨gz, 0, none⟩) tn c12, .slice p.A p.n p.c, .slice s.A s.n s.c, .slice x.A x.n x.c, .slice e.A e.n e.c] W (fun r w' => r = .returned (.tuple #[.bool false, .int .i64 0]) ∧ Below W.heap.size W w') := by
       intro y W hy hb hr
       have h1 := HVE.out (some ⟨gz, 0, none⟩) tn c12 (TT.set k (d ^^^ y)) W hb (HZL.out y) hr
       rw [HVN.out _ (HZL.out y) (set_ne HTD.out (turn_ne d y hy))] at h1
       exact h1
      have HZV := Lib.hid hzv
      clear hzv HVE HVN HVY
      have hr8 := HR8.out
      rcases shl_lit r hr8 with rfl | rfl | rfl | rfl | rfl | rfl | rfl | rfl
      ·clear hr8
       go_upto_region 26 with fail
       have hx := byt_xor d 1
       have hlit : byt (1 : UInt8) = 1 := by decide
       rw [hlit] at hx
       rw [hx]
       have HB2 := Lib.hid (HB.out.setCell (p := ⟨gz, k, none⟩) HGE.out (.int .u8 (byt (d ^^^ 1))))
       have HBK2 := Lib.hid (HBK.out.far (p := ⟨gz, k, none⟩) HNE.out (.int .u8 (byt (d ^^^ 1))))
       have OZ2 := Lib.hid (show OS cB (u12.setCell ⟨gz, k, none⟩ (.int .u8 (byt (d ^^^ 1)))) w.heap.size (some ⟨gz, 0, none⟩) _ (TT.set k (d ^^^ 1)) from OZ.out.set k (d ^^^ 1))
       generalize u12.setCell ⟨gz, k, none⟩ (.int .u8 (byt (d ^^^ 1))) = u at *
       have q5 : u.cell? ⟨g, 5, none⟩ = some (.slice p.A p.n p.c) := HBK2.out.cell 5; have q6 : u.cell? ⟨g, 6, none⟩ = some (.slice s.A s.n s.c) := HBK2.out.cell 6; have q7 : u.cell? ⟨g, 7, none⟩ = some (.slice x.A x.n x.c) := HBK2.out.cell 7; have q8 : u.cell? ⟨g, 8, none⟩ = some (.slice e.A e.n e.c) := HBK2.out.cell 8
       have ZR := Lib.hid (show u.rangeAt g 0 [Value.int .i64 kk, .int .i64 m, .int .i64 pp, .int .i64 ll, .int .i64 t] from HBK2.out.range 0 5)
       go_wp2_with first
        | (refine wpList_load_mid rfl 23 (.tmp 190) rfl g 0 rfl _ _ ZR.out hua.out rfl (by kernel_rfl) ?_)
        | (go_at_call 12; refine (HZV.out 1 u (by decide) HB2.out OZ2.out.reads).mono ?_; rintro e13 u13 ⟨rfl, hb13⟩)
       exact bodyPost_ret (results_tmp rfl _ _ _) rfl ⟨rfl, bcall HB2.out hb13⟩
      ·clear hr8
       go_upto_region 26 with fail
       have hx := byt_xor d 2
       have hlit : byt (2 : UInt8) = 2 := by decide
       rw [hlit] at hx
       rw [hx]
       have HB2 := Lib.hid (HB.out.setCell (p := ⟨gz, k, none⟩) HGE.out (.int .u8 (byt (d ^^^ 2))))
       have HBK2 := Lib.hid (HBK.out.far (p := ⟨gz, k, none⟩) HNE.out (.int .u8 (byt (d ^^^ 2))))
       have OZ2 := Lib.hid (show OS cB (u12.setCell ⟨gz, k, none⟩ (.int .u8 (byt (d ^^^ 2)))) w.heap.size (some ⟨gz, 0, none⟩) _ (TT.set k (d ^^^ 2)) from OZ.out.set k (d ^^^ 2))
       generalize u12.setCell ⟨gz, k, none⟩ (.int .u8 (byt (d ^^^ 2))) = u at *
       have q5 : u.cell? ⟨g, 5, none⟩ = some (.slice p.A p.n p.c) := HBK2.out.cell 5; have q6 : u.cell? ⟨g, 6, none⟩ = some (.slice s.A s.n s.c) := HBK2.out.cell 6; have q7 : u.cell? ⟨g, 7, none⟩ = some (.slice x.A x.n x.c) := HBK2.out.cell 7; have q8 : u.cell? ⟨g, 8, none⟩ = some (.slice e.A e.n e.c) := HBK2.out.cell 8
       have ZR := Lib.hid (show u.rangeAt g 0 [Value.int .i64 kk, .int .i64 m, .int .i64 pp, .int .i64 ll, .int .i64 t] from HBK2.out.range 0 5)
       go_wp2_with first
        | (refine wpList_load_mid rfl 23 (.tmp 190) rfl g 0 rfl _ _ ZR.out hua.out rfl (by kernel_rfl) ?_)
        | (go_at_call 12; refine (HZV.out 2 u (by decide) HB2.out OZ2.out.reads).mono ?_; rintro e13 u13 ⟨rfl, hb13⟩)
       exact bodyPost_ret (results_tmp rfl _ _ _) rfl ⟨rfl, bcall HB2.out hb13⟩
      ·clear hr8
       go_upto_region 26 with fail
       have hx := byt_xor d 4
       have hlit : byt (4 : UInt8) = 4 := by decide
       rw [hlit] at hx
       rw [hx]
       have HB2 := Lib.hid (HB.out.setCell (p := ⟨gz, k, none⟩) HGE.out (.int .u8 (byt (d ^^^ 4))))
       have HBK2 := Lib.hid (HBK.out.far (p := ⟨gz, k, none⟩) HNE.out (.int .u8 (byt (d ^^^ 4))))
       have OZ2 := Lib.hid (show OS cB (u12.setCell ⟨gz, k, none⟩ (.int .u8 (byt (d ^^^ 4)))) w.heap.size (some ⟨gz, 0, none⟩) _ (TT.set k (d ^^^ 4)) from OZ.out.set k (d ^^^ 4))
       generalize u12.setCell ⟨gz, k, none⟩ (.int .u8 (byt (d ^^^ 4))) = u at *
       have q5 : u.cell? ⟨g, 5, none⟩ = some (.slice p.A p.n p.c) := HBK2.out.cell 5; have q6 : u.cell? ⟨g, 6, none⟩ = some (.slice s.A s.n s.c) := HBK2.out.cell 6; have q7 : u.cell? ⟨g, 7, none⟩ = some (.slice x.A x.n x.c) := HBK2.out.cell 7; have q8 : u.cell? ⟨g, 8, none⟩ = some (.slice e.A e.n e.c) := HBK2.out.cell 8
       have ZR := Lib.hid (show u.rangeAt g 0 [Value.int .i64 kk, .int .i64 m, .int .i64 pp, .int .i64 ll, .int .i64 t] from HBK2.out.range 0 5)
       go_wp2_with first
        | (refine wpList_load_mid rfl 23 (.tmp 190) rfl g 0 rfl _ _ ZR.out hua.out rfl (by kernel_rfl) ?_)
        | (go_at_call 12; refine (HZV.out 4 u (by decide) HB2.out OZ2.out.reads).mono ?_; rintro e13 u13 ⟨rfl, hb13⟩)
       exact bodyPost_ret (results_tmp rfl _ _ _) rfl ⟨rfl, bcall HB2.out hb13⟩
      ·clear hr8
       go_upto_region 26 with fail
       have hx := byt_xor d 8
       have hlit : byt (8 : UInt8) = 8 := by decide
       rw [hlit] at hx
       rw [hx]
       have HB2 := Lib.hid (HB.out.setCell (p := ⟨gz, k, none⟩) HGE.out (.int .u8 (byt (d ^^^ 8))))
       have HBK2 := Lib.hid (HBK.out.far (p := ⟨gz, k, none⟩) HNE.out (.int .u8 (byt (d ^^^ 8))))
       have OZ2 := Lib.hid (show OS cB (u12.setCell ⟨gz, k, none⟩ (.int .u8 (byt (d ^^^ 8)))) w.heap.size (some ⟨gz, 0, none⟩) _ (TT.set k (d ^^^ 8)) from OZ.out.set k (d ^^^ 8))
       generalize u12.setCell ⟨gz, k, none⟩ (.int .u8 (byt (d ^^^ 8))) = u at *
       have q5 : u.cell? ⟨g, 5, none⟩ = some (.slice p.A p.n p.c) := HBK2.out.cell 5; have q6 : u.cell? ⟨g, 6, none⟩ = some (.slice s.A s.n s.c) := HBK2.out.cell 6; have q7 : u.cell? ⟨g, 7, none⟩ = some (.slice x.A x.n x.c) := HBK2.out.cell 7; have q8 : u.cell? ⟨g, 8, none⟩ = some (.slice e.A e.n e.c) := HBK2.out.cell 8
       have ZR := Lib.hid (show u.rangeAt g 0 [Value.int .i64 kk, .int .i64 m, .int .i64 pp, .int .i64 ll, .int .i64 t] from HBK2.out.range 0 5)
       go_wp2_with first
        | (refine wpList_load_mid rfl 23 (.tmp 190) rfl g 0 rfl _ _ ZR.out hua.out rfl (by kernel_rfl) ?_)
        | (go_at_call 12; refine (HZV.out 8 u (by decide) HB2.out OZ2.out.reads).mono ?_; rintro e13 u13 ⟨rfl, hb13⟩)
       exact bodyPost_ret (results_tmp rfl _ _ _) rfl ⟨rfl, bcall HB2.out hb13⟩
      ·clear hr8
       go_upto_region 26 with fail
       have hx := byt_xor d 16
       have hlit : byt (16 : UInt8) = 16 := by decide
       rw [hlit] at hx
       rw [hx]
       have HB2 := Lib.hid (HB.out.setCell (p := ⟨gz, k, none⟩) HGE.out (.int .u8 (byt (d ^^^ 16))))
       have HBK2 := Lib.hid (HBK.out.far (p := ⟨gz, k, none⟩) HNE.out (.int .u8 (byt (d ^^^ 16))))
       have OZ2 := Lib.hid (show OS cB (u12.setCell ⟨gz, k, none⟩ (.int .u8 (byt (d ^^^ 16)))) w.heap.size (some ⟨gz, 0, none⟩) _ (TT.set k (d ^^^ 16)) from OZ.out.set k (d ^^^ 16))
       generalize u12.setCell ⟨gz, k, none⟩ (.int .u8 (byt (d ^^^ 16))) = u at *
       have q5 : u.cell? ⟨g, 5, none⟩ = some (.slice p.A p.n p.c) := HBK2.out.cell 5; have q6 : u.cell? ⟨g, 6, none⟩ = some (.slice s.A s.n s.c) := HBK2.out.cell 6; have q7 : u.cell? ⟨g, 7, none⟩ = some (.slice x.A x.n x.c) := HBK2.out.cell 7; have q8 : u.cell? ⟨g, 8, none⟩ = some (.slice e.A e.n e.c) := HBK2.out.cell 8
       have ZR := Lib.hid (show u.rangeAt g 0 [Value.int .i64 kk, .int .i64 m, .int .i64 pp, .int .i64 ll, .int .i64 t] from HBK2.out.range 0 5)
       go_wp2_with first
        | (refine wpList_load_mid rfl 23 (.tmp 190) rfl g 0 rfl _ _ ZR.out hua.out rfl (by kernel_rfl) ?_)
        | (go_at_call 12; refine (HZV.out 16 u (by decide) HB2.out OZ2.out.reads).mono ?_; rintro e13 u13 ⟨rfl, hb13⟩)
       exact bodyPost_ret (results_tmp rfl _ _ _) rfl ⟨rfl, bcall HB2.out hb13⟩
      ·clear hr8
       go_upto_region 26 with fail
       have hx := byt_xor d 32
       have hlit : byt (32 : UInt8) = 32 := by decide
       rw [hlit] at hx
       rw [hx]
       have HB2 := Lib.hid (HB.out.setCell (p := ⟨gz, k, none⟩) HGE.out (.int .u8 (byt (d ^^^ 32))))
       have HBK2 := Lib.hid (HBK.out.far (p := ⟨gz, k, none⟩) HNE.out (.int .u8 (byt (d ^^^ 32))))
       have OZ2 := Lib.hid (show OS cB (u12.setCell ⟨gz, k, none⟩ (.int .u8 (byt (d ^^^ 32)))) w.heap.size (some ⟨gz, 0, none⟩) _ (TT.set k (d ^^^ 32)) from OZ.out.set k (d ^^^ 32))
       generalize u12.setCell ⟨gz, k, none⟩ (.int .u8 (byt (d ^^^ 32))) = u at *
       have q5 : u.cell? ⟨g, 5, none⟩ = some (.slice p.A p.n p.c) := HBK2.out.cell 5; have q6 : u.cell? ⟨g, 6, none⟩ = some (.slice s.A s.n s.c) := HBK2.out.cell 6; have q7 : u.cell? ⟨g, 7, none⟩ = some (.slice x.A x.n x.c) := HBK2.out.cell 7; have q8 : u.cell? ⟨g, 8, none⟩ = some (.slice e.A e.n e.c) := HBK2.out.cell 8
       have ZR := Lib.hid (show u.rangeAt g 0 [Value.int .i64 kk, .int .i64 m, .int .i64 pp, .int .i64 ll, .int .i64 t] from HBK2.out.range 0 5)
       go_wp2_with first
        | (refine wpList_load_mid rfl 23 (.tmp 190) rfl g 0 rfl _ _ ZR.out hua.out rfl (by kernel_rfl) ?_)
        | (go_at_call 12; refine (HZV.out 32 u (by decide) HB2.out OZ2.out.reads).mono ?_; rintro e13 u13 ⟨rfl, hb13⟩)
       exact bodyPost_ret (results_tmp rfl _ _ _) rfl ⟨rfl, bcall HB2.out hb13⟩
      ·clear hr8
       go_upto_region 26 with fail
       have hx := byt_xor d 64
       have hlit : byt (64 : UInt8) = 64 := by decide
       rw [hlit] at hx
       rw [hx]
       have HB2 := Lib.hid (HB.out.setCell (p := ⟨gz, k, none⟩) HGE.out (.int .u8 (byt (d ^^^ 64))))
       have HBK2 := Lib.hid (HBK.out.far (p := ⟨gz, k, none⟩) HNE.out (.int .u8 (byt (d ^^^ 64))))
       have OZ2 := Lib.hid (show OS cB (u12.setCell ⟨gz, k, none⟩ (.int .u8 (byt (d ^^^ 64)))) w.heap.size (some ⟨gz, 0, none⟩) _ (TT.set k (d ^^^ 64)) from OZ.out.set k (d ^^^ 64))
       generalize u12.setCell ⟨gz, k, none⟩ (.int .u8 (byt (d ^^^ 64))) = u at *
       have q5 : u.cell? ⟨g, 5, none⟩ = some (.slice p.A p.n p.c) := HBK2.out.cell 5; have q6 : u.cell? ⟨g, 6, none⟩ = some (.slice s.A s.n s.c) := HBK2.out.cell 6; have q7 : u.cell? ⟨g, 7, none⟩ = some (.slice x.A x.n x.c) := HBK2.out.cell 7; have q8 : u.cell? ⟨g, 8, none⟩ = some (.slice e.A e.n e.c) := HBK2.out.cell 8
       have ZR := Lib.hid (show u.rangeAt g 0 [Value.int .i64 kk, .int .i64 m, .int .i64 pp, .int .i64 ll, .int .i64 t] from HBK2.out.range 0 5)
       go_wp2_with first
        | (refine wpList_load_mid rfl 23 (.tmp 190) rfl g 0 rfl _ _ ZR.out hua.out rfl (by kernel_rfl) ?_)
        | (go_at_call 12; refine (HZV.out 64 u (by decide) HB2.out OZ2.out.reads).mono ?_; rintro e13 u13 ⟨rfl, hb13⟩)
       exact bodyPost_ret (results_tmp rfl _ _ _) rfl ⟨rfl, bcall HB2.out hb13⟩
      ·clear hr8
       go_upto_region 26 with fail
       have hx := byt_xor d 128
       have hlit : byt (128 : UInt8) = 128 := by decide
       rw [hlit] at hx
       rw [hx]
       have HB2 := Lib.hid (HB.out.setCell (p := ⟨gz, k, none⟩) HGE.out (.int .u8 (byt (d ^^^ 128))))
       have HBK2 := Lib.hid (HBK.out.far (p := ⟨gz, k, none⟩) HNE.out (.int .u8 (byt (d ^^^ 128))))
       have OZ2 := Lib.hid (show OS cB (u12.setCell ⟨gz, k, none⟩ (.int .u8 (byt (d ^^^ 128)))) w.heap.size (some ⟨gz, 0, none⟩) _ (TT.set k (d ^^^ 128)) from OZ.out.set k (d ^^^ 128))
       generalize u12.setCell ⟨gz, k, none⟩ (.int .u8 (byt (d ^^^ 128))) = u at *
       have q5 : u.cell? ⟨g, 5, none⟩ = some (.slice p.A p.n p.c) := HBK2.out.cell 5; have q6 : u.cell? ⟨g, 6, none⟩ = some (.slice s.A s.n s.c) := HBK2.out.cell 6; have q7 : u.cell? ⟨g, 7, none⟩ = some (.slice x.A x.n x.c) := HBK2.out.cell 7; have q8 : u.cell? ⟨g, 8, none⟩ = some (.slice e.A e.n e.c) := HBK2.out.cell 8
       have ZR := Lib.hid (show u.rangeAt g 0 [Value.int .i64 kk, .int .i64 m, .int .i64 pp, .int .i64 ll, .int .i64 t] from HBK2.out.range 0 5)
       go_wp2_with first
        | (refine wpList_load_mid rfl 23 (.tmp 190) rfl g 0 rfl _ _ ZR.out hua.out rfl (by kernel_rfl) ?_)
        | (go_at_call 12; refine (HZV.out 128 u (by decide) HB2.out OZ2.out.reads).mono ?_; rintro e13 u13 ⟨rfl, hb13⟩)
       exact bodyPost_ret (results_tmp rfl _ _ _) rfl ⟨rfl, bcall HB2.out hb13⟩
     ·have d2 : decide ((tn : Int) ≤ (k : Int)) = true := by simp; omega
      have d3 : decide ((k : Int) ≥ (tn : Int)) = true := d2
      have d4 : decide (tn ≤ k) = true := by simp; omega
      have d5 : (tn ≤ k) = True := eq_true (by omega)
      clear hkt
      go_wp2_with fail
      exact bodyPost_ret (results_tmp rfl _ _ _) rfl ⟨rfl, HB.out⟩
 ·have t1 : ((q : Int) != 0) = true := by simp; omega
  have t2 : ((q : Int) == 0) = false := by simp; omega
  have t3 : ((q : Int) == (q : Int)) = true := by simp
  clear hq0
  go_wp2_with fail
  exact bodyPost_ret (results_tmp rfl _ _ _) rfl ⟨rfl, HB.out⟩
end Go.Proofs.Ytbghkdhkahkfnaa

/-
  Call, by the reference, and what it tells. Contracts alone; no statement is claimed here.
-/
import Derived.Test.YtghpofnaojbbkaaGreatRDecD
namespace Go.Proofs.YtghpofnaojbbkaaGreat
open Go.RowKit
attribute [local go_sem] pureUpon Ords.of

theorem hashS_dec {big ext : Bool} {b : List UInt8} {s t : Sl} (key : List UInt8) (last : Bool) (m : Int) (data : List UInt8) (h : decOk big ext b) (h1 : Trim (s1L big b) s.n) (h2 : Trim (s2L big b) t.n) (hs : 4 * s.n ≤ bOf big) (ht : 4 * t.n ≤ bOf big) (hk : key.length = 0 ∨ key.length = fld b 1 1) :
  hashS (kOf big) (decPr big ext b s t) ((s1L big b).take s.n) ((s2L big b).take t.n) key last m data = callS (kOf big) b key last m data := by
 have hc := chk_dec h s t hs ht
 have hb : blkOk big b := by cases ext; exact .inl h; exact .inr h
 have hkk : ¬ (key.length ≠ 0 ∧ (key.length : Int) ≠ (decPr big ext b s t).key) := by
  rintro ⟨a, b2⟩
  exact b2 (by rw [hk.resolve_left a]; rfl)
 have hl : ∀ kk, hashL kk (decPr big ext b s t) ((s1L big b).take s.n) ((s2L big b).take t.n) key last data = ((startK kk (encL kk (decPr big ext b s t) ((s1L big b).take s.n) ((s2L big b).take t.n)) key).feed data).out last := fun _ => rfl
 have he : encL big (decPr big ext b s t) ((s1L big b).take s.n) ((s2L big b).take t.n) = b := encL_dec s t h h1 h2
 unfold hashS callS
 rw [if_neg (fun h => h hc), if_neg hkk, kOf_is, if_neg (c := kOf big ≠ 1 ∧ kOf big ≠ 2) (by cases big <;> decide), if_neg (c := ¬ blkOk big b) (fun h => h hb), if_neg (c := key.length ≠ 0 ∧ key.length ≠ fld b 1 1) (by omega), hl, he]
theorem Trim.le4 {big : Bool} {b : List UInt8} {t : Nat} (h : Trim (s1L big b) t) : t ≤ bOf big / 4 := by
 have h1 := h.1
 unfold s1L at h1
 rw [List.length_take] at h1
 omega
theorem Trim.le4' {big : Bool} {b : List UInt8} {t : Nat} (h : Trim (s2L big b) t) : t ≤ bOf big / 4 := by
 have h1 := h.1
 unfold s2L at h1
 rw [List.length_take] at h1
 omega
set_option maxRecDepth 20000 in
set_option maxHeartbeats 1000000 in
theorem refCallKind_any (k : Int) (sb sk sd : Sl) (last : Bool) (m : Int) (w : World) (h1 : k ≠ 1) (h2 : k ≠ 2) :
  Calls Tryz.prog 19 #[.agg (callV k sb sk sd last m)] w fun r w' => r = .returned (.tuple #[.slice none 0 0, .int .i64 1]) ∧ Below w.heap.size w w' := by
 have t1 : (k != 1) = true := by simpa using h1
 have t2 : (k != 2) = true := by simpa using h2
 unfold callV
 clear h1 h2
 go_enter Tryz.func19, Tryz.ntmps19
 go_wp2
 exact bodyPost_ret (results_tmp2 rfl _ _ _) rfl ⟨rfl, bal (b0 w) _⟩
set_option maxRecDepth 20000 in
set_option maxHeartbeats 4000000 in
theorem refCallNo_any (big last : Bool) (m : Int) (sb sk sd : Sl) (b key data : List UInt8) (w : World) (hok : ¬ blkOk big b) (hin : CallIn w sb sk sd b key data) :
  Calls Tryz.prog 19 #[.agg (callV (kOf big) sb sk sd last m)] w fun r w' => r = .returned (.tuple #[.slice none 0 0, .int .i64 4]) ∧ Below w.heap.size w w' := by
 have hd := fun W hr => refDecodedNo_any big sb.A sb.n sb.c b W hok hin.bl hin.bc.1 hr
 have HD := Lib.hid hd
 have tk := kind_tests big
 clear hok hd
 rcases tk with tk1 | ⟨tk1, tk2⟩
 all_goals
  have HIN := Lib.hid hin; clear hin
  generalize kOf big = k at *
  have hu := Lib.hid Tryz.underlying77
  go_enter Tryz.func19, Tryz.ntmps19
  have HC := Lib.hid (Blk.new w 61 (callV k sb sk sd last m))
  have HB := Lib.hid (bal (b0 w) (.cells (callV k sb sk sd last m) 61))
  unfold callV
  go_upto_region 1 with fail
  rw [show #[Value.int .i64 k, .slice sb.A sb.n sb.c, .slice sk.A sk.n sk.c, .bool last, .int .i64 m, .slice sd.A sd.n sd.c] = callV k sb sk sd last m from rfl]
  generalize w.alloc (.cells (callV k sb sk sd last m) 61) = u at *
  have c0 : u.cell? ⟨w.heap.size, 0, none⟩ = some (.int .i64 k) := HC.out.cell 0
  have c1 : u.cell? ⟨w.heap.size, 1, none⟩ = some (.slice sb.A sb.n sb.c) := HC.out.cell 1
  have c2 : u.cell? ⟨w.heap.size, 2, none⟩ = some (.slice sk.A sk.n sk.c) := HC.out.cell 2
  have c3 : u.cell? ⟨w.heap.size, 3, none⟩ = some (.bool last) := HC.out.cell 3
  have c4 : u.cell? ⟨w.heap.size, 4, none⟩ = some (.int .i64 m) := HC.out.cell 4
  have c5 : u.cell? ⟨w.heap.size, 5, none⟩ = some (.slice sd.A sd.n sd.c) := HC.out.cell 5
  go_upto_region 4 with fail
  go_wp2_with fail
  refine (HD.out _ ((HIN.out.below HB.out).br)).mono ?_
  clear c0 c1 c2 c3 c4 c5
  rintro e1 u ⟨X, e, rfl, he, hb1⟩
  replace HC := Lib.hid (HC.out.below hb1 HC.out.lt)
  replace HB := Lib.hid (bcall HB.out hb1)
  go_upto_region 5 with (refine wpList_store_row rfl 77 _ _ rfl u.heap.size X.cs rfl rfl 77 zcs (Blk.new _ _ _) (Pr.size _) rfl (Pr.ones _) ?_)
  have HG := Lib.hid ((Blk.new u 77 zcs).row X.cs)
  obtain ⟨g, hg⟩ : ∃ g, g = u.heap.size := ⟨_, rfl⟩
  have HNE := Lib.hid (show w.heap.size ≠ g by rw [hg]; exact Nat.ne_of_lt HC.out.lt)
  replace HC := Lib.hid ((HC.out.alloc (.cells zcs 77)).rowFar (by rw [hg] at HNE; exact HNE.out) X.cs)
  replace HB := Lib.hid (brow (g := u.heap.size) (bal HB.out (.cells zcs 77)) HB.out.size X.cs)
  have hz : zcs = #[.int .i64 0, .int .i64 0, .int .i64 0, .int .i64 0, .int .u32 0, .int .u64 0, .int .u32 0, .int .i64 0, .int .i64 0, .slice none 0 0, .slice none 0 0] := rfl
  (try rw [← hz])
  clear hz
  rw [← hg] at HG HC HB ⊢
  (try rw [← hg] at HO1 HO2)
  clear hg
  generalize (u.alloc (.cells zcs 77)).setRow g X.cs = u at *
  have c0 : u.cell? ⟨w.heap.size, 0, none⟩ = some (.int .i64 k) := HC.out.cell 0
  have c1 : u.cell? ⟨w.heap.size, 1, none⟩ = some (.slice sb.A sb.n sb.c) := HC.out.cell 1
  have c2 : u.cell? ⟨w.heap.size, 2, none⟩ = some (.slice sk.A sk.n sk.c) := HC.out.cell 2
  have c3 : u.cell? ⟨w.heap.size, 3, none⟩ = some (.bool last) := HC.out.cell 3
  have c4 : u.cell? ⟨w.heap.size, 4, none⟩ = some (.int .i64 m) := HC.out.cell 4
  have c5 : u.cell? ⟨w.heap.size, 5, none⟩ = some (.slice sd.A sd.n sd.c) := HC.out.cell 5
  go_wp2
  exact bodyPost_ret (results_tmp2 rfl _ _ _) rfl ⟨rfl, HB.out⟩
set_option maxRecDepth 20000 in
set_option maxHeartbeats 4000000 in
theorem refCallKey_any (big last : Bool) (m : Int) (sb sk sd : Sl) (b key data : List UInt8) (w : World) (hok : blkOk big b) (hin : CallIn w sb sk sd b key data) (h1 : sk.n ≠ 0) (h2 : sk.n ≠ fld b 1 1) :
  Calls Tryz.prog 19 #[.agg (callV (kOf big) sb sk sd last m)] w fun r w' => r = .returned (.tuple #[.slice none 0 0, .int .i64 8]) ∧ Below w.heap.size w w' := by
 have hd := fun W hr => refDecoded_any big sb.A sb.n sb.c b W hok hin.bl hin.bc.1 hr
 have x1 : ((sk.n : Int) != 0) = true := by simpa using h1
 have x2 : ((sk.n : Int) != ((fld b 1 1 : Nat) : Int)) = true := by
  rw [bne_iff_ne]
  exact fun h => h2 (Int.ofNat.inj h)
 obtain ⟨d1, e1⟩ : ∃ d, d = fld b 1 1 := ⟨_, rfl⟩
 rw [← e1] at x2
 have HD1 := Lib.hid e1
 have HD := Lib.hid hd
 have tk := kind_tests big
 clear hok hd h1 h2 e1
 rcases tk with tk1 | ⟨tk1, tk2⟩
 all_goals
  have HIN := Lib.hid hin; clear hin
  generalize kOf big = k at *
  have hu := Lib.hid Tryz.underlying77
  go_enter Tryz.func19, Tryz.ntmps19
  have HC := Lib.hid (Blk.new w 61 (callV k sb sk sd last m))
  have HB := Lib.hid (bal (b0 w) (.cells (callV k sb sk sd last m) 61))
  unfold callV
  go_upto_region 1 with fail
  rw [show #[Value.int .i64 k, .slice sb.A sb.n sb.c, .slice sk.A sk.n sk.c, .bool last, .int .i64 m, .slice sd.A sd.n sd.c] = callV k sb sk sd last m from rfl]
  generalize w.alloc (.cells (callV k sb sk sd last m) 61) = u at *
  have c0 : u.cell? ⟨w.heap.size, 0, none⟩ = some (.int .i64 k) := HC.out.cell 0
  have c1 : u.cell? ⟨w.heap.size, 1, none⟩ = some (.slice sb.A sb.n sb.c) := HC.out.cell 1
  have c2 : u.cell? ⟨w.heap.size, 2, none⟩ = some (.slice sk.A sk.n sk.c) := HC.out.cell 2
  have c3 : u.cell? ⟨w.heap.size, 3, none⟩ = some (.bool last) := HC.out.cell 3
  have c4 : u.cell? ⟨w.heap.size, 4, none⟩ = some (.int .i64 m) := HC.out.cell 4
  have c5 : u.cell? ⟨w.heap.size, 5, none⟩ = some (.slice sd.A sd.n sd.c) := HC.out.cell 5
  go_upto_region 4 with fail
  go_wp2_with fail
  refine (HD.out _ ((HIN.out.below HB.out).br)).mono ?_
  clear c0 c1 c2 c3 c4 c5
  rintro e1 u ⟨X, ext, s, t, rfl, hX, hT1, hT2, ho1, ho2, hb1⟩
  have HX := Lib.hid hX; have HT1 := Lib.hid hT1; have HT2 := Lib.hid hT2
  have HO1 := Lib.hid (ho1.mono HB.out.size); have HO2 := Lib.hid (ho2.mono HB.out.size)
  replace HC := Lib.hid (HC.out.below hb1 HC.out.lt)
  replace HB := Lib.hid (bcall HB.out hb1)
  clear hb1 hX hT1 hT2 ho1 ho2
  go_upto_region 5 with (refine wpList_store_row rfl 77 _ _ rfl u.heap.size X.cs rfl rfl 77 zcs (Blk.new _ _ _) (Pr.size _) rfl (Pr.ones _) ?_)
  have HG := Lib.hid ((Blk.new u 77 zcs).row X.cs)
  obtain ⟨g, hg⟩ : ∃ g, g = u.heap.size := ⟨_, rfl⟩
  have HNE := Lib.hid (show w.heap.size ≠ g by rw [hg]; exact Nat.ne_of_lt HC.out.lt)
  replace HC := Lib.hid ((HC.out.alloc (.cells zcs 77)).rowFar (by rw [hg] at HNE; exact HNE.out) X.cs)
  replace HB := Lib.hid (brow (g := u.heap.size) (bal HB.out (.cells zcs 77)) HB.out.size X.cs)
  replace HO1 := Lib.hid ((HO1.out.alloc (.cells zcs 77)).of_block (fun a ha => setRow_other _ _ _ _ ((HO1.out.alloc (.cells zcs 77)).ne_blk (Blk.new u 77 zcs) (by show 5 ≠ 77; decide) a ha)) : OS cB ((u.alloc (.cells zcs 77)).setRow u.heap.size X.cs) w.heap.size _ _ _)
  replace HO2 := Lib.hid ((HO2.out.alloc (.cells zcs 77)).of_block (fun a ha => setRow_other _ _ _ _ ((HO2.out.alloc (.cells zcs 77)).ne_blk (Blk.new u 77 zcs) (by show 5 ≠ 77; decide) a ha)) : OS cB ((u.alloc (.cells zcs 77)).setRow u.heap.size X.cs) w.heap.size _ _ _)
  have hz : zcs = #[.int .i64 0, .int .i64 0, .int .i64 0, .int .i64 0, .int .u32 0, .int .u64 0, .int .u32 0, .int .i64 0, .int .i64 0, .slice none 0 0, .slice none 0 0] := rfl
  (try rw [← hz])
  clear hz
  rw [← hg] at HG HC HB ⊢
  (try rw [← hg] at HO1 HO2)
  clear hg
  generalize (u.alloc (.cells zcs 77)).setRow g X.cs = u at *
  have c0 : u.cell? ⟨w.heap.size, 0, none⟩ = some (.int .i64 k) := HC.out.cell 0
  have c1 : u.cell? ⟨w.heap.size, 1, none⟩ = some (.slice sb.A sb.n sb.c) := HC.out.cell 1
  have c2 : u.cell? ⟨w.heap.size, 2, none⟩ = some (.slice sk.A sk.n sk.c) := HC.out.cell 2
  have c3 : u.cell? ⟨w.heap.size, 3, none⟩ = some (.bool last) := HC.out.cell 3
  have c4 : u.cell? ⟨w.heap.size, 4, none⟩ = some (.int .i64 m) := HC.out.cell 4
  have c5 : u.cell? ⟨w.heap.size, 5, none⟩ = some (.slice sd.A sd.n sd.c) := HC.out.cell 5
  have k1 : u.cell? ⟨g, 1, none⟩ = some (.int .i64 d1) := (HG.out.cell 1).trans (by rw [HX.out.2, HD1.out]; rfl)
  go_wp2
  exact bodyPost_ret (results_tmp2 rfl _ _ _) rfl ⟨rfl, HB.out⟩
set_option maxRecDepth 20000 in
set_option maxHeartbeats 4000000 in
theorem refCall_any (big last : Bool) (m : Int) (sb sk sd : Sl) (b key data : List UInt8) (w : World) (hok : blkOk big b) (hin : CallIn w sb sk sd b key data) (h47 : sd.n ≤ 140737488355200) (hkey : sk.n = 0 ∨ sk.n = fld b 1 1) :
  Calls Tryz.prog 19 #[.agg (callV (kOf big) sb sk sd last m)] w fun r w' => ∃ A n c cc, r = .returned (.tuple #[.slice A n cc, .int .i64 (callS (kOf big) b key last m data).2]) ∧ (callS (kOf big) b key last m data).1.length = n ∧ n ≤ cc ∧ OS cB w' w.heap.size A c (callS (kOf big) b key last m data).1 ∧ Below w.heap.size w w' := by
 have hd := fun W hr => refDecoded_any big sb.A sb.n sb.c b W hok hin.bl hin.bc.1 hr
 have hkl : key.length = 0 ∨ key.length = fld b 1 1 := by rw [hin.kl]; exact hkey
 have hha : ∀ (X : Pr) (ext : Bool) (s t : Sl) (W : World), X = decPr big ext b s t → decOk big ext b → Trim (s1L big b) s.n → Trim (s2L big b) t.n → RS cB W W.heap.size s.A ((s1L big b).take s.n) → RS cB W W.heap.size t.A ((s2L big b).take t.n) → RS cB W W.heap.size sk.A key → RS cB W W.heap.size sd.A data →
   Calls Tryz.prog 37 #[.int .i64 (kOf big), X.v, .slice sk.A sk.n sk.c, .bool last, .int .i64 m, .slice sd.A sd.n sd.c] W fun r w' => ∃ A n c cc, r = .returned (.tuple #[.slice A n cc, .int .i64 (callS (kOf big) b key last m data).2]) ∧ (callS (kOf big) b key last m data).1.length = n ∧ n ≤ cc ∧ OS cB w' W.heap.size A c (callS (kOf big) b key last m data).1 ∧ Below W.heap.size W w' := by
  intro X ext s t W hX hdo hT1 hT2 hr1 hr2 hrk hrd
  subst hX
  have l1 := Trim.le4 hT1
  have l2 := Trim.le4' hT2
  rw [← hashS_dec key last m data hdo hT1 hT2 (by omega) (by omega) hkl]
  exact refHashS_any (kOf big) last m (decPr big ext b s t) ((s1L big b).take s.n) ((s2L big b).take t.n) key data sk.A sd.A sk.n sk.c sd.n sd.c W (fit_dec _ _ _ _ _) (by rw [List.length_take]; exact Nat.min_eq_left hT1.1) (by rw [List.length_take]; exact Nat.min_eq_left hT2.1) hr1 hr2 hin.kl hrk hin.dl h47 hrd
 have x0 : ((sk.n : Int) != 0) = false ∨ (((sk.n : Int) != 0) = true ∧ ((sk.n : Int) != ((fld b 1 1 : Nat) : Int)) = false) := by
  by_cases h : sk.n = 0
  ·exact .inl (by simpa using h)
  ·exact .inr ⟨by simpa using h, by have := hkey.resolve_left h; rw [this]; simp⟩
 obtain ⟨d1, e1⟩ : ∃ d, d = fld b 1 1 := ⟨_, rfl⟩
 rw [← e1] at x0
 have HD1 := Lib.hid e1
 have HD := Lib.hid hd
 have HHA := Lib.hid hha
 have tk := kind_tests big
 generalize callS (kOf big) b key last m data = R at *
 clear hok hd hkey hkl hha e1 h47
 rcases tk with tk1 | ⟨tk1, tk2⟩ <;> rcases x0 with x1 | ⟨x1, x2⟩
 all_goals
  have HIN := Lib.hid hin; clear hin
  generalize kOf big = k at *
  have hu := Lib.hid Tryz.underlying77
  go_enter Tryz.func19, Tryz.ntmps19
  have HC := Lib.hid (Blk.new w 61 (callV k sb sk sd last m))
  have HB := Lib.hid (bal (b0 w) (.cells (callV k sb sk sd last m) 61))
  unfold callV
  go_upto_region 1 with fail
  rw [show #[Value.int .i64 k, .slice sb.A sb.n sb.c, .slice sk.A sk.n sk.c, .bool last, .int .i64 m, .slice sd.A sd.n sd.c] = callV k sb sk sd last m from rfl]
  generalize w.alloc (.cells (callV k sb sk sd last m) 61) = u at *
  have c0 : u.cell? ⟨w.heap.size, 0, none⟩ = some (.int .i64 k) := HC.out.cell 0
  have c1 : u.cell? ⟨w.heap.size, 1, none⟩ = some (.slice sb.A sb.n sb.c) := HC.out.cell 1
  have c2 : u.cell? ⟨w.heap.size, 2, none⟩ = some (.slice sk.A sk.n sk.c) := HC.out.cell 2
  have c3 : u.cell? ⟨w.heap.size, 3, none⟩ = some (.bool last) := HC.out.cell 3
  have c4 : u.cell? ⟨w.heap.size, 4, none⟩ = some (.int .i64 m) := HC.out.cell 4
  have c5 : u.cell? ⟨w.heap.size, 5, none⟩ = some (.slice sd.A sd.n sd.c) := HC.out.cell 5
  go_upto_region 4 with fail
  go_wp2_with fail
  refine (HD.out _ ((HIN.out.below HB.out).br)).mono ?_
  clear c0 c1 c2 c3 c4 c5
  rintro e1 u ⟨X, ext, s, t, rfl, hX, hT1, hT2, ho1, ho2, hb1⟩
  have HX := Lib.hid hX; have HT1 := Lib.hid hT1; have HT2 := Lib.hid hT2
  have HO1 := Lib.hid (ho1.mono HB.out.size); have HO2 := Lib.hid (ho2.mono HB.out.size)
  replace HC := Lib.hid (HC.out.below hb1 HC.out.lt)
  replace HB := Lib.hid (bcall HB.out hb1)
  clear hb1 hX hT1 hT2 ho1 ho2
  go_upto_region 5 with (refine wpList_store_row rfl 77 _ _ rfl u.heap.size X.cs rfl rfl 77 zcs (Blk.new _ _ _) (Pr.size _) rfl (Pr.ones _) ?_)
  have HG := Lib.hid ((Blk.new u 77 zcs).row X.cs)
  obtain ⟨g, hg⟩ : ∃ g, g = u.heap.size := ⟨_, rfl⟩
  have HNE := Lib.hid (show w.heap.size ≠ g by rw [hg]; exact Nat.ne_of_lt HC.out.lt)
  replace HC := Lib.hid ((HC.out.alloc (.cells zcs 77)).rowFar (by rw [hg] at HNE; exact HNE.out) X.cs)
  replace HB := Lib.hid (brow (g := u.heap.size) (bal HB.out (.cells zcs 77)) HB.out.size X.cs)
  replace HO1 := Lib.hid ((HO1.out.alloc (.cells zcs 77)).of_block (fun a ha => setRow_other _ _ _ _ ((HO1.out.alloc (.cells zcs 77)).ne_blk (Blk.new u 77 zcs) (by show 5 ≠ 77; decide) a ha)) : OS cB ((u.alloc (.cells zcs 77)).setRow u.heap.size X.cs) w.heap.size _ _ _)
  replace HO2 := Lib.hid ((HO2.out.alloc (.cells zcs 77)).of_block (fun a ha => setRow_other _ _ _ _ ((HO2.out.alloc (.cells zcs 77)).ne_blk (Blk.new u 77 zcs) (by show 5 ≠ 77; decide) a ha)) : OS cB ((u.alloc (.cells zcs 77)).setRow u.heap.size X.cs) w.heap.size _ _ _)
  have hz : zcs = #[.int .i64 0, .int .i64 0, .int .i64 0, .int .i64 0, .int .u32 0, .int .u64 0, .int .u32 0, .int .i64 0, .int .i64 0, .slice none 0 0, .slice none 0 0] := rfl
  (try rw [← hz])
  clear hz
  rw [← hg] at HG HC HB ⊢
  (try rw [← hg] at HO1 HO2)
  clear hg
  generalize (u.alloc (.cells zcs 77)).setRow g X.cs = u at *
  have c0 : u.cell? ⟨w.heap.size, 0, none⟩ = some (.int .i64 k) := HC.out.cell 0
  have c1 : u.cell? ⟨w.heap.size, 1, none⟩ = some (.slice sb.A sb.n sb.c) := HC.out.cell 1
  have c2 : u.cell? ⟨w.heap.size, 2, none⟩ = some (.slice sk.A sk.n sk.c) := HC.out.cell 2
  have c3 : u.cell? ⟨w.heap.size, 3, none⟩ = some (.bool last) := HC.out.cell 3
  have c4 : u.cell? ⟨w.heap.size, 4, none⟩ = some (.int .i64 m) := HC.out.cell 4
  have c5 : u.cell? ⟨w.heap.size, 5, none⟩ = some (.slice sd.A sd.n sd.c) := HC.out.cell 5
  have k1 : u.cell? ⟨g, 1, none⟩ = some (.int .i64 d1) := (HG.out.cell 1).trans (by rw [HX.out.2, HD1.out]; rfl)
  go_wp2_with (first
   | (refine wpList_load_row rfl 77 _ rfl g rfl 77 X.cs (0, 0) _ HG.out hu.out rfl (Pr.size _) ?_)
   | (go_at_call 37; refine (HHA.out X ext s t _ HX.out.2 HX.out.1 HT1.out HT2.out HO1.out.reads HO2.out.reads ((HIN.out.below HB.out).kr) ((HIN.out.below HB.out).dr)).mono ?_; rintro e2 w2 ⟨A2, n2, c2, cc2, rfl, hl2, hn2, ho2, hb2⟩; have HL2 := Lib.hid hl2; have HN2 := Lib.hid hn2; have HO3 := Lib.hid ho2; have HB2 := Lib.hid hb2; clear hl2 hn2 ho2 hb2))
  exact bodyPost_ret (results_tmp2 rfl _ _ _) rfl ⟨A2, n2, c2, cc2, rfl, HL2.out, HN2.out, HO3.out.mono HB.out.size, bcall HB.out HB2.out⟩
theorem refCallS_any (k : Int) (last : Bool) (m : Int) (sb sk sd : Sl) (b key data : List UInt8) (w : World) (hin : CallIn w sb sk sd b key data) (h47 : sd.n ≤ 140737488355200) :
  Calls Tryz.prog 19 #[.agg (callV k sb sk sd last m)] w fun r w' => ∃ A n c cc, r = .returned (.tuple #[.slice A n cc, .int .i64 (callS k b key last m data).2]) ∧ (callS k b key last m data).1.length = n ∧ n ≤ cc ∧ OS cB w' w.heap.size A c (callS k b key last m data).1 ∧ Below w.heap.size w w' := by
 have hl := hin.kl
 by_cases hg : ∃ big, k = kOf big ∧ blkOk big b ∧ (key.length = 0 ∨ key.length = fld b 1 1)
 ·obtain ⟨big, rfl, h1, h2⟩ := hg
  exact refCall_any big last m sb sk sd b key data w h1 hin h47 (by rw [← hl]; exact h2)
 ·refine call_ways (P := fun R => Calls Tryz.prog 19 #[.agg (callV k sb sk sd last m)] w fun r w' => ∃ A n c cc, r = .returned (.tuple #[.slice A n cc, .int .i64 R.2]) ∧ R.1.length = n ∧ n ≤ cc ∧ OS cB w' w.heap.size A c R.1 ∧ Below w.heap.size w w') k b key last m data ?_ ?_ ?_ ?_ ?_
  ·intro h1 h2
   exact (refCallKind_any k sb sk sd last m w h1 h2).mono fun r w' ⟨h1, h2⟩ => ⟨none, 0, 0, 0, h1, rfl, Nat.le_refl _, OS.nil _ _ _ rfl, h2⟩
  ·rintro big rfl hb
   exact (refCallNo_any big last m sb sk sd b key data w hb hin).mono fun r w' ⟨h1, h2⟩ => ⟨none, 0, 0, 0, h1, rfl, Nat.le_refl _, OS.nil _ _ _ rfl, h2⟩
  ·rintro big rfl hb h1 h2
   exact (refCallKey_any big last m sb sk sd b key data w hb hin (by rw [← hl]; exact h1) (by rw [← hl]; exact h2)).mono fun r w' ⟨h1, h2⟩ => ⟨none, 0, 0, 0, h1, rfl, Nat.le_refl _, OS.nil _ _ _ rfl, h2⟩
  ·intro big h1 h2 h3
   exact absurd ⟨big, h1, h2, h3⟩ hg
  ·intro big h1 h2 h3
   exact absurd ⟨big, h1, h2, h3⟩ hg
end Go.Proofs.YtghpofnaojbbkaaGreat

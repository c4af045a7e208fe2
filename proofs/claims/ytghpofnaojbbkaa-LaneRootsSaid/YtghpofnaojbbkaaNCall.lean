/-
  Call of a node, by the program. Contracts alone; no statement is claimed here.
-/
import Derived.Test.YtghpofnaojbbkaaDecC
namespace Go.Proofs.Ytghpofnaojbbkaa
open Go.RowKit
attribute [local go_sem] pureUpon Ords.of

theorem decode_any (big ext : Bool) (A : Option Addr) (n c : Nat) (b : List UInt8) (w : World) (hb : b.length = n) (hc : n ≤ c) (hcm : c ≤ 9223372036854775807) (hr : RS cB w w.heap.size A b) :
    Calls Try.prog 18 #[.int .i64 (kOf big), .slice A n c, .bool ext] w (DecAns big ext b w) := by
  by_cases hn : n = bOf big
  · cases big
    · subst hn
      exact decSmall_any ext A c b w hb hc hcm hr
    · subst hn
      exact decBig_any ext A c b w hb hc hcm hr
  · refine (decLen_any big ext A n c w hn).mono ?_
    rintro r w' ⟨e, rfl, he, h⟩
    exact ⟨zeroPar, e, rfl, .inr ⟨he, fun h => hn (by rw [← hb]; exact h.1)⟩, h⟩
/-- parameters of which all but the first two are whatever they are -/
def prV (d0 d1 : Int) (X : Pr) : Array Value := #[.int .i64 d0, .int .i64 d1, .int .i64 X.fanout, .int .i64 X.depth, .int .u32 X.leaf, .int .u64 X.offset, .int .u32 X.xof, .int .i64 X.nd, .int .i64 X.inner, .slice X.salt.A X.salt.n X.salt.c, .slice X.pers.A X.pers.n X.pers.c]
theorem prV_size (d0 d1 : Int) (X : Pr) : (Try.prog.info? 52).map (·.size) = some (prV d0 d1 X).size := Pr.size ⟨d0, d1, X.fanout, X.depth, X.leaf, X.offset, X.xof, X.nd, X.inner, X.salt, X.pers⟩
theorem prV_ones (d0 d1 : Int) (X : Pr) : (prV d0 d1 X).all (·.oneCell') = true := Pr.ones ⟨d0, d1, X.fanout, X.depth, X.leaf, X.offset, X.xof, X.nd, X.inner, X.salt, X.pers⟩
theorem decY_any {big ext : Bool} (A : Option Addr) (n c : Nat) (b : List UInt8) (w : World) (h : decOk big ext b) (hb : b.length = n) (hc : n ≤ c) (hcm : c ≤ 9223372036854775807) (hr : RS cB w w.heap.size A b) :
    Calls Try.prog 18 #[.int .i64 (kOf big), .slice A n c, .bool ext] w fun r w' => ∃ X : Pr, r = .returned (.tuple #[.agg (prV (fld b 0 1 : Nat) (fld b 1 1 : Nat) X), .int .i64 0]) ∧ Below w.heap.size w w' := by
  refine (decode_any big ext A n c b w hb hc hcm hr).mono ?_
  rintro r w' ⟨p, e, rfl, (⟨rfl, -, h1, h2⟩ | ⟨-, h3⟩), hB⟩
  · refine ⟨p, ?_, hB⟩
    rw [← h1, ← h2]
    rfl
  · exact absurd h h3
theorem decN_any {big ext : Bool} (A : Option Addr) (n c : Nat) (b : List UInt8) (w : World) (h : ¬ decOk big ext b) (hb : b.length = n) (hc : n ≤ c) (hcm : c ≤ 9223372036854775807) (hr : RS cB w w.heap.size A b) :
    Calls Try.prog 18 #[.int .i64 (kOf big), .slice A n c, .bool ext] w fun r w' => ∃ (X : Pr) (e : Int), r = .returned (.tuple #[.agg (prV X.digest X.key X), .int .i64 e]) ∧ (e != 0) = true ∧ Below w.heap.size w w' := by
  refine (decode_any big ext A n c b w hb hc hcm hr).mono ?_
  rintro r w' ⟨p, e, rfl, (⟨-, h3, -⟩ | ⟨h3, -⟩), hB⟩
  · exact absurd h3 h
  · exact ⟨p, e, rfl, by simpa using h3, hB⟩
instance (big ext : Bool) (b : List UInt8) : Decidable (decOk big ext b) :=
  decidable_of_iff (b.length = bOf big ∧ (big = true → ∀ i, i < 32 → 18 ≤ i → b[i]? = some 0) ∧ (ext = true → fld b 12 (if big then 4 else 2) ≠ 0) ∧ chk (kOf big) (decPr big ext b (sl4 big) (sl4 big)) = 0) (by
    unfold decOk
    constructor
    · rintro ⟨h1, h2, h3⟩; exact ⟨h1, fun h i a b => h2 h i b a, h3⟩
    · rintro ⟨h1, h2, h3⟩; exact ⟨h1, fun h i a b => h2 h i b a, h3⟩)
/-- may the block be, in one of the forms? -/
def blkOk (big : Bool) (b : List UInt8) : Prop := decOk big false b ∨ decOk big true b
instance (big : Bool) (b : List UInt8) : Decidable (blkOk big b) := inferInstanceAs (Decidable (_ ∨ _))
/-- what Call tells: the bytes, the error -/
def callS (k : Int) (b key : List UInt8) (last : Bool) (m : Int) (data : List UInt8) : List UInt8 × Int :=
  if k ≠ 1 ∧ k ≠ 2 then ([], 1) else if ¬ blkOk (decide (k = 1)) b then ([], 4) else if key.length ≠ 0 ∧ key.length ≠ fld b 1 1 then ([], 8) else if m < 1 ∨ mostOf k < m then ([], 1) else ((((startK (decide (k = 1)) b key).feed data).out last).take m.toNat, 0)
/-- the ways of a call of Call -/
theorem call_ways {P : List UInt8 × Int → Prop} (k : Int) (b key : List UInt8) (last : Bool) (m : Int) (data : List UInt8)
    (h1 : k ≠ 1 → k ≠ 2 → P ([], 1)) (h2 : ∀ big, k = kOf big → ¬ blkOk big b → P ([], 4))
    (h3 : ∀ big, k = kOf big → blkOk big b → key.length ≠ 0 → key.length ≠ fld b 1 1 → P ([], 8))
    (h4 : ∀ big, k = kOf big → blkOk big b → (key.length = 0 ∨ key.length = fld b 1 1) → (m < 1 ∨ (bOf big : Int) < m) → P ([], 1))
    (h5 : ∀ big, k = kOf big → blkOk big b → (key.length = 0 ∨ key.length = fld b 1 1) → ∀ n : Nat, m = n → 1 ≤ n ∧ n ≤ bOf big → P ((((startK big b key).feed data).out last).take n, 0)) : P (callS k b key last m data) := by
  unfold callS
  by_cases hk : k ≠ 1 ∧ k ≠ 2
  · rw [if_pos hk]; exact h1 hk.1 hk.2
  · rw [if_neg hk]
    obtain ⟨big, rfl⟩ : ∃ big, k = kOf big := by
      by_cases h : k = 1
      · exact ⟨true, h⟩
      · exact ⟨false, Decidable.not_not.1 (fun h2 => hk ⟨h, h2⟩)⟩
    rw [kOf_is, mostOf_k]
    by_cases hb : blkOk big b
    · rw [if_neg (fun h => h hb)]
      by_cases hkey : key.length ≠ 0 ∧ key.length ≠ fld b 1 1
      · rw [if_pos hkey]; exact h3 big rfl hb hkey.1 hkey.2
      · rw [if_neg hkey]
        have hkey' : key.length = 0 ∨ key.length = fld b 1 1 := by omega
        by_cases hm : m < 1 ∨ (bOf big : Int) < m
        · rw [if_pos hm]; exact h4 big rfl hb hkey' hm
        · rw [if_neg hm]; exact h5 big rfl hb hkey' m.toNat (by omega) (by omega)
    · rw [if_pos hb]; exact h2 big rfl hb
theorem fld1_le {big : Bool} {b : List UInt8} (h : blkOk big b) : fld b 1 1 ≤ bOf big := by
  rcases h with h | h
  · have h1 := (chk_range h.2.2.2).2.1.2
    change ((fld b 1 1 : Nat) : Int) ≤ _ at h1
    omega
  · have h1 := (chk_range h.2.2.2).2.1.2
    change ((fld b 1 1 : Nat) : Int) ≤ _ at h1
    omega
theorem blkOk.len {big : Bool} {b : List UInt8} (h : blkOk big b) : b.length = bOf big := h.elim (fun h => h.1) (fun h => h.1)
/-- a call as a value -/
def callV (k : Int) (b key data : Sl) (last : Bool) (m : Int) : Array Value := #[.int .i64 k, .slice b.A b.n b.c, .slice key.A key.n key.c, .bool last, .int .i64 m, .slice data.A data.n data.c]
/-- what a call's slices hold -/
structure CallIn (w : World) (sb sk sd : Sl) (b key data : List UInt8) : Prop where
  bl : b.length = sb.n
  bc : sb.n ≤ sb.c ∧ sb.c ≤ 9223372036854775807
  br : RS cB w w.heap.size sb.A b
  kl : key.length = sk.n
  kr : RS cB w w.heap.size sk.A key
  dl : data.length = sd.n
  dc : sd.n ≤ sd.c ∧ sd.c ≤ 9223372036854775807
  dr : RS cB w w.heap.size sd.A data
theorem CallIn.below {w w' : World} {sb sk sd : Sl} {b key data : List UInt8} (h : CallIn w sb sk sd b key data) (hb : Below w.heap.size w w') : CallIn w' sb sk sd b key data :=
  ⟨h.bl, h.bc, (h.br.below hb).more hb.size, h.kl, (h.kr.below hb).more hb.size, h.dl, h.dc, (h.dr.below hb).more hb.size⟩
theorem kind_tests (big : Bool) : (kOf big != 1) = false ∨ ((kOf big != 1) = true ∧ (kOf big != 2) = false) := by cases big; exact .inr ⟨rfl, rfl⟩; exact .inl rfl
set_option maxRecDepth 20000 in
set_option maxHeartbeats 1000000 in
theorem callKind_any (k : Int) (sb sk sd : Sl) (last : Bool) (m : Int) (w : World) (h1 : k ≠ 1) (h2 : k ≠ 2) :
    Calls Try.prog 8 #[.agg (callV k sb sk sd last m)] w fun r w' => r = .returned (.tuple #[.slice none 0 0, .int .i64 1]) ∧ Below w.heap.size w w' := by
  have t1 : (k != 1) = true := by simpa using h1
  have t2 : (k != 2) = true := by simpa using h2
  unfold callV
  clear h1 h2
  go_enter Try.func8, Try.ntmps8
  go_wp2
  exact bodyPost_ret (results_tmp2 rfl _ _ _) rfl ⟨rfl, bal (b0 w) _⟩
set_option maxRecDepth 20000 in
set_option maxHeartbeats 4000000 in
theorem callNo_any (big last : Bool) (m : Int) (sb sk sd : Sl) (b key data : List UInt8) (w : World) (hok : ¬ blkOk big b) (hin : CallIn w sb sk sd b key data) :
    Calls Try.prog 8 #[.agg (callV (kOf big) sb sk sd last m)] w fun r w' => r = .returned (.tuple #[.slice none 0 0, .int .i64 4]) ∧ Below w.heap.size w w' := by
  have hdf := fun W hr => decN_any sb.A sb.n sb.c b W (fun h => hok (.inl h)) hin.bl hin.bc.1 hin.bc.2 hr
  have hdt := fun W hr => decN_any sb.A sb.n sb.c b W (fun h => hok (.inr h)) hin.bl hin.bc.1 hin.bc.2 hr
  have tk := kind_tests big
  clear hok
  rcases tk with tk1 | ⟨tk1, tk2⟩
  all_goals
    have HDF := Lib.hid hdf; have HDT := Lib.hid hdt; have HIN := Lib.hid hin; clear hdf hdt hin
    generalize kOf big = k at *
    go_enter Try.func8, Try.ntmps8
    have HC := Lib.hid (Blk.new w 37 (callV k sb sk sd last m))
    have HB := Lib.hid (bal (b0 w) (.cells (callV k sb sk sd last m) 37))
    unfold callV
    go_upto_region 1 with fail
    rw [show #[Value.int .i64 k, .slice sb.A sb.n sb.c, .slice sk.A sk.n sk.c, .bool last, .int .i64 m, .slice sd.A sd.n sd.c] = callV k sb sk sd last m from rfl]
    generalize w.alloc (.cells (callV k sb sk sd last m) 37) = u at *
    have c0 : u.cell? ⟨w.heap.size, 0, none⟩ = some (.int .i64 k) := HC.out.cell 0
    have c1 : u.cell? ⟨w.heap.size, 1, none⟩ = some (.slice sb.A sb.n sb.c) := HC.out.cell 1
    have c2 : u.cell? ⟨w.heap.size, 2, none⟩ = some (.slice sk.A sk.n sk.c) := HC.out.cell 2
    have c3 : u.cell? ⟨w.heap.size, 3, none⟩ = some (.bool last) := HC.out.cell 3
    have c4 : u.cell? ⟨w.heap.size, 4, none⟩ = some (.int .i64 m) := HC.out.cell 4
    have c5 : u.cell? ⟨w.heap.size, 5, none⟩ = some (.slice sd.A sd.n sd.c) := HC.out.cell 5
    go_upto_region 3 with fail
    go_wp2_with fail
    refine (HDF.out _ ((HIN.out.below HB.out).br)).mono ?_
    rintro e1 u ⟨X, e, rfl, he, hb1⟩
    replace HC := Lib.hid (HC.out.below hb1 HC.out.lt)
    replace HB := Lib.hid (bcall HB.out hb1)
    (try replace HG := Lib.hid (HG.out.below hb1 HG.out.lt))
    clear hb1
    clear c0 c1 c2 c3 c4 c5
    go_upto_region 4 with (first
      | (refine wpList_store_row rfl 52 _ _ rfl u.heap.size (prV X.digest X.key X) rfl rfl 52 zcs (Blk.new _ _ _) (prV_size _ _ _) rfl (prV_ones _ _ _) ?_))
    have HG := Lib.hid ((Blk.new u 52 zcs).row (prV X.digest X.key X))
    obtain ⟨g, hg⟩ : ∃ g, g = u.heap.size := ⟨_, rfl⟩
    have HG0 := Lib.hid (show w.heap.size ≤ g by rw [hg]; exact HB.out.size)
    have HNE := Lib.hid (show w.heap.size ≠ g by rw [hg]; exact Nat.ne_of_lt HC.out.lt)
    replace HC := Lib.hid ((HC.out.alloc (.cells zcs 52)).rowFar (by rw [hg] at HNE; exact HNE.out) (prV X.digest X.key X))
    replace HB := Lib.hid (brow (g := u.heap.size) (bal HB.out (.cells zcs 52)) HB.out.size (prV X.digest X.key X))
    have hz : zcs = #[.int .i64 0, .int .i64 0, .int .i64 0, .int .i64 0, .int .u32 0, .int .u64 0, .int .u32 0, .int .i64 0, .int .i64 0, .slice none 0 0, .slice none 0 0] := rfl
    (try rw [← hz])
    clear hz
    rw [← hg] at HG HC HB ⊢
    clear hg
    generalize (u.alloc (.cells zcs 52)).setRow g (prV X.digest X.key X) = u at *
    have c0 : u.cell? ⟨w.heap.size, 0, none⟩ = some (.int .i64 k) := HC.out.cell 0
    have c1 : u.cell? ⟨w.heap.size, 1, none⟩ = some (.slice sb.A sb.n sb.c) := HC.out.cell 1
    have c2 : u.cell? ⟨w.heap.size, 2, none⟩ = some (.slice sk.A sk.n sk.c) := HC.out.cell 2
    have c3 : u.cell? ⟨w.heap.size, 3, none⟩ = some (.bool last) := HC.out.cell 3
    have c4 : u.cell? ⟨w.heap.size, 4, none⟩ = some (.int .i64 m) := HC.out.cell 4
    have c5 : u.cell? ⟨w.heap.size, 5, none⟩ = some (.slice sd.A sd.n sd.c) := HC.out.cell 5
    go_wp2_with fail
    refine (HDT.out _ ((HIN.out.below HB.out).br)).mono ?_
    rintro e1 u ⟨X, e, rfl, he2, hb1⟩
    replace HC := Lib.hid (HC.out.below hb1 HC.out.lt)
    replace HB := Lib.hid (bcall HB.out hb1)
    (try replace HG := Lib.hid (HG.out.below hb1 HG.out.lt))
    clear hb1
    clear c0 c1 c2 c3 c4 c5
    go_wp2_with (refine wpList_store_row rfl 52 _ _ rfl g (prV X.digest X.key X) rfl rfl 52 _ HG.out (prV_size _ _ _) rfl (prV_ones _ _ _) ?_)
    exact bodyPost_ret (results_tmp2 rfl _ _ _) rfl ⟨rfl, brow HB.out HG0.out _⟩
set_option maxRecDepth 20000 in
set_option maxHeartbeats 4000000 in
theorem callKey_any (big last : Bool) (m : Int) (sb sk sd : Sl) (b key data : List UInt8) (w : World) (hok : blkOk big b) (hin : CallIn w sb sk sd b key data) (h1 : sk.n ≠ 0) (h2 : sk.n ≠ fld b 1 1) :
    Calls Try.prog 8 #[.agg (callV (kOf big) sb sk sd last m)] w fun r w' => r = .returned (.tuple #[.slice none 0 0, .int .i64 8]) ∧ Below w.heap.size w w' := by
  have x1 : ((sk.n : Int) != 0) = true := by simpa using h1
  have x2 : ((sk.n : Int) != ((fld b 1 1 : Nat) : Int)) = true := by
    rw [bne_iff_ne]
    exact fun h => h2 (Int.ofNat.inj h)
  clear h1 h2
  by_cases hF : decOk big false b
  · have hdf := fun W hr => decY_any sb.A sb.n sb.c b W hF hin.bl hin.bc.1 hin.bc.2 hr
    have hdt : True := trivial
    clear hF hok
    have tk := kind_tests big
    obtain ⟨d0, e0⟩ : ∃ d, d = fld b 0 1 := ⟨_, rfl⟩
    obtain ⟨d1, e1⟩ : ∃ d, d = fld b 1 1 := ⟨_, rfl⟩
    simp only [← e0, ← e1] at *
    rcases tk with tk1 | ⟨tk1, tk2⟩
    all_goals
      have HDF := Lib.hid hdf; have HDT := Lib.hid hdt; have HIN := Lib.hid hin; clear hdf hdt hin
      generalize kOf big = k at *
      go_enter Try.func8, Try.ntmps8
      have HC := Lib.hid (Blk.new w 37 (callV k sb sk sd last m))
      have HB := Lib.hid (bal (b0 w) (.cells (callV k sb sk sd last m) 37))
      unfold callV
      go_upto_region 1 with fail
      rw [show #[Value.int .i64 k, .slice sb.A sb.n sb.c, .slice sk.A sk.n sk.c, .bool last, .int .i64 m, .slice sd.A sd.n sd.c] = callV k sb sk sd last m from rfl]
      generalize w.alloc (.cells (callV k sb sk sd last m) 37) = u at *
      have c0 : u.cell? ⟨w.heap.size, 0, none⟩ = some (.int .i64 k) := HC.out.cell 0
      have c1 : u.cell? ⟨w.heap.size, 1, none⟩ = some (.slice sb.A sb.n sb.c) := HC.out.cell 1
      have c2 : u.cell? ⟨w.heap.size, 2, none⟩ = some (.slice sk.A sk.n sk.c) := HC.out.cell 2
      have c3 : u.cell? ⟨w.heap.size, 3, none⟩ = some (.bool last) := HC.out.cell 3
      have c4 : u.cell? ⟨w.heap.size, 4, none⟩ = some (.int .i64 m) := HC.out.cell 4
      have c5 : u.cell? ⟨w.heap.size, 5, none⟩ = some (.slice sd.A sd.n sd.c) := HC.out.cell 5
      go_upto_region 3 with fail
      go_wp2_with fail
      refine (HDF.out _ ((HIN.out.below HB.out).br)).mono ?_
      rintro e1 u ⟨X, rfl, hb1⟩
      replace HC := Lib.hid (HC.out.below hb1 HC.out.lt)
      replace HB := Lib.hid (bcall HB.out hb1)
      (try replace HG := Lib.hid (HG.out.below hb1 HG.out.lt))
      clear hb1
      clear c0 c1 c2 c3 c4 c5
      go_upto_region 4 with (first
        | (refine wpList_store_row rfl 52 _ _ rfl u.heap.size (prV d0 d1 X) rfl rfl 52 zcs (Blk.new _ _ _) (prV_size _ _ _) rfl (prV_ones _ _ _) ?_))
      have HG := Lib.hid ((Blk.new u 52 zcs).row (prV d0 d1 X))
      obtain ⟨g, hg⟩ : ∃ g, g = u.heap.size := ⟨_, rfl⟩
      have HG0 := Lib.hid (show w.heap.size ≤ g by rw [hg]; exact HB.out.size)
      have HNE := Lib.hid (show w.heap.size ≠ g by rw [hg]; exact Nat.ne_of_lt HC.out.lt)
      replace HC := Lib.hid ((HC.out.alloc (.cells zcs 52)).rowFar (by rw [hg] at HNE; exact HNE.out) (prV d0 d1 X))
      replace HB := Lib.hid (brow (g := u.heap.size) (bal HB.out (.cells zcs 52)) HB.out.size (prV d0 d1 X))
      have hz : zcs = #[.int .i64 0, .int .i64 0, .int .i64 0, .int .i64 0, .int .u32 0, .int .u64 0, .int .u32 0, .int .i64 0, .int .i64 0, .slice none 0 0, .slice none 0 0] := rfl
      (try rw [← hz])
      clear hz
      rw [← hg] at HG HC HB ⊢
      clear hg
      generalize (u.alloc (.cells zcs 52)).setRow g (prV d0 d1 X) = u at *
      have c0 : u.cell? ⟨w.heap.size, 0, none⟩ = some (.int .i64 k) := HC.out.cell 0
      have c1 : u.cell? ⟨w.heap.size, 1, none⟩ = some (.slice sb.A sb.n sb.c) := HC.out.cell 1
      have c2 : u.cell? ⟨w.heap.size, 2, none⟩ = some (.slice sk.A sk.n sk.c) := HC.out.cell 2
      have c3 : u.cell? ⟨w.heap.size, 3, none⟩ = some (.bool last) := HC.out.cell 3
      have c4 : u.cell? ⟨w.heap.size, 4, none⟩ = some (.int .i64 m) := HC.out.cell 4
      have c5 : u.cell? ⟨w.heap.size, 5, none⟩ = some (.slice sd.A sd.n sd.c) := HC.out.cell 5
      go_upto_region 8 with fail
      have k1 : u.cell? ⟨g, 1, none⟩ = some (.int .i64 d1) := HG.out.cell 1
      go_wp2
      exact bodyPost_ret (results_tmp2 rfl _ _ _) rfl ⟨rfl, HB.out⟩
  · have hT := hok.resolve_left hF
    have hdf := fun W hr => decN_any sb.A sb.n sb.c b W hF hin.bl hin.bc.1 hin.bc.2 hr
    have hdt := fun W hr => decY_any sb.A sb.n sb.c b W hT hin.bl hin.bc.1 hin.bc.2 hr
    clear hF hT hok
    have tk := kind_tests big
    obtain ⟨d0, e0⟩ : ∃ d, d = fld b 0 1 := ⟨_, rfl⟩
    obtain ⟨d1, e1⟩ : ∃ d, d = fld b 1 1 := ⟨_, rfl⟩
    simp only [← e0, ← e1] at *
    rcases tk with tk1 | ⟨tk1, tk2⟩
    all_goals
      have HDF := Lib.hid hdf; have HDT := Lib.hid hdt; have HIN := Lib.hid hin; clear hdf hdt hin
      generalize kOf big = k at *
      go_enter Try.func8, Try.ntmps8
      have HC := Lib.hid (Blk.new w 37 (callV k sb sk sd last m))
      have HB := Lib.hid (bal (b0 w) (.cells (callV k sb sk sd last m) 37))
      unfold callV
      go_upto_region 1 with fail
      rw [show #[Value.int .i64 k, .slice sb.A sb.n sb.c, .slice sk.A sk.n sk.c, .bool last, .int .i64 m, .slice sd.A sd.n sd.c] = callV k sb sk sd last m from rfl]
      generalize w.alloc (.cells (callV k sb sk sd last m) 37) = u at *
      have c0 : u.cell? ⟨w.heap.size, 0, none⟩ = some (.int .i64 k) := HC.out.cell 0
      have c1 : u.cell? ⟨w.heap.size, 1, none⟩ = some (.slice sb.A sb.n sb.c) := HC.out.cell 1
      have c2 : u.cell? ⟨w.heap.size, 2, none⟩ = some (.slice sk.A sk.n sk.c) := HC.out.cell 2
      have c3 : u.cell? ⟨w.heap.size, 3, none⟩ = some (.bool last) := HC.out.cell 3
      have c4 : u.cell? ⟨w.heap.size, 4, none⟩ = some (.int .i64 m) := HC.out.cell 4
      have c5 : u.cell? ⟨w.heap.size, 5, none⟩ = some (.slice sd.A sd.n sd.c) := HC.out.cell 5
      go_upto_region 3 with fail
      go_wp2_with fail
      refine (HDF.out _ ((HIN.out.below HB.out).br)).mono ?_
      rintro e1 u ⟨X, e, rfl, he, hb1⟩
      replace HC := Lib.hid (HC.out.below hb1 HC.out.lt)
      replace HB := Lib.hid (bcall HB.out hb1)
      (try replace HG := Lib.hid (HG.out.below hb1 HG.out.lt))
      clear hb1
      clear c0 c1 c2 c3 c4 c5
      go_upto_region 4 with (first
        | (refine wpList_store_row rfl 52 _ _ rfl u.heap.size (prV X.digest X.key X) rfl rfl 52 zcs (Blk.new _ _ _) (prV_size _ _ _) rfl (prV_ones _ _ _) ?_))
      have HG := Lib.hid ((Blk.new u 52 zcs).row (prV X.digest X.key X))
      obtain ⟨g, hg⟩ : ∃ g, g = u.heap.size := ⟨_, rfl⟩
      have HG0 := Lib.hid (show w.heap.size ≤ g by rw [hg]; exact HB.out.size)
      have HNE := Lib.hid (show w.heap.size ≠ g by rw [hg]; exact Nat.ne_of_lt HC.out.lt)
      replace HC := Lib.hid ((HC.out.alloc (.cells zcs 52)).rowFar (by rw [hg] at HNE; exact HNE.out) (prV X.digest X.key X))
      replace HB := Lib.hid (brow (g := u.heap.size) (bal HB.out (.cells zcs 52)) HB.out.size (prV X.digest X.key X))
      have hz : zcs = #[.int .i64 0, .int .i64 0, .int .i64 0, .int .i64 0, .int .u32 0, .int .u64 0, .int .u32 0, .int .i64 0, .int .i64 0, .slice none 0 0, .slice none 0 0] := rfl
      (try rw [← hz])
      clear hz
      rw [← hg] at HG HC HB ⊢
      clear hg
      generalize (u.alloc (.cells zcs 52)).setRow g (prV X.digest X.key X) = u at *
      have c0 : u.cell? ⟨w.heap.size, 0, none⟩ = some (.int .i64 k) := HC.out.cell 0
      have c1 : u.cell? ⟨w.heap.size, 1, none⟩ = some (.slice sb.A sb.n sb.c) := HC.out.cell 1
      have c2 : u.cell? ⟨w.heap.size, 2, none⟩ = some (.slice sk.A sk.n sk.c) := HC.out.cell 2
      have c3 : u.cell? ⟨w.heap.size, 3, none⟩ = some (.bool last) := HC.out.cell 3
      have c4 : u.cell? ⟨w.heap.size, 4, none⟩ = some (.int .i64 m) := HC.out.cell 4
      have c5 : u.cell? ⟨w.heap.size, 5, none⟩ = some (.slice sd.A sd.n sd.c) := HC.out.cell 5
      go_wp2_with fail
      refine (HDT.out _ ((HIN.out.below HB.out).br)).mono ?_
      rintro e1 u ⟨X, rfl, hb1⟩
      replace HC := Lib.hid (HC.out.below hb1 HC.out.lt)
      replace HB := Lib.hid (bcall HB.out hb1)
      (try replace HG := Lib.hid (HG.out.below hb1 HG.out.lt))
      clear hb1
      clear c0 c1 c2 c3 c4 c5
      go_upto_region 8 with (refine wpList_store_row rfl 52 _ _ rfl g (prV d0 d1 X) rfl rfl 52 _ HG.out (prV_size _ _ _) rfl (prV_ones _ _ _) ?_)
      replace HG := Lib.hid (HG.out.row (prV d0 d1 X))
      replace HC := Lib.hid (HC.out.rowFar HNE.out (prV d0 d1 X))
      replace HB := Lib.hid (brow HB.out HG0.out (prV d0 d1 X))
      generalize u.setRow g (prV d0 d1 X) = u at *
      have c0 : u.cell? ⟨w.heap.size, 0, none⟩ = some (.int .i64 k) := HC.out.cell 0
      have c1 : u.cell? ⟨w.heap.size, 1, none⟩ = some (.slice sb.A sb.n sb.c) := HC.out.cell 1
      have c2 : u.cell? ⟨w.heap.size, 2, none⟩ = some (.slice sk.A sk.n sk.c) := HC.out.cell 2
      have c3 : u.cell? ⟨w.heap.size, 3, none⟩ = some (.bool last) := HC.out.cell 3
      have c4 : u.cell? ⟨w.heap.size, 4, none⟩ = some (.int .i64 m) := HC.out.cell 4
      have c5 : u.cell? ⟨w.heap.size, 5, none⟩ = some (.slice sd.A sd.n sd.c) := HC.out.cell 5
      have k1 : u.cell? ⟨g, 1, none⟩ = some (.int .i64 d1) := HG.out.cell 1
      go_wp2
      exact bodyPost_ret (results_tmp2 rfl _ _ _) rfl ⟨rfl, HB.out⟩
set_option maxRecDepth 20000 in
set_option maxHeartbeats 8000000 in
theorem callOut_any (big last : Bool) (m : Int) (sb sk sd : Sl) (b key data : List UInt8) (w : World) (hok : blkOk big b) (hin : CallIn w sb sk sd b key data) (hkey : sk.n = 0 ∨ sk.n = fld b 1 1) (hm : m < 1 ∨ (bOf big : Int) < m) :
    Calls Try.prog 8 #[.agg (callV (kOf big) sb sk sd last m)] w fun r w' => r = .returned (.tuple #[.slice none 0 0, .int .i64 1]) ∧ Below w.heap.size w w' := by
  have hlen := hok.len
  have hle := fld1_le hok
  have hma := fun (W : World) hrx hrk => made_any (fld b 0 1) big b key sb.A sk.A sb.n sk.n sb.c sk.c W hin.bl (by rw [← hin.bl, hlen]) hin.kl (by rcases hkey with h | h <;> omega) hrx hrk
  have hkey : ((sk.n : Int) != 0) = false ∨ (((sk.n : Int) != 0) = true ∧ ((sk.n : Int) != ((fld b 1 1 : Nat) : Int)) = false) := by
    by_cases h : sk.n = 0
    · exact .inl (by simpa using h)
    · exact .inr ⟨by simpa using h, by have := hkey.resolve_left h; rw [this]; simp⟩
  have HMA := Lib.hid hma
  clear hle hma
  have hout := fun W (F : List Nat) (q d : Nat) h => outBad_any q d m big last b key 0 ((startK big b key).feed data) F W h hm
  have hmW : ∀ (g k : Nat) (w : World), 0 < k → Sem.run Try.prog (method k (startK big b key).T (.pointer (some ⟨g, 0, none⟩)) "quern/node.write") w = .ok ((startK big b key).fw, .pointer (some ⟨g, 0, none⟩)) w := fun g k w hk => (startK big b key).run_write g k hk w
  have heL : ∀ args w, (callFunc (startK big b key).fw args).run Try.prog w = .ok (.enter (startK big b key).fw args) w := fun args w => (startK big b key).enters_w args w
  have HOUT := Lib.hid hout
  clear hout hm hlen
  by_cases hF : decOk big false b
  · have hdf := fun W hr => decY_any sb.A sb.n sb.c b W hF hin.bl hin.bc.1 hin.bc.2 hr
    have hdt : True := trivial
    clear hF hok
    have tk := kind_tests big
    obtain ⟨d0, e0⟩ : ∃ d, d = fld b 0 1 := ⟨_, rfl⟩
    obtain ⟨d1, e1⟩ : ∃ d, d = fld b 1 1 := ⟨_, rfl⟩
    simp only [← e0, ← e1] at *
    rcases tk with tk1 | ⟨tk1, tk2⟩ <;> rcases hkey with x1 | ⟨x1, x2⟩
    all_goals
      have HDF := Lib.hid hdf; have HDT := Lib.hid hdt; have HIN := Lib.hid hin; clear hdf hdt hin
      generalize kOf big = k at *
      go_enter Try.func8, Try.ntmps8
      have HC := Lib.hid (Blk.new w 37 (callV k sb sk sd last m))
      have HB := Lib.hid (bal (b0 w) (.cells (callV k sb sk sd last m) 37))
      unfold callV
      go_upto_region 1 with fail
      rw [show #[Value.int .i64 k, .slice sb.A sb.n sb.c, .slice sk.A sk.n sk.c, .bool last, .int .i64 m, .slice sd.A sd.n sd.c] = callV k sb sk sd last m from rfl]
      generalize w.alloc (.cells (callV k sb sk sd last m) 37) = u at *
      have c0 : u.cell? ⟨w.heap.size, 0, none⟩ = some (.int .i64 k) := HC.out.cell 0
      have c1 : u.cell? ⟨w.heap.size, 1, none⟩ = some (.slice sb.A sb.n sb.c) := HC.out.cell 1
      have c2 : u.cell? ⟨w.heap.size, 2, none⟩ = some (.slice sk.A sk.n sk.c) := HC.out.cell 2
      have c3 : u.cell? ⟨w.heap.size, 3, none⟩ = some (.bool last) := HC.out.cell 3
      have c4 : u.cell? ⟨w.heap.size, 4, none⟩ = some (.int .i64 m) := HC.out.cell 4
      have c5 : u.cell? ⟨w.heap.size, 5, none⟩ = some (.slice sd.A sd.n sd.c) := HC.out.cell 5
      go_upto_region 3 with fail
      go_wp2_with fail
      refine (HDF.out _ ((HIN.out.below HB.out).br)).mono ?_
      rintro e1 u ⟨X, rfl, hb1⟩
      replace HC := Lib.hid (HC.out.below hb1 HC.out.lt)
      replace HB := Lib.hid (bcall HB.out hb1)
      (try replace HG := Lib.hid (HG.out.below hb1 HG.out.lt))
      clear hb1
      clear c0 c1 c2 c3 c4 c5
      go_upto_region 4 with (first
        | (refine wpList_store_row rfl 52 _ _ rfl u.heap.size (prV d0 d1 X) rfl rfl 52 zcs (Blk.new _ _ _) (prV_size _ _ _) rfl (prV_ones _ _ _) ?_))
      have HG := Lib.hid ((Blk.new u 52 zcs).row (prV d0 d1 X))
      obtain ⟨g, hg⟩ : ∃ g, g = u.heap.size := ⟨_, rfl⟩
      have HG0 := Lib.hid (show w.heap.size ≤ g by rw [hg]; exact HB.out.size)
      have HNE := Lib.hid (show w.heap.size ≠ g by rw [hg]; exact Nat.ne_of_lt HC.out.lt)
      replace HC := Lib.hid ((HC.out.alloc (.cells zcs 52)).rowFar (by rw [hg] at HNE; exact HNE.out) (prV d0 d1 X))
      replace HB := Lib.hid (brow (g := u.heap.size) (bal HB.out (.cells zcs 52)) HB.out.size (prV d0 d1 X))
      have hz : zcs = #[.int .i64 0, .int .i64 0, .int .i64 0, .int .i64 0, .int .u32 0, .int .u64 0, .int .u32 0, .int .i64 0, .int .i64 0, .slice none 0 0, .slice none 0 0] := rfl
      (try rw [← hz])
      clear hz
      rw [← hg] at HG HC HB ⊢
      clear hg
      generalize (u.alloc (.cells zcs 52)).setRow g (prV d0 d1 X) = u at *
      have c0 : u.cell? ⟨w.heap.size, 0, none⟩ = some (.int .i64 k) := HC.out.cell 0
      have c1 : u.cell? ⟨w.heap.size, 1, none⟩ = some (.slice sb.A sb.n sb.c) := HC.out.cell 1
      have c2 : u.cell? ⟨w.heap.size, 2, none⟩ = some (.slice sk.A sk.n sk.c) := HC.out.cell 2
      have c3 : u.cell? ⟨w.heap.size, 3, none⟩ = some (.bool last) := HC.out.cell 3
      have c4 : u.cell? ⟨w.heap.size, 4, none⟩ = some (.int .i64 m) := HC.out.cell 4
      have c5 : u.cell? ⟨w.heap.size, 5, none⟩ = some (.slice sd.A sd.n sd.c) := HC.out.cell 5
      go_upto_region 8 with fail
      have k0 : u.cell? ⟨g, 0, none⟩ = some (.int .i64 d0) := HG.out.cell 0
      have k1 : u.cell? ⟨g, 1, none⟩ = some (.int .i64 d1) := HG.out.cell 1
      go_upto_region 11 with (go_at_call 19; refine (HMA.out _ ((HIN.out.below HB.out).br) ((HIN.out.below HB.out).kr)).mono ?_; rintro e2 u ⟨q, gg, A2, cc2, Ax, Ak2, cx, ck2, rfl, hN, hb, hq, hgq⟩)
      obtain ⟨F, hN1, hF1⟩ : ∃ F, Nd u q big d0 b key false 0 (startK big b key) F ∧ ∀ k, k ∈ F → w.heap.size < k := ⟨_, hN.nd, fun k hk => Nat.lt_of_lt_of_le HC.out.lt (hN.low hq hgq k hk)⟩
      replace HC := Lib.hid (HC.out.below hb HC.out.lt)
      replace HB := Lib.hid (bcall HB.out hb)
      have HN := Lib.hid hN1; have HF := Lib.hid hF1
      clear hN hb hq hgq hN1 hF1 k0 k1
      clear c0 c1 c2 c3 c4 c5
      obtain ⟨ge, hb0, -⟩ := HN.out.engine
      have e4 : u.cell? ⟨q, 4, none⟩ = some (.bool false) := hb0.cell 4
      have f4 := hb0.frozen 4
      have hq1 := hb0.lt
      have c3 : u.cell? ⟨w.heap.size, 3, none⟩ = some (.bool last) := HC.out.cell 3
      clear hb0 ge
      go_upto_region 12 with fail
      have hqw := HF.out q HN.out.here
      replace HN := Lib.hid (HN.out.put4 last)
      replace HC := Lib.hid (HC.out.far (p := ⟨q, 4, none⟩) (Nat.ne_of_lt hqw) (.bool last))
      replace HB := Lib.hid (bput HB.out (p := ⟨q, 4, none⟩) (Nat.le_of_lt hqw) (.bool last))
      generalize u.setCell ⟨q, 4, none⟩ (.bool last) = u at *
      clear e4 f4 hq1 c3 hqw
      obtain ⟨ge, hbk, -⟩ := HN.out.engine
      have c6 : u.cell? ⟨q, 6, none⟩ = some (.iface (startK big b key).T (.pointer (some ⟨ge, 0, none⟩))) := hbk.cell 6
      have hq2 := hbk.lt
      have c5 : u.cell? ⟨w.heap.size, 5, none⟩ = some (.slice sd.A sd.n sd.c) := HC.out.cell 5
      clear hbk
      refine wp_region_ords (fun _ => True) (fun _ _ h => h) (Ords.of [(0, 0), (0, 1), (0, 2), (1, 3), (0, 4), (1, 5), (2, 6)] .fin) (by kernel_rfl) rfl (by kernel_rfl) (by kernel_rfl) (fun c a d v w h => by cases d <;> exact h) trivial ?_
      iterate 3 (refine ords_pure rfl (fun K hK => ?_); go_simp; refine hK _ ?_; clear hK K)
      refine ords_read rfl (fun K hK => ?_); go_simp; refine hK _ ?_; clear hK K
      refine ords_pure rfl (fun K hK => ?_); go_simp; refine hK _ ?_; clear hK K
      refine ords_read rfl (fun K hK => ?_); go_simp; refine hK _ ?_; clear hK K
      refine ords_loud rfl (fun n1 => ?_)
      replace HN := Lib.hid (HN.out.drewN n1)
      replace HC := Lib.hid (HC.out.drewN n1)
      replace HB := Lib.hid (bdr HB.out n1)
      replace c6 := Lib.hid (show (u.drewN n1).cell? ⟨q, 6, none⟩ = _ from c6)
      clear c5 hq2
      generalize u.drewN n1 = u at *
      obtain ⟨ge2, hbk, hcall⟩ := HN.out.engine
      obtain rfl : ge = ge2 := by
        have h := c6.out.symm.trans (hbk.cell 6)
        injection h with h; injection h with _ h; injection h with h; injection h with h; injection h
      have HCALL := Lib.hid (hcall sd.A sd.n sd.c data HIN.out.dl HIN.out.dc.1 HIN.out.dc.2 ((HIN.out.below HB.out).dr) (fun h0 a ha h => Nat.lt_asymm (HIN.out.dr.low h0 a ha) (HF.out _ h)))
      clear hbk hcall c6
      go_wp2_with fail
      refine HCALL.out.mono ?_
      rintro r3 u ⟨rfl, F3, hN3, hF3, hB3⟩
      have hF4 : ∀ k, k ∈ F3 → w.heap.size < k := fun k hk => (hF3 k hk).elim (fun h => HF.out k h) (fun h => Nat.lt_of_lt_of_le HC.out.lt h)
      replace HC := Lib.hid (HC.out.but hB3 (fun h => Nat.lt_irrefl _ (HF.out _ h)))
      replace HB := Lib.hid (HB.out.trans (hB3.toBelow HB.out.size (fun k hk => Nat.le_of_lt (HF.out k hk))))
      clear HN HF
      have HN := Lib.hid hN3
      clear hN3 hF3 hB3 hF4 HCALL
      go_wp2_with fail
      first | (refine ⟨trivial, ?_⟩; refine ords_end (fun n2 => ?_)) | (rintro _ ⟨n2, rfl⟩)
      replace HN := Lib.hid (HN.out.drewN n2)
      replace HC := Lib.hid (HC.out.drewN n2)
      replace HB := Lib.hid (bdr HB.out n2)
      generalize u.drewN n2 = u at *
      have c4 : u.cell? ⟨w.heap.size, 4, none⟩ = some (.int .i64 m) := HC.out.cell 4
      go_wp2_with (go_at_call 20; refine (HOUT.out _ F3 q _ HN.out).mono ?_; rintro r4 w4 ⟨rfl, hb4⟩; have HB4 := Lib.hid hb4; clear hb4)
      exact bodyPost_ret (results_tmp2 rfl _ _ _) rfl ⟨rfl, bcall HB.out HB4.out⟩
  · have hT := hok.resolve_left hF
    have hdf := fun W hr => decN_any sb.A sb.n sb.c b W hF hin.bl hin.bc.1 hin.bc.2 hr
    have hdt := fun W hr => decY_any sb.A sb.n sb.c b W hT hin.bl hin.bc.1 hin.bc.2 hr
    clear hF hT hok
    have tk := kind_tests big
    obtain ⟨d0, e0⟩ : ∃ d, d = fld b 0 1 := ⟨_, rfl⟩
    obtain ⟨d1, e1⟩ : ∃ d, d = fld b 1 1 := ⟨_, rfl⟩
    simp only [← e0, ← e1] at *
    rcases tk with tk1 | ⟨tk1, tk2⟩ <;> rcases hkey with x1 | ⟨x1, x2⟩
    all_goals
      have HDF := Lib.hid hdf; have HDT := Lib.hid hdt; have HIN := Lib.hid hin; clear hdf hdt hin
      generalize kOf big = k at *
      go_enter Try.func8, Try.ntmps8
      have HC := Lib.hid (Blk.new w 37 (callV k sb sk sd last m))
      have HB := Lib.hid (bal (b0 w) (.cells (callV k sb sk sd last m) 37))
      unfold callV
      go_upto_region 1 with fail
      rw [show #[Value.int .i64 k, .slice sb.A sb.n sb.c, .slice sk.A sk.n sk.c, .bool last, .int .i64 m, .slice sd.A sd.n sd.c] = callV k sb sk sd last m from rfl]
      generalize w.alloc (.cells (callV k sb sk sd last m) 37) = u at *
      have c0 : u.cell? ⟨w.heap.size, 0, none⟩ = some (.int .i64 k) := HC.out.cell 0
      have c1 : u.cell? ⟨w.heap.size, 1, none⟩ = some (.slice sb.A sb.n sb.c) := HC.out.cell 1
      have c2 : u.cell? ⟨w.heap.size, 2, none⟩ = some (.slice sk.A sk.n sk.c) := HC.out.cell 2
      have c3 : u.cell? ⟨w.heap.size, 3, none⟩ = some (.bool last) := HC.out.cell 3
      have c4 : u.cell? ⟨w.heap.size, 4, none⟩ = some (.int .i64 m) := HC.out.cell 4
      have c5 : u.cell? ⟨w.heap.size, 5, none⟩ = some (.slice sd.A sd.n sd.c) := HC.out.cell 5
      go_upto_region 3 with fail
      go_wp2_with fail
      refine (HDF.out _ ((HIN.out.below HB.out).br)).mono ?_
      rintro e1 u ⟨X, e, rfl, he, hb1⟩
      replace HC := Lib.hid (HC.out.below hb1 HC.out.lt)
      replace HB := Lib.hid (bcall HB.out hb1)
      (try replace HG := Lib.hid (HG.out.below hb1 HG.out.lt))
      clear hb1
      clear c0 c1 c2 c3 c4 c5
      go_upto_region 4 with (first
        | (refine wpList_store_row rfl 52 _ _ rfl u.heap.size (prV X.digest X.key X) rfl rfl 52 zcs (Blk.new _ _ _) (prV_size _ _ _) rfl (prV_ones _ _ _) ?_))
      have HG := Lib.hid ((Blk.new u 52 zcs).row (prV X.digest X.key X))
      obtain ⟨g, hg⟩ : ∃ g, g = u.heap.size := ⟨_, rfl⟩
      have HG0 := Lib.hid (show w.heap.size ≤ g by rw [hg]; exact HB.out.size)
      have HNE := Lib.hid (show w.heap.size ≠ g by rw [hg]; exact Nat.ne_of_lt HC.out.lt)
      replace HC := Lib.hid ((HC.out.alloc (.cells zcs 52)).rowFar (by rw [hg] at HNE; exact HNE.out) (prV X.digest X.key X))
      replace HB := Lib.hid (brow (g := u.heap.size) (bal HB.out (.cells zcs 52)) HB.out.size (prV X.digest X.key X))
      have hz : zcs = #[.int .i64 0, .int .i64 0, .int .i64 0, .int .i64 0, .int .u32 0, .int .u64 0, .int .u32 0, .int .i64 0, .int .i64 0, .slice none 0 0, .slice none 0 0] := rfl
      (try rw [← hz])
      clear hz
      rw [← hg] at HG HC HB ⊢
      clear hg
      generalize (u.alloc (.cells zcs 52)).setRow g (prV X.digest X.key X) = u at *
      have c0 : u.cell? ⟨w.heap.size, 0, none⟩ = some (.int .i64 k) := HC.out.cell 0
      have c1 : u.cell? ⟨w.heap.size, 1, none⟩ = some (.slice sb.A sb.n sb.c) := HC.out.cell 1
      have c2 : u.cell? ⟨w.heap.size, 2, none⟩ = some (.slice sk.A sk.n sk.c) := HC.out.cell 2
      have c3 : u.cell? ⟨w.heap.size, 3, none⟩ = some (.bool last) := HC.out.cell 3
      have c4 : u.cell? ⟨w.heap.size, 4, none⟩ = some (.int .i64 m) := HC.out.cell 4
      have c5 : u.cell? ⟨w.heap.size, 5, none⟩ = some (.slice sd.A sd.n sd.c) := HC.out.cell 5
      go_wp2_with fail
      refine (HDT.out _ ((HIN.out.below HB.out).br)).mono ?_
      rintro e1 u ⟨X, rfl, hb1⟩
      replace HC := Lib.hid (HC.out.below hb1 HC.out.lt)
      replace HB := Lib.hid (bcall HB.out hb1)
      (try replace HG := Lib.hid (HG.out.below hb1 HG.out.lt))
      clear hb1
      clear c0 c1 c2 c3 c4 c5
      go_upto_region 8 with (refine wpList_store_row rfl 52 _ _ rfl g (prV d0 d1 X) rfl rfl 52 _ HG.out (prV_size _ _ _) rfl (prV_ones _ _ _) ?_)
      replace HG := Lib.hid (HG.out.row (prV d0 d1 X))
      replace HC := Lib.hid (HC.out.rowFar HNE.out (prV d0 d1 X))
      replace HB := Lib.hid (brow HB.out HG0.out (prV d0 d1 X))
      generalize u.setRow g (prV d0 d1 X) = u at *
      have c0 : u.cell? ⟨w.heap.size, 0, none⟩ = some (.int .i64 k) := HC.out.cell 0
      have c1 : u.cell? ⟨w.heap.size, 1, none⟩ = some (.slice sb.A sb.n sb.c) := HC.out.cell 1
      have c2 : u.cell? ⟨w.heap.size, 2, none⟩ = some (.slice sk.A sk.n sk.c) := HC.out.cell 2
      have c3 : u.cell? ⟨w.heap.size, 3, none⟩ = some (.bool last) := HC.out.cell 3
      have c4 : u.cell? ⟨w.heap.size, 4, none⟩ = some (.int .i64 m) := HC.out.cell 4
      have c5 : u.cell? ⟨w.heap.size, 5, none⟩ = some (.slice sd.A sd.n sd.c) := HC.out.cell 5
      have k0 : u.cell? ⟨g, 0, none⟩ = some (.int .i64 d0) := HG.out.cell 0
      have k1 : u.cell? ⟨g, 1, none⟩ = some (.int .i64 d1) := HG.out.cell 1
      go_upto_region 11 with (go_at_call 19; refine (HMA.out _ ((HIN.out.below HB.out).br) ((HIN.out.below HB.out).kr)).mono ?_; rintro e2 u ⟨q, gg, A2, cc2, Ax, Ak2, cx, ck2, rfl, hN, hb, hq, hgq⟩)
      obtain ⟨F, hN1, hF1⟩ : ∃ F, Nd u q big d0 b key false 0 (startK big b key) F ∧ ∀ k, k ∈ F → w.heap.size < k := ⟨_, hN.nd, fun k hk => Nat.lt_of_lt_of_le HC.out.lt (hN.low hq hgq k hk)⟩
      replace HC := Lib.hid (HC.out.below hb HC.out.lt)
      replace HB := Lib.hid (bcall HB.out hb)
      have HN := Lib.hid hN1; have HF := Lib.hid hF1
      clear hN hb hq hgq hN1 hF1 k0 k1
      clear c0 c1 c2 c3 c4 c5
      obtain ⟨ge, hb0, -⟩ := HN.out.engine
      have e4 : u.cell? ⟨q, 4, none⟩ = some (.bool false) := hb0.cell 4
      have f4 := hb0.frozen 4
      have hq1 := hb0.lt
      have c3 : u.cell? ⟨w.heap.size, 3, none⟩ = some (.bool last) := HC.out.cell 3
      clear hb0 ge
      go_upto_region 12 with fail
      have hqw := HF.out q HN.out.here
      replace HN := Lib.hid (HN.out.put4 last)
      replace HC := Lib.hid (HC.out.far (p := ⟨q, 4, none⟩) (Nat.ne_of_lt hqw) (.bool last))
      replace HB := Lib.hid (bput HB.out (p := ⟨q, 4, none⟩) (Nat.le_of_lt hqw) (.bool last))
      generalize u.setCell ⟨q, 4, none⟩ (.bool last) = u at *
      clear e4 f4 hq1 c3 hqw
      obtain ⟨ge, hbk, -⟩ := HN.out.engine
      have c6 : u.cell? ⟨q, 6, none⟩ = some (.iface (startK big b key).T (.pointer (some ⟨ge, 0, none⟩))) := hbk.cell 6
      have hq2 := hbk.lt
      have c5 : u.cell? ⟨w.heap.size, 5, none⟩ = some (.slice sd.A sd.n sd.c) := HC.out.cell 5
      clear hbk
      refine wp_region_ords (fun _ => True) (fun _ _ h => h) (Ords.of [(0, 0), (0, 1), (0, 2), (1, 3), (0, 4), (1, 5), (2, 6)] .fin) (by kernel_rfl) rfl (by kernel_rfl) (by kernel_rfl) (fun c a d v w h => by cases d <;> exact h) trivial ?_
      iterate 3 (refine ords_pure rfl (fun K hK => ?_); go_simp; refine hK _ ?_; clear hK K)
      refine ords_read rfl (fun K hK => ?_); go_simp; refine hK _ ?_; clear hK K
      refine ords_pure rfl (fun K hK => ?_); go_simp; refine hK _ ?_; clear hK K
      refine ords_read rfl (fun K hK => ?_); go_simp; refine hK _ ?_; clear hK K
      refine ords_loud rfl (fun n1 => ?_)
      replace HN := Lib.hid (HN.out.drewN n1)
      replace HC := Lib.hid (HC.out.drewN n1)
      replace HB := Lib.hid (bdr HB.out n1)
      replace c6 := Lib.hid (show (u.drewN n1).cell? ⟨q, 6, none⟩ = _ from c6)
      clear c5 hq2
      generalize u.drewN n1 = u at *
      obtain ⟨ge2, hbk, hcall⟩ := HN.out.engine
      obtain rfl : ge = ge2 := by
        have h := c6.out.symm.trans (hbk.cell 6)
        injection h with h; injection h with _ h; injection h with h; injection h with h; injection h
      have HCALL := Lib.hid (hcall sd.A sd.n sd.c data HIN.out.dl HIN.out.dc.1 HIN.out.dc.2 ((HIN.out.below HB.out).dr) (fun h0 a ha h => Nat.lt_asymm (HIN.out.dr.low h0 a ha) (HF.out _ h)))
      clear hbk hcall c6
      go_wp2_with fail
      refine HCALL.out.mono ?_
      rintro r3 u ⟨rfl, F3, hN3, hF3, hB3⟩
      have hF4 : ∀ k, k ∈ F3 → w.heap.size < k := fun k hk => (hF3 k hk).elim (fun h => HF.out k h) (fun h => Nat.lt_of_lt_of_le HC.out.lt h)
      replace HC := Lib.hid (HC.out.but hB3 (fun h => Nat.lt_irrefl _ (HF.out _ h)))
      replace HB := Lib.hid (HB.out.trans (hB3.toBelow HB.out.size (fun k hk => Nat.le_of_lt (HF.out k hk))))
      clear HN HF
      have HN := Lib.hid hN3
      clear hN3 hF3 hB3 hF4 HCALL
      go_wp2_with fail
      first | (refine ⟨trivial, ?_⟩; refine ords_end (fun n2 => ?_)) | (rintro _ ⟨n2, rfl⟩)
      replace HN := Lib.hid (HN.out.drewN n2)
      replace HC := Lib.hid (HC.out.drewN n2)
      replace HB := Lib.hid (bdr HB.out n2)
      generalize u.drewN n2 = u at *
      have c4 : u.cell? ⟨w.heap.size, 4, none⟩ = some (.int .i64 m) := HC.out.cell 4
      go_wp2_with (go_at_call 20; refine (HOUT.out _ F3 q _ HN.out).mono ?_; rintro r4 w4 ⟨rfl, hb4⟩; have HB4 := Lib.hid hb4; clear hb4)
      exact bodyPost_ret (results_tmp2 rfl _ _ _) rfl ⟨rfl, bcall HB.out HB4.out⟩
end Go.Proofs.Ytghpofnaojbbkaa

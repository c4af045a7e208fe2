/-
  Call of a node, by the program. Contracts alone; no statement is claimed here.
-/
import Derived.Test.YtboihcigcfmhhaaDecC
namespace Go.Proofs.Ytboihcigcfmhhaa
open Go.RowKit
attribute [local go_sem] pureUpon Ords.of

theorem decode_any (big ext : Bool) (A : Option Addr) (n c : Nat) (b : List UInt8) (w : World) (hb : b.length = n) (hc : n ≤ c) (hcm : c ≤ 9223372036854775807) (hr : RS cB w w.heap.size A b) :
    Calls Try.prog 33 #[.int .i64 (kOf big), .slice A n c, .bool ext] w (DecAns big ext b w) := by
  by_cases hn : n = bOf big
  · cases big
    · subst hn
      exact decSmall_any ext A c b w hb hc hcm hr
    · subst hn
      exact decBig_any ext A c b w hb hc hcm hr
  · refine (decLen_any big ext A n c w hn).mono ?_
    rintro r w' ⟨e, rfl, he, h⟩
    exact ⟨zeroPar, e, rfl, .inr ⟨he, fun h => hn (by rw [← hb]; exact h.1)⟩, h⟩
/-- parameters of which all but the first two are whatever they are -/
def prV (d0 d1 : Int) (X : Pr) : Array Value := #[.int .i64 d0, .int .i64 d1, .int .i64 X.fanout, .int .i64 X.depth, .int .u32 X.leaf, .int .u64 X.offset, .int .u32 X.xof, .int .i64 X.nd, .int .i64 X.inner, .slice X.salt.A X.salt.n X.salt.c, .slice X.pers.A X.pers.n X.pers.c]
theorem prV_size (d0 d1 : Int) (X : Pr) : (Try.prog.info? 26).map (·.size) = some (prV d0 d1 X).size := Pr.size ⟨d0, d1, X.fanout, X.depth, X.leaf, X.offset, X.xof, X.nd, X.inner, X.salt, X.pers⟩
theorem prV_ones (d0 d1 : Int) (X : Pr) : (prV d0 d1 X).all (·.oneCell') = true := Pr.ones ⟨d0, d1, X.fanout, X.depth, X.leaf, X.offset, X.xof, X.nd, X.inner, X.salt, X.pers⟩
theorem decY_any {big ext : Bool} (A : Option Addr) (n c : Nat) (b : List UInt8) (w : World) (h : decOk big ext b) (hb : b.length = n) (hc : n ≤ c) (hcm : c ≤ 9223372036854775807) (hr : RS cB w w.heap.size A b) :
    Calls Try.prog 33 #[.int .i64 (kOf big), .slice A n c, .bool ext] w fun r w' => ∃ X : Pr, r = .returned (.tuple #[.agg (prV (fld b 0 1 : Nat) (fld b 1 1 : Nat) X), .int .i64 0]) ∧ Below w.heap.size w w' := by
  refine (decode_any big ext A n c b w hb hc hcm hr).mono ?_
  rintro r w' ⟨p, e, rfl, (⟨rfl, -, h1, h2⟩ | ⟨-, h3⟩), hB⟩
  · refine ⟨p, ?_, hB⟩
    rw [← h1, ← h2]
    rfl
  · exact absurd h h3
theorem decN_any {big ext : Bool} (A : Option Addr) (n c : Nat) (b : List UInt8) (w : World) (h : ¬ decOk big ext b) (hb : b.length = n) (hc : n ≤ c) (hcm : c ≤ 9223372036854775807) (hr : RS cB w w.heap.size A b) :
    Calls Try.prog 33 #[.int .i64 (kOf big), .slice A n c, .bool ext] w fun r w' => ∃ (X : Pr) (e : Int), r = .returned (.tuple #[.agg (prV X.digest X.key X), .int .i64 e]) ∧ (e != 0) = true ∧ Below w.heap.size w w' := by
  refine (decode_any big ext A n c b w hb hc hcm hr).mono ?_
  rintro r w' ⟨p, e, rfl, (⟨-, h3, -⟩ | ⟨h3, -⟩), hB⟩
  · exact absurd h3 h
  · exact ⟨p, e, rfl, by simpa using h3, hB⟩
instance (big ext : Bool) (b : List UInt8) : Decidable (decOk big ext b) :=
  decidable_of_iff (b.length = bOf big ∧ (big = true → ∀ i, i < 32 → 18 ≤ i → b[i]? = some 0) ∧ (ext = true → fld b 12 (if big then 4 else 2) ≠ 0) ∧ chk (kOf big) (decPr big ext b (sl4 big) (sl4 big)) = 0) (by
    unfold decOk
    constructor
    · rintro ⟨h1, h2, h3⟩; exact ⟨h1, fun h i a b => h2 h i b a, h3⟩
    · rintro ⟨h1, h2, h3⟩; exact ⟨h1, fun h i a b => h2 h i b a, h3⟩)
/-- may the block be, in one of the forms? -/
def blkOk (big : Bool) (b : List UInt8) : Prop := decOk big false b ∨ decOk big true b
instance (big : Bool) (b : List UInt8) : Decidable (blkOk big b) := inferInstanceAs (Decidable (_ ∨ _))
/-- what Call tells: the bytes, the error -/
def callS (k : Int) (b key : List UInt8) (last : Bool) (m : Int) (data : List UInt8) : List UInt8 × Int :=
  if k ≠ 1 ∧ k ≠ 2 then ([], 1) else if ¬ blkOk (decide (k = 1)) b then ([], 4) else if key.length ≠ 0 ∧ key.length ≠ fld b 1 1 then ([], 8) else if m < 1 ∨ mostOf k < m then ([], 1) else ((((startK (decide (k = 1)) b key).feed data).out last).take m.toNat, 0)
/-- the ways of a call of Call -/
theorem call_ways {P : List UInt8 × Int → Prop} (k : Int) (b key : List UInt8) (last : Bool) (m : Int) (data : List UInt8)
    (h1 : k ≠ 1 → k ≠ 2 → P ([], 1)) (h2 : ∀ big, k = kOf big → ¬ blkOk big b → P ([], 4))
    (h3 : ∀ big, k = kOf big → blkOk big b → key.length ≠ 0 → key.length ≠ fld b 1 1 → P ([], 8))
    (h4 : ∀ big, k = kOf big → blkOk big b → (key.length = 0 ∨ key.length = fld b 1 1) → (m < 1 ∨ (bOf big : Int) < m) → P ([], 1))
    (h5 : ∀ big, k = kOf big → blkOk big b → (key.length = 0 ∨ key.length = fld b 1 1) → ∀ n : Nat, m = n → 1 ≤ n ∧ n ≤ bOf big → P ((((startK big b key).feed data).out last).take n, 0)) : P (callS k b key last m data) := by
  unfold callS
  by_cases hk : k ≠ 1 ∧ k ≠ 2
  · rw [if_pos hk]; exact h1 hk.1 hk.2
  · rw [if_neg hk]
    obtain ⟨big, rfl⟩ : ∃ big, k = kOf big := by
      by_cases h : k = 1
      · exact ⟨true, h⟩
      · exact ⟨false, Decidable.not_not.1 (fun h2 => hk ⟨h, h2⟩)⟩
    rw [kOf_is, mostOf_k]
    by_cases hb : blkOk big b
    · rw [if_neg (fun h => h hb)]
      by_cases hkey : key.length ≠ 0 ∧ key.length ≠ fld b 1 1
      · rw [if_pos hkey]; exact h3 big rfl hb hkey.1 hkey.2
      · rw [if_neg hkey]
        have hkey' : key.length = 0 ∨ key.length = fld b 1 1 := by omega
        by_cases hm : m < 1 ∨ (bOf big : Int) < m
        · rw [if_pos hm]; exact h4 big rfl hb hkey' hm
        · rw [if_neg hm]; exact h5 big rfl hb hkey' m.toNat (by omega) (by omega)
    · rw [if_pos hb]; exact h2 big rfl hb
theorem fld1_le {big : Bool} {b : List UInt8} (h : blkOk big b) : fld b 1 1 ≤ bOf big := by
  rcases h with h | h
  · have h1 := (chk_range h.2.2.2).2.1.2
    change ((fld b 1 1 : Nat) : Int) ≤ _ at h1
    omega
  · have h1 := (chk_range h.2.2.2).2.1.2
    change ((fld b 1 1 : Nat) : Int) ≤ _ at h1
    omega
theorem blkOk.len {big : Bool} {b : List UInt8} (h : blkOk big b) : b.length = bOf big := h.elim (fun h => h.1) (fun h => h.1)
/-- a call as a value -/
def callV (k : Int) (b key data : Sl) (last : Bool) (m : Int) : Array Value := #[.int .i64 k, .slice b.A b.n b.c, .slice key.A key.n key.c, .bool last, .int .i64 m, .slice data.A data.n data.c]
/-- what a call's slices hold -/
structure CallIn (w : World) (sb sk sd : Sl) (b key data : List UInt8) : Prop where
  bl : b.length = sb.n
  bc : sb.n ≤ sb.c ∧ sb.c ≤ 9223372036854775807
  br : RS cB w w.heap.size sb.A b
  kl : key.length = sk.n
  kr : RS cB w w.heap.size sk.A key
  dl : data.length = sd.n
  dc : sd.n ≤ sd.c ∧ sd.c ≤ 9223372036854775807
  dr : RS cB w w.heap.size sd.A data
theorem CallIn.below {w w' : World} {sb sk sd : Sl} {b key data : List UInt8} (h : CallIn w sb sk sd b key data) (hb : Below w.heap.size w w') : CallIn w' sb sk sd b key data :=
  ⟨h.bl, h.bc, (h.br.below hb).more hb.size, h.kl, (h.kr.below hb).more hb.size, h.dl, h.dc, (h.dr.below hb).more hb.size⟩
theorem kind_tests (big : Bool) : (kOf big != 1) = false ∨ ((kOf big != 1) = true ∧ (kOf big != 2) = false) := by cases big; exact .inr ⟨rfl, rfl⟩; exact .inl rfl
end Go.Proofs.Ytboihcigcfmhhaa

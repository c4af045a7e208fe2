/-
  Ar: contracts and lemmas alone; no statement is claimed here.
-/
import Derived.Test.YtbghkdhkahkfnaaCoreA
import Derived.Test.YtbghkdhkahkfnaaMx
import Derived.Deep.CutRange
/- A setting of Argon2: which may be, its segments and columns, by the program and by the reference. Contracts alone; no statement is claimed here. -/
namespace Go.Proofs.Ytbghkdhkahkfnaa
open Go.RowKit

structure Ar where
  kind : Int
  mem : Int
  passes : Int
  lanes : Int
  tag : Int
def Ar.v (a : Ar) : Value := .agg #[.int .i64 a.kind, .int .i64 a.mem, .int .i64 a.passes, .int .i64 a.lanes, .int .i64 a.tag]
def Ar.ok (a : Ar) : Prop := 0 ≤ a.kind ∧ a.kind ≤ 2 ∧ 1 ≤ a.lanes ∧ a.lanes ≤ 8 ∧ 8 * a.lanes ≤ a.mem ∧ a.mem ≤ 4096 ∧ 1 ≤ a.passes ∧ a.passes ≤ 16 ∧ 4 ≤ a.tag ∧ a.tag ≤ 1024
instance (a : Ar) : Decidable a.ok := by unfold Ar.ok; infer_instance
def Ar.seg (a : Ar) : Int := a.mem / (4 * a.lanes)

def bcells (a : Ar) : Array Value := #[.int .i64 a.kind, .int .i64 0, .int .i64 2, .int .i64 a.lanes, .int .i64 1, .int .i64 8, .int .i64 a.passes, .int .i64 1, .int .i64 16, .int .i64 a.tag, .int .i64 4, .int .i64 1024, .int .i64 a.mem, .int .i64 8, .int .i64 4096]

set_option maxHeartbeats 1000000 in
theorem bounds_any (a : Ar) (w : World) : Calls Try.prog 28 #[a.v] w fun e w' => ∃ g, e = .returned (.slice (some ⟨g, 0, none⟩) 5 5) ∧ Blk w' g 72 (bcells a) ∧ w.heap.size ≤ g ∧ Below w.heap.size w w' := by
 obtain ⟨k, m, p, l, t⟩ := a
 unfold Ar.v
 dsimp only
 go_enter Try.func28, Try.ntmps28
 go_wp2
 refine bodyPost_ret (results_tmp rfl _ _ _) rfl ⟨_, rfl, ?_, by omega, ((Below.refl _ _).alloc (Nat.le_refl _) _).alloc (by simp) _⟩
 have := Blk.new (w.alloc (.cells #[.int .i64 k, .int .i64 m, .int .i64 p, .int .i64 l, .int .i64 t] 23)) 72 (bcells ⟨k, m, p, l, t⟩)
 unfold bcells at this ⊢
 simpa using this

def Ar.upTo (a : Ar) (k : Nat) : Prop := (1 ≤ k → 0 ≤ a.kind ∧ a.kind ≤ 2) ∧ (2 ≤ k → 1 ≤ a.lanes ∧ a.lanes ≤ 8) ∧ (3 ≤ k → 1 ≤ a.passes ∧ a.passes ≤ 16) ∧ (4 ≤ k → 4 ≤ a.tag ∧ a.tag ≤ 1024) ∧ (5 ≤ k → 8 ≤ a.mem ∧ a.mem ≤ 4096)

theorem bound_at (a : Ar) (n : Nat) (hn : n < 5) : ∃ b lo hi : Int, (bcells a)[n * 3]? = some (.int .i64 b) ∧ (bcells a)[n * 3 + 1]? = some (.int .i64 lo) ∧ (bcells a)[n * 3 + 2]? = some (.int .i64 hi) ∧
  (a.upTo n → lo ≤ b → b ≤ hi → a.upTo (n + 1)) ∧ (b < lo ∨ hi < b → ¬ a.ok) := by
 have h : n = 0 ∨ n = 1 ∨ n = 2 ∨ n = 3 ∨ n = 4 := by omega
 unfold Ar.upTo Ar.ok
 rcases h with rfl | rfl | rfl | rfl | rfl <;> exact ⟨_, _, _, rfl, rfl, rfl, by omega, by omega⟩

set_option maxHeartbeats 4000000 in
theorem may_any (a : Ar) (w : World) : Calls Try.prog 16 #[a.v] w fun e w' => e = .returned (.bool (decide a.ok)) ∧ Below w.heap.size w w' := by
 obtain ⟨r, hr⟩ : ∃ r : Bool, r = decide a.ok := ⟨_, rfl⟩
 rw [← hr]
 have HR := Lib.hid hr; clear hr
 obtain ⟨H, hH⟩ : ∃ H, H = w.heap.size := ⟨_, rfl⟩
 have hb := bounds_any a
 obtain ⟨k, m, p, l, t⟩ := a
 unfold Ar.v at *
 dsimp only at *
 have HB := Lib.hid hb; clear hb
 rw [← hH]
 go_enter Try.func16, Try.ntmps16
 go_wp2_with (go_at_call 28; refine (HB.out _).mono ?_; rintro e w1 ⟨g, rfl, hg, hle, hb1⟩)
 have hbw : Below H w w1 := (((Below.refl _ _).alloc (by omega) _).trans (hb1.mono (by simp; omega)))
 have hcell : Blk w1 w.heap.size 23 #[.int .i64 k, .int .i64 m, .int .i64 p, .int .i64 l, .int .i64 t] := (Blk.new w 23 _).below hb1 (by simp)
 rw [← hH] at *
 have HG := Lib.hid hg; have HC := Lib.hid hcell; have HH := Lib.hid hH; clear hg hcell hH hle hb1
 go_loopw [4, 8] (fun c i wr => ∃ n : Nat, n ≤ 5 ∧ i = .int .i64 n ∧ (Ar.mk k m p l t).upTo n ∧ Blk wr g 72 (bcells ⟨k, m, p, l, t⟩) ∧ Blk wr H 23 #[.int .i64 k, .int .i64 m, .int .i64 p, .int .i64 l, .int .i64 t] ∧ Below H w wr) (fun _ i _ => 5 - (intOf i).toNat)
 case atStart => exact ⟨0, by omega, rfl, by unfold Ar.upTo; omega, HG.out, HC.out, hbw⟩
 case round =>
  obtain ⟨n, hn, rfl, hu, hg, hc, hB⟩ := hrel
  have hB1 := hB; clear hB
  have c0 : wr.cell? ⟨H, 1, none⟩ = some (.int .i64 m) := hc.cell 1
  have c1 : wr.cell? ⟨H, 3, none⟩ = some (.int .i64 l) := hc.cell 3
  by_cases hlt : n < 5
  ·obtain ⟨b, lo, hi, a0, a1, a2, hup, hno⟩ := bound_at ⟨k, m, p, l, t⟩ n hlt
   have s0 := (hg.cell _).trans a0
   have s1 := (hg.cell _).trans a1
   have s2 := (hg.cell _).trans a2
   have hgs := hg.lt
   have HC := Lib.hid hc; have HG := Lib.hid hg; have HU := Lib.hid hu; clear hc hg hu a0 a1 a2
   have HUP := Lib.hid hup; have HNO := Lib.hid hno; clear hup hno
   go_wp2
   ·rename_i hx
    have hr := HR.out
    rw [decide_eq_false (HNO.out (by omega))] at hr
    exact bodyPost_ret (results_tmp rfl _ _ _) rfl ⟨by rw [hr]; rfl, hB1.alloc (Nat.le_of_lt HC.out.lt) _⟩
   ·rename_i hx
    exact ⟨⟨n + 1, by omega, rfl, HUP.out HU.out hx.1 hx.2, HG.out.alloc _, HC.out.alloc _, hB1.alloc (Nat.le_of_lt HC.out.lt) _⟩, by simp only [intOf]; omega⟩
   ·rename_i hx
    have hr := HR.out
    rw [decide_eq_false (HNO.out (by omega))] at hr
    exact bodyPost_ret (results_tmp rfl _ _ _) rfl ⟨by rw [hr]; rfl, hB1.alloc (Nat.le_of_lt HC.out.lt) _⟩
  ·obtain rfl : n = 5 := by omega
   unfold Ar.upTo at hu
   dsimp only at hu
   obtain ⟨hk, hl, hp, ht, hm⟩ := hu
   have hk := hk (by omega); have hl := hl (by omega); have hp := hp (by omega); have ht := ht (by omega); have hm := hm (by omega)
   have hr : r = decide (8 * l ≤ m) := by
    rw [HR.out]
    refine decide_eq_decide.2 ?_
    unfold Ar.ok
    dsimp only
    omega
   have HR := Lib.hid hr; clear hr
   obtain ⟨hl1, hl2⟩ := hl
   have HC := Lib.hid hc; clear hc hg hk hp ht hm
   go_wp2
   exact bodyPost_ret (results_tmp rfl _ _ _) rfl ⟨by rw [HR.out]; simp [go_sem], hB1⟩

theorem seg_range {a : Ar} (h : a.ok) : 2 ≤ a.seg ∧ a.seg ≤ 1024 ∧ IntKind.i64.wrap (4 * a.lanes) = 4 * a.lanes ∧ a.mem.tdiv (4 * a.lanes) = a.seg ∧ IntKind.i64.wrap a.seg = a.seg := by
 unfold Ar.ok at h
 unfold Ar.seg
 obtain ⟨h1, h2, h3, h4, h5, h6, _⟩ := h
 have e1 : a.mem / (4 * a.lanes) ≤ 1024 := by
  have : a.lanes = 1 ∨ a.lanes = 2 ∨ a.lanes = 3 ∨ a.lanes = 4 ∨ a.lanes = 5 ∨ a.lanes = 6 ∨ a.lanes = 7 ∨ a.lanes = 8 := by omega
  rcases this with h | h | h | h | h | h | h | h <;> rw [h] <;> omega
 have e2 : 2 ≤ a.mem / (4 * a.lanes) := by
  rw [Int.le_ediv_iff_mul_le (by omega)]; omega
 have w : ∀ n : Int, 0 ≤ n → n ≤ 100000 → IntKind.i64.wrap n = n := fun n h0 h1 => by
  simp [IntKind.wrap, IntKind.bits, IntKind.signed]; omega
 exact ⟨e2, e1, w _ (by omega) (by omega), Int.tdiv_eq_ediv_of_nonneg (by omega), w _ (by omega) (by omega)⟩
end Go.Proofs.Ytbghkdhkahkfnaa

/- Segments, columns, by the program and by the reference. Contracts alone; no statement is claimed here. -/
namespace Go.Proofs.Ytbghkdhkahkfnaa
open Go.RowKit

theorem segment_any {a : Ar} (h : a.ok) (w : World) : Calls Try.prog 32 #[a.v] w fun e w' => e = .returned (.int .i64 a.seg) ∧ Below w.heap.size w w' := by
 obtain ⟨h1, h2, e1, e2, e3⟩ := seg_range h
 unfold Ar.ok at h
 generalize hs : a.seg = s at *
 obtain ⟨k, m, p, l, t⟩ := a
 clear hs
 unfold Ar.v
 dsimp only at *
 obtain ⟨_, _, h3, h4, _⟩ := h
 have e4 : m / (4 * l) = s := by rw [← e2, Int.tdiv_eq_ediv_of_nonneg (by omega)]
 go_enter Try.func32, Try.ntmps32
 go_wp2
 exact bodyPost_ret (results_tmp rfl _ _ _) rfl ⟨rfl, (Below.refl _ _).alloc (Nat.le_refl _) _⟩

theorem columns_any {a : Ar} (h : a.ok) (w : World) : Calls Try.prog 22 #[a.v] w fun e w' => e = .returned (.int .i64 (4 * a.seg)) ∧ Below w.heap.size w w' := by
 obtain ⟨h1, h2, _⟩ := seg_range h
 have hs := fun w => segment_any h w
 generalize hs' : a.seg = s at *
 obtain ⟨k, m, p, l, t⟩ := a
 unfold Ar.v at *
 have HS := Lib.hid hs; clear hs hs' h
 go_enter Try.func22, Try.ntmps22
 go_wp2_with (go_at_call 32; refine (HS.out _).mono ?_; rintro e w1 ⟨rfl, hb1⟩)
 exact bodyPost_ret (results_tmp rfl _ _ _) rfl ⟨rfl, ((Below.refl _ _).alloc (Nat.le_refl _) _).trans (hb1.mono (by simp))⟩

end Go.Proofs.Ytbghkdhkahkfnaa

/- The reference block that a number draws, by the program and by the reference. Contracts alone; no statement is claimed here. -/
namespace Go.Proofs.Ytbghkdhkahkfnaa
open Go.RowKit
attribute [local go_sem] pureUpon Ords.of

def spotBad (a : Ar) (p s l x : Int) : Prop := p < 0 ∨ a.passes ≤ p ∨ s < 0 ∨ 3 < s ∨ l < 0 ∨ a.lanes ≤ l ∨ x < 0 ∨ a.seg ≤ x ∨ (p = 0 ∧ s = 0 ∧ x < 2)
def hiOf (j : UInt64) : Int := ((j.toNat / 4294967296 : Nat) : Int)
def refL (a : Ar) (p s l : Int) (j : UInt64) : Int := if p = 0 ∧ s = 0 then l else hiOf j % a.lanes
def refWhole (a : Ar) (p s : Int) : Int := if p = 0 then s * a.seg else 3 * a.seg
def refStart (a : Ar) (p s : Int) : Int := if p = 0 ∨ s = 3 then 0 else (s + 1) * a.seg
def areaOf (L l whole x : Int) : Int := if L = l then whole + x - 1 else if x = 0 then whole - 1 else whole
def quotOf (area : Int) (j : UInt64) : Int := area * ((lo j * lo j) / 4294967296) / 4294967296
def refZ (a : Ar) (p s l x : Int) (j : UInt64) : Int :=
  let area := areaOf (refL a p s l j) l (refWhole a p s) x
  (refStart a p s + area - 1 - quotOf area j) % (4 * a.seg)

structure Known (a : Ar) (p s l x : Int) (j : UInt64) (g ll v o oo W S A q Z : Int) : Prop where
  g2 : 2 ≤ g
  g1024 : g ≤ 1024
  l1 : 1 ≤ ll
  l8 : ll ≤ 8
  s0 : 0 ≤ s
  s3 : s ≤ 3
  lane : 0 ≤ l ∧ l < ll
  x0 : 0 ≤ x
  xg : x < g
  v0 : 0 ≤ v
  v8 : v < ll
  vt : (wrd j / 4294967296).tmod ll = v
  ve : (wrd j / 4294967296) % ll = v
  lo_ : lo j = o
  o0 : 0 ≤ o
  o1 : o < 4294967296
  ow : IntKind.u64.wrap (o * o) = o * o
  oo_ : o * o / 4294967296 = oo
  oo0 : 0 ≤ oo
  oo1 : oo < 4294967296
  sg0 : 0 ≤ s * g
  sg1 : s * g ≤ 3 * g
  sg2 : (s + 1) * g = s * g + g
  W_ : W = if p = 0 then s * g else 3 * g
  S_ : S = if p = 0 ∨ s = 3 then 0 else (s + 1) * g
  A_ : A = areaOf (refL a p s l j) l W x
  L_ : refL a p s l j = if p = 0 ∧ s = 0 then l else v
  A1 : 1 ≤ A
  A2 : A < 4 * g
  S0 : 0 ≤ S
  S1 : S ≤ 4 * g
  aw : IntKind.u64.wrap (A * oo) = A * oo
  q_ : A * oo / 4294967296 = q
  q0 : 0 ≤ q
  q1 : q < A
  Zt : (S + A - 1 - q).tmod (4 * g) = Z
  Z0 : 0 ≤ Z
  Z1 : Z < 4 * g

set_option linter.unusedSimpArgs false in
theorem known {a : Ar} (h : a.ok) {p s l x : Int} (j : UInt64) (hb : ¬ spotBad a p s l x) : ∃ v o oo W S A q, Known a p s l x j a.seg a.lanes v o oo W S A q (refZ a p s l x j) := by
  obtain ⟨h1, h2, _⟩ := seg_range h
  unfold Ar.ok at h
  unfold spotBad at hb
  have hs : s = 0 ∨ s = 1 ∨ s = 2 ∨ s = 3 := by omega
  have sg : 0 ≤ s * a.seg ∧ s * a.seg ≤ 3 * a.seg ∧ (s + 1) * a.seg = s * a.seg + a.seg ∧ (s ≠ 0 → a.seg ≤ s * a.seg) ∧ (s ≠ 3 → s * a.seg ≤ 2 * a.seg) := by
    rcases hs with rfl | rfl | rfl | rfl <;> omega
  obtain ⟨sg0, sg1, sg2, sg3, sg4⟩ := sg
  have hlanes : 0 < a.lanes := by omega
  have hhi : 0 ≤ hiOf j := by unfold hiOf; omega
  have hw : wrd j / 4294967296 = hiOf j := by unfold hiOf wrd; omega
  have hv0 := Int.emod_nonneg (hiOf j) (show a.lanes ≠ 0 by omega)
  have hv1 := Int.emod_lt_of_pos (hiOf j) hlanes
  have ho : 0 ≤ lo j ∧ lo j < 4294967296 := by unfold lo; omega
  have hoo : 0 ≤ lo j * lo j ∧ lo j * lo j ≤ 4294967295 * 4294967295 := ⟨Int.mul_nonneg ho.1 ho.1, Int.mul_le_mul (by omega) (by omega) ho.1 (by omega)⟩
  have hl : refL a p s l j = if p = 0 ∧ s = 0 then l else hiOf j % a.lanes := rfl
  have hA : 1 ≤ areaOf (refL a p s l j) l (refWhole a p s) x ∧ areaOf (refL a p s l j) l (refWhole a p s) x < 4 * a.seg := by
    unfold areaOf refWhole
    rw [hl]
    by_cases hp : p = 0 <;> by_cases hs0 : s = 0 <;> simp only [hp, hs0, true_and, and_true, false_and, and_false, if_true, if_false] <;> (repeat' split) <;> (try subst hs0) <;> omega
  obtain ⟨A1, A2⟩ := hA
  have hS : 0 ≤ refStart a p s ∧ refStart a p s ≤ 4 * a.seg := by
    unfold refStart
    split <;> omega
  generalize hAA : areaOf (refL a p s l j) l (refWhole a p s) x = A at *
  have hoo2 : 0 ≤ lo j * lo j / 4294967296 ∧ lo j * lo j / 4294967296 < 4294967296 := by omega
  have haoo : 0 ≤ A * (lo j * lo j / 4294967296) ∧ A * (lo j * lo j / 4294967296) ≤ A * 4294967295 := ⟨Int.mul_nonneg (by omega) hoo2.1, Int.mul_le_mul_of_nonneg_left (by omega) (by omega)⟩
  have hz : refZ a p s l x j = (refStart a p s + A - 1 - A * (lo j * lo j / 4294967296) / 4294967296) % (4 * a.seg) := by
    unfold refZ quotOf; simp only [hAA]
  have hq : 0 ≤ A * (lo j * lo j / 4294967296) / 4294967296 ∧ A * (lo j * lo j / 4294967296) / 4294967296 < A := by omega
  refine ⟨hiOf j % a.lanes, lo j, lo j * lo j / 4294967296, refWhole a p s, refStart a p s, A, A * (lo j * lo j / 4294967296) / 4294967296, ?_⟩
  exact { g2 := h1, g1024 := h2, l1 := by omega, l8 := by omega, s0 := by omega, s3 := by omega, lane := by omega, x0 := by omega, xg := by omega, v0 := hv0, v8 := hv1,
          vt := by rw [hw, Int.tmod_eq_emod_of_nonneg hhi], ve := by rw [hw], lo_ := rfl, o0 := ho.1, o1 := ho.2, ow := by rw [wrap_u64]; omega, oo_ := rfl, oo0 := hoo2.1, oo1 := hoo2.2, sg0 := sg0, sg1 := sg1, sg2 := sg2,
          W_ := rfl, S_ := rfl, A_ := hAA.symm, L_ := hl, A1 := A1, A2 := A2, S0 := hS.1, S1 := hS.2, aw := by rw [wrap_u64]; omega, q_ := rfl, q0 := hq.1, q1 := hq.2,
          Zt := by rw [hz, Int.tmod_eq_emod_of_nonneg (by omega)], Z0 := by rw [hz]; exact Int.emod_nonneg _ (by omega), Z1 := by rw [hz]; exact Int.emod_lt_of_pos _ (by omega) }
end Go.Proofs.Ytbghkdhkahkfnaa

/- Addresses, in plain Lean. Lemmas alone; no statement is claimed here. -/
namespace Go.Proofs.Ytbghkdhkahkfnaa
open Go.RowKit

def uw (x : Int) : UInt64 := UInt64.ofNat x.toNat
theorem wrd_uw (x : Int) (h0 : 0 ≤ x) (h1 : x ≤ 9223372036854775807) : wrd (uw x) = x := by
 unfold wrd uw
 rw [UInt64.toNat_ofNat', Nat.mod_eq_of_lt (by omega)]
 omega
theorem wrd_wrap (v : UInt64) : IntKind.u64.wrap (wrd v) = wrd v := by
 rw [wrap_u64]; have := wrd_lo v; have := wrd_lt v; unfold wrd at *; omega

def zeroB : List UInt8 := List.replicate 1024 0
theorem zeroB_len : zeroB.length = 1024 := List.length_replicate ..
def adrIn (L : List UInt64) : List UInt8 := flat L ++ List.replicate 968 0
theorem adrIn_len (L : List UInt64) (h : L.length = 7) : (adrIn L).length = 1024 := by
 unfold adrIn
 rw [List.length_append, flat_len, h, List.length_replicate]
def adrB (L : List UInt64) : List UInt8 := mixB zeroB (mixB zeroB (adrIn L))
theorem adrB_len (L : List UInt64) : (adrB L).length = 1024 := mixB_len _ _
def adrL (a : Ar) (p s l : Int) (n : Nat) : List UInt64 := [uw p, uw l, uw s, uw (a.lanes * (4 * a.seg)), uw a.passes, uw a.kind, UInt64.ofNat n]
def adrW (a : Ar) (p s l : Int) (x : Nat) : UInt64 := word (((adrB (adrL a p s l (x / 128 + 1))).drop (8 * (x % 128))).take 8)
def adrs (a : Ar) (p s l : Int) : List UInt64 := (List.range a.seg.toNat).map (adrW a p s l)
theorem adrs_len (a : Ar) (p s l : Int) : (adrs a p s l).length = a.seg.toNat := by simp [adrs]
theorem adrs_at (a : Ar) (p s l : Int) (x : Nat) (h : x < a.seg.toNat) : (adrs a p s l)[x]? = some (adrW a p s l x) := by simp [adrs, h]
def adrBad (a : Ar) (p s l : Int) : Prop := p < 0 ∨ a.passes ≤ p ∨ s < 0 ∨ 3 < s ∨ l < 0 ∨ a.lanes ≤ l
instance (a : Ar) (p s l : Int) : Decidable (adrBad a p s l) := by unfold adrBad; infer_instance

theorem OS.ne_ {α β : Type} {cd : Cod α} {ce : Cod β} {w : World} {base base' c c' : Nat} {A A' : Option Addr} {l : List α} {m : List β} (h : OS cd w base A c l) (h' : OS ce w base' A' c' m) (hne : cd.e ≠ ce.e) :
  ∀ a, A = some a → A'.map (·.block) ≠ some a.block := by
 intro a ha e
 cases A' with
 | none => cases e
 | some b =>
  simp at e
  rcases h.2 with ⟨hv, _⟩ | ⟨g, cap, cur, hv, _, hh, _⟩
  ·injection hv with hv; rw [ha] at hv; cases hv
  ·rcases h'.2 with ⟨hv', _⟩ | ⟨g', cap', cur', hv', _, hh', _⟩
   ·injection hv' with hv'; cases hv'
   ·injection hv with hv; injection hv' with hv'
    rw [ha] at hv; injection hv with hv; injection hv' with hv'
    subst hv; subst hv'
    simp at e
    subst e
    rw [hh] at hh'
    injection hh' with hh'
    injection hh' with _ ht
    exact hne ht
end Go.Proofs.Ytbghkdhkahkfnaa

/- The reference block, walked: the program. Contracts alone; no statement is claimed here. -/
namespace Go.Proofs.Ytbghkdhkahkfnaa
open Go.RowKit
attribute [local go_sem] pureUpon Ords.of

theorem pure_load_rowA {P : Program} {o : Oper} {a : Act} {w : World} (ty : TypeId) (x : Operand) (ho : o.op = .load ty x)
  (g : Nat) (hx : a.eval x = .pointer (some ⟨g, 0, none⟩)) (t : TypeId) (cs : Array Value) (fr : Nat × Nat) (d : TypeDesc) (hg : w.heap[g]? = some (.cells cs t fr))
  (hu : P.underlying ty = some d) (hd : (match d with | .struct _ | .array _ _ => true | _ => false) = true) (hi : (P.info? ty).map (·.size) = some cs.size) :
  pureUpon w (.agg cs) ((execOp a.eval o).run P w) := by
 unfold execOp
 simp only [ho, hx, Instr.loadAt, Instr.sureAddr, Sem.run_bind, Sem.run_pure, Result.andThen_ok, run_loadVar_row w g t ty cs fr d hg hu hd hi]
 exact ⟨rfl, rfl⟩

set_option maxRecDepth 10000 in
set_option maxHeartbeats 4000000 in
theorem refer_any {a : Ar} (h : a.ok) {p s l x : Int} (j : UInt64) (hb : ¬ spotBad a p s l x) (w : World) :
  Calls Try.prog 38 #[a.v, .int .i64 p, .int .i64 s, .int .i64 l, .int .i64 x, .int .u64 (wrd j)] w fun e w' => e = .returned (.tuple #[.int .i64 (refL a p s l j), .int .i64 (refZ a p s l x j)]) ∧ Below w.heap.size w w' := by
 obtain ⟨v, o, oo, W, S, A, q, K⟩ := known h j hb
 have hs := fun w => segment_any h w
 have hc := fun w => columns_any h w
 clear hb h
 generalize refZ a p s l x j = Z at *
 have KL := K.L_
 have KA := K.A_
 generalize refL a p s l j = L at *
 generalize a.seg = g at *
 obtain ⟨kk, m, pp, ll, t⟩ := a
 unfold Ar.v at *
 dsimp only at *
 have HS := Lib.hid hs; have HC := Lib.hid hc; clear hs hc
 have HL := Lib.hid KL; have HA := Lib.hid KA; clear KL KA
 have g2 := K.g2; have g1024 := K.g1024; have l1 := K.l1; have l8 := K.l8; have s0 := K.s0; have s3 := K.s3
 obtain ⟨n0, n1⟩ := K.lane
 have x0 := K.x0; have xg := K.xg; have v0 := K.v0; have v8 := K.v8; have vt := K.vt; have ve := K.ve
 have sg0 := K.sg0; have sg1 := K.sg1
 have sg2 : 0 ≤ (s + 1) * g ∧ (s + 1) * g ≤ 4 * g := by have := K.sg2; omega
 obtain ⟨sg2, sg3⟩ := sg2
 have fl : IntKind.u64.wrap ll = ll := by rw [wrap_u64]; omega
 have K' := Lib.hid K; clear K
 obtain ⟨H, hH⟩ : ∃ H, H = w.heap.size := ⟨_, rfl⟩
 rw [← hH]
 go_enter Try.func38, Try.ntmps38
 go_upto_region 1 with fail
 have HX : Blk (w.alloc (.cells #[.int .i64 kk, .int .i64 m, .int .i64 pp, .int .i64 ll, .int .i64 t] 23)) H 23 #[.int .i64 kk, .int .i64 m, .int .i64 pp, .int .i64 ll, .int .i64 t] := by rw [hH]; exact Blk.new _ _ _
 have hbw : Below H w (w.alloc (.cells #[.int .i64 kk, .int .i64 m, .int .i64 pp, .int .i64 ll, .int .i64 t] 23)) := (Below.refl _ _).alloc (by omega) _
 rw [← hH]
 have HH := Lib.hid hH; clear hH
 generalize w.alloc (.cells #[.int .i64 kk, .int .i64 m, .int .i64 pp, .int .i64 ll, .int .i64 t] 23) = w0 at *
 have HX := Lib.hid HX
 have c3 : w0.cell? ⟨H, 3, none⟩ = some (.int .i64 ll) := HX.out.cell 3
 have c0 : w0.cell? ⟨H, 0, none⟩ = some (.int .i64 kk) := HX.out.cell 0
 have c1 : w0.cell? ⟨H, 1, none⟩ = some (.int .i64 m) := HX.out.cell 1
 have c2 : w0.cell? ⟨H, 2, none⟩ = some (.int .i64 pp) := HX.out.cell 2
 have c4 : w0.cell? ⟨H, 4, none⟩ = some (.int .i64 t) := HX.out.cell 4
 have hu49 := Lib.hid Try.underlying23
 have hsz49 : (Try.prog.info? 23).map (·.size) = some (#[Value.int .i64 kk, .int .i64 m, .int .i64 pp, .int .i64 ll, .int .i64 t]).size := by kernel_rfl
 have cases : (p = 0 ∧ s = 0) ∨ (p = 0 ∧ s ≠ 0) ∨ (p ≠ 0 ∧ s = 3) ∨ (p ≠ 0 ∧ s ≠ 3) := by omega
 have HZ0 := Lib.hid sg0
 rcases cases with ⟨hp, hs⟩ | ⟨hp, hs⟩ | ⟨hp, hs⟩ | ⟨hp, hs⟩
 all_goals go_upto_if 57 with (go_at_call 32; refine (HS.out _).mono ?_; rintro e w1 ⟨rfl, hb1⟩; have HY := HX.out.below hb1 HX.out.lt; have d0 : w1.cell? ⟨H, 0, none⟩ = some (.int .i64 kk) := HY.cell 0; have d1 : w1.cell? ⟨H, 1, none⟩ = some (.int .i64 m) := HY.cell 1; have d2 : w1.cell? ⟨H, 2, none⟩ = some (.int .i64 pp) := HY.cell 2; have d3 : w1.cell? ⟨H, 3, none⟩ = some (.int .i64 ll) := HY.cell 3; have d4 : w1.cell? ⟨H, 4, none⟩ = some (.int .i64 t) := HY.cell 4; have HY := Lib.hid HY)
 ·go_cut [18] from 58 to 65 (fun u wx => u = .int .i64 A ∧ wx = w1)
  case first =>
   go_wp2_with fail
   all_goals go_meet
   all_goals refine ⟨congrArg _ ?_, rfl⟩
   all_goals have hA := HA.out
   all_goals have hL := HL.out
   all_goals have hW := K'.out.W_
   all_goals (try simp only [beq_iff_eq, beq_eq_false_iff_ne, ne_eq] at *)
   all_goals have hz : s = 0 → s * g = 0 := fun h => by rw [h]; omega
   all_goals unfold areaOf at hA
   all_goals split at hL <;> split at hW <;> split at hA <;> (try split at hA) <;> omega
  case rest =>
   obtain ⟨rfl, rfl⟩ := hcut
   have f1 : bits .and .u64 (wrd j) 4294967295 = o := by rw [and_lo, K'.out.lo_]
   have f2 := K'.out.ow
   have f3 := K'.out.oo_
   have f4 := K'.out.aw
   have f5 := K'.out.q_
   have b1 := K'.out.A1; have b2 := K'.out.A2; have b3 := K'.out.o0; have b4 := K'.out.o1; have b5 := K'.out.oo0; have b6 := K'.out.oo1; have b7 := K'.out.q0; have b8 := K'.out.q1; have b9 := K'.out.Z0; have b10 := K'.out.Z1
   have f7 : IntKind.u64.wrap A = A := by rw [wrap_u64]; omega
   have f6 := K'.out.Zt
   have f8 := K'.out.S_
   rw [if_pos (by omega)] at f8
   rw [f8, Int.zero_add] at f6
   clear f8
   go_upto_region 18 with fail
   refine wp_region_ords (fun w' => Blk w' H 23 #[.int .i64 kk, .int .i64 m, .int .i64 pp, .int .i64 ll, .int .i64 t]) (fun _ n h => h.drewN n)
    (Ords.of [(0, 0), (0, 1), (0, 2), (0, 3), (0, 4), (0, 5), (0, 6), (0, 7), (0, 8)] (.one 2 9 (.one 0 10 (.one 0 11 (.one 0 12 .fin))))) (by kernel_rfl) rfl (by kernel_rfl) (by kernel_rfl) (fun c a d v w h => by cases d <;> exact h) HY.out ?_
   iterate 8 (refine ords_pure rfl (fun K hK => ?_); go_simp; refine hK _ ?_; clear hK K)
   refine ords_held (v := .agg #[.int .i64 kk, .int .i64 m, .int .i64 pp, .int .i64 ll, .int .i64 t]) rfl rfl (fun w' hS => pure_load_rowA 23 _ rfl H rfl _ _ _ _ hS hu49.out rfl hsz49) ?_; go_simp
   refine ords_loud rfl (fun n1 => ?_)
   go_wp2_with (go_at_call 22; refine (HC.out _).mono ?_; rintro e w2 ⟨rfl, hb2⟩)
   have HY2 := (HY.out.drewN n1).below hb2 HY.out.lt
   refine ⟨HY2, ?_⟩
   have fz : ¬ 4 * g = 0 := by omega
   iterate 3 (refine ords_pure rfl (fun K hK => ?_); go_simp; refine hK _ ?_; clear hK K)
   refine ords_end (fun n2 => ?_)
   go_wp2
   refine bodyPost_ret (results_tmp2 rfl _ _ _) rfl ⟨?_, ?_⟩
   ·have hL := HL.out
    rw [if_pos (by omega)] at hL
    rw [hL]; rfl
   ·exact below_drewN (((hbw.trans (hb1.mono (Nat.le_of_lt HX.out.lt))).trans (below_drewN (Below.refl _ _) n1)).trans (hb2.mono (Nat.le_of_lt HY.out.lt))) n2
 ·go_cut [18] from 58 to 65 (fun u wx => u = .int .i64 A ∧ wx = w1)
  case first =>
   go_wp2_with fail
   all_goals go_meet
   all_goals refine ⟨congrArg _ ?_, rfl⟩
   all_goals have hA := HA.out
   all_goals have hL := HL.out
   all_goals have hW := K'.out.W_
   all_goals (try simp only [beq_iff_eq, beq_eq_false_iff_ne, ne_eq] at *)
   all_goals have hz : s = 0 → s * g = 0 := fun h => by rw [h]; omega
   all_goals unfold areaOf at hA
   all_goals split at hL <;> split at hW <;> split at hA <;> (try split at hA) <;> omega
  case rest =>
   obtain ⟨rfl, rfl⟩ := hcut
   have f1 : bits .and .u64 (wrd j) 4294967295 = o := by rw [and_lo, K'.out.lo_]
   have f2 := K'.out.ow
   have f3 := K'.out.oo_
   have f4 := K'.out.aw
   have f5 := K'.out.q_
   have b1 := K'.out.A1; have b2 := K'.out.A2; have b3 := K'.out.o0; have b4 := K'.out.o1; have b5 := K'.out.oo0; have b6 := K'.out.oo1; have b7 := K'.out.q0; have b8 := K'.out.q1; have b9 := K'.out.Z0; have b10 := K'.out.Z1
   have f7 : IntKind.u64.wrap A = A := by rw [wrap_u64]; omega
   have f6 := K'.out.Zt
   have f8 := K'.out.S_
   rw [if_pos (by omega)] at f8
   rw [f8, Int.zero_add] at f6
   clear f8
   go_upto_region 18 with fail
   refine wp_region_ords (fun w' => Blk w' H 23 #[.int .i64 kk, .int .i64 m, .int .i64 pp, .int .i64 ll, .int .i64 t]) (fun _ n h => h.drewN n)
    (Ords.of [(0, 0), (0, 1), (0, 2), (0, 3), (0, 4), (0, 5), (0, 6), (0, 7), (0, 8)] (.one 2 9 (.one 0 10 (.one 0 11 (.one 0 12 .fin))))) (by kernel_rfl) rfl (by kernel_rfl) (by kernel_rfl) (fun c a d v w h => by cases d <;> exact h) HY.out ?_
   iterate 8 (refine ords_pure rfl (fun K hK => ?_); go_simp; refine hK _ ?_; clear hK K)
   refine ords_held (v := .agg #[.int .i64 kk, .int .i64 m, .int .i64 pp, .int .i64 ll, .int .i64 t]) rfl rfl (fun w' hS => pure_load_rowA 23 _ rfl H rfl _ _ _ _ hS hu49.out rfl hsz49) ?_; go_simp
   refine ords_loud rfl (fun n1 => ?_)
   go_wp2_with (go_at_call 22; refine (HC.out _).mono ?_; rintro e w2 ⟨rfl, hb2⟩)
   have HY2 := (HY.out.drewN n1).below hb2 HY.out.lt
   refine ⟨HY2, ?_⟩
   have fz : ¬ 4 * g = 0 := by omega
   iterate 3 (refine ords_pure rfl (fun K hK => ?_); go_simp; refine hK _ ?_; clear hK K)
   refine ords_end (fun n2 => ?_)
   go_wp2
   refine bodyPost_ret (results_tmp2 rfl _ _ _) rfl ⟨?_, ?_⟩
   ·have hL := HL.out
    rw [if_neg (by omega)] at hL
    rw [hL]; rfl
   ·exact below_drewN (((hbw.trans (hb1.mono (Nat.le_of_lt HX.out.lt))).trans (below_drewN (Below.refl _ _) n1)).trans (hb2.mono (Nat.le_of_lt HY.out.lt))) n2
 ·go_cut [18] from 58 to 65 (fun u wx => u = .int .i64 A ∧ wx = w1)
  case first =>
   go_wp2_with fail
   all_goals go_meet
   all_goals refine ⟨congrArg _ ?_, rfl⟩
   all_goals have hA := HA.out
   all_goals have hL := HL.out
   all_goals have hW := K'.out.W_
   all_goals (try simp only [beq_iff_eq, beq_eq_false_iff_ne, ne_eq] at *)
   all_goals have hz : s = 0 → s * g = 0 := fun h => by rw [h]; omega
   all_goals unfold areaOf at hA
   all_goals split at hL <;> split at hW <;> split at hA <;> (try split at hA) <;> omega
  case rest =>
   obtain ⟨rfl, rfl⟩ := hcut
   have f1 : bits .and .u64 (wrd j) 4294967295 = o := by rw [and_lo, K'.out.lo_]
   have f2 := K'.out.ow
   have f3 := K'.out.oo_
   have f4 := K'.out.aw
   have f5 := K'.out.q_
   have b1 := K'.out.A1; have b2 := K'.out.A2; have b3 := K'.out.o0; have b4 := K'.out.o1; have b5 := K'.out.oo0; have b6 := K'.out.oo1; have b7 := K'.out.q0; have b8 := K'.out.q1; have b9 := K'.out.Z0; have b10 := K'.out.Z1
   have f7 : IntKind.u64.wrap A = A := by rw [wrap_u64]; omega
   have f6 := K'.out.Zt
   have f8 := K'.out.S_
   rw [if_pos (by omega)] at f8
   rw [f8, Int.zero_add] at f6
   clear f8
   go_upto_region 18 with fail
   refine wp_region_ords (fun w' => Blk w' H 23 #[.int .i64 kk, .int .i64 m, .int .i64 pp, .int .i64 ll, .int .i64 t]) (fun _ n h => h.drewN n)
    (Ords.of [(0, 0), (0, 1), (0, 2), (0, 3), (0, 4), (0, 5), (0, 6), (0, 7), (0, 8)] (.one 2 9 (.one 0 10 (.one 0 11 (.one 0 12 .fin))))) (by kernel_rfl) rfl (by kernel_rfl) (by kernel_rfl) (fun c a d v w h => by cases d <;> exact h) HY.out ?_
   iterate 8 (refine ords_pure rfl (fun K hK => ?_); go_simp; refine hK _ ?_; clear hK K)
   refine ords_held (v := .agg #[.int .i64 kk, .int .i64 m, .int .i64 pp, .int .i64 ll, .int .i64 t]) rfl rfl (fun w' hS => pure_load_rowA 23 _ rfl H rfl _ _ _ _ hS hu49.out rfl hsz49) ?_; go_simp
   refine ords_loud rfl (fun n1 => ?_)
   go_wp2_with (go_at_call 22; refine (HC.out _).mono ?_; rintro e w2 ⟨rfl, hb2⟩)
   have HY2 := (HY.out.drewN n1).below hb2 HY.out.lt
   refine ⟨HY2, ?_⟩
   have fz : ¬ 4 * g = 0 := by omega
   iterate 3 (refine ords_pure rfl (fun K hK => ?_); go_simp; refine hK _ ?_; clear hK K)
   refine ords_end (fun n2 => ?_)
   go_wp2
   refine bodyPost_ret (results_tmp2 rfl _ _ _) rfl ⟨?_, ?_⟩
   ·have hL := HL.out
    rw [if_neg (by omega)] at hL
    rw [hL]; rfl
   ·exact below_drewN (((hbw.trans (hb1.mono (Nat.le_of_lt HX.out.lt))).trans (below_drewN (Below.refl _ _) n1)).trans (hb2.mono (Nat.le_of_lt HY.out.lt))) n2
 ·go_cut [18] from 58 to 65 (fun u wx => u = .int .i64 A ∧ wx = w1)
  case first =>
   go_wp2_with fail
   all_goals go_meet
   all_goals refine ⟨congrArg _ ?_, rfl⟩
   all_goals have hA := HA.out
   all_goals have hL := HL.out
   all_goals have hW := K'.out.W_
   all_goals (try simp only [beq_iff_eq, beq_eq_false_iff_ne, ne_eq] at *)
   all_goals have hz : s = 0 → s * g = 0 := fun h => by rw [h]; omega
   all_goals unfold areaOf at hA
   all_goals split at hL <;> split at hW <;> split at hA <;> (try split at hA) <;> omega
  case rest =>
   obtain ⟨rfl, rfl⟩ := hcut
   have f1 : bits .and .u64 (wrd j) 4294967295 = o := by rw [and_lo, K'.out.lo_]
   have f2 := K'.out.ow
   have f3 := K'.out.oo_
   have f4 := K'.out.aw
   have f5 := K'.out.q_
   have b1 := K'.out.A1; have b2 := K'.out.A2; have b3 := K'.out.o0; have b4 := K'.out.o1; have b5 := K'.out.oo0; have b6 := K'.out.oo1; have b7 := K'.out.q0; have b8 := K'.out.q1; have b9 := K'.out.Z0; have b10 := K'.out.Z1
   have f7 : IntKind.u64.wrap A = A := by rw [wrap_u64]; omega
   have f6 := K'.out.Zt
   have f8 := K'.out.S_
   rw [if_neg (by omega)] at f8
   rw [f8] at f6
   clear f8
   go_upto_region 18 with fail
   refine wp_region_ords (fun w' => Blk w' H 23 #[.int .i64 kk, .int .i64 m, .int .i64 pp, .int .i64 ll, .int .i64 t]) (fun _ n h => h.drewN n)
    (Ords.of [(0, 0), (0, 1), (0, 2), (0, 3), (0, 4), (0, 5), (0, 6), (0, 7), (0, 8)] (.one 2 9 (.one 0 10 (.one 0 11 (.one 0 12 .fin))))) (by kernel_rfl) rfl (by kernel_rfl) (by kernel_rfl) (fun c a d v w h => by cases d <;> exact h) HY.out ?_
   iterate 8 (refine ords_pure rfl (fun K hK => ?_); go_simp; refine hK _ ?_; clear hK K)
   refine ords_held (v := .agg #[.int .i64 kk, .int .i64 m, .int .i64 pp, .int .i64 ll, .int .i64 t]) rfl rfl (fun w' hS => pure_load_rowA 23 _ rfl H rfl _ _ _ _ hS hu49.out rfl hsz49) ?_; go_simp
   refine ords_loud rfl (fun n1 => ?_)
   go_wp2_with (go_at_call 22; refine (HC.out _).mono ?_; rintro e w2 ⟨rfl, hb2⟩)
   have HY2 := (HY.out.drewN n1).below hb2 HY.out.lt
   refine ⟨HY2, ?_⟩
   have fz : ¬ 4 * g = 0 := by omega
   iterate 3 (refine ords_pure rfl (fun K hK => ?_); go_simp; refine hK _ ?_; clear hK K)
   refine ords_end (fun n2 => ?_)
   go_wp2
   refine bodyPost_ret (results_tmp2 rfl _ _ _) rfl ⟨?_, ?_⟩
   ·have hL := HL.out
    rw [if_neg (by omega)] at hL
    rw [hL]; rfl
   ·exact below_drewN (((hbw.trans (hb1.mono (Nat.le_of_lt HX.out.lt))).trans (below_drewN (Below.refl _ _) n1)).trans (hb2.mono (Nat.le_of_lt HY.out.lt))) n2
end Go.Proofs.Ytbghkdhkahkfnaa

/- Refer, of the program. Contracts alone; no statement is claimed here. -/
namespace Go.Proofs.Ytbghkdhkahkfnaa
open Go.RowKit

instance (a : Ar) (p s l x : Int) : Decidable (spotBad a p s l x) := by unfold spotBad; infer_instance
def ansE (a : Ar) (p s l x : Int) : Int := if a.ok then (if spotBad a p s l x then 1 else 0) else 200
def ansL (a : Ar) (p s l x : Int) (j : UInt64) : Int := if a.ok ∧ ¬ spotBad a p s l x then refL a p s l j else 0
def ansZ (a : Ar) (p s l x : Int) (j : UInt64) : Int := if a.ok ∧ ¬ spotBad a p s l x then refZ a p s l x j else 0

end Go.Proofs.Ytbghkdhkahkfnaa

/- Refer, of the reference. Contracts alone; no statement is claimed here. -/
namespace Go.Proofs.Ytbghkdhkahkfnaa
open Go.RowKit
attribute [local go_sem] pureUpon Ords.of

end Go.Proofs.Ytbghkdhkahkfnaa

/- ArgonApart, the law. Contracts alone; no statement is claimed here. -/
namespace Go.Proofs.Ytbghkdhkahkfnaa
open Go.RowKit

set_option maxHeartbeats 2000000 in
theorem Columns_any (a : Ar) (w : World) : Calls Try.prog 8 #[a.v] w fun e w' => e = .returned (.tuple #[.int .i64 (if a.ok then 4 * a.seg else 0), .int .i64 (if a.ok then 0 else 200)]) ∧ Below w.heap.size w w' := by
 by_cases h : a.ok
 ·have hm := may_any a
  have hc := columns_any h
  rw [decide_eq_true h] at hm
  rw [if_pos h, if_pos h]
  generalize a.seg = g at *
  clear h
  obtain ⟨kk, m, pp, ll, t⟩ := a
  unfold Ar.v at *
  dsimp only at *
  have HM := Lib.hid hm; have HC := Lib.hid hc; clear hm hc
  go_enter Try.func8, Try.ntmps8
  go_wp2_with (first
   | (go_at_call 16; refine (HM.out _).mono ?_; rintro e w1 ⟨rfl, hb1⟩; obtain ⟨hc, hf⟩ := bcell hb1; have hz := hb1.size; simp at hz)
   | (go_at_call 22; refine (HC.out _).mono ?_; rintro e w2 ⟨rfl, hb2⟩))
  exact bodyPost_ret (results_tmp2 rfl _ _ _) rfl ⟨rfl, ((((Below.refl _ _).alloc (Nat.le_refl _) _).trans (hb1.mono (by simp))).trans (hb2.mono (by omega)))⟩
 ·have hm := may_any a
  rw [decide_eq_false h] at hm
  rw [if_neg h, if_neg h]
  clear h
  obtain ⟨kk, m, pp, ll, t⟩ := a
  unfold Ar.v at *
  have HM := Lib.hid hm; clear hm
  go_enter Try.func8, Try.ntmps8
  go_wp2_with (go_at_call 16; refine (HM.out _).mono ?_; rintro e w1 ⟨rfl, hb1⟩)
  exact bodyPost_ret (results_tmp2 rfl _ _ _) rfl ⟨rfl, (((Below.refl _ _).alloc (Nat.le_refl _) _).trans (hb1.mono (by simp)))⟩

theorem alive20_any (w : World) : Calls Try.prog 4 #[] w fun e w' => e = .returned (.bool true) ∧ Below w.heap.size w w' := by
 have hc := Columns_any ⟨2, 32, 3, 4, 32⟩
 rw [if_pos (by decide), if_pos (by decide)] at hc
 unfold Ar.v Ar.seg at hc
 have HC := Lib.hid hc; clear hc
 go_enter Try.func4, Try.ntmps4
 go_wp2_with (go_at_call 8; refine (HC.out _).mono ?_; rintro e w1 ⟨rfl, hb1⟩)
 exact bodyPost_ret (results_tmp rfl _ _ _) rfl ⟨rfl, hb1⟩

structure ApartKnown (p s l x g ll L Z y r : Int) : Prop where
  l0 : 0 ≤ L
  l1 : L < ll
  z0 : 0 ≤ Z
  z1 : Z < 4 * g
  y_ : Z / g = y
  yt : Z.tdiv g = y
  r_ : (s * g + x + 4 * g - 1) % (4 * g) = r
  rt : (s * g + x + 4 * g - 1).tmod (4 * g) = r
  far : L ≠ l → y ≠ s ∧ (0 < p ∨ Z < s * g)
  near : L = l → Z ≠ s * g + x ∧ Z ≠ r ∧ (0 < p ∨ Z < s * g + x)

theorem apart_plain {a : Ar} (h : a.ok) {p s l x : Int} (j : UInt64) (hb : ¬ spotBad a p s l x) : ∃ y r, ApartKnown p s l x a.seg a.lanes (refL a p s l j) (refZ a p s l x j) y r := by
 obtain ⟨v, o, oo, W, S, A, q, K⟩ := known h j hb
 have p0 : 0 ≤ p := by unfold spotBad at hb; omega
 have hx2 : ¬ (p = 0 ∧ s = 0 ∧ x < 2) := by unfold spotBad at hb; omega
 clear hb
 have KA := K.A_; have KL := K.L_; have KW := K.W_; have KS := K.S_
 have g2 := K.g2; have s0 := K.s0; have s3 := K.s3; have x0 := K.x0; have xg := K.xg; have v0 := K.v0; have v8 := K.v8
 obtain ⟨n0, n1⟩ := K.lane
 have A1 := K.A1; have A2 := K.A2; have q0 := K.q0; have q1 := K.q1; have Z0 := K.Z0; have Z1 := K.Z1; have Zt := K.Zt; have S0 := K.S0; have S1 := K.S1
 clear K
 generalize refL a p s l j = L at *
 generalize refZ a p s l x j = Z at *
 generalize a.seg = g at *
 generalize a.lanes = ll at *
 have hV : 0 ≤ S + A - 1 - q := by omega
 rw [Int.tmod_eq_emod_of_nonneg hV] at Zt
 have e1 := Int.emod_add_mul_ediv (S + A - 1 - q) (4 * g)
 rw [Zt] at e1
 have k0 : 0 ≤ (S + A - 1 - q) / (4 * g) := Int.ediv_nonneg hV (by omega)
 have k1 : (S + A - 1 - q) / (4 * g) < 2 := Int.ediv_lt_of_lt_mul (by omega) (by omega)
 generalize (S + A - 1 - q) / (4 * g) = k at *
 have hk : k = 0 ∨ k = 1 := by omega
 have hc0 : 0 ≤ s * g := Int.mul_nonneg s0 (by omega)
 refine ⟨Z / g, (s * g + x + 4 * g - 1) % (4 * g), ?_⟩
 have hy1 := Int.emod_add_mul_ediv Z g
 have hy2 := Int.emod_nonneg Z (show g ≠ 0 by omega)
 have hy3 := Int.emod_lt_of_pos Z (show 0 < g by omega)
 have hr1 := Int.emod_add_mul_ediv (s * g + x + 4 * g - 1) (4 * g)
 have hr2 := Int.emod_nonneg (s * g + x + 4 * g - 1) (show 4 * g ≠ 0 by omega)
 have hr3 := Int.emod_lt_of_pos (s * g + x + 4 * g - 1) (show 0 < 4 * g by omega)
 have hss : s = 0 ∨ s = 1 ∨ s = 2 ∨ s = 3 := by omega
 have ht1 : Z.tdiv g = Z / g := Int.tdiv_eq_ediv_of_nonneg Z0
 have ht2 : (s * g + x + 4 * g - 1).tmod (4 * g) = (s * g + x + 4 * g - 1) % (4 * g) := Int.tmod_eq_emod_of_nonneg (by omega)
 have hq0 : 0 ≤ (s * g + x + 4 * g - 1) / (4 * g) := Int.ediv_nonneg (by omega) (by omega)
 have hq1 : (s * g + x + 4 * g - 1) / (4 * g) < 2 := Int.ediv_lt_of_lt_mul (by omega) (by rcases hss with rfl | rfl | rfl | rfl <;> omega)
 refine ⟨?_, ?_, Z0, Z1, rfl, ht1, rfl, ht2, ?_, ?_⟩
 ·split at KL <;> omega
 ·split at KL <;> omega
 ·intro hne
  clear hr1 hr2 hr3 hq0 hq1 ht1 ht2
  generalize Z / g = y at *
  refine ⟨?_, ?_⟩
  ·rintro rfl
   unfold areaOf at KA
   rw [if_neg hne] at KA
   rcases hk with rfl | rfl <;> rcases hss with rfl | rfl | rfl | rfl <;> split at KW <;> split at KS <;> split at KA <;> omega
  ·unfold areaOf at KA
   rw [if_neg hne] at KA
   by_cases hp : p = 0
   ·right
    rcases hk with rfl | rfl <;> rcases hss with rfl | rfl | rfl | rfl <;> split at KW <;> split at KS <;> split at KA <;> omega
   ·left; omega
 ·intro he
  clear hy1 hy2 hy3 ht1 ht2
  generalize (s * g + x + 4 * g - 1) % (4 * g) = r at *
  generalize (s * g + x + 4 * g - 1) / (4 * g) = t at *
  have hT : t = 0 ∨ t = 1 := by omega
  unfold areaOf at KA
  rw [if_pos he] at KA
  refine ⟨?_, ?_, ?_⟩
  ·rcases hk with rfl | rfl <;> rcases hss with rfl | rfl | rfl | rfl <;> split at KW <;> split at KS <;> omega
  ·rcases hT with rfl | rfl <;> rcases hk with rfl | rfl <;> rcases hss with rfl | rfl | rfl | rfl <;> split at KW <;> split at KS <;> omega
  ·by_cases hp : p = 0
   ·right
    rcases hk with rfl | rfl <;> rcases hss with rfl | rfl | rfl | rfl <;> split at KW <;> split at KS <;> omega
   ·left; omega

end Go.Proofs.Ytbghkdhkahkfnaa

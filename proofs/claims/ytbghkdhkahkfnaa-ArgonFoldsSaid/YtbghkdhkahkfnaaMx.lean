/-
  Mx: contracts and lemmas alone; no statement is claimed here.
-/
import Derived.Test.YtbghkdhkahkfnaaBlks
import Derived.Test.YtbghkdhkahkfnaaTab
import Derived.Outline
import Derived.Test.YtbghkdhkahkfnaaCoreA
import Derived.Test.YtbghkdhkahkfnaaCoreB
import Derived.Deep.CutRange
import Derived.OwnWalk
/- One block laid over another, by the program and by the reference. Contracts alone; no statement is claimed here. -/
namespace Go.Proofs.Ytbghkdhkahkfnaa
open Go.RowKit
attribute [local go_sem] pureUpon Ords.of

def xorB (x y : List UInt8) : List UInt8 := List.zipWith (· ^^^ ·) x y
theorem xorB_len (x y : List UInt8) (h : y.length = x.length) : (xorB x y).length = x.length := by simp [xorB, h]
theorem xorB_at (x y : List UInt8) (k : Nat) (a b : UInt8) (ha : x[k]? = some a) (hb : y[k]? = some b) : (xorB x y)[k]? = some (a ^^^ b) := by
 unfold xorB
 rw [List.getElem?_zipWith, ha, hb]

theorem blocks3 (a b c : Ln) (w : World) : Calls Try.prog 23 #[.slice (some ⟨w.heap.size, 0, none⟩) 3 3] (w.alloc (.cells #[a.v, b.v, c.v] 24)) fun e w' => e = .returned (.bool (a.n == 1024 && b.n == 1024 && c.n == 1024)) ∧ w.alloc (.cells #[a.v, b.v, c.v] 24) = w' := by
 refine (blocks_any w.heap.size 3 [a, b, c] _ rfl (by omega) (fun i s hs => ?_)).mono fun e w' ⟨he, hw⟩ => ⟨by rw [he]; simp [Bool.and_assoc], hw⟩
 have hb := Blk.new w 24 #[a.v, b.v, c.v]
 rw [hb.cell]
 match i, hs with
 | 0, hs => simp at hs; subst hs; rfl
 | 1, hs => simp at hs; subst hs; rfl
 | 2, hs => simp at hs; subst hs; rfl

set_option maxRecDepth 20000 in
set_option maxHeartbeats 1000000 in
theorem xorP_yes (A1 A2 : Option Addr) (c1 c2 : Nat) (x y : List UInt8) (w : World) (hx : x.length = 1024) (hy : y.length = 1024) (hr1 : RS cB w w.heap.size A1 x) (hr2 : RS cB w w.heap.size A2 y) :
  Calls Try.prog 10 #[.slice A1 1024 c1, .slice A2 1024 c2] w fun e w' => ∃ A c, e = .returned (.tuple #[.slice A 1024 c, .int .i64 0]) ∧ OS cB w' w.heap.size A c (xorB x y) ∧ Below w.heap.size w w' := by
 have HX := Lib.hid hx; have HY := Lib.hid hy; have HR1 := Lib.hid hr1; have HR2 := Lib.hid hr2; clear hx hy hr1 hr2
 have hmk : ∀ (W : World), (Instr.makeSlice 24 (.int .i64 1024) (.int .i64 1024)).run Try.prog W = .ok (.slice (some ⟨W.heap.size, 0, none⟩) 1024 1024) (W.alloc (.cells (madeCells #[cB.zero] 1024) 5)) := fun (W : World) => run_makeS cB_ok .i64 .i64 1024 1024 (Nat.le_refl _) (by show 1 * 1024 ≤ _; omega) (by omega) W
 go_enter Try.func10, Try.ntmps10
 go_wp2_with (go_at_call 23; refine (blocks2 ⟨A1, 1024, c1⟩ ⟨A2, 1024, c2⟩ w).mono ?_; rintro e w1 ⟨rfl, rfl⟩)
 obtain ⟨b, hb⟩ : ∃ b, b = w.heap.size + 1 := ⟨_, rfl⟩
 rw [← hb]
 have hwb : w.heap.size ≤ b := by omega
 have HB := Lib.hid hb; clear hb hmk
 go_loopw [16] (fun i wr => ∃ (k : Nat) (L : List UInt8), k ≤ 1024 ∧ i = .int .i64 k ∧ L = (xorB x y).take k ++ List.replicate (1024 - k) 0 ∧ OS cB wr w.heap.size (some ⟨b, 0, none⟩) 1024 L ∧ Below w.heap.size w wr) (fun i _ => 1024 - (intOf i).toNat)
 case atStart =>
  refine ⟨0, _, by omega, rfl, rfl, ?_, bal (bal (b0 _) _) _⟩
  exact OS.madeAt (cd := cB) _ 1024 1024 0 rfl (Nat.le_refl _) (by unfold maxLen; omega) (by simp) (by rw [HB.out]; simp)
 case round =>
  obtain ⟨k, L, hk, rfl, hL, hos, hbw⟩ := hrel
  have HO := Lib.hid hos; have HL := Lib.hid hL; clear hos hL
  by_cases hlt : k < 1024
  ·obtain ⟨a1, p, rfl, -, ep, gp⟩ := (HR1.out.below hbw).at_ (k := k) (by rw [HX.out]; exact hlt)
   obtain ⟨a2, q, rfl, -, eq, gq⟩ := (HR2.out.below hbw).at_ (k := k) (by rw [HY.out]; exact hlt)
   have hl : L.length = 1024 := by rw [HL.out]; simp [xorB, HX.out, HY.out]; omega
   obtain ⟨g, z, e1, hbase, -, -, gc, gf⟩ := HO.out.at_ (k := k) (by rw [hl]; exact hlt)
   injection e1 with e1; injection e1 with e1; subst e1
   change wr.cell? (a1.add k) = some (.int .u8 (byt p)) at gp
   change wr.cell? (a2.add k) = some (.int .u8 (byt q)) at gq
   have EP := Lib.hid ep; have EQ := Lib.hid eq; have HLL := Lib.hid hl; clear ep eq hl
   have hxor := byt_xor p q
   go_wp2
   refine wp_region_ords (fun _ => True) (fun _ _ h => h) (Ords.of [(0, 0), (0, 1), (0, 2), (0, 3), (0, 4), (1, 5), (0, 6), (0, 7), (0, 8), (1, 9), (0, 10), (0, 11), (2, 12)] .fin) (by kernel_rfl) rfl (by kernel_rfl) (by kernel_rfl) (fun c a d v w h => by cases d <;> exact h) trivial ?_
   iterate 5 (refine ords_pure rfl (fun K hK => ?_); go_simp; refine hK _ ?_; clear hK K)
   refine ords_read rfl (fun K hK => ?_); go_simp; refine hK _ ?_; clear hK K
   iterate 3 (refine ords_pure rfl (fun K hK => ?_); go_simp; refine hK _ ?_; clear hK K)
   refine ords_read rfl (fun K hK => ?_); go_simp; refine hK _ ?_; clear hK K
   iterate 2 (refine ords_pure rfl (fun K hK => ?_); go_simp; refine hK _ ?_; clear hK K)
   refine ords_loud rfl (fun n1 => ?_)
   go_wp2
   first | (refine ⟨trivial, ?_⟩; refine ords_end (fun n2 => ?_)) | (rintro _ ⟨n2, rfl⟩)
   go_wp2
   case roundEnd =>
    have h1 := ((HO.out.drewN n1).set k (p ^^^ q)).drewN n2
    rw [HL.out, fill_put (xorB x y) k 1024 0 _ hlt (xorB_at x y k p q EP.out EQ.out)] at h1
    exact ⟨⟨k + 1, _, by omega, by go_num, rfl, h1, bdr (bput (bdr hbw n1) hbase _) n2⟩, by simp [intOf]; omega⟩
  ·obtain rfl : k = 1024 := by omega
   go_wp2
   have h1 := HO.out
   rw [HL.out, Nat.sub_self, List.replicate_zero, List.append_nil, List.take_of_length_le (by rw [xorB_len x y (HY.out.trans HX.out.symm), HX.out]; exact Nat.le_refl _)] at h1
   exact bodyPost_ret (results_tmp2 rfl _ _ _) rfl ⟨_, _, rfl, h1, hbw⟩

end Go.Proofs.Ytbghkdhkahkfnaa

/- The turning of words of 64 bits, by the reference. Contracts alone; no statement is claimed here. -/
namespace Go.Proofs.Ytbghkdhkahkfnaa
open Go.RowKit

end Go.Proofs.Ytbghkdhkahkfnaa

/- Words of 64 bits as the walk has them, and the mixing of words: contracts of the small word functions (product, rotations, Blend), for the program and for the reference. No statement is claimed here. -/
namespace Go.Proofs.Ytbghkdhkahkfnaa
open Go.RowKit

def mulLo (x y : UInt64) : UInt64 := UInt64.ofNat (2 * (x.toNat % 4294967296) * (y.toNat % 4294967296))
structure Q4 where
  a : UInt64
  b : UInt64
  c : UInt64
  d : UInt64
def blend1 (k l : Nat) (q : Q4) : Q4 :=
  let a := q.a + (q.b + mulLo q.a q.b)
  let d := rotr (q.d ^^^ a) k
  let c := q.c + (d + mulLo q.c d)
  let b := rotr (q.b ^^^ c) l
  ⟨a, b, c, d⟩
def blend (q : Q4) : Q4 := blend1 16 63 (blend1 32 24 q)

def lo (x : UInt64) : Int := ((x.toNat % 4294967296 : Nat) : Int)
theorem and_lo (x : UInt64) : bits .and .u64 (wrd x) 4294967295 = lo x := by
 unfold wrd lo
 have := u64_and_nat x.toNat 4294967295 (wrd_lt x) (by omega)
 rw [show ((4294967295 : Nat) : Int) = 4294967295 from rfl] at this
 rw [this, show (4294967295 : Nat) = 2 ^ 32 - 1 from rfl, Nat.and_two_pow_sub_one_eq_mod]
theorem mul_lo (x y : UInt64) : IntKind.u64.wrap (IntKind.u64.wrap (2 * lo x) * lo y) = wrd (mulLo x y) := by
 unfold mulLo lo
 rw [wrd_ofNat, wrap_u64, wrap_u64]
 have h1 : (2 * ((x.toNat % 4294967296 : Nat) : Int)) % 18446744073709551616 = ((2 * (x.toNat % 4294967296) : Nat) : Int) := by omega
 rw [h1, ← Int.natCast_mul]
 rfl

set_option maxHeartbeats 400000 in
theorem product_any (x y : UInt64) (w : World) :
  Calls Try.prog 62 #[.int .u64 (wrd x), .int .u64 (wrd y)] w fun e w' => e = .returned (.int .u64 (wrd (mulLo x y))) ∧ w = w' := by
 have h1 := and_lo x
 have h2 := and_lo y
 have h3 := mul_lo x y
 go_enter Try.func62, Try.ntmps62
 go_wp2
 go_ret
 exact ⟨rfl, rfl⟩
theorem results4 {fn : Func} {t u v x : Tmp} (h : fn.results = #[.tmp t, .tmp u, .tmp v, .tmp x]) (tmps : Array Value) (P : Program) (w : World) :
  (results fn tmps).run P w = .ok (.tuple #[tmps.getD t undef, tmps.getD u undef, tmps.getD v undef, tmps.getD x undef]) w := by simp [results, h]

set_option maxHeartbeats 400000 in
theorem blend_any (q : Q4) (w : World) :
  Calls Try.prog 57 #[.int .u64 (wrd q.a), .int .u64 (wrd q.b), .int .u64 (wrd q.c), .int .u64 (wrd q.d)] w fun e w' => e = .returned (.tuple #[.int .u64 (wrd (blend q).a), .int .u64 (wrd (blend q).b), .int .u64 (wrd (blend q).c), .int .u64 (wrd (blend q).d)]) ∧ w = w' := by
 obtain ⟨a, b, c, d⟩ := q
 dsimp only
 have e0 := wrd_add
 have e1 := wrd_xor
 go_enter Try.func57, Try.ntmps57
 go_wp2_with fail
 refine (product_any _ _ _).mono ?_
 rintro e w1 ⟨rfl, rfl⟩
 go_wp2_with fail
 refine (rotl_32 _ _).mono ?_
 rintro e w1 ⟨rfl, rfl⟩
 go_wp2_with fail
 refine (product_any _ _ _).mono ?_
 rintro e w1 ⟨rfl, rfl⟩
 go_wp2_with fail
 refine (rotl_24 _ _).mono ?_
 rintro e w1 ⟨rfl, rfl⟩
 go_wp2_with fail
 refine (product_any _ _ _).mono ?_
 rintro e w1 ⟨rfl, rfl⟩
 go_wp2_with fail
 refine (rotl_16 _ _).mono ?_
 rintro e w1 ⟨rfl, rfl⟩
 go_wp2_with fail
 refine (product_any _ _ _).mono ?_
 rintro e w1 ⟨rfl, rfl⟩
 go_wp2_with fail
 refine (rotl_63 _ _).mono ?_
 rintro e w1 ⟨rfl, rfl⟩
 go_wp2
 refine bodyPost_ret (results4 rfl _ _ _) rfl ?_
 exact ⟨rfl, rfl⟩

end Go.Proofs.Ytbghkdhkahkfnaa

/- Perm, for the program and for the reference: sixteen words go through eight Blends. Contracts alone; no statement is claimed here. -/
namespace Go.Proofs.Ytbghkdhkahkfnaa
open Go.RowKit
attribute [local go_sem] pureUpon

structure P4 where
  a : Nat
  b : Nat
  c : Nat
  d : Nat
def places : List P4 := [⟨0, 4, 8, 12⟩, ⟨1, 5, 9, 13⟩, ⟨2, 6, 10, 14⟩, ⟨3, 7, 11, 15⟩, ⟨0, 5, 10, 15⟩, ⟨1, 6, 11, 12⟩, ⟨2, 7, 8, 13⟩, ⟨3, 4, 9, 14⟩]
def place (k : Nat) : P4 := places.getD k ⟨0, 1, 2, 3⟩
def P4.at (p : P4) (l : List UInt64) : Q4 := ⟨l.getD p.a 0, l.getD p.b 0, l.getD p.c 0, l.getD p.d 0⟩
def P4.put (p : P4) (l : List UInt64) (q : Q4) : List UInt64 := (((l.set p.a q.a).set p.b q.b).set p.c q.c).set p.d q.d
def permTo : Nat → List UInt64 → List UInt64
  | 0, l => l
  | k + 1, l => (place k).put (permTo k l) (blend ((place k).at (permTo k l)))
def perm (l : List UInt64) : List UInt64 := permTo 8 l
theorem put_len (p : P4) (l : List UInt64) (q : Q4) : (p.put l q).length = l.length := by simp [P4.put]
theorem permTo_len (k : Nat) (l : List UInt64) : (permTo k l).length = l.length := by
 induction k with
 | zero => rfl
 | succ k ih => unfold permTo; rw [put_len, ih]
theorem place_ok : ∀ k, k < 8 → (place k).a < 16 ∧ (place k).b < 16 ∧ (place k).c < 16 ∧ (place k).d < 16 ∧ (place k).a ≠ (place k).b ∧ (place k).a ≠ (place k).c ∧ (place k).a ≠ (place k).d ∧ (place k).b ≠ (place k).c ∧ (place k).b ≠ (place k).d ∧ (place k).c ≠ (place k).d := by decide

def row4 (p : P4) : Value := .agg #[.int .i64 p.a, .int .i64 p.b, .int .i64 p.c, .int .i64 p.d]
def tabled : Value := (.agg #[.int .i64 0, .int .i64 4, .int .i64 8, .int .i64 12, .int .i64 1, .int .i64 5, .int .i64 9, .int .i64 13, .int .i64 2, .int .i64 6, .int .i64 10, .int .i64 14, .int .i64 3, .int .i64 7, .int .i64 11, .int .i64 15, .int .i64 0, .int .i64 5, .int .i64 10, .int .i64 15, .int .i64 1, .int .i64 6, .int .i64 11, .int .i64 12, .int .i64 2, .int .i64 7, .int .i64 8, .int .i64 13, .int .i64 3, .int .i64 4, .int .i64 9, .int .i64 14])
theorem index_place0 (w : World) : (Instr.index 117 (.agg #[.int .i64 0, .int .i64 4, .int .i64 8, .int .i64 12, .int .i64 1, .int .i64 5, .int .i64 9, .int .i64 13, .int .i64 2, .int .i64 6, .int .i64 10, .int .i64 14, .int .i64 3, .int .i64 7, .int .i64 11, .int .i64 15, .int .i64 0, .int .i64 5, .int .i64 10, .int .i64 15, .int .i64 1, .int .i64 6, .int .i64 11, .int .i64 12, .int .i64 2, .int .i64 7, .int .i64 8, .int .i64 13, .int .i64 3, .int .i64 4, .int .i64 9, .int .i64 14]) (.int .i64 0)).run Try.prog w = .ok (row4 (place 0)) w := by kernel_rfl
theorem index_place1 (w : World) : (Instr.index 117 (.agg #[.int .i64 0, .int .i64 4, .int .i64 8, .int .i64 12, .int .i64 1, .int .i64 5, .int .i64 9, .int .i64 13, .int .i64 2, .int .i64 6, .int .i64 10, .int .i64 14, .int .i64 3, .int .i64 7, .int .i64 11, .int .i64 15, .int .i64 0, .int .i64 5, .int .i64 10, .int .i64 15, .int .i64 1, .int .i64 6, .int .i64 11, .int .i64 12, .int .i64 2, .int .i64 7, .int .i64 8, .int .i64 13, .int .i64 3, .int .i64 4, .int .i64 9, .int .i64 14]) (.int .i64 1)).run Try.prog w = .ok (row4 (place 1)) w := by kernel_rfl
theorem index_place2 (w : World) : (Instr.index 117 (.agg #[.int .i64 0, .int .i64 4, .int .i64 8, .int .i64 12, .int .i64 1, .int .i64 5, .int .i64 9, .int .i64 13, .int .i64 2, .int .i64 6, .int .i64 10, .int .i64 14, .int .i64 3, .int .i64 7, .int .i64 11, .int .i64 15, .int .i64 0, .int .i64 5, .int .i64 10, .int .i64 15, .int .i64 1, .int .i64 6, .int .i64 11, .int .i64 12, .int .i64 2, .int .i64 7, .int .i64 8, .int .i64 13, .int .i64 3, .int .i64 4, .int .i64 9, .int .i64 14]) (.int .i64 2)).run Try.prog w = .ok (row4 (place 2)) w := by kernel_rfl
theorem index_place3 (w : World) : (Instr.index 117 (.agg #[.int .i64 0, .int .i64 4, .int .i64 8, .int .i64 12, .int .i64 1, .int .i64 5, .int .i64 9, .int .i64 13, .int .i64 2, .int .i64 6, .int .i64 10, .int .i64 14, .int .i64 3, .int .i64 7, .int .i64 11, .int .i64 15, .int .i64 0, .int .i64 5, .int .i64 10, .int .i64 15, .int .i64 1, .int .i64 6, .int .i64 11, .int .i64 12, .int .i64 2, .int .i64 7, .int .i64 8, .int .i64 13, .int .i64 3, .int .i64 4, .int .i64 9, .int .i64 14]) (.int .i64 3)).run Try.prog w = .ok (row4 (place 3)) w := by kernel_rfl
theorem index_place4 (w : World) : (Instr.index 117 (.agg #[.int .i64 0, .int .i64 4, .int .i64 8, .int .i64 12, .int .i64 1, .int .i64 5, .int .i64 9, .int .i64 13, .int .i64 2, .int .i64 6, .int .i64 10, .int .i64 14, .int .i64 3, .int .i64 7, .int .i64 11, .int .i64 15, .int .i64 0, .int .i64 5, .int .i64 10, .int .i64 15, .int .i64 1, .int .i64 6, .int .i64 11, .int .i64 12, .int .i64 2, .int .i64 7, .int .i64 8, .int .i64 13, .int .i64 3, .int .i64 4, .int .i64 9, .int .i64 14]) (.int .i64 4)).run Try.prog w = .ok (row4 (place 4)) w := by kernel_rfl
theorem index_place5 (w : World) : (Instr.index 117 (.agg #[.int .i64 0, .int .i64 4, .int .i64 8, .int .i64 12, .int .i64 1, .int .i64 5, .int .i64 9, .int .i64 13, .int .i64 2, .int .i64 6, .int .i64 10, .int .i64 14, .int .i64 3, .int .i64 7, .int .i64 11, .int .i64 15, .int .i64 0, .int .i64 5, .int .i64 10, .int .i64 15, .int .i64 1, .int .i64 6, .int .i64 11, .int .i64 12, .int .i64 2, .int .i64 7, .int .i64 8, .int .i64 13, .int .i64 3, .int .i64 4, .int .i64 9, .int .i64 14]) (.int .i64 5)).run Try.prog w = .ok (row4 (place 5)) w := by kernel_rfl
theorem index_place6 (w : World) : (Instr.index 117 (.agg #[.int .i64 0, .int .i64 4, .int .i64 8, .int .i64 12, .int .i64 1, .int .i64 5, .int .i64 9, .int .i64 13, .int .i64 2, .int .i64 6, .int .i64 10, .int .i64 14, .int .i64 3, .int .i64 7, .int .i64 11, .int .i64 15, .int .i64 0, .int .i64 5, .int .i64 10, .int .i64 15, .int .i64 1, .int .i64 6, .int .i64 11, .int .i64 12, .int .i64 2, .int .i64 7, .int .i64 8, .int .i64 13, .int .i64 3, .int .i64 4, .int .i64 9, .int .i64 14]) (.int .i64 6)).run Try.prog w = .ok (row4 (place 6)) w := by kernel_rfl
theorem index_place7 (w : World) : (Instr.index 117 (.agg #[.int .i64 0, .int .i64 4, .int .i64 8, .int .i64 12, .int .i64 1, .int .i64 5, .int .i64 9, .int .i64 13, .int .i64 2, .int .i64 6, .int .i64 10, .int .i64 14, .int .i64 3, .int .i64 7, .int .i64 11, .int .i64 15, .int .i64 0, .int .i64 5, .int .i64 10, .int .i64 15, .int .i64 1, .int .i64 6, .int .i64 11, .int .i64 12, .int .i64 2, .int .i64 7, .int .i64 8, .int .i64 13, .int .i64 3, .int .i64 4, .int .i64 9, .int .i64 14]) (.int .i64 7)).run Try.prog w = .ok (row4 (place 7)) w := by kernel_rfl
theorem index_place (k : Nat) (hk : k < 8) (w : World) : (Instr.index 117 (.agg #[.int .i64 0, .int .i64 4, .int .i64 8, .int .i64 12, .int .i64 1, .int .i64 5, .int .i64 9, .int .i64 13, .int .i64 2, .int .i64 6, .int .i64 10, .int .i64 14, .int .i64 3, .int .i64 7, .int .i64 11, .int .i64 15, .int .i64 0, .int .i64 5, .int .i64 10, .int .i64 15, .int .i64 1, .int .i64 6, .int .i64 11, .int .i64 12, .int .i64 2, .int .i64 7, .int .i64 8, .int .i64 13, .int .i64 3, .int .i64 4, .int .i64 9, .int .i64 14]) (.int .i64 k)).run Try.prog w = .ok (row4 (place k)) w := by
 have h : k = 0 ∨ k = 1 ∨ k = 2 ∨ k = 3 ∨ k = 4 ∨ k = 5 ∨ k = 6 ∨ k = 7 := by omega
 rcases h with rfl | rfl | rfl | rfl | rfl | rfl | rfl | rfl
 ·exact index_place0 w
 ·exact index_place1 w
 ·exact index_place2 w
 ·exact index_place3 w
 ·exact index_place4 w
 ·exact index_place5 w
 ·exact index_place6 w
 ·exact index_place7 w

set_option maxRecDepth 10000 in
set_option maxHeartbeats 8000000 in
theorem perm_any (l : List UInt64) (hl : l.length = 16) (w : World) :
  Calls Try.prog 49 #[.agg (wcs l)] w fun e w' => e = .returned (.agg (wcs (perm l))) ∧ Below w.heap.size w w' := by
 have HL := Lib.hid hl; clear hl
 go_enter Try.func49, Try.ntmps49
 go_wp2
 obtain ⟨H, hH⟩ : ∃ H, H = w.heap.size := ⟨_, rfl⟩
 rw [← hH]
 have HH := Lib.hid hH; clear hH
 go_loopw [4, 14] (fun p i wr => ∃ k : Nat, k ≤ 8 ∧ i = .int .i64 k ∧ Blk wr H 107 (wcs (permTo k l)) ∧ (∃ cs, cs.size = 16 ∧ Blk wr (H + 1) 107 cs) ∧ Below H w wr) (fun _ i _ => 8 - (intOf i).toNat)
 case atStart =>
  refine ⟨0, by omega, rfl, ?_, ⟨#[.int .u64 0, .int .u64 0, .int .u64 0, .int .u64 0, .int .u64 0, .int .u64 0, .int .u64 0, .int .u64 0, .int .u64 0, .int .u64 0, .int .u64 0, .int .u64 0, .int .u64 0, .int .u64 0, .int .u64 0, .int .u64 0], rfl, ?_⟩, ?_⟩
  ·rw [HH.out]; exact (Blk.new _ _ _).alloc _
  ·rw [HH.out]
   have := Blk.new (w.alloc (.cells (wcs l) 107)) 107 #[.int .u64 0, .int .u64 0, .int .u64 0, .int .u64 0, .int .u64 0, .int .u64 0, .int .u64 0, .int .u64 0, .int .u64 0, .int .u64 0, .int .u64 0, .int .u64 0, .int .u64 0, .int .u64 0, .int .u64 0, .int .u64 0]
   simpa using this
  ·rw [HH.out]; exact ((Below.refl _ _).alloc (Nat.le_refl _) _).alloc (by simp) _
 case round =>
  obtain ⟨k, hk, rfl, hb, ⟨cs2, hcs2, hb2⟩, hbw⟩ := hrel
  have HB := Lib.hid hb; have HB2 := Lib.hid hb2; have HC2 := Lib.hid hcs2; clear hb hb2 hcs2
  by_cases hlt : k < 8
  ·have hidx := index_place k hlt
   unfold row4 at hidx
   obtain ⟨ha, hb, hc, hd, h1, h2, h3, h4, h5, h6⟩ := place_ok k hlt
   have HLk : Hid ((permTo k l).length = 16) := by show _ = _; rw [permTo_len, HL.out]
   obtain ⟨pl, hpl⟩ : ∃ p, p = place k := ⟨_, rfl⟩
   rw [← hpl] at hidx ha hb hc hd h1 h2 h3 h4 h5 h6
   obtain ⟨pa, pb, pc, pd⟩ := pl
   dsimp only at hidx ha hb hc hd h1 h2 h3 h4 h5 h6
   obtain ⟨L, hL⟩ : ∃ L, L = permTo k l := ⟨_, rfl⟩
   rw [← hL] at HB HLk
   have HPL := Lib.hid hpl; have HLL := Lib.hid hL; clear hpl hL
   obtain ⟨q, hq⟩ : ∃ q, q = P4.at ⟨pa, pb, pc, pd⟩ L := ⟨_, rfl⟩
   have ga : wr.cell? ⟨H, pa, none⟩ = some (.int .u64 (wrd q.a)) := by rw [HB.out.cell, wcs_get _ _ (by rw [HLk.out]; exact ha), hq]; rfl
   have gb : wr.cell? ⟨H, pb, none⟩ = some (.int .u64 (wrd q.b)) := by rw [HB.out.cell, wcs_get _ _ (by rw [HLk.out]; exact hb), hq]; rfl
   have gc : wr.cell? ⟨H, pc, none⟩ = some (.int .u64 (wrd q.c)) := by rw [HB.out.cell, wcs_get _ _ (by rw [HLk.out]; exact hc), hq]; rfl
   have gd : wr.cell? ⟨H, pd, none⟩ = some (.int .u64 (wrd q.d)) := by rw [HB.out.cell, wcs_get _ _ (by rw [HLk.out]; exact hd), hq]; rfl
   have fa : ∀ i, wr.frozen? ⟨H, i, none⟩ = false := HB.out.frozen
   have hHs : H < wr.heap.size := HB.out.lt
   have HQ := Lib.hid hq; clear hq
   have i1 : (0 : Int) ≤ pa ∧ (pa : Int) < 16 := by omega
   have i2 : (0 : Int) ≤ pb ∧ (pb : Int) < 16 := by omega
   have i3 : (0 : Int) ≤ pc ∧ (pc : Int) < 16 := by omega
   have i4 : (0 : Int) ≤ pd ∧ (pd : Int) < 16 := by omega
   obtain ⟨i1, i1'⟩ := i1
   obtain ⟨i2, i2'⟩ := i2
   obtain ⟨i3, i3'⟩ := i3
   obtain ⟨i4, i4'⟩ := i4
   go_wp2
   have hne : H ≠ wr.heap.size := by omega
   have T0 := Blk.new wr 116 #[.int .i64 pa, .int .i64 pb, .int .i64 pc, .int .i64 pd]
   refine wp_region_ord (fun w' => Blk w' wr.heap.size 116 #[.int .i64 pa, .int .i64 pb, .int .i64 pc, .int .i64 pd]) (fun _ n h => Blk.drewN h n)
    [(0, 0), (0, 1), (0, 2), (0, 3), (0, 4), (0, 5), (0, 6), (0, 7), (0, 8), (0, 9), (0, 10), (1, 11), (0, 12), (0, 13), (0, 14), (1, 15), (0, 16), (0, 17), (0, 18), (1, 19), (0, 20), (0, 21), (0, 22), (1, 23), (1, 24), (0, 25), (0, 26), (0, 27), (0, 28), (0, 29), (0, 30), (2, 31), (0, 32), (2, 33), (0, 34), (2, 35), (0, 36), (2, 37)] (by kernel_rfl) rfl (by kernel_rfl) (by kernel_rfl) (fun c a d v w h => by cases d <;> exact h) ?_ ?_
   ·exact T0
   refine ord_pure rfl (fun K hK => ?_); go_simp; refine hK _ ?_; clear hK K
   refine ord_held (v := .int .i64 pa) rfl rfl (fun w' hS => ?_) ?_; have s0 : w'.cell? ⟨wr.heap.size, 0, none⟩ = some (.int .i64 pa) := hS.cell 0; go_simp; go_simp
   refine ord_pure rfl (fun K hK => ?_); go_simp; refine hK _ ?_; clear hK K
   refine ord_held (v := .int .i64 pb) rfl rfl (fun w' hS => ?_) ?_; have s0 : w'.cell? ⟨wr.heap.size, 1, none⟩ = some (.int .i64 pb) := hS.cell 1; go_simp; go_simp
   refine ord_pure rfl (fun K hK => ?_); go_simp; refine hK _ ?_; clear hK K
   refine ord_held (v := .int .i64 pc) rfl rfl (fun w' hS => ?_) ?_; have s0 : w'.cell? ⟨wr.heap.size, 2, none⟩ = some (.int .i64 pc) := hS.cell 2; go_simp; go_simp
   refine ord_pure rfl (fun K hK => ?_); go_simp; refine hK _ ?_; clear hK K
   refine ord_held (v := .int .i64 pd) rfl rfl (fun w' hS => ?_) ?_; have s0 : w'.cell? ⟨wr.heap.size, 3, none⟩ = some (.int .i64 pd) := hS.cell 3; go_simp; go_simp
   refine ord_pure rfl (fun K hK => ?_); go_simp; refine hK _ ?_; clear hK K
   refine ord_held (v := .int .i64 pa) rfl rfl (fun w' hS => ?_) ?_; have s0 : w'.cell? ⟨wr.heap.size, 0, none⟩ = some (.int .i64 pa) := hS.cell 0; go_simp; go_simp
   refine ord_pure rfl (fun K hK => ?_); go_simp; refine hK _ ?_; clear hK K
   refine ord_read rfl (fun K hK => ?_); go_simp; refine hK _ ?_; clear hK K
   refine ord_pure rfl (fun K hK => ?_); go_simp; refine hK _ ?_; clear hK K
   refine ord_held (v := .int .i64 pb) rfl rfl (fun w' hS => ?_) ?_; have s0 : w'.cell? ⟨wr.heap.size, 1, none⟩ = some (.int .i64 pb) := hS.cell 1; go_simp; go_simp
   refine ord_pure rfl (fun K hK => ?_); go_simp; refine hK _ ?_; clear hK K
   refine ord_read rfl (fun K hK => ?_); go_simp; refine hK _ ?_; clear hK K
   refine ord_pure rfl (fun K hK => ?_); go_simp; refine hK _ ?_; clear hK K
   refine ord_held (v := .int .i64 pc) rfl rfl (fun w' hS => ?_) ?_; have s0 : w'.cell? ⟨wr.heap.size, 2, none⟩ = some (.int .i64 pc) := hS.cell 2; go_simp; go_simp
   refine ord_pure rfl (fun K hK => ?_); go_simp; refine hK _ ?_; clear hK K
   refine ord_read rfl (fun K hK => ?_); go_simp; refine hK _ ?_; clear hK K
   refine ord_pure rfl (fun K hK => ?_); go_simp; refine hK _ ?_; clear hK K
   refine ord_held (v := .int .i64 pd) rfl rfl (fun w' hS => ?_) ?_; have s0 : w'.cell? ⟨wr.heap.size, 3, none⟩ = some (.int .i64 pd) := hS.cell 3; go_simp; go_simp
   refine ord_pure rfl (fun K hK => ?_); go_simp; refine hK _ ?_; clear hK K
   refine ord_read rfl (fun K hK => ?_); go_simp; refine hK _ ?_; clear hK K
   refine ord_read rfl (fun K hK => ?_)
   go_simp
   apply Exists.intro
   refine ⟨fun _ => ?_, hK _ ?_⟩
   ·go_at_call 57
    refine (blend_any q _).mono ?_
    rintro e w' ⟨rfl, rfl⟩
    exact ⟨rfl, _, rfl⟩
   clear hK K
   refine ord_pure rfl (fun K hK => ?_); go_simp; refine hK _ ?_; clear hK K
   refine ord_pure rfl (fun K hK => ?_); go_simp; refine hK _ ?_; clear hK K
   refine ord_pure rfl (fun K hK => ?_); go_simp; refine hK _ ?_; clear hK K
   refine ord_pure rfl (fun K hK => ?_); go_simp; refine hK _ ?_; clear hK K
   refine ord_pure rfl (fun K hK => ?_); go_simp; refine hK _ ?_; clear hK K
   refine ord_pure rfl (fun K hK => ?_); go_simp; refine hK _ ?_; clear hK K
   refine ord_loud rfl (fun n1 => ?_)
   go_wp2
   have T1 := (T0.drewN n1).far (p := ⟨H, pa, none⟩) (Ne.symm hne) (.int .u64 (wrd (blend q).a))
   refine ⟨T1, ?_⟩
   refine ord_pure rfl (fun K hK => ?_); go_simp; refine hK _ ?_; clear hK K
   refine ord_loud rfl (fun n2 => ?_)
   go_wp2
   have T2 := (T1.drewN n2).far (p := ⟨H, pb, none⟩) (Ne.symm hne) (.int .u64 (wrd (blend q).b))
   refine ⟨T2, ?_⟩
   refine ord_pure rfl (fun K hK => ?_); go_simp; refine hK _ ?_; clear hK K
   refine ord_loud rfl (fun n3 => ?_)
   go_wp2
   have T3 := (T2.drewN n3).far (p := ⟨H, pc, none⟩) (Ne.symm hne) (.int .u64 (wrd (blend q).c))
   refine ⟨T3, ?_⟩
   refine ord_pure rfl (fun K hK => ?_); go_simp; refine hK _ ?_; clear hK K
   refine ord_loud rfl (fun n4 => ?_)
   go_wp2
   have T4 := (T3.drewN n4).far (p := ⟨H, pd, none⟩) (Ne.symm hne) (.int .u64 (wrd (blend q).d))
   refine ⟨T4, ?_⟩
   refine ord_end (fun n5 => ?_)
   go_wp2
   case roundEnd =>
   have B4 := (((((((HB.out.alloc (.cells #[.int .i64 pa, .int .i64 pb, .int .i64 pc, .int .i64 pd] 116)).drewN n1).set_ pa (wv (blend q).a)).drewN n2).set_ pb (wv (blend q).b)).drewN n3 |>.set_ pc (wv (blend q).c)).drewN n4 |>.set_ pd (wv (blend q).d)).drewN n5
   rw [wcs_set, wcs_set, wcs_set, wcs_set] at B4
   refine ⟨⟨k + 1, by omega, rfl, ?_, ⟨cs2, HC2.out, ?_⟩, ?_⟩, ?_⟩
   ·show Blk _ H _ (wcs ((place k).put (permTo k l) (blend ((place k).at (permTo k l)))))
    rw [← HPL.out, ← HLL.out, ← HQ.out]
    exact B4
   ·have hf : H + 1 ≠ H := by omega
    exact (((((((HB2.out.alloc _).drewN n1).far hf _).drewN n2).far hf _).drewN n3 |>.far hf _).drewN n4 |>.far hf _).drewN n5
   ·have hr : H ≤ H := Nat.le_refl _
    exact below_drewN (below_put (below_drewN (below_put (below_drewN (below_put (below_drewN (below_put (below_drewN (hbw.alloc (Nat.le_of_lt hHs) _) n1) hr) n2) hr) n3) hr) n4) hr) n5
   ·simp only [intOf]; omega
  ·obtain rfl : k = 8 := by omega
   have hsz : (Try.prog.info? 107).map (·.size) = some (wcs (permTo 8 l)).size := by rw [wcs_size, permTo_len, HL.out]; kernel_rfl
   have hold : cs2.size = (wcs (permTo 8 l)).size := by rw [wcs_size, permTo_len, HL.out, HC2.out]
   have hu : Try.prog.underlying 107 = some (.array 16 76) := by kernel_rfl
   go_wp2_with (first
    | (refine wpList_load_row rfl 107 _ rfl H rfl 107 _ _ _ HB.out hu rfl hsz ?_)
    | (refine wpList_store_row rfl 107 _ _ rfl (H + 1) _ rfl rfl 107 _ HB2.out hsz hold (wcs_all _) ?_))
   refine bodyPost_ret (results_cell_row rfl _ _ (H + 1) _ _ _ _ rfl (HB2.out.row _) hu rfl hsz) rfl ⟨rfl, ?_⟩
   rw [← HH.out]
   exact below_row hbw (by omega) _
end Go.Proofs.Ytbghkdhkahkfnaa

/- Blocks as words, in plain Lean. Lemmas alone; no statement is claimed here. -/
namespace Go.Proofs.Ytbghkdhkahkfnaa

theorem storeN_xor (a b n : Nat) : storeN (a ^^^ b) n = xorB (storeN a n) (storeN b n) := by
 apply List.ext_getElem
 ·simp [storeN, xorB]
 ·intro i h1 h2
  simp only [storeN, xorB, List.getElem_map, List.getElem_range, List.getElem_zipWith]
  apply UInt8.toNat_inj.1
  rw [UInt8.toNat_xor, UInt8.toNat_ofNat', UInt8.toNat_ofNat', UInt8.toNat_ofNat', Nat.mod_mod, Nat.mod_mod, Nat.mod_mod]
  have e : 256 ^ i = 2 ^ (8 * i) := by rw [Nat.pow_mul]
  rw [e, Nat.xor_div_two_pow]
  exact Nat.xor_mod_two_pow (n := 8)
theorem word_xor (a b : List UInt8) (ha : a.length = 8) (hb : b.length = 8) : word (xorB a b) = word a ^^^ word b := by
 have h1 := storeN_xor (word a).toNat (word b).toNat 8
 rw [storeN_word a ha, storeN_word b hb, ← UInt64.toNat_xor] at h1
 rw [← h1, word_storeN]

theorem wordsOf_xor (x y : List UInt8) (n : Nat) (hx : x.length = 8 * n) (hy : y.length = 8 * n) : wordsOf (xorB x y) n = xorW (wordsOf x n) (wordsOf y n) := by
 apply List.ext_getElem
 ·simp [wordsOf, xorW]
 ·intro i h1 h2
  have hi : i < n := by simpa [wordsOf] using h1
  simp only [wordsOf, xorW, List.getElem_map, List.getElem_range, List.getElem_zipWith]
  rw [← word_xor _ _ (by simp; omega) (by simp; omega)]
  congr 1
  unfold xorB
  rw [List.drop_zipWith, List.take_zipWith]
def gather (z : List UInt64) (p : Nat → Nat) : List UInt64 := (List.range 16).map fun k => z.getD (p k) 0
def scatter (p : Nat → Nat) (v : List UInt64) : Nat → List UInt64 → List UInt64
  | 0, z => z
  | k + 1, z => (scatter p v k z).set (p k) (v.getD k 0)
def putAt (p : Nat → Nat) (z : List UInt64) : List UInt64 := scatter p (perm (gather z p)) 16 z
theorem scatter_len (p : Nat → Nat) (v : List UInt64) (k : Nat) (z : List UInt64) : (scatter p v k z).length = z.length := by
 induction k with
 | zero => rfl
 | succ k ih => simp [scatter, ih]
theorem putAt_len (p : Nat → Nat) (z : List UInt64) : (putAt p z).length = z.length := scatter_len _ _ _ _
def rowAt (i k : Nat) : Nat := 16 * i + k
def colAt (i k : Nat) : Nat := 2 * i + 16 * (k / 2) + k % 2
def rowsTo (z : List UInt64) : Nat → List UInt64
  | 0 => z
  | i + 1 => putAt (rowAt i) (rowsTo z i)
def colsTo (z : List UInt64) : Nat → List UInt64
  | 0 => z
  | i + 1 => putAt (colAt i) (colsTo z i)
theorem rowsTo_len (z : List UInt64) (i : Nat) : (rowsTo z i).length = z.length := by
 induction i with
 | zero => rfl
 | succ i ih => simp only [rowsTo, putAt_len, ih]
theorem colsTo_len (z : List UInt64) (i : Nat) : (colsTo z i).length = z.length := by
 induction i with
 | zero => rfl
 | succ i ih => simp only [colsTo, putAt_len, ih]
def mixZ (z : List UInt64) : List UInt64 := colsTo (rowsTo z 8) 8
theorem mixZ_len (z : List UInt64) : (mixZ z).length = z.length := by unfold mixZ; rw [colsTo_len, rowsTo_len]
def mixB (x y : List UInt8) : List UInt8 := flat (xorW (mixZ (wordsOf (xorB x y) 128)) (wordsOf (xorB x y) 128))
theorem mixB_len (x y : List UInt8) : (mixB x y).length = 1024 := by
 unfold mixB
 rw [flat_len, xorW_len _ _ (by rw [mixZ_len]), mixZ_len, wordsOf_len]
end Go.Proofs.Ytbghkdhkahkfnaa

/- Blocks as words, by the program. Contracts alone; no statement is claimed here. -/
namespace Go.Proofs.Ytbghkdhkahkfnaa
open Go.RowKit
attribute [local go_sem] pureUpon Ords.of

theorem wcs_len (l : List UInt64) (n : Nat) (h : l.length = n) : (wcs l).size = n := by rw [wcs_size, h]
def fillW (z : List UInt64) (k n : Nat) : List UInt64 := z.take k ++ List.replicate (n - k) 0

theorem fillW_put (z : List UInt64) (k n : Nat) (v : UInt64) (hk : k < n) (hz : z[k]? = some v) : (wcs (fillW z k n)).setIfInBounds k (wv v) = wcs (fillW z (k + 1) n) := by
 rw [wcs_set]; unfold fillW; rw [fill_put z k n 0 v hk hz]
theorem fillW_len (z : List UInt64) (k n : Nat) (hk : k ≤ n) (hz : z.length = n) : (fillW z k n).length = n := fill_len z k n 0 hk hz
theorem fillW_all (z : List UInt64) (n : Nat) (hz : z.length = n) : fillW z n n = z := by unfold fillW; rw [Nat.sub_self, List.replicate_zero, List.append_nil, List.take_of_length_le (by omega)]
theorem z128 : Try.zeroCells104 = wcs (fillW [] 0 128) := by kernel_rfl
theorem z128' (z : List UInt64) : Try.zeroCells104 = wcs (fillW z 0 128) := z128
theorem sz128 (z : List UInt64) (h : z.length = 128) : (Try.prog.info? 104).map (·.size) = some (wcs z).size := by rw [wcs_len z 128 h]; kernel_rfl
theorem sz16 (z : List UInt64) (h : z.length = 16) : (Try.prog.info? 107).map (·.size) = some (wcs z).size := by rw [wcs_len z 16 h]; kernel_rfl

set_option maxRecDepth 20000 in
set_option maxHeartbeats 1000000 in
theorem words_any (A : Option Addr) (c : Nat) (x : List UInt8) (w : World) (hx : x.length = 1024) (hr : RS cB w w.heap.size A x) :
  Calls Try.prog 47 #[.slice A 1024 c] w fun e w' => e = .returned (.agg (wcs (wordsOf x 128))) ∧ Below w.heap.size w w' := by
 have HX := Lib.hid hx; have HR := Lib.hid hr; clear hx hr
 have hz : (wordsOf x 128).length = 128 := wordsOf_len x 128
 have HZ := Lib.hid hz; clear hz
 go_enter Try.func47, Try.ntmps47
 go_upto_region 2 with fail
 obtain ⟨b, hb⟩ : ∃ b, b = w.heap.size := ⟨_, rfl⟩
 have h0 : Blk ((w.alloc (.cells Try.zeroCells104 104)).alloc (.cells Try.zeroCells104 104)) b 104 (wcs (fillW (wordsOf x 128) 0 128)) := by rw [hb, ← z128' (wordsOf x 128)]; exact (Blk.new _ _ _).alloc _
 have h1 : Blk ((w.alloc (.cells Try.zeroCells104 104)).alloc (.cells Try.zeroCells104 104)) (b + 1) 104 (wcs (fillW (wordsOf x 128) 0 128)) := by
  rw [hb, ← z128' (wordsOf x 128)]
  have := Blk.new (w.alloc (.cells Try.zeroCells104 104)) 104 Try.zeroCells104
  simpa using this
 have hw : Below w.heap.size w ((w.alloc (.cells Try.zeroCells104 104)).alloc (.cells Try.zeroCells104 104)) := bal (bal (b0 _) _) _
 rw [← hb]
 have HB := Lib.hid hb; clear hb
 generalize (w.alloc (.cells Try.zeroCells104 104)).alloc (.cells Try.zeroCells104 104) = w0 at *
 go_wp2_with fail
 go_loopw [5] (fun i wr => ∃ k : Nat, k ≤ 128 ∧ i = .int .i64 k ∧ Blk wr b 104 (wcs (fillW (wordsOf x 128) 0 128)) ∧ Blk wr (b + 1) 104 (wcs (fillW (wordsOf x 128) k 128)) ∧ Below w.heap.size w wr) (fun i _ => 128 - (intOf i).toNat)
 case atStart => exact ⟨0, by omega, rfl, h0, h1, hw⟩
 case round =>
  clear h0 h1 hw
  obtain ⟨k, hk, rfl, hb0, hb1, hbw⟩ := hrel
  have HB0 := Lib.hid hb0; have HB1 := Lib.hid hb1; clear hb0 hb1
  by_cases hlt : k < 128
  ·have hl := load64_any A c 1024 (8 * k) w.heap.size x wr HX.out (by omega) (HR.out.below hbw) (by omega)
   have e8 : ((8 * k : Nat) : Int) = 8 * (k : Int) := by omega
   rw [e8] at hl
   obtain ⟨v, hv⟩ : ∃ v, v = word ((x.drop (8 * k)).take 8) := ⟨_, rfl⟩
   rw [← hv] at hl
   have HL := Lib.hid hl; have HV := Lib.hid hv; clear hl hv e8
   have gc : wr.cell? ⟨b + 1, k, none⟩ = some (wv ((fillW (wordsOf x 128) k 128).getD k 0)) := (HB1.out.cell k).trans (wcs_get _ _ (by rw [fillW_len _ _ _ hk HZ.out]; exact hlt))
   have gf : wr.frozen? ⟨b + 1, k, none⟩ = false := HB1.out.frozen k
   generalize wv ((fillW (wordsOf x 128) k 128).getD k 0) = old at gc
   go_wp2_with (go_at_call 37; refine HL.out.mono ?_; rintro e w1 ⟨rfl, rfl⟩)
   case roundEnd =>
    have hw2 : (wordsOf x 128)[k]? = some v := by rw [wordsOf_at x 128 k hlt, ← HV.out]
    have h1 := HB1.out.set_ k (wv v)
    rw [fillW_put _ k 128 v hlt hw2] at h1
    exact ⟨⟨k + 1, by omega, by go_num, HB0.out.far (p := ⟨b + 1, k, none⟩) (by simp) _, h1, bput hbw (by rw [HB.out]; simp) _⟩, by simp [intOf]; omega⟩
  ·obtain rfl : k = 128 := by omega
   have h1 := HB1.out
   rw [fillW_all _ 128 HZ.out] at h1
   have H1 := Lib.hid h1; clear h1
   have S1 := Lib.hid (sz128 (wordsOf x 128) HZ.out)
   have S2 := Lib.hid (wcs_all (wordsOf x 128))
   have S3 : Hid ((wcs (fillW (wordsOf x 128) 0 128)).size = (wcs (wordsOf x 128)).size) := by show _ = _; rw [wcs_len _ 128 HZ.out, wcs_len _ 128 (fillW_len _ _ _ (by omega) HZ.out)]
   have U := Lib.hid Try.underlying104
   go_wp2_with (first
    | (refine wpList_load_row rfl 104 _ rfl (b + 1) rfl 104 (wcs (wordsOf x 128)) (0, 0) _ H1.out U.out rfl S1.out ?_)
    | (refine wpList_store_row rfl 104 _ _ rfl b (wcs (wordsOf x 128)) rfl rfl 104 (wcs (fillW (wordsOf x 128) 0 128)) HB0.out S1.out S3.out S2.out ?_))
   have hf := HB0.out.row (wcs (wordsOf x 128))
   exact bodyPost_ret (results_cell_row rfl _ _ b _ _ (0, 0) _ rfl hf U.out rfl S1.out) rfl ⟨rfl, brow hbw (by rw [HB.out]; exact Nat.le_refl _) _⟩

set_option maxRecDepth 20000 in
set_option maxHeartbeats 1000000 in
theorem laid_any (g : Nat) (z : List UInt64) (w : World) (hz : z.length = 128) (hg : Blk w g 104 (wcs z)) :
  Calls Try.prog 52 #[.pointer (some ⟨g, 0, none⟩)] w fun e w' => ∃ A c, e = .returned (.slice A 1024 c) ∧ OS cB w' w.heap.size A c (flat z) ∧ Below w.heap.size w w' := by
 have HZ := Lib.hid hz; have HG := Lib.hid hg; clear hz hg
 have hmk : ∀ (W : World), (Instr.makeSlice 24 (.int .i64 0) (.int .i64 1024)).run Try.prog W = .ok (.slice (some ⟨W.heap.size, 0, none⟩) 0 1024) (W.alloc (.cells (madeCells #[cB.zero] 1024) 5)) := fun (W : World) => run_makeS cB_ok .i64 .i64 0 1024 (by omega) (by show 1 * 1024 ≤ _; omega) (by omega) W
 go_enter Try.func52, Try.ntmps52
 go_wp2
 clear hmk
 go_loopw [3, 9] (fun o i wr => ∃ (k : Nat) (A : Option Addr) (c : Nat), k ≤ 128 ∧ i = .int .i64 k ∧ o = .slice A (8 * k) c ∧ OS cB wr w.heap.size A c (flat (z.take k)) ∧ Below w.heap.size w wr) (fun _ i _ => 128 - (intOf i).toNat)
 case atStart => exact ⟨0, _, 1024, by omega, rfl, rfl, OS.madeAt (cd := cB) w 0 1024 0 rfl (by omega) (by unfold maxLen; omega) (Nat.le_refl _) rfl, bal (b0 _) _⟩
 case round =>
  obtain ⟨k, A, c, hk, rfl, rfl, hos, hbw⟩ := hrel
  have HO := Lib.hid hos; clear hos
  by_cases hlt : k < 128
  ·have hzk : z[k]? = some (z.getD k 0) := by rw [List.getD_eq_getElem?_getD, List.getElem?_eq_getElem (by rw [HZ.out]; exact hlt)]; rfl
   have gz : wr.cell? ⟨g, k, none⟩ = some (wv (z.getD k 0)) := ((HG.out.below hbw HG.out.lt).cell k).trans (wcs_get z k (by rw [HZ.out]; exact hlt))
   obtain ⟨v, hv⟩ : ∃ v, v = z.getD k 0 := ⟨_, rfl⟩
   rw [← hv] at gz hzk
   have hy2 : v.toNat < 18446744073709551616 := v.toNat_lt
   obtain ⟨y, hy⟩ : ∃ y : Nat, y = v.toNat := ⟨_, rfl⟩
   rw [← hy] at hy2
   have gz2 : wr.cell? ⟨g, k, none⟩ = some (.int .u64 (y : Int)) := by rw [gz]; unfold wv wrd; rw [hy]
   have HZK := Lib.hid hzk; have HY := Lib.hid hy; clear gz hzk hv hy
   obtain ⟨wo, rfl⟩ : ∃ wo : World, wo = wr := ⟨_, rfl⟩
   have hkd : decide ((k : Int) < 128) = true := by simp; omega
   go_wp2
   go_loopw [3, 6] (fun o i wr => ∃ (j s : Nat) (A : Option Addr) (c : Nat), j ≤ 8 ∧ s = 8 * j ∧ i = .int .i64 s ∧ o = .slice A (8 * k + j) c ∧ OS cB wr w.heap.size A c (flat (z.take k) ++ storeN y j) ∧ Below w.heap.size w wr) (fun _ i _ => 64 - (intOf i).toNat)
   case atStart => exact ⟨0, 0, A, c, by omega, rfl, rfl, rfl, by simpa [storeN] using HO.out, hbw⟩
   case round =>
    obtain ⟨j, s, A2, c2, hj, hs, rfl, rfl, hos2, hbw2⟩ := hrel
    have HO2 := Lib.hid hos2; clear hos2
    by_cases hj8 : j < 8
    ·have hb := storeN_byte y j
     rw [← hs] at hb
     have HS := Lib.hid hs; have hs64 : s < 64 := by omega
     clear hs
     have hl : Hid ((flat (z.take k) ++ storeN y j).length = 8 * k + j) := by show _ = _; rw [List.length_append, flat_len, storeN_len, List.length_take]; have := HZ.out; omega
     go_wp2_with (at_builtin; refine wpList_appB1 _ rfl (.tmp 18) (.tmp 23) rfl (HO2.out.alloc _) rfl hl.out rfl (cnew _ _ _ rfl) (UInt8.ofNat (y / 256 ^ j % 256)) rfl (by omega) (by have := hbw2.size; simp; omega) ?_; intro A3 c3 w3 hown3 hgrow hat; have hw3 := bapp (bal hbw2 _) (HO2.out.alloc _) hgrow; have HO3 := Lib.hid hown3; clear hown3 hgrow hat)
     go_roundw
     case rel => exact ⟨j + 1, s + 8, A3, c3, by omega, by have := HS.out; omega, by go_num, rfl, by rw [storeN_succ, ← List.append_assoc]; exact HO3.out, hw3⟩
     case measure => simp [intOf]; omega
    ·obtain rfl : j = 8 := by omega
     subst hs
     go_wp2
     go_roundw
     case rel =>
      refine ⟨k + 1, A2, c2, by omega, by go_num, rfl, ?_, hbw2⟩
      rw [List.take_add_one, HZK.out]
      show OS cB _ _ _ _ (flat (z.take k ++ [v]))
      rw [flat_snoc, ← HY.out]
      exact HO2.out
     case measure => simp [intOf]; omega
  ·obtain rfl : k = 128 := by omega
   go_wp2
   have h1 := HO.out
   rw [List.take_of_length_le (Nat.le_of_eq HZ.out)] at h1
   exact bodyPost_ret (results_tmp rfl _ _ _) rfl ⟨_, _, rfl, h1, hbw⟩
end Go.Proofs.Ytbghkdhkahkfnaa

/- The closures of long.Mix. Contracts alone; no statement is claimed here. -/
namespace Go.Proofs.Ytbghkdhkahkfnaa
open Go.RowKit
attribute [local go_sem] pureUpon Ords.of

theorem place1_any (i k gi : Nat) (w : World) (hi : i < 8) (hk : k < 16) (hc : w.cell? ⟨gi, 0, none⟩ = some (.int .i64 i)) :
  Calls Try.prog 50 #[.int .i64 k, .pointer (some ⟨gi, 0, none⟩)] w fun e w' => e = .returned (.int .i64 (rowAt i k : Nat)) ∧ w = w' := by
 go_enter Try.func50, Try.ntmps50
 go_wp2
 go_ret
 exact ⟨ret_int (by unfold rowAt; omega), rfl⟩
theorem place2_any (i k gi : Nat) (w : World) (hi : i < 8) (hk : k < 16) (hc : w.cell? ⟨gi, 0, none⟩ = some (.int .i64 i)) :
  Calls Try.prog 51 #[.int .i64 k, .pointer (some ⟨gi, 0, none⟩)] w fun e w' => e = .returned (.int .i64 (colAt i k : Nat)) ∧ w = w' := by
 have q1 : (k : Int).tdiv 2 = ((k / 2 : Nat) : Int) := rfl
 have q2 : (k : Int) / 2 = ((k / 2 : Nat) : Int) := rfl
 have q3 : (k : Int).tmod 2 = ((k % 2 : Nat) : Int) := rfl
 have q4 : (k : Int) % 2 = ((k % 2 : Nat) : Int) := rfl
 have b1 : k / 2 < 8 := by omega
 have b2 : k % 2 < 2 := by omega
 obtain ⟨q, hq⟩ : ∃ q, q = k / 2 := ⟨_, rfl⟩
 obtain ⟨r, hr⟩ : ∃ r, r = k % 2 := ⟨_, rfl⟩
 have hcol : colAt i k = 2 * i + 16 * q + r := by unfold colAt; rw [hq, hr]
 rw [hcol]
 rw [← hq] at q1 q2 b1
 rw [← hr] at q3 q4 b2
 clear hcol hq hr
 go_enter Try.func51, Try.ntmps51
 go_wp2
 go_ret
 exact ⟨ret_int (by omega), rfl⟩
theorem rowAt_lt {i k : Nat} (hi : i < 8) (hk : k < 16) : rowAt i k < 128 := by unfold rowAt; omega
theorem colAt_lt {i k : Nat} (hi : i < 8) (hk : k < 16) : colAt i k < 128 := by unfold colAt; omega
def zm16 : Array Value := #[.int .u64 0, .int .u64 0, .int .u64 0, .int .u64 0, .int .u64 0, .int .u64 0, .int .u64 0, .int .u64 0, .int .u64 0, .int .u64 0, .int .u64 0, .int .u64 0, .int .u64 0, .int .u64 0, .int .u64 0, .int .u64 0]
theorem zm16_eq (z : List UInt64) : zm16 = wcs (fillW z 0 16) := by unfold zm16; kernel_rfl
theorem gather_at (z : List UInt64) (p : Nat → Nat) (k : Nat) (h : k < 16) : (gather z p)[k]? = some (z.getD (p k) 0) := by simp [gather, h]
theorem gather_len (z : List UInt64) (p : Nat → Nat) : (gather z p).length = 16 := by simp [gather]
theorem perm_len (l : List UInt64) : (perm l).length = l.length := permTo_len 8 l

set_option maxRecDepth 20000 in
set_option maxHeartbeats 4000000 in
theorem put1_any (i gz gi : Nat) (z : List UInt64) (w : World) (hi : i < 8) (hz : z.length = 128) (hg : Blk w gz 104 (wcs z)) (hgi : Blk w gi 3 #[.int .i64 i]) :
  Calls Try.prog 48 #[.func (.func 50) #[] #[.pointer (some ⟨gi, 0, none⟩)], .pointer (some ⟨gz, 0, none⟩)] w fun e w' => e = .returned (.tuple #[]) ∧ Blk w' gz 104 (wcs (putAt (rowAt i) z)) ∧ w.grownBy w' (some gz) := by
 have HZ := Lib.hid hz; have HG := Lib.hid hg; have HI := Lib.hid hgi; clear hz hg hgi
 go_enter Try.func48, Try.ntmps48
 go_upto_region 1 with fail
 obtain ⟨G, hG⟩ : ∃ G, G = gather z (rowAt i) := ⟨_, rfl⟩
 have HGL : Hid (G.length = 16) := by show _ = _; rw [hG, gather_len]
 have h0 : Blk (w.alloc (.cells #[.int .u64 0, .int .u64 0, .int .u64 0, .int .u64 0, .int .u64 0, .int .u64 0, .int .u64 0, .int .u64 0, .int .u64 0, .int .u64 0, .int .u64 0, .int .u64 0, .int .u64 0, .int .u64 0, .int .u64 0, .int .u64 0] 107)) w.heap.size 107 (wcs (fillW G 0 16)) := by rw [← zm16_eq G]; exact Blk.new _ _ _
 have h1 := HG.out.alloc (.cells #[.int .u64 0, .int .u64 0, .int .u64 0, .int .u64 0, .int .u64 0, .int .u64 0, .int .u64 0, .int .u64 0, .int .u64 0, .int .u64 0, .int .u64 0, .int .u64 0, .int .u64 0, .int .u64 0, .int .u64 0, .int .u64 0] 107)
 have h2 := HI.out.alloc (.cells #[.int .u64 0, .int .u64 0, .int .u64 0, .int .u64 0, .int .u64 0, .int .u64 0, .int .u64 0, .int .u64 0, .int .u64 0, .int .u64 0, .int .u64 0, .int .u64 0, .int .u64 0, .int .u64 0, .int .u64 0, .int .u64 0] 107)
 have h3 := bal (b0 w) (.cells #[.int .u64 0, .int .u64 0, .int .u64 0, .int .u64 0, .int .u64 0, .int .u64 0, .int .u64 0, .int .u64 0, .int .u64 0, .int .u64 0, .int .u64 0, .int .u64 0, .int .u64 0, .int .u64 0, .int .u64 0, .int .u64 0] 107)
 obtain ⟨b, hb⟩ : ∃ b, b = w.heap.size := ⟨_, rfl⟩
 have hgzb : gz < b := by rw [hb]; exact HG.out.lt
 have hgib : gi < b := by rw [hb]; exact HI.out.lt
 rw [← hb] at h0 ⊢
 have HB := Lib.hid hb; have HGG := Lib.hid hG; clear hb hG
 generalize w.alloc (.cells #[.int .u64 0, .int .u64 0, .int .u64 0, .int .u64 0, .int .u64 0, .int .u64 0, .int .u64 0, .int .u64 0, .int .u64 0, .int .u64 0, .int .u64 0, .int .u64 0, .int .u64 0, .int .u64 0, .int .u64 0, .int .u64 0] 107) = w0 at *
 go_wp2_with fail
 go_loopw [6] (fun j wr => ∃ k : Nat, k ≤ 16 ∧ j = .int .i64 k ∧ Blk wr b 107 (wcs (fillW G k 16)) ∧ Blk wr gz 104 (wcs z) ∧ Blk wr gi 3 #[.int .i64 i] ∧ Below w.heap.size w wr) (fun j _ => 16 - (intOf j).toNat)
 case atStart => exact ⟨0, by omega, rfl, h0, h1, h2, h3⟩
 case round =>
  clear h0 h1 h2 h3
  obtain ⟨k, hk, rfl, hb0, hb1, hb2, hbw⟩ := hrel
  have HB0 := Lib.hid hb0; have HB1 := Lib.hid hb1; have HB2 := Lib.hid hb2; clear hb0 hb1 hb2
  by_cases hlt : k < 16
  ·obtain ⟨p, hp⟩ : ∃ p, p = rowAt i k := ⟨_, rfl⟩
   have hp1 : p < 128 := by rw [hp]; exact rowAt_lt hi hlt
   have hpl := place1_any i k gi wr hi hlt (HB2.out.cell 0)
   rw [← hp] at hpl
   have gz1 : wr.cell? ⟨gz, p, none⟩ = some (wv (z.getD p 0)) := (HB1.out.cell p).trans (wcs_get _ _ (by rw [HZ.out]; exact hp1))
   obtain ⟨v, hv⟩ : ∃ v, v = z.getD p 0 := ⟨_, rfl⟩
   have hGk : G[k]? = some v := by rw [HGG.out, gather_at z _ k hlt, hv, hp]
   rw [← hv] at gz1
   change wr.cell? ⟨gz, p, none⟩ = some (.int .u64 (wrd v)) at gz1
   have gc : wr.cell? ⟨b, k, none⟩ = some (wv ((fillW G k 16).getD k 0)) := (HB0.out.cell k).trans (wcs_get _ _ (by rw [fillW_len _ _ _ hk HGL.out]; exact hlt))
   have gf : wr.frozen? ⟨b, k, none⟩ = false := HB0.out.frozen k
   generalize wv ((fillW G k 16).getD k 0) = old at gc
   have HPL := Lib.hid hpl; have HGK := Lib.hid hGk; clear hpl hGk hv hp
   go_wp2_with (go_at_call 50; refine HPL.out.mono ?_; rintro e w1 ⟨rfl, rfl⟩)
   case roundEnd =>
    have h1 := HB0.out.set_ k (wv v)
    rw [fillW_put _ k 16 v hlt HGK.out] at h1
    exact ⟨⟨k + 1, by omega, by go_num, h1, HB1.out.far (p := ⟨b, k, none⟩) (by simp; omega) _, HB2.out.far (p := ⟨b, k, none⟩) (by simp; omega) _, bput hbw (by rw [HB.out]; exact Nat.le_refl _) _⟩, by simp [intOf]; omega⟩
  ·obtain rfl : k = 16 := by omega
   clear hlt hk
   have h1 := HB0.out
   rw [fillW_all _ 16 HGL.out] at h1
   have H1 := Lib.hid h1; clear h1
   have S1 := Lib.hid (sz16 G HGL.out)
   have hPl : (perm G).length = 16 := by rw [perm_len, HGL.out]
   have S1' := Lib.hid (sz16 (perm G) hPl)
   have S2 := Lib.hid (wcs_all (perm G))
   have S3 : Hid ((wcs G).size = (wcs (perm G)).size) := by show _ = _; rw [wcs_len _ 16 HGL.out, wcs_len _ 16 hPl]
   have HPL := Lib.hid hPl; clear hPl
   have U := Lib.hid Try.underlying107
   go_wp2_with (first
    | (refine wpList_load_row rfl 107 _ rfl b rfl 107 (wcs G) (0, 0) _ H1.out U.out rfl S1.out ?_)
    | (go_at_call 49; refine (perm_any G HGL.out wr).mono ?_; rintro e w1 ⟨rfl, hb1⟩)
    | (refine wpList_store_row rfl 107 _ _ rfl b (wcs (perm G)) rfl rfl 107 (wcs G) (H1.out.below hb1 H1.out.lt) S1'.out S3.out S2.out ?_))
   clear S1 S1' S2 S3 U
   generalize hV : perm G = V at *
   have HVV := Lib.hid hV; clear hV
   have hv0 := (H1.out.below hb1 H1.out.lt).row (wcs (V))
   have hv1 := (HB1.out.below hb1 HB1.out.lt).rowFar (k := b) (by omega) (wcs (V))
   have hv2 := (HB2.out.below hb1 HB2.out.lt).rowFar (k := b) (by omega) (wcs (V))
   have hv3 : w.grownBy (w1.setRow b (wcs (V))) (some gz) := grownOf (brow (bcall hbw hb1) (by rw [HB.out]; exact Nat.le_refl _) _)
   have HV0 := Lib.hid hv0; have HV1 := Lib.hid hv1; have HV2 := Lib.hid hv2; have HV3 := Lib.hid hv3; clear hv0 hv1 hv2 hv3 hb1 hbw
   generalize w1.setRow b (wcs (V)) = w2 at *
   go_loopw [19] (fun j wr => ∃ k : Nat, k ≤ 16 ∧ j = .int .i64 k ∧ Blk wr b 107 (wcs (V)) ∧ Blk wr gz 104 (wcs (scatter (rowAt i) (V) k z)) ∧ Blk wr gi 3 #[.int .i64 i] ∧ w.grownBy wr (some gz)) (fun j _ => 16 - (intOf j).toNat)
   case atStart => exact ⟨0, by omega, rfl, HV0.out, HV1.out, HV2.out, HV3.out⟩
   case round =>
    clear HV0 HV1 HV2 HV3
    obtain ⟨k, hk, rfl, hb0, hb1, hb2, hbw⟩ := hrel
    have HC0 := Lib.hid hb0; have HC1 := Lib.hid hb1; have HC2 := Lib.hid hb2; have HGR := Lib.hid hbw; clear hb0 hb1 hb2 hbw
    by_cases hlt : k < 16
    ·obtain ⟨p, hp⟩ : ∃ p, p = rowAt i k := ⟨_, rfl⟩
     have hp1 : p < 128 := by rw [hp]; exact rowAt_lt hi hlt
     have hpl := fun n => place1_any i k gi (wr.drewN n) hi hlt (HC2.out.cell 0)
     rw [← hp] at hpl
     have HPP := Lib.hid hp; clear hp
     obtain ⟨v, hv⟩ : ∃ v, v = (V).getD k 0 := ⟨_, rfl⟩
     have gv : wr.cell? ⟨b, k, none⟩ = some (.int .u64 (wrd v)) := by rw [hv]; exact (HC0.out.cell k).trans (wcs_get _ _ (by rw [HPL.out]; exact hlt))
     have gc : wr.cell? ⟨gz, p, none⟩ = some (wv ((scatter (rowAt i) (V) k z).getD p 0)) := (HC1.out.cell p).trans (wcs_get _ _ (by rw [scatter_len, HZ.out]; exact hp1))
     have gf : wr.frozen? ⟨gz, p, none⟩ = false := HC1.out.frozen p
     generalize wv ((scatter (rowAt i) (V) k z).getD p 0) = old at gc
     have HPL2 := Lib.hid hpl; have HV := Lib.hid hv; clear hpl hv
     have hkd : decide ((k : Int) < 16) = true := by simp; omega
     have hki : (k : Int) < 16 := by omega
     have hpi : (p : Int) < 128 := by omega
     go_wp2
     refine wp_region_ords (fun w' => w'.cell? ⟨b, k, none⟩ = some (.int .u64 (wrd v))) (fun _ _ h => h) (Ords.of [(0, 0), (0, 1), (0, 3), (0, 4), (0, 5), (2, 2), (0, 6), (2, 7)] .fin) (by kernel_rfl) rfl (by kernel_rfl) (by kernel_rfl) (fun c a d v w h => by cases d <;> exact h) gv ?_
     iterate 4 (refine ords_pure rfl (fun K hK => ?_); go_simp; refine hK _ ?_; clear hK K)
     refine ords_heldK rfl (fun K K2 hK hK2 => ?_); go_simp; refine ⟨hK2 _ (fun w9 hS => ?_), hK _ ?_⟩; (clear hK hK2 K K2; obtain s0 := hS; go_simp); (clear hK hK2 K K2)
     refine ords_loud rfl (fun n1 => ?_)
     go_wp2_with (go_at_call 50; refine (HPL2.out _).mono ?_; rintro e w3 ⟨rfl, rfl⟩); refine ⟨gv, ?_⟩
     refine ords_pure rfl (fun K hK => ?_); go_simp; refine hK _ ?_; clear hK K
     refine ords_loud rfl (fun n2 => ?_)
     go_wp2; refine ⟨by rw [World.cell?_setCell_other _ _ _ _ (by simp <;> omega)]; exact gv, ?_⟩
     refine ords_end (fun n3 => ?_)
     go_wp2
     case roundEnd =>
      have h0 := ((HC0.out.drewN (n1 + n2)).far (p := ⟨gz, p, none⟩) (by simp; omega) (wv v)).drewN n3
      have hne : gi ≠ gz := Blk.ne_ HC2.out HC1.out (by decide)
      have h2 := ((HC2.out.drewN (n1 + n2)).far (p := ⟨gz, p, none⟩) (by simp; omega) (wv v)).drewN n3
      have h1 := ((HC1.out.drewN (n1 + n2)).set_ p (wv v)).drewN n3
      rw [wcs_set] at h1
      refine ⟨⟨k + 1, by omega, by go_num, h0, ?_, h2, gdr (grown_set (gdr HGR.out (n1 + n2)) (p := ⟨gz, p, none⟩) (.inl rfl) (wv v)) n3⟩, by simp [intOf]; omega⟩
      unfold scatter
      rw [← HPP.out, ← HV.out]
      exact h1
    ·obtain rfl : k = 16 := by omega
     clear hlt hk
     go_wp2
     go_end0
     refine ⟨rfl, ?_, HGR.out⟩
     have h1 := HC1.out
     rw [← HVV.out, HGG.out] at h1
     exact h1

set_option maxRecDepth 20000 in
set_option maxHeartbeats 4000000 in
theorem put2_any (i gz gi : Nat) (z : List UInt64) (w : World) (hi : i < 8) (hz : z.length = 128) (hg : Blk w gz 104 (wcs z)) (hgi : Blk w gi 3 #[.int .i64 i]) :
  Calls Try.prog 48 #[.func (.func 51) #[] #[.pointer (some ⟨gi, 0, none⟩)], .pointer (some ⟨gz, 0, none⟩)] w fun e w' => e = .returned (.tuple #[]) ∧ Blk w' gz 104 (wcs (putAt (colAt i) z)) ∧ w.grownBy w' (some gz) := by
 have HZ := Lib.hid hz; have HG := Lib.hid hg; have HI := Lib.hid hgi; clear hz hg hgi
 go_enter Try.func48, Try.ntmps48
 go_upto_region 1 with fail
 obtain ⟨G, hG⟩ : ∃ G, G = gather z (colAt i) := ⟨_, rfl⟩
 have HGL : Hid (G.length = 16) := by show _ = _; rw [hG, gather_len]
 have h0 : Blk (w.alloc (.cells #[.int .u64 0, .int .u64 0, .int .u64 0, .int .u64 0, .int .u64 0, .int .u64 0, .int .u64 0, .int .u64 0, .int .u64 0, .int .u64 0, .int .u64 0, .int .u64 0, .int .u64 0, .int .u64 0, .int .u64 0, .int .u64 0] 107)) w.heap.size 107 (wcs (fillW G 0 16)) := by rw [← zm16_eq G]; exact Blk.new _ _ _
 have h1 := HG.out.alloc (.cells #[.int .u64 0, .int .u64 0, .int .u64 0, .int .u64 0, .int .u64 0, .int .u64 0, .int .u64 0, .int .u64 0, .int .u64 0, .int .u64 0, .int .u64 0, .int .u64 0, .int .u64 0, .int .u64 0, .int .u64 0, .int .u64 0] 107)
 have h2 := HI.out.alloc (.cells #[.int .u64 0, .int .u64 0, .int .u64 0, .int .u64 0, .int .u64 0, .int .u64 0, .int .u64 0, .int .u64 0, .int .u64 0, .int .u64 0, .int .u64 0, .int .u64 0, .int .u64 0, .int .u64 0, .int .u64 0, .int .u64 0] 107)
 have h3 := bal (b0 w) (.cells #[.int .u64 0, .int .u64 0, .int .u64 0, .int .u64 0, .int .u64 0, .int .u64 0, .int .u64 0, .int .u64 0, .int .u64 0, .int .u64 0, .int .u64 0, .int .u64 0, .int .u64 0, .int .u64 0, .int .u64 0, .int .u64 0] 107)
 obtain ⟨b, hb⟩ : ∃ b, b = w.heap.size := ⟨_, rfl⟩
 have hgzb : gz < b := by rw [hb]; exact HG.out.lt
 have hgib : gi < b := by rw [hb]; exact HI.out.lt
 rw [← hb] at h0 ⊢
 have HB := Lib.hid hb; have HGG := Lib.hid hG; clear hb hG
 generalize w.alloc (.cells #[.int .u64 0, .int .u64 0, .int .u64 0, .int .u64 0, .int .u64 0, .int .u64 0, .int .u64 0, .int .u64 0, .int .u64 0, .int .u64 0, .int .u64 0, .int .u64 0, .int .u64 0, .int .u64 0, .int .u64 0, .int .u64 0] 107) = w0 at *
 go_wp2_with fail
 go_loopw [6] (fun j wr => ∃ k : Nat, k ≤ 16 ∧ j = .int .i64 k ∧ Blk wr b 107 (wcs (fillW G k 16)) ∧ Blk wr gz 104 (wcs z) ∧ Blk wr gi 3 #[.int .i64 i] ∧ Below w.heap.size w wr) (fun j _ => 16 - (intOf j).toNat)
 case atStart => exact ⟨0, by omega, rfl, h0, h1, h2, h3⟩
 case round =>
  clear h0 h1 h2 h3
  obtain ⟨k, hk, rfl, hb0, hb1, hb2, hbw⟩ := hrel
  have HB0 := Lib.hid hb0; have HB1 := Lib.hid hb1; have HB2 := Lib.hid hb2; clear hb0 hb1 hb2
  by_cases hlt : k < 16
  ·obtain ⟨p, hp⟩ : ∃ p, p = colAt i k := ⟨_, rfl⟩
   have hp1 : p < 128 := by rw [hp]; exact colAt_lt hi hlt
   have hpl := place2_any i k gi wr hi hlt (HB2.out.cell 0)
   rw [← hp] at hpl
   have gz1 : wr.cell? ⟨gz, p, none⟩ = some (wv (z.getD p 0)) := (HB1.out.cell p).trans (wcs_get _ _ (by rw [HZ.out]; exact hp1))
   obtain ⟨v, hv⟩ : ∃ v, v = z.getD p 0 := ⟨_, rfl⟩
   have hGk : G[k]? = some v := by rw [HGG.out, gather_at z _ k hlt, hv, hp]
   rw [← hv] at gz1
   change wr.cell? ⟨gz, p, none⟩ = some (.int .u64 (wrd v)) at gz1
   have gc : wr.cell? ⟨b, k, none⟩ = some (wv ((fillW G k 16).getD k 0)) := (HB0.out.cell k).trans (wcs_get _ _ (by rw [fillW_len _ _ _ hk HGL.out]; exact hlt))
   have gf : wr.frozen? ⟨b, k, none⟩ = false := HB0.out.frozen k
   generalize wv ((fillW G k 16).getD k 0) = old at gc
   have HPL := Lib.hid hpl; have HGK := Lib.hid hGk; clear hpl hGk hv hp
   go_wp2_with (go_at_call 51; refine HPL.out.mono ?_; rintro e w1 ⟨rfl, rfl⟩)
   case roundEnd =>
    have h1 := HB0.out.set_ k (wv v)
    rw [fillW_put _ k 16 v hlt HGK.out] at h1
    exact ⟨⟨k + 1, by omega, by go_num, h1, HB1.out.far (p := ⟨b, k, none⟩) (by simp; omega) _, HB2.out.far (p := ⟨b, k, none⟩) (by simp; omega) _, bput hbw (by rw [HB.out]; exact Nat.le_refl _) _⟩, by simp [intOf]; omega⟩
  ·obtain rfl : k = 16 := by omega
   clear hlt hk
   have h1 := HB0.out
   rw [fillW_all _ 16 HGL.out] at h1
   have H1 := Lib.hid h1; clear h1
   have S1 := Lib.hid (sz16 G HGL.out)
   have hPl : (perm G).length = 16 := by rw [perm_len, HGL.out]
   have S1' := Lib.hid (sz16 (perm G) hPl)
   have S2 := Lib.hid (wcs_all (perm G))
   have S3 : Hid ((wcs G).size = (wcs (perm G)).size) := by show _ = _; rw [wcs_len _ 16 HGL.out, wcs_len _ 16 hPl]
   have HPL := Lib.hid hPl; clear hPl
   have U := Lib.hid Try.underlying107
   go_wp2_with (first
    | (refine wpList_load_row rfl 107 _ rfl b rfl 107 (wcs G) (0, 0) _ H1.out U.out rfl S1.out ?_)
    | (go_at_call 49; refine (perm_any G HGL.out wr).mono ?_; rintro e w1 ⟨rfl, hb1⟩)
    | (refine wpList_store_row rfl 107 _ _ rfl b (wcs (perm G)) rfl rfl 107 (wcs G) (H1.out.below hb1 H1.out.lt) S1'.out S3.out S2.out ?_))
   clear S1 S1' S2 S3 U
   generalize hV : perm G = V at *
   have HVV := Lib.hid hV; clear hV
   have hv0 := (H1.out.below hb1 H1.out.lt).row (wcs (V))
   have hv1 := (HB1.out.below hb1 HB1.out.lt).rowFar (k := b) (by omega) (wcs (V))
   have hv2 := (HB2.out.below hb1 HB2.out.lt).rowFar (k := b) (by omega) (wcs (V))
   have hv3 : w.grownBy (w1.setRow b (wcs (V))) (some gz) := grownOf (brow (bcall hbw hb1) (by rw [HB.out]; exact Nat.le_refl _) _)
   have HV0 := Lib.hid hv0; have HV1 := Lib.hid hv1; have HV2 := Lib.hid hv2; have HV3 := Lib.hid hv3; clear hv0 hv1 hv2 hv3 hb1 hbw
   generalize w1.setRow b (wcs (V)) = w2 at *
   go_loopw [19] (fun j wr => ∃ k : Nat, k ≤ 16 ∧ j = .int .i64 k ∧ Blk wr b 107 (wcs (V)) ∧ Blk wr gz 104 (wcs (scatter (colAt i) (V) k z)) ∧ Blk wr gi 3 #[.int .i64 i] ∧ w.grownBy wr (some gz)) (fun j _ => 16 - (intOf j).toNat)
   case atStart => exact ⟨0, by omega, rfl, HV0.out, HV1.out, HV2.out, HV3.out⟩
   case round =>
    clear HV0 HV1 HV2 HV3
    obtain ⟨k, hk, rfl, hb0, hb1, hb2, hbw⟩ := hrel
    have HC0 := Lib.hid hb0; have HC1 := Lib.hid hb1; have HC2 := Lib.hid hb2; have HGR := Lib.hid hbw; clear hb0 hb1 hb2 hbw
    by_cases hlt : k < 16
    ·obtain ⟨p, hp⟩ : ∃ p, p = colAt i k := ⟨_, rfl⟩
     have hp1 : p < 128 := by rw [hp]; exact colAt_lt hi hlt
     have hpl := fun n => place2_any i k gi (wr.drewN n) hi hlt (HC2.out.cell 0)
     rw [← hp] at hpl
     have HPP := Lib.hid hp; clear hp
     obtain ⟨v, hv⟩ : ∃ v, v = (V).getD k 0 := ⟨_, rfl⟩
     have gv : wr.cell? ⟨b, k, none⟩ = some (.int .u64 (wrd v)) := by rw [hv]; exact (HC0.out.cell k).trans (wcs_get _ _ (by rw [HPL.out]; exact hlt))
     have gc : wr.cell? ⟨gz, p, none⟩ = some (wv ((scatter (colAt i) (V) k z).getD p 0)) := (HC1.out.cell p).trans (wcs_get _ _ (by rw [scatter_len, HZ.out]; exact hp1))
     have gf : wr.frozen? ⟨gz, p, none⟩ = false := HC1.out.frozen p
     generalize wv ((scatter (colAt i) (V) k z).getD p 0) = old at gc
     have HPL2 := Lib.hid hpl; have HV := Lib.hid hv; clear hpl hv
     have hkd : decide ((k : Int) < 16) = true := by simp; omega
     have hki : (k : Int) < 16 := by omega
     have hpi : (p : Int) < 128 := by omega
     go_wp2
     refine wp_region_ords (fun w' => w'.cell? ⟨b, k, none⟩ = some (.int .u64 (wrd v))) (fun _ _ h => h) (Ords.of [(0, 0), (0, 1), (0, 3), (0, 4), (0, 5), (2, 2), (0, 6), (2, 7)] .fin) (by kernel_rfl) rfl (by kernel_rfl) (by kernel_rfl) (fun c a d v w h => by cases d <;> exact h) gv ?_
     iterate 4 (refine ords_pure rfl (fun K hK => ?_); go_simp; refine hK _ ?_; clear hK K)
     refine ords_heldK rfl (fun K K2 hK hK2 => ?_); go_simp; refine ⟨hK2 _ (fun w9 hS => ?_), hK _ ?_⟩; (clear hK hK2 K K2; obtain s0 := hS; go_simp); (clear hK hK2 K K2)
     refine ords_loud rfl (fun n1 => ?_)
     go_wp2_with (go_at_call 51; refine (HPL2.out _).mono ?_; rintro e w3 ⟨rfl, rfl⟩); refine ⟨gv, ?_⟩
     refine ords_pure rfl (fun K hK => ?_); go_simp; refine hK _ ?_; clear hK K
     refine ords_loud rfl (fun n2 => ?_)
     go_wp2; refine ⟨by rw [World.cell?_setCell_other _ _ _ _ (by simp <;> omega)]; exact gv, ?_⟩
     refine ords_end (fun n3 => ?_)
     go_wp2
     case roundEnd =>
      have h0 := ((HC0.out.drewN (n1 + n2)).far (p := ⟨gz, p, none⟩) (by simp; omega) (wv v)).drewN n3
      have hne : gi ≠ gz := Blk.ne_ HC2.out HC1.out (by decide)
      have h2 := ((HC2.out.drewN (n1 + n2)).far (p := ⟨gz, p, none⟩) (by simp; omega) (wv v)).drewN n3
      have h1 := ((HC1.out.drewN (n1 + n2)).set_ p (wv v)).drewN n3
      rw [wcs_set] at h1
      refine ⟨⟨k + 1, by omega, by go_num, h0, ?_, h2, gdr (grown_set (gdr HGR.out (n1 + n2)) (p := ⟨gz, p, none⟩) (.inl rfl) (wv v)) n3⟩, by simp [intOf]; omega⟩
      unfold scatter
      rw [← HPP.out, ← HV.out]
      exact h1
    ·obtain rfl : k = 16 := by omega
     clear hlt hk
     go_wp2
     go_end0
     refine ⟨rfl, ?_, HGR.out⟩
     have h1 := HC1.out
     rw [← HVV.out, HGG.out] at h1
     exact h1
end Go.Proofs.Ytbghkdhkahkfnaa

/- Places, the reference's table of a round's places. Contracts alone; no statement is claimed here. -/
namespace Go.Proofs.Ytbghkdhkahkfnaa
open Go.RowKit

def tableCells : Array Value := #[.int .i64 0, .int .i64 4, .int .i64 8, .int .i64 12, .int .i64 1, .int .i64 5, .int .i64 9, .int .i64 13, .int .i64 2, .int .i64 6, .int .i64 10, .int .i64 14, .int .i64 3, .int .i64 7, .int .i64 11, .int .i64 15,
      .int .i64 0, .int .i64 5, .int .i64 10, .int .i64 15, .int .i64 1, .int .i64 6, .int .i64 11, .int .i64 12, .int .i64 2, .int .i64 7, .int .i64 8, .int .i64 13, .int .i64 3, .int .i64 4, .int .i64 9, .int .i64 14]
end Go.Proofs.Ytbghkdhkahkfnaa

/- The reference's Perm. Contracts alone; no statement is claimed here. -/
namespace Go.Proofs.Ytbghkdhkahkfnaa
open Go.RowKit
attribute [local go_sem] pureUpon Ords.of

def P4.putN (p : P4) (l : List UInt64) (q : Q4) : Nat → List UInt64
  | 0 => l
  | 1 => l.set p.a q.a
  | 2 => (l.set p.a q.a).set p.b q.b
  | 3 => ((l.set p.a q.a).set p.b q.b).set p.c q.c
  | _ => (((l.set p.a q.a).set p.b q.b).set p.c q.c).set p.d q.d
def rowP (p : P4) : Array Value := #[.int .i64 p.a, .int .i64 p.b, .int .i64 p.c, .int .i64 p.d]
def rowQ (q : Q4) : Array Value := #[.int .u64 (wrd q.a), .int .u64 (wrd q.b), .int .u64 (wrd q.c), .int .u64 (wrd q.d)]

end Go.Proofs.Ytbghkdhkahkfnaa

/- put, of the reference. Contracts alone; no statement is claimed here. -/
namespace Go.Proofs.Ytbghkdhkahkfnaa
open Go.RowKit
attribute [local go_sem] pureUpon Ords.of

def cW : Cod UInt64 := ⟨76, 81, 8, .int .u64 0, wv⟩
theorem cW_ok : cW.Ok Try.prog := ⟨Try.underlying81, by kernel_rfl, rfl, fun _ => rfl⟩
def atP (p : Nat → Nat) : List Nat := (List.range 16).map p
end Go.Proofs.Ytbghkdhkahkfnaa

/- Mix, of the program. Contracts alone; no statement is claimed here. -/
namespace Go.Proofs.Ytbghkdhkahkfnaa
open Go.RowKit
attribute [local go_sem] pureUpon Ords.of

def half (z x : List UInt64) (k : Nat) : List UInt64 := z.take k ++ x.drop k
theorem half_put (z x : List UInt64) (k : Nat) (v : UInt64) (hz : z[k]? = some v) (hl : x.length = z.length) : (half z x k).set k v = half z x (k + 1) := by
 have hk : k < z.length := (List.getElem?_eq_some_iff.1 hz).1
 have h1 : (z.take k).length = k := by simp; omega
 unfold half
 rw [List.take_add_one, hz, List.drop_eq_getElem_cons (by omega), List.set_append, if_neg (by rw [h1]; omega), h1, Nat.sub_self, List.set_cons_zero, List.append_assoc]
 rfl
theorem half_at (z x : List UInt64) (k : Nat) (hk : k < x.length) (hl : x.length = z.length) : (half z x k)[k]? = some (x.getD k 0) := by
 have h1 : (z.take k).length = k := by simp; omega
 unfold half
 rw [List.getElem?_append_right (by omega), h1, Nat.sub_self, List.getElem?_drop, Nat.add_zero, List.getD_eq_getElem?_getD, List.getElem?_eq_getElem hk]
 rfl
theorem half_all (z x : List UInt64) (n : Nat) (hz : z.length = n) (hx : x.length = n) : half z x n = z := by
 unfold half; rw [List.take_of_length_le (by omega), List.drop_of_length_le (by omega), List.append_nil]
theorem wcs_at (l : List UInt64) (k : Nat) (v : UInt64) (h : l[k]? = some v) : (wcs l)[k]? = some (wv v) := by unfold wcs; simp [h]
theorem getD_some (l : List UInt64) (k : Nat) (h : k < l.length) : l[k]? = some (l.getD k 0) := by rw [List.getD_eq_getElem?_getD, List.getElem?_eq_getElem h]; rfl
set_option maxRecDepth 20000 in
set_option maxHeartbeats 4000000 in
theorem mixP_yes (A1 A2 : Option Addr) (c1 c2 : Nat) (x y : List UInt8) (w : World) (hx : x.length = 1024) (hy : y.length = 1024) (hr1 : RS cB w w.heap.size A1 x) (hr2 : RS cB w w.heap.size A2 y) :
  Calls Try.prog 39 #[.slice A1 1024 c1, .slice A2 1024 c2] w fun e w' => ∃ A c, e = .returned (.tuple #[.slice A 1024 c, .int .i64 0]) ∧ OS cB w' w.heap.size A c (mixB x y) ∧ Below w.heap.size w w' := by
 have hXY := wordsOf_xor x y 128 (by omega) (by omega)
 have HXY := Lib.hid hXY; clear hXY
 have HX := Lib.hid hx; have HY := Lib.hid hy; have HR1 := Lib.hid hr1; have HR2 := Lib.hid hr2; clear hx hy hr1 hr2
 obtain ⟨X, hX⟩ : ∃ X, X = wordsOf x 128 := ⟨_, rfl⟩
 obtain ⟨Y, hY⟩ : ∃ Y, Y = wordsOf y 128 := ⟨_, rfl⟩
 have HXl : Hid (X.length = 128) := by show _ = _; rw [hX, wordsOf_len]
 have HYl : Hid (Y.length = 128) := by show _ = _; rw [hY, wordsOf_len]
 have HXX := Lib.hid hX; have HYY := Lib.hid hY; clear hX hY
 have SX := Lib.hid (sz128 X HXl.out); have SY := Lib.hid (sz128 Y HYl.out)
 have AX := Lib.hid (wcs_all X); have AY := Lib.hid (wcs_all Y)
 have ZX : Hid (Try.zeroCells104.size = (wcs X).size) := by show _ = _; rw [z128, wcs_len _ 128 (by simp [fillW]), wcs_len X 128 HXl.out]
 have ZY : Hid (Try.zeroCells104.size = (wcs Y).size) := by show _ = _; rw [z128, wcs_len _ 128 (by simp [fillW]), wcs_len Y 128 HYl.out]
 have U := Lib.hid Try.underlying104
 go_enter Try.func39, Try.ntmps39
 go_wp2_with fail
 refine (blocks2 ⟨A1, 1024, c1⟩ ⟨A2, 1024, c2⟩ w).mono ?_
 rintro e w1 ⟨rfl, rfl⟩
 have hb1 := bal (b0 w) (.cells #[.slice A1 1024 c1, .slice A2 1024 c2] 24)
 go_wp2_with fail
 refine (words_any A1 c1 x _ HX.out ((HR1.out.below hb1).more hb1.size)).mono ?_
 rintro e w2 ⟨rfl, hb2⟩
 have hb12 := bcall hb1 hb2; rw [← HXX.out]
 go_wp2_with fail
 refine (words_any A2 c2 y _ HY.out ((HR2.out.below hb12).more hb12.size)).mono ?_
 rintro e w3 ⟨rfl, hb3⟩
 have hb13 := bcall hb12 hb3; rw [← HYY.out]
 have q1 := (Blk.new w3 104 Try.zeroCells104).alloc (.cells Try.zeroCells104 104)
 have q2 : Blk ((w3.alloc (.cells Try.zeroCells104 104)).alloc (.cells Try.zeroCells104 104)) (w3.heap.size + 1) 104 Try.zeroCells104 := (by simpa using Blk.new (w3.alloc (.cells Try.zeroCells104 104)) 104 Try.zeroCells104)
 have q3 := q2.rowFar (k := w3.heap.size) (by omega) (wcs X)
 have q4 := (q1.row (wcs X)).rowFar (k := w3.heap.size + 1) (by omega) (wcs Y)
 have q5 := q3.row (wcs Y)
 have q6 := brow (brow (bal (bal hb13 (.cells Try.zeroCells104 104)) (.cells Try.zeroCells104 104)) hb13.size (wcs X)) (g := w3.heap.size + 1) (by have := hb13.size; omega) (wcs Y)
 have Q1 := Lib.hid q1; have Q3 := Lib.hid q3; clear q1 q2 q3
 clear hb1 hb2 hb3 hb12
 go_upto_region 4 with (first | (refine wpList_store_row rfl 104 _ _ rfl w3.heap.size (wcs X) rfl rfl 104 Try.zeroCells104 Q1.out SX.out ZX.out AX.out ?_) | (refine wpList_store_row rfl 104 _ _ rfl (w3.heap.size + 1) (wcs Y) rfl rfl 104 Try.zeroCells104 Q3.out SY.out ZY.out AY.out ?_))
 clear Q1 Q3 SX SY ZX ZY AX AY
 obtain ⟨g, hg⟩ : ∃ g, g = w3.heap.size := ⟨_, rfl⟩
 have hwg : w.heap.size ≤ g := by rw [hg]; exact hb13.size
 rw [← hg] at q4 q5 q6 ⊢
 clear hg hb13
 generalize (((w3.alloc (.cells Try.zeroCells104 104)).alloc (.cells Try.zeroCells104 104)).setRow g (wcs X)).setRow (g + 1) (wcs Y) = w4 at *
 obtain ⟨R, hR⟩ : ∃ R, R = xorW X Y := ⟨_, rfl⟩
 have HRl : Hid (R.length = 128) := by show _ = _; rw [hR, xorW_len X Y (HYl.out.trans HXl.out.symm), HXl.out]
 have HR := Lib.hid hR; clear hR
 have Q4 := Lib.hid q4; have Q5 := Lib.hid q5; have Q6 := Lib.hid q6; clear q4 q5 q6
 go_wp2_with fail
 go_loopw [23] (fun i wr => ∃ k : Nat, k ≤ 128 ∧ i = .int .i64 k ∧ Blk wr g 104 (wcs (half R X k)) ∧ Blk wr (g + 1) 104 (wcs Y) ∧ Below w.heap.size w wr) (fun i _ => 128 - (intOf i).toNat)
 case atStart => exact ⟨0, by omega, rfl, by simpa [half] using Q4.out, Q5.out, Q6.out⟩
 case round =>
  clear Q4 Q5 Q6
  obtain ⟨k, hk, rfl, hb0, hb1, hbw⟩ := hrel
  have HB0 := Lib.hid hb0; have HB1 := Lib.hid hb1; clear hb0 hb1
  by_cases hlt : k < 128
  ·have eX := getD_some X k (by rw [HXl.out]; exact hlt)
   have eY := getD_some Y k (by rw [HYl.out]; exact hlt)
   have gx := (HB0.out.cell k).trans (wcs_at _ _ _ (half_at R X k (by rw [HXl.out]; exact hlt) (HXl.out.trans HRl.out.symm)))
   have gy := (HB1.out.cell k).trans (wcs_at _ _ _ eY)
   have eR := xorW_at X Y k _ _ eX eY
   rw [← HR.out] at eR
   generalize X.getD k 0 = a at *
   generalize Y.getD k 0 = b at *
   change wr.cell? ⟨g, k, none⟩ = some (.int .u64 (wrd a)) at gx
   change wr.cell? ⟨g + 1, k, none⟩ = some (.int .u64 (wrd b)) at gy
   have gf : wr.frozen? ⟨g, k, none⟩ = false := HB0.out.frozen k
   have ER := Lib.hid eR; clear eX eY eR
   have hx := wrd_xor a b
   have hki : (k : Int) < 128 := by omega
   have hkd : decide ((k : Int) < 128) = true := by simp; omega
   go_wp2
   refine wp_region_ords (fun _ => True) (fun _ _ h => h) (Ords.of [(0, 0), (0, 1), (1, 2), (0, 3), (0, 4), (1, 5), (0, 6), (0, 7), (2, 8)] .fin) (by kernel_rfl) rfl (by kernel_rfl) (by kernel_rfl) (fun c a d v w h => by cases d <;> exact h) trivial ?_
   iterate 2 (refine ords_pure rfl (fun K hK => ?_); go_simp; refine hK _ ?_; clear hK K; refine ords_pure rfl (fun K hK => ?_); go_simp; refine hK _ ?_; clear hK K; refine ords_read rfl (fun K hK => ?_); go_simp; refine hK _ ?_; clear hK K)
   iterate 2 (refine ords_pure rfl (fun K hK => ?_); go_simp; refine hK _ ?_; clear hK K)
   refine ords_loud rfl (fun n1 => ?_)
   go_wp2
   refine ⟨trivial, ?_⟩
   refine ords_end (fun n2 => ?_)
   go_wp2
   case roundEnd =>
    have h0 := ((HB0.out.drewN n1).set_ k (wv (a ^^^ b))).drewN n2
    rw [wcs_set, half_put R X k _ ER.out (HXl.out.trans HRl.out.symm)] at h0
    exact ⟨⟨k + 1, by omega, by go_num, h0, ((HB1.out.drewN n1).far (p := ⟨g, k, none⟩) (by simp) (wv (a ^^^ b))).drewN n2, bdr (bput (bdr hbw n1) (p := ⟨g, k, none⟩) hwg (wv (a ^^^ b))) n2⟩, by simp [intOf]; omega⟩
  ·obtain rfl : k = 128 := by omega
   clear hlt hk
   have h0 := HB0.out
   rw [half_all R X 128 HRl.out HXl.out] at h0
   have H0 := Lib.hid h0; clear h0
   have SR := Lib.hid (sz128 R HRl.out); have AR := Lib.hid (wcs_all R)
   have ZR : Hid (Try.zeroCells104.size = (wcs R).size) := by show _ = _; rw [z128, wcs_len _ 128 (by simp [fillW]), wcs_len R 128 HRl.out]
   have q1 := Blk.new wr 104 Try.zeroCells104
   have q2 := q1.row (wcs R)
   have q3 := (H0.out.alloc (.cells Try.zeroCells104 104)).rowFar (k := wr.heap.size) (by have := H0.out.lt; omega) (wcs R)
   have q4 := brow (bal hbw (.cells Try.zeroCells104 104)) hbw.size (wcs R)
   have Q1 := Lib.hid q1; have Q2 := Lib.hid q2; have Q3 := Lib.hid q3; have Q4 := Lib.hid q4; clear q1 q2 q3 q4
   go_upto_region 11 with (first
    | (refine wpList_load_row rfl 104 _ rfl g rfl 104 (wcs R) (0, 0) _ H0.out U.out rfl SR.out ?_)
    | (refine wpList_store_row rfl 104 _ _ rfl wr.heap.size (wcs R) rfl rfl 104 Try.zeroCells104 Q1.out SR.out ZR.out AR.out ?_))
   obtain ⟨gz, hgz⟩ : ∃ gz, gz = wr.heap.size := ⟨_, rfl⟩
   have hwgz : w.heap.size ≤ gz := by rw [hgz]; exact hbw.size
   have hggz : g < gz := by rw [hgz]; exact H0.out.lt
   have q2 := Q2.out; have q3 := Q3.out; have q4 := Q4.out
   rw [← hgz] at q2 q3 q4 ⊢
   clear Q1 Q2 Q3 Q4 hgz SR AR ZR HB0 HB1 H0 hbw
   generalize (wr.alloc (.cells Try.zeroCells104 104)).setRow gz (wcs R) = w5 at *
   have HE0 := Lib.hid q3; have HE1 := Lib.hid q2; have HEW := Lib.hid q4; clear q2 q3 q4
   go_wp2_with fail
   go_loopw [37] (fun j wr => ∃ n : Nat, n ≤ 8 ∧ j = .int .i64 n ∧ Blk wr g 104 (wcs R) ∧ Blk wr gz 104 (wcs (rowsTo R n)) ∧ Below w.heap.size w wr) (fun j _ => 8 - (intOf j).toNat)
   case atStart => exact ⟨0, by omega, rfl, HE0.out, HE1.out, HEW.out⟩
   case round =>
    clear HE0 HE1 HEW
    obtain ⟨n, hn, rfl, hb0, hb1, hbw⟩ := hrel
    have HC0 := Lib.hid hb0; have HC1 := Lib.hid hb1; have HGW := Lib.hid hbw; clear hb0 hb1 hbw
    by_cases hlt : n < 8
    ·have hpt := put1_any n gz wr.heap.size (rowsTo R n) (wr.alloc (.cells #[.int .i64 n] 3)) hlt (by rw [rowsTo_len, HRl.out]) (HC1.out.alloc _) (Blk.new _ _ _)
     have HPT := Lib.hid hpt; clear hpt
     have hnd : decide ((n : Int) < 8) = true := by simp; omega
     go_wp2_with (go_at_call 48; refine HPT.out.mono ?_; rintro e w6 ⟨rfl, hz6, hg6⟩; have HZ6 := Lib.hid hz6; have HG6 := Lib.hid hg6; clear hz6 hg6)
     go_roundw
     case rel =>
      have hne : g ≠ gz := by omega
      have h0 := (HC0.out.alloc (.cells #[.int .i64 n] 3)).grown HG6.out (by simpa using hne)
      exact ⟨n + 1, by omega, by go_num, h0, HZ6.out, bgr (bal HGW.out _) HG6.out hwgz⟩
     case measure => simp [intOf]; omega
    ·obtain rfl : n = 8 := by omega
     rw [show ((8 : Nat) : Int) = 8 from rfl]
     clear hlt hn
     have HE0 := HC0; have HE1 := HC1; have HEW := HGW
     clear HC0 HC1 HGW
     obtain ⟨Z1, hZ1⟩ : ∃ Z1, Z1 = rowsTo R 8 := ⟨_, rfl⟩
     have HZ1e := Lib.hid hZ1; have he1 := HE1.out
     rw [← hZ1] at he1
     have HZ1 : Hid (Z1.length = 128) := by show _ = _; rw [hZ1, rowsTo_len, HRl.out]
     clear hZ1 HE1
     have HE1 : Hid (Blk wr gz 104 (wcs (colsTo Z1 0))) := he1
     clear he1
     go_wp2_with fail
     go_loopw [44] (fun j wr => ∃ n : Nat, n ≤ 8 ∧ j = .int .i64 n ∧ Blk wr g 104 (wcs R) ∧ Blk wr gz 104 (wcs (colsTo Z1 n)) ∧ Below w.heap.size w wr) (fun j _ => 8 - (intOf j).toNat)
     case atStart => exact ⟨0, by omega, rfl, HE0.out, HE1.out, HEW.out⟩
     case round =>
      clear HE0 HE1 HEW
      obtain ⟨n, hn, rfl, hb0, hb1, hbw⟩ := hrel
      have HC0 := Lib.hid hb0; have HC1 := Lib.hid hb1; have HGW := Lib.hid hbw; clear hb0 hb1 hbw
      by_cases hlt : n < 8
      ·have hpt := put2_any n gz wr.heap.size (colsTo Z1 n) (wr.alloc (.cells #[.int .i64 n] 3)) hlt (by rw [colsTo_len, HZ1.out]) (HC1.out.alloc _) (Blk.new _ _ _)
       have HPT := Lib.hid hpt; clear hpt
       have hnd : decide ((n : Int) < 8) = true := by simp; omega
       go_wp2_with (go_at_call 48; refine HPT.out.mono ?_; rintro e w6 ⟨rfl, hz6, hg6⟩; have HZ6 := Lib.hid hz6; have HG6 := Lib.hid hg6; clear hz6 hg6)
       go_roundw
       case rel =>
        have hne : g ≠ gz := by omega
        have h0 := (HC0.out.alloc (.cells #[.int .i64 n] 3)).grown HG6.out (by simpa using hne)
        exact ⟨n + 1, by omega, by go_num, h0, HZ6.out, bgr (bal HGW.out _) HG6.out hwgz⟩
       case measure => simp [intOf]; omega
      ·obtain rfl : n = 8 := by omega
       rw [show ((8 : Nat) : Int) = 8 from rfl]
       clear hlt hn
       have HE0 := HC0; have HE1 := HC1; have HEW := HGW
       clear HC0 HC1 HGW
       obtain ⟨Z2, hZ2⟩ : ∃ Z2, Z2 = colsTo Z1 8 := ⟨_, rfl⟩
       have HZ2 := Lib.hid hZ2; have he1 := HE1.out
       rw [← hZ2] at he1
       have HZ2l : Hid (Z2.length = 128) := by show _ = _; rw [hZ2, colsTo_len, HZ1.out]
       clear hZ2 HE1
       have HE1 := Lib.hid he1; clear he1
       have HM : Hid (Z2 = mixZ R) := by show _ = _; unfold mixZ; rw [HZ2.out, HZ1e.out]
       go_wp2_with fail
       obtain ⟨F, hF⟩ : ∃ F, F = xorW Z2 R := ⟨_, rfl⟩
       have HFl : Hid (F.length = 128) := by show _ = _; rw [hF, xorW_len Z2 R (HRl.out.trans HZ2l.out.symm), HZ2l.out]
       have HF := Lib.hid hF; clear hF
       go_loopw [51] (fun i wx => ∃ k : Nat, k ≤ 128 ∧ i = .int .i64 k ∧ Blk wx gz 104 (wcs (half F Z2 k)) ∧ Blk wx g 104 (wcs R) ∧ Below w.heap.size w wx) (fun i _ => 128 - (intOf i).toNat)
       case atStart => exact ⟨0, by omega, rfl, by simpa [half] using HE1.out, HE0.out, HEW.out⟩
       case round =>
        clear HE0 HE1 HEW
        obtain ⟨k, hk, rfl, hb0, hb1, hbw⟩ := hrel
        have HB0 := Lib.hid hb0; have HB1 := Lib.hid hb1; clear hb0 hb1
        by_cases hlt : k < 128
        ·have eX := getD_some Z2 k (by rw [HZ2l.out]; exact hlt)
         have eY := getD_some R k (by rw [HRl.out]; exact hlt)
         have gx := (HB0.out.cell k).trans (wcs_at _ _ _ (half_at F Z2 k (by rw [HZ2l.out]; exact hlt) (HZ2l.out.trans HFl.out.symm)))
         have gy := (HB1.out.cell k).trans (wcs_at _ _ _ eY)
         have eR := xorW_at Z2 R k _ _ eX eY
         rw [← HF.out] at eR
         generalize Z2.getD k 0 = a at *
         generalize R.getD k 0 = b at *
         change _ = some (Value.int .u64 (wrd a)) at gx
         change _ = some (Value.int .u64 (wrd b)) at gy
         have gf := HB0.out.frozen k
         have ER := Lib.hid eR; clear eX eY eR
         have hx := wrd_xor a b
         have hki : (k : Int) < 128 := by omega
         have hkd : decide ((k : Int) < 128) = true := by simp; omega
         go_wp2
         refine wp_region_ords (fun _ => True) (fun _ _ h => h) (Ords.of [(0, 0), (0, 1), (1, 2), (0, 3), (0, 4), (1, 5), (0, 6), (0, 7), (2, 8)] .fin) (by kernel_rfl) rfl (by kernel_rfl) (by kernel_rfl) (fun c a d v w h => by cases d <;> exact h) trivial ?_
         iterate 2 (refine ords_pure rfl (fun K hK => ?_); go_simp; refine hK _ ?_; clear hK K; refine ords_pure rfl (fun K hK => ?_); go_simp; refine hK _ ?_; clear hK K; refine ords_read rfl (fun K hK => ?_); go_simp; refine hK _ ?_; clear hK K)
         iterate 2 (refine ords_pure rfl (fun K hK => ?_); go_simp; refine hK _ ?_; clear hK K)
         refine ords_loud rfl (fun n1 => ?_)
         go_wp2
         refine ⟨trivial, ?_⟩
         refine ords_end (fun n2 => ?_)
         go_wp2
         case roundEnd =>
          have h0 := ((HB0.out.drewN n1).set_ k (wv (a ^^^ b))).drewN n2
          rw [wcs_set, half_put F Z2 k _ ER.out (HZ2l.out.trans HFl.out.symm)] at h0
          exact ⟨⟨k + 1, by omega, by go_num, h0, ((HB1.out.drewN n1).far (p := ⟨gz, k, none⟩) (by simp; omega) (wv (a ^^^ b))).drewN n2, bdr (bput (bdr hbw n1) (p := ⟨gz, k, none⟩) hwgz (wv (a ^^^ b))) n2⟩, by simp [intOf]; omega⟩
        ·obtain rfl : k = 128 := by omega
         clear hlt hk
         have h0 := HB0.out
         rw [half_all F Z2 128 HFl.out HZ2l.out] at h0
         have H0 := Lib.hid h0; clear h0
         go_wp2_with (go_at_call 52; refine (laid_any gz F _ HFl.out H0.out).mono ?_; rintro e w9 ⟨A9, c9, rfl, ho9, hb9⟩; have HO9 := Lib.hid ho9; clear ho9)
         have hm : flat F = mixB x y := by
          unfold mixB
          rw [HF.out, HM.out, HR.out, HXY.out, ← HXX.out, ← HYY.out]
         have ho := HO9.out.mono hbw.size
         rw [hm] at ho
         exact bodyPost_ret (results_tmp2 rfl _ _ _) rfl ⟨A9, c9, rfl, ho, bcall hbw hb9⟩
end Go.Proofs.Ytbghkdhkahkfnaa

/- Xor, Mix and Over, of the program, whatever comes in. Contracts alone; no statement is claimed here. -/
namespace Go.Proofs.Ytbghkdhkahkfnaa
open Go.RowKit

set_option maxHeartbeats 1000000 in
theorem overP_yes (A1 A2 A3 : Option Addr) (c1 c2 c3 : Nat) (x y z : List UInt8) (w : World) (hx : x.length = 1024) (hy : y.length = 1024) (hz : z.length = 1024) (hr1 : RS cB w w.heap.size A1 x) (hr2 : RS cB w w.heap.size A2 y) (hr3 : RS cB w w.heap.size A3 z) :
  Calls Try.prog 40 #[.slice A1 1024 c1, .slice A2 1024 c2, .slice A3 1024 c3] w fun e w' => ∃ A c, e = .returned (.tuple #[.slice A 1024 c, .int .i64 0]) ∧ OS cB w' w.heap.size A c (xorB (mixB x y) z) ∧ Below w.heap.size w w' := by
 have hb := blocks3 ⟨A1, 1024, c1⟩ ⟨A2, 1024, c2⟩ ⟨A3, 1024, c3⟩
 unfold Ln.v at hb
 have HB := Lib.hid hb; have HX := Lib.hid hx; have HY := Lib.hid hy; have HZ := Lib.hid hz; have HR1 := Lib.hid hr1; have HR2 := Lib.hid hr2; have HR3 := Lib.hid hr3; clear hb hx hy hz hr1 hr2 hr3
 go_enter Try.func40, Try.ntmps40
 go_wp2_with fail
 refine (HB.out w).mono ?_
 rintro e w1 ⟨rfl, rfl⟩
 have hb1 := bal (b0 w) (.cells #[.slice A1 1024 c1, .slice A2 1024 c2, .slice A3 1024 c3] 24)
 go_wp2_with fail
 refine (mixP_yes A1 A2 c1 c2 x y _ HX.out HY.out ((HR1.out.below hb1).more hb1.size) ((HR2.out.below hb1).more hb1.size)).mono ?_
 rintro e w2 ⟨A, c, rfl, ho, hb2⟩
 have hb12 := bcall hb1 hb2
 have HO := Lib.hid ho; clear ho
 go_wp2_with fail
 refine (xorP_yes A A3 c c3 (mixB x y) z _ (mixB_len x y) HZ.out HO.out.reads ((HR3.out.below hb12).more hb12.size)).mono ?_
 rintro e w3 ⟨A4, c4, rfl, ho4, hb3⟩
 have HO4 := Lib.hid ho4; clear ho4
 go_wp2_with fail
 exact bodyPost_ret (results_tmp2 rfl _ _ _) rfl ⟨A4, c4, rfl, HO4.out.mono hb12.size, bcall hb12 hb3⟩

def codO (b : Bool) : Int := if b then 0 else 1
def blk2 (x y : List UInt8) : Bool := x.length == 1024 && y.length == 1024
def blk3 (x y z : List UInt8) : Bool := x.length == 1024 && y.length == 1024 && z.length == 1024
def ifB (b : Bool) (l : List UInt8) : List UInt8 := if b then l else []
def Ans (b : Bool) (l : List UInt8) (w : World) (e : Ending) (w' : World) : Prop :=
  ∃ A n c, e = .returned (.tuple #[.slice A n c, .int .i64 (codO b)]) ∧ n = (ifB b l).length ∧ n ≤ 1024 ∧ OS cB w' w.heap.size A c (ifB b l) ∧ Below w.heap.size w w'
section
variable (A1 A2 A3 : Option Addr) (n1 n2 n3 c1 c2 c3 : Nat) (x y z : List UInt8) (w : World) (h1 : x.length = n1) (h2 : y.length = n2) (hr1 : RS cB w w.heap.size A1 x) (hr2 : RS cB w w.heap.size A2 y)
include h1 h2 hr1 hr2
end
end Go.Proofs.Ytbghkdhkahkfnaa

/- Words out of bytes, by the reference. Contracts alone; no statement is claimed here. -/
namespace Go.Proofs.Ytbghkdhkahkfnaa
open Go.RowKit

end Go.Proofs.Ytbghkdhkahkfnaa

/- Mix and Over, of the reference. Contracts alone; no statement is claimed here. -/
namespace Go.Proofs.Ytbghkdhkahkfnaa
open Go.RowKit
attribute [local go_sem] pureUpon Ords.of

def fillI (z : List Nat) (k n : Nat) : List Nat := z.take k ++ List.replicate (n - k) 0
def zq16 : Array Value := #[.int .i64 0, .int .i64 0, .int .i64 0, .int .i64 0, .int .i64 0, .int .i64 0, .int .i64 0, .int .i64 0, .int .i64 0, .int .i64 0, .int .i64 0, .int .i64 0, .int .i64 0, .int .i64 0, .int .i64 0, .int .i64 0]
section
variable (A1 A2 A3 : Option Addr) (n1 n2 n3 c1 c2 c3 : Nat) (x y z : List UInt8) (w : World) (h1 : x.length = n1) (h2 : y.length = n2) (hr1 : RS cB w w.heap.size A1 x) (hr2 : RS cB w w.heap.size A2 y)
include h1 h2 hr1 hr2
end
end Go.Proofs.Ytbghkdhkahkfnaa

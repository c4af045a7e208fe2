/-
  MixB: contracts and lemmas alone; no statement is claimed here.
-/
import Derived.Test.YtboihcigcfmhhaaCoreA
import Derived.Test.YtboihcigcfmhhaaCoreB
import Derived.Test.YtboihcigcfmhhaaSigma
import Derived.Test.YtboihcigcfmhhaaStep
import Derived.Laws.CopyOwn
import Derived.Laws.DeepNot64
/-! A round of mixb. -/
namespace Go.Proofs.Ytboihcigcfmhhaa
open Go.RowKit
attribute [local go_sem] pureUpon Ords.of

/-- k of the eight steps of a round -/
def turnTo64 (M : List UInt64) (s : List Nat) : Nat → List UInt64 → List UInt64
  | 0, V => V
  | k + 1, V => (pls k).lay (turnTo64 M s k V) (gm64 ((pls k).get 0 (turnTo64 M s k V)) (M.getD (s.getD (2 * k) 0) 0) (M.getD (s.getD (2 * k + 1) 0) 0))
theorem turnTo64_len (M : List UInt64) (s : List Nat) (k : Nat) (V : List UInt64) : (turnTo64 M s k V).length = V.length := by
  induction k with
  | zero => rfl
  | succ k ih => unfold turnTo64; rw [lay_len, ih]
def turn64 (M : List UInt64) (r : Nat) (V : List UInt64) : List UInt64 := turnTo64 M (sigma r) 8 V
theorem turn64_len (M : List UInt64) (r : Nat) (V : List UInt64) : (turn64 M r V).length = V.length := turnTo64_len _ _ _ _

set_option maxRecDepth 20000 in
set_option maxHeartbeats 4000000 in
theorem turn_any (gv gm r : Nat) (V M : List UInt64) (w : World) (hne : gm ≠ gv) (hV : V.length = 16) (hM : M.length = 16) (hv : Blk w gv 116 (wcs V)) (hm : Blk w gm 116 (wcs M)) :
    Calls Try.prog 70 #[.pointer (some ⟨gv, 0, none⟩), .pointer (some ⟨gm, 0, none⟩), .int .i64 r] w fun e w' => e = .returned (.tuple #[]) ∧ Blk w' gv 116 (wcs (turn64 M r V)) ∧ w.grownBy w' (some gv) := by
  have HV := Lib.hid hV; have HM := Lib.hid hM; have BV := Lib.hid hv; have BM := Lib.hid hm; clear hV hM hv hm
  have hsl := sigma_len r
  have hslt := sigma_lt r
  have hsg := sigma_any r
  unfold turn64
  generalize sigma r = S at *
  have HSL := Lib.hid hsl; have HST := Lib.hid hslt; have HSG := Lib.hid hsg; clear hsl hslt hsg
  have hsz16 : Hid ((Try.prog.info? 137).map (·.size) = some (ics S).size) := by show _ = _; rw [ics_size, HSL.out]; kernel_rfl
  have hall16 := Lib.hid (ics_all S)
  have hpl : Hid (∀ w, Calls Try.prog 75 #[] w fun e w' => e = .returned (.agg plCells) ∧ Below w.heap.size w w') := places_any
  have hix : Hid (∀ k : Nat, k < 8 → ∀ w, (Instr.index 140 (.agg plCells) (.int .i64 k)).run Try.prog w = .ok (plv (pls k)) w) := index_pl
  generalize plCells = PL at *
  go_enter Try.func70, Try.ntmps70
  go_wp2_with fail
  refine (HSG.out _).mono ?_
  rintro e w1 ⟨rfl, hb1⟩
  have q1 := Lib.hid (Blk.new w1 137 zi16)
  have hold : Hid (zi16.size = (ics S).size) := by show _ = _; rw [ics_size, HSL.out]; rfl
  unfold zi16 at q1 hold
  go_upto_region 1 with (refine wpList_store_row rfl 137 _ _ rfl w1.heap.size (ics S) rfl rfl 137 _ q1.out hsz16.out hold.out hall16.out ?_)
  have hgv := BV.out.lt; have hgm := BM.out.lt; have hs1 := hb1.size
  have v0 := ((BV.out.below hb1 hgv).alloc (.cells zi16 137)).rowFar (k := w1.heap.size) (by omega) (ics S)
  have v1 := ((BM.out.below hb1 hgm).alloc (.cells zi16 137)).rowFar (k := w1.heap.size) (by omega) (ics S)
  have v2 := q1.out.row (ics S)
  have v3 := only_of_below (brow (bal hb1 (.cells zi16 137)) hs1 (ics S)) (some gv)
  unfold zi16 at v0 v1 v3
  obtain ⟨b, hb⟩ : ∃ b, b = w1.heap.size := ⟨_, rfl⟩
  have hvb : gv < b := by omega
  have hmb : gm < b := by omega
  rw [← hb] at v0 v1 v2 v3 ⊢
  clear q1 hold hb hb1 hs1 BV BM hsz16 hall16 HSG
  generalize (w1.alloc (.cells #[.int .i64 0, .int .i64 0, .int .i64 0, .int .i64 0, .int .i64 0, .int .i64 0, .int .i64 0, .int .i64 0, .int .i64 0, .int .i64 0, .int .i64 0, .int .i64 0, .int .i64 0, .int .i64 0, .int .i64 0, .int .i64 0] 137)).setRow b (ics S) = w2 at *
  have BV := Lib.hid v0; have BM := Lib.hid v1; have BS := Lib.hid v2; have HG := Lib.hid v3; clear v0 v1 v2 v3
  go_wp2_with fail
  refine (hpl.out _).mono ?_
  rintro e w3 ⟨rfl, hb3⟩
  replace BV := Lib.hid (BV.out.below hb3 BV.out.lt); replace BM := Lib.hid (BM.out.below hb3 BM.out.lt); replace BS := Lib.hid (BS.out.below hb3 BS.out.lt)
  replace HG : Hid (w.grownBy w3 (some gv)) := grown_below HG.out hb3
  go_wp2_with fail
  go_loopw [12] (fun i wr => ∃ k : Nat, k ≤ 8 ∧ i = .int .i64 k ∧ Blk wr gv 116 (wcs (turnTo64 M S k V)) ∧ Blk wr gm 116 (wcs M) ∧ Blk wr b 137 (ics S) ∧ w.grownBy wr (some gv)) (fun i _ => 8 - (intOf i).toNat)
  case atStart => exact ⟨0, by omega, rfl, BV.out, BM.out, BS.out, HG.out⟩
  case round =>
    clear BV BM BS HG hb3
    obtain ⟨k, hk, rfl, x0, x1, x2, x3⟩ := hrel
    have BV := Lib.hid x0; have BM := Lib.hid x1; have BS := Lib.hid x2; have HG := Lib.hid x3; clear x0 x1 x2 x3
    by_cases hlt : k < 8
    · have hidx := hix.out k hlt
      have hok := pls_ok k hlt
      have hturn : turnTo64 M S (k + 1) V = (pls k).lay (turnTo64 M S k V) (gm64 ((pls k).get 0 (turnTo64 M S k V)) (M.getD (S.getD (2 * k) 0) 0) (M.getD (S.getD (2 * k + 1) 0) 0)) := rfl
      have hTl : (turnTo64 M S k V).length = 16 := by rw [turnTo64_len, HV.out]
      obtain ⟨i2, hi2⟩ : ∃ i2, i2 = 2 * k := ⟨_, rfl⟩
      obtain ⟨i3, hi3⟩ : ∃ i3, i3 = 2 * k + 1 := ⟨_, rfl⟩
      rw [← hi3, ← hi2] at hturn
      have e2 : 2 * (k : Int) = (i2 : Int) := by omega
      have e3 : (i2 : Int) + 1 = (i3 : Int) := by omega
      have l2 : i2 < 16 := by omega
      have l3 : i3 < 16 := by omega
      obtain ⟨s2, hs2⟩ : ∃ s, s = S.getD i2 0 := ⟨_, rfl⟩
      obtain ⟨s3, hs3⟩ : ∃ s, s = S.getD i3 0 := ⟨_, rfl⟩
      have ls2 : s2 < 16 := by rw [hs2]; exact HST.out i2 l2
      have ls3 : s3 < 16 := by rw [hs3]; exact HST.out i3 l3
      have c2 : wr.cell? ⟨b, i2, none⟩ = some (.int .i64 s2) := by rw [BS.out.cell, ics_get S i2 (by rw [HSL.out]; exact l2), hs2]; rfl
      have c3 : wr.cell? ⟨b, i3, none⟩ = some (.int .i64 s3) := by rw [BS.out.cell, ics_get S i3 (by rw [HSL.out]; exact l3), hs3]; rfl
      rw [← hs2, ← hs3] at hturn
      obtain ⟨x, hx⟩ : ∃ x, x = M.getD s2 0 := ⟨_, rfl⟩
      obtain ⟨y, hy⟩ : ∃ y, y = M.getD s3 0 := ⟨_, rfl⟩
      have m2 : wr.cell? ⟨gm, s2, none⟩ = some (.int .u64 (wrd x)) := by rw [BM.out.cell, wcs_get M s2 (by rw [HM.out]; exact ls2), hx]; rfl
      have m3 : wr.cell? ⟨gm, s3, none⟩ = some (.int .u64 (wrd y)) := by rw [BM.out.cell, wcs_get M s3 (by rw [HM.out]; exact ls3), hy]; rfl
      rw [← hx, ← hy] at hturn
      obtain ⟨p, hp⟩ : ∃ p, p = pls k := ⟨_, rfl⟩
      rw [← hp] at hidx hok hturn
      obtain ⟨pa, pb, pc, pd⟩ := p
      unfold plv at hidx
      dsimp only at hidx
      have HT := Lib.hid hturn; have HOK := Lib.hid hok; have HTL := Lib.hid hTl
      clear hturn hok hTl hi2 hi3 hs2 hs3 hx hy hp
      have j2 : (i2 : Int) < 16 := by omega
      have j3 : (i3 : Int) < 16 := by omega
      have j4 : (s2 : Int) < 16 := by omega
      have j5 : (s3 : Int) < 16 := by omega
      have hkd : decide ((k : Int) < 8) = true := by simp; omega
      have w2' : IntKind.i64.wrap (i2 : Int) = i2 := by simp [IntKind.wrap, IntKind.bits, IntKind.signed]; omega
      have w3' : IntKind.i64.wrap (i3 : Int) = i3 := by simp [IntKind.wrap, IntKind.bits, IntKind.signed]; omega
      have hbs : b < wr.heap.size := BS.out.lt
      have hgs : gm < wr.heap.size := BM.out.lt
      go_upto_region 4 with fail
      have hpp : Hid (∀ W, Blk W gv 116 (wcs (turnTo64 M S k V)) → Calls Try.prog 76 #[.pointer (some ⟨gv, 0, none⟩), .agg #[.int .i64 pa, .int .i64 pb, .int .i64 pc, .int .i64 pd], .int .u64 (wrd x), .int .u64 (wrd y)] W fun e w' => e = .returned (.tuple #[]) ∧ Blk w' gv 116 (wcs (turnTo64 M S (k + 1) V)) ∧ W.grownBy w' (some gv)) := by
        show ∀ W, _
        intro W hW
        rw [HT.out]
        exact step_any gv ⟨pa, pb, pc, pd⟩ _ x y W HOK.out HTL.out hW
      have y0 := Lib.hid (BV.out.alloc (.cells #[.int .i64 pa, .int .i64 pb, .int .i64 pc, .int .i64 pd] 139))
      refine wp_region_ords (fun _ => True) (fun _ _ h => h) (Ords.of [(0, 0), (1, 1), (0, 2), (0, 3), (0, 4), (0, 5), (1, 6), (0, 7), (0, 8), (1, 9), (0, 10), (0, 11), (0, 12), (0, 13), (0, 14), (1, 15), (0, 16), (0, 17), (1, 18), (2, 19)] .fin) (by kernel_rfl) rfl (by kernel_rfl) (by kernel_rfl) (fun c a d v w h => by cases d <;> exact h) trivial ?_
      refine ords_pure rfl (fun K hK => ?_); go_simp; refine hK _ ?_; clear hK K
      refine ords_read rfl (fun K hK => ?_); go_simp; refine hK _ ?_; clear hK K
      iterate 4 (refine ords_pure rfl (fun K hK => ?_); go_simp; refine hK _ ?_; clear hK K)
      iterate 2 (refine ords_read rfl (fun K hK => ?_); go_simp; refine hK _ ?_; clear hK K; refine ords_pure rfl (fun K hK => ?_); go_simp; refine hK _ ?_; clear hK K; refine ords_pure rfl (fun K hK => ?_); go_simp; refine hK _ ?_; clear hK K)
      iterate 3 (refine ords_pure rfl (fun K hK => ?_); go_simp; refine hK _ ?_; clear hK K)
      refine ords_read rfl (fun K hK => ?_); go_simp; refine hK _ ?_; clear hK K
      iterate 2 (refine ords_pure rfl (fun K hK => ?_); go_simp; refine hK _ ?_; clear hK K)
      refine ords_read rfl (fun K hK => ?_); go_simp; refine hK _ ?_; clear hK K
      refine ords_loud rfl (fun n1 => ?_)
      go_wp2_with (go_at_call 76; refine (hpp.out _ (y0.out.drewN _)).mono ?_; rintro e w6 ⟨rfl, hz6, hg6⟩; have HZ6 := Lib.hid hz6; have HG6 := Lib.hid hg6; clear hz6 hg6)
      refine ⟨trivial, ?_⟩
      refine ords_end (fun n2 => ?_)
      go_wp2_with fail
      go_roundw
      case rel =>
        have g1 := (BM.out.alloc (.cells #[.int .i64 pa, .int .i64 pb, .int .i64 pc, .int .i64 pd] 139)).drewN n1
        have g2 := (BS.out.alloc (.cells #[.int .i64 pa, .int .i64 pb, .int .i64 pc, .int .i64 pd] 139)).drewN n1
        exact ⟨k + 1, by omega, by go_num, HZ6.out.drewN n2, (g1.grown HG6.out (by simpa using hne)).drewN n2, (g2.grown HG6.out (by simp; omega)).drewN n2, gdr (grown_grown (only_alloc HG.out _) (gdr_in HG6.out)) n2⟩
      case measure => simp [intOf]; omega
    · obtain rfl : k = 8 := by omega
      go_wp2_with fail
      go_end0
      exact ⟨rfl, BV.out, HG.out⟩
end Go.Proofs.Ytboihcigcfmhhaa

/-! The compression of mixb. -/
namespace Go.Proofs.Ytboihcigcfmhhaa
open Go.RowKit
attribute [local go_sem] pureUpon Ords.of

def initOf (H : List UInt64) (lo hi : UInt64) (last node : Bool) : List UInt64 :=
  let v := ((H ++ iv64).set 12 (0x510e527fade682d1 ^^^ lo)).set 13 (0x9b05688c2b3e6c1f ^^^ hi)
  let v := if last then v.set 14 (~~~ 0x1f83d9abfb41bd6b) else v
  if node then v.set 15 (~~~ 0x5be0cd19137e2179) else v
theorem wrd_not (x : UInt64) : bits .xor .u64 IntKind.u64.max (wrd x) = wrd (~~~x) := by
  show IntKind.u64.wrap ((BitVec.ofInt 64 IntKind.u64.max ^^^ BitVec.ofInt 64 (wrd x)).toNat : Int) = _
  have h1 : BitVec.ofInt 64 IntKind.u64.max = BitVec.allOnes 64 := by decide
  have hx := wrd_lt x
  unfold wrd
  rw [h1, BitVec.allOnes_xor, BitVec.toNat_not, ofInt_u64 x.toNat (by omega), UInt64.toNat_not]
  have : UInt64.size = 18446744073709551616 := rfl
  rw [this]
  simp [IntKind.wrap, IntKind.bits, IntKind.signed]
  omega
theorem wcs_toList (l : List UInt64) : (wcs l).toList = l.map wv := by simp [wcs]
theorem wcs_of (l : List UInt64) : (l.map wv).toArray = wcs l := rfl
theorem sz8w (z : List UInt64) (h : z.length = 8) : (Try.prog.info? 83).map (·.size) = some (wcs z).size := by rw [wcs_size, h]; kernel_rfl
theorem sz16w (z : List UInt64) (h : z.length = 16) : (Try.prog.info? 116).map (·.size) = some (wcs z).size := by rw [wcs_size, h]; kernel_rfl
theorem wpList_copyW {ops : Array Oper} {rest : List Oper} {o : Oper} {a : Act} {w : World} {Q : Exit → Act → World → Prop} (hgd : o.guard = none) (d s : Operand)
    (ho : o.op = .call { callee := .builtin .copy, args := #[d, s], argTypes := #[136, 136] }) (g off gs n dc sc : Nat) (hd : a.eval d = .slice (some ⟨g, off, none⟩) n dc) (hs : a.eval s = .slice (some ⟨gs, 0, none⟩) n sc)
    (D S : List UInt64) (t ts : TypeId) (hg : Blk w g t (wcs D)) (hgs : Blk w gs ts (wcs S)) (hn : S.length = n) (hfit : off + n ≤ D.length)
    (h : wpList Try.prog ops Q rest (a.put o.dst (goInt n)) (w.setRow g (wcs (D.take off ++ (S ++ D.drop (off + n)))))) : wpList Try.prog ops Q (o :: rest) a w := by
  subst hn
  have hl : (wcs S).toList.length = S.length := by simp [wcs]
  refine wpList_copy_own hgd d s 136 136 ho 23 (by kernel_rfl) (by kernel_rfl) g off S.length dc ⟨gs, 0, none⟩ S.length sc hd hs (wcs D) t hg (wcs S).toList (by rw [hl]; exact (Nat.min_self _).symm) (fun j v hv => ?_) (by rw [hl, wcs_size]; exact hfit) (fun v hv => ?_) ?_
  · have e : (⟨gs, 0, none⟩ : Addr).add j = ⟨gs, j, none⟩ := by unfold Addr.add; split <;> simp_all
    rw [e, hgs.cell]; simpa using hv
  · have := Array.all_eq_true_iff_forall_mem.1 (wcs_all S) v (by simpa using hv); exact this
  · rw [hl]
    have e : ((wcs D).toList.take off ++ ((wcs S).toList ++ (wcs D).toList.drop (off + S.length))).toArray = wcs (D.take off ++ (S ++ D.drop (off + S.length))) := by simp [wcs]
    rw [e]; exact h

def z16 : Array Value := #[.int .u64 0, .int .u64 0, .int .u64 0, .int .u64 0, .int .u64 0, .int .u64 0, .int .u64 0, .int .u64 0, .int .u64 0, .int .u64 0, .int .u64 0, .int .u64 0, .int .u64 0, .int .u64 0, .int .u64 0, .int .u64 0]
def zw (n : Nat) : List UInt64 := List.replicate n 0

set_option maxRecDepth 20000 in
set_option maxHeartbeats 4000000 in
theorem init_any (H : List UInt64) (lo hi : UInt64) (last node : Bool) (w : World) (hH : H.length = 8) :
    Calls Try.prog 69 #[.agg (wcs H), .agg #[.int .u64 (wrd lo), .int .u64 (wrd hi)], .bool last, .bool node] w fun e w' => e = .returned (.agg (wcs (initOf H lo hi last node))) ∧ Below w.heap.size w w' := by
  have HH := Lib.hid hH; clear hH
  have hG : Hid (initOf H lo hi last node = (let v := ((H ++ iv64).set 12 (0x510e527fade682d1 ^^^ lo)).set 13 (0x9b05688c2b3e6c1f ^^^ hi); let v := if last then v.set 14 (~~~ 0x1f83d9abfb41bd6b) else v; if node then v.set 15 (~~~ 0x5be0cd19137e2179) else v)) := rfl
  generalize initOf H lo hi last node = G at *
  go_enter Try.func69, Try.ntmps69
  go_upto_region 2 with fail
  obtain ⟨w1, hw1⟩ : ∃ w1, w1 = w.alloc (.cells (wcs H) 83) := ⟨_, rfl⟩
  obtain ⟨w2, hw2⟩ : ∃ w2, w2 = w1.alloc (.cells #[.int .u64 (wrd lo), .int .u64 (wrd hi)] 56) := ⟨_, rfl⟩
  obtain ⟨w3, hw3⟩ : ∃ w3, w3 = w2.alloc (.cells (wcs (zw 16)) 116) := ⟨_, rfl⟩
  obtain ⟨w4, hw4⟩ : ∃ w4, w4 = w3.alloc (.cells (wcs (zw 16)) 116) := ⟨_, rfl⟩
  have e4 : (((w.alloc (.cells (wcs H) 83)).alloc (.cells #[.int .u64 (wrd lo), .int .u64 (wrd hi)] 56)).alloc (.cells z16 116)).alloc (.cells z16 116) = w4 := by rw [hw4, hw3, hw2, hw1]; rfl
  unfold z16 at e4
  rw [e4]
  have n0 : Blk w4 w.heap.size 83 (wcs H) := by rw [hw4, hw3, hw2, hw1]; exact (((Blk.new _ _ _).alloc _).alloc _).alloc _
  have n1 : Blk w4 (w.heap.size + 1) 56 #[.int .u64 (wrd lo), .int .u64 (wrd hi)] := by
    have : w1.heap.size = w.heap.size + 1 := by rw [hw1]; simp
    rw [← this, hw4, hw3, hw2]; exact ((Blk.new _ _ _).alloc _).alloc _
  have n2 : Blk w4 (w.heap.size + 1 + 1) 116 (wcs (zw 16)) := by
    have : w2.heap.size = w.heap.size + 1 + 1 := by rw [hw2, hw1]; simp
    rw [← this, hw4, hw3]; exact (Blk.new _ _ _).alloc _
  have n3 : Blk w4 (w.heap.size + 1 + 1 + 1) 116 (wcs (zw 16)) := by
    have : w3.heap.size = w.heap.size + 1 + 1 + 1 := by rw [hw3, hw2, hw1]; simp
    rw [← this, hw4]; exact Blk.new _ _ _
  have n4 : Below w.heap.size w w4 := by rw [hw4, hw3, hw2, hw1]; exact bal (bal (bal (bal (b0 _) _) _) _) _
  clear hw1 hw2 hw3 hw4 e4 w1 w2 w3
  obtain ⟨g0, hg0⟩ : ∃ g, g = w.heap.size := ⟨_, rfl⟩
  obtain ⟨g1, hg1⟩ : ∃ g, g = w.heap.size + 1 := ⟨_, rfl⟩
  obtain ⟨g2, hg2⟩ : ∃ g, g = w.heap.size + 1 + 1 := ⟨_, rfl⟩
  obtain ⟨g3, hg3⟩ : ∃ g, g = w.heap.size + 1 + 1 + 1 := ⟨_, rfl⟩
  rw [← hg3, ← hg2, ← hg1, ← hg0]
  rw [← hg0] at n0; rw [← hg1] at n1; rw [← hg2] at n2; rw [← hg3] at n3
  have l01 : g0 < g1 := by omega
  have l12 : g1 < g2 := by omega
  have l23 : g2 < g3 := by omega
  have l0 : Hid (w.heap.size ≤ g0) := by show _ ≤ _; omega
  have N0 := Lib.hid n0; have N1 := Lib.hid n1; have N2 := Lib.hid n2; have N3 := Lib.hid n3; have N4 := Lib.hid n4
  clear n0 n1 n2 n3 n4 hg0 hg1 hg2 hg3
  have e1 : (zw 16).take 0 ++ (H ++ (zw 16).drop (0 + 8)) = H ++ zw 8 := rfl
  refine wp_region_ords (fun _ => True) (fun _ _ h => h) (Ords.of [(0, 0), (0, 1), (2, 2)] .fin) (by kernel_rfl) rfl (by kernel_rfl) (by kernel_rfl) (fun c a d v w h => by cases d <;> exact h) trivial ?_
  iterate 2 (refine ords_pure rfl (fun K hK => ?_); go_simp; refine hK _ ?_; clear hK K)
  refine ords_loud rfl (fun n1 => ?_)
  refine wpList_copyW rfl (.tmp 11) (.tmp 12) rfl g3 0 g0 8 16 8 rfl rfl (zw 16) H 116 83 (N3.out.drewN n1) (N0.out.drewN n1) HH.out (by decide) ?_; rw [e1]; clear e1; go_wp2
  first | (refine ⟨trivial, ?_⟩; refine ords_end (fun n2 => ?_)) | (rintro _ ⟨n2, rfl⟩)
  have v3 := ((N3.out.drewN n1).row (wcs (H ++ zw 8))).drewN n2
  have v1 := ((N1.out.drewN n1).rowFar (k := g3) (by omega) (wcs (H ++ zw 8))).drewN n2
  have v2 := ((N2.out.drewN n1).rowFar (k := g3) (by omega) (wcs (H ++ zw 8))).drewN n2
  have v4 := bdr (brow (bdr N4.out n1) (g := g3) (by have := l0.out; omega) (wcs (H ++ zw 8))) n2
  clear N0 N1 N2 N3 N4
  generalize ((w4.drewN n1).setRow g3 (wcs (H ++ zw 8))).drewN n2 = w5 at *
  have N1 := Lib.hid v1; have N2 := Lib.hid v2; have N3 := Lib.hid v3; have N4 := Lib.hid v4; clear v1 v2 v3 v4
  go_wp2_with fail
  refine (iv_any _).mono ?_
  rintro e w6 ⟨rfl, hb6⟩
  have l5 := N3.out.lt
  replace N1 := Lib.hid (N1.out.below hb6 N1.out.lt); replace N2 := Lib.hid (N2.out.below hb6 N2.out.lt); replace N3 := Lib.hid (N3.out.below hb6 N3.out.lt); replace N4 := Lib.hid (bcall N4.out hb6)
  have l6 := hb6.size
  have IVl : Hid (iv64.length = 8) := rfl
  have S8 := Lib.hid (sz8w iv64 IVl.out)
  have AL := Lib.hid (wcs_all iv64)
  have hIV : Hid (iv64 = [0x6a09e667f3bcc908, 0xbb67ae8584caa73b, 0x3c6ef372fe94f82b, 0xa54ff53a5f1d36f1, 0x510e527fade682d1, 0x9b05688c2b3e6c1f, 0x1f83d9abfb41bd6b, 0x5be0cd19137e2179]) := rfl
  generalize iv64 = I at *
  have n6 := Lib.hid (Blk.new w6 83 (wcs (zw 8)))
  have hold : Hid ((wcs (zw 8)).size = (wcs I).size) := by show _ = _; rw [wcs_size, wcs_size, IVl.out]; rfl
  change Hid (Blk (w6.alloc (.cells #[.int .u64 0, .int .u64 0, .int .u64 0, .int .u64 0, .int .u64 0, .int .u64 0, .int .u64 0, .int .u64 0] 83)) w6.heap.size 83 (wcs (zw 8))) at n6
  go_upto_region 4 with (refine wpList_store_row rfl 83 _ _ rfl w6.heap.size (wcs I) rfl rfl 83 _ n6.out S8.out hold.out AL.out ?_)
  have v1 := (N1.out.alloc (.cells (wcs (zw 8)) 83)).rowFar (k := w6.heap.size) (by omega) (wcs I)
  have v2 := (N2.out.alloc (.cells (wcs (zw 8)) 83)).rowFar (k := w6.heap.size) (by omega) (wcs I)
  have v3 := (N3.out.alloc (.cells (wcs (zw 8)) 83)).rowFar (k := w6.heap.size) (by omega) (wcs I)
  have v4 := brow (bal N4.out (.cells (wcs (zw 8)) 83)) N4.out.size (wcs I)
  have v5 := n6.out.row (wcs I)
  change Blk (World.setRow (w6.alloc (.cells #[.int .u64 0, .int .u64 0, .int .u64 0, .int .u64 0, .int .u64 0, .int .u64 0, .int .u64 0, .int .u64 0] 83)) _ _) _ _ _ at v1
  change Blk (World.setRow (w6.alloc (.cells #[.int .u64 0, .int .u64 0, .int .u64 0, .int .u64 0, .int .u64 0, .int .u64 0, .int .u64 0, .int .u64 0] 83)) _ _) _ _ _ at v2
  change Blk (World.setRow (w6.alloc (.cells #[.int .u64 0, .int .u64 0, .int .u64 0, .int .u64 0, .int .u64 0, .int .u64 0, .int .u64 0, .int .u64 0] 83)) _ _) _ _ _ at v3
  change Below _ _ (World.setRow (w6.alloc (.cells #[.int .u64 0, .int .u64 0, .int .u64 0, .int .u64 0, .int .u64 0, .int .u64 0, .int .u64 0, .int .u64 0] 83)) _ _) at v4
  have l36 : g3 < w6.heap.size := by omega
  obtain ⟨g6, hg6⟩ : ∃ g6, g6 = w6.heap.size := ⟨_, rfl⟩
  rw [← hg6] at v1 v2 v3 v4 v5 l36 ⊢
  clear n6 hold N1 N2 N3 N4 hg6 hb6 l5 l6
  generalize (w6.alloc (.cells #[.int .u64 0, .int .u64 0, .int .u64 0, .int .u64 0, .int .u64 0, .int .u64 0, .int .u64 0, .int .u64 0] 83)).setRow g6 (wcs I) = w7 at *
  have N1 := Lib.hid v1; have N2 := Lib.hid v2; have N3 := Lib.hid v3; have N4 := Lib.hid v4; have N5 := Lib.hid v5; clear v1 v2 v3 v4 v5
  have hHz : Hid ((H ++ zw 8).length = 16) := by show _ = _; rw [List.length_append, HH.out]; rfl
  have e1 : (H ++ zw 8).take 8 ++ (I ++ (H ++ zw 8).drop (8 + 8)) = H ++ I := by
    rw [List.take_left' HH.out, List.drop_eq_nil_of_le (by rw [hHz.out]; omega), List.append_nil]
  refine wp_region_ords (fun _ => True) (fun _ _ h => h) (Ords.of [(0, 0), (0, 1), (2, 2)] .fin) (by kernel_rfl) rfl (by kernel_rfl) (by kernel_rfl) (fun c a d v w h => by cases d <;> exact h) trivial ?_
  iterate 2 (refine ords_pure rfl (fun K hK => ?_); go_simp; refine hK _ ?_; clear hK K)
  refine ords_loud rfl (fun n1 => ?_)
  refine wpList_copyW rfl (.tmp 15) (.tmp 16) rfl g3 8 g6 8 8 8 rfl rfl (H ++ zw 8) I 116 83 (N3.out.drewN n1) (N5.out.drewN n1) IVl.out (by rw [hHz.out]; omega) ?_; rw [e1]; clear e1; go_wp2
  first | (refine ⟨trivial, ?_⟩; refine ords_end (fun n2 => ?_)) | (rintro _ ⟨n2, rfl⟩)
  have v3 := ((N3.out.drewN n1).row (wcs (H ++ I))).drewN n2
  have v1 := ((N1.out.drewN n1).rowFar (k := g3) (by omega) (wcs (H ++ I))).drewN n2
  have v2 := ((N2.out.drewN n1).rowFar (k := g3) (by omega) (wcs (H ++ I))).drewN n2
  have v4 := bdr (brow (bdr N4.out n1) (g := g3) (by have := l0.out; omega) (wcs (H ++ I))) n2
  clear N1 N2 N3 N4 N5 hHz AL S8
  generalize ((w7.drewN n1).setRow g3 (wcs (H ++ I))).drewN n2 = w8 at *
  have N1 := Lib.hid v1; have N2 := Lib.hid v2; have N3 := Lib.hid v3; have N4 := Lib.hid v4; clear v1 v2 v3 v4
  obtain ⟨i4, hi4⟩ : ∃ i, i = (0x510e527fade682d1 : UInt64) := ⟨_, rfl⟩
  obtain ⟨i5, hi5⟩ : ∃ i, i = (0x9b05688c2b3e6c1f : UInt64) := ⟨_, rfl⟩
  obtain ⟨i6, hi6⟩ : ∃ i, i = (0x1f83d9abfb41bd6b : UInt64) := ⟨_, rfl⟩
  obtain ⟨i7, hi7⟩ : ∃ i, i = (0x5be0cd19137e2179 : UInt64) := ⟨_, rfl⟩
  have hI := hIV.out
  have hGG := hG.out
  rw [← hi4, ← hi5, ← hi6, ← hi7] at hI
  rw [← hi4, ← hi5, ← hi6, ← hi7] at hGG
  clear hIV hG hi4 hi5 hi6 hi7
  obtain ⟨V, hV⟩ : ∃ V, V = H ++ I := ⟨_, rfl⟩
  rw [← hV] at N3 hGG
  have hVl : V.length = 16 := by rw [hV, List.length_append, HH.out, IVl.out]
  have c12 : w8.cell? ⟨g3, 12, none⟩ = some (.int .u64 (wrd i4)) := by rw [N3.out.cell, wcs_at' V 12 i4 (by rw [hV, List.getElem?_append_right (by rw [HH.out]; omega), HH.out, hI]; rfl)]
  have c13 : w8.cell? ⟨g3, 13, none⟩ = some (.int .u64 (wrd i5)) := by rw [N3.out.cell, wcs_at' V 13 i5 (by rw [hV, List.getElem?_append_right (by rw [HH.out]; omega), HH.out, hI]; rfl)]
  have c14 : w8.cell? ⟨g3, 14, none⟩ = some (.int .u64 (wrd i6)) := by rw [N3.out.cell, wcs_at' V 14 i6 (by rw [hV, List.getElem?_append_right (by rw [HH.out]; omega), HH.out, hI]; rfl)]
  have c15 : w8.cell? ⟨g3, 15, none⟩ = some (.int .u64 (wrd i7)) := by rw [N3.out.cell, wcs_at' V 15 i7 (by rw [hV, List.getElem?_append_right (by rw [HH.out]; omega), HH.out, hI]; rfl)]
  have d0 : w8.cell? ⟨g1, 0, none⟩ = some (.int .u64 (wrd lo)) := N1.out.cell 0
  have d1 : w8.cell? ⟨g1, 1, none⟩ = some (.int .u64 (wrd hi)) := N1.out.cell 1
  have ff : ∀ i, w8.frozen? ⟨g3, i, none⟩ = false := N3.out.frozen
  have h2 := wrd_xor
  have HV := Lib.hid hVl; have HGG := Lib.hid hGG; clear hV hVl hI hGG IVl
  have hne : g1 ≠ g3 := by omega
  have h3 := wrd_not
  have h3' : ∀ x : UInt64, bits .xor .u64 (if IntKind.u64.signed = true then -1 else IntKind.u64.max) (wrd x) = wrd (~~~ x) := wrd_not
  have z12 := N3.out.set_ 12 (wv (i4 ^^^ lo))
  rw [wcs_set] at z12
  have z13 := z12.set_ 13 (wv (i5 ^^^ hi))
  rw [wcs_set] at z13
  have z14 := z13.set_ 14 (wv (~~~ i6))
  rw [wcs_set] at z14
  have z15 := z13.set_ 15 (wv (~~~ i7))
  rw [wcs_set] at z15
  have z16 := z14.set_ 15 (wv (~~~ i7))
  rw [wcs_set] at z16
  have Z13 := Lib.hid z13; have Z14 := Lib.hid z14; have Z15 := Lib.hid z15; have Z16 := Lib.hid z16; clear z12 z13 z14 z15 z16
  have hlr : Hid (w.heap.size ≤ g3) := by show _ ≤ _; have := l0.out; omega
  have hw13 := bput (bput N4.out (p := ⟨g3, 12, none⟩) hlr.out (wv (i4 ^^^ lo))) (p := ⟨g3, 13, none⟩) hlr.out (wv (i5 ^^^ hi))
  have hl2 : Hid (w.heap.size ≤ g2) := by show _ ≤ _; have := l0.out; omega
  have y2 := (N2.out.far (p := ⟨g3, 12, none⟩) (by simp; omega) (wv (i4 ^^^ lo))).far (p := ⟨g3, 13, none⟩) (by simp; omega) (wv (i5 ^^^ hi))
  have Y2 := Lib.hid y2; have HW := Lib.hid hw13; have hg23 : g2 ≠ g3 := by omega
  clear y2 hw13 N1 N2 N3 N4
  have hu := Lib.hid Try.underlying116
  have hsz : Hid (∀ L : List UInt64, L.length = 16 → (Try.prog.info? 116).map (·.size) = some (wcs L).size) := sz16w
  have hall := Lib.hid wcs_all
  have hold : Hid (∀ L : List UInt64, L.length = 16 → (wcs (zw 16)).size = (wcs L).size) := fun L h => by rw [wcs_size, wcs_size, h]; rfl
  cases last <;> cases node
  · have hg := HGG.out
    simp only [Bool.false_eq_true, if_false] at hg
    have HG2 := Lib.hid hg; clear hg
    have hl : Hid (G.length = 16) := by show _ = _; rw [HG2.out]; simp [HV.out]
    have hz : Hid (Blk ((w8.setCell ⟨g3, 12, none⟩ (.int .u64 (wrd (i4 ^^^ lo)))).setCell ⟨g3, 13, none⟩ (.int .u64 (wrd (i5 ^^^ hi)))) g3 116 (wcs G)) := by show Blk _ _ _ _; rw [HG2.out]; exact Z13.out
    have hy : Hid (Blk ((w8.setCell ⟨g3, 12, none⟩ (.int .u64 (wrd (i4 ^^^ lo)))).setCell ⟨g3, 13, none⟩ (.int .u64 (wrd (i5 ^^^ hi)))) g2 116 (wcs (zw 16))) := Y2.out
    have hx : Hid (Below w.heap.size w ((w8.setCell ⟨g3, 12, none⟩ (.int .u64 (wrd (i4 ^^^ lo)))).setCell ⟨g3, 13, none⟩ (.int .u64 (wrd (i5 ^^^ hi))))) := HW.out
    go_upto_region 11 with fail
    go_wp2_with (first
      | (refine wpList_load_row rfl 116 _ rfl g3 rfl 116 (wcs G) (0, 0) _ hz.out hu.out rfl (hsz.out G hl.out) ?_)
      | (refine wpList_store_row rfl 116 _ _ rfl g2 (wcs G) rfl rfl 116 _ hy.out (hsz.out G hl.out) (hold.out G hl.out) (hall.out G) ?_))
    exact bodyPost_ret (results_cell_row rfl _ _ g2 _ _ (0, 0) _ rfl (hy.out.row _) hu.out rfl (hsz.out G hl.out)) rfl ⟨rfl, brow hx.out hl2.out _⟩
  · have hg := HGG.out
    simp only [Bool.false_eq_true, if_false, if_true] at hg
    have HG2 := Lib.hid hg; clear hg
    have hl : Hid (G.length = 16) := by show _ = _; rw [HG2.out]; simp [HV.out]
    have hz : Hid (Blk (((w8.setCell ⟨g3, 12, none⟩ (.int .u64 (wrd (i4 ^^^ lo)))).setCell ⟨g3, 13, none⟩ (.int .u64 (wrd (i5 ^^^ hi)))).setCell ⟨g3, 15, none⟩ (.int .u64 (wrd (~~~ i7)))) g3 116 (wcs G)) := by show Blk _ _ _ _; rw [HG2.out]; exact Z15.out
    have hy : Hid (Blk (((w8.setCell ⟨g3, 12, none⟩ (.int .u64 (wrd (i4 ^^^ lo)))).setCell ⟨g3, 13, none⟩ (.int .u64 (wrd (i5 ^^^ hi)))).setCell ⟨g3, 15, none⟩ (.int .u64 (wrd (~~~ i7)))) g2 116 (wcs (zw 16))) := (Y2.out).far (p := ⟨g3, 15, none⟩) (by simp; omega) _
    have hx : Hid (Below w.heap.size w (((w8.setCell ⟨g3, 12, none⟩ (.int .u64 (wrd (i4 ^^^ lo)))).setCell ⟨g3, 13, none⟩ (.int .u64 (wrd (i5 ^^^ hi)))).setCell ⟨g3, 15, none⟩ (.int .u64 (wrd (~~~ i7))))) := bput (HW.out) (p := ⟨g3, 15, none⟩) hlr.out _
    go_upto_region 11 with fail
    go_wp2_with (first
      | (refine wpList_load_row rfl 116 _ rfl g3 rfl 116 (wcs G) (0, 0) _ hz.out hu.out rfl (hsz.out G hl.out) ?_)
      | (refine wpList_store_row rfl 116 _ _ rfl g2 (wcs G) rfl rfl 116 _ hy.out (hsz.out G hl.out) (hold.out G hl.out) (hall.out G) ?_))
    exact bodyPost_ret (results_cell_row rfl _ _ g2 _ _ (0, 0) _ rfl (hy.out.row _) hu.out rfl (hsz.out G hl.out)) rfl ⟨rfl, brow hx.out hl2.out _⟩
  · have hg := HGG.out
    simp only [Bool.false_eq_true, if_false, if_true] at hg
    have HG2 := Lib.hid hg; clear hg
    have hl : Hid (G.length = 16) := by show _ = _; rw [HG2.out]; simp [HV.out]
    have hz : Hid (Blk (((w8.setCell ⟨g3, 12, none⟩ (.int .u64 (wrd (i4 ^^^ lo)))).setCell ⟨g3, 13, none⟩ (.int .u64 (wrd (i5 ^^^ hi)))).setCell ⟨g3, 14, none⟩ (.int .u64 (wrd (~~~ i6)))) g3 116 (wcs G)) := by show Blk _ _ _ _; rw [HG2.out]; exact Z14.out
    have hy : Hid (Blk (((w8.setCell ⟨g3, 12, none⟩ (.int .u64 (wrd (i4 ^^^ lo)))).setCell ⟨g3, 13, none⟩ (.int .u64 (wrd (i5 ^^^ hi)))).setCell ⟨g3, 14, none⟩ (.int .u64 (wrd (~~~ i6)))) g2 116 (wcs (zw 16))) := (Y2.out).far (p := ⟨g3, 14, none⟩) (by simp; omega) _
    have hx : Hid (Below w.heap.size w (((w8.setCell ⟨g3, 12, none⟩ (.int .u64 (wrd (i4 ^^^ lo)))).setCell ⟨g3, 13, none⟩ (.int .u64 (wrd (i5 ^^^ hi)))).setCell ⟨g3, 14, none⟩ (.int .u64 (wrd (~~~ i6))))) := bput (HW.out) (p := ⟨g3, 14, none⟩) hlr.out _
    go_upto_region 11 with fail
    go_wp2_with (first
      | (refine wpList_load_row rfl 116 _ rfl g3 rfl 116 (wcs G) (0, 0) _ hz.out hu.out rfl (hsz.out G hl.out) ?_)
      | (refine wpList_store_row rfl 116 _ _ rfl g2 (wcs G) rfl rfl 116 _ hy.out (hsz.out G hl.out) (hold.out G hl.out) (hall.out G) ?_))
    exact bodyPost_ret (results_cell_row rfl _ _ g2 _ _ (0, 0) _ rfl (hy.out.row _) hu.out rfl (hsz.out G hl.out)) rfl ⟨rfl, brow hx.out hl2.out _⟩
  · have hg := HGG.out
    simp only [if_true] at hg
    have HG2 := Lib.hid hg; clear hg
    have hl : Hid (G.length = 16) := by show _ = _; rw [HG2.out]; simp [HV.out]
    have hz : Hid (Blk ((((w8.setCell ⟨g3, 12, none⟩ (.int .u64 (wrd (i4 ^^^ lo)))).setCell ⟨g3, 13, none⟩ (.int .u64 (wrd (i5 ^^^ hi)))).setCell ⟨g3, 14, none⟩ (.int .u64 (wrd (~~~ i6)))).setCell ⟨g3, 15, none⟩ (.int .u64 (wrd (~~~ i7)))) g3 116 (wcs G)) := by show Blk _ _ _ _; rw [HG2.out]; exact Z16.out
    have hy : Hid (Blk ((((w8.setCell ⟨g3, 12, none⟩ (.int .u64 (wrd (i4 ^^^ lo)))).setCell ⟨g3, 13, none⟩ (.int .u64 (wrd (i5 ^^^ hi)))).setCell ⟨g3, 14, none⟩ (.int .u64 (wrd (~~~ i6)))).setCell ⟨g3, 15, none⟩ (.int .u64 (wrd (~~~ i7)))) g2 116 (wcs (zw 16))) := ((Y2.out).far (p := ⟨g3, 14, none⟩) (by simp; omega) _).far (p := ⟨g3, 15, none⟩) (by simp; omega) _
    have hx : Hid (Below w.heap.size w ((((w8.setCell ⟨g3, 12, none⟩ (.int .u64 (wrd (i4 ^^^ lo)))).setCell ⟨g3, 13, none⟩ (.int .u64 (wrd (i5 ^^^ hi)))).setCell ⟨g3, 14, none⟩ (.int .u64 (wrd (~~~ i6)))).setCell ⟨g3, 15, none⟩ (.int .u64 (wrd (~~~ i7))))) := bput (bput (HW.out) (p := ⟨g3, 14, none⟩) hlr.out _) (p := ⟨g3, 15, none⟩) hlr.out _
    go_upto_region 11 with fail
    go_wp2_with (first
      | (refine wpList_load_row rfl 116 _ rfl g3 rfl 116 (wcs G) (0, 0) _ hz.out hu.out rfl (hsz.out G hl.out) ?_)
      | (refine wpList_store_row rfl 116 _ _ rfl g2 (wcs G) rfl rfl 116 _ hy.out (hsz.out G hl.out) (hold.out G hl.out) (hall.out G) ?_))
    exact bodyPost_ret (results_cell_row rfl _ _ g2 _ _ (0, 0) _ rfl (hy.out.row _) hu.out rfl (hsz.out G hl.out)) rfl ⟨rfl, brow hx.out hl2.out _⟩
end Go.Proofs.Ytboihcigcfmhhaa

/-! The compression of mixb: F. -/
namespace Go.Proofs.Ytboihcigcfmhhaa
open Go.RowKit
attribute [local go_sem] pureUpon Ords.of

def z8 : Array Value := #[.int .u64 0, .int .u64 0, .int .u64 0, .int .u64 0, .int .u64 0, .int .u64 0, .int .u64 0, .int .u64 0]
theorem initOf_len (H : List UInt64) (lo hi : UInt64) (last node : Bool) (h : H.length = 8) : (initOf H lo hi last node).length = 16 := by
  have : (H ++ iv64).length = 16 := by rw [List.length_append, h]; rfl
  unfold initOf
  cases last <;> cases node <;> simp [this]
def roundsTo (M : List UInt64) : Nat → List UInt64 → List UInt64
  | 0, V => V
  | r + 1, V => turn64 M r (roundsTo M r V)
theorem roundsTo_len (M : List UInt64) (r : Nat) (V : List UInt64) : (roundsTo M r V).length = V.length := by
  induction r with
  | zero => rfl
  | succ r ih => unfold roundsTo; rw [turn64_len, ih]
def outOf (H V : List UInt64) : List UInt64 := (List.range 8).map fun i => H.getD i 0 ^^^ (V.getD i 0 ^^^ V.getD (i + 8) 0)
theorem outOf_len (H V : List UInt64) : (outOf H V).length = 8 := by simp [outOf]
theorem outOf_at (H V : List UInt64) (k : Nat) (hk : k < 8) : (outOf H V)[k]? = some (H.getD k 0 ^^^ (V.getD k 0 ^^^ V.getD (k + 8) 0)) := by simp [outOf, hk]
/-- a block goes into a state -/
def comp64 (H M : List UInt64) (lo hi : UInt64) (last node : Bool) : List UInt64 := outOf H (roundsTo M 12 (initOf H lo hi last node))
theorem comp64_len (H M : List UInt64) (lo hi : UInt64) (last node : Bool) : (comp64 H M lo hi last node).length = 8 := outOf_len _ _
/-- the first k words are those of z already -/
def halfW (z x : List UInt64) (k : Nat) : List UInt64 := z.take k ++ x.drop k
theorem halfW_put (z x : List UInt64) (k : Nat) (v : UInt64) (hz : z[k]? = some v) (hl : x.length = z.length) : (halfW z x k).set k v = halfW z x (k + 1) := by
  have hk : k < z.length := (List.getElem?_eq_some_iff.1 hz).1
  have h1 : (z.take k).length = k := by simp; omega
  unfold halfW
  rw [List.take_add_one, hz, List.drop_eq_getElem_cons (by omega), List.set_append, if_neg (by rw [h1]; omega), h1, Nat.sub_self, List.set_cons_zero, List.append_assoc]
  rfl
theorem halfW_at (z x : List UInt64) (k : Nat) (hk : k < x.length) (hl : x.length = z.length) : (halfW z x k)[k]? = some (x.getD k 0) := by
  have h1 : (z.take k).length = k := by simp; omega
  unfold halfW
  rw [List.getElem?_append_right (by omega), h1, Nat.sub_self, List.getElem?_drop, Nat.add_zero, List.getD_eq_getElem?_getD, List.getElem?_eq_getElem hk]
  rfl
theorem halfW_all (z x : List UInt64) (n : Nat) (hz : z.length = n) (hx : x.length = n) : halfW z x n = z := by
  unfold halfW; rw [List.take_of_length_le (by omega), List.drop_of_length_le (by omega), List.append_nil]
theorem getDW (l : List UInt64) (k : Nat) (h : k < l.length) : l[k]? = some (l.getD k 0) := by rw [List.getD_eq_getElem?_getD, List.getElem?_eq_getElem h]; rfl

set_option maxRecDepth 20000 in
set_option maxHeartbeats 4000000 in
theorem comp_any (H M : List UInt64) (lo hi : UInt64) (last node : Bool) (w : World) (hH : H.length = 8) (hM : M.length = 16) :
    Calls Try.prog 63 #[.agg (wcs H), .agg (wcs M), .agg #[.int .u64 (wrd lo), .int .u64 (wrd hi)], .bool last, .bool node] w fun e w' => e = .returned (.agg (wcs (comp64 H M lo hi last node))) ∧ Below w.heap.size w w' := by
  have HH := Lib.hid hH; have HM := Lib.hid hM
  have hIl := initOf_len H lo hi last node hH
  have hI := fun w => init_any H lo hi last node w hH
  unfold comp64
  generalize initOf H lo hi last node = V at *
  have HI := Lib.hid hI; have HVl := Lib.hid hIl; clear hI hIl hH hM
  have hu8 := Lib.hid Try.underlying83
  have s8 := Lib.hid (sz8w H HH.out)
  have sV := Lib.hid (sz16w V HVl.out)
  have aV := Lib.hid (wcs_all V)
  have holdV : Hid ((wcs (zw 16)).size = (wcs V).size) := by show _ = _; rw [wcs_size, wcs_size, HVl.out]; rfl
  go_enter Try.func63, Try.ntmps63
  go_upto_region 1 with fail
  obtain ⟨w1, hw1⟩ : ∃ w1, w1 = w.alloc (.cells (wcs H) 83) := ⟨_, rfl⟩
  obtain ⟨w2, hw2⟩ : ∃ w2, w2 = w1.alloc (.cells (wcs M) 116) := ⟨_, rfl⟩
  obtain ⟨w3, hw3⟩ : ∃ w3, w3 = w2.alloc (.cells #[.int .u64 (wrd lo), .int .u64 (wrd hi)] 56) := ⟨_, rfl⟩
  obtain ⟨w4, hw4⟩ : ∃ w4, w4 = w3.alloc (.cells (wcs (zw 8)) 83) := ⟨_, rfl⟩
  have e4 : (((w.alloc (.cells (wcs H) 83)).alloc (.cells (wcs M) 116)).alloc (.cells #[.int .u64 (wrd lo), .int .u64 (wrd hi)] 56)).alloc (.cells z8 83) = w4 := by rw [hw4, hw3, hw2, hw1]; rfl
  unfold z8 at e4
  rw [e4]
  have n0 : Blk w4 w.heap.size 83 (wcs H) := by rw [hw4, hw3, hw2, hw1]; exact (((Blk.new _ _ _).alloc _).alloc _).alloc _
  have n1 : Blk w4 (w.heap.size + 1) 116 (wcs M) := by
    have : w1.heap.size = w.heap.size + 1 := by rw [hw1]; simp
    rw [← this, hw4, hw3, hw2]; exact ((Blk.new _ _ _).alloc _).alloc _
  have n2 : Blk w4 (w.heap.size + 1 + 1) 56 #[.int .u64 (wrd lo), .int .u64 (wrd hi)] := by
    have : w2.heap.size = w.heap.size + 1 + 1 := by rw [hw2, hw1]; simp
    rw [← this, hw4, hw3]; exact (Blk.new _ _ _).alloc _
  have n3 : Blk w4 (w.heap.size + 1 + 1 + 1) 83 (wcs (zw 8)) := by
    have : w3.heap.size = w.heap.size + 1 + 1 + 1 := by rw [hw3, hw2, hw1]; simp
    rw [← this, hw4]; exact Blk.new _ _ _
  have n4 : Below w.heap.size w w4 := by rw [hw4, hw3, hw2, hw1]; exact bal (bal (bal (bal (b0 _) _) _) _) _
  clear hw1 hw2 hw3 hw4 e4 w1 w2 w3
  obtain ⟨g0, hg0⟩ : ∃ g, g = w.heap.size := ⟨_, rfl⟩
  obtain ⟨g1, hg1⟩ : ∃ g, g = w.heap.size + 1 := ⟨_, rfl⟩
  obtain ⟨g2, hg2⟩ : ∃ g, g = w.heap.size + 1 + 1 := ⟨_, rfl⟩
  obtain ⟨g3, hg3⟩ : ∃ g, g = w.heap.size + 1 + 1 + 1 := ⟨_, rfl⟩
  rw [← hg3, ← hg2, ← hg1, ← hg0]
  rw [← hg0] at n0; rw [← hg1] at n1; rw [← hg2] at n2; rw [← hg3] at n3
  have l01 : g0 < g1 := by omega
  have l12 : g1 < g2 := by omega
  have l23 : g2 < g3 := by omega
  have l0 : Hid (w.heap.size ≤ g0) := by show _ ≤ _; omega
  have N0 := Lib.hid n0; have N1 := Lib.hid n1; have N2 := Lib.hid n2; have N3 := Lib.hid n3; have N4 := Lib.hid n4
  clear n0 n1 n2 n3 n4 hg0 hg1 hg2 hg3
  have d0 : w4.cell? ⟨g2, 0, none⟩ = some (.int .u64 (wrd lo)) := N2.out.cell 0
  have d1 : w4.cell? ⟨g2, 1, none⟩ = some (.int .u64 (wrd hi)) := N2.out.cell 1
  go_wp2_with (refine wpList_load_row rfl 83 _ rfl g0 rfl 83 (wcs H) (0, 0) _ N0.out hu8.out rfl s8.out ?_)
  refine (HI.out _).mono ?_
  rintro e w6 ⟨rfl, hb6⟩
  clear d0 d1
  replace N0 := Lib.hid (N0.out.below hb6 N0.out.lt); replace N1 := Lib.hid (N1.out.below hb6 N1.out.lt); replace N3 := Lib.hid (N3.out.below hb6 N3.out.lt); replace N4 := Lib.hid (bcall N4.out hb6)
  have l36 : g3 < w6.heap.size := N3.out.lt
  clear N2 hb6
  have n6 : Blk (w6.alloc (.cells z16 116)) w6.heap.size 116 (wcs (zw 16)) := Blk.new _ _ _
  have v0 := N0.out.alloc (.cells z16 116); have v1 := N1.out.alloc (.cells z16 116); have v3 := N3.out.alloc (.cells z16 116); have v4 := bal N4.out (.cells z16 116)
  have l6 := N4.out.size
  obtain ⟨g6, hg6⟩ : ∃ g6, g6 = w6.heap.size := ⟨_, rfl⟩
  unfold z16 at n6 v0 v1 v3 v4
  have N6 := Lib.hid n6; have hw6 : Hid (w.heap.size ≤ w6.heap.size) := l6; clear n6 l6
  go_upto_region 2 with (refine wpList_store_row rfl 116 _ _ rfl w6.heap.size (wcs V) rfl rfl 116 _ N6.out sV.out holdV.out aV.out ?_)
  have n6 := N6.out.row (wcs V)
  replace v0 := v0.rowFar (k := w6.heap.size) (by omega) (wcs V); replace v1 := v1.rowFar (k := w6.heap.size) (by omega) (wcs V); replace v3 := v3.rowFar (k := w6.heap.size) (by omega) (wcs V); replace v4 := brow v4 hw6.out (wcs V)
  rw [← hg6] at n6 v0 v1 v3 v4 l36 ⊢
  clear N0 N1 N3 N4 N6 sV holdV aV
  generalize (w6.alloc (.cells #[.int .u64 0, .int .u64 0, .int .u64 0, .int .u64 0, .int .u64 0, .int .u64 0, .int .u64 0, .int .u64 0, .int .u64 0, .int .u64 0, .int .u64 0, .int .u64 0, .int .u64 0, .int .u64 0, .int .u64 0, .int .u64 0] 116)).setRow g6 (wcs V) = w7 at *
  have hl6 : Hid (w.heap.size ≤ g6) := by show _ ≤ _; rw [hg6]; exact hw6.out
  clear hg6 hw6
  have N0 := Lib.hid v0; have N1 := Lib.hid v1; have N3 := Lib.hid v3; have N4 := Lib.hid v4; have N6 := Lib.hid n6; clear v0 v1 v3 v4 n6
  go_wp2_with fail
  go_loopw [19] (fun i wr => ∃ k : Nat, k ≤ 12 ∧ i = .int .i64 k ∧ Blk wr g6 116 (wcs (roundsTo M k V)) ∧ Blk wr g0 83 (wcs H) ∧ Blk wr g1 116 (wcs M) ∧ Blk wr g3 83 (wcs (zw 8)) ∧ Below w.heap.size w wr) (fun i _ => 12 - (intOf i).toNat)
  case atStart => exact ⟨0, by omega, rfl, N6.out, N0.out, N1.out, N3.out, N4.out⟩
  case round =>
    clear N0 N1 N3 N4 N6
    obtain ⟨k, hk, rfl, x6, x0, x1, x3, x4⟩ := hrel
    have N0 := Lib.hid x0; have N1 := Lib.hid x1; have N3 := Lib.hid x3; have N4 := Lib.hid x4; have N6 := Lib.hid x6; clear x0 x1 x3 x4 x6
    by_cases hlt : k < 12
    · have ht := turn_any g6 g1 k (roundsTo M k V) M wr (by omega) (by rw [roundsTo_len, HVl.out]) HM.out N6.out N1.out
      have HT := Lib.hid ht; clear ht
      have hkd : decide ((k : Int) < 12) = true := by simp; omega
      go_wp2_with (go_at_call 70; refine HT.out.mono ?_; rintro e w8 ⟨rfl, hz8, hg8⟩; have HZ8 := Lib.hid hz8; have HG8 := Lib.hid hg8; clear hz8 hg8)
      go_roundw
      case rel => exact ⟨k + 1, by omega, by go_num, HZ8.out, N0.out.grown HG8.out (by simp; omega), N1.out.grown HG8.out (by simp; omega), N3.out.grown HG8.out (by simp; omega), bgr N4.out HG8.out hl6.out⟩
      case measure => simp [intOf]; omega
    · obtain rfl : k = 12 := by omega
      rw [show ((12 : Nat) : Int) = 12 from rfl]
      clear hlt hk
      obtain ⟨R, hR⟩ : ∃ R, R = roundsTo M 12 V := ⟨_, rfl⟩
      have hRl : R.length = 16 := by rw [hR, roundsTo_len, HVl.out]
      have x6 := N6.out
      rw [← hR] at x6
      obtain ⟨F, hF⟩ : ∃ F, F = outOf H R := ⟨_, rfl⟩
      have hFl : F.length = 8 := by rw [hF, outOf_len]
      have HRl := Lib.hid hRl; have HFl := Lib.hid hFl; have HF := Lib.hid hF; have HR := Lib.hid hR; have X6 := Lib.hid x6; clear hRl hFl hF hR x6 N6
      go_wp2_with fail
      go_loopw [25] (fun i wr => ∃ k : Nat, k ≤ 8 ∧ i = .int .i64 k ∧ Blk wr g0 83 (wcs (halfW F H k)) ∧ Blk wr g6 116 (wcs R) ∧ Blk wr g3 83 (wcs (zw 8)) ∧ Below w.heap.size w wr) (fun i _ => 8 - (intOf i).toNat)
      case atStart => exact ⟨0, by omega, rfl, by simpa [halfW] using N0.out, X6.out, N3.out, N4.out⟩
      case round =>
        clear N0 N1 N3 N4 X6
        obtain ⟨k, hk, rfl, x0, x6, x3, x4⟩ := hrel
        have N0 := Lib.hid x0; have N3 := Lib.hid x3; have N4 := Lib.hid x4; have N6 := Lib.hid x6; clear x0 x3 x4 x6
        by_cases hlt : k < 8
        · have eF := outOf_at H R k hlt
          rw [← HF.out] at eF
          obtain ⟨k8, hk8⟩ : ∃ k8, k8 = k + 8 := ⟨_, rfl⟩
          rw [← hk8] at eF
          have e8 : (k : Int) + 8 = (k8 : Int) := by omega
          have w8' : IntKind.i64.wrap (k8 : Int) = k8 := by simp [IntKind.wrap, IntKind.bits, IntKind.signed]; omega
          obtain ⟨p, hp⟩ : ∃ p, p = H.getD k 0 := ⟨_, rfl⟩
          obtain ⟨q, hq⟩ : ∃ q, q = R.getD k 0 := ⟨_, rfl⟩
          obtain ⟨r, hr⟩ : ∃ r, r = R.getD k8 0 := ⟨_, rfl⟩
          have c0 : wr.cell? ⟨g0, k, none⟩ = some (.int .u64 (wrd p)) := by rw [N0.out.cell, wcs_at' _ k p (by rw [hp]; exact halfW_at F H k (by rw [HH.out]; exact hlt) (by rw [HH.out, HFl.out]))]
          have c1 : wr.cell? ⟨g6, k, none⟩ = some (.int .u64 (wrd q)) := by rw [N6.out.cell, wcs_at' _ k q (by rw [hq]; exact getDW R k (by rw [HRl.out]; omega))]
          have c2 : wr.cell? ⟨g6, k8, none⟩ = some (.int .u64 (wrd r)) := by rw [N6.out.cell, wcs_at' _ k8 r (by rw [hr]; exact getDW R k8 (by rw [HRl.out]; omega))]
          have cf : wr.frozen? ⟨g0, k, none⟩ = false := N0.out.frozen k
          rw [← hp, ← hq, ← hr] at eF
          have EF := Lib.hid eF; clear eF hp hq hr
          have h2 := wrd_xor
          have hki : (k : Int) < 8 := by omega
          have hk8i : (k8 : Int) < 16 := by omega
          have hk16 : (k : Int) < 16 := by omega
          have hkd : decide ((k : Int) < 8) = true := by simp; omega
          clear hk8
          go_wp2
          refine wp_region_ords (fun _ => True) (fun _ _ h => h) (Ords.of [(0, 0), (0, 1), (1, 2), (0, 3), (0, 4), (1, 5), (0, 6), (0, 7), (0, 8), (1, 9), (0, 10), (0, 11), (0, 12), (2, 13)] .fin) (by kernel_rfl) rfl (by kernel_rfl) (by kernel_rfl) (fun c a d v w h => by cases d <;> exact h) trivial ?_
          iterate 2 (refine ords_pure rfl (fun K hK => ?_); go_simp; refine hK _ ?_; clear hK K; refine ords_pure rfl (fun K hK => ?_); go_simp; refine hK _ ?_; clear hK K; refine ords_read rfl (fun K hK => ?_); go_simp; refine hK _ ?_; clear hK K)
          iterate 3 (refine ords_pure rfl (fun K hK => ?_); go_simp; refine hK _ ?_; clear hK K)
          refine ords_read rfl (fun K hK => ?_); go_simp; refine hK _ ?_; clear hK K
          iterate 3 (refine ords_pure rfl (fun K hK => ?_); go_simp; refine hK _ ?_; clear hK K)
          refine ords_loud rfl (fun n1 => ?_)
          go_wp2
          first | (refine ⟨trivial, ?_⟩; refine ords_end (fun n2 => ?_)) | (rintro _ ⟨n2, rfl⟩)
          go_wp2_with fail
          go_roundw
          case rel =>
            have h0 := ((N0.out.drewN n1).set_ k (wv (p ^^^ (q ^^^ r)))).drewN n2
            rw [wcs_set, halfW_put F H k _ EF.out (by rw [HH.out, HFl.out])] at h0
            exact ⟨k + 1, by omega, by go_num, h0, ((N6.out.drewN n1).far (p := ⟨g0, k, none⟩) (by simp; omega) _).drewN n2, ((N3.out.drewN n1).far (p := ⟨g0, k, none⟩) (by simp; omega) _).drewN n2, bdr (bput (bdr N4.out n1) (p := ⟨g0, k, none⟩) l0.out _) n2⟩
          case measure => simp [intOf]; omega
        · obtain rfl : k = 8 := by omega
          clear hlt hk
          have x0 := N0.out
          rw [halfW_all F H 8 HFl.out HH.out] at x0
          have X0 := Lib.hid x0; clear x0 N0
          have sF := Lib.hid (sz8w F HFl.out)
          have aF := Lib.hid (wcs_all F)
          have hoF : Hid ((wcs (zw 8)).size = (wcs F).size) := by show _ = _; rw [wcs_size, wcs_size, HFl.out]; rfl
          have hl3 : Hid (w.heap.size ≤ g3) := by show _ ≤ _; have := l0.out; omega
          go_upto_region 12 with fail
          go_wp2_with (first
            | (refine wpList_load_row rfl 83 _ rfl g0 rfl 83 (wcs F) (0, 0) _ X0.out hu8.out rfl sF.out ?_)
            | (refine wpList_store_row rfl 83 _ _ rfl g3 (wcs F) rfl rfl 83 _ N3.out sF.out hoF.out aF.out ?_))
          have h9 := HF.out
          rw [HR.out] at h9
          rw [← h9]
          exact bodyPost_ret (results_cell_row rfl _ _ g3 _ _ (0, 0) _ rfl (N3.out.row _) hu8.out rfl sF.out) rfl ⟨rfl, brow N4.out hl3.out _⟩
end Go.Proofs.Ytboihcigcfmhhaa

/-! Blocks and states of mixb, from bytes and to bytes. -/
namespace Go.Proofs.Ytboihcigcfmhhaa
open Go.RowKit
attribute [local go_sem] pureUpon Ords.of

def fillU (z : List UInt64) (k n : Nat) : List UInt64 := z.take k ++ List.replicate (n - k) 0
theorem fillU_put (z : List UInt64) (k n : Nat) (v : UInt64) (hk : k < n) (hz : z[k]? = some v) : (wcs (fillU z k n)).setIfInBounds k (wv v) = wcs (fillU z (k + 1) n) := by
  rw [wcs_set]; unfold fillU; rw [fill_put z k n 0 v hk hz]
theorem fillU_len (z : List UInt64) (k n : Nat) (hk : k ≤ n) (hz : z.length = n) : (fillU z k n).length = n := fill_len z k n 0 hk hz
theorem fillU_all (z : List UInt64) (n : Nat) (hz : z.length = n) : fillU z n n = z := by unfold fillU; rw [Nat.sub_self, List.replicate_zero, List.append_nil, List.take_of_length_le (by omega)]
theorem fillU_none (z : List UInt64) : wcs (fillU z 0 16) = z16 := rfl

set_option maxRecDepth 20000 in
set_option maxHeartbeats 2000000 in
theorem blockWords_any (A : Option Addr) (c : Nat) (x : List UInt8) (B : Nat) (w : World) (hx : x.length = 128) (hB : B ≤ w.heap.size) (hr : RS cB w B A x) :
    Calls Try.prog 62 #[.slice A 128 c] w fun e w' => e = .returned (.tuple #[.agg (wcs (wordsOf x 16)), .int .i64 0]) ∧ Below w.heap.size w w' := by
  have HX := Lib.hid hx; have HR := Lib.hid (hr.more hB); clear hx hr
  obtain ⟨M, hM⟩ : ∃ M, M = wordsOf x 16 := ⟨_, rfl⟩
  have hMl : M.length = 16 := by rw [hM, wordsOf_len]
  rw [← hM]
  have HM := Lib.hid hM; have HML := Lib.hid hMl; clear hM hMl
  have hu := Lib.hid Try.underlying116
  have sM := Lib.hid (sz16w M HML.out)
  have aM := Lib.hid (wcs_all M)
  have hoM : Hid ((wcs (fillU M 0 16)).size = (wcs M).size) := by show _ = _; rw [wcs_size, wcs_size, fillU_len _ _ _ (by omega) HML.out, HML.out]
  go_enter Try.func62, Try.ntmps62
  go_upto_region 4 with fail
  have n0 : Blk ((w.alloc (.cells z16 116)).alloc (.cells z16 116)) w.heap.size 116 (wcs (fillU M 0 16)) := by rw [fillU_none]; exact (Blk.new _ _ _).alloc _
  have n1 : Blk ((w.alloc (.cells z16 116)).alloc (.cells z16 116)) (w.heap.size + 1) 116 (wcs (fillU M 0 16)) := by
    rw [fillU_none]; simpa using Blk.new (w.alloc (.cells z16 116)) 116 z16
  have n4 := bal (bal (b0 w) (.cells z16 116)) (.cells z16 116)
  unfold z16 at n0 n1 n4
  obtain ⟨b, hb⟩ : ∃ b, b = w.heap.size := ⟨_, rfl⟩
  rw [← hb] at n0 n1 ⊢
  generalize (w.alloc (.cells #[.int .u64 0, .int .u64 0, .int .u64 0, .int .u64 0, .int .u64 0, .int .u64 0, .int .u64 0, .int .u64 0, .int .u64 0, .int .u64 0, .int .u64 0, .int .u64 0, .int .u64 0, .int .u64 0, .int .u64 0, .int .u64 0] 116)).alloc (.cells #[.int .u64 0, .int .u64 0, .int .u64 0, .int .u64 0, .int .u64 0, .int .u64 0, .int .u64 0, .int .u64 0, .int .u64 0, .int .u64 0, .int .u64 0, .int .u64 0, .int .u64 0, .int .u64 0, .int .u64 0, .int .u64 0] 116) = w0 at *
  have N0 := Lib.hid n0; have N1 := Lib.hid n1; have N4 := Lib.hid n4; have hwb : Hid (w.heap.size ≤ b) := by (show _ ≤ _; omega)
  clear n0 n1 n4 hb
  go_wp2_with fail
  go_loopw [10] (fun i wr => ∃ k : Nat, k ≤ 16 ∧ i = .int .i64 k ∧ Blk wr b 116 (wcs (fillU M 0 16)) ∧ Blk wr (b + 1) 116 (wcs (fillU M k 16)) ∧ Below w.heap.size w wr) (fun i _ => 16 - (intOf i).toNat)
  case atStart => exact ⟨0, by omega, rfl, N0.out, N1.out, N4.out⟩
  case round =>
    clear N0 N1 N4
    obtain ⟨k, hk, rfl, x0, x1, x4⟩ := hrel
    have N0 := Lib.hid x0; have N1 := Lib.hid x1; have N4 := Lib.hid x4; clear x0 x1 x4
    by_cases hlt : k < 16
    · have hl := load64_any A c 128 (8 * k) w.heap.size x wr HX.out (by omega) (HR.out.below N4.out) (by omega)
      have e8 : ((8 * k : Nat) : Int) = 8 * (k : Int) := by omega
      rw [e8] at hl
      obtain ⟨v, hv⟩ : ∃ v, v = word ((x.drop (8 * k)).take 8) := ⟨_, rfl⟩
      have hmk : M[k]? = some v := by rw [HM.out, wordsOf_at x 16 k hlt, hv]
      rw [← hv] at hl
      have gc : wr.cell? ⟨b + 1, k, none⟩ = some (wv ((fillU M k 16).getD k 0)) := (N1.out.cell k).trans (wcs_get _ _ (by rw [fillU_len _ _ _ hk HML.out]; exact hlt))
      have gf : wr.frozen? ⟨b + 1, k, none⟩ = false := N1.out.frozen k
      generalize wv ((fillU M k 16).getD k 0) = old at gc
      have HL := Lib.hid hl; have HMK := Lib.hid hmk; clear hl hv e8 hmk
      have hki : (k : Int) < 16 := by omega
      go_wp2_with (go_at_call 36; refine HL.out.mono ?_; rintro e w1 ⟨rfl, rfl⟩)
      case roundEnd =>
        have h1 := N1.out.set_ k (wv v)
        rw [fillU_put _ k 16 v hlt HMK.out] at h1
        exact ⟨⟨k + 1, by omega, by go_num, N0.out.far (p := ⟨b + 1, k, none⟩) (by simp) _, h1, bput N4.out (p := ⟨b + 1, k, none⟩) (by have := hwb.out; simp; omega) _⟩, by simp [intOf]; omega⟩
    · obtain rfl : k = 16 := by omega
      clear hlt hk
      have x1 := N1.out
      rw [fillU_all _ 16 HML.out] at x1
      have X1 := Lib.hid x1; clear x1 N1
      go_upto_region 9 with fail
      go_wp2_with (first
        | (refine wpList_load_row rfl 116 _ rfl (b + 1) rfl 116 (wcs M) (0, 0) _ X1.out hu.out rfl sM.out ?_)
        | (refine wpList_store_row rfl 116 _ _ rfl b (wcs M) rfl rfl 116 _ N0.out sM.out hoM.out aM.out ?_))
      exact bodyPost_ret (results_cell_tmp rfl _ _ b _ _ _ rfl (N0.out.row _) hu.out rfl sM.out) rfl ⟨rfl, brow N4.out hwb.out _⟩

/-- the state that begins with a block of parameters -/
def start64 (l : List UInt8) : List UInt64 := xorW iv64 (wordsOf l 8)
theorem start64_len (l : List UInt8) : (start64 l).length = 8 := by unfold start64; rw [xorW_len _ _ (by rw [wordsOf_len]; rfl)]; rfl
set_option maxRecDepth 20000 in
set_option maxHeartbeats 2000000 in
theorem start_any (A : Option Addr) (c : Nat) (x : List UInt8) (B : Nat) (w : World) (hx : x.length = 64) (hB : B ≤ w.heap.size) (hr : RS cB w B A x) :
    Calls Try.prog 53 #[.slice A 64 c] w fun e w' => e = .returned (.tuple #[.agg (wcs (start64 x)), .int .i64 0]) ∧ Below w.heap.size w w' := by
  have HX := Lib.hid hx; have HR := Lib.hid (hr.more hB); clear hx hr
  obtain ⟨S, hS⟩ : ∃ S, S = start64 x := ⟨_, rfl⟩
  have hSl : S.length = 8 := by rw [hS, start64_len]
  have hSk : ∀ k, k < 8 → S[k]? = some (iv64.getD k 0 ^^^ word ((x.drop (8 * k)).take 8)) := by
    intro k hk
    rw [hS]
    exact xorW_at iv64 (wordsOf x 8) k _ _ (getDW iv64 k hk) (wordsOf_at x 8 k hk)
  rw [← hS]
  have hiv := iv_any
  have hIl : iv64.length = 8 := rfl
  have sI := Lib.hid (sz8w iv64 hIl)
  generalize iv64 = I at *
  have HSK := Lib.hid hSk; have HSL := Lib.hid hSl; have HIV := Lib.hid hiv; have HIL := Lib.hid hIl; clear hS hSl hSk hiv hIl
  have hu := Lib.hid Try.underlying83
  have sS := Lib.hid (sz8w S HSL.out)
  have aS := Lib.hid (wcs_all S); have aI := Lib.hid (wcs_all I)
  have hoS : Hid ((wcs (zw 8)).size = (wcs S).size) := by show _ = _; rw [wcs_size, wcs_size, HSL.out]; rfl
  have hoI : Hid ((wcs (zw 8)).size = (wcs I).size) := by show _ = _; rw [wcs_size, wcs_size, HIL.out]; rfl
  go_enter Try.func53, Try.ntmps53
  go_wp2_with fail
  refine (HIV.out _).mono ?_
  rintro e w1 ⟨rfl, hb1⟩
  have n0 : Blk (w.alloc (.cells z8 83)) w.heap.size 83 (wcs (zw 8)) := Blk.new _ _ _
  have n4 := bal (b0 w) (.cells z8 83)
  unfold z8 at n0 n4
  replace n0 := n0.below hb1 n0.lt
  replace n4 := bcall n4 hb1
  have n1 : Blk (w1.alloc (.cells z8 83)) w1.heap.size 83 (wcs (zw 8)) := Blk.new _ _ _
  replace n0 := n0.alloc (.cells z8 83)
  replace n4 := bal n4 (.cells z8 83)
  unfold z8 at n0 n1 n4
  have hlt0 : w.heap.size < w1.heap.size := by have := hb1.size; simp at this; omega
  have N1 := Lib.hid n1
  clear hb1 n1
  go_upto_region 4 with (refine wpList_store_row rfl 83 _ _ rfl w1.heap.size (wcs I) rfl rfl 83 _ N1.out sI.out hoI.out aI.out ?_)
  have n1 := N1.out.row (wcs I)
  replace n0 := n0.rowFar (k := w1.heap.size) (by omega) (wcs I); replace n4 := brow n4 (g := w1.heap.size) (by omega) (wcs I)
  obtain ⟨b, hb⟩ : ∃ b, b = w.heap.size := ⟨_, rfl⟩
  obtain ⟨g, hg⟩ : ∃ g, g = w1.heap.size := ⟨_, rfl⟩
  have hwb : Hid (w.heap.size ≤ b) := by (show _ ≤ _; omega)
  rw [← hg, ← hb] at hlt0
  rw [← hg] at n0 n1 n4 ⊢
  rw [← hb] at n0 ⊢
  clear N1 hb hg
  generalize (w1.alloc (.cells #[.int .u64 0, .int .u64 0, .int .u64 0, .int .u64 0, .int .u64 0, .int .u64 0, .int .u64 0, .int .u64 0] 83)).setRow g (wcs I) = w2 at *
  have N0 := Lib.hid n0; have N1 := Lib.hid n1; have N4 := Lib.hid n4; clear n0 n1 n4
  go_wp2_with fail
  go_loopw [13] (fun i wr => ∃ k : Nat, k ≤ 8 ∧ i = .int .i64 k ∧ Blk wr b 83 (wcs (zw 8)) ∧ Blk wr g 83 (wcs (halfW S I k)) ∧ Below w.heap.size w wr) (fun i _ => 8 - (intOf i).toNat)
  case atStart => exact ⟨0, by omega, rfl, N0.out, by simpa [halfW] using N1.out, N4.out⟩
  case round =>
    clear N0 N1 N4
    obtain ⟨k, hk, rfl, x0, x1, x4⟩ := hrel
    have N0 := Lib.hid x0; have N1 := Lib.hid x1; have N4 := Lib.hid x4; clear x0 x1 x4
    by_cases hlt : k < 8
    · have hl := load64_any A c 64 (8 * k) w.heap.size x wr HX.out (by omega) (HR.out.below N4.out) (by omega)
      have e8 : ((8 * k : Nat) : Int) = 8 * (k : Int) := by omega
      rw [e8] at hl
      have hsk := HSK.out k hlt
      obtain ⟨v, hv⟩ : ∃ v, v = word ((x.drop (8 * k)).take 8) := ⟨_, rfl⟩
      obtain ⟨q, hq⟩ : ∃ q, q = I.getD k 0 := ⟨_, rfl⟩
      rw [← hv] at hl hsk
      have gc : wr.cell? ⟨g, k, none⟩ = some (.int .u64 (wrd q)) := by rw [N1.out.cell, wcs_at' _ k q (by rw [hq]; exact halfW_at S I k (by rw [HIL.out]; exact hlt) (by rw [HIL.out, HSL.out]))]
      have gf : wr.frozen? ⟨g, k, none⟩ = false := N1.out.frozen k
      rw [← hq] at hsk
      have HL := Lib.hid hl; have HSV := Lib.hid hsk; clear hl hv e8 hsk hq
      have h2 := wrd_xor
      have hki : (k : Int) < 8 := by omega
      go_wp2_with (go_at_call 36; refine HL.out.mono ?_; rintro e w3 ⟨rfl, rfl⟩)
      case roundEnd =>
        have h1 := N1.out.set_ k (wv (q ^^^ v))
        rw [wcs_set, halfW_put S I k _ HSV.out (by rw [HIL.out, HSL.out])] at h1
        exact ⟨⟨k + 1, by omega, by go_num, N0.out.far (p := ⟨g, k, none⟩) (by simp; omega) _, h1, bput N4.out (p := ⟨g, k, none⟩) (by have := hwb.out; simp; omega) _⟩, by simp [intOf]; omega⟩
    · obtain rfl : k = 8 := by omega
      clear hlt hk
      have x1 := N1.out
      rw [halfW_all S I 8 HSL.out HIL.out] at x1
      have X1 := Lib.hid x1; clear x1 N1
      go_upto_region 10 with fail
      go_wp2_with (first
        | (refine wpList_load_row rfl 83 _ rfl g rfl 83 (wcs S) (0, 0) _ X1.out hu.out rfl sS.out ?_)
        | (refine wpList_store_row rfl 83 _ _ rfl b (wcs S) rfl rfl 83 _ N0.out sS.out hoS.out aS.out ?_))
      exact bodyPost_ret (results_cell_tmp rfl _ _ b _ _ _ rfl (N0.out.row _) hu.out rfl sS.out) rfl ⟨rfl, brow N4.out hwb.out _⟩

theorem index8_0 (x0 x1 x2 x3 x4 x5 x6 x7 : UInt64) (w : World) : (Instr.index 83 (.agg (wcs [x0, x1, x2, x3, x4, x5, x6, x7])) (.int .i64 0)).run Try.prog w = .ok (wv x0) w := by kernel_rfl
theorem index8_1 (x0 x1 x2 x3 x4 x5 x6 x7 : UInt64) (w : World) : (Instr.index 83 (.agg (wcs [x0, x1, x2, x3, x4, x5, x6, x7])) (.int .i64 1)).run Try.prog w = .ok (wv x1) w := by kernel_rfl
theorem index8_2 (x0 x1 x2 x3 x4 x5 x6 x7 : UInt64) (w : World) : (Instr.index 83 (.agg (wcs [x0, x1, x2, x3, x4, x5, x6, x7])) (.int .i64 2)).run Try.prog w = .ok (wv x2) w := by kernel_rfl
theorem index8_3 (x0 x1 x2 x3 x4 x5 x6 x7 : UInt64) (w : World) : (Instr.index 83 (.agg (wcs [x0, x1, x2, x3, x4, x5, x6, x7])) (.int .i64 3)).run Try.prog w = .ok (wv x3) w := by kernel_rfl
theorem index8_4 (x0 x1 x2 x3 x4 x5 x6 x7 : UInt64) (w : World) : (Instr.index 83 (.agg (wcs [x0, x1, x2, x3, x4, x5, x6, x7])) (.int .i64 4)).run Try.prog w = .ok (wv x4) w := by kernel_rfl
theorem index8_5 (x0 x1 x2 x3 x4 x5 x6 x7 : UInt64) (w : World) : (Instr.index 83 (.agg (wcs [x0, x1, x2, x3, x4, x5, x6, x7])) (.int .i64 5)).run Try.prog w = .ok (wv x5) w := by kernel_rfl
theorem index8_6 (x0 x1 x2 x3 x4 x5 x6 x7 : UInt64) (w : World) : (Instr.index 83 (.agg (wcs [x0, x1, x2, x3, x4, x5, x6, x7])) (.int .i64 6)).run Try.prog w = .ok (wv x6) w := by kernel_rfl
theorem index8_7 (x0 x1 x2 x3 x4 x5 x6 x7 : UInt64) (w : World) : (Instr.index 83 (.agg (wcs [x0, x1, x2, x3, x4, x5, x6, x7])) (.int .i64 7)).run Try.prog w = .ok (wv x7) w := by kernel_rfl
theorem index8 (L : List UInt64) (hL : L.length = 8) (k : Nat) (v : UInt64) (hv : L[k]? = some v) (w : World) :
    (Instr.index 83 (.agg (wcs L)) (.int .i64 k)).run Try.prog w = .ok (.int .u64 (wrd v)) w := by
  match L, hL with
  | [x0, x1, x2, x3, x4, x5, x6, x7], _ =>
    have hk : k < 8 := by have := (List.getElem?_eq_some_iff.1 hv).1; simpa using this
    have h : k = 0 ∨ k = 1 ∨ k = 2 ∨ k = 3 ∨ k = 4 ∨ k = 5 ∨ k = 6 ∨ k = 7 := by omega
    rcases h with rfl | rfl | rfl | rfl | rfl | rfl | rfl | rfl
    · simp at hv; rw [← hv]; exact index8_0 x0 x1 x2 x3 x4 x5 x6 x7 w
    · simp at hv; rw [← hv]; exact index8_1 x0 x1 x2 x3 x4 x5 x6 x7 w
    · simp at hv; rw [← hv]; exact index8_2 x0 x1 x2 x3 x4 x5 x6 x7 w
    · simp at hv; rw [← hv]; exact index8_3 x0 x1 x2 x3 x4 x5 x6 x7 w
    · simp at hv; rw [← hv]; exact index8_4 x0 x1 x2 x3 x4 x5 x6 x7 w
    · simp at hv; rw [← hv]; exact index8_5 x0 x1 x2 x3 x4 x5 x6 x7 w
    · simp at hv; rw [← hv]; exact index8_6 x0 x1 x2 x3 x4 x5 x6 x7 w
    · simp at hv; rw [← hv]; exact index8_7 x0 x1 x2 x3 x4 x5 x6 x7 w

set_option maxRecDepth 20000 in
set_option maxHeartbeats 2000000 in
theorem bytes_any (S : List UInt64) (w : World) (hS : S.length = 8) :
    Calls Try.prog 55 #[.agg (wcs S)] w fun e w' => ∃ A c, e = .returned (.slice A 64 c) ∧ OS cB w' w.heap.size A c (flat S) ∧ Below w.heap.size w w' := by
  have HS := Lib.hid hS; clear hS
  have hmk : ∀ (W : World), (Instr.makeSlice 24 (.int .i64 0) (.int .i64 64)).run Try.prog W = .ok (.slice (some ⟨W.heap.size, 0, none⟩) 0 64) (W.alloc (.cells (madeCells #[cB.zero] 64) 5)) := fun (W : World) => run_makeS cB_ok .i64 .i64 0 64 (by omega) (by show 1 * 64 ≤ _; omega) (by omega) W
  have hu := Lib.hid Try.underlying83
  have sS := Lib.hid (sz8w S HS.out)
  have n0 := Lib.hid ((Blk.new w 83 (wcs S)).alloc (.cells (madeCells #[cB.zero] 64) 5))
  go_enter Try.func55, Try.ntmps55
  go_wp2_with (refine wpList_load_row rfl 83 _ rfl w.heap.size rfl 83 (wcs S) (0, 0) _ n0.out hu.out rfl sS.out ?_)
  clear hmk n0
  have o0 := OS.madeAt (cd := cB) (base := w.heap.size) (g := w.heap.size + 1) (w.alloc (.cells (wcs S) 83)) 0 64 0 rfl (by omega) (by unfold maxLen; omega) (by simp) (by simp)
  have o4 := bal (bal (b0 w) (.cells (wcs S) 83)) (.cells (madeCells #[cB.zero] 64) 5)
  have O0 := Lib.hid o0; have O4 := Lib.hid o4; clear o0 o4
  go_loopw [3, 8] (fun o i wr => ∃ (k n : Nat) (A : Option Addr) (c : Nat), k ≤ 8 ∧ i = .int .i64 k ∧ n = 8 * k ∧ o = .slice A n c ∧ OS cB wr w.heap.size A c (flat (S.take k)) ∧ Below w.heap.size w wr) (fun _ i _ => 8 - (intOf i).toNat)
  case atStart => exact ⟨0, 0, _, 64, by omega, rfl, rfl, rfl, O0.out, O4.out⟩
  case round =>
    clear O0 O4
    obtain ⟨k, n, A, c, hk, rfl, hn, rfl, hos, hbw⟩ := hrel
    have HO := Lib.hid hos; have HN := Lib.hid hn; clear hos hn
    by_cases hlt : k < 8
    · obtain ⟨v, hv⟩ : ∃ v, S[k]? = some v := ⟨_, List.getElem?_eq_getElem (by rw [HS.out]; exact hlt)⟩
      have hix := index8 S HS.out k v hv
      have HV := Lib.hid hv; clear hv
      have hlen : Hid ((flat (S.take k)).length = n) := by show _ = _; rw [flat_len, List.length_take, HS.out, HN.out]; omega
      have hn8 : n ≤ 64 := by have := HN.out; omega
      have hkd : decide ((k : Int) < 8) = true := by simp; omega
      go_wp2_with (first
        | (go_at_call 42; refine (store64_any v _).mono ?_; rintro e w6 ⟨A6, c6, rfl, ho6, hb6⟩; have HO6 := Lib.hid ho6; clear ho6)
        | (at_builtin; refine wpList_appB _ rfl (.tmp 11) (.tmp 13) rfl (HO.out.below hb6 (Nat.le_refl _)) rfl hlen.out HO6.out.reads rfl (storeN_len _ _) (by omega) (by have := hbw.size; have := hb6.size; omega) ?_; intro A3 c3 w7 hown3 hgrow hat; have hw3 := bapp (bcall hbw hb6) (HO.out.below hb6 (Nat.le_refl _)) hgrow; have HO3 := Lib.hid hown3; clear hown3 hgrow hat))
      go_roundw
      case rel =>
        refine ⟨k + 1, n + 8, A3, c3, by omega, by go_num, by have := HN.out; omega, rfl, ?_, hw3⟩
        rw [List.take_add_one, HV.out]
        show OS cB _ _ _ _ (flat (S.take k ++ [v]))
        rw [flat_snoc]
        exact HO3.out
      case measure => simp [intOf]; omega
    · obtain rfl : k = 8 := by omega
      have hn := HN.out
      subst hn
      have ho := HO.out
      rw [List.take_of_length_le (Nat.le_of_eq HS.out)] at ho
      go_wp2_with fail
      exact bodyPost_ret (results_tmp rfl _ _ _) rfl ⟨A, c, rfl, ho, hbw⟩
end Go.Proofs.Ytboihcigcfmhhaa

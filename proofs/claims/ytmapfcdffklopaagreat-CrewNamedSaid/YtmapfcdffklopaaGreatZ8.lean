/-
  Z8: contracts and lemmas alone; no statement is claimed here.
-/
import Derived.Test.YtmapfcdffklopaaGreatZx
import Derived.Test.YtmapfcdffklopaaGreatZxb
import Derived.Test.YtmapfcdffklopaaGreatZxc
import Derived.Test.YtmapfcdffklopaaGreatZ0
import Derived.Test.YtmapfcdffklopaaGreatZ1
import Derived.Test.YtmapfcdffklopaaGreatZ5
import Derived.Test.YtmapfcdffklopaaGreatZ3
import Derived.Laws.CopyOwn
import Derived.Laws.DeepNot64
set_option maxHeartbeats 4000000
set_option maxRecDepth 20000
namespace Go.Proofs.YtmapfcdffklopaaGreat
open Go.Instr renaming index → cZA
open _root_.UInt8 renaming ofNat → bZZ
open _root_.Bool renaming false_eq_true → bZQ
open Go renaming results_cell_row → aZZ
open _root_.List renaming getElem?_append_right → aZV
open Go.IntKind renaming wrap → aZU
open Go.IntKind renaming bits → aZR
open _root_.List renaming getElem?_eq_getElem → aZP
open _root_.List renaming length_append → aZN
open Go.IntKind renaming signed → aZM
open Go renaming wpList_load_row → aZH
open Go renaming wpList_store_row → aZE
open Go renaming bodyPost_ret → aZB
open Lib renaming hid -> zH
open Go.RowKit
attribute [local go_sem] pureUpon Ords.of
theorem places3_any (w : World) : Calls Tryz.prog 175 #[] w fun e w' => e = .returned (.agg plCells) /\ Below w.heap.size w w' := by exact zS69
def turnTo32 (M : List UInt32) (s : List Nat) : Nat -> List UInt32 -> List UInt32
  | 0, V => V
  | k + 1, V => (pls k).lay (turnTo32 M s k V) (gm32 ((pls k).get 0 (turnTo32 M s k V)) (M.getD (s.getD (2 * k) 0) 0) (M.getD (s.getD (2 * k + 1) 0) 0))
theorem turnTo32_len (M : List UInt32) (s : List Nat) (k : Nat) (V : List UInt32) : (turnTo32 M s k V).length = V.length := by
 induction k with
 | zero => rfl
 | succ k ih => unfold turnTo32; rw [lay_len, ih]
def turn32 (M : List UInt32) (r : Nat) (V : List UInt32) : List UInt32 := turnTo32 M (sigma r) 8 V
theorem turn32_len (M : List UInt32) (r : Nat) (V : List UInt32) : (turn32 M r V).length = V.length := turnTo32_len _ _ _ _
theorem round3_any (gv gm r : Nat) (V M : List UInt32) (w : World) (hne : gm ≠ gv) (hV : V.length = 16) (hM : M.length = 16) (hv : Blk w gv 155 (wc3 V)) (hm : Blk w gm 155 (wc3 M)) :
  Calls Tryz.prog 170 #[.pointer (some ⟨gv, 0, none⟩), .pointer (some ⟨gm, 0, none⟩), .int .i64 r] w fun e w' => e = .returned (.tuple #[]) /\ Blk w' gv 155 (wc3 (turn32 M r V)) /\ w.grownBy w' (some gv) := by exact zS9
def iv32 : List UInt32 := [0x6a09e667, 0xbb67ae85, 0x3c6ef372, 0xa54ff53a, 0x510e527f, 0x9b05688c, 0x1f83d9ab, 0x5be0cd19]
theorem iv3_any (w : World) : Calls Tryz.prog 162 #[] w fun e w' => e = .returned (.agg (wc3 iv32)) /\ Below w.heap.size w w' := by open kA in exact zS58
def lo32 (c : UInt64) : UInt32 := UInt32.ofNat (c.toNat % 4294967296)
def hi32 (c : UInt64) : UInt32 := UInt32.ofNat (c.toNat / 4294967296)
theorem wrap_lo (c : UInt64) : IntKind.u32.wrap (wrd c) = wr3 (lo32 c) := by
 unfold lo32; rw [wr3_ofNat, wrap_u32w]; unfold wrd; omega
theorem wrap_hi (c : UInt64) : IntKind.u32.wrap (wrd c / 4294967296) = wr3 (hi32 c) := by
 have h : c.toNat < 18446744073709551616 := c.toNat_lt;unfold hi32; rw [wr3_ofNat, wrap_u32w]; unfold wrd; omega
def initOf3 (H : List UInt32) (lo hi : UInt32) (last node : Bool) : List UInt32 :=
  let v := ((H ++ iv32).set 12 (0x510e527f ^^^ lo)).set 13 (0x9b05688c ^^^ hi)
  let v := if last then v.set 14 (~~~ 0x1f83d9ab) else v
  if node then v.set 15 (~~~ 0x5be0cd19) else v
theorem wr3_not (x : UInt32) : bits .xor .u32 IntKind.u32.max (wr3 x) = wr3 (~~~x) := by
 show IntKind.u32.wrap ((BitVec.ofInt 32 IntKind.u32.max ^^^ BitVec.ofInt 32 (wr3 x)).toNat : Int) = _
 have h1 : BitVec.ofInt 32 IntKind.u32.max = BitVec.allOnes 32 := by decide
 have hx := wr3_lt x;unfold wr3;rw [h1, BitVec.allOnes_xor, BitVec.toNat_not, ofInt_u32 x.toNat (by omega), UInt32.toNat_not];have : UInt32.size = 4294967296 := rfl;rw [this];simp [aZU, aZR, aZM];omega
theorem sz8s (z : List UInt32) (h : z.length = 8) : (Tryz.prog.info? 154).map (·.size) = some (wc3 z).size := by rw [wc3_size, h]; kernel_rfl
theorem sz16s (z : List UInt32) (h : z.length = 16) : (Tryz.prog.info? 155).map (·.size) = some (wc3 z).size := by rw [wc3_size, h]; kernel_rfl
theorem wpList_copy3 {ops : Array Oper} {rest : List Oper} {o : Oper} {a : Act} {w : World} {Q : Exit -> Act -> World -> Prop} (hgd : o.guard = none) (d s : Operand)
  (ho : o.op = .call { callee := .builtin .copy, args := #[d, s], argTypes := #[242, 242] }) (g off gs n dc sc : Nat) (hd : a.eval d = .slice (some ⟨g, off, none⟩) n dc) (hs : a.eval s = .slice (some ⟨gs, 0, none⟩) n sc)
  (D S : List UInt32) (t ts : TypeId) (hg : Blk w g t (wc3 D)) (hgs : Blk w gs ts (wc3 S)) (hn : S.length = n) (hfit : off + n <= D.length)
  (h : wpList Tryz.prog ops Q rest (a.put o.dst (goInt n)) (w.setRow g (wc3 (D.take off ++ (S ++ D.drop (off + n)))))) : wpList Tryz.prog ops Q (o :: rest) a w := by
 subst hn;have hl : (wc3 S).toList.length = S.length := by simp [wc3]
 refine wpList_copy_own hgd d s 242 242 ho 65 (by kernel_rfl) (by kernel_rfl) g off S.length dc ⟨gs, 0, none⟩ S.length sc hd hs (wc3 D) t hg (wc3 S).toList (by rw [hl]; exact (Nat.min_self _).symm) (fun j v hv => ?_) (by rw [hl, wc3_size]; exact hfit) (fun v hv => ?_) ?_
 ·have e : (⟨gs, 0, none⟩ : Addr).add j = ⟨gs, j, none⟩ := by unfold Addr.add; split <;> simp_all
  rw [e, hgs.cell]; simpa using hv
 ·have := Array.all_eq_true_iff_forall_mem.1 (wc3_all S) v (by simpa using hv); exact this
 ·rw [hl]
  have e : ((wc3 D).toList.take off ++ ((wc3 S).toList ++ (wc3 D).toList.drop (off + S.length))).toArray = wc3 (D.take off ++ (S ++ D.drop (off + S.length))) := by simp [wc3]
  rw [e]; exact h
def z16s : Array Value := #[.int .u32 0, .int .u32 0, .int .u32 0, .int .u32 0, .int .u32 0, .int .u32 0, .int .u32 0, .int .u32 0, .int .u32 0, .int .u32 0, .int .u32 0, .int .u32 0, .int .u32 0, .int .u32 0, .int .u32 0, .int .u32 0]
def zw3 (n : Nat) : List UInt32 := List.replicate n 0
theorem begin3_any (H : List UInt32) (cnt : UInt64) (last node : Bool) (w : World) (hH : H.length = 8) :
  Calls Tryz.prog 169 #[.agg (wc3 H), .int .u64 (wrd cnt), .bool last, .bool node] w fun e w' => e = .returned (.agg (wc3 (initOf3 H (lo32 cnt) (hi32 cnt) last node))) /\ Below w.heap.size w w' := by open kA in exact zS15
def z8s : Array Value := #[.int .u32 0, .int .u32 0, .int .u32 0, .int .u32 0, .int .u32 0, .int .u32 0, .int .u32 0, .int .u32 0]
theorem initOf3_len (H : List UInt32) (lo hi : UInt32) (last node : Bool) (h : H.length = 8) : (initOf3 H lo hi last node).length = 16 := by
 have : (H ++ iv32).length = 16 := by rw [aZN, h]; rfl
 unfold initOf3
 cases last <;> cases node <;> simp [this]
def roundsTo3 (M : List UInt32) : Nat -> List UInt32 -> List UInt32
  | 0, V => V
  | r + 1, V => turn32 M r (roundsTo3 M r V)
theorem roundsTo3_len (M : List UInt32) (r : Nat) (V : List UInt32) : (roundsTo3 M r V).length = V.length := by
 induction r with
 | zero => rfl
 | succ r ih => unfold roundsTo3; rw [turn32_len, ih]
def outOf3 (H V : List UInt32) : List UInt32 := (List.range 8).map fun i => H.getD i 0 ^^^ (V.getD i 0 ^^^ V.getD (i + 8) 0)
theorem outOf3_len (H V : List UInt32) : (outOf3 H V).length = 8 := by simp [outOf3]
theorem outOf3_at (H V : List UInt32) (k : Nat) (hk : k < 8) : (outOf3 H V)[k]? = some (H.getD k 0 ^^^ (V.getD k 0 ^^^ V.getD (k + 8) 0)) := by simp [outOf3, hk]
def comp32 (H M : List UInt32) (cnt : UInt64) (last node : Bool) : List UInt32 := outOf3 H (roundsTo3 M 10 (initOf3 H (lo32 cnt) (hi32 cnt) last node))
theorem comp32_len (H M : List UInt32) (cnt : UInt64) (last node : Bool) : (comp32 H M cnt last node).length = 8 := outOf3_len _ _
def half3 (z x : List UInt32) (k : Nat) : List UInt32 := z.take k ++ x.drop k
theorem half3_put (z x : List UInt32) (k : Nat) (v : UInt32) (hz : z[k]? = some v) (hl : x.length = z.length) : (half3 z x k).set k v = half3 z x (k + 1) := by exact zS78
theorem half3_at (z x : List UInt32) (k : Nat) (hk : k < x.length) (hl : x.length = z.length) : (half3 z x k)[k]? = some (x.getD k 0) := by
 have h1 : (z.take k).length = k := by simp; omega
 unfold half3;rw [aZV (by omega), h1, Nat.sub_self, List.getElem?_drop, Nat.add_zero, List.getD_eq_getElem?_getD, aZP hk]
 rfl
theorem half3_all (z x : List UInt32) (n : Nat) (hz : z.length = n) (hx : x.length = n) : half3 z x n = z := by
 unfold half3; rw [List.take_of_length_le (by omega), List.drop_of_length_le (by omega), List.append_nil]
theorem getD3 (l : List UInt32) (k : Nat) (h : k < l.length) : l[k]? = some (l.getD k 0) := by rw [List.getD_eq_getElem?_getD, aZP h]; rfl
theorem end3_any (H R : List UInt32) (w : World) (hH : H.length = 8) (hR : R.length = 16) :
  Calls Tryz.prog 171 #[.agg (wc3 H), .agg (wc3 R)] w fun e w' => e = .returned (.agg (wc3 (outOf3 H R))) /\ Below w.heap.size w w' := by open kA in exact zS22
theorem comp3_any (H M : List UInt32) (cnt : UInt64) (last node : Bool) (w : World) (hH : H.length = 8) (hM : M.length = 16) :
  Calls Tryz.prog 164 #[.agg (wc3 H), .agg (wc3 M), .int .u64 (wrd cnt), .bool last, .bool node] w fun e w' => e = .returned (.agg (wc3 (comp32 H M cnt last node))) /\ Below w.heap.size w w' := by open kA in exact zS20
def word3 (l : List UInt8) : UInt32 := UInt32.ofNat (le l)
theorem word_3 (l : List UInt8) (h : l.length <= 4) : IntKind.u32.wrap (wrd (word l)) = wr3 (word3 l) := by
 have h1 := le_lt l;have h2 : 256 ^ l.length <= 256 ^ 4 := Nat.pow_le_pow_right (by omega) h;rw [wrd_word l (by omega)];unfold word3;rw [wr3_ofNat, wrap_u32w];omega
theorem load32_any (A : Option Addr) (c N at_ B : Nat) (l : List UInt8) (w : World) (hN : l.length = N) (hm : N <= 9223372036854775807) (hr : RS cB w B A l) (hat : at_ + 4 <= N) :
  Calls Tryz.prog 168 #[.slice A N c, .int .i64 at_] w fun e w' => e = .returned (.tuple #[.int .u32 (wr3 (word3 ((l.drop at_).take 4))), .int .i64 0]) /\ w = w' := by
 have h := load_any A c N at_ 4 B l w hN hm hr hat (by omega);have h3 := word_3 ((l.drop at_).take 4) (by simp; omega);rw [show ((4 : Nat) : Int) = 4 from rfl] at h;generalize word ((l.drop at_).take 4) = v at *;generalize word3 ((l.drop at_).take 4) = u at *;have H := zH h; clear h hr hN;go_enter Tryz.func168, Tryz.ntmps168;go_wp2_with (go_at_call 165; refine H.mono ?_; rintro e w1 ⟨rfl, rfl⟩);exact aZB (results_tmp2 rfl _ _ _) rfl ⟨rfl, rfl⟩
def words3 (b : List UInt8) (n : Nat) : List UInt32 := (List.range n).map fun i => word3 ((b.drop (4 * i)).take 4)
theorem words3_len (b : List UInt8) (n : Nat) : (words3 b n).length = n := by simp [words3]
theorem words3_at (b : List UInt8) (n i : Nat) (h : i < n) : (words3 b n)[i]? = some (word3 ((b.drop (4 * i)).take 4)) := by simp [words3, h]
def xor3W (a b : List UInt32) : List UInt32 := List.zipWith (· ^^^ ·) a b
theorem xor3W_len (a b : List UInt32) (h : b.length = a.length) : (xor3W a b).length = a.length := by simp [xor3W, h]
theorem xor3W_at (x y : List UInt32) (k : Nat) (a b : UInt32) (ha : x[k]? = some a) (hb : y[k]? = some b) : (xor3W x y)[k]? = some (a ^^^ b) := by
 unfold xor3W;rw [List.getElem?_zipWith, ha, hb]
def flat3 (z : List UInt32) : List UInt8 := z.flatMap fun w => storeN w.toNat 4
theorem flat3_len (z : List UInt32) : (flat3 z).length = 4 * z.length := by
 induction z with
 | nil => rfl
 | cons a z ih => simp only [flat3, List.flatMap_cons, aZN, storeN_len, List.length_cons] at ih ⊢; omega
theorem flat3_snoc (z : List UInt32) (a : UInt32) : flat3 (z ++ [a]) = flat3 z ++ storeN a.toNat 4 := by simp [flat3]
theorem right_any (A : Option Addr) (c n : Nat) (w : World) : Calls Tryz.prog 160 #[.slice A n c, .int .i64 n] w fun e w' => e = .returned (.int .i64 0) /\ w = w' := by
 have h1 : ¬ (n : Int) < n := by omega
 go_enter Tryz.func160, Tryz.ntmps160;go_wp2;exact aZB (results_tmp rfl _ _ _) rfl ⟨rfl, rfl⟩
theorem wordsInto_any (g n : Nat) (t : TypeId) (A : Option Addr) (c m : Nat) (Z : List UInt32) (x : List UInt8) (B : Nat) (w : World) (hn : n <= 16) (hZ : Z.length = n) (hx : x.length = m) (hm : m = 4 * n) (hB : B <= g) (hr : RS cB w B A x) (hg : Blk w g t (wc3 Z)) :
  Calls Tryz.prog 161 #[.slice (some ⟨g, 0, none⟩) n n, .slice A m c] w fun e w' => e = .returned (.tuple #[]) /\ Blk w' g t (wc3 (words3 x n)) /\ w.grownBy w' (some g) := by
 obtain ⟨M, hM⟩ : ∃ M, M = words3 x n := ⟨_, rfl⟩;have hMl : M.length = n := by rw [hM, words3_len]
 rw [<- hM];have HX := zH hx; have HR := zH hr; have HZ := zH hZ; have HG := zH hg; have HM := zH hM; have HML := zH hMl; have HMM := zH hm; clear hx hr hZ hg hM hMl hm;go_enter Tryz.func161, Tryz.ntmps161;go_wp2_with fail;go_loopw [7] (fun i wr => ∃ k : Nat, k <= n /\ i = .int .i64 k /\ Blk wr g t (wc3 (half3 M Z k)) /\ RS cB wr B A x /\ w.grownBy wr (some g)) (fun i _ => n - (intOf i).toNat)
 case atStart => exact ⟨0, by omega, rfl, by simpa [half3] using HG.out, HR.out, only_of_below (b0 w) _⟩
 case round =>
  obtain ⟨k, hk, rfl, x0, x1, x4⟩ := hrel;have N0 := zH x0; have N1 := zH x1; have N4 := zH x4; clear x0 x1 x4
  by_cases hlt : k < n
  ·have hl := load32_any A c m (4 * k) B x wr HX.out (by have := HMM.out; omega) N1.out (by have := HMM.out; omega)
   have e8 : ((4 * k : Nat) : Int) = 4 * (k : Int) := by omega
   rw [e8] at hl;obtain ⟨v, hv⟩ : ∃ v, v = word3 ((x.drop (4 * k)).take 4) := ⟨_, rfl⟩;have hmk : M[k]? = some v := by rw [HM.out, words3_at x n k hlt, hv]
   rw [<- hv] at hl;have gc : wr.cell? ⟨g, k, none⟩ = some (.int .u32 (wr3 (Z.getD k 0))) := by rw [N0.cell, wc3_at' _ k _ (half3_at M Z k (by rw [HZ.out]; exact hlt) (by rw [HZ.out, HML.out]))]
   have gf : wr.frozen? ⟨g, k, none⟩ = false := N0.frozen k;generalize Z.getD k 0 = old at gc;have HL := zH hl; have HMK := zH hmk; clear hl hv e8 hmk;have hki : (k : Int) < n := by omega
   have hkd : decide ((k : Int) < n) = true := by simp; omega
   go_wp2_with (go_at_call 168; refine HL.mono ?_; rintro e w1 ⟨rfl, rfl⟩)
   case roundEnd =>
    have h1 := N0.set_ k (wv3 v);rw [wc3_set, half3_put M Z k _ HMK.out (by rw [HZ.out, HML.out])] at h1;exact ⟨⟨k + 1, by omega, by go_num, h1, N1.setCell (p := ⟨g, k, none⟩) hB _, grown_set N4.out (p := ⟨g, k, none⟩) (.inl rfl) _⟩, by simp [intOf]; omega⟩
  ·obtain rfl : k = n := by omega
   have x0 := N0.out;rw [half3_all M Z k HML.out HZ.out] at x0;go_wp2_with fail;go_end0;exact ⟨rfl, x0, N4.out⟩
theorem blockWords3_any (A : Option Addr) (c : Nat) (x : List UInt8) (B : Nat) (w : World) (hx : x.length = 64) (hB : B <= w.heap.size) (hr : RS cB w B A x) :
  Calls Tryz.prog 163 #[.slice A 64 c] w fun e w' => e = .returned (.tuple #[.agg (wc3 (words3 x 16)), .int .i64 0]) /\ Below w.heap.size w w' := by
 have HX := zH hx; have HR := zH (hr.more hB); clear hx hr;have hMl : (words3 x 16).length = 16 := words3_len x 16;have hu := zH Tryz.underlying155;have n0 : Blk ((w.alloc (.cells z16s 155)).alloc (.cells z16s 155)) w.heap.size 155 (wc3 (zw3 16)) := (Blk.new _ _ _).alloc _;have n1 : Blk ((w.alloc (.cells z16s 155)).alloc (.cells z16s 155)) (w.heap.size + 1) 155 (wc3 (zw3 16)) := by
  have h := Blk.new (w.alloc (.cells z16s 155)) 155 z16s;rw [show (w.alloc (.cells z16s 155)).heap.size = w.heap.size + 1 by simp] at h;exact h
 have n4 := bal (bal (b0 w) (.cells z16s 155)) (.cells z16s 155);have n5 := HR.below n4;have hw := wordsInto_any (w.heap.size + 1) 16 155 A c 64 (zw3 16) x w.heap.size _ (by omega) rfl HX.out rfl (by omega) n5 n1;generalize words3 x 16 = M at *;have HML := zH hMl; clear hMl;have sM := zH (sz16s M HML);have aM := zH (wc3_all M);have hoM : Hid ((wc3 (zw3 16)).size = (wc3 M).size) := by show _ = _; rw [wc3_size, wc3_size, HML.out]; rfl
 unfold z16s at n0 n1 n4 n5 hw;have N0 := zH n0; have N4 := zH n4; have HW := zH hw; clear n0 n1 n4 n5 hw;go_enter Tryz.func163, Tryz.ntmps163;go_wp2_with fail;refine (right_any A c 64 _).mono ?_;rintro e w1 ⟨rfl, rfl⟩;go_wp2_with fail;refine HW.mono ?_;rintro e w2 ⟨rfl, hz2, hg2⟩;have N1 := zH hz2;have hb2 := bgr N4.out hg2 (by omega);replace N0 := zH (N0.grown hg2 (by simp));have HB2 := zH hb2; clear hz2 hg2 hb2;go_wp2_with (first
  | (refine aZH rfl 155 _ rfl (w.heap.size + 1) rfl 155 (wc3 M) (0, 0) _ N1 hu.out rfl sM.out ?_)
  | (refine aZE rfl 155 _ _ rfl w.heap.size (wc3 M) rfl rfl 155 _ N0 sM.out hoM.out aM.out ?_))
 exact aZB (results_cell_tmp rfl _ _ w.heap.size _ _ _ rfl (N0.row _) hu.out rfl sM.out) rfl ⟨rfl, brow HB2 (Nat.le_refl _) _⟩
def start32 (l : List UInt8) : List UInt32 := xor3W iv32 (words3 l 8)
theorem start32_len (l : List UInt8) : (start32 l).length = 8 := by unfold start32; rw [xor3W_len _ _ (by rw [words3_len]; rfl)]; rfl
theorem start3_any (A : Option Addr) (c : Nat) (x : List UInt8) (B : Nat) (w : World) (hx : x.length = 32) (hB : B <= w.heap.size) (hr : RS cB w B A x) :
  Calls Tryz.prog 145 #[.slice A 32 c] w fun e w' => e = .returned (.tuple #[.agg (wc3 (start32 x)), .int .i64 0]) /\ Below w.heap.size w w' := by
 have HX := zH hx; have HR := zH (hr.more hB); clear hx hr;obtain ⟨S, hS⟩ : ∃ S, S = start32 x := ⟨_, rfl⟩;have hSl : S.length = 8 := by rw [hS, start32_len]
 have hPl : (words3 x 8).length = 8 := words3_len x 8;have hSk : ∀ k, k < 8 -> S[k]? = some (iv32.getD k 0 ^^^ (words3 x 8).getD k 0) := by
  intro k hk;rw [hS];exact xor3W_at iv32 (words3 x 8) k _ _ (getD3 iv32 k hk) (getD3 _ k (by rw [hPl]; exact hk))
 rw [<- hS];have hiv := iv3_any;have hIl : iv32.length = 8 := rfl;have n0 : Blk ((w.alloc (.cells z8s 154)).alloc (.cells z8s 154)) w.heap.size 154 (wc3 (zw3 8)) := (Blk.new _ _ _).alloc _;have n1 : Blk ((w.alloc (.cells z8s 154)).alloc (.cells z8s 154)) (w.heap.size + 1) 154 (wc3 (zw3 8)) := by
  have h := Blk.new (w.alloc (.cells z8s 154)) 154 z8s;rw [show (w.alloc (.cells z8s 154)).heap.size = w.heap.size + 1 by simp] at h;exact h
 have n4 := bal (bal (b0 w) (.cells z8s 154)) (.cells z8s 154);have n5 := HR.below n4;have hw := wordsInto_any (w.heap.size + 1) 8 154 A c 32 (zw3 8) x w.heap.size _ (by omega) rfl HX.out rfl (by omega) n5 n1;generalize iv32 = I at *;generalize words3 x 8 = P at *;have HSK := zH hSk; have HSL := zH hSl; have HIV := zH hiv; have HIL := zH hIl; have HPL := zH hPl; clear hS hSl hSk hiv hIl hPl;have sI := zH (sz8s I HIL);have hu := zH Tryz.underlying154;have sS := zH (sz8s S HSL);have aS := zH (wc3_all S); have aI := zH (wc3_all I);have hoS : Hid ((wc3 (zw3 8)).size = (wc3 S).size) := by show _ = _; rw [wc3_size, wc3_size, HSL.out]; rfl
 have hoI : Hid ((wc3 (zw3 8)).size = (wc3 I).size) := by show _ = _; rw [wc3_size, wc3_size, HIL.out]; rfl
 unfold z8s at n0 n1 n4 n5 hw;have N0 := zH n0; have N4 := zH n4; have HW := zH hw; clear n0 n1 n4 n5 hw;go_enter Tryz.func145, Tryz.ntmps145;go_wp2_with fail;refine (right_any A c 32 _).mono ?_;rintro e w1 ⟨rfl, rfl⟩;go_wp2_with fail;refine HW.mono ?_;rintro e w2 ⟨rfl, hz2, hg2⟩;have N1 := zH hz2;have hb2 := bgr N4.out hg2 (by omega);replace N0 := zH (N0.grown hg2 (by simp));replace N4 := zH hb2; clear hz2 hg2 hb2 HW;go_wp2_with fail;refine (HIV _).mono ?_;rintro e w3 ⟨rfl, hb3⟩;have q0 := (N0.below hb3 N0.lt).alloc (.cells z8s 154);have q1 := (N1.below hb3 N1.lt).alloc (.cells z8s 154);have q4 := bal (bcall N4 hb3) (.cells z8s 154);have q2 : Blk (w3.alloc (.cells z8s 154)) w3.heap.size 154 (wc3 (zw3 8)) := Blk.new _ _ _;have hs3 : w.heap.size + 1 < w3.heap.size := by have := N1.lt; have := hb3.size; omega
 unfold z8s at q0 q1 q2 q4;have Q2 := zH q2; clear q2 hb3 N0 N1 N4;go_upto_region 7 with (refine aZE rfl 154 _ _ rfl w3.heap.size (wc3 I) rfl rfl 154 _ Q2 sI.out hoI.out aI.out ?_)
 have q2 := Q2.row (wc3 I);replace q0 := q0.rowFar (k := w3.heap.size) (by omega) (wc3 I); replace q1 := q1.rowFar (k := w3.heap.size) (by omega) (wc3 I); replace q4 := brow q4 (g := w3.heap.size) (by omega) (wc3 I);obtain ⟨b, hb⟩ : ∃ b, b = w.heap.size := ⟨_, rfl⟩;obtain ⟨b1, hb1⟩ : ∃ b1, b1 = w.heap.size + 1 := ⟨_, rfl⟩;obtain ⟨g, hg⟩ : ∃ g, g = w3.heap.size := ⟨_, rfl⟩;have hwb : Hid (w.heap.size <= b) := by (show _ <= _; omega)
 have l1 : b < b1 := by omega
 have l2 : b1 < g := by omega
 rw [<- hg] at q0 q1 q2 q4 ⊢;rw [<- hb1] at q1 ⊢;rw [<- hb] at q0 ⊢;clear Q2 hb hb1 hg hs3;generalize (w3.alloc (.cells #[.int .u32 0, .int .u32 0, .int .u32 0, .int .u32 0, .int .u32 0, .int .u32 0, .int .u32 0, .int .u32 0] 154)).setRow g (wc3 I) = w4 at *;have N0 := zH q0; have N1 := zH q1; have N2 := zH q2; have N4 := zH q4; clear q0 q1 q2 q4;go_wp2_with fail;go_loopw [18] (fun i wr => ∃ k : Nat, k <= 8 /\ i = .int .i64 k /\ Blk wr b 154 (wc3 (zw3 8)) /\ Blk wr b1 154 (wc3 P) /\ Blk wr g 154 (wc3 (half3 S I k)) /\ Below w.heap.size w wr) (fun i _ => 8 - (intOf i).toNat)
 case atStart => exact ⟨0, by omega, rfl, N0.out, N1.out, by simpa [half3] using N2.out, N4.out⟩
 case round =>
  clear N0 N1 N2 N4;obtain ⟨k, hk, rfl, x0, x1, x2, x4⟩ := hrel;have N0 := zH x0; have N1 := zH x1; have N2 := zH x2; have N4 := zH x4; clear x0 x1 x2 x4
  by_cases hlt : k < 8
  ·have hsk := HSK k hlt
   obtain ⟨q, hq⟩ : ∃ q, q = I.getD k 0 := ⟨_, rfl⟩;obtain ⟨v, hv⟩ : ∃ v, v = P.getD k 0 := ⟨_, rfl⟩;have gc : wr.cell? ⟨g, k, none⟩ = some (.int .u32 (wr3 q)) := by rw [N2.cell, wc3_at' _ k q (by rw [hq]; exact half3_at S I k (by rw [HIL.out]; exact hlt) (by rw [HIL.out, HSL.out]))]
   have gp : wr.cell? ⟨b1, k, none⟩ = some (.int .u32 (wr3 v)) := by rw [N1.cell, wc3_at' _ k v (by rw [hv]; exact getD3 P k (by rw [HPL.out]; exact hlt))]
   have gf : wr.frozen? ⟨g, k, none⟩ = false := N2.frozen k;rw [<- hq, <- hv] at hsk;have HSV := zH hsk; clear hv hsk hq;have h2 := wr3_xor;have hki : (k : Int) < 8 := by omega
   have hkd : decide ((k : Int) < 8) = true := by simp; omega
   go_wp2;refine wrZ (fun _ => True) (fun _ _ h => h) (Ords.of [(0, 0), (0, 1), (1, 2), (0, 3), (0, 4), (1, 5), (0, 6), (0, 7), (2, 8)] .fin) trivial ?_
   iterate 8 ((first | refine ords_pure rfl (fun K hK => ?_) | refine ords_read rfl (fun K hK => ?_)); go_simp; refine hK _ ?_; clear hK K)
   refine ords_loud rfl (fun n1 => ?_);go_wp2
   first | (refine ⟨trivial, ?_⟩; refine ords_end (fun n2 => ?_)) | (rintro _ ⟨n2, rfl⟩)
   go_wp2_with fail;go_roundw
   case rel =>
    have h1 := ((N2.drewN n1).set_ k (wv3 (q ^^^ v))).drewN n2;rw [wc3_set, half3_put S I k _ HSV.out (by rw [HIL.out, HSL.out])] at h1;exact ⟨k + 1, by omega, by go_num, ((N0.drewN n1).far (p := ⟨g, k, none⟩) (by simp; omega) _).drewN n2, ((N1.drewN n1).far (p := ⟨g, k, none⟩) (by simp; omega) _).drewN n2, h1, bdr (bput (bdr N4.out n1) (p := ⟨g, k, none⟩) (by have := hwb.out; simp; omega) _) n2⟩
   case measure => simp [intOf]; omega
  ·obtain rfl : k = 8 := by omega
   clear hlt hk;have x1 := N2.out;rw [half3_all S I 8 HSL.out HIL.out] at x1;have X1 := zH x1; clear x1 N1 N2;go_upto_region 12 with fail
   go_wp2_with (first
    | (refine aZH rfl 154 _ rfl g rfl 154 (wc3 S) (0, 0) _ X1 hu.out rfl sS.out ?_)
    | (refine aZE rfl 154 _ _ rfl b (wc3 S) rfl rfl 154 _ N0 sS.out hoS.out aS.out ?_))
   exact aZB (results_cell_tmp rfl _ _ b _ _ _ rfl (N0.row _) hu.out rfl sS.out) rfl ⟨rfl, brow N4 hwb.out _⟩
theorem index83_0 (x0 x1 x2 x3 x4 x5 x6 x7 : UInt32) (w : World) : (cZA 154 (.agg (wc3 [x0, x1, x2, x3, x4, x5, x6, x7])) (.int .i64 0)).run Tryz.prog w = .ok (wv3 x0) w := by kernel_rfl
theorem index83_1 (x0 x1 x2 x3 x4 x5 x6 x7 : UInt32) (w : World) : (cZA 154 (.agg (wc3 [x0, x1, x2, x3, x4, x5, x6, x7])) (.int .i64 1)).run Tryz.prog w = .ok (wv3 x1) w := by kernel_rfl
theorem index83_2 (x0 x1 x2 x3 x4 x5 x6 x7 : UInt32) (w : World) : (cZA 154 (.agg (wc3 [x0, x1, x2, x3, x4, x5, x6, x7])) (.int .i64 2)).run Tryz.prog w = .ok (wv3 x2) w := by kernel_rfl
theorem index83_3 (x0 x1 x2 x3 x4 x5 x6 x7 : UInt32) (w : World) : (cZA 154 (.agg (wc3 [x0, x1, x2, x3, x4, x5, x6, x7])) (.int .i64 3)).run Tryz.prog w = .ok (wv3 x3) w := by kernel_rfl
theorem index83_4 (x0 x1 x2 x3 x4 x5 x6 x7 : UInt32) (w : World) : (cZA 154 (.agg (wc3 [x0, x1, x2, x3, x4, x5, x6, x7])) (.int .i64 4)).run Tryz.prog w = .ok (wv3 x4) w := by kernel_rfl
theorem index83_5 (x0 x1 x2 x3 x4 x5 x6 x7 : UInt32) (w : World) : (cZA 154 (.agg (wc3 [x0, x1, x2, x3, x4, x5, x6, x7])) (.int .i64 5)).run Tryz.prog w = .ok (wv3 x5) w := by kernel_rfl
theorem index83_6 (x0 x1 x2 x3 x4 x5 x6 x7 : UInt32) (w : World) : (cZA 154 (.agg (wc3 [x0, x1, x2, x3, x4, x5, x6, x7])) (.int .i64 6)).run Tryz.prog w = .ok (wv3 x6) w := by kernel_rfl
theorem index83_7 (x0 x1 x2 x3 x4 x5 x6 x7 : UInt32) (w : World) : (cZA 154 (.agg (wc3 [x0, x1, x2, x3, x4, x5, x6, x7])) (.int .i64 7)).run Tryz.prog w = .ok (wv3 x7) w := by kernel_rfl
theorem index83 (L : List UInt32) (hL : L.length = 8) (k : Nat) (v : UInt32) (hv : L[k]? = some v) (w : World) :
  (cZA 154 (.agg (wc3 L)) (.int .i64 k)).run Tryz.prog w = .ok (.int .u32 (wr3 v)) w := by
 match L, hL with
 | [x0, x1, x2, x3, x4, x5, x6, x7], _ =>
  have hk : k < 8 := by have := (List.getElem?_eq_some_iff.1 hv).1; simpa using this
  have h : k = 0 \/ k = 1 \/ k = 2 \/ k = 3 \/ k = 4 \/ k = 5 \/ k = 6 \/ k = 7 := by omega
  rcases h with rfl | rfl | rfl | rfl | rfl | rfl | rfl | rfl
  ·simp at hv; rw [<- hv]; exact index83_0 x0 x1 x2 x3 x4 x5 x6 x7 w
  ·simp at hv; rw [<- hv]; exact index83_1 x0 x1 x2 x3 x4 x5 x6 x7 w
  ·simp at hv; rw [<- hv]; exact index83_2 x0 x1 x2 x3 x4 x5 x6 x7 w
  ·simp at hv; rw [<- hv]; exact index83_3 x0 x1 x2 x3 x4 x5 x6 x7 w
  ·simp at hv; rw [<- hv]; exact index83_4 x0 x1 x2 x3 x4 x5 x6 x7 w
  ·simp at hv; rw [<- hv]; exact index83_5 x0 x1 x2 x3 x4 x5 x6 x7 w
  ·simp at hv; rw [<- hv]; exact index83_6 x0 x1 x2 x3 x4 x5 x6 x7 w
  ·simp at hv; rw [<- hv]; exact index83_7 x0 x1 x2 x3 x4 x5 x6 x7 w
theorem RS.fresh (w : World) (a b c d : UInt8) : RS cB (w.alloc (.cells #[.int .u8 (byt a), .int .u8 (byt b), .int .u8 (byt c), .int .u8 (byt d)] 5)) (w.heap.size + 1) (some ⟨w.heap.size, 0, none⟩) [a, b, c, d] := by
 have h := Blk.new w 5 #[.int .u8 (byt a), .int .u8 (byt b), .int .u8 (byt c), .int .u8 (byt d)];refine ⟨by simp, fun _ => ⟨_, rfl, by simp, fun j u hu => ?_⟩⟩;have e : (⟨w.heap.size, 0, none⟩ : Addr).add j = ⟨w.heap.size, j, none⟩ := by unfold Addr.add; split <;> simp_all
 rw [e, h.cell]
 match j, hu with
 | 0, hu => simpa [cB] using hu
 | 1, hu => simpa [cB] using hu
 | 2, hu => simpa [cB] using hu
 | 3, hu => simpa [cB] using hu
 | j + 4, hu => simp at hu
theorem low_byte (v : UInt32) (n : Nat) : IntKind.u8.wrap (wr3 v / ((256 ^ n : Nat) : Int)) = byt (bZZ (v.toNat / 256 ^ n % 256)) := by
 rw [byt_ofNat _ (Nat.mod_lt _ (by omega))];unfold wr3;simp only [aZU, aZR, aZM];simp
theorem bytes3_any (S : List UInt32) (w : World) (hS : S.length = 8) :
  Calls Tryz.prog 147 #[.agg (wc3 S)] w fun e w' => ∃ A c, e = .returned (.slice A 32 c) /\ OS cB w' w.heap.size A c (flat3 S) /\ Below w.heap.size w w' := by
 have HS := zH hS; clear hS;have hmk : ∀ (W : World), (Instr.makeSlice 22 (.int .i64 0) (.int .i64 32)).run Tryz.prog W = .ok (.slice (some ⟨W.heap.size, 0, none⟩) 0 32) (W.alloc (.cells (madeCells #[cB.zero] 32) 5)) := fun (W : World) => run_makeS cB_ok .i64 .i64 0 32 (by omega) (by show 1 * 32 <= _; omega) (by omega) W
 have hu := zH Tryz.underlying154;have sS := zH (sz8s S HS);have n0 := zH ((Blk.new w 154 (wc3 S)).alloc (.cells (madeCells #[cB.zero] 32) 5));go_enter Tryz.func147, Tryz.ntmps147;go_wp2_with (refine aZH rfl 154 _ rfl w.heap.size rfl 154 (wc3 S) (0, 0) _ n0.out hu.out rfl sS.out ?_);clear hmk n0;have o0 := OS.madeAt (cd := cB) (base := w.heap.size) (g := w.heap.size + 1) (w.alloc (.cells (wc3 S) 154)) 0 32 0 rfl (by omega) (by unfold maxLen; omega) (by simp) (by simp);have o4 := bal (bal (b0 w) (.cells (wc3 S) 154)) (.cells (madeCells #[cB.zero] 32) 5);have O0 := zH o0; have O4 := zH o4; clear o0 o4;go_loopw [3, 8] (fun o i wr => ∃ (k n : Nat) (A : Option Addr) (c : Nat), k <= 8 /\ i = .int .i64 k /\ n = 4 * k /\ o = .slice A n c /\ OS cB wr w.heap.size A c (flat3 (S.take k)) /\ Below w.heap.size w wr) (fun _ i _ => 8 - (intOf i).toNat)
 case atStart => exact ⟨0, 0, _, 32, by omega, rfl, rfl, rfl, O0.out, O4.out⟩
 case round =>
  exact zS68
end Go.Proofs.YtmapfcdffklopaaGreat

/-
  Y1: contracts and lemmas alone; no statement is claimed here.
-/
import Derived.Test.YtboihcigcfmhhaaGreatY0
import Derived.Laws.Externs
import Derived.Outline
import Derived.Laws.OwnMore
import Derived.Laws.CopyOwn
set_option maxHeartbeats 1000000
namespace Go.Proofs.YtboihcigcfmhhaaGreat
open _root_.UInt8 renaming ofNat → bZZ
open _root_.List renaming length_map → bZE
open _root_.List renaming eq_nil_of_length_eq_zero → bZA
open _root_.List renaming length_append → aZN
open _root_.List renaming length_take → aZJ
open _root_.Nat renaming le_refl → aZC
open Go renaming bodyPost_ret → aZB
open Lib renaming hid -> zH
open Go.RowKit
def cyOf (x y c : UInt64) : UInt64 := UInt64.ofNat ((x.toNat + y.toNat + c.toNat) / 18446744073709551616)
theorem cyOf_le (x y c : UInt64) (hc : c.toNat <= 1) : (cyOf x y c).toNat <= 1 := by
 have hx := wrd_lt x; have hy := wrd_lt y;unfold cyOf;rw [UInt64.toNat_ofNat', Nat.mod_eq_of_lt (by omega)];omega
theorem add64_run (x y c : UInt64) (hc : c.toNat <= 1) (w : World) :
  (callFunc 155 #[.int .u64 (wrd x), .int .u64 (wrd y), .int .u64 (wrd c)]).run Tryz.prog w = .ok (.value (.tuple #[.int .u64 (wrd (x + y + c)), .int .u64 (wrd (cyOf x y c))])) w := by
 have hx := wrd_lt x; have hy := wrd_lt y;rw [run_callFunc_extern Tryz.func155 (by kernel_rfl) (by kernel_rfl) (by kernel_rfl) (e := add64Entry) (by kernel_rfl), run_add64 _ _ _ (wrd_lo x) (wrd_lo y) (wrd_lo c) (by unfold wrd; omega)];have e1 : (wrd x + wrd y + wrd c) % 18446744073709551616 = wrd (x + y + c) := by
  rw [<- wrd_add, <- wrd_add, wrap_u64, wrap_u64]; omega
 have e2 : (wrd x + wrd y + wrd c) / 18446744073709551616 = wrd (cyOf x y c) := by
  unfold cyOf;rw [wrd_ofNat]; unfold wrd; omega
 rw [e1, e2]
 rfl
def addLo (lo n : UInt64) : UInt64 := lo + n
def addHi (lo hi n : UInt64) : UInt64 := hi + cyOf lo n 0
theorem add_any (lo hi n : UInt64) :
  ∃ b : Bool, ∀ w : World, Calls Tryz.prog 154 #[.agg #[.int .u64 (wrd lo), .int .u64 (wrd hi)], .int .u64 (wrd n)] w fun e w' => e = .returned (.tuple #[.agg #[.int .u64 (wrd (addLo lo n)), .int .u64 (wrd (addHi lo hi n))], .bool b]) /\ Below w.heap.size w w' := by
 have h1 := fun w => add64_run lo n 0 (by decide) w
 have h2 := fun w => add64_run hi 0 (cyOf lo n 0) (cyOf_le lo n 0 (by decide)) w
 have z : wrd 0 = 0 := rfl;simp only [z] at h1 h2;have a1 : lo + n + 0 = addLo lo n := by unfold addLo; simp
 have a2 : hi + 0 + cyOf lo n 0 = addHi lo hi n := by unfold addHi; simp
 simp only [a1] at h1;simp only [a2] at h2;clear z a1 a2;generalize addLo lo n = p at *;generalize addHi lo hi n = q at *;generalize cyOf lo n 0 = cy at *;generalize cyOf hi 0 cy = cz at *;refine ⟨wrd cz == 1, fun w => ?_⟩;have hu := zH Tryz.underlying75;have n0 : Blk ((w.alloc (.cells #[.int .u64 (wrd lo), .int .u64 (wrd hi)] 75)).alloc (.cells #[.int .u64 (wrd p), .int .u64 (wrd q)] 75)) (w.heap.size + 1) 75 #[.int .u64 (wrd p), .int .u64 (wrd q)] := by
  have h := Blk.new (w.alloc (.cells #[.int .u64 (wrd lo), .int .u64 (wrd hi)] 75)) 75 #[.int .u64 (wrd p), .int .u64 (wrd q)];rw [show (w.alloc (.cells #[.int .u64 (wrd lo), .int .u64 (wrd hi)] 75)).heap.size = w.heap.size + 1 by simp] at h;exact h
 have N0 := zH n0; clear n0;go_enter Tryz.func154, Tryz.ntmps154;go_wp2_with fail;exact aZB (results_cell_tmp rfl _ _ (w.heap.size + 1) _ _ _ rfl N0 hu.out rfl (by kernel_rfl)) rfl ⟨rfl, bal (bal (b0 w) _) _⟩
theorem load_any (A : Option Addr) (c N at_ n B : Nat) (l : List UInt8) (w : World) (hN : l.length = N) (hm : N <= 9223372036854775807) (hr : RS cB w B A l) (hat : at_ + n <= N) (hn : n <= 8) :
  Calls Tryz.prog 92 #[.slice A N c, .int .i64 at_, .int .i64 n] w fun e w' => e = .returned (.tuple #[.int .u64 (wrd (word ((l.drop at_).take n))), .int .i64 0]) /\ w = w' := by
 rw [wrd_word _ (by simp; omega)];have HN := zH hN; have HR := zH hr; clear hN hr;have g1 : ¬ (at_ : Int) < 0 := by omega
 have g2 : ¬ (N : Int) < at_ := by omega
 have g3 : ¬ (N : Int) - at_ < n := by omega
 go_enter Tryz.func92, Tryz.ntmps92;go_wp2;go_loop [8, 25] (fun v i => ∃ (k x : Nat), k <= n /\ i = .int .i64 k /\ v = .int .u64 x /\ x = le ((l.drop at_).take k)) (fun _ i => n - (intOf i).toNat)
 case atStart => exact ⟨0, 0, by omega, rfl, rfl, by simp [le]⟩
 case round =>
  obtain ⟨k, x, hk, rfl, rfl, hx⟩ := hrel;have HX := zH hx; clear hx
  by_cases hlt : k < n
  ·obtain ⟨ad, b, rfl, -, eb, gb⟩ := HR.at_ (k := at_ + k) (by rw [HN.out]; omega)
   change w.cell? (ad.add (at_ + k)) = some (.int .u8 (byt b)) at gb;have EB := zH eb; clear eb;have gk : (at_ : Int) + k < N := by omega
   have r1 := byt_range b;obtain ⟨r1, r2⟩ := r1;go_wp2
   case roundEnd =>
    have hx : x < 256 ^ k := by
     have := le_lt ((l.drop at_).take k);rw [<- HX.out] at this;have e : ((l.drop at_).take k).length = k := by simp; have := HN.out; omega
     rwa [e] at this
    refine ⟨⟨k + 1, x + 256 ^ k * b.toNat, by omega, by go_num, by rw [ld_step x k b (by omega) hx], ?_⟩, by simp [intOf]; omega⟩;have e : (l.drop at_).take (k + 1) = (l.drop at_).take k ++ [b] := by
     rw [List.take_add_one, List.getElem?_drop, EB.out]; rfl
    rw [e, le_snoc, <- HX.out];have e2 : ((l.drop at_).take k).length = k := by simp; have := HN.out; omega
    rw [e2]
  ·obtain rfl : k = n := by omega
   go_wp2;exact aZB (results_tmp2 rfl _ _ _) rfl ⟨by rw [HX.out]; rfl, rfl⟩
theorem load64_any (A : Option Addr) (c N at_ B : Nat) (l : List UInt8) (w : World) (hN : l.length = N) (hm : N <= 9223372036854775807) (hr : RS cB w B A l) (hat : at_ + 8 <= N) :
  Calls Tryz.prog 72 #[.slice A N c, .int .i64 at_] w fun e w' => e = .returned (.tuple #[.int .u64 (wrd (word ((l.drop at_).take 8))), .int .i64 0]) /\ w = w' := by
 have h := load_any A c N at_ 8 B l w hN hm hr hat (aZC _);have H := zH h; clear h hr hN;go_enter Tryz.func72, Tryz.ntmps72;go_wp2_with (go_at_call 92; refine H.mono ?_; rintro e w1 ⟨rfl, rfl⟩);exact aZB (results_tmp2 rfl _ _ _) rfl ⟨rfl, rfl⟩
theorem store64_any (x : UInt64) (w : World) :
  Calls Tryz.prog 57 #[.int .u64 (wrd x)] w fun e w' => ∃ A c, e = .returned (.slice A 8 c) /\ OS cB w' w.heap.size A c (storeN x.toNat 8) /\ Below w.heap.size w w' := by
 have hmk : ∀ (W : World), (Instr.makeSlice 24 (.int .i64 8) (.int .i64 8)).run Tryz.prog W = .ok (.slice (some ⟨W.heap.size, 0, none⟩) 8 8) (W.alloc (.cells (madeCells #[cB.zero] 8) 5)) := fun (W : World) => run_makeS cB_ok .i64 .i64 8 8 (aZC _) (by show 1 * 8 <= _; omega) (by omega) W
 obtain ⟨y, hy⟩ : ∃ y : Nat, y = x.toNat := ⟨_, rfl⟩;have hw : wrd x = (y : Int) := by rw [hy]; rfl
 have hy2 : y < 18446744073709551616 := by rw [hy]; exact x.toNat_lt
 rw [hw, <- hy];clear hw hy;go_enter Tryz.func57, Tryz.ntmps57;go_wp2;obtain ⟨b, hb⟩ : ∃ b, b = w.heap.size := ⟨_, rfl⟩;rw [<- hb];have HB := zH hb; clear hb hmk;go_loopw [6] (fun i wr => ∃ k : Nat, k <= 8 /\ i = .int .i64 k /\ OS cB wr b (some ⟨b, 0, none⟩) 8 (storeN y k ++ List.replicate (8 - k) 0) /\ Below b w wr) (fun i _ => 8 - (intOf i).toNat)
 case atStart => exact ⟨0, by omega, rfl, OS.madeAt (cd := cB) w 8 8 0 rfl (aZC _) (by unfold maxLen; omega) (Nat.le_of_eq HB.out) HB.symm, by rw [HB.out]; exact bal (b0 _) _⟩
 case round =>
  obtain ⟨k, hk, rfl, hos, hbw⟩ := hrel;have HO := zH hos; clear hos
  by_cases hlt : k < 8
  ·have hl : (storeN y k ++ List.replicate (8 - k) (0 : UInt8)).length = 8 := by simp [storeN]; omega
   obtain ⟨g, z, e1, -, -, -, gc, gf⟩ := HO.at_ (k := k) (by rw [hl]; exact hlt);injection e1 with e1; injection e1 with e1; subst e1
   clear hl;go_wp2
   case roundEnd =>
    have h1 := HO.set k (bZZ (y / 256 ^ k % 256));rw [storeN_put y k 8 hlt] at h1;rw [storeN_byte];exact ⟨⟨k + 1, by omega, by go_num, h1, below_put hbw (aZC _)⟩, by simp [intOf]; omega⟩
  ·obtain rfl : k = 8 := by omega
   go_wp2;have h1 := HO.out;rw [Nat.sub_self, List.replicate_zero, List.append_nil] at h1;have hB := HB.out;subst hB;exact aZB (results_tmp rfl _ _ _) rfl ⟨_, 8, rfl, h1, hbw⟩
def wordsOf (b : List UInt8) (n : Nat) : List UInt64 := (List.range n).map fun i => word ((b.drop (8 * i)).take 8)
theorem wordsOf_len (b : List UInt8) (n : Nat) : (wordsOf b n).length = n := by simp [wordsOf]
theorem wordsOf_at (b : List UInt8) (n i : Nat) (h : i < n) : (wordsOf b n)[i]? = some (word ((b.drop (8 * i)).take 8)) := by simp [wordsOf, h]
def xorW (a b : List UInt64) : List UInt64 := List.zipWith (· ^^^ ·) a b
theorem xorW_len (a b : List UInt64) (h : b.length = a.length) : (xorW a b).length = a.length := by simp [xorW, h]
theorem xorW_at (x y : List UInt64) (k : Nat) (a b : UInt64) (ha : x[k]? = some a) (hb : y[k]? = some b) : (xorW x y)[k]? = some (a ^^^ b) := by
 unfold xorW;rw [List.getElem?_zipWith, ha, hb]
def flat (z : List UInt64) : List UInt8 := z.flatMap fun w => storeN w.toNat 8
theorem flat_len (z : List UInt64) : (flat z).length = 8 * z.length := by
 induction z with
 | nil => rfl
 | cons a z ih => simp only [flat, List.flatMap_cons, aZN, storeN_len, List.length_cons] at ih ⊢; omega
theorem flat_snoc (z : List UInt64) (a : UInt64) : flat (z ++ [a]) = flat z ++ storeN a.toNat 8 := by simp [flat]
def putL (l : List UInt8) (at_ y : Nat) : Nat -> List UInt8
  | 0 => l
  | k + 1 => (putL l at_ y k).set (at_ + k) (bZZ (y / 256 ^ k % 256))
theorem putL_len (l : List UInt8) (at_ y k : Nat) : (putL l at_ y k).length = l.length := by
 induction k with
 | zero => rfl
 | succ k ih => show ((putL l at_ y k).set _ _).length = _; rw [List.length_set, ih]
theorem put_any (g base c n at_ size : Nat) (l : List UInt8) (x : UInt64) (w : World) (ho : OS cB w base (some ⟨g, 0, none⟩) c l) (hl : l.length = n) (hn : n <= 1024) (hat : at_ + size <= n) (hs8 : size <= 8) :
  Calls Tryz.prog 51 #[.slice (some ⟨g, 0, none⟩) n c, .int .i64 at_, .int .i64 size, .int .u64 (wrd x)] w fun e w' => e = .returned (.tuple #[]) /\ OS cB w' base (some ⟨g, 0, none⟩) c (putL l at_ x.toNat size) /\ w.grownBy w' (some g) := by
 obtain ⟨y, hy⟩ : ∃ y : Nat, y = x.toNat := ⟨_, rfl⟩;have hw : wrd x = (y : Int) := by rw [hy]; rfl
 have hy2 : y < 18446744073709551616 := by rw [hy]; exact x.toNat_lt
 rw [hw, <- hy];clear hw hy;have HO0 := zH ho; have HL := zH hl; clear ho hl;go_enter Tryz.func51, Tryz.ntmps51;go_wp2_with fail;go_loopw [8, 10] (fun _ i wr => ∃ k : Nat, k <= size /\ i = .int .i64 k /\ OS cB wr base (some ⟨g, 0, none⟩) c (putL l at_ y k) /\ w.grownBy wr (some g)) (fun _ i _ => size - (intOf i).toNat)
 case atStart => exact ⟨0, Nat.zero_le _, rfl, HO0.out, World.grownBy.refl w _⟩
 case round =>
  obtain ⟨k, hk, rfl, hos, hgr⟩ := hrel;have HO := zH hos; have HG := zH hgr; clear hos hgr
  by_cases hlt : k < size
  ·obtain ⟨g', z, e1, -, -, -, gc, gf⟩ := HO.at_ (k := at_ + k) (by rw [putL_len, HL.out]; omega)
   injection e1 with e1; injection e1 with e1; subst e1
   have hkd : decide ((k : Int) < size) = true := by simp; omega
   obtain ⟨j, hj⟩ : ∃ j, j = at_ + k := ⟨_, rfl⟩;have hji : (at_ : Int) + (k : Int) = (j : Int) := by omega
   have hjw : IntKind.i64.wrap (j : Int) = j := by simp [IntKind.wrap, IntKind.bits, IntKind.signed]; omega
   have hjn : j < n := by omega
   rw [<- hj] at gc gf;have HJ := zH hj; clear hj;go_wp2
   case roundEnd =>
    have h1 := HO.set j (bZZ (y / 256 ^ k % 256));rw [storeN_byte];have h2 : putL l at_ y (k + 1) = (putL l at_ y k).set j (bZZ (y / 256 ^ k % 256)) := by rw [HJ.out]; rfl
    exact ⟨⟨k + 1, by omega, by go_num, by rw [h2]; exact h1, grown_setCells [_] j HG.out⟩, by simp [intOf]; omega⟩
  ·obtain rfl : k = size := by omega
   go_wp2;go_end0;exact ⟨rfl, HO.out, HG.out⟩
theorem run_noughts (w : World) {base g c n m : Nat} {l : List UInt8} (hown : OS cB w base (some ⟨g, 0, none⟩) c l) (hn : l.length = n) (hroom : n + m <= c) (hm : m <= 140737488355328) (ty : TypeId) :
  ∃ w', (Builtin.append_ #[24, 3] ty #[.slice (some ⟨g, 0, none⟩) n c, .int .i64 m]).run Tryz.prog w = .ok (.slice (some ⟨g, 0, none⟩) (n + m) c) w' /\ OS cB w' base (some ⟨g, 0, none⟩) c (l ++ List.replicate m 0) /\ w.grownBy w' (some g) := by
 subst hn;obtain ⟨i, hi, hz, hz1, hz2⟩ := info_parts cB_ok.info;change Tryz.prog.info? 5 = some i at hi;change i.zero = some (.int .u8 0) at hz;change i.bytes = 1 at hz2;have hul : Tryz.prog.underlying 24 = some (.slice 5) := cB_ok.under;have hui : Tryz.prog.underlying 3 = some (.int .i64) := by kernel_rfl
 obtain ⟨h1, h2⟩ := hown;rcases h2 with ⟨h, _⟩ | ⟨g', cap', cur, h, hbg, hg, hnc, hcm, hcs, htake⟩
 ·cases h
 ·injection h with ha _ hc
  injection ha with ha; injection ha with ha
  subst ha; subst hc;have hst := run_storeCells_at Tryz.prog g l.length cB.e (List.replicate m (Value.int .u8 0)) 0 cur w hg (by rw [List.length_replicate]; rw [hcs]; omega) (fun v hv => by rw [(List.mem_replicate.1 hv).2]; rfl);have hw : IntKind.i64.wrap (m : Int) = m := by simp [IntKind.wrap, IntKind.bits, IntKind.signed]; omega
  have hw0 : IntKind.i64.wrap 0 = 0 := by decide
  have has : ∀ k : Int, (asIntOf (Value.int .i64 k)).run Tryz.prog w = .ok (.i64, k) w := fun _ => rfl
  have hcl : (Value.int .u8 0).cells = #[Value.int .u8 0] := rfl;have hbig2 : ¬ (281474976710656 : Int) < m := by omega
  have hadd1 : (⟨g, 0, none⟩ : Addr).add l.length = ⟨g, l.length, none⟩ := by unfold Addr.add; split <;> simp_all
  have hneg : ¬ (m : Int) < 0 := by omega
  have hbig : ¬ (m : Int) * 1 > 281474976710656 := by omega
  have hzc : (Builtin.zeroCells #[Value.int .u8 0] m).toList = List.replicate m (Value.int .u8 0) := by
   apply List.ext_getElem
   ·simp [Builtin.zeroCells]
   ·intro j h1 h2
    simp [Builtin.zeroCells, Nat.mod_one]
  have hadd : (⟨g, 0, none⟩ : Addr).add (l.length * 1) = ⟨g, l.length, none⟩ := by unfold Addr.add; split <;> simp_all
  refine ⟨w.setRow g (cur.toList.take l.length ++ List.replicate m (Value.int .u8 0) ++ cur.toList.drop (l.length + m)).toArray, ?_, ⟨by simp, .inr ⟨g, c, _, by simp, hbg, setRow_heap w g cur _ cB.e _ hg, by simpa using hroom, hcm, ?_, ?_⟩⟩, ⟨rfl, rfl, rfl, by simp [World.setRow], fun k _ hk => setRow_other w g k _ (fun e => hk (by rw [e]))⟩⟩
  ·rw [Nat.add_zero, List.length_replicate] at hst
   by_cases h0 : m = 0
   ·subst h0
    simp only [List.replicate_zero, List.append_nil, Nat.add_zero, List.take_append_drop, Array.toArray_toList] at hst ⊢;rw [setRow_self w g cur cB.e (0, 0) hg];simp [Builtin.append_, run_underlying hul, run_underlying hui, sizeOf, typeInfo, zeroValue, hi, hz, hz1, hz2, asInt, has, hw0, hnc, storeCells]
   ·simp [Builtin.append_, run_underlying hul, run_underlying hui, sizeOf, typeInfo, zeroValue, hi, hz, hz1, hz2, asInt, has, hw, hneg, hbig2, hroom, h0, hadd1, hcl, hzc]
    rw [hst];simp
  ·simp only [List.size_toArray, aZN, aZJ, List.length_drop, List.length_replicate, Array.length_toList]
   omega
  ·have hl0 : cur.toList.length = c := by have : cur.toList.length = cur.size := Array.length_toList; omega
   have hl : (cur.toList.take l.length).length = l.length := by rw [aZJ, hl0]; omega
   rw [List.map_append, aZN, List.length_replicate, List.map_replicate, List.take_append_of_le_length (by rw [aZN, hl, List.length_replicate]; omega), List.take_of_length_le (by rw [aZN, hl, List.length_replicate]; omega)];rw [Nat.mul_one] at htake;rw [htake]
   rfl
theorem wpList_noughts {w : World} {ops : Array Oper} {rest : List Oper} {o : Oper} {a : Act} {Q : Exit -> Act -> World -> Prop} (hgd : o.guard = none) (s x : Operand)
  (ho : o.op = .call { callee := .builtin .append, args := #[s, x], argTypes := #[24, 3] }) {base g c n m : Nat} {l : List UInt8} (hown : OS cB w base (some ⟨g, 0, none⟩) c l) (hs : a.eval s = .slice (some ⟨g, 0, none⟩) n c) (hx : a.eval x = .int .i64 m)
  (hn : l.length = n) (hroom : n + m <= c) (hm : m <= 140737488355328)
  (h : ∀ w1, OS cB w1 base (some ⟨g, 0, none⟩) c (l ++ List.replicate m 0) -> w.grownBy w1 (some g) -> wpList Tryz.prog ops Q rest (a.put o.dst (.slice (some ⟨g, 0, none⟩) (n + m) c)) w1) : wpList Tryz.prog ops Q (o :: rest) a w :=
 wpList_plain hgd fun _ hK => by
  obtain ⟨w1, hrun, h2, h3⟩ := run_noughts w hown hn hroom hm o.type;unfold Oper.wp execOp;simp only [ho, resolve, invoke, builtin, Sem.run_bind, Sem.run_pure, Result.andThen_ok, List.map_toArray, List.map_cons, List.map_nil, hs, hx];rw [hrun];exact hK _ _ (h w1 h2 h3)
theorem run_fits (w : World) {base g c n m B : Nat} {A' : Option Addr} {c' : Nat} {l k : List UInt8} (hown : OS cB w base (some ⟨g, 0, none⟩) c l) (hn : l.length = n) (hr : RS cB w B A' k) (hk : k.length = m) (hroom : n + m <= c) (ty : TypeId) :
  ∃ w', (Builtin.append_ #[24, 24] ty #[.slice (some ⟨g, 0, none⟩) n c, .slice A' m c']).run Tryz.prog w = .ok (.slice (some ⟨g, 0, none⟩) (n + m) c) w' /\ OS cB w' base (some ⟨g, 0, none⟩) c (l ++ k) /\ w.grownBy w' (some g) := by
 subst hn; subst hk;obtain ⟨i, hi, hz, hz1, hz2⟩ := info_parts cB_ok.info
 cases A' with
 | none =>
  have hk0 : k = [] := by
   rcases Nat.eq_zero_or_pos k.length with h0 | h0
   ·exact bZA h0
   ·obtain ⟨ad, h, _⟩ := hr.2 h0; cases h
  subst hk0;have h := run_append_of_nil (P := Tryz.prog) w base 24 ty 5 i 1 cB_ok.under hi _ _ _ hown c';exact ⟨w, by simpa using h, by simpa using hown, World.grownBy.refl w _⟩
 | some ad =>
  have hc : ∀ j u, (k.map cB.enc)[j]? = some u -> w.cell? (ad.add j) = some u := by
   intro j u hu;rcases Nat.eq_zero_or_pos k.length with h0 | h0
   ·rw [bZA h0] at hu; simp at hu
   ·obtain ⟨ad', h, _, hc⟩ := hr.2 h0
    cases h; exact hc j u hu
  obtain ⟨w', h1, h2, h3⟩ := run_append_fits (P := Tryz.prog) w base 24 ty 5 i 1 cB_ok.under hi hz1 g l.length c (l.map cB.enc) hown ad k.length c' (k.map cB.enc) (by simp) hc (fun u hu => by simp only [List.mem_map] at hu; obtain ⟨x, _, rfl⟩ := hu; exact cB_ok.one x) hroom;refine ⟨w', h1, ?_, h3⟩;unfold OS;rw [aZN, List.map_append];exact h2
theorem wpList_fits {w : World} {ops : Array Oper} {rest : List Oper} {o : Oper} {a : Act} {Q : Exit -> Act -> World -> Prop} (hgd : o.guard = none) (s x : Operand)
  (ho : o.op = .call { callee := .builtin .append, args := #[s, x], argTypes := #[24, 24] }) {base g c n m B : Nat} {A' : Option Addr} {c' : Nat} {l k : List UInt8} (hown : OS cB w base (some ⟨g, 0, none⟩) c l) (hs : a.eval s = .slice (some ⟨g, 0, none⟩) n c) (hn : l.length = n)
  (hr : RS cB w B A' k) (hx : a.eval x = .slice A' m c') (hk : k.length = m) (hroom : n + m <= c)
  (h : ∀ w1, OS cB w1 base (some ⟨g, 0, none⟩) c (l ++ k) -> w.grownBy w1 (some g) -> wpList Tryz.prog ops Q rest (a.put o.dst (.slice (some ⟨g, 0, none⟩) (n + m) c)) w1) : wpList Tryz.prog ops Q (o :: rest) a w :=
 wpList_plain hgd fun _ hK => by
  obtain ⟨w1, hrun, h2, h3⟩ := run_fits w hown hn hr hk hroom o.type (c' := c');unfold Oper.wp execOp;simp only [ho, resolve, invoke, builtin, Sem.run_bind, Sem.run_pure, Result.andThen_ok, List.map_toArray, List.map_cons, List.map_nil, hs, hx];rw [hrun];exact hK _ _ (h w1 h2 h3)
def padTo (l : List UInt8) (n : Nat) : List UInt8 := l ++ List.replicate (n - l.length) 0
theorem padTo_len (l : List UInt8) (n : Nat) (h : l.length <= n) : (padTo l n).length = n := by unfold padTo; rw [aZN, List.length_replicate]; omega
set_option maxRecDepth 20000 in
theorem padded_any (A : Option Addr) (c n N : Nat) (l : List UInt8) (w : World) (hl : l.length = N) (hN : N <= n) (hn : n <= 1024) (hr : RS cB w w.heap.size A l) :
  Calls Tryz.prog 56 #[.slice A N c, .int .i64 n] w fun e w' => ∃ A' c', e = .returned (.slice A' n c') /\ OS cB w' w.heap.size A' c' (padTo l n) /\ Below w.heap.size w w' := by
 have HL := zH hl; have HR := zH hr; clear hl hr;have hmk : ∀ (W : World), (Instr.makeSlice 24 (.int .i64 0) (.int .i64 n)).run Tryz.prog W = .ok (.slice (some ⟨W.heap.size, 0, none⟩) 0 n) (W.alloc (.cells (madeCells #[cB.zero] n) 5)) := fun (W : World) => run_makeS cB_ok .i64 .i64 0 n (by omega) (by show 1 * n <= _; omega) (by omega) W
 have ho : OS cB (w.alloc (.cells (madeCells #[cB.zero] n) 5)) w.heap.size (some ⟨w.heap.size, 0, none⟩) n [] := OS.madeAt (cd := cB) (base := w.heap.size) w 0 n 0 rfl (by omega) (by unfold maxLen; omega) (aZC _) rfl;have hb := bal (b0 w) (.cells (madeCells #[cB.zero] n) 5);have HO := zH ho; clear ho;obtain ⟨d, hd⟩ : ∃ d, d = n - N := ⟨_, rfl⟩;have e1 : (n : Int) - N = (d : Int) := by omega
 have hd2 : N + d = n := by omega
 have HD := zH hd; have HD2 := zH hd2; have hdn : d <= 1024 := by omega
 have hdi : IntKind.i64.wrap (d : Int) = d := by simp [IntKind.wrap, IntKind.bits, IntKind.signed]; omega
 clear hd hd2;go_enter Tryz.func56, Tryz.ntmps56;go_wp2_with (first
  | (at_builtin; refine wpList_fits rfl (.tmp 6) (.tmp 7) rfl HO.out rfl rfl (HR.alloc (aZC _) _) rfl HL.out (by omega) ?_; intro w1 ho1 hg1; rw [Nat.zero_add]; have HO1 := zH ho1; have HG1 := zH hg1; clear ho1 hg1)
  | (at_builtin; refine wpList_noughts rfl (.tmp 8) (.tmp 12) rfl HO1.out rfl rfl HL.out (by have := HD2.out; omega) (by omega) ?_; intro w2 ho2 hg2; rw [HD2.out]; have HO2 := zH ho2; have HG2 := zH hg2; clear ho2 hg2))
 have h2 := HO2.out;rw [List.nil_append] at h2;refine aZB (results_tmp rfl _ _ _) rfl ⟨_, _, rfl, ?_, bgr (bgr hb HG1 (aZC _)) HG2 (aZC _)⟩;unfold padTo;rw [HL.out, <- HD.out];exact h2
def over (l : List UInt8) (k : Nat) (m : List UInt8) : List UInt8 := l.take k ++ (m ++ l.drop (k + m.length))
theorem over_len (l : List UInt8) (k : Nat) (m : List UInt8) (h : k + m.length <= l.length) : (over l k m).length = l.length := by simp [over]; omega
theorem over_nil (l : List UInt8) (k : Nat) : over l k [] = l := by simp [over]
theorem over_take {α : Type} (L x : List α) (k n : Nat) (hk : k + x.length <= n) (hn : n <= L.length) : (L.take k ++ (x ++ L.drop (k + x.length))).take n = (L.take n).take k ++ (x ++ (L.take n).drop (k + x.length)) := by
 have h1 : (L.take k).length = k := by rw [aZJ]; omega
 rw [List.take_append, List.take_append, h1, List.take_take, Nat.min_eq_right (by omega), List.take_take, Nat.min_eq_left (by omega), List.take_of_length_le (l := x) (by omega), List.drop_take]
 congr 3
 omega
theorem OS.laid {w : World} {base g c k : Nat} {l m : List UInt8} (h : OS cB w base (some ⟨g, 0, none⟩) c l) (hk : k + m.length <= l.length) :
  ∃ cur : Array Value, w.heap[g]? = some (.cells cur cB.e (0, 0)) /\ k + m.length <= cur.size /\ OS cB (w.setRow g (cur.toList.take k ++ (m.map cB.enc ++ cur.toList.drop (k + m.length))).toArray) base (some ⟨g, 0, none⟩) c (over l k m) := by
 obtain ⟨h1, h2⟩ := h;rcases h2 with ⟨hv, _⟩ | ⟨g', cap, cur, hv, hb, hg, hle, hm, hs, ht⟩
 ·cases hv
 ·injection hv with hv _ hc
  injection hv with hv
  injection hv with hv
  subst hv; subst hc;have hsz : cur.size = c := by simpa using hs
  have hl : (over l k m).length = l.length := over_len l k m hk;refine ⟨cur, hg, by omega, by simp, .inr ⟨g, c, _, by rw [hl], hb, setRow_heap w g _ _ _ _ hg, by rw [hl]; exact hle, hm, ?_, ?_⟩⟩
  ·simp; omega
  ·rw [Nat.mul_one] at ht
   rw [hl, Nat.mul_one];have hcl : cur.toList.length = c := by simpa using hsz
   have e := over_take cur.toList (m.map cB.enc) k l.length (by rw [bZE]; exact hk) (by omega);rw [bZE] at e;rw [List.toList_toArray, e, ht];simp only [over, List.map_append, List.map_take, List.map_drop]
theorem wpList_copyB {w : World} {ops : Array Oper} {rest : List Oper} {o : Oper} {a : Act} {Q : Exit -> Act -> World -> Prop} (hgd : o.guard = none) (d s : Operand)
  (ho : o.op = .call { callee := .builtin .copy, args := #[d, s], argTypes := #[24, 24] }) {base g k n dc c sn sc B : Nat} {sA : Option Addr} {l m : List UInt8} (hd : a.eval d = .slice (some ⟨g, k, none⟩) n dc) (hs : a.eval s = .slice sA sn sc)
  (hown : OS cB w base (some ⟨g, 0, none⟩) c l) (hr : RS cB w B sA m) (hm : m.length = sn) (hn : sn <= n) (hfit : k + sn <= l.length)
  (h : ∀ w', OS cB w' base (some ⟨g, 0, none⟩) c (over l k m) -> w.grownBy w' (some g) -> wpList Tryz.prog ops Q rest (a.put o.dst (goInt sn)) w') : wpList Tryz.prog ops Q (o :: rest) a w := by
 subst hm
 by_cases h0 : m.length = 0
 ·obtain rfl : m = [] := bZA h0
  refine wpList_copy_nothing hgd d s 24 24 ho 5 (by kernel_rfl) (by kernel_rfl) _ _ _ _ _ _ hd hs (by simp) ?_;exact h w (by rw [over_nil]; exact hown) (World.grownBy.refl w _)
 ·obtain ⟨cur, hg, hsz, ho2⟩ := OS.laid hown (k := k) (m := m) hfit
  obtain ⟨ad, rfl, hlt, hc⟩ := hr.2 (by omega);have e : (m.map cB.enc).length = m.length := bZE _;refine wpList_copy_own hgd d s 24 24 ho 5 (by kernel_rfl) (by kernel_rfl) g k n dc ad m.length sc hd hs cur cB.e hg (m.map cB.enc) (by rw [e]; exact (Nat.min_eq_left hn).symm) hc (by rw [e]; exact hsz) (fun v hv => ?_) ?_
  ·simp only [List.mem_map] at hv; obtain ⟨x, _, rfl⟩ := hv; rfl
  ·rw [e]
   exact h _ ho2 ⟨rfl, rfl, rfl, by simp [World.setRow], fun j _ hj => setRow_other w g j _ (fun e => hj (by rw [e]))⟩
end Go.Proofs.YtboihcigcfmhhaaGreat

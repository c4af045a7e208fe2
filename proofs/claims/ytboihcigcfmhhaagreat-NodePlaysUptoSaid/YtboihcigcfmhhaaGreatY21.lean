/-
  Y21: contracts and lemmas alone; no statement is claimed here.
-/
import Derived.Test.YtboihcigcfmhhaaGreatY6
import Derived.Test.YtboihcigcfmhhaaGreatY13
import Derived.Test.YtboihcigcfmhhaaGreatY14
set_option maxRecDepth 100000
namespace Go.Proofs.YtboihcigcfmhhaaGreat
open Go.ChangeShapes Go.WideShapes Go.ChangeAt Go.RowKit
theorem eleven {L : List Value} {a b c d e f g h i j k : Value} (hl : L.length = 11) (h0 : L[0]? = some a) (h1 : L[1]? = some b) (h2 : L[2]? = some c) (h3 : L[3]? = some d) (h4 : L[4]? = some e) (h5 : L[5]? = some f) (h6 : L[6]? = some g) (h7 : L[7]? = some h) (h8 : L[8]? = some i) (h9 : L[9]? = some j) (h10 : L[10]? = some k) :
  L = [a, b, c, d, e, f, g, h, i, j, k] := by
 match L, hl with
 | [_, _, _, _, _, _, _, _, _, _, _], _ =>
  simp only [List.getElem?_cons_zero, List.getElem?_cons_succ, Option.some.injEq] at h0 h1 h2 h3 h4 h5 h6 h7 h8 h9 h10;subst h0 h1 h2 h3 h4 h5 h6 h7 h8 h9 h10
  rfl
structure PrIn (W : World) (p : Pr) (ls lp : List UInt8) : Prop where
  fit : p.Fit
  hls : ls.length = p.salt.n
  hlp : lp.length = p.pers.n
  rs : RS cB W W.heap.size p.salt.A ls
  rp : RS cB W W.heap.size p.pers.A lp
  cs : p.salt.n <= p.salt.c /\ p.salt.c <= 140737488351232
  cp : p.pers.n <= p.pers.c /\ p.pers.c <= 140737488351232
theorem got_params {H : Type} {enc : TypeId × Value -> H} {W : World} {L : List Value} (h : Got enc W 26 L) : ∃ (p : Pr) (ls lp : List UInt8), L = p.cs.toList /\ PrIn W p ls lp := by
  obtain ⟨hl, hf⟩ := got_struct Tryz.underlying26 h;have hl : L.length = 11 := hl.trans (by kernel_rfl);have ci : Tryz.prog.cellsOf 3 = 1 := by kernel_rfl
  have c32 : Tryz.prog.cellsOf 22 = 1 := by kernel_rfl
  have c64 : Tryz.prog.cellsOf 23 = 1 := by kernel_rfl
  have cb : Tryz.prog.cellsOf 24 = 1 := by kernel_rfl
  have g0 : Got enc W 3 ((L.drop 0).take (Tryz.prog.cellsOf 3)) := hf 0 _ rfl;rw [ci] at g0;obtain ⟨n0, e0, w0⟩ := got_int Tryz.underlying3 g0;have g1 : Got enc W 3 ((L.drop 1).take (Tryz.prog.cellsOf 3)) := hf 1 _ rfl;rw [ci] at g1;obtain ⟨n1, e1, w1⟩ := got_int Tryz.underlying3 g1;have g2 : Got enc W 3 ((L.drop 2).take (Tryz.prog.cellsOf 3)) := hf 2 _ rfl;rw [ci] at g2;obtain ⟨n2, e2, w2⟩ := got_int Tryz.underlying3 g2;have g3 : Got enc W 3 ((L.drop 3).take (Tryz.prog.cellsOf 3)) := hf 3 _ rfl;rw [ci] at g3;obtain ⟨n3, e3, w3⟩ := got_int Tryz.underlying3 g3;have g4 : Got enc W 22 ((L.drop 4).take (Tryz.prog.cellsOf 22)) := hf 4 _ rfl;rw [c32] at g4;obtain ⟨n4, e4, w4⟩ := got_int Tryz.underlying22 g4;have g5 : Got enc W 23 ((L.drop 5).take (Tryz.prog.cellsOf 23)) := hf 5 _ rfl;rw [c64] at g5;obtain ⟨n5, e5, w5⟩ := got_int Tryz.underlying23 g5;have g6 : Got enc W 22 ((L.drop 6).take (Tryz.prog.cellsOf 22)) := hf 6 _ rfl;rw [c32] at g6;obtain ⟨n6, e6, w6⟩ := got_int Tryz.underlying22 g6;have g7 : Got enc W 3 ((L.drop 7).take (Tryz.prog.cellsOf 3)) := hf 7 _ rfl;rw [ci] at g7;obtain ⟨n7, e7, w7⟩ := got_int Tryz.underlying3 g7;have g8 : Got enc W 3 ((L.drop 8).take (Tryz.prog.cellsOf 3)) := hf 8 _ rfl;rw [ci] at g8;obtain ⟨n8, e8, w8⟩ := got_int Tryz.underlying3 g8;have g9 : Got enc W 24 ((L.drop 9).take (Tryz.prog.cellsOf 24)) := hf 9 _ rfl;rw [cb] at g9;obtain ⟨As, ns, cs, ls, e9, hls, hns, hcs, hrs⟩ := got_bytes g9;have g10 : Got enc W 24 ((L.drop 10).take (Tryz.prog.cellsOf 24)) := hf 10 _ rfl;rw [cb] at g10;obtain ⟨Ap, np, cp, lp, e10, hlp, hnp, hcp, hrp⟩ := got_bytes g10;have q4 : 0 <= n4 /\ n4 < 4294967296 := by have : 0 <= n4 /\ n4 <= 4294967295 := (by simpa [Lit.wf, IntKind.min, IntKind.max, IntKind.signed, IntKind.bits] using w4); omega
  have q5 : 0 <= n5 /\ n5 < 18446744073709551616 := by have : 0 <= n5 /\ n5 <= 18446744073709551615 := (by simpa [Lit.wf, IntKind.min, IntKind.max, IntKind.signed, IntKind.bits] using w5); omega
  have q6 : 0 <= n6 /\ n6 < 4294967296 := by have : 0 <= n6 /\ n6 <= 4294967295 := (by simpa [Lit.wf, IntKind.min, IntKind.max, IntKind.signed, IntKind.bits] using w6); omega
  exact ⟨⟨n0, n1, n2, n3, n4, n5, n6, n7, n8, ⟨As, ns, cs⟩, ⟨Ap, np, cp⟩⟩, ls, lp, eleven hl (cut_at e0) (cut_at e1) (cut_at e2) (cut_at e3) (cut_at e4) (cut_at e5) (cut_at e6) (cut_at e7) (cut_at e8) (cut_at e9) (cut_at e10), ⟨q4, q5, q6⟩, hls, hlp, hrs, hrp, ⟨hns, hcs⟩, ⟨hnp, hcp⟩⟩
open Go.RowKit
attribute [local go_sem] pureUpon Ords.of
def stV (k : Int) (p : Pr) (key : Value) : Value := .agg #[.int .i64 k, .int .i64 p.digest, .int .i64 p.key, .int .i64 p.fanout, .int .i64 p.depth, .int .u32 p.leaf, .int .u64 p.offset, .int .u32 p.xof, .int .i64 p.nd, .int .i64 p.inner, p.salt.v, p.pers.v, key]
def cI : Cod Int := ⟨3, 198, 8, .int .i64 0, fun z => .int .i64 z⟩
structure FedTo (w wr : World) (q d : Nat) (big : Bool) (X key data : List UInt8) (e0 : Eng) (nd off : Nat) (Ar : Option Addr) (cr : Nat) (F : List Nat) : Prop where
  le : off <= nd
  cap : nd - off <= cr
  cap2 : cr <= 9223372036854775807
  rs : RS cB wr w.heap.size Ar (data.drop off)
  nd : Nd wr q big d X key false (UInt64.ofNat off) (e0.feed (data.take off)) F
  low : ∀ k, k ∈ F -> w.heap.size <= k
  blw : Below w.heap.size w wr
theorem got_start {H : Type} {enc : TypeId × Value -> H} {W : World} {L : List Value} (h : Got enc W 28 L) : ∃ (k : Int) (p : Pr) (ls lp key : List UInt8) (Ak : Option Addr) (nk ck : Nat), L = [Value.int .i64 k] ++ p.cs.toList ++ [Value.slice Ak nk ck] /\ PrIn W p ls lp /\ key.length = nk /\ nk <= ck /\ ck <= 140737488351232 /\ RS cB W W.heap.size Ak key := by
 obtain ⟨hl, hf⟩ := got_struct Tryz.underlying28 h;have hl : L.length = 13 := hl.trans (by kernel_rfl);have ci : Tryz.prog.cellsOf 3 = 1 := by kernel_rfl
 have cp : Tryz.prog.cellsOf 26 = 11 := by kernel_rfl
 have cb : Tryz.prog.cellsOf 24 = 1 := by kernel_rfl
 have g0 : Got enc W 3 ((L.drop 0).take (Tryz.prog.cellsOf 3)) := hf 0 _ rfl;rw [ci] at g0;obtain ⟨k, e0, _⟩ := got_int Tryz.underlying3 g0;have g1 : Got enc W 26 ((L.drop 1).take (Tryz.prog.cellsOf 26)) := hf 1 _ rfl;rw [cp] at g1;obtain ⟨p, ls, lp, e1, hp⟩ := got_params g1;have g2 : Got enc W 24 ((L.drop 12).take (Tryz.prog.cellsOf 24)) := hf 2 _ rfl;rw [cb] at g2;obtain ⟨A, n, c, l, e2, h1, h2, h3, h4⟩ := got_bytes g2;refine ⟨k, p, ls, lp, l, A, n, c, ?_, hp, h1, h2, h3, h4⟩;rw [<- e0, <- e1, <- e2];rw [List.drop_zero];have q1 : L.take 1 ++ (L.drop 1).take 11 = L.take 12 := by rw [<- List.take_add]
 have q2 : (L.drop 12).take 1 = L.drop 12 := List.take_of_length_le (by rw [List.length_drop]; omega);rw [q1, q2, List.take_append_drop]
theorem open_start {H : Type} {enc : TypeId × Value -> H} {W : World} {base : Nat} {v : Value} {d : DataW H} {p : List MemPlace} {ts : List TypeId} {ds : List (DataW H)}
  (hv : Value.okWide Tryz.prog W .any base 28 v) (h : DataW.Trod enc Tryz.prog W 0 (fun _ => true) true 28 v d p) (hlt : ∀ x ∈ p, x.block < W.heap.size)
  (hsz : (DataW.weightsEach Tryz.prog ts ds).all (· <= reachBytes) = true) {j : Nat} (ht : ts[j]? = some 28) (hd : ds[j]? = some d) :
  ∃ (k : Int) (p : Pr) (ls lp key : List UInt8) (Ak : Option Addr) (nk ck : Nat), v = stV k p (.slice Ak nk ck) /\ PrIn W p ls lp /\ key.length = nk /\ nk <= ck /\ ck <= 140737488351232 /\ RS cB W W.heap.size Ak key := by
 obtain ⟨cs, rfl, hs⟩ := okWide_struct Tryz.underlying28 hv;obtain ⟨k, p, ls, lp, key, Ak, nk, ck, e, hp, h1, h2, h3, h4⟩ := got_start (got_top h hlt hsz ht hd);refine ⟨k, p, ls, lp, key, Ak, nk, ck, ?_, hp, h1, h2, h3, h4⟩;have e2 : cs.toList = [Value.int .i64 k] ++ p.cs.toList ++ [Value.slice Ak nk ck] := e;have e3 : cs = ([Value.int .i64 k] ++ p.cs.toList ++ [Value.slice Ak nk ck]).toArray := by rw [<- e2]
 rw [e3]
 rfl
end Go.Proofs.YtboihcigcfmhhaaGreat

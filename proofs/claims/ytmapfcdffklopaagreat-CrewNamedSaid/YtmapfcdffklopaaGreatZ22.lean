/-
  Z22: contracts and lemmas alone; no statement is claimed here.
-/
import Derived.Test.YtmapfcdffklopaaGreatZx
import Derived.Test.YtmapfcdffklopaaGreatZxb
import Derived.Test.YtmapfcdffklopaaGreatZxc
import Derived.Test.YtmapfcdffklopaaGreatZ19
import Derived.Test.YtmapfcdffklopaaGreatZ7
import Derived.Test.YtmapfcdffklopaaGreatZ5
import Derived.Deep.CutRange
/- G, of the reference: four words of a state. -/
set_option maxHeartbeats 8000000
set_option maxRecDepth 20000
namespace Go.Proofs.YtmapfcdffklopaaGreat
open _root_.List renaming set_append → cZG
open _root_.Bool renaming false_eq_true → bZQ
open _root_.Nat renaming le_of_eq → bZF
open Go renaming results_cell_row → aZZ
open _root_.List renaming getElem?_append_right → aZV
open Go.IntKind renaming wrap → aZU
open Go.IntKind renaming bits → aZR
open Go.IntKind renaming signed → aZM
open Go.World renaming setCell → aZI
open Go renaming wpList_load_row → aZH
open Go renaming wpList_store_row → aZE
open Go.World renaming drewN → aZD
open Go renaming bodyPost_ret → aZB
open Lib renaming hid -> zH
open Go.RowKit
attribute [local go_sem] pureUpon Ords.of
theorem refPlace_any (a : Nat) (h : a < 16) (w : World) : Calls Tryz.prog 149 #[.int .i64 a] w fun e w' => e = .returned (.bool true) /\ w = w' := by
 have h1 : (0 : Int) <= a /\ (a : Int) <= 15 := by omega
 obtain ⟨h1, h2⟩ := h1;go_enter Tryz.func149, Tryz.ntmps149;go_wp2;go_ret;exact ⟨rfl, rfl⟩
theorem refG_any (p : Pl) (V : List UInt64) (x y : UInt64) (w : World) (hp : p.Ok) (hV : V.length = 16) :
  Calls Tryz.prog 137 #[.agg (wcs V), .int .i64 p.a, .int .i64 p.b, .int .i64 p.c, .int .i64 p.d, .int .u64 (wrd x), .int .u64 (wrd y)] w fun e w' => e = .returned (.tuple #[.agg (wcs (p.lay V (gm64 (p.get 0 V) x y))), .int .i64 0]) /\ Below w.heap.size w w' := by exact zS5
theorem refRound_any (r : Nat) (V M : List UInt64) (w : World) (hr : r < 12) (hV : V.length = 16) (hM : M.length = 16) :
  Calls Tryz.prog 120 #[.agg (wcs V), .agg (wcs M), .int .i64 r] w fun e w' => e = .returned (.tuple #[.agg (wcs (turn64 M r V)), .int .i64 0]) /\ Below w.heap.size w w' := by exact zS10
def halves (H I : List UInt64) (k : Nat) : List UInt64 := fillU H k 8 ++ fillU I k 8
theorem halves_len (H I : List UInt64) (k : Nat) (hk : k <= 8) (hH : H.length = 8) (hI : I.length = 8) : (halves H I k).length = 16 := by
 unfold halves; rw [List.length_append, fillU_len H k 8 hk hH, fillU_len I k 8 hk hI]
theorem halves_all (H I : List UInt64) (hH : H.length = 8) (hI : I.length = 8) : halves H I 8 = H ++ I := by unfold halves; rw [fillU_all H 8 hH, fillU_all I 8 hI]
theorem fillU_set (z : List UInt64) (k n : Nat) (v : UInt64) (hk : k < n) (hn : z.length = n) (hz : z[k]? = some v) : (fillU z k n).set k v = fillU z (k + 1) n := by
 have h1 : (z.take k).length = k := by simp; omega
 unfold fillU;rw [List.take_add_one, hz, cZG, if_neg (by rw [h1]; omega), h1, Nat.sub_self, show n - k = (n - (k + 1)) + 1 by omega, List.replicate_succ, List.set_cons_zero, List.append_assoc]
 rfl
theorem halves_put (H I : List UInt64) (k : Nat) (u v : UInt64) (hk : k < 8) (hH : H.length = 8) (hI : I.length = 8) (hu : H[k]? = some u) (hv : I[k]? = some v) : ((halves H I k).set k u).set (k + 8) v = halves H I (k + 1) := by
 have l1 := fillU_len H k 8 (by omega) hH;have l2 := fillU_len H (k + 1) 8 (by omega) hH;unfold halves;rw [cZG, if_pos (by omega), fillU_set H k 8 u hk hH hu, cZG, if_neg (by omega), l2, show k + 8 - 8 = k by omega, fillU_set I k 8 v hk hI hv]
theorem refInit_any (H : List UInt64) (lo hi : UInt64) (last node : Bool) (w : World) (hH : H.length = 8) :
  Calls Tryz.prog 119 #[.agg (wcs H), .int .u64 (wrd lo), .int .u64 (wrd hi), .bool last, .bool node] w fun e w' => e = .returned (.agg (wcs (initOf H lo hi last node))) /\ Below w.heap.size w w' := by
 have HH := zH hH; clear hH;have hG : Hid (initOf H lo hi last node = (let v := ((H ++ iv64).set 12 (0x510e527fade682d1 ^^^ lo)).set 13 (0x9b05688c2b3e6c1f ^^^ hi); let v := if last then v.set 14 (~~~ 0x1f83d9abfb41bd6b) else v; if node then v.set 15 (~~~ 0x5be0cd19137e2179) else v)) := rfl;generalize initOf H lo hi last node = G at *;have IVl : Hid (iv64.length = 8) := rfl;have hIV : Hid (iv64 = [0x6a09e667f3bcc908, 0xbb67ae8584caa73b, 0x3c6ef372fe94f82b, 0xa54ff53a5f1d36f1, 0x510e527fade682d1, 0x9b05688c2b3e6c1f, 0x1f83d9abfb41bd6b, 0x5be0cd19137e2179]) := rfl;have hiv := zH refIV_any;generalize iv64 = I at *;go_enter Tryz.func119, Tryz.ntmps119;go_upto_region 2 with fail
 have n1 : Blk (((w.alloc (.cells (wcs H) 150)).alloc (.cells z16 97)).alloc (.cells z16 97)) w.heap.size 150 (wcs H) := ((Blk.new _ _ _).alloc _).alloc _;have n2 : Blk (((w.alloc (.cells (wcs H) 150)).alloc (.cells z16 97)).alloc (.cells z16 97)) (w.heap.size + 1) 97 (wcs (zw 16)) := by
  have := (Blk.new (w.alloc (.cells (wcs H) 150)) 97 z16).alloc (.cells z16 97); show Blk _ _ _ z16; simpa using this
 have n3 : Blk (((w.alloc (.cells (wcs H) 150)).alloc (.cells z16 97)).alloc (.cells z16 97)) (w.heap.size + 1 + 1) 97 (wcs (halves H I 0)) := by
  have := Blk.new ((w.alloc (.cells (wcs H) 150)).alloc (.cells z16 97)) 97 z16; show Blk _ _ _ z16; simpa using this
 have n4 := bal (bal (bal (b0 w) (.cells (wcs H) 150)) (.cells z16 97)) (.cells z16 97);obtain ⟨g, hg⟩ : ∃ g, g = w.heap.size := ⟨_, rfl⟩;unfold z16 at n1 n2 n3 n4;rw [<- hg] at n1 n2 n3 ⊢;generalize ((w.alloc (.cells (wcs H) 150)).alloc (.cells #[.int .u64 0, .int .u64 0, .int .u64 0, .int .u64 0, .int .u64 0, .int .u64 0, .int .u64 0, .int .u64 0, .int .u64 0, .int .u64 0, .int .u64 0, .int .u64 0, .int .u64 0, .int .u64 0, .int .u64 0, .int .u64 0] 97)).alloc (.cells #[.int .u64 0, .int .u64 0, .int .u64 0, .int .u64 0, .int .u64 0, .int .u64 0, .int .u64 0, .int .u64 0, .int .u64 0, .int .u64 0, .int .u64 0, .int .u64 0, .int .u64 0, .int .u64 0, .int .u64 0, .int .u64 0] 97) = w0 at *;have l0 : Hid (w.heap.size <= g) := by (show _ <= _; omega)
 obtain ⟨g2, hg2⟩ : ∃ g2, g2 = g + 1 := ⟨_, rfl⟩;obtain ⟨g3, hg3⟩ : ∃ g3, g3 = g + 1 + 1 := ⟨_, rfl⟩;rw [<- hg3, <- hg2];rw [<- hg2] at n2;rw [<- hg3] at n3;have l12 : g < g2 := by omega
 have l23 : g2 < g3 := by omega
 have N1 := zH n1; have N2 := zH n2; have N3 := zH n3; have N4 := zH n4;clear n1 n2 n3 n4 hg hg2 hg3;go_wp2_with fail;go_loopw [12] (fun i wr => ∃ k : Nat, k <= 8 /\ i = .int .i64 k /\ Blk wr g 150 (wcs H) /\ Blk wr g2 97 (wcs (zw 16)) /\ Blk wr g3 97 (wcs (halves H I k)) /\ Below w.heap.size w wr) (fun i _ => 8 - (intOf i).toNat)
 case atStart => exact ⟨0, by omega, rfl, N1.out, N2.out, N3.out, N4.out⟩
 case round =>
  clear N1 N2 N3 N4;obtain ⟨k, hk, rfl, x1, x2, x3, x4⟩ := hrel;have N1 := zH x1; have N2 := zH x2; have N3 := zH x3; have N4 := zH x4; clear x1 x2 x3 x4
  by_cases hlt : k < 8
  ·exact zS60
  ·exact zS12
theorem refF_any (H M : List UInt64) (lo hi : UInt64) (last node : Bool) (w : World) (hH : H.length = 8) (hM : M.length = 16) :
  Calls Tryz.prog 98 #[.agg (wcs H), .agg (wcs M), .int .u64 (wrd lo), .int .u64 (wrd hi), .bool last, .bool node] w fun e w' => e = .returned (.agg (wcs (comp64 H M lo hi last node))) /\ Below w.heap.size w w' := by exact zS8
theorem refWords_any (A : Option Addr) (c : Nat) (x : List UInt8) (w : World) (hx : x.length = 128) (hr : RS cB w w.heap.size A x) :
  Calls Tryz.prog 97 #[.slice A 128 c] w fun e w' => e = .returned (.tuple #[.agg (wcs (wordsOf x 16)), .int .i64 0]) /\ Below w.heap.size w w' := by exact zS19
theorem refStart_any (A : Option Addr) (c : Nat) (x : List UInt8) (w : World) (hx : x.length = 64) (hr : RS cB w w.heap.size A x) :
  Calls Tryz.prog 116 #[.slice A 64 c] w fun e w' => e = .returned (.tuple #[.agg (wcs (start64 x)), .int .i64 0]) /\ Below w.heap.size w w' := by exact zS55
end Go.Proofs.YtmapfcdffklopaaGreat

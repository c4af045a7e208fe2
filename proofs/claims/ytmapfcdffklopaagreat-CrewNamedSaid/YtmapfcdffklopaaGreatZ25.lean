/-
  Z25: contracts and lemmas alone; no statement is claimed here.
-/
import Derived.Test.YtmapfcdffklopaaGreatZx
import Derived.Test.YtmapfcdffklopaaGreatZxc
import Derived.Test.YtmapfcdffklopaaGreatZ23
set_option maxHeartbeats 4000000
set_option maxRecDepth 20000
namespace Go.Proofs.YtmapfcdffklopaaGreat
open _root_.Nat renaming lt_irrefl → bZI
open Go.IntKind renaming wrap → aZU
open _root_.List renaming length_drop → aZS
open Go.IntKind renaming bits → aZR
open _root_.Nat renaming lt_of_lt_of_le → aZO
open Go.IntKind renaming signed → aZM
open _root_.List renaming length_take → aZJ
open Go renaming results_tmp2 → aZG
open _root_.Option.some renaming inj → aZF
open Go renaming bodyPost_ret → aZB
open Lib renaming hid -> zH
open Go.RowKit
attribute [local go_sem] pureUpon Ords.of
theorem pieceL_len (big : Bool) (len : Int) (ls lp root : List UInt8) (i : Nat) : (pieceL big len ls lp root i).length = pceM (bOf big) (totN (kOf big) len) i := by
 unfold pieceL;rw [aZJ, hashL_len];unfold pceM;omega
theorem pieceL_le (big : Bool) (len : Int) (ls lp root : List UInt8) (i : Nat) (h : i * bOf big < totN (kOf big) len) : 1 <= (pieceL big len ls lp root i).length /\ (pieceL big len ls lp root i).length <= 64 := by
 rw [pieceL_len];have := bOf_le big;unfold pceM;omega
theorem xpieceL_any (big : Bool) (len : Int) (T i : Nat) (kn : Bool) (s t : Sl) (ls lp root : List UInt8) (Ar : Option Addr) (w : World) (hTT : totN (kOf big) len = T) (hI : i * bOf big < totN (kOf big) len) (hT : totN (kOf big) len <= bOf big * 4294967296) (hc : 1 <= codN (kOf big) len /\ codN (kOf big) len <= codeMax big) (hs : 4 * s.n <= bOf big) (ht : 4 * t.n <= bOf big)
  (hls : ls.length = s.n) (hlp : lp.length = t.n) (hl : root.length = bOf big) (hrs : RS cB w w.heap.size s.A ls) (hrp : RS cB w w.heap.size t.A lp) (hrr : RS cB w w.heap.size Ar root) :
  Calls Tryz.prog 47 #[.agg #[.int .i64 (kOf big), .int .i64 (bOf big), .int .u32 (codN (kOf big) len), .int .u64 T, .bool kn], s.v, t.v, .slice Ar (bOf big) (bOf big), .int .u64 i] w fun r w' => ∃ A n c' cc, r = .returned (.slice A n cc) /\ (pieceL big len ls lp root i).length = n /\ n <= cc /\ OS cB w' w.heap.size A c' (pieceL big len ls lp root i) /\ Below w.heap.size w w' := by
 have h := xpiece_any big T i (codN (kOf big) len) kn s t ls lp root Ar (bOf big) (bOf big) w (by rw [<- hTT]; exact hI) (by rw [<- hTT]; exact hT) hc hs ht hls hlp hrs hrp hl (Nat.le_refl _) (by have := (bOf_le big).2; omega) hrr;have e : (hashL big (pceP (bOf big) T i (codN (kOf big) len) s t) ls lp [] false root).take (pceM (bOf big) T i) = pieceL big len ls lp root i := by rw [<- hTT]; rfl
 rw [e] at h;exact h
theorem meas_lt (k m n : Nat) (h : k + m <= n) (h1 : 1 <= m) : n - (k + m) < n - k := by omega
theorem piece_cut (f T i fr m at_ : Nat) (P : Nat -> List UInt8) (now : List UInt8) (hn : now.length = 64) (hv : now.take (pceM f T i) = P i) (hi : i = at_ / f) (hfr : fr = at_ % f) (hm : fr + m <= f) (hf : 1 <= f /\ f <= 64) (hT : at_ + m <= T) : (now.drop fr).take m = rowOf f P at_ m := by
 have hd := Nat.div_add_mod at_ f;rw [<- hi, <- hfr, Nat.mul_comm] at hd;have hp : fr + m <= pceM f T i := by unfold pceM; omega
 have hl : (P i).length = pceM f T i := by rw [<- hv, aZJ, hn]; unfold pceM; omega
 rw [<- rowOf_piece f P at_ m hf.1 (by rw [<- hi, <- hfr, hl]; exact hp) (by rw [<- hfr]; exact hm), <- hi, <- hfr, <- hv, List.drop_take, List.take_take, Nat.min_eq_left (by omega)]
theorem XG.cutRow {w : World} {base p : Nat} {big : Bool} {len : Int} {key ls lp : List UInt8} {wr : UInt64} {e : Eng} {root : List UInt8} {pos : Nat} {cs : Array Value} {Ak : Option Addr} {ck : Nat} {s pp : Sl} {q : Nat} {F : List Nat} {Ar : Option Addr} {cr i : Nat} {now : List UInt8} (h : XG w base p big len key ls lp wr e root pos cs Ak ck s pp q F Ar cr i now)
  (f T fr m at_ : Nat) (hf : f = bOf big) (hT : totN (kOf big) len = T) (hi : i = at_ / f) (hfr : fr = at_ % f) (hm : fr + m <= f) (hmT : at_ + m <= T) : (now.drop fr).take m = rowOf (bOf big) (pieceL big len ls lp root) at_ m := by
 subst hf;rcases h.hve with h1 | ⟨j, h1, -, h3⟩
 ·exact absurd h1 (by omega)
 ·have hij : i = j := Int.ofNat_inj.1 h1
  rw [<- hij, hT] at h3;exact piece_cut (bOf big) T i fr m at_ _ now h.hnow h3 hi hfr hm (by have := bOf_le big; omega) hmT
theorem read_nums (n k at_ f T pos L : Nat) (hat : at_ = pos + k) (hf : 1 <= f /\ f <= 64) (hlt : k < n) (hle : n <= L) (hL : L = T - pos) (hpo : pos <= T) (hT : T <= 274877906944) (hn : n <= 65536) :
  ∃ i fr nk ff m a2 : Nat, Hid (at_ = pos + k /\ i = at_ / f /\ fr = at_ % f /\ nk = n - k /\ ff = f - fr /\ fr < f /\ at_ < T /\ (m <= nk /\ m <= ff /\ 1 <= m) /\ k < n) /\ (((ff < nk) = True /\ m = ff) \/ ((ff < nk) = False /\ m = nk)) /\
   IntKind.u64.wrap ((at_ : Int) / (f : Int)) = i /\ IntKind.u64.wrap ((at_ : Int) % (f : Int)) = fr /\ IntKind.i64.wrap (fr : Int) = fr /\ IntKind.u64.wrap (f : Int) = f /\ IntKind.i64.wrap (i : Int) = i /\ ((f : Int) == 0) = false /\ (f = 0) = False /\
   wrap64 ((n : Int) - (k : Int)) = nk /\ wrap64 ((f : Int) - (fr : Int)) = ff /\ wrap64 ((fr : Int) + (m : Int)) = ((fr + m : Nat) : Int) /\ wrap64 ((at_ : Int) % (f : Int)) = fr /\ IntKind.i64.wrap ((at_ : Int).tmod (f : Int)) = fr /\ fr + m <= 64 /\ k + m <= n /\ 1 <= m /\ Hid (IntKind.u64.wrap (m : Int) = m /\ IntKind.u64.wrap ((at_ : Int) + (m : Int)) = a2) /\ Hid (a2 = pos + (k + m) /\ a2 <= T /\ fr + m <= f /\ at_ + m <= T) := by
 obtain ⟨i, hi⟩ : ∃ i, i = at_ / f := ⟨_, rfl⟩;obtain ⟨fr, hfr⟩ : ∃ fr, fr = at_ % f := ⟨_, rfl⟩;have hatT : at_ < T := by omega
 have hil : i <= 274877906944 := by have h1 := Nat.div_le_self at_ f; omega
 have hfl : fr < f := by rw [hfr]; exact Nat.mod_lt _ (by omega)
 obtain ⟨nk, hnk⟩ : ∃ nk, nk = n - k := ⟨_, rfl⟩;obtain ⟨ff, hff⟩ : ∃ ff, ff = f - fr := ⟨_, rfl⟩;obtain ⟨m, hm⟩ : ∃ m, m = min nk ff := ⟨_, rfl⟩;refine ⟨i, fr, nk, ff, m, at_ + m, zH ⟨hat, hi, hfr, hnk, hff, hfl, hatT, by omega, hlt⟩, ?_, ?_, ?_, ?_, ?_, ?_, ?_, ?_, ?_, ?_, ?_, ?_, ?_, by omega, by omega, by omega, zH ⟨by rw [wrap_u64]; omega, by rw [wrap_u64]; omega⟩, zH (by omega)⟩
 ·rcases Nat.lt_or_ge ff nk with h | h
  ·exact .inl ⟨by simp [h], by omega⟩
  ·exact .inr ⟨by simp <;> omega, by omega⟩
 ·rw [wrap_u64, <- Int.natCast_ediv, <- hi]; omega
 ·rw [wrap_u64, <- Int.natCast_emod, <- hfr]; omega
 ·simp [aZU, aZR, aZM]; omega
 ·rw [wrap_u64]; omega
 ·simp [aZU, aZR, aZM]; omega
 ·simp <;> omega
 ·simp <;> omega
 ·unfold wrap64; omega
 ·unfold wrap64; omega
 ·unfold wrap64; omega
 ·rw [<- Int.natCast_emod, <- hfr]; unfold wrap64; omega
 ·rw [Int.tmod_eq_emod_of_nonneg (by omega), <- Int.natCast_emod, <- hfr]; simp [aZU, aZR, aZM]; omega
theorem xread_of (Q : Option Addr -> Prop) (base p : Nat) (big : Bool) (len : Int) (key ls lp : List UInt8) (wn : UInt64) (e : Eng) (root : List UInt8) (pos n T L : Nat) (Ak : Option Addr) (ck : Nat) (s pp : Sl) (q : Nat) (F : List Nat) (w : World) (hn : n <= 65536) (hTT : totN (kOf big) len = T) (hT : xTotal (kOf big) len = T) (hT2 : T <= 274877906944) (hpo : pos <= T) (hL : L = T - pos) (h0 : 0 < n) (hle : n <= L) (hT2' : totN (kOf big) len <= bOf big * 4294967296) (hC : xCode (kOf big) len = codN (kOf big) len) (hC2 : 1 <= codN (kOf big) len /\ codN (kOf big) len <= codeMax big) (hs4 : 4 * s.n <= bOf big) (ht4 : 4 * pp.n <= bOf big)
  (hno : Calls Tryz.prog 29 #[.pointer (some ⟨p, 0, none⟩)] w fun r w' => r = .returned (.bool false) /\ w = w')
  (hgi : Calls Tryz.prog 44 #[.pointer (some ⟨p, 0, none⟩)] w fun r w' => r = .returned (.tuple #[]) /\ ∃ cs' Ar cr hv now, XG w' base p big len key ls lp wn e root pos cs' Ak ck s pp q F Ar cr hv now /\ But [p] w w' /\ Q Ar) :
  Calls Tryz.prog 26 #[.pointer (some ⟨p, 0, none⟩), .int .i64 n] w fun r w' => ∃ A cc, r = .returned (.tuple #[.slice A n cc, .int .i64 0]) /\ n <= cc /\ OS cB w' w.heap.size A cc (rowOf (bOf big) (pieceL big len ls lp root) pos n) /\ ∃ cs' Ar cr hv now, XG w' base p big len key ls lp wn e root (pos + n) cs' Ak ck s pp q F Ar cr hv now /\ But [p] w w' /\ Q Ar /\ (∀ a, A = some a -> a.block ∉ xfoot p F Ak s.A pp.A Ar) := by open kA in exact zS1
theorem xreadNil_of (Q : Option Addr -> Prop) (base p : Nat) (big : Bool) (len : Int) (key ls lp : List UInt8) (wn : UInt64) (e : Eng) (root : List UInt8) (pos T : Nat) (Ak : Option Addr) (ck : Nat) (s pp : Sl) (q : Nat) (F : List Nat) (w : World) (hT : xTotal (kOf big) len = T) (hT2 : T <= 274877906944) (hpo : pos <= T)
  (hno : Calls Tryz.prog 29 #[.pointer (some ⟨p, 0, none⟩)] w fun r w' => r = .returned (.bool false) /\ w = w')
  (hgi : Calls Tryz.prog 44 #[.pointer (some ⟨p, 0, none⟩)] w fun r w' => r = .returned (.tuple #[]) /\ ∃ cs' Ar cr hv now, XG w' base p big len key ls lp wn e root pos cs' Ak ck s pp q F Ar cr hv now /\ But [p] w w' /\ Q Ar) :
  Calls Tryz.prog 26 #[.pointer (some ⟨p, 0, none⟩), .int .i64 0] w fun r w' => r = .returned (.tuple #[.slice none 0 0, .int .i64 0]) /\ ∃ cs' Ar cr hv now, XG w' base p big len key ls lp wn e root pos cs' Ak ck s pp q F Ar cr hv now /\ But [p] w w' /\ Q Ar := by open kA in exact zS43
theorem xreadEnd_of (Q : Option Addr -> Prop) (base p : Nat) (big : Bool) (len : Int) (key ls lp : List UInt8) (wn : UInt64) (e : Eng) (root : List UInt8) (n T : Nat) (Ak : Option Addr) (ck : Nat) (s pp : Sl) (q : Nat) (F : List Nat) (w : World) (pos : Nat) (hn : n <= 65536) (h0 : 0 < n) (hT : xTotal (kOf big) len = T) (hpo : pos = T)
  (hno : Calls Tryz.prog 29 #[.pointer (some ⟨p, 0, none⟩)] w fun r w' => r = .returned (.bool false) /\ w = w')
  (hgi : Calls Tryz.prog 44 #[.pointer (some ⟨p, 0, none⟩)] w fun r w' => r = .returned (.tuple #[]) /\ ∃ cs' Ar cr hv now, XG w' base p big len key ls lp wn e root pos cs' Ak ck s pp q F Ar cr hv now /\ But [p] w w' /\ Q Ar) :
  Calls Tryz.prog 26 #[.pointer (some ⟨p, 0, none⟩), .int .i64 n] w fun r w' => r = .returned (.tuple #[.slice none 0 0, .int .i64 70]) /\ ∃ cs' Ar cr hv now, XG w' base p big len key ls lp wn e root pos cs' Ak ck s pp q F Ar cr hv now /\ But [p] w w' /\ Q Ar := by exact zS43
theorem xreadCut_of (Q : Option Addr -> Prop) (base p : Nat) (big : Bool) (len : Int) (key ls lp : List UInt8) (wn : UInt64) (e : Eng) (root : List UInt8) (pos n0 n T L : Nat) (Ak : Option Addr) (ck : Nat) (s pp : Sl) (q : Nat) (F : List Nat) (w : World) (hn0 : n0 <= 65536) (hnL : n = L) (hlt0 : L < n0) (hTT : totN (kOf big) len = T) (hT : xTotal (kOf big) len = T) (hT2 : T <= 274877906944) (hpo : pos <= T) (hL : L = T - pos) (h0 : 0 < L) (hT2' : totN (kOf big) len <= bOf big * 4294967296) (hC : xCode (kOf big) len = codN (kOf big) len) (hC2 : 1 <= codN (kOf big) len /\ codN (kOf big) len <= codeMax big) (hs4 : 4 * s.n <= bOf big) (ht4 : 4 * pp.n <= bOf big)
  (hno : Calls Tryz.prog 29 #[.pointer (some ⟨p, 0, none⟩)] w fun r w' => r = .returned (.bool false) /\ w = w')
  (hgi : Calls Tryz.prog 44 #[.pointer (some ⟨p, 0, none⟩)] w fun r w' => r = .returned (.tuple #[]) /\ ∃ cs' Ar cr hv now, XG w' base p big len key ls lp wn e root pos cs' Ak ck s pp q F Ar cr hv now /\ But [p] w w' /\ Q Ar) :
  Calls Tryz.prog 26 #[.pointer (some ⟨p, 0, none⟩), .int .i64 n0] w fun r w' => ∃ A cc, r = .returned (.tuple #[.slice A n cc, .int .i64 0]) /\ n <= cc /\ OS cB w' w.heap.size A cc (rowOf (bOf big) (pieceL big len ls lp root) pos n) /\ ∃ cs' Ar cr hv now, XG w' base p big len key ls lp wn e root (pos + n) cs' Ak ck s pp q F Ar cr hv now /\ But [p] w w' /\ Q Ar /\ (∀ a, A = some a -> a.block ∉ xfoot p F Ak s.A pp.A Ar) := by exact zS1
end Go.Proofs.YtmapfcdffklopaaGreat

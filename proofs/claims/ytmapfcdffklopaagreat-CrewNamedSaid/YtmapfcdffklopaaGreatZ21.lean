/-
  Z21: contracts and lemmas alone; no statement is claimed here.
-/
import Derived.Test.YtmapfcdffklopaaGreatZx
import Derived.Test.YtmapfcdffklopaaGreatZxc
import Derived.Test.YtmapfcdffklopaaGreatZ13
import Derived.Test.YtmapfcdffklopaaGreatZ14
import Derived.Test.YtmapfcdffklopaaGreatZ18
set_option maxHeartbeats 2000000
set_option maxRecDepth 20000
namespace Go.Proofs.YtmapfcdffklopaaGreat
open Go renaming results_tmp → aZK
open _root_.Nat renaming le_refl → aZC
open Go renaming bodyPost_ret → aZB
open Lib renaming hid -> zH
open Go.RowKit
attribute [local go_sem] pureUpon Ords.of
theorem xnone_any (p : Nat) (cs : Array Value) (w : World) (hb : Blk w p 71 cs) (f : Fn) (xs ys : Array Value) (h : cs[76]? = some (.func f xs ys)) :
  Calls Tryz.prog 29 #[.pointer (some ⟨p, 0, none⟩)] w fun r w' => r = .returned (.bool false) /\ w = w' := by
 have c76 : w.cell? ⟨p, 76, none⟩ = some (.func f xs ys) := (hb.cell 76).trans h;have hbo : ∀ W, Sem.run Tryz.prog (Go.binOp .eql 56 (.func f xs ys) .nilFunc) W = .ok (.bool false) W := by intro W; rfl
 clear hb h;go_enter Tryz.func29, Tryz.ntmps29;go_wp2_with fail;exact aZB (aZK rfl _ _ _) rfl ⟨rfl, rfl⟩
def pceM (f T I : Nat) : Nat := min (T - I * f) f
def pceP (f T I c : Nat) (s t : Sl) : Pr := ⟨pceM f T I, 0, 0, 0, f, I, c, 0, f, s, t⟩
def codeMax (big : Bool) : Nat := if big then 4294967295 else 65535
theorem pce_chk {big : Bool} {T I c : Nat} {s t : Sl} (hI : I * bOf big < T) (hT : T <= bOf big * 4294967296) (hc : 1 <= c /\ c <= codeMax big) (hs : 4 * s.n <= bOf big) (ht : 4 * t.n <= bOf big) : chk (kOf big) (pceP (bOf big) T I c s t) = 0 := by
 have hI2 : I < 4294967296 := by
  have h : bOf big * I < bOf big * 4294967296 := by rw [Nat.mul_comm (bOf big) I]; omega
  exact Nat.lt_of_mul_lt_mul_left h
 have hm : 1 <= pceM (bOf big) T I /\ pceM (bOf big) T I <= bOf big := by
  have : 1 <= bOf big := by cases big <;> decide
  unfold pceM; omega
 have hk : kOf big = 2 -> codeMax big <= 65535 := by cases big <;> decide
 have e0 : 1 <= bOf big := by cases big <;> decide
 unfold chk pceP;rw [mostOf_k]
 dsimp only
 generalize pceM (bOf big) T I = m at *;rw [if_neg (by omega), if_neg (by omega), if_neg (by omega), if_neg (by omega), if_neg (by omega), if_neg (by omega), if_neg (by intro h; have := hk h.1; omega), if_neg (by omega), if_neg (by omega), if_neg (by omega), if_neg (by omega)]
theorem pce_hash {big : Bool} {T I c : Nat} {s t : Sl} (ls lp root : List UInt8) (hI : I * bOf big < T) (hT : T <= bOf big * 4294967296) (hc : 1 <= c /\ c <= codeMax big) (hs : 4 * s.n <= bOf big) (ht : 4 * t.n <= bOf big) :
  hashS (kOf big) (pceP (bOf big) T I c s t) ls lp [] false (pceM (bOf big) T I) root = ((hashL big (pceP (bOf big) T I c s t) ls lp [] false root).take (pceM (bOf big) T I), 0) := by
 have hm : 1 <= pceM (bOf big) T I /\ pceM (bOf big) T I <= bOf big := by
  have : 1 <= bOf big := by cases big <;> decide
  unfold pceM; omega
 unfold hashS;rw [if_neg (fun h => h (pce_chk hI hT hc hs ht)), if_neg (fun h => h.1 rfl), if_neg (by rw [mostOf_k]; omega), kOf_is, Int.toNat_natCast]
theorem pce_fit {big : Bool} {T I c : Nat} {s t : Sl} (hI : I * bOf big < T) (hT : T <= bOf big * 4294967296) (hc : 1 <= c /\ c <= codeMax big) : (pceP (bOf big) T I c s t).Fit := by
 have hI2 : I < 4294967296 := by
  have h : bOf big * I < bOf big * 4294967296 := by rw [Nat.mul_comm (bOf big) I]; omega
  exact Nat.lt_of_mul_lt_mul_left h
 have hb : bOf big <= 64 := (bOf_le big).2;have hk : codeMax big <= 4294967295 := by cases big <;> decide
 unfold pceP;exact ⟨⟨by dsimp only; omega, by dsimp only; omega⟩, ⟨by dsimp only; omega, by dsimp only; omega⟩, ⟨by dsimp only; omega, by dsimp only; omega⟩⟩
theorem xpiece_any (big : Bool) (T I c : Nat) (kn : Bool) (s t : Sl) (ls lp root : List UInt8) (Ar : Option Addr) (nr cr : Nat) (w : World) (hI : I * bOf big < T) (hT : T <= bOf big * 4294967296) (hc : 1 <= c /\ c <= codeMax big) (hs : 4 * s.n <= bOf big) (ht : 4 * t.n <= bOf big)
  (hls : ls.length = s.n) (hlp : lp.length = t.n) (hrs : RS cB w w.heap.size s.A ls) (hrp : RS cB w w.heap.size t.A lp) (hl : root.length = nr) (hnr : nr <= cr) (hcr : cr <= 9223372036854775807) (hrr : RS cB w w.heap.size Ar root) :
  Calls Tryz.prog 47 #[.agg #[.int .i64 (kOf big), .int .i64 (bOf big), .int .u32 c, .int .u64 T, .bool kn], s.v, t.v, .slice Ar nr cr, .int .u64 I] w fun r w' => ∃ A n c' cc, r = .returned (.slice A n cc) /\ ((hashL big (pceP (bOf big) T I c s t) ls lp [] false root).take (pceM (bOf big) T I)).length = n /\ n <= cc /\ OS cB w' w.heap.size A c' ((hashL big (pceP (bOf big) T I c s t) ls lp [] false root).take (pceM (bOf big) T I)) /\ Below w.heap.size w w' := by
 have hh := fun W hrs hrp hrr => hashS_any (kOf big) false (pceM (bOf big) T I) (pceP (bOf big) T I c s t) ls lp [] root none Ar 0 0 nr cr W (pce_fit hI hT hc) hls hlp hrs hrp rfl (RS.nil _) hl hnr hcr hrr
 rw [pce_hash ls lp root hI hT hc hs ht] at hh;have hb := (bOf_le big).2;have hb0 : 1 <= bOf big := by cases big <;> decide
 dsimp only at hh;generalize (hashL big (pceP (bOf big) T I c s t) ls lp [] false root).take (pceM (bOf big) T I) = OUT at *;unfold pceP at hh;unfold pceM at hh;unfold Pr.v Pr.cs Sl.v at *;dsimp only at hh;generalize bOf big = f at *;generalize kOf big = k at *;obtain ⟨q, hq⟩ : ∃ q, q = I * f := ⟨_, rfl⟩;obtain ⟨L, hL⟩ : ∃ L, L = T - q := ⟨_, rfl⟩;rw [<- hq] at hI;rw [<- hq, <- hL] at hh;have hqi : (I : Int) * (f : Int) = (q : Int) := by rw [hq]; simp
 have hli : (T : Int) - (q : Int) = (L : Int) := by omega
 have w1 : IntKind.u32.wrap (f : Int) = f := by rw [wrap_u32w]; omega
 have w2 : IntKind.u64.wrap (f : Int) = f := by rw [wrap_u64]; omega
 have w3 : IntKind.u64.wrap ((I : Int) * (f : Int)) = q := by rw [hqi, wrap_u64]; omega
 have w4 : IntKind.u64.wrap ((T : Int) - (q : Int)) = L := by rw [hli, wrap_u64]; omega
 have w5 : IntKind.i64.wrap (L : Int) = L := by simp [IntKind.wrap, IntKind.bits, IntKind.signed]; omega
 by_cases hlt : L < f
 ·open kA in exact zS47
 ·exact zS47
def totN (k len : Int) : Nat := (xTotal k len).toNat
def codN (k len : Int) : Nat := (xCode k len).toNat
def pieceS (k len : Int) (s t : Sl) (ls lp root : List UInt8) (I : Nat) : List UInt8 × Int :=
  if xValid k len 0 s t ≠ 0 then ([], xValid k len 0 s t) else
  if root.length ≠ bOf (decide (k = 1)) \/ totN k len <= I * bOf (decide (k = 1)) then ([], 1) else
  ((hashL (decide (k = 1)) (pceP (bOf (decide (k = 1))) (totN k len) I (codN k len) s t) ls lp [] false root).take (pceM (bOf (decide (k = 1))) (totN k len) I), 0)
theorem xnums {k len : Int} (h : xOK k len) : ∃ big, k = kOf big /\ decide (k = 1) = big /\ xTotal k len = totN k len /\ xCode k len = codN k len /\ (1 <= totN k len /\ totN k len <= bOf big * 4294967296) /\ (1 <= codN k len /\ codN k len <= codeMax big) := by
 rcases h with ⟨h | h, h2⟩
 ·subst h
  refine ⟨true, rfl, rfl, ?_⟩;unfold totN codN xTotal xCode;have e : mostOf 1 = 64 := rfl;have e2 : xMost 1 = 4294967294 := rfl;have e3 : bOf true = 64 := rfl;have e4 : codeMax true = 4294967295 := rfl;rw [e, e2, e3, e4];rw [e2] at h2
  split
  ·decide
  ·rename_i h3
   have := h2.resolve_left h3;omega
 ·subst h
  refine ⟨false, rfl, rfl, ?_⟩;unfold totN codN xTotal xCode;have e : mostOf 2 = 32 := rfl;have e2 : xMost 2 = 65534 := rfl;have e3 : bOf false = 32 := rfl;have e4 : codeMax false = 65535 := rfl;rw [e, e2, e3, e4];rw [e2] at h2
  split
  ·decide
  ·rename_i h3
   have := h2.resolve_left h3;omega
theorem xsalts {big : Bool} {len : Int} {nk : Nat} {s t : Sl} (h : xValid (kOf big) len nk s t = 0) : 4 * s.n <= bOf big /\ 4 * t.n <= bOf big := by
 have ho := xOK_of h
 by_cases h2 : mostOf (kOf big) < nk
 ·rw [xValid_key ho h2] at h; exact absurd h (by decide)
 ·rw [xValid_chk ho h2] at h
  exact (chk_range h).2.2.2.2.2.2
theorem pieces_lt {f T I : Nat} (hf : 1 <= f) (hT : 1 <= T) : (T + f - 1) / f <= I ↔ T <= I * f := by
 rw [Nat.div_le_iff_le_mul_add_pred hf, Nat.mul_comm f I];omega
theorem pieceS_bad {k len : Int} {s t : Sl} {ls lp root : List UInt8} {I : Nat} (h : xValid k len 0 s t ≠ 0) : pieceS k len s t ls lp root I = ([], xValid k len 0 s t) := by unfold pieceS; rw [if_pos h]
theorem pieceS_arg {big : Bool} {len : Int} {s t : Sl} {ls lp root : List UInt8} {I : Nat} (h : xValid (kOf big) len 0 s t = 0) (h2 : root.length ≠ bOf big \/ totN (kOf big) len <= I * bOf big) : pieceS (kOf big) len s t ls lp root I = ([], 1) := by
 unfold pieceS; rw [if_neg (fun h3 => h3 h), kOf_is, if_pos h2]
theorem pieceS_ok {big : Bool} {len : Int} {s t : Sl} {ls lp root : List UInt8} {I : Nat} (h : xValid (kOf big) len 0 s t = 0) (h2 : ¬ (root.length ≠ bOf big \/ totN (kOf big) len <= I * bOf big)) :
  pieceS (kOf big) len s t ls lp root I = ((hashL big (pceP (bOf big) (totN (kOf big) len) I (codN (kOf big) len) s t) ls lp [] false root).take (pceM (bOf big) (totN (kOf big) len) I), 0) := by
 unfold pieceS; rw [if_neg (fun h3 => h3 h), kOf_is, if_neg h2]
def givesV (p : Nat) : Value := .func (.func 65) #[.pointer (some ⟨p, 0, none⟩)] #[]
theorem XT.lt {w : World} {base p : Nat} {big : Bool} {len : Int} {key ls lp : List UInt8} {wr : UInt64} {e : Eng} {cs : Array Value} {Ak : Option Addr} {ck : Nat} {s pp : Sl} {q : Nat} {F : List Nat} (h : XT w base p big len key ls lp wr e cs Ak ck s pp q F) : p < w.heap.size := h.blk.lt
theorem XT.but {w w' : World} {base p : Nat} {big : Bool} {len : Int} {key ls lp : List UInt8} {wr : UInt64} {e : Eng} {cs : Array Value} {Ak : Option Addr} {ck : Nat} {s pp : Sl} {q : Nat} {F G : List Nat} (h : XT w base p big len key ls lp wr e cs Ak ck s pp q F) (hb : But G w w') (hp : p ∉ G) (hF : ∀ k, k ∈ F -> k ∉ G)
  (hk : ∀ a, Ak = some a -> a.block ∉ G) (hs : ∀ a, s.A = some a -> a.block ∉ G) (hpp : ∀ a, pp.A = some a -> a.block ∉ G) : XT w' base p big len key ls lp wr e cs Ak ck s pp q F :=
 ⟨h.blk.but hb hp, h.xc, h.hls, h.hlp, h.ok.but hb hk, h.os.but hb hs, h.op.but hb hpp, h.fk, h.fs, h.fp, h.nd.but hb hF, h.hp, h.hF, h.pF⟩
theorem XT.below {w w' : World} {base p : Nat} {big : Bool} {len : Int} {key ls lp : List UInt8} {wr : UInt64} {e : Eng} {cs : Array Value} {Ak : Option Addr} {ck : Nat} {s pp : Sl} {q : Nat} {F : List Nat} (h : XT w base p big len key ls lp wr e cs Ak ck s pp q F) (hb : Below w.heap.size w w') : XT w' base p big len key ls lp wr e cs Ak ck s pp q F :=
 h.but (But.of hb []) (fun h => by cases h) (fun _ _ h => by cases h) (fun _ _ h => by cases h) (fun _ _ h => by cases h) (fun _ _ h => by cases h)
theorem XT.wrote {w w' : World} {base p : Nat} {big : Bool} {len : Int} {key ls lp : List UInt8} {wr wr' : UInt64} {e e' : Eng} {cs : Array Value} {Ak : Option Addr} {ck : Nat} {s pp : Sl} {q : Nat} {F F' : List Nat} (h : XT w base p big len key ls lp wr e cs Ak ck s pp q F) (hb : But F w w')
  (hN : Nd w' q big (bOf big) (encL big (rootP (kOf big) len key.length s pp) ls lp) key false wr' e' F') (hF' : ∀ k, k ∈ F' -> k ∈ F \/ w.heap.size <= k) (hbase : base <= w.heap.size) : XT w' base p big len key ls lp wr' e' cs Ak ck s pp q F' := by
 have far : ∀ {A : Option Addr} {c : Nat} {l : List UInt8}, OS cB w base A c l -> (∀ a, A = some a -> a.block ∉ p :: F) -> ∀ a, A = some a -> a.block ∉ p :: F' := by
  intro A c l ho hf a ha hm;rcases List.mem_cons.1 hm with h1 | h1
  ·exact hf a ha (List.mem_cons.2 (.inl h1))
  ·rcases hF' _ h1 with h2 | h2
   ·exact hf a ha (List.mem_cons.2 (.inr h2))
   ·have := (ho.block_lt a ha).2; omega
 refine ⟨h.blk.but hb h.pF, h.xc, h.hls, h.hlp, h.ok.but hb (fun a ha hm => h.fk a ha (List.mem_cons.2 (.inr hm))), h.os.but hb (fun a ha hm => h.fs a ha (List.mem_cons.2 (.inr hm))), h.op.but hb (fun a ha hm => h.fp a ha (List.mem_cons.2 (.inr hm))), far h.ok h.fk, far h.os h.fs, far h.op h.fp, hN, h.hp, fun k hk => ?_, fun hm => ?_⟩
 ·rcases hF' k hk with h2 | h2
  ·exact h.hF k h2
  ·omega
 ·rcases hF' p hm with h2 | h2
  ·exact h.pF h2
  ·have := h.blk.lt; omega
theorem xtakes_any (base p : Nat) (big : Bool) (len : Int) (key ls lp : List UInt8) (wr : UInt64) (e : Eng) (cs : Array Value) (Ak : Option Addr) (ck : Nat) (s pp : Sl) (q : Nat) (F : List Nat) (Ab : Option Addr) (nb cb : Nat) (L : List UInt8) (w : World) (hX : XT w base p big len key ls lp wr e cs Ak ck s pp q F) (hbase : base <= w.heap.size)
  (hL : L.length = nb) (hnb : nb <= cb) (hcb : cb <= 9223372036854775807) (hr : RS cB w w.heap.size Ab L) (hfar : L ≠ [] -> ∀ a, Ab = some a -> a.block ∉ F) :
  Calls Tryz.prog 61 #[.pointer (some ⟨p, 0, none⟩), .slice Ab nb cb] w fun r w' => r = .returned (.int .i64 0) /\ ∃ F', XT w' base p big len key ls lp (wr + UInt64.ofNat nb) (e.feed L) cs Ak ck s pp q F' /\ (∀ k, k ∈ F' -> k ∈ F \/ w.heap.size <= k) /\ But F w w' := by
 obtain ⟨now, -, hx⟩ := hX.xc;have d8 : w.cell? ⟨p, 8, none⟩ = some (.pointer (some ⟨q, 0, none⟩)) := (hX.blk.cell 8).trans hx.c8;have hwr := writeN_any q (bOf big) big false (encL big (rootP (kOf big) len key.length s pp) ls lp) key wr e F Ab nb cb L w hX.nd hL hnb hcb hr hfar;have HX := zH hX; have HWR := zH hwr; clear hX hwr hx hr hfar hL;go_enter Tryz.func61, Tryz.ntmps61;go_wp2_with fail;refine HWR.mono ?_;rintro e1 w1 ⟨rfl, F', hN, hF', hb⟩;have HN := zH hN; have HF := zH hF'; have HB := zH hb; clear hN hF' hb;go_wp2_with fail;exact aZB (aZK rfl _ _ _) rfl ⟨rfl, F', HX.wrote HB HN HF hbase, HF.out, HB.out⟩
theorem xwrite_any (base p : Nat) (big : Bool) (len : Int) (key ls lp : List UInt8) (wr : UInt64) (e : Eng) (cs : Array Value) (Ak : Option Addr) (ck : Nat) (s pp : Sl) (q : Nat) (F : List Nat) (Ab : Option Addr) (nb cb : Nat) (L : List UInt8) (w : World) (hX : XT w base p big len key ls lp wr e cs Ak ck s pp q F) (hbase : base <= w.heap.size)
  (hL : L.length = nb) (hnb : nb <= cb) (hcb : cb <= 9223372036854775807) (hr : RS cB w w.heap.size Ab L) (hfar : L ≠ [] -> ∀ a, Ab = some a -> a.block ∉ F) :
  Calls Tryz.prog 21 #[.pointer (some ⟨p, 0, none⟩), .slice Ab nb cb] w fun r w' => r = .returned (.int .i64 0) /\ ∃ F', XT w' base p big len key ls lp (wr + UInt64.ofNat nb) (e.feed L) cs Ak ck s pp q F' /\ (∀ k, k ∈ F' -> k ∈ F \/ w.heap.size <= k) /\ But F w w' := by
 obtain ⟨now, -, hx⟩ := hX.xc;have c76 : cs[76]? = some (.func (.func 61) #[.pointer (some ⟨p, 0, none⟩)] #[]) := hx.c76;have d76 : w.cell? ⟨p, 76, none⟩ = some (.func (.func 61) #[.pointer (some ⟨p, 0, none⟩)] #[]) := (hX.blk.cell 76).trans c76;have hno := xnone_any p cs w hX.blk _ _ _ c76;have hta := xtakes_any base p big len key ls lp wr e cs Ak ck s pp q F Ab nb cb L w hX hbase hL hnb hcb hr hfar;have HNO := zH hno; have HTA := zH hta; clear hno hta hX hx hr hfar hL c76;go_enter Tryz.func21, Tryz.ntmps21;go_wp2_with (go_at_call 29; refine HNO.mono ?_; rintro e0 w0 ⟨rfl, rfl⟩);refine HTA.mono ?_;rintro e1 w1 ⟨rfl, F', hX, hF', hb⟩;have HX := zH hX; have HF := zH hF'; have HB := zH hb; clear hX hF' hb;go_wp2_with fail;exact aZB (aZK rfl _ _ _) rfl ⟨rfl, F', HX.out, HF.out, HB.out⟩
def noSl : Sl := ⟨none, 0, 0⟩
def pieceL (big : Bool) (len : Int) (ls lp root : List UInt8) (i : Nat) : List UInt8 := (hashL big (pceP (bOf big) (totN (kOf big) len) i (codN (kOf big) len) noSl noSl) ls lp [] false root).take (pceM (bOf big) (totN (kOf big) len) i)
structure XG (w : World) (base p : Nat) (big : Bool) (len : Int) (key ls lp : List UInt8) (wr : UInt64) (e : Eng) (root : List UInt8) (pos : Nat) (cs : Array Value) (Ak : Option Addr) (ck : Nat) (s pp : Sl) (q : Nat) (F : List Nat) (Ar : Option Addr) (cr : Nat) (hv : Int) (now : List UInt8) : Prop where
  blk : Blk w p 71 cs
  xc : XC cs (kOf big) (mostOf (kOf big)) (xCode (kOf big) len) (xTotal (kOf big) len) (decide (len ≠ -1)) (.slice Ak key.length ck) s.v pp.v (.pointer (some ⟨q, 0, none⟩)) (.slice Ar (bOf big) (bOf big)) pos hv (givesV p) now
  hnow : now.length = 64
  hls : ls.length = s.n
  hlp : lp.length = pp.n
  ok : OS cB w base Ak ck key
  os : OS cB w base s.A s.c ls
  op : OS cB w base pp.A pp.c lp
  fk : ∀ a, Ak = some a -> a.block ∉ p :: F
  fs : ∀ a, s.A = some a -> a.block ∉ p :: F
  fp : ∀ a, pp.A = some a -> a.block ∉ p :: F
  nd : Nd w q big (bOf big) (encL big (rootP (kOf big) len key.length s pp) ls lp) key false wr e F
  hp : base <= p
  hF : ∀ k, k ∈ F -> base <= k
  pF : p ∉ F
  or : OS cB w base Ar cr root
  rl : root.length = bOf big
  fr : ∀ a, Ar = some a -> a.block ∉ p :: F
  hve : hv = -1 \/ ∃ i : Nat, hv = i /\ i * bOf big < totN (kOf big) len /\ now.take (pceM (bOf big) (totN (kOf big) len) i) = pieceL big len ls lp root i
  hpos : pos <= totN (kOf big) len
theorem xgive_any (base p : Nat) (big : Bool) (len : Int) (key ls lp : List UInt8) (wr : UInt64) (e : Eng) (cs : Array Value) (Ak : Option Addr) (ck : Nat) (s pp : Sl) (q : Nat) (F : List Nat) (w : World) (hX : XT w base p big len key ls lp wr e cs Ak ck s pp q F) (hbase : base <= w.heap.size) (hfull : e.full = bOf big) (hlen : (e.out false).length = bOf big) :
  Calls Tryz.prog 44 #[.pointer (some ⟨p, 0, none⟩)] w fun r w' => r = .returned (.tuple #[]) /\ ∃ cs' Ar cr hv now, XG w' base p big len key ls lp wr e ((e.out false).take (bOf big)) 0 cs' Ak ck s pp q F Ar cr hv now /\ But [p] w w' /\ (∀ a, Ar = some a -> w.heap.size <= a.block) := by
 obtain ⟨now, hn64, hx⟩ := hX.xc;have hb0 : 1 <= bOf big := by cases big <;> decide
 have hou := fun W h => outN_any q (bOf big) (bOf big) big false (encL big (rootP (kOf big) len key.length s pp) ls lp) key wr e F W h ⟨hb0, aZC _⟩ hfull
 have d9 : w.cell? ⟨p, 9, none⟩ = some (.slice none 0 0) := (hX.blk.cell 9).trans hx.c9;have d8 : w.cell? ⟨p, 8, none⟩ = some (.pointer (some ⟨q, 0, none⟩)) := (hX.blk.cell 8).trans hx.c8;have d1 : w.cell? ⟨p, 1, none⟩ = some (.int .i64 (bOf big)) := by rw [<- mostOf_k]; exact (hX.blk.cell 1).trans hx.c1
 have hmf : ∀ (fn : Fn) (first cap : Array Value) (w : World), (Instr.makeFunc fn first cap).run Tryz.prog w = .ok (.func fn first cap) w := fun _ _ _ _ => rfl
 have hbo : ∀ W, Sem.run Tryz.prog (Go.binOp .eql 22 (.slice none 0 0) (.slice none 0 0)) W = .ok (.bool true) W := by intro W; rfl
 have HX := zH hX; have HOU := zH hou; have HXC := zH hx; have HLN := zH hlen; clear hX hou hx hfull hb0 hlen;go_enter Tryz.func44, Tryz.ntmps44;go_upto_region 1 with fail
 refine wrZ (fun _ => True) (fun _ _ h => h) (Ords.of [(0, 0), (0, 1), (0, 2), (0, 3), (1, 4), (0, 5), (0, 6), (0, 7), (0, 8), (1, 9), (2, 10), (0, 11), (0, 12), (0, 13), (0, 14), (0, 15), (2, 16)] .fin) trivial ?_
 iterate 10 ((first | refine ords_pure rfl (fun K hK => ?_) | refine ords_read rfl (fun K hK => ?_)); go_simp; refine hK _ ?_; clear hK K)
 refine ords_loud rfl (fun n1 => ?_);go_wp2_with (go_at_call 64; refine (HOU _ (HX.nd.drewN _)).mono ?_; rintro e1 w1 ⟨A1, c1, rfl, ho1, hb1⟩);have B1 := zH (HX.blk.below (bcall (bdr (b0 w) _) hb1) HX.blk.lt); have HB1 := zH (bcall (bdr (b0 w) _) hb1); have HO1 := zH ho1; clear hb1 ho1;have e9 : w1.cell? ⟨p, 9, none⟩ = some (.slice none 0 0) := (B1.cell 9).trans HXC.c9;have e76 : w1.cell? ⟨p, 76, none⟩ = some (takesV p) := (B1.cell 76).trans HXC.c76;have f9 := B1.frozen 9;have f76 := B1.frozen 76;refine ⟨trivial, ?_⟩
 iterate 5 (refine ords_pure rfl (fun K hK => ?_); go_simp; refine hK _ ?_; clear hK K)
 refine ords_loud rfl (fun n2 => ?_);go_wp2_with fail
 first | (refine ⟨trivial, ?_⟩; refine ords_end (fun n3 => ?_)) | (rintro _ ⟨n3, rfl⟩)
 go_wp2_with fail;go_end0;have B5 := But.setCell (p := ⟨p, 76, none⟩) ((But.setCell (p := ⟨p, 9, none⟩) ((But.refl [p] w1).drewN n2) (.inl (List.mem_singleton.2 rfl)) (.slice A1 (bOf big) (bOf big))).drewN n3) (.inl (List.mem_singleton.2 rfl)) (givesV p);have sg : ∀ {k : Nat}, k ∈ [p] -> k ∈ p :: F := fun h => List.mem_cons.2 (.inl (List.mem_singleton.1 h))
 have ho := (HO1.mono hbase).but B5 (fun a ha h => by have h1 := (HO1.block_lt a ha).1; rw [List.mem_singleton.1 h] at h1; have h2 := HX.blk.lt; exact Nat.lt_irrefl _ (Nat.lt_of_lt_of_le h2 h1));refine ⟨rfl, _, A1, c1, -1, now, ⟨(((B1.drewN n2).set_ 9 _).drewN n3).set_ 76 _, (HXC.put9 _).put76 _, hn64, HX.hls, HX.hlp, (HX.ok.below HB1 (aZC _)).but B5 (fun a ha h => HX.fk a ha (sg h)), (HX.os.below HB1 (aZC _)).but B5 (fun a ha h => HX.fs a ha (sg h)), (HX.op.below HB1 (aZC _)).but B5 (fun a ha h => HX.fp a ha (sg h)),
  HX.fk, HX.fs, HX.fp, (HX.nd.below HB1.out).but B5 (fun k hk h => HX.pF (by rw [<- List.mem_singleton.1 h]; exact hk)), HX.hp, HX.hF, HX.pF, ho, by rw [List.length_take, HLN.out, Nat.min_self], fun a ha h => ?_, .inl rfl, Nat.zero_le _⟩, (But.of HB1.out [p]).trans B5 (fun k hk => .inl hk), fun a ha => (HO1.block_lt a ha).1⟩
 have h1 : w.heap.size <= a.block := (HO1.block_lt a ha).1;rcases List.mem_cons.1 h with h2 | h2
 ·have h3 := HX.blk.lt; omega
 ·have h3 := HX.nd.lt _ h2; omega
end Go.Proofs.YtmapfcdffklopaaGreat

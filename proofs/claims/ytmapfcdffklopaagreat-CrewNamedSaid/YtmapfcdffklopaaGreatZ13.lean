/-
  Z13: contracts and lemmas alone; no statement is claimed here.
-/
import Derived.Test.YtmapfcdffklopaaGreatZx
import Derived.Test.YtmapfcdffklopaaGreatZxb
import Derived.Test.YtmapfcdffklopaaGreatZxc
import Derived.Test.YtmapfcdffklopaaGreatZ1
import Derived.Test.YtmapfcdffklopaaGreatZ12
import Derived.Test.YtmapfcdffklopaaGreatZ4
import Derived.Deep.MidRow
set_option maxHeartbeats 4000000
set_option maxRecDepth 20000
namespace Go.Proofs.YtmapfcdffklopaaGreat
open Go renaming wpList_load_mid → aZX
open Go renaming results_tmp2 → aZG
open _root_.Option.some renaming inj → aZF
open _root_.Nat renaming le_refl → aZC
open Go renaming bodyPost_ret → aZB
open Lib renaming hid -> zH
open Go.RowKit
attribute [local go_sem] pureUpon Ords.of
structure Pr.Fit (p : Pr) : Prop where
  leaf : 0 <= p.leaf /\ p.leaf < 4294967296
  offset : 0 <= p.offset /\ p.offset < 18446744073709551616
  xof : 0 <= p.xof /\ p.xof < 4294967296
def fieldI (p : Pr) (f : Nat) : Int :=
  if f = 1 then p.digest else if f = 2 then p.key else if f = 3 then p.fanout else if f = 4 then p.depth else if f = 5 then p.leaf else if f = 6 then p.offset else if f = 7 then p.xof else if f = 8 then p.nd else p.inner
def fieldV (p : Pr) (f : Nat) : UInt64 := UInt64.ofNat (fieldI p f).toNat
def encTo (big : Bool) (p : Pr) : Nat -> List UInt8
  | 0 => List.replicate (bOf big) 0
  | k + 1 => let r := (rowTab big).getD k (0, 0, 0); if r.1 = 7 /\ p.xof = 0 then encTo big p k else putL (encTo big p k) r.2.1 (fieldV p r.1).toNat r.2.2
theorem encTo_len (big : Bool) (p : Pr) : ∀ k, (encTo big p k).length = bOf big
 | 0 => List.length_replicate
 | k + 1 => by
  unfold encTo
  dsimp only
  split
  ·exact encTo_len big p k
  ·rw [putL_len]; exact encTo_len big p k
def encL (big : Bool) (p : Pr) (ls lp : List UInt8) : List UInt8 := over (over (encTo big p 9) (bOf big / 2) ls) (3 * (bOf big / 4)) lp
theorem encL_len (big : Bool) (p : Pr) (ls lp : List UInt8) (h1 : 4 * ls.length <= bOf big) (h2 : 4 * lp.length <= bOf big) : (encL big p ls lp).length = bOf big := by
 unfold encL;rw [over_len _ _ _ (by rw [over_len _ _ _ (by rw [encTo_len]; cases big <;> simp [bOf] at * <;> omega), encTo_len]; cases big <;> simp [bOf] at * <;> omega), over_len _ _ _ (by rw [encTo_len]; cases big <;> simp [bOf] at * <;> omega), encTo_len]
theorem chk_range {big : Bool} {p : Pr} (h : chk (kOf big) p = 0) : (1 <= p.digest /\ p.digest <= bOf big) /\ (0 <= p.key /\ p.key <= bOf big) /\ (0 <= p.fanout /\ p.fanout <= 255) /\ (0 <= p.depth /\ p.depth <= 255) /\ (0 <= p.nd /\ p.nd <= 255) /\ (0 <= p.inner /\ p.inner <= bOf big) /\ 4 * p.salt.n <= bOf big /\ 4 * p.pers.n <= bOf big := by
 have e : mostOf (kOf big) = bOf big := by cases big <;> rfl
 have e0 : 0 < bOf big := by cases big <;> decide
 unfold chk at h;rw [e] at h;generalize bOf big = n at *
 repeat (split at h; · exact absurd h (by decide))
 refine ⟨?_, ?_, ?_, ?_, ?_, ?_, ?_, ?_⟩ <;> omega
theorem field_ok {big : Bool} {p : Pr} (h : chk (kOf big) p = 0) (hf : p.Fit) (f : Nat) : 0 <= fieldI p f /\ fieldI p f < 18446744073709551616 := by
 obtain ⟨h1, h2, h3, h4, h5, h6, -, -⟩ := chk_range h;have hb : (bOf big : Int) <= 64 := by cases big <;> decide
 have := hf.leaf; have := hf.offset; have := hf.xof;unfold fieldI
 repeat' split
 all_goals omega
theorem wrd_field {big : Bool} {p : Pr} (h : chk (kOf big) p = 0) (hf : p.Fit) (f : Nat) : wrd (fieldV p f) = fieldI p f := by
 have := field_ok h hf f;unfold fieldV;rw [wrd_ofNat];omega
theorem value_any {big : Bool} {p : Pr} (h : chk (kOf big) p = 0) (hf : p.Fit) (f : Nat) (h1 : 1 <= f /\ f <= 9) (w : World) : Calls Tryz.prog 108 #[p.v, .int .i64 f] w fun e w' => e = .returned (.int .u64 (wrd (fieldV p f))) /\ Below w.heap.size w w' := by
 have h2 := field_ok h hf;rw [wrd_field h hf];have : f = 1 \/ f = 2 \/ f = 3 \/ f = 4 \/ f = 5 \/ f = 6 \/ f = 7 \/ f = 8 \/ f = 9 := by omega
 rcases this with rfl | rfl | rfl | rfl | rfl | rfl | rfl | rfl | rfl
 ·exact value_1 p w (h2 1)
 ·exact value_2 p w (h2 2)
 ·exact value_3 p w (h2 3)
 ·exact value_4 p w (h2 4)
 ·exact value_5 p w (h2 5)
 ·exact value_6 p w (h2 6)
 ·exact value_7 p w (h2 7)
 ·exact value_8 p w (h2 8)
 ·exact value_9 p w (h2 9)
theorem row_at (big : Bool) (k : Nat) (hk : k < 9) : ∃ (f at_ size : Nat) (s : ByteArray) (e : Int), (rowTab big).getD k (0, 0, 0) = (f, at_, size) /\ 1 <= f /\ f <= 9 /\ at_ + size <= bOf big /\ size <= 8 /\
  ((rowCells big).extract (k * 5) (k * 5 + 5)).toList = [.int .i64 f, .int .i64 at_, .int .i64 size, .string s, .int .i64 e] := by
 have : k = 0 \/ k = 1 \/ k = 2 \/ k = 3 \/ k = 4 \/ k = 5 \/ k = 6 \/ k = 7 \/ k = 8 := by omega
 cases big <;> rcases this with rfl | rfl | rfl | rfl | rfl | rfl | rfl | rfl | rfl <;> exact ⟨_, _, _, _, _, rfl, by decide, by decide, by decide, by decide, rfl⟩
def zB (n : Nat) : Array Value := madeCells #[cB.zero] n
theorem make_zB (n : Nat) (hn : n <= 1024) (W : World) : (Instr.makeSlice 22 (.int .i64 n) (.int .i64 n)).run Tryz.prog W = .ok (.slice (some ⟨W.heap.size, 0, none⟩) n n) (W.alloc (.cells (zB n) 5)) :=
 run_makeS cB_ok .i64 .i64 n n (aZC _) (by show 1 * n <= _; omega) (by omega) W
theorem encodeBig_any (p : Pr) (ls lp : List UInt8) (w : World) (hc : chk 1 p = 0) (hf : p.Fit) (hls : ls.length = p.salt.n) (hlp : lp.length = p.pers.n) (hrs : RS cB w w.heap.size p.salt.A ls) (hrp : RS cB w w.heap.size p.pers.A lp) :
    Calls Tryz.prog 87 #[.int .i64 1, p.v] w fun e w' => ∃ A c, e = .returned (.tuple #[.slice A 64 c, .int .i64 0]) /\ OS cB w' w.heap.size A c (encL true p ls lp) /\ Below w.heap.size w w' := by open kA in exact zS2
theorem encodeSmall_any (p : Pr) (ls lp : List UInt8) (w : World) (hc : chk 2 p = 0) (hf : p.Fit) (hls : ls.length = p.salt.n) (hlp : lp.length = p.pers.n) (hrs : RS cB w w.heap.size p.salt.A ls) (hrp : RS cB w w.heap.size p.pers.A lp) :
    Calls Tryz.prog 87 #[.int .i64 2, p.v] w fun e w' => ∃ A c, e = .returned (.tuple #[.slice A 32 c, .int .i64 0]) /\ OS cB w' w.heap.size A c (encL false p ls lp) /\ Below w.heap.size w w' := by open kB in exact zS2
theorem encode_any (big : Bool) (p : Pr) (ls lp : List UInt8) (w : World) (hc : chk (kOf big) p = 0) (hf : p.Fit) (hls : ls.length = p.salt.n) (hlp : lp.length = p.pers.n) (hrs : RS cB w w.heap.size p.salt.A ls) (hrp : RS cB w w.heap.size p.pers.A lp) :
  Calls Tryz.prog 87 #[.int .i64 (kOf big), p.v] w fun e w' => ∃ A c, e = .returned (.tuple #[.slice A (bOf big) c, .int .i64 0]) /\ OS cB w' w.heap.size A c (encL big p ls lp) /\ Below w.heap.size w w' := by
 cases big with
 | true => exact encodeBig_any p ls lp w hc hf hls hlp hrs hrp
 | false => exact encodeSmall_any p ls lp w hc hf hls hlp hrs hrp
theorem encodeBad_any (k : Int) (p : Pr) (w : World) (hc : chk k p ≠ 0) :
  Calls Tryz.prog 87 #[.int .i64 k, p.v] w fun e w' => e = .returned (.tuple #[.slice none 0 0, .int .i64 (chk k p)]) /\ Below w.heap.size w w' := by
 have hck := fun W => check_any k p W
 have t1 : (chk k p != 0) = true := by simpa using hc
 generalize chk k p = r at *;unfold Pr.v Pr.cs Sl.v at *;have HCK := zH hck; clear hck hc;go_enter Tryz.func87, Tryz.ntmps87;go_wp2_with (go_at_call 58; refine (HCK.out _).mono ?_; rintro e w1 ⟨rfl, hbw1⟩; (first | refine withN hbw1 ?_ | refine withD hbw1 ?_ | refine with0 hbw1 ?_); intro hcw1 hfw1; have z0w1 : w.heap.size < w1.heap.size := (by have := hbw1.size; (try simp at this); omega));exact aZB (aZG rfl _ _ _) rfl ⟨rfl, bcall (bal (b0 w) _) hbw1⟩
theorem newBad_any (k : Int) (p : Pr) (Ak : Option Addr) (nk ck : Nat) (w : World) (hc : chk k p ≠ 0) :
  Calls Tryz.prog 60 #[.int .i64 k, p.v, .slice Ak nk ck] w fun e w' => e = .returned (.tuple #[.pointer none, .int .i64 (chk k p)]) /\ Below w.heap.size w w' := by
 have hck := fun W => encodeBad_any k p W hc
 have t1 : (chk k p != 0) = true := by simpa using hc
 generalize chk k p = r at *;unfold Pr.v Pr.cs Sl.v at *;have HCK := zH hck; clear hck hc;go_enter Tryz.func60, Tryz.ntmps60;go_wp2_with (go_at_call 87; refine (HCK.out _).mono ?_; rintro e w1 ⟨rfl, hbw1⟩; (first | refine withN hbw1 ?_ | refine withD hbw1 ?_ | refine with0 hbw1 ?_); intro hcw1 hfw1; have z0w1 : w.heap.size < w1.heap.size := (by have := hbw1.size; (try simp at this); omega));exact aZB (aZG rfl _ _ _) rfl ⟨rfl, bcall (bal (b0 w) _) hbw1⟩
theorem newKey_any (big : Bool) (p : Pr) (ls lp : List UInt8) (Ak : Option Addr) (nk ck : Nat) (w : World) (hc : chk (kOf big) p = 0) (hf : p.Fit) (hls : ls.length = p.salt.n) (hlp : lp.length = p.pers.n) (hrs : RS cB w w.heap.size p.salt.A ls) (hrp : RS cB w w.heap.size p.pers.A lp)
  (h0 : nk ≠ 0) (hk : (nk : Int) ≠ p.key) :
  Calls Tryz.prog 60 #[.int .i64 (kOf big), p.v, .slice Ak nk ck] w fun e w' => e = .returned (.tuple #[.pointer none, .int .i64 8]) /\ Below w.heap.size w w' := by
 have hen := fun W hrs hrp => encode_any big p ls lp W hc hf hls hlp hrs hrp
 have t1 : ((nk : Int) != 0) = true := by simpa using h0
 have t2 : ((nk : Int) != p.key) = true := by simpa using hk
 clear hc;unfold Pr.v Pr.cs Sl.v at *;have HEN := zH hen; have HRS := zH hrs; have HRP := zH hrp; clear hen hrs hrp hls hlp hf h0 hk;generalize hkk : kOf big = kk at *;clear hkk;go_enter Tryz.func60, Tryz.ntmps60;go_wp2_with (go_at_call 87; refine (HEN.out _ ((HRS.alloc (aZC _) _).more (by simp)) ((HRP.alloc (aZC _) _).more (by simp))).mono ?_; rintro e w1 ⟨A1, c1, rfl, ho1, hbw1⟩; (first | refine withN hbw1 ?_ | refine withD hbw1 ?_ | refine with0 hbw1 ?_); intro hcw1 hfw1; have z0w1 : w.heap.size < w1.heap.size := (by have := hbw1.size; (try simp at this); omega));exact aZB (aZG rfl _ _ _) rfl ⟨rfl, bcall (bal (b0 w) _) hbw1⟩
theorem new_any (big : Bool) (d : Nat) (p : Pr) (ls lp key : List UInt8) (Ak : Option Addr) (nk ck : Nat) (w : World) (hc : chk (kOf big) p = 0) (hf : p.Fit) (hd : p.digest = d) (hls : ls.length = p.salt.n) (hlp : lp.length = p.pers.n) (hrs : RS cB w w.heap.size p.salt.A ls) (hrp : RS cB w w.heap.size p.pers.A lp)
  (hk : key.length = nk) (hkk : nk = 0 \/ (nk : Int) = p.key) (hrk : RS cB w w.heap.size Ak key) :
  Calls Tryz.prog 60 #[.int .i64 (kOf big), p.v, .slice Ak nk ck] w fun r w' => ∃ q F, r = .returned (.tuple #[.pointer (some ⟨q, 0, none⟩), .int .i64 0]) /\ Nd w' q big d (encL big p ls lp) key false 0 (startK big (encL big p ls lp) key) F /\ (∀ k, k ∈ F -> w.heap.size <= k) /\ Below w.heap.size w w' := by
 have hen := fun W hrs hrp => encode_any big p ls lp W hc hf hls hlp hrs hrp
 have hrg := chk_range hc;have hb64 : bOf big <= 64 := by cases big <;> decide
 have hnk : nk <= 2 * bOf big := by rcases hkk with h | h <;> omega
 have hel : (encL big p ls lp).length = bOf big := encL_len big p ls lp (by rw [hls]; omega) (by rw [hlp]; omega);generalize encL big p ls lp = X at *;have hma := fun (A : Option Addr) (c : Nat) (W : World) hrx hrk => made_any d big X key A Ak (bOf big) nk c ck W hel rfl hk hnk hrx hrk
 have t3 : ((nk : Int) != 0) = false \/ (((nk : Int) != 0) = true /\ ((nk : Int) != p.key) = false) := by
  by_cases h : nk = 0
  ·exact .inl (by simpa using h)
  ·exact .inr ⟨by simpa using h, by have := hkk.resolve_left h; simpa using this⟩
 have hnk2 : nk <= 128 := by omega
 clear hc hkk hrg hnk;unfold Pr.v Pr.cs Sl.v at *;rw [hd] at hen;simp only [hd] at *;have HEN := zH hen; have HRS := zH hrs; have HRP := zH hrp; have HRK := zH hrk; have HMA := zH hma; clear hen hrs hrp hrk hma hls hlp hf hk hel hd;generalize hkq : kOf big = kk at *;clear hkq;generalize bOf big = nb at *;rcases t3 with t1 | ⟨t1, t2⟩
 all_goals
  go_enter Tryz.func60, Tryz.ntmps60;go_wp2_with (first
   | (go_at_call 87; refine (HEN.out _ ((HRS.alloc (aZC _) _).more (by simp)) ((HRP.alloc (aZC _) _).more (by simp))).mono ?_; rintro e w1 ⟨A1, c1, rfl, ho1, hbw1⟩; (first | refine withN hbw1 ?_ | refine withD hbw1 ?_ | refine with0 hbw1 ?_); intro hcw1 hfw1; have z0w1 : w.heap.size < w1.heap.size := (by have := hbw1.size; (try simp at this); omega))
   | (go_at_call 88; refine (HMA.out _ _ _ ho1.reads ((HRK.below (bcall (bal (b0 w) _) hbw1)).more (by have := hbw1.size; simp at this; omega))).mono ?_; rintro e2 w2 ⟨q, g, A2, c2, Ax, Ak2, cx, ck2, rfl, hN2, hb2, hq2, hg2⟩; have HN2 := zH hN2; have HB2 := zH hb2; have HQ2 := zH hq2; have HG2 := zH hg2; clear hN2 hb2 hq2 hg2))
  have hlow : w.heap.size <= w1.heap.size := by omega
  exact aZB (aZG rfl _ _ _) rfl ⟨q, _, rfl, HN2.nd, fun k hk => Nat.le_trans hlow (HN2.low HQ2 HG2 k hk), bcall (bcall (bal (b0 w) _) hbw1) HB2.out⟩
def hashL (big : Bool) (p : Pr) (ls lp key : List UInt8) (last : Bool) (data : List UInt8) : List UInt8 := ((startK big (encL big p ls lp) key).feed data).out last
theorem startK_full (big : Bool) (x key : List UInt8) : (startK big x key).full = bOf big := by
 unfold startK
 split
 ·exact startOf_full big x
 ·rw [Eng.feed_full]; exact startOf_full big x
theorem hashL_len (big : Bool) (p : Pr) (ls lp key : List UInt8) (last : Bool) (data : List UInt8) : (hashL big p ls lp key last data).length = bOf big := by
 unfold hashL; rw [Eng.out_len, Eng.feed_full, startK_full]
theorem Nd.put4 {w : World} {p d : Nat} {big last : Bool} {x key : List UInt8} {wr : UInt64} {e : Eng} {F : List Nat} (h : Nd w p big d x key last wr e F) (l : Bool) : Nd (w.setCell ⟨p, 4, none⟩ (.bool l)) p big d x key l wr e F := by
 obtain ⟨Ax, Ak, nx, nk, cx, ck, g, A, c, hN, rfl⟩ := h;exact ⟨Ax, Ak, nx, nk, cx, ck, g, A, c, hN.put4 l, rfl⟩
theorem Nd.engine {w : World} {p d : Nat} {big last : Bool} {x key : List UInt8} {wr : UInt64} {e : Eng} {F : List Nat} (h : Nd w p big d x key last wr e F) : ∃ g, Blk w p 118 ((nodeCells big d none none 0 0 0 0 last wr (.iface e.T (.pointer (some ⟨g, 0, none⟩)))).setIfInBounds 2 (w.cell? ⟨p, 2, none⟩).get! |>.setIfInBounds 3 (w.cell? ⟨p, 3, none⟩).get!) /\
  ∀ (Ab : Option Addr) (nb cb : Nat) (L : List UInt8), L.length = nb -> nb <= cb -> cb <= 9223372036854775807 -> RS cB w w.heap.size Ab L -> (L ≠ [] -> ∀ a, Ab = some a -> a.block ∉ F) ->
   Calls Tryz.prog e.fw #[.pointer (some ⟨g, 0, none⟩), .slice Ab nb cb] w fun r w' => r = .returned (.tuple #[]) /\ ∃ F', Nd w' p big d x key last wr (e.feed L) F' /\ (∀ k, k ∈ F' -> k ∈ F \/ w.heap.size <= k) /\ But F w w' := by
 obtain ⟨Ax, Ak, nx, nk, cx, ck, g, A, c, hN, rfl⟩ := h;refine ⟨g, ?_, fun Ab nb cb L hL hnb hcb hr hfar => ?_⟩
 ·have e2 : w.cell? ⟨p, 2, none⟩ = some (.slice Ax nx cx) := hN.blk.cell 2
  have e3 : w.cell? ⟨p, 3, none⟩ = some (.slice Ak nk ck) := hN.blk.cell 3;rw [e2, e3];exact hN.blk
 ·refine (eng_write0 e g 0 A c Ab nb cb L w hN.eng (Nat.zero_le _) hL hnb hcb hr (fun h0 a ha => ⟨(by intro h; injection h with h; exact hfar h0 a ha (mem_foot.2 (.inr (.inl h)))), (by intro h; cases hA : A with | none => rw [hA] at h; cases h | some a' => rw [hA] at h; injection h with h; exact hfar h0 a ha (mem_foot.2 (.inr (.inr (.inr (.inr ⟨a', hA, h.symm⟩))))))⟩)).mono ?_
  rintro r w1 ⟨rfl, A1, c1, hW⟩;have hN1 := hN.wrote (e.feed_T L) hW;refine ⟨rfl, foot p g Ax Ak A1, ⟨Ax, Ak, nx, nk, cx, ck, g, A1, c1, hN1, rfl⟩, ?_, ?_⟩
  ·exact zS54
  ·exact But.grown2 hW.gr (fun k hk => by injection hk with hk; exact mem_foot.2 (.inr (.inl hk.symm))) (fun k hk => by
    cases hA : A with
    | none => rw [hA] at hk; cases hk
    | some a => rw [hA] at hk; injection hk with hk; exact mem_foot.2 (.inr (.inr (.inr (.inr ⟨a, rfl, hk⟩)))))
theorem hash_any (big last : Bool) (d m : Nat) (p : Pr) (ls lp key data : List UInt8) (Ak Ad : Option Addr) (nk ck nd cd : Nat) (w : World) (hc : chk (kOf big) p = 0) (hf : p.Fit) (hd : p.digest = d) (hls : ls.length = p.salt.n) (hlp : lp.length = p.pers.n) (hrs : RS cB w w.heap.size p.salt.A ls) (hrp : RS cB w w.heap.size p.pers.A lp)
  (hk : key.length = nk) (hkk : nk = 0 \/ (nk : Int) = p.key) (hrk : RS cB w w.heap.size Ak key) (hdl : data.length = nd) (hnd : nd <= cd) (hcd : cd <= 9223372036854775807) (hrd : RS cB w w.heap.size Ad data) (hm : 1 <= m /\ m <= bOf big) :
  Calls Tryz.prog 67 #[.int .i64 (kOf big), p.v, .slice Ak nk ck, .bool last, .int .i64 m, .slice Ad nd cd] w fun r w' => ∃ A' c', r = .returned (.tuple #[.slice A' m m, .int .i64 0]) /\ OS cB w' w.heap.size A' c' ((hashL big p ls lp key last data).take m) /\ Below w.heap.size w w' := by open kA in exact zS21
end Go.Proofs.YtmapfcdffklopaaGreat

/-
  Z29: contracts and lemmas alone; no statement is claimed here.
-/
import Derived.Test.YtmapfcdffklopaaGreatZx
import Derived.Test.YtmapfcdffklopaaGreatZxb
import Derived.Test.YtmapfcdffklopaaGreatZxc
import Derived.Test.YtmapfcdffklopaaGreatZ27
import Derived.Test.YtmapfcdffklopaaGreatZ14
import Derived.Test.YtmapfcdffklopaaGreatZ22
import Derived.Test.YtmapfcdffklopaaGreatZ10
import Derived.Test.YtmapfcdffklopaaGreatZ19
import Derived.Deep.CutRange
/- A block goes into a state of the reference. -/
set_option maxHeartbeats 4000000
set_option maxRecDepth 20000
namespace Go.Proofs.YtmapfcdffklopaaGreat
open _root_.List renaming getElem?_map → bZK
open _root_.List renaming getElem?_append_left → bZH
open _root_.List renaming length_map → bZE
open _root_.UInt64 renaming ofNat → bZD
open Go renaming results_cell_row → aZZ
open _root_.Nat renaming zero_le → aZY
open _root_.List renaming length_drop → aZS
open _root_.List renaming take_of_length_le → aZQ
open _root_.List renaming length_append → aZN
open _root_.List renaming length_take → aZJ
open Go renaming wpList_load_row → aZH
open Go renaming results_tmp2 → aZG
open _root_.Option.some renaming inj → aZF
open Go renaming wpList_store_row → aZE
open _root_.Nat renaming le_refl → aZC
open Go renaming bodyPost_ret → aZB
open Lib renaming hid -> zH
open Go.RowKit
attribute [local go_sem] pureUpon Ords.of
theorem refInBig_any (H : List UInt64) (A : Option Addr) (c : Nat) (x : List UInt8) (lo hi : UInt64) (last node : Bool) (w : World) (hH : H.length = 8) (hx : x.length = 128) (hr : RS cB w w.heap.size A x) :
  Calls Tryz.prog 77 #[.int .i64 1, .agg (wcs (H ++ zw 8)), .slice A 128 c, .int .u64 (wrd lo), .int .u64 (wrd hi), .bool last, .bool node] w fun e w' => e = .returned (.agg (wcs (comp64 H (wordsOf x 16) lo hi last node ++ zw 8))) /\ Below w.heap.size w w' := by open kA in exact zS13
theorem down_up (u : UInt32) : IntKind.u64.wrap (wr3 u) = wrd u.toUInt64 := by
 have h : u.toNat < 4294967296 := u.toNat_lt;unfold wrd wr3;rw [wrap_u64, UInt32.toNat_toUInt64];omega
theorem up_down (u : UInt32) : IntKind.u32.wrap (wrd u.toUInt64) = wr3 u := by
 have h : u.toNat < 4294967296 := u.toNat_lt;unfold wrd wr3;rw [wrap_u32w, UInt32.toNat_toUInt64];omega
theorem refInSmall_any (H : List UInt32) (A : Option Addr) (c : Nat) (x : List UInt8) (lo hi : UInt64) (last node : Bool) (w : World) (hH : H.length = 8) (hx : x.length = 64) (hr : RS cB w w.heap.size A x) :
  Calls Tryz.prog 77 #[.int .i64 2, .agg (wcs (H.map (fun x => x.toUInt64) ++ zw 8)), .slice A 64 c, .int .u64 (wrd lo), .int .u64 (wrd hi), .bool last, .bool node] w fun e w' => e = .returned (.agg (wcs ((comp32 H (words3 x 16) lo last node).map (fun x => x.toUInt64) ++ zw 8))) /\ Below w.heap.size w w' := by exact zS13
theorem refIn_any (S : HS) (A : Option Addr) (n c : Nat) (x : List UInt8) (lo hi : UInt64) (last node : Bool) (w : World) (hS : S.Ok) (hn : n = 2 * bOf S.k) (hx : x.length = n) (hr : RS cB w w.heap.size A x) :
  Calls Tryz.prog 77 #[.int .i64 (kOf S.k), .agg (wcs S.words), .slice A n c, .int .u64 (wrd lo), .int .u64 (wrd hi), .bool last, .bool node] w fun e w' => e = .returned (.agg (wcs (S.mix x lo hi last node).words)) /\ Below w.heap.size w w' := by
 subst hn
 cases S with
 | big H => exact refInBig_any H A c x lo hi last node w hS hx hr
 | small H => exact refInSmall_any H A c x lo hi last node w hS hx hr
def keyL (big : Bool) (key : List UInt8) : List UInt8 := if key = [] then [] else padTo key (2 * bOf big)
theorem keyL_len (big : Bool) (key : List UInt8) (h : key.length <= 2 * bOf big) : (keyL big key).length <= 128 := by
 unfold keyL
 split
 ·exact aZY _
 ·rw [padTo_len _ _ h]; have := bOf_le big; omega
theorem padTo_in (l : List UInt8) (n k : Nat) (x : UInt8) (hx : l[k]? = some x) : (padTo l n)[k]? = some x := by
 have hl := (List.getElem?_eq_some_iff.1 hx).1;unfold padTo;rw [bZH hl, hx]
theorem padTo_out (l : List UInt8) (n k : Nat) (hk : k < n) (hx : l.length <= k) : (padTo l n)[k]? = some 0 := by
 unfold padTo;rw [List.getElem?_append_right hx, List.getElem?_replicate_of_lt (by omega)]
theorem refKeyed_any (big : Bool) (A : Option Addr) (nk c : Nat) (key : List UInt8) (w : World) (hk : key.length = nk) (hnk : nk <= bOf big) (hr : RS cB w w.heap.size A key) :
  Calls Tryz.prog 73 #[.int .i64 (kOf big), .slice A nk c] w fun e w' => ∃ A' m c', e = .returned (.slice A' m c') /\ (keyL big key).length = m /\ OS cB w' w.heap.size A' c' (keyL big key) /\ Below w.heap.size w w' := by
 have hbl := fun W => refBlock_any big W
 have hb2 := bOf_le big;obtain ⟨n, hn⟩ : ∃ n, n = 2 * bOf big := ⟨_, rfl⟩
 by_cases h0 : nk = 0
 ·subst h0
  have hk0 : keyL big key = [] := by unfold keyL; rw [if_pos (List.eq_nil_of_length_eq_zero hk)]
  rw [hk0];clear hbl hk0 hn;generalize kOf big = kk at *;go_enter Tryz.func73, Tryz.ntmps73;go_wp2_with fail;exact aZB (results_tmp rfl _ _ _) rfl ⟨none, 0, 0, rfl, rfl, OS.nil _ _ _ rfl, b0 _⟩
 ·have hke : keyL big key = padTo key n := by unfold keyL; rw [if_neg (fun h => h0 (by rw [<- hk, h]; rfl)), hn]
  rw [hke];rw [<- hn] at hbl;have hcl := padTo_len key n (by rw [hk]; omega);have hin := fun k x hx => padTo_in key n k x hx
  have hout := fun k hk hx => padTo_out key n k hk hx
  rw [hk] at hout;obtain ⟨C, hC⟩ : ∃ C, C = padTo key n := ⟨_, rfl⟩;simp only [<- hC] at hin hout hcl ⊢;have HIN := zH hin; have HOUT := zH hout; have HCL := zH hcl; have HR := zH hr; have HM := zH hk; have HBL := zH hbl;have hn128 : n <= 128 := by omega
  have t0 : ((nk : Int) == 0) = false := by simp; omega
  clear hin hout hcl hC hr hk hbl hke hn hb2;generalize kOf big = kk at *;go_enter Tryz.func73, Tryz.ntmps73;go_wp2_with fail;go_loopw [5, 6] (fun o i wr => ∃ (k : Nat) (A' : Option Addr) (c' : Nat), k <= n /\ i = .int .i64 k /\ o = .slice A' k c' /\ OS cB wr w.heap.size A' c' (C.take k) /\ Below w.heap.size w wr) (fun _ i _ => n - (intOf i).toNat)
  case atStart => exact ⟨0, none, 0, aZY _, rfl, rfl, OS.nil _ _ _ rfl, b0 _⟩
  case round =>
   exact zS56
def rnCells (big : Bool) (p : Pr) (kv : Value) (last : Bool) (mv : Value) (cnt : UInt64) : Array Value :=
  #[.int .i64 (kOf big), .int .i64 p.digest, .int .i64 p.key, .int .i64 p.fanout, .int .i64 p.depth, .int .u32 p.leaf, .int .u64 p.offset, .int .u32 p.xof, .int .i64 p.nd, .int .i64 p.inner, .slice p.salt.A p.salt.n p.salt.c, .slice p.pers.A p.pers.n p.pers.c, kv, .bool last,
    .int .u64 0, .int .u64 0, .int .u64 0, .int .u64 0, .int .u64 0, .int .u64 0, .int .u64 0, .int .u64 0, .int .u64 0, .int .u64 0, .int .u64 0, .int .u64 0, .int .u64 0, .int .u64 0, .int .u64 0, .int .u64 0, .bool false, .int .u64 0, .int .u64 0, mv, .int .u64 (wrd cnt)]
structure RN (w : World) (base q : Nat) (big : Bool) (p : Pr) (ls lp key : List UInt8) (Ak : Option Addr) (nk ck : Nat) (last : Bool) (msg : List UInt8) (Am : Option Addr) (nm cm : Nat) (cnt : UInt64) : Prop where
  blk : Blk w q 99 (rnCells big p (.slice Ak nk ck) last (.slice Am nm cm) cnt)
  lo : base <= q
  salt : RS cB w base p.salt.A ls
  pers : RS cB w base p.pers.A lp
  key : RS cB w base Ak key
  own : OS cB w base Am cm msg
  len : msg.length = nm
  far : ∀ a, Am = some a -> a.block ≠ q
theorem refNewBad_any (k : Int) (p : Pr) (Ak : Option Addr) (nk ck : Nat) (w : World) (hc : chk k p ≠ 0) :
  Calls Tryz.prog 52 #[.int .i64 k, p.v, .slice Ak nk ck] w fun e w' => e = .returned (.tuple #[.pointer none, .int .i64 (chk k p)]) /\ Below w.heap.size w w' := by open kA in exact zS70
theorem refNewKey_any (k : Int) (p : Pr) (Ak : Option Addr) (nk ck : Nat) (w : World) (hc : chk k p = 0) (hn : nk ≠ 0) (hk : (nk : Int) ≠ p.key) :
  Calls Tryz.prog 52 #[.int .i64 k, p.v, .slice Ak nk ck] w fun e w' => e = .returned (.tuple #[.pointer none, .int .i64 8]) /\ Below w.heap.size w w' := by exact zS70
theorem refNew_any (big : Bool) (p : Pr) (ls lp key : List UInt8) (Ak : Option Addr) (nk ck : Nat) (w : World) (hc : chk (kOf big) p = 0) (hrs : RS cB w w.heap.size p.salt.A ls) (hrp : RS cB w w.heap.size p.pers.A lp) (hk : key.length = nk) (hkk : nk = 0 \/ (nk : Int) = p.key) (hrk : RS cB w w.heap.size Ak key) :
  Calls Tryz.prog 52 #[.int .i64 (kOf big), p.v, .slice Ak nk ck] w fun e w' => ∃ q Am nm cm, e = .returned (.tuple #[.pointer (some ⟨q, 0, none⟩), .int .i64 0]) /\ RN w' w.heap.size q big p ls lp key Ak nk ck false (keyL big key) Am nm cm 0 /\ Below w.heap.size w w' := by
 have hck := fun W => refCheck_any (kOf big) p W
 simp only [hc] at hck;obtain ⟨-, ⟨hr1, hr2⟩, -, -, -, -, -, -⟩ := chk_range hc;have hkd := fun W hr => refKeyed_any big Ak nk ck key W hk (by rcases hkk with h | h <;> omega) hr
 generalize keyL big key = KL at *;obtain ⟨kk, hkk2⟩ : ∃ kk, kOf big = kk := ⟨_, rfl⟩;rw [hkk2];simp only [hkk2] at hck hkd;have HCK := zH hck; have HKD := zH hkd; have HRS := zH hrs; have HRP := zH hrp; have HRK := zH hrk; clear hck hkd hrs hrp hrk hc hk hr1 hr2;unfold Pr.v Pr.cs Sl.v at *
 by_cases h0 : nk = 0
 ·open kA in exact zS28
 ·exact zS28
theorem rn_cnt (big : Bool) (p : Pr) (kv : Value) (last : Bool) (mv : Value) (cnt cnt' : UInt64) : (rnCells big p kv last mv cnt).setIfInBounds 34 (.int .u64 (wrd cnt')) = rnCells big p kv last mv cnt' := rfl
theorem rn_last (big : Bool) (p : Pr) (kv : Value) (last last' : Bool) (mv : Value) (cnt : UInt64) : (rnCells big p kv last mv cnt).setIfInBounds 13 (.bool last') = rnCells big p kv last' mv cnt := rfl
structure RWr (w wr : World) (base q : Nat) (big : Bool) (p : Pr) (kv : Value) (last : Bool) (M : List UInt8) (Am : Option Addr) (n : Nat) (cnt : UInt64) (A : Option Addr) (c : Nat) : Prop where
  blk : Blk wr q 99 (rnCells big p kv last (.slice A n c) cnt)
  own : OS cB wr base A c M
  far : ∀ a, A = some a -> a.block ≠ q
  row : ∀ a, A = some a -> a.block ∈ obl Am \/ w.heap.size <= a.block
  but : But (q :: obl Am) w wr
theorem refWrite_any (base q : Nat) (big : Bool) (p : Pr) (ls lp key : List UInt8) (Ak : Option Addr) (nk ck : Nat) (last : Bool) (msg : List UInt8) (Am : Option Addr) (nm cm : Nat) (cnt : UInt64) (Ad : Option Addr) (nd cd : Nat) (data : List UInt8) (w : World)
  (hN : RN w base q big p ls lp key Ak nk ck last msg Am nm cm cnt) (hd : data.length = nd) (hr : RS cB w base Ad data) (hlen : nm + nd <= 140737488355328) :
  Calls Tryz.prog 53 #[.pointer (some ⟨q, 0, none⟩), .slice Ad nd cd] w fun e w' => e = .returned (.tuple #[]) /\ ∃ Am' cm', RN w' base q big p ls lp key Ak nk ck last (msg ++ data) Am' (nm + nd) cm' (cnt + bZD nd) /\ But (q :: obl Am) w w' /\ (∀ a, Am' = some a -> a.block ∈ obl Am \/ w.heap.size <= a.block) := by
 have HN := zH hN; have HR := zH hr; have HD := zH hd; clear hN hr hd;have hqb : base <= q := HN.lo;have hq0 : q < w.heap.size := HN.blk.lt;have hOB : Hid (∀ a, Am = some a -> base <= a.block) := fun a ha => (HN.own.block_lt a ha).1
 generalize hkv : Value.slice Ak nk ck = kv at *;have H0 : Hid (RWr w w base q big p kv last (msg ++ data.take 0) Am (nm + 0) cnt Am cm) := ⟨by rw [<- hkv]; exact HN.blk, by rw [List.take_zero, List.append_nil]; exact HN.own, HN.far, fun a ha => .inl (by rw [ha]; simp [obl]), But.refl _ _⟩;have HKV := zH hkv; clear hkv;go_enter Tryz.func53, Tryz.ntmps53;go_wp2_with fail;go_loopw [4] (fun i wr => ∃ (k n : Nat) (A : Option Addr) (c : Nat), k <= nd /\ i = .int .i64 k /\ n = nm + k /\ RWr w wr base q big p kv last (msg ++ data.take k) Am n cnt A c) (fun i _ => nd - (intOf i).toNat)
 case atStart => exact ⟨0, nm, Am, cm, aZY _, rfl, rfl, H0.out⟩
 case round =>
  clear H0;obtain ⟨k, n, A, c, hk, rfl, hnk, hrw⟩ := hrel;have HW := zH hrw; have HNK := zH hnk; clear hrw;have hqs : q < wr.heap.size := HW.blk.lt;have hBe : Below base w wr := HW.but.toBelow (by omega) (fun j hj => by
   rcases List.mem_cons.1 hj with rfl | h
   ·exact hqb
   ·obtain ⟨a, ha, hb⟩ := mem_obl.1 h
    rw [<- hb]; exact hOB.out a ha)
  have HRW := zH (HR.below hBe);clear hBe
  by_cases hlt : k < nd
  ·obtain ⟨ad, x, rfl, hab, hlx, hcx⟩ := HRW.at_ (k := k) (by rw [HD.out]; exact hlt)
   change wr.cell? (ad.add k) = some (.int .u8 (byt x)) at hcx;have htk := take_more data k x hlx;have HTK := zH htk;have HML : Hid ((msg ++ data.take k).length = n) := by show _ = _; rw [aZN, HN.len, aZJ, HD.out, HNK.out]; omega
   have hkd : decide ((k : Int) < nd) = true := by simp; omega
   have hki : (k : Int) < nd := by omega
   have hnb : n + 1 <= 140737488355328 := by omega
   have c33 : wr.cell? ⟨q, 33, none⟩ = some (.slice A n c) := HW.blk.cell 33;have d33 : ∀ a, ((wr.drewN a).alloc (.cells #[.int .u8 (byt x)] 5)).cell? ⟨q, 33, none⟩ = some (.slice A n c) := fun a => ((HW.blk.drewN a).alloc _).cell 33
   have hcell : Hid (∀ W', RS cB W' base (some ad) data -> W'.cell? (ad.add k) = some (.int .u8 (byt x))) := fun W' h => by
    obtain ⟨ad', x', e1, -, hlx', hcx'⟩ := h.at_ (k := k) (by rw [HD.out]; exact hlt)
    cases e1
    rw [hlx] at hlx'
    cases hlx'
    exact hcx'
   clear hnk htk hlx;go_wp2_with fail;refine wrZ (fun W' => RS cB W' base (some ad) data) (fun _ n h => h.drewN n) (Ords.of [(0, 0), (0, 1), (0, 2), (0, 3), (0, 5), (0, 6), (0, 7), (0, 8)] (.two 4 9 (Ords.of [(2, 9), (2, 10), (0, 11), (0, 12), (2, 13)] .fin) (Ords.of [(2, 4), (2, 10), (0, 11), (0, 12), (2, 13)] .fin))) HRW ?_
   iterate 7 (refine ords_pure rfl (fun K hK => ?_); go_simp; refine hK _ ?_; clear hK K)
   refine ords_heldK rfl (fun K K2 hK hK2 => ?_); go_simp; refine ⟨hK2 _ (fun w9 hS => ?_), hK _ ?_⟩; (clear hK hK2 K K2; have q0 := hcell.out w9 hS; go_simp); (clear hK hK2 K K2);refine ords_two rfl rfl (fun n1 => ?_) (fun n1 => ?_)
   ·open kA in exact zS17
   ·exact zS17
  ·obtain rfl : k = nd := by omega
   have c34 : wr.cell? ⟨q, 34, none⟩ = some (.int .u64 (wrd cnt)) := HW.blk.cell 34;have f34 := HW.blk.frozen 34;have hadd := wrd_addN cnt k;have hkw : IntKind.u64.wrap (k : Int) = k := by rw [wrap_u64]; omega
   obtain ⟨cnt', hcnt⟩ : ∃ c, c = cnt + bZD k := ⟨_, rfl⟩;rw [<- hcnt] at hadd;have HCNT := zH hcnt; clear hcnt;go_wp2_with fail;have hb := HW.blk.set_ 34 (.int .u64 (wrd cnt'));rw [rn_cnt, <- HKV.out] at hb;have ho := HW.own.setFar (p := ⟨q, 34, none⟩) HW.far (.int .u64 (wrd cnt'));rw [aZQ (Nat.le_of_eq HD.out)] at ho;have hBe : Below base w wr := HW.but.toBelow (by omega) (fun j hj => by
    rcases List.mem_cons.1 hj with rfl | h
    ·exact hqb
    ·obtain ⟨a, ha, hb⟩ := mem_obl.1 h
     rw [<- hb]; exact hOB.out a ha)
   have hB2 := hBe.setCell (p := ⟨q, 34, none⟩) hqb (.int .u64 (wrd cnt'));go_end0;refine ⟨rfl, A, c, ⟨?_, hqb, HN.salt.below hB2, HN.pers.below hB2, HN.key.below hB2, ho, ?_, HW.far⟩, HW.but.setCell (p := ⟨q, 34, none⟩) (.inl (by simp)) _, HW.row⟩
   ·rw [<- HCNT.out, <- HNK.out]; exact hb
   ·rw [aZN, HN.len, HD.out]
theorem results_cell_tmp3 {P : Program} {fn : Func} {p q r s : Tmp} {ty : TypeId} (h : fn.results = #[.cell p ty, .tmp q, .tmp r, .tmp s]) (tmps : Array Value) (w : World) (g : Nat) (t : TypeId) (cs : Array Value) (d : TypeDesc)
  (hp : tmps.getD p undef = .pointer (some ⟨g, 0, none⟩)) (hg : Blk w g t cs) (hu : P.underlying ty = some d) (hd : (match d with | .struct _ | .array _ _ => true | _ => false) = true) (hi : (P.info? ty).map (·.size) = some cs.size) :
  (results fn tmps).run P w = .ok (.tuple #[.agg cs, tmps.getD q undef, tmps.getD r undef, tmps.getD s undef]) w := by
 have hl := run_loadVar_row (P := P) w g t ty cs (0, 0) d hg hu hd hi;have hp' : tmps[p]?.getD undef = .pointer (some ⟨g, 0, none⟩) := by simpa using hp
 simp [results, h, hp', asAddr, hl]
def HS.start (big : Bool) (x : List UInt8) : HS := if big then .big (start64 x) else .small (start32 x)
theorem HS.start_k (big : Bool) (x : List UInt8) : (HS.start big x).k = big := by cases big <;> rfl
theorem HS.start_ok (big : Bool) (x : List UInt8) : (HS.start big x).Ok := by
 cases big
 ·exact start32_len x
 ·exact start64_len x
theorem fillU_half (H : List UInt64) (hH : H.length = 8) : fillU (H ++ zw 8) 8 16 = H ++ zw 8 := by
 unfold fillU;rw [List.take_left' hH]
 rfl
theorem rn_par (big : Bool) (p : Pr) (kv : Value) (last : Bool) (mv : Value) (cnt : UInt64) : ((rnCells big p kv last mv cnt).extract 1 (1 + 11)).toList = [.int .i64 p.digest, .int .i64 p.key, .int .i64 p.fanout, .int .i64 p.depth, .int .u32 p.leaf, .int .u64 p.offset, .int .u32 p.xof, .int .i64 p.nd, .int .i64 p.inner, .slice p.salt.A p.salt.n p.salt.c, .slice p.pers.A p.pers.n p.pers.c] := by
 show _ = _; kernel_rfl
theorem refFirstBig_any (q : Nat) (p : Pr) (ls lp : List UInt8) (kv mv : Value) (last : Bool) (cnt : UInt64) (w : World) (hc : chk (kOf true) p = 0) (hf : p.Fit) (hls : ls.length = p.salt.n) (hlp : lp.length = p.pers.n) (hrs : RS cB w w.heap.size p.salt.A ls) (hrp : RS cB w w.heap.size p.pers.A lp)
  (hb : Blk w q 99 (rnCells true p kv last mv cnt)) :
  Calls Tryz.prog 95 #[.pointer (some ⟨q, 0, none⟩)] w fun e w' => e = .returned (.agg (wcs (HS.start true (encL true p ls lp)).words)) /\ Below w.heap.size w w' := by open kA in exact zS7
theorem refFirstSmall_any (q : Nat) (p : Pr) (ls lp : List UInt8) (kv mv : Value) (last : Bool) (cnt : UInt64) (w : World) (hc : chk (kOf false) p = 0) (hf : p.Fit) (hls : ls.length = p.salt.n) (hlp : lp.length = p.pers.n) (hrs : RS cB w w.heap.size p.salt.A ls) (hrp : RS cB w w.heap.size p.pers.A lp)
  (hb : Blk w q 99 (rnCells false p kv last mv cnt)) :
  Calls Tryz.prog 95 #[.pointer (some ⟨q, 0, none⟩)] w fun e w' => e = .returned (.agg (wcs (HS.start false (encL false p ls lp)).words)) /\ Below w.heap.size w w' := by exact zS7
theorem refFirst_any (big : Bool) (q : Nat) (p : Pr) (ls lp : List UInt8) (kv mv : Value) (last : Bool) (cnt : UInt64) (w : World) (hc : chk (kOf big) p = 0) (hf : p.Fit) (hls : ls.length = p.salt.n) (hlp : lp.length = p.pers.n) (hrs : RS cB w w.heap.size p.salt.A ls) (hrp : RS cB w w.heap.size p.pers.A lp)
  (hb : Blk w q 99 (rnCells big p kv last mv cnt)) :
  Calls Tryz.prog 95 #[.pointer (some ⟨q, 0, none⟩)] w fun e w' => e = .returned (.agg (wcs (HS.start big (encL big p ls lp)).words)) /\ Below w.heap.size w w' := by
 cases big with
 | true => exact refFirstBig_any q p ls lp kv mv last cnt w hc hf hls hlp hrs hrp hb
 | false => exact refFirstSmall_any q p ls lp kv mv last cnt w hc hf hls hlp hrs hrp hb
def passTo (n : Nat) (M : List UInt8) (S : HS) : Nat -> HS × UInt64 × UInt64
  | 0 => (S, 0, 0)
  | j + 1 => ((passTo n M S j).1.mix (cutL M (j * n) n) (addLo (passTo n M S j).2.1 (bZD n)) (addHi (passTo n M S j).2.1 (passTo n M S j).2.2 (bZD n)) false false, addLo (passTo n M S j).2.1 (bZD n), addHi (passTo n M S j).2.1 (passTo n M S j).2.2 (bZD n))
theorem passTo_k (n : Nat) (M : List UInt8) (S : HS) : ∀ j, (passTo n M S j).1.k = S.k
 | 0 => rfl
 | j + 1 => (HS.mix_k _ _ _ _ _ _).trans (passTo_k n M S j)
theorem passTo_ok (n : Nat) (M : List UInt8) (S : HS) (h : S.Ok) : ∀ j, (passTo n M S j).1.Ok
 | 0 => h
 | _ + 1 => HS.mix_ok _ _ _ _ _ _
theorem wrd_small (n : Nat) (h : n < 18446744073709551616) : wrd (bZD n) = (n : Int) := by rw [wrd_ofNat]; omega
theorem refPassed_any (base q : Nat) (big : Bool) (p : Pr) (ls lp key : List UInt8) (Ak : Option Addr) (nk ck : Nat) (last : Bool) (msg : List UInt8) (Am : Option Addr) (nm cm : Nat) (cnt : UInt64) (n : Nat) (w : World)
  (hN : RN w base q big p ls lp key Ak nk ck last msg Am nm cm cnt) (hc : chk (kOf big) p = 0) (hf : p.Fit) (hls : ls.length = p.salt.n) (hlp : lp.length = p.pers.n) (hnm : nm <= 140737488355328) (hn : n = 2 * bOf big) :
  Calls Tryz.prog 74 #[.pointer (some ⟨q, 0, none⟩)] w fun e w' => ∃ j a S lo hi, passTo n msg (HS.start big (encL big p ls lp)) j = (S, lo, hi) /\ a = j * n /\ a <= nm /\ nm <= a + n /\ (j = 0 \/ a < nm) /\ e = .returned (.tuple #[.agg (wcs S.words), .int .u64 (wrd lo), .int .u64 (wrd hi), .int .i64 a]) /\ Below w.heap.size w w' := by
 have hbs : base <= w.heap.size := Nat.le_trans hN.lo (Nat.le_of_lt hN.blk.lt);have hfi := fun W hrs hrp hb => refFirst_any big q p ls lp (.slice Ak nk ck) (.slice Am nm cm) last cnt W hc hf hls hlp hrs hrp hb
 have hbl := fun W => refBlock_any big W
 rw [<- hn] at hbl;have hn128 : 64 <= n /\ n <= 128 := by have := bOf_le big; omega
 have hin := fun (S : HS) (lo hi : UInt64) (A : Option Addr) (c : Nat) (x : List UInt8) (W : World) (hS : S.Ok) (hk : S.k = big) hx hr => refIn_any S A n c x lo hi false false W hS (by rw [hk]; exact hn) hx hr
 have hok := HS.start_ok big (encL big p ls lp);have hsk := HS.start_k big (encL big p ls lp);obtain ⟨S0, hS0⟩ : ∃ S0, S0 = HS.start big (encL big p ls lp) := ⟨_, rfl⟩;rw [<- hS0];simp only [<- hS0] at hfi hok hsk;have hpk := fun j => (passTo_k n msg S0 j).trans hsk
 have hpo := passTo_ok n msg S0 hok;obtain ⟨u, hu⟩ : ∃ u, u = bZD n := ⟨_, rfl⟩;have hun : wrd u = (n : Int) := by rw [hu]; exact wrd_small n (by omega)
 have hstep : ∀ j S lo hi, passTo n msg S0 j = (S, lo, hi) -> passTo n msg S0 (j + 1) = (S.mix (cutL msg (j * n) n) (addLo lo u) (addHi lo hi u) false false, addLo lo u, addHi lo hi u) := fun j S lo hi h => by
  rw [hu];unfold passTo;rw [h]
 have hadd := fun lo hi W => refAdd_any lo hi u W
 rw [hun] at hadd;have c31 : w.cell? ⟨q, 31, none⟩ = some (.int .u64 0) := hN.blk.cell 31;have c32 : w.cell? ⟨q, 32, none⟩ = some (.int .u64 0) := hN.blk.cell 32;have c0 : w.cell? ⟨q, 0, none⟩ = some (.int .i64 (kOf big)) := hN.blk.cell 0;have hql := hN.blk.lt;have hq1 : Hid (∀ W, Below w.heap.size w W -> Blk W q 99 (rnCells big p (.slice Ak nk ck) last (.slice Am nm cm) cnt)) := fun W h => hN.blk.below h hql
 have hq0 : Hid (∀ W, Blk W q 99 (rnCells big p (.slice Ak nk ck) last (.slice Am nm cm) cnt) -> W.cell? ⟨q, 0, none⟩ = some (.int .i64 (kOf big))) := fun W h => h.cell 0
 have hq33 : Hid (∀ W, Blk W q 99 (rnCells big p (.slice Ak nk ck) last (.slice Am nm cm) cnt) -> W.cell? ⟨q, 33, none⟩ = some (.slice Am nm cm)) := fun W h => h.cell 33
 have hms := hN.own.reads;have HN := zH hN; have HFI := zH hfi; have HBL := zH hbl; have HIN := zH hin; have HPK := zH hpk; have HPO := zH hpo; have HSTEP := zH hstep; have HADD := zH hadd; have HMS := zH hms; have HOK := zH hok; have HBS := zH hbs;clear hN hc hf hls hlp hfi hbl hin hok hsk hS0 hpk hpo hu hun hstep hadd hms hn hbs;obtain ⟨hn1, hn2⟩ := hn128;have hu16 := zH Tryz.underlying97;have s0 := zH (sz16w S0.words (HS.words_len HOK)); have a0 := zH (wcs_all S0.words);have ho0 : Hid ((wcs (zw 16)).size = (wcs S0.words).size) := by show _ = _; rw [wcs_size, wcs_size, HS.words_len HOK.out]; rfl
 generalize hcells : rnCells big p (.slice Ak nk ck) last (.slice Am nm cm) cnt = CS at *;clear hcells;obtain ⟨kk, hkk⟩ : ∃ kk, kOf big = kk := ⟨_, rfl⟩;rw [hkk] at c0;simp only [hkk] at HBL hq0;have HKK := zH hkk; clear hkk;go_enter Tryz.func74, Tryz.ntmps74;go_wp2_with fail;have n2 : Blk (w.alloc (.cells z16 97)) w.heap.size 97 (wcs (zw 16)) := Blk.new _ _ _;have n4 := bal (b0 w) (.cells z16 97);unfold z16 at n2 n4;obtain ⟨g2, hg2⟩ : ∃ g, g = w.heap.size := ⟨_, rfl⟩;rw [<- hg2] at n2 ⊢;generalize w.alloc (.cells #[.int .u64 0, .int .u64 0, .int .u64 0, .int .u64 0, .int .u64 0, .int .u64 0, .int .u64 0, .int .u64 0, .int .u64 0, .int .u64 0, .int .u64 0, .int .u64 0, .int .u64 0, .int .u64 0, .int .u64 0, .int .u64 0] 97) = w0 at *;have N2 := zH n2; have N4 := zH n4; have hwg : Hid (w.heap.size <= g2) := by (show _ <= _; omega)
 clear n2 n4 hg2;refine (HFI _ (((HN.salt.more HBS).below N4).more N4.size) (((HN.pers.more HBS).below N4).more N4.size) (hq1.out _ N4)).mono ?_;rintro e1 w1 ⟨rfl, hb1⟩;have v2 := (N2.below hb1 N2.lt).alloc (.cells z16 97);have v4 := bal (bcall N4 hb1) (.cells z16 97);have n6 : Blk (w1.alloc (.cells z16 97)) w1.heap.size 97 (wcs (zw 16)) := Blk.new _ _ _;have hw1 : Hid (w.heap.size <= w1.heap.size) := (bcall N4 hb1).size;have l26 : g2 < w1.heap.size := (N2.below hb1 N2.lt).lt;unfold z16 at v2 v4 n6;have N6 := zH n6; clear n6 hb1 N2 N4;go_upto_region 2 with (refine aZE rfl 97 _ _ rfl w1.heap.size (wcs S0.words) rfl rfl 97 _ N6 s0.out ho0.out a0.out ?_)
 have n6 := N6.row (wcs S0.words);replace v2 := v2.rowFar (k := w1.heap.size) (by omega) (wcs S0.words); replace v4 := brow v4 (g := w1.heap.size) hw1.out (wcs S0.words);clear N6;obtain ⟨g6, hg6⟩ : ∃ g, g = w1.heap.size := ⟨_, rfl⟩;have hwg6 : Hid (w.heap.size <= g6) := by (show _ <= _; rw [hg6]; exact hw1.out)
 rw [<- hg6] at n6 v2 v4 l26 ⊢;generalize (w1.alloc (.cells #[.int .u64 0, .int .u64 0, .int .u64 0, .int .u64 0, .int .u64 0, .int .u64 0, .int .u64 0, .int .u64 0, .int .u64 0, .int .u64 0, .int .u64 0, .int .u64 0, .int .u64 0, .int .u64 0, .int .u64 0, .int .u64 0] 97)).setRow g6 (wcs S0.words) = w2 at *;have hlg6 : q < g6 := by have := hwg6.out; omega
 clear hg6 hw1;have d31 : w2.cell? ⟨q, 31, none⟩ = some (.int .u64 0) := (v4.cell (p := ⟨q, 31, none⟩) hql).trans c31;have d32 : w2.cell? ⟨q, 32, none⟩ = some (.int .u64 0) := (v4.cell (p := ⟨q, 32, none⟩) hql).trans c32;have d0 : w2.cell? ⟨q, 0, none⟩ = some (.int .i64 kk) := (v4.cell (p := ⟨q, 0, none⟩) hql).trans c0;have N2 := zH v2; have N4 := zH v4; have N6 := zH n6; clear v2 v4 n6 c31 c32 c0;go_wp2_with (go_at_call 79; refine (HBL _).mono ?_; rintro e2 w3 ⟨rfl, rfl⟩);clear d31 d32 d0;go_loopw [7, 8, 10] (fun l h i wr => ∃ (j a : Nat) (S : HS) (lo hi : UInt64), passTo n msg S0 j = (S, lo, hi) /\ a = j * n /\ a <= nm /\ (j = 0 \/ a < nm) /\ l = .int .u64 (wrd lo) /\ h = .int .u64 (wrd hi) /\ i = .int .i64 a /\ Blk wr g2 97 (wcs (zw 16)) /\ Blk wr g6 97 (wcs S.words) /\ Below w.heap.size w wr) (fun _ _ i _ => nm - (intOf i).toNat)
 case atStart => exact ⟨0, 0, S0, 0, 0, rfl, (Nat.zero_mul _).symm, aZY _, .inl rfl, rfl, rfl, rfl, N2.out, N6.out, N4.out⟩
 case round =>
  clear N2 N4 N6;obtain ⟨j, a, S, lo, hi, hP, ha, han, hj0, rfl, rfl, rfl, x2, x6, x4⟩ := hrel;have N2 := zH x2; have N4 := zH x4; have N6 := zH x6; clear x2 x4 x6;have HQ := zH (hq1.out _ N4);have d0 : wr.cell? ⟨q, 0, none⟩ = some (.int .i64 kk) := hq0.out _ HQ.out;have d33 : wr.cell? ⟨q, 33, none⟩ = some (.slice Am nm cm) := hq33.out _ HQ.out;have hSo : S.Ok := by have := HPO.out j; rw [hP] at this; exact this
  have hSk : S.k = big := by have := HPK.out j; rw [hP] at this; exact this
  have hqr : q < wr.heap.size := HQ.lt;have HP := zH hP; have HA := zH ha; have HJ0 := zH hj0; clear hP ha hj0;obtain ⟨a', ha'⟩ : ∃ a', a' = a + n := ⟨_, rfl⟩;have e1 : (a : Int) + (n : Int) = (a' : Int) := by omega
  have e2 : IntKind.i64.wrap (a' : Int) = a' := by simp [IntKind.wrap, IntKind.bits, IntKind.signed]; omega
  have HA' := zH ha';have sS := zH (sz16w S.words (HS.words_len hSo))
  by_cases hlt : a' < nm
  ·have hkd : decide ((a' : Int) < nm) = true := by simp; omega
   have hnw : IntKind.u64.wrap (n : Int) = n := by rw [wrap_u64]; omega
   have hadd := fun W => HADD lo hi W
   obtain ⟨lo', hlo'⟩ : ∃ l, l = addLo lo u := ⟨_, rfl⟩;obtain ⟨hi', hhi'⟩ : ∃ l, l = addHi lo hi u := ⟨_, rfl⟩;have hcut := fun W hr => refCut_any Am nm cm a n msg W HN.len hnm han (by omega) hr
   have hcl := cutL_len msg a n;have hin := fun A c W hr => HIN S lo' hi' A c (cutL msg a n) W hSo hSk hcl hr
   have hst := HSTEP j S lo hi HP.out;simp only [<- hlo', <- hhi'] at hadd;rw [<- hlo', <- hhi', <- HA.out] at hst;obtain ⟨S', hS'⟩ : ∃ S', S' = S.mix (cutL msg a n) lo' hi' false false := ⟨_, rfl⟩;have hSo' : S'.Ok := by rw [hS']; exact HS.mix_ok _ _ _ _ _ _
   rw [<- hS'] at hst;simp only [<- hS'] at hin;rw [hSk, HKK.out] at hin;generalize cutL msg a n = X at *;have HCUT := zH hcut; have HIN' := zH hin; have HST := zH hst; have HAD := zH hadd;have sS' := zH (sz16w S'.words (HS.words_len hSo')); have aS' := zH (wcs_all S'.words);have hoS : Hid ((wcs S.words).size = (wcs S'.words).size) := by show _ = _; rw [wcs_size, wcs_size, HS.words_len hSo, HS.words_len hSo']
   clear hadd hcut hcl hin hst hlo' hhi' hS' hSo' hSo hSk ha';go_wp2_with (go_at_call 75; refine (HAD _).mono ?_; rintro e3 w3 ⟨bb, rfl, rfl⟩);refine wrZ (fun w' => Blk w' q 99 CS) (fun _ n h => h.drewN n) (Ords.of [(0, 0), (0, 1), (0, 2), (0, 3), (0, 5), (0, 6), (0, 7), (0, 8), (0, 9), (0, 10), (0, 12), (0, 13)] (.two 4 11 (Ords.of [(2, 11), (2, 14), (2, 15)] .fin) (Ords.of [(2, 4), (2, 14), (2, 15)] .fin))) HQ ?_
   iterate 2 (refine ords_pure rfl (fun K hK => ?_); go_simp; refine hK _ ?_; clear hK K; refine ords_pure rfl (fun K hK => ?_); go_simp; refine hK _ ?_; clear hK K; refine ords_pure rfl (fun K hK => ?_); go_simp; refine hK _ ?_; clear hK K; refine ords_heldK rfl (fun K K2 hK hK2 => ?_); go_simp; refine ⟨hK2 _ (fun w9 hS => ?_), hK _ ?_⟩; (clear hK hK2 K K2; have q0 := hq0.out w9 hS; have q1 := hq33.out w9 hS; go_simp); (clear hK hK2 K K2))
   iterate 4 (refine ords_pure rfl (fun K hK => ?_); go_simp; refine hK _ ?_; clear hK K)
   refine ords_two rfl rfl (fun n1 => ?_) (fun n1 => ?_)
   ·open kA in exact zS31
   ·exact zS31
  ·have hkd : decide ((a' : Int) < nm) = false := by simp; omega
   have aS := zH (wcs_all S.words);have hoS : Hid ((wcs (zw 16)).size = (wcs S.words).size) := by show _ = _; rw [wcs_size, wcs_size, HS.words_len hSo]; rfl
   clear hSo hSk ha';go_wp2_with (first
    | (refine aZH rfl 97 _ rfl g6 rfl 97 (wcs S.words) (0, 0) _ N6 hu16.out rfl sS.out ?_)
    | (refine aZE rfl 97 _ _ rfl g2 (wcs S.words) rfl rfl 97 _ N2 sS.out hoS.out aS.out ?_))
   exact aZB (results_cell_tmp3 rfl _ _ g2 _ _ _ rfl (N2.row _) hu16.out rfl sS.out) rfl ⟨j, a, S, lo, hi, HP.out, HA.out, han, by have := HA'.out; omega, HJ0.out, rfl, brow N4.out hwg.out _⟩
def outR (n : Nat) (msg : List UInt8) (a : Nat) (S : HS) (lo hi : UInt64) (last : Bool) : List UInt8 :=
  (S.mix (cutL msg a n) (addLo lo (bZD (msg.length - a))) (addHi lo hi (bZD (msg.length - a))) true last).bytes
theorem refOut_any (base q : Nat) (big : Bool) (p : Pr) (ls lp key : List UInt8) (Ak : Option Addr) (nk ck : Nat) (last : Bool) (msg : List UInt8) (Am : Option Addr) (nm cm : Nat) (cnt : UInt64) (n : Nat) (w : World)
  (hN : RN w base q big p ls lp key Ak nk ck last msg Am nm cm cnt) (hc : chk (kOf big) p = 0) (hf : p.Fit) (hls : ls.length = p.salt.n) (hlp : lp.length = p.pers.n) (hnm : nm <= 140737488355328) (hn : n = 2 * bOf big) :
  Calls Tryz.prog 54 #[.pointer (some ⟨q, 0, none⟩)] w fun e w' => ∃ j a S lo hi A c, passTo n msg (HS.start big (encL big p ls lp)) j = (S, lo, hi) /\ a = j * n /\ a <= nm /\ nm <= a + n /\ (j = 0 \/ a < nm) /\ e = .returned (.slice A (bOf big) c) /\ OS cB w' w.heap.size A c (outR n msg a S lo hi last) /\ Below w.heap.size w w' := by
 have hpa := refPassed_any base q big p ls lp key Ak nk ck last msg Am nm cm cnt n w hN hc hf hls hlp hnm hn;have hbl := fun W => refBlock_any big W
 rw [<- hn] at hbl;have hn128 : 64 <= n /\ n <= 128 := by have := bOf_le big; omega
 have hin := fun (S : HS) (lo hi : UInt64) (A : Option Addr) (c : Nat) (x : List UInt8) (W : World) (hS : S.Ok) (hk : S.k = big) hx hr => refIn_any S A n c x lo hi true last W hS (by rw [hk]; exact hn) hx hr
 have hok := HS.start_ok big (encL big p ls lp);have hsk := HS.start_k big (encL big p ls lp);obtain ⟨S0, hS0⟩ : ∃ S0, S0 = HS.start big (encL big p ls lp) := ⟨_, rfl⟩;rw [<- hS0];simp only [<- hS0] at hpa hok hsk;have hpk := fun j => (passTo_k n msg S0 j).trans hsk
 have hpo := passTo_ok n msg S0 hok;have hql := hN.blk.lt;have hq1 : Hid (∀ W, Below w.heap.size w W -> Blk W q 99 (rnCells big p (.slice Ak nk ck) last (.slice Am nm cm) cnt)) := fun W h => hN.blk.below h hql
 have hq0 : Hid (∀ W, Blk W q 99 (rnCells big p (.slice Ak nk ck) last (.slice Am nm cm) cnt) -> W.cell? ⟨q, 0, none⟩ = some (.int .i64 (kOf big))) := fun W h => h.cell 0
 have hq13 : Hid (∀ W, Blk W q 99 (rnCells big p (.slice Ak nk ck) last (.slice Am nm cm) cnt) -> W.cell? ⟨q, 13, none⟩ = some (.bool last)) := fun W h => h.cell 13
 have hq33 : Hid (∀ W, Blk W q 99 (rnCells big p (.slice Ak nk ck) last (.slice Am nm cm) cnt) -> W.cell? ⟨q, 33, none⟩ = some (.slice Am nm cm)) := fun W h => h.cell 33
 have hms := hN.own.reads;have HLM := zH hN.len; have HPA := zH hpa; have HBL := zH hbl; have HIN := zH hin; have HPK := zH hpk; have HPO := zH hpo; have HMS := zH hms;clear hN hc hf hls hlp hpa hbl hin hok hsk hS0 hpk hpo hms hn;obtain ⟨hn1, hn2⟩ := hn128;have hu16 := zH Tryz.underlying97;generalize hcells : rnCells big p (.slice Ak nk ck) last (.slice Am nm cm) cnt = CS at *;clear hcells;obtain ⟨kk, hkk⟩ : ∃ kk, kOf big = kk := ⟨_, rfl⟩;simp only [hkk] at HBL hq0;have HKK := zH hkk; clear hkk;go_enter Tryz.func54, Tryz.ntmps54;go_wp2_with fail;refine HPA.mono ?_;rintro e1 w1 ⟨j, a, S, lo, hi, hP, ha, han, hna, hj0, rfl, hb1⟩;have hSo : S.Ok := by have := HPO.out j; rw [hP] at this; exact this
 have hSk : S.k = big := by have := HPK.out j; rw [hP] at this; exact this
 have HP := zH hP; have HA := zH ha; have HJ0 := zH hj0; clear hP ha hj0;have v4 := bal hb1 (.cells z16 97);have n3 : Blk (w1.alloc (.cells z16 97)) w1.heap.size 97 (wcs (zw 16)) := Blk.new _ _ _;have hw1 : Hid (w.heap.size <= w1.heap.size) := hb1.size;have sS := zH (sz16w S.words (HS.words_len hSo)); have aS := zH (wcs_all S.words);have hoS : Hid ((wcs (zw 16)).size = (wcs S.words).size) := by show _ = _; rw [wcs_size, wcs_size, HS.words_len hSo]; rfl
 unfold z16 at v4 n3;have N3 := zH n3; clear n3 hb1;go_upto_region 2 with (refine aZE rfl 97 _ _ rfl w1.heap.size (wcs S.words) rfl rfl 97 _ N3 sS.out hoS.out aS.out ?_)
 have n3 := N3.row (wcs S.words);replace v4 := brow v4 (g := w1.heap.size) hw1.out (wcs S.words);clear N3;obtain ⟨g3, hg3⟩ : ∃ g, g = w1.heap.size := ⟨_, rfl⟩;rw [<- hg3] at n3 v4 ⊢;generalize (w1.alloc (.cells #[.int .u64 0, .int .u64 0, .int .u64 0, .int .u64 0, .int .u64 0, .int .u64 0, .int .u64 0, .int .u64 0, .int .u64 0, .int .u64 0, .int .u64 0, .int .u64 0, .int .u64 0, .int .u64 0, .int .u64 0, .int .u64 0] 97)).setRow g3 (wcs S.words) = w2 at *;clear hg3 hw1;have HQ := zH (hq1.out _ v4);have N3 := zH n3; have N4 := zH v4; clear n3 v4;have d0 : w2.cell? ⟨q, 0, none⟩ = some (.int .i64 kk) := hq0.out _ HQ.out;have d13 : w2.cell? ⟨q, 13, none⟩ = some (.bool last) := hq13.out _ HQ.out;have d33 : w2.cell? ⟨q, 33, none⟩ = some (.slice Am nm cm) := hq33.out _ HQ.out;obtain ⟨r, hr⟩ : ∃ r, r = nm - a := ⟨_, rfl⟩;have e1 : (nm : Int) - (a : Int) = (r : Int) := by omega
 have e2 : IntKind.i64.wrap (r : Int) = r := by simp [IntKind.wrap, IntKind.bits, IntKind.signed]; omega
 have e3 : IntKind.u64.wrap (r : Int) = r := by rw [wrap_u64]; omega
 have hadd := fun W => refAdd_any lo hi (bZD r) W
 rw [wrd_small r (by omega)] at hadd;obtain ⟨lo', hlo'⟩ : ∃ l, l = addLo lo (bZD r) := ⟨_, rfl⟩;obtain ⟨hi', hhi'⟩ : ∃ l, l = addHi lo hi (bZD r) := ⟨_, rfl⟩;have hcut := fun W hr => refCut_any Am nm cm a n msg W HLM.out hnm han (by omega) hr
 have hcl := cutL_len msg a n;have hin := fun A c W hr => HIN S lo' hi' A c (cutL msg a n) W hSo hSk hcl hr
 simp only [<- hlo', <- hhi'] at hadd;obtain ⟨S', hS'⟩ : ∃ S', S' = S.mix (cutL msg a n) lo' hi' true last := ⟨_, rfl⟩;have hSo' : S'.Ok := by rw [hS']; exact HS.mix_ok _ _ _ _ _ _
 have hSk' : S'.k = big := by rw [hS', HS.mix_k]; exact hSk
 have hby := fun W => refBytes_any S' W hSo'
 rw [hSk', HKK.out] at hby;have hout : outR n msg a S lo hi last = S'.bytes := by unfold outR; rw [HLM.out, <- hr, <- hlo', <- hhi', <- hS']
 simp only [<- hS'] at hin;rw [hSk, HKK.out] at hin;generalize cutL msg a n = X at *;have HCUT := zH hcut; have HIN' := zH hin; have HAD := zH hadd; have HBY := zH hby; have HOUT := zH hout;clear hadd hcut hcl hin hlo' hhi' hS' hSo' hSk' hSo hSk hby hout hr;go_wp2_with (go_at_call 75; refine (HAD _).mono ?_; rintro e3 w3 ⟨bb, rfl, rfl⟩);refine wrZ (fun w' => Blk w' q 99 CS /\ Blk w' g3 97 (wcs S.words)) (fun _ n h => ⟨h.1.drewN n, h.2.drewN n⟩) (Ords.of [(0, 0), (0, 1), (0, 2), (0, 3), (0, 4), (0, 5), (0, 6), (0, 7), (0, 8), (0, 9), (0, 10), (0, 11), (0, 12), (0, 13), (0, 14), (0, 15), (0, 16), (0, 17), (0, 20), (0, 21), (0, 22), (0, 23), (0, 24), (0, 25), (2, 18), (2, 19), (2, 26), (2, 27), (0, 28)] .fin) ⟨HQ.out, N3.out⟩ ?_
 iterate 2 (refine ords_pure rfl (fun K hK => ?_); go_simp; refine hK _ ?_; clear hK K; refine ords_pure rfl (fun K hK => ?_); go_simp; refine hK _ ?_; clear hK K; refine ords_pure rfl (fun K hK => ?_); go_simp; refine hK _ ?_; clear hK K; refine ords_heldK rfl (fun K K2 hK hK2 => ?_); go_simp; refine ⟨hK2 _ (fun w9 hS => ?_), hK _ ?_⟩; (clear hK hK2 K K2; have q0 := hq0.out w9 hS.1; have q1 := hq33.out w9 hS.1; have q2 := hq13.out w9 hS.1; go_simp); (clear hK hK2 K K2))
 refine ords_held (v := Value.agg (wcs S.words)) rfl rfl (fun w9 hS => pure_load_mid 97 (.tmp 3) rfl g3 0 rfl (wcs S.words).toList _ hS.2.whole hu16.out rfl (by rw [Array.length_toList]; exact sS.out)) ?_; go_simp
 iterate 2 (refine ords_pure rfl (fun K hK => ?_); go_simp; refine hK _ ?_; clear hK K; refine ords_pure rfl (fun K hK => ?_); go_simp; refine hK _ ?_; clear hK K; refine ords_pure rfl (fun K hK => ?_); go_simp; refine hK _ ?_; clear hK K; refine ords_heldK rfl (fun K K2 hK hK2 => ?_); go_simp; refine ⟨hK2 _ (fun w9 hS => ?_), hK _ ?_⟩; (clear hK hK2 K K2; have q0 := hq0.out w9 hS.1; have q1 := hq33.out w9 hS.1; have q2 := hq13.out w9 hS.1; go_simp); (clear hK hK2 K K2); refine ords_pure rfl (fun K hK => ?_); go_simp; refine hK _ ?_; clear hK K)
 iterate 4 (refine ords_pure rfl (fun K hK => ?_); go_simp; refine hK _ ?_; clear hK K)
 refine ords_heldK rfl (fun K K2 hK hK2 => ?_); go_simp; refine ⟨hK2 _ (fun w9 hS => ?_), hK _ ?_⟩; (clear hK hK2 K K2; have q0 := hq0.out w9 hS.1; have q1 := hq33.out w9 hS.1; have q2 := hq13.out w9 hS.1; go_simp); (clear hK hK2 K K2);refine ords_loud rfl (fun n1 => ?_);go_wp2_with (go_at_call 79; refine (HBL _).mono ?_; rintro e4 w4 ⟨rfl, rfl⟩);refine ⟨⟨HQ.drewN _, N3.drewN _⟩, ?_⟩;refine ords_loud rfl (fun n2 => ?_);go_wp2_with (go_at_call 78; refine (HCUT _ (((HMS.below N4).more N4.size).drewN _)).mono ?_; rintro e4 w4 ⟨A4, c4, rfl, ho4, hb4⟩);have HO4 := zH ho4; have M3 := zH ((N3.drewN _).below hb4 (N3.drewN _).lt); have M4 := zH (bcall (bdr N4 _) hb4); have MQ := zH ((HQ.drewN _).below hb4 (HQ.drewN _).lt); clear ho4 hb4;refine ⟨⟨MQ.out, M3.out⟩, ?_⟩;refine ords_loud rfl (fun n3 => ?_);go_wp2_with (go_at_call 77; refine (HIN' A4 c4 _ (HO4.reads.drewN _)).mono ?_; rintro e5 w5 ⟨rfl, hb5⟩);have K3 := zH ((M3.drewN _).below hb5 (M3.drewN _).lt); have K4 := zH (bcall (bdr M4 _) hb5); have KQ := zH ((MQ.drewN _).below hb5 (MQ.drewN _).lt); clear hb5;refine ⟨⟨KQ.out, K3.out⟩, ?_⟩;refine ords_loud rfl (fun n4 => ?_);go_wp2_with (go_at_call 76; refine (HBY _).mono ?_; rintro e6 w6 ⟨A6, c6, rfl, ho6, hb6⟩);have HO6 := zH (ho6.mono (show w.heap.size <= _ from K4.size)); have L4 := zH (bcall (bdr K4 _) hb6); have L3 := zH ((K3.drewN _).below hb6 (K3.drewN _).lt); have LQ := zH ((KQ.drewN _).below hb6 (KQ.drewN _).lt); clear ho6 hb6;refine ⟨⟨LQ.out, L3.out⟩, ?_⟩;refine ords_pure rfl (fun K hK => ?_); go_simp; refine hK _ ?_; clear hK K;refine ords_end (fun n5 => ?_);go_wp2_with fail;exact aZB (results_tmp rfl _ _ _) rfl ⟨j, a, S, lo, hi, A6, c6, HP.out, HA.out, han, hna, HJ0.out, rfl, by rw [HOUT.out]; exact HO6.drewN _, bdr L4.out _⟩
theorem cutL_take (M : List UInt8) (K a n : Nat) (h : a + n <= K) : cutL (M.take K) a n = cutL M a n := by
 unfold cutL;rw [List.drop_take, List.take_take, Nat.min_eq_left (by omega)]
theorem cutL_mid (M : List UInt8) (a n : Nat) (h : a + n <= M.length) : cutL M a n = (M.drop a).take n := by
 unfold cutL padTo;rw [show n - ((M.drop a).take n).length = 0 by rw [aZJ, aZS]; omega];exact List.append_nil _
theorem cutL_end (M : List UInt8) (a n : Nat) (h : M.length <= a + n) : cutL M a n = padTo (M.drop a) n := by
 unfold cutL;rw [aZQ (by rw [aZS]; omega)]
theorem passTo_take (n : Nat) (M : List UInt8) (S : HS) (K : Nat) : ∀ j, j * n <= K -> passTo n (M.take K) S j = passTo n M S j
 | 0, _ => rfl
 | j + 1, h => by
  rw [Nat.succ_mul] at h;unfold passTo;rw [passTo_take n M S K j (by omega), cutL_take M K (j * n) n h]
theorem St64.passes (H0 : List UInt64) (hH : H0.length = 8) : ∀ (j : Nat) (M : List UInt8), j * 128 <= M.length -> M.length <= j * 128 + 128 -> (j = 0 \/ j * 128 < M.length) ->
        ∃ H lo hi, passTo 128 M (.big H0) j = (.big H, lo, hi) /\ (St64.mk H0 0 0 []).feed M = ⟨H, lo, hi, M.drop (j * 128)⟩ /\ H.length = 8
      | 0, M, _, h2, _ => by
        refine ⟨H0, 0, 0, rfl, ?_, hH⟩
        by_cases h0 : M = []
        · subst h0; rfl
        have hok : (St64.mk H0 0 0 []).Ok := ⟨hH, aZY _⟩;have hr : (St64.mk H0 0 0 []).ready = ⟨H0, 0, 0, []⟩ := by unfold St64.ready; rw [if_neg (by simp)]
        rw [St64.feed_step hok M h0, hr]
        show (St64.take (⟨H0, 0, 0, []⟩ : St64) M).feed (M.drop (128 - 0)) = _
        rw [List.drop_eq_nil_of_le (by omega), St64.feed_nil]
        show (⟨H0, 0, 0, [] ++ M.take (128 - 0)⟩ : St64) = _
        rw [aZQ (by omega), Nat.zero_mul]
        rfl
      | j + 1, M, h1, h2, h3 => by
        rw [Nat.succ_mul] at h1 h2 h3;have h3' : j * 128 + 128 < M.length := by rcases h3 with h | h <;> omega
        obtain ⟨H, lo, hi, hp, hf, hHl⟩ := St64.passes H0 hH j (M.take (j * 128 + 128)) (by rw [aZJ]; omega) (by rw [aZJ]; omega) (.inr (by rw [aZJ]; omega));rw [passTo_take 128 M _ _ j (by omega)] at hp;have hsplit : M = M.take (j * 128 + 128) ++ M.drop (j * 128 + 128) := (List.take_append_drop _ _).symm;have hne : M.drop (j * 128 + 128) ≠ [] := by intro h; have := congrArg List.length h; rw [aZS] at this; simp at this; omega
        have hok : (St64.mk H0 0 0 []).Ok := ⟨hH, aZY _⟩;have hheld : (M.take (j * 128 + 128)).drop (j * 128) = cutL M (j * 128) 128 := by rw [cutL_mid M _ _ (by omega), List.drop_take, Nat.add_sub_cancel_left]
        have hheldl : (cutL M (j * 128) 128).length = 128 := cutL_len _ _ _;rw [hheld] at hf;have hok1 : (St64.mk H lo hi (cutL M (j * 128) 128)).Ok := ⟨hHl, by rw [hheldl]; exact aZC _⟩;have hready : (St64.mk H lo hi (cutL M (j * 128) 128)).ready = ⟨comp64 H (wordsOf (cutL M (j * 128) 128) 16) (addLo lo 128) (addHi lo hi 128) false false, addLo lo 128, addHi lo hi 128, []⟩ := by
          unfold St64.ready;rw [if_pos hheldl]
          rfl
        refine ⟨comp64 H (wordsOf (cutL M (j * 128) 128) 16) (addLo lo 128) (addHi lo hi 128) false false, addLo lo 128, addHi lo hi 128, ?_, ?_, comp64_len _ _ _ _ _ _⟩
        · unfold passTo
          rw [hp]
          rfl
        · rw [show (St64.mk H0 0 0 []).feed M = (St64.mk H0 0 0 []).feed (M.take (j * 128 + 128) ++ M.drop (j * 128 + 128)) from congrArg _ hsplit, St64.feed_append _ _ _ _ hok (aZC _), hf, St64.feed_step hok1 _ hne, hready]
          show (St64.take _ _).feed ((M.drop (j * 128 + 128)).drop (128 - 0)) = _
          have hdn : (M.drop (j * 128 + 128)).drop (128 - 0) = [] := List.drop_eq_nil_of_le (by rw [aZS]; omega);rw [hdn, St64.feed_nil];unfold St64.take
          show (St64.mk _ _ _ ([] ++ (M.drop (j * 128 + 128)).take (128 - 0))) = _
          rw [aZQ (by rw [aZS]; omega), Nat.succ_mul]
          rfl
theorem St32.passes (H0 : List UInt32) (hH : H0.length = 8) : ∀ (j : Nat) (M : List UInt8), j * 64 <= M.length -> M.length <= j * 64 + 64 -> (j = 0 \/ j * 64 < M.length) ->
              ∃ H lo hi, passTo 64 M (.small H0) j = (.small H, lo, hi) /\ (St32.mk H0 0 0 []).feed M = ⟨H, lo, hi, M.drop (j * 64)⟩ /\ H.length = 8
            | 0, M, _, h2, _ => by
              refine ⟨H0, 0, 0, rfl, ?_, hH⟩
              by_cases h0 : M = []
              · subst h0; rfl
              have hok : (St32.mk H0 0 0 []).Ok := ⟨hH, aZY _⟩;have hr : (St32.mk H0 0 0 []).ready = ⟨H0, 0, 0, []⟩ := by unfold St32.ready; rw [if_neg (by simp)]
              rw [St32.feed_step hok M h0, hr]
              show (St32.take (⟨H0, 0, 0, []⟩ : St32) M).feed (M.drop (64 - 0)) = _
              rw [List.drop_eq_nil_of_le (by omega), St32.feed_nil]
              show (⟨H0, 0, 0, [] ++ M.take (64 - 0)⟩ : St32) = _
              rw [aZQ (by omega), Nat.zero_mul]
              rfl
            | j + 1, M, h1, h2, h3 => by
              rw [Nat.succ_mul] at h1 h2 h3;have h3' : j * 64 + 64 < M.length := by rcases h3 with h | h <;> omega
              obtain ⟨H, lo, hi, hp, hf, hHl⟩ := St32.passes H0 hH j (M.take (j * 64 + 64)) (by rw [aZJ]; omega) (by rw [aZJ]; omega) (.inr (by rw [aZJ]; omega));rw [passTo_take 64 M _ _ j (by omega)] at hp;have hsplit : M = M.take (j * 64 + 64) ++ M.drop (j * 64 + 64) := (List.take_append_drop _ _).symm;have hne : M.drop (j * 64 + 64) ≠ [] := by intro h; have := congrArg List.length h; rw [aZS] at this; simp at this; omega
              have hok : (St32.mk H0 0 0 []).Ok := ⟨hH, aZY _⟩;have hheld : (M.take (j * 64 + 64)).drop (j * 64) = cutL M (j * 64) 64 := by rw [cutL_mid M _ _ (by omega), List.drop_take, Nat.add_sub_cancel_left]
              have hheldl : (cutL M (j * 64) 64).length = 64 := cutL_len _ _ _;rw [hheld] at hf;have hok1 : (St32.mk H lo hi (cutL M (j * 64) 64)).Ok := ⟨hHl, by rw [hheldl]; exact aZC _⟩;have hready : (St32.mk H lo hi (cutL M (j * 64) 64)).ready = ⟨comp32 H (words3 (cutL M (j * 64) 64) 16) (addLo lo 64) false false, addLo lo 64, addHi lo hi 64, []⟩ := by
                unfold St32.ready;rw [if_pos hheldl]
                rfl
              refine ⟨comp32 H (words3 (cutL M (j * 64) 64) 16) (addLo lo 64) false false, addLo lo 64, addHi lo hi 64, ?_, ?_, comp32_len _ _ _ _ _⟩
              · unfold passTo
                rw [hp]
                rfl
              · rw [show (St32.mk H0 0 0 []).feed M = (St32.mk H0 0 0 []).feed (M.take (j * 64 + 64) ++ M.drop (j * 64 + 64)) from congrArg _ hsplit, St32.feed_append _ _ _ _ hok (aZC _), hf, St32.feed_step hok1 _ hne, hready]
                show (St32.take _ _).feed ((M.drop (j * 64 + 64)).drop (64 - 0)) = _
                have hdn : (M.drop (j * 64 + 64)).drop (64 - 0) = [] := List.drop_eq_nil_of_le (by rw [aZS]; omega);rw [hdn, St32.feed_nil];unfold St32.take
                show (St32.mk _ _ _ ([] ++ (M.drop (j * 64 + 64)).take (64 - 0))) = _
                rw [aZQ (by rw [aZS]; omega), Nat.succ_mul]
                rfl
theorem startK_key (big : Bool) (x key data : List UInt8) : (startK big x key).feed data = (startOf big x).feed (keyL big key ++ data) := by
 unfold startK keyL
 split
 ·rfl
 ·rw [Eng.feed_append _ (startOf_ok big x)]
theorem out_law (big : Bool) (x key data : List UInt8) (last : Bool) (n j a : Nat) (S : HS) (lo hi : UInt64) (hn : n = 2 * bOf big) (hp : passTo n (keyL big key ++ data) (HS.start big x) j = (S, lo, hi)) (ha : a = j * n) (h1 : a <= (keyL big key ++ data).length) (h2 : (keyL big key ++ data).length <= a + n) (h3 : j = 0 \/ a < (keyL big key ++ data).length) :
  outR n (keyL big key ++ data) a S lo hi last = ((startK big x key).feed data).out last := by
 rw [startK_key];subst hn ha;generalize keyL big key ++ data = M at *
 cases big with
 | true =>
  obtain ⟨H, lo', hi', hp', hf, hHl⟩ := St64.passes (start64 x) (start64_len x) j M h1 h2 h3;change passTo 128 M (.big (start64 x)) j = _ at hp;rw [hp'] at hp
  cases hp
  show _ = (Eng.big ((St64.mk (start64 x) 0 0 []).feed M)).out last
  rw [hf]
  show _ = flat (comp64 H (wordsOf (padTo (M.drop (j * 128)) 128) 16) (addLo lo (bZD (M.drop (j * 128)).length)) (addHi lo hi (bZD (M.drop (j * 128)).length)) true last)
  rw [aZS, <- cutL_end M (j * 128) 128 h2]
  rfl
 | false =>
  obtain ⟨H, lo', hi', hp', hf, hHl⟩ := St32.passes (start32 x) (start32_len x) j M h1 h2 h3;change passTo 64 M (.small (start32 x)) j = _ at hp;rw [hp'] at hp
  cases hp
  show _ = (Eng.small ((St32.mk (start32 x) 0 0 []).feed M)).out last
  rw [hf]
  show _ = flat3 (comp32 H (words3 (padTo (M.drop (j * 64)) 64) 16) (addLo lo (bZD (M.drop (j * 64)).length)) true last)
  rw [aZS, <- cutL_end M (j * 64) 64 h2]
  rfl
theorem refHash_any (big last : Bool) (m : Nat) (p : Pr) (ls lp key data : List UInt8) (Ak Ad : Option Addr) (nk ck nd cd : Nat) (w : World) (hc : chk (kOf big) p = 0) (hf : p.Fit) (hls : ls.length = p.salt.n) (hlp : lp.length = p.pers.n) (hrs : RS cB w w.heap.size p.salt.A ls) (hrp : RS cB w w.heap.size p.pers.A lp)
  (hk : key.length = nk) (hkk : nk = 0 \/ (nk : Int) = p.key) (hrk : RS cB w w.heap.size Ak key) (hdl : data.length = nd) (hnd : nd <= 140737488355200) (hrd : RS cB w w.heap.size Ad data) (hm : 1 <= m /\ m <= bOf big) :
  Calls Tryz.prog 34 #[.int .i64 (kOf big), p.v, .slice Ak nk ck, .bool last, .int .i64 m, .slice Ad nd cd] w fun r w' => ∃ A' c' cc, r = .returned (.tuple #[.slice A' m cc, .int .i64 0]) /\ m <= cc /\ OS cB w' w.heap.size A' c' ((hashL big p ls lp key last data).take m) /\ Below w.heap.size w w' := by
 have hnew := fun W hrs hrp hrk => refNew_any big p ls lp key Ak nk ck W hc hrs hrp hk hkk hrk
 have hkl := keyL_len big key (by have := (chk_range hc).2.1; rw [hk]; rcases hkk with h | h <;> omega);have hwr := fun base q Am nm cm cnt W hN hr hlen => refWrite_any base q big p ls lp key Ak nk ck last (keyL big key) Am nm cm cnt Ad nd cd data W hN hdl hr hlen
 have hou := fun base q Am nm cm cnt W hN hnm => refOut_any base q big p ls lp key Ak nk ck last (keyL big key ++ data) Am nm cm cnt (2 * bOf big) W hN hc hf hls hlp hnm rfl
 have hlaw := fun j a S lo hi hp ha h1 h2 h3 => out_law big (encL big p ls lp) key data last (2 * bOf big) j a S lo hi rfl hp ha h1 h2 h3
 have hhl := hashL_len big p ls lp key last data;unfold hashL at hhl ⊢;generalize ((startK big (encL big p ls lp) key).feed data).out last = OUT at *;have hfu := fun W => refFull_any big W
 obtain ⟨hm1, hm2⟩ := hm;have hbo := bOf_le big;have t1 : decide ((m : Int) < 1) = false := by simp; omega
 generalize bOf big = bo at *;have t2 : decide ((bo : Int) < m) = false := by simp; omega
 obtain ⟨kk, hkq⟩ : ∃ kk, kOf big = kk := ⟨_, rfl⟩;rw [hkq];simp only [hkq] at hnew hfu;have HNEW := zH hnew; have HWR := zH hwr; have HOU := zH hou; have HLAW := zH hlaw; have HFU := zH hfu; have HRS := zH hrs; have HRP := zH hrp; have HRK := zH hrk; have HRD := zH hrd; have HDL := zH hdl; have HKL := zH hkl; have HHL := zH hhl;clear hnew hwr hou hlaw hfu hrs hrp hrk hrd hdl hkl hhl hc hf hls hlp hk hkk hkq;unfold Pr.v Pr.cs Sl.v at *;go_enter Tryz.func34, Tryz.ntmps34;go_upto_region 6 with (first
  | (go_at_call 52; refine (HNEW.out _ ((HRS.alloc (aZC _) _).more (by simp)) ((HRP.alloc (aZC _) _).more (by simp)) ((HRK.alloc (aZC _) _).more (by simp))).mono ?_; rintro e w1 ⟨q, Am, nm, cm, rfl, hN1, hbw1⟩; (first | refine withN hbw1 ?_ | refine withD hbw1 ?_ | refine with0 hbw1 ?_); intro hcw1 hfw1; have z0w1 : w.heap.size < w1.heap.size := (by have := hbw1.size; (try simp at this); omega))
  | (go_at_call 33; refine (HFU _).mono ?_; rintro e2 w2 ⟨rfl, rfl⟩))
 have HB1 := zH (bcall (bal (b0 w) _) hbw1);have hbase : (w.alloc (.cells #[.int .i64 p.digest, .int .i64 p.key, .int .i64 p.fanout, .int .i64 p.depth, .int .u32 p.leaf, .int .u64 p.offset, .int .u32 p.xof, .int .i64 p.nd, .int .i64 p.inner, .slice p.salt.A p.salt.n p.salt.c, .slice p.pers.A p.pers.n p.pers.c] 81)).heap.size = w.heap.size + 1 := by simp
 rw [hbase] at hN1;have HN1 := zH hN1;have c13 : w1.cell? ⟨q, 13, none⟩ = some (.bool false) := hN1.blk.cell 13;have f13 := hN1.blk.frozen 13;have hqb : w.heap.size + 1 <= q := hN1.lo;have hlen1 := hN1.len;clear hN1 hcw1 hfw1 hbw1 z0w1 hbase;go_upto_region 7 with fail
 have hN2 : RN (w1.setCell ⟨q, 13, none⟩ (.bool last)) (w.heap.size + 1) q big p ls lp key Ak nk ck last (keyL big key) Am nm cm 0 :=
  ⟨by have h := HN1.blk.set_ 13 (.bool last); rw [rn_last] at h; exact h, hqb, HN1.salt.setCell hqb _, HN1.pers.setCell hqb _, HN1.key.setCell hqb _, HN1.own.setFar HN1.far _, HN1.len, HN1.far⟩
 have HB2 := zH (bput HB1.out (p := ⟨q, 13, none⟩) (show w.heap.size <= q by omega) (.bool last));have HN2 := zH hN2;have hdat : RS cB (w1.setCell ⟨q, 13, none⟩ (.bool last)) (w.heap.size + 1) Ad data := (HRD.below HB2.out).more (by omega);generalize w1.setCell ⟨q, 13, none⟩ (.bool last) = w2 at *;have hnm : nm <= 128 := by rw [<- hlen1]; exact HKL.out
 have HDAT := zH hdat;have HLEN := zH hlen1;clear hN2 hdat c13 f13 HN1 HB1 hlen1;go_wp2_with fail;refine (HWR.out _ q Am nm cm 0 _ HN2.out HDAT.out (by omega)).mono ?_;rintro e3 w3 ⟨rfl, Am3, cm3, hN3, hbut3, -⟩;have hB3 : Below w.heap.size w w3 := HB2.trans (hbut3.toBelow (B := w.heap.size) HB2.size (fun k hk => by
  rcases List.mem_cons.1 hk with rfl | h
  ·omega
  ·obtain ⟨a, ha, hb⟩ := mem_obl.1 h
   have h2 := (HN2.own.block_lt a ha).1;omega))
 have HN3 := zH hN3; have HB3 := zH hB3; clear hN3 hB3 hbut3;go_wp2_with fail;refine (HOU.out _ q Am3 (nm + nd) cm3 _ _ HN3.out (by omega)).mono ?_;rintro e4 w4 ⟨j, a, S, lo, hi, A4, c4, hP, ha, h1, h2, h3, rfl, ho4, hb4⟩;have hl := HN3.len;rw [HLAW.out j a S lo hi hP ha (by rw [hl]; exact h1) (by rw [hl]; exact h2) (by rw [hl]; exact h3)] at ho4;have hcap := ho4.len_le;rw [HHL.out] at hcap;obtain ⟨hcap, -⟩ := hcap;have HO4 := zH ((ho4.take m (by rw [HHL.out]; exact hm2)).mono (show w.heap.size <= _ from HB3.size)); have HB4 := zH (bcall HB3.out hb4);have hmc : (m : Int) <= c4 := by omega
 clear hP ha h1 h2 h3 ho4 hb4 hl;go_wp2_with fail;exact aZB (aZG rfl _ _ _) rfl ⟨A4, c4, _, rfl, by omega, HO4.out, HB4.out⟩
theorem refHashBad_any (k : Int) (last : Bool) (m : Int) (p : Pr) (Ak Ad : Option Addr) (nk ck nd cd : Nat) (w : World) (hc : chk k p ≠ 0) :
  Calls Tryz.prog 34 #[.int .i64 k, p.v, .slice Ak nk ck, .bool last, .int .i64 m, .slice Ad nd cd] w fun r w' => r = .returned (.tuple #[.slice none 0 0, .int .i64 (chk k p)]) /\ Below w.heap.size w w' := by open kA in exact zS71
theorem refHashKey_any (k : Int) (last : Bool) (m : Int) (p : Pr) (Ak Ad : Option Addr) (nk ck nd cd : Nat) (w : World) (hc : chk k p = 0) (hn : nk ≠ 0) (hk : (nk : Int) ≠ p.key) :
  Calls Tryz.prog 34 #[.int .i64 k, p.v, .slice Ak nk ck, .bool last, .int .i64 m, .slice Ad nd cd] w fun r w' => r = .returned (.tuple #[.slice none 0 0, .int .i64 8]) /\ Below w.heap.size w w' := by exact zS71
theorem refHashOut_any (big last : Bool) (m : Int) (p : Pr) (ls lp key : List UInt8) (Ak Ad : Option Addr) (nk ck nd cd : Nat) (w : World) (hc : chk (kOf big) p = 0) (hrs : RS cB w w.heap.size p.salt.A ls) (hrp : RS cB w w.heap.size p.pers.A lp)
  (hk : key.length = nk) (hkk : nk = 0 \/ (nk : Int) = p.key) (hrk : RS cB w w.heap.size Ak key) (hm : m < 1 \/ (bOf big : Int) < m) :
  Calls Tryz.prog 34 #[.int .i64 (kOf big), p.v, .slice Ak nk ck, .bool last, .int .i64 m, .slice Ad nd cd] w fun r w' => r = .returned (.tuple #[.slice none 0 0, .int .i64 1]) /\ Below w.heap.size w w' := by
 have hnew := fun W hrs hrp hrk => refNew_any big p ls lp key Ak nk ck W hc hrs hrp hk hkk hrk
 have hfu := fun W => refFull_any big W
 have hbo := bOf_le big;generalize bOf big = bo at *;obtain ⟨kk, hkq⟩ : ∃ kk, kOf big = kk := ⟨_, rfl⟩;rw [hkq];simp only [hkq] at hnew hfu;have HNEW := zH hnew; have HFU := zH hfu; have HRS := zH hrs; have HRP := zH hrp; have HRK := zH hrk;clear hnew hfu hrs hrp hrk hc hk hkk hkq;unfold Pr.v Pr.cs Sl.v at *
 by_cases h1 : m < 1
 ·open kA in exact zS57
 ·exact zS57
end Go.Proofs.YtmapfcdffklopaaGreat

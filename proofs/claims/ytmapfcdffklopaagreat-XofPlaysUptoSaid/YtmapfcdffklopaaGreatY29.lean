/-
  Y29: contracts and lemmas alone; no statement is claimed here.
-/
import Derived.Test.YtmapfcdffklopaaGreatY28
namespace Go.Proofs.YtmapfcdffklopaaGreat
open Go.RowKit
attribute [local go_sem] pureUpon Ords.of

def givesV (p : Nat) : Value := .func (.func 65) #[.pointer (some ⟨p, 0, none⟩)] #[]
theorem XT.but {w w' : World} {base p : Nat} {big : Bool} {len : Int} {key ls lp : List UInt8} {wr : UInt64} {e : Eng} {cs : Array Value} {Ak : Option Addr} {ck : Nat} {s pp : Sl} {q : Nat} {F G : List Nat} (h : XT w base p big len key ls lp wr e cs Ak ck s pp q F) (hb : But G w w') (hp : p ∉ G) (hF : ∀ k, k ∈ F → k ∉ G)
  (hk : ∀ a, Ak = some a → a.block ∉ G) (hs : ∀ a, s.A = some a → a.block ∉ G) (hpp : ∀ a, pp.A = some a → a.block ∉ G) : XT w' base p big len key ls lp wr e cs Ak ck s pp q F :=
 ⟨h.blk.but hb hp, h.xc, h.hls, h.hlp, h.ok.but hb hk, h.os.but hb hs, h.op.but hb hpp, h.fk, h.fs, h.fp, h.nd.but hb hF, h.hp, h.hF, h.pF⟩
theorem XT.below {w w' : World} {base p : Nat} {big : Bool} {len : Int} {key ls lp : List UInt8} {wr : UInt64} {e : Eng} {cs : Array Value} {Ak : Option Addr} {ck : Nat} {s pp : Sl} {q : Nat} {F : List Nat} (h : XT w base p big len key ls lp wr e cs Ak ck s pp q F) (hb : Below w.heap.size w w') : XT w' base p big len key ls lp wr e cs Ak ck s pp q F :=
 h.but (But.of hb []) (fun h => by cases h) (fun _ _ h => by cases h) (fun _ _ h => by cases h) (fun _ _ h => by cases h) (fun _ _ h => by cases h)
theorem XT.wrote {w w' : World} {base p : Nat} {big : Bool} {len : Int} {key ls lp : List UInt8} {wr wr' : UInt64} {e e' : Eng} {cs : Array Value} {Ak : Option Addr} {ck : Nat} {s pp : Sl} {q : Nat} {F F' : List Nat} (h : XT w base p big len key ls lp wr e cs Ak ck s pp q F) (hb : But F w w')
  (hN : Nd w' q big (bOf big) (encL big (rootP (kOf big) len key.length s pp) ls lp) key false wr' e' F') (hF' : ∀ k, k ∈ F' → k ∈ F ∨ w.heap.size ≤ k) (hbase : base ≤ w.heap.size) : XT w' base p big len key ls lp wr' e' cs Ak ck s pp q F' := by
 have far : ∀ {A : Option Addr} {c : Nat} {l : List UInt8}, OS cB w base A c l → (∀ a, A = some a → a.block ∉ p :: F) → ∀ a, A = some a → a.block ∉ p :: F' := by
  intro A c l ho hf a ha hm
  rcases List.mem_cons.1 hm with h1 | h1
  ·exact hf a ha (List.mem_cons.2 (.inl h1))
  ·rcases hF' _ h1 with h2 | h2
   ·exact hf a ha (List.mem_cons.2 (.inr h2))
   ·have := (ho.block_lt a ha).2; omega
 refine ⟨h.blk.but hb h.pF, h.xc, h.hls, h.hlp, h.ok.but hb (fun a ha hm => h.fk a ha (List.mem_cons.2 (.inr hm))), h.os.but hb (fun a ha hm => h.fs a ha (List.mem_cons.2 (.inr hm))), h.op.but hb (fun a ha hm => h.fp a ha (List.mem_cons.2 (.inr hm))), far h.ok h.fk, far h.os h.fs, far h.op h.fp, hN, h.hp, fun k hk => ?_, fun hm => ?_⟩
 ·rcases hF' k hk with h2 | h2
  ·exact h.hF k h2
  ·omega
 ·rcases hF' p hm with h2 | h2
  ·exact h.pF h2
  ·have := h.blk.lt; omega
set_option maxRecDepth 20000 in
set_option maxHeartbeats 1000000 in
theorem xtakes_any (base p : Nat) (big : Bool) (len : Int) (key ls lp : List UInt8) (wr : UInt64) (e : Eng) (cs : Array Value) (Ak : Option Addr) (ck : Nat) (s pp : Sl) (q : Nat) (F : List Nat) (Ab : Option Addr) (nb cb : Nat) (L : List UInt8) (w : World) (hX : XT w base p big len key ls lp wr e cs Ak ck s pp q F) (hbase : base ≤ w.heap.size)
  (hL : L.length = nb) (hnb : nb ≤ cb) (hcb : cb ≤ 9223372036854775807) (hr : RS cB w w.heap.size Ab L) (hfar : L ≠ [] → ∀ a, Ab = some a → a.block ∉ F) :
  Calls Tryz.prog 61 #[.pointer (some ⟨p, 0, none⟩), .slice Ab nb cb] w fun r w' => r = .returned (.int .i64 0) ∧ ∃ F', XT w' base p big len key ls lp (wr + UInt64.ofNat nb) (e.feed L) cs Ak ck s pp q F' ∧ (∀ k, k ∈ F' → k ∈ F ∨ w.heap.size ≤ k) ∧ But F w w' := by
 obtain ⟨now, -, hx⟩ := hX.xc
 have d8 : w.cell? ⟨p, 8, none⟩ = some (.pointer (some ⟨q, 0, none⟩)) := (hX.blk.cell 8).trans hx.c8
 have hwr := writeN_any q (bOf big) big false (encL big (rootP (kOf big) len key.length s pp) ls lp) key wr e F Ab nb cb L w hX.nd hL hnb hcb hr hfar
 have HX := Lib.hid hX; have HWR := Lib.hid hwr; clear hX hwr hx hr hfar hL
 go_enter Tryz.func61, Tryz.ntmps61
 go_wp2_with fail
 refine HWR.out.mono ?_
 rintro e1 w1 ⟨rfl, F', hN, hF', hb⟩
 have HN := Lib.hid hN; have HF := Lib.hid hF'; have HB := Lib.hid hb; clear hN hF' hb
 go_wp2_with fail
 exact bodyPost_ret (results_tmp rfl _ _ _) rfl ⟨rfl, F', HX.out.wrote HB.out HN.out HF.out hbase, HF.out, HB.out⟩
set_option maxRecDepth 20000 in
set_option maxHeartbeats 1000000 in
theorem xwrite_any (base p : Nat) (big : Bool) (len : Int) (key ls lp : List UInt8) (wr : UInt64) (e : Eng) (cs : Array Value) (Ak : Option Addr) (ck : Nat) (s pp : Sl) (q : Nat) (F : List Nat) (Ab : Option Addr) (nb cb : Nat) (L : List UInt8) (w : World) (hX : XT w base p big len key ls lp wr e cs Ak ck s pp q F) (hbase : base ≤ w.heap.size)
  (hL : L.length = nb) (hnb : nb ≤ cb) (hcb : cb ≤ 9223372036854775807) (hr : RS cB w w.heap.size Ab L) (hfar : L ≠ [] → ∀ a, Ab = some a → a.block ∉ F) :
  Calls Tryz.prog 21 #[.pointer (some ⟨p, 0, none⟩), .slice Ab nb cb] w fun r w' => r = .returned (.int .i64 0) ∧ ∃ F', XT w' base p big len key ls lp (wr + UInt64.ofNat nb) (e.feed L) cs Ak ck s pp q F' ∧ (∀ k, k ∈ F' → k ∈ F ∨ w.heap.size ≤ k) ∧ But F w w' := by
 obtain ⟨now, -, hx⟩ := hX.xc
 have c76 : cs[76]? = some (.func (.func 61) #[.pointer (some ⟨p, 0, none⟩)] #[]) := hx.c76
 have d76 : w.cell? ⟨p, 76, none⟩ = some (.func (.func 61) #[.pointer (some ⟨p, 0, none⟩)] #[]) := (hX.blk.cell 76).trans c76
 have hno := xnone_any p cs w hX.blk _ _ _ c76
 have hta := xtakes_any base p big len key ls lp wr e cs Ak ck s pp q F Ab nb cb L w hX hbase hL hnb hcb hr hfar
 have HNO := Lib.hid hno; have HTA := Lib.hid hta; clear hno hta hX hx hr hfar hL c76
 go_enter Tryz.func21, Tryz.ntmps21
 go_wp2_with (go_at_call 29; refine HNO.out.mono ?_; rintro e0 w0 ⟨rfl, rfl⟩)
 refine HTA.out.mono ?_
 rintro e1 w1 ⟨rfl, F', hX, hF', hb⟩
 have HX := Lib.hid hX; have HF := Lib.hid hF'; have HB := Lib.hid hb; clear hX hF' hb
 go_wp2_with fail
 exact bodyPost_ret (results_tmp rfl _ _ _) rfl ⟨rfl, F', HX.out, HF.out, HB.out⟩
def noSl : Sl := ⟨none, 0, 0⟩
def pieceL (big : Bool) (len : Int) (ls lp root : List UInt8) (i : Nat) : List UInt8 := (hashL big (pceP (bOf big) (totN (kOf big) len) i (codN (kOf big) len) noSl noSl) ls lp [] false root).take (pceM (bOf big) (totN (kOf big) len) i)
structure XG (w : World) (base p : Nat) (big : Bool) (len : Int) (key ls lp : List UInt8) (wr : UInt64) (e : Eng) (root : List UInt8) (pos : Nat) (cs : Array Value) (Ak : Option Addr) (ck : Nat) (s pp : Sl) (q : Nat) (F : List Nat) (Ar : Option Addr) (cr : Nat) (hv : Int) (now : List UInt8) : Prop where
  blk : Blk w p 71 cs
  xc : XC cs (kOf big) (mostOf (kOf big)) (xCode (kOf big) len) (xTotal (kOf big) len) (decide (len ≠ -1)) (.slice Ak key.length ck) s.v pp.v (.pointer (some ⟨q, 0, none⟩)) (.slice Ar (bOf big) (bOf big)) pos hv (givesV p) now
  hnow : now.length = 64
  hls : ls.length = s.n
  hlp : lp.length = pp.n
  ok : OS cB w base Ak ck key
  os : OS cB w base s.A s.c ls
  op : OS cB w base pp.A pp.c lp
  fk : ∀ a, Ak = some a → a.block ∉ p :: F
  fs : ∀ a, s.A = some a → a.block ∉ p :: F
  fp : ∀ a, pp.A = some a → a.block ∉ p :: F
  nd : Nd w q big (bOf big) (encL big (rootP (kOf big) len key.length s pp) ls lp) key false wr e F
  hp : base ≤ p
  hF : ∀ k, k ∈ F → base ≤ k
  pF : p ∉ F
  or : OS cB w base Ar cr root
  rl : root.length = bOf big
  fr : ∀ a, Ar = some a → a.block ∉ p :: F
  hve : hv = -1 ∨ ∃ i : Nat, hv = i ∧ i * bOf big < totN (kOf big) len ∧ now.take (pceM (bOf big) (totN (kOf big) len) i) = pieceL big len ls lp root i
  hpos : pos ≤ totN (kOf big) len
set_option maxRecDepth 20000 in
set_option maxHeartbeats 2000000 in
theorem xgive_any (base p : Nat) (big : Bool) (len : Int) (key ls lp : List UInt8) (wr : UInt64) (e : Eng) (cs : Array Value) (Ak : Option Addr) (ck : Nat) (s pp : Sl) (q : Nat) (F : List Nat) (w : World) (hX : XT w base p big len key ls lp wr e cs Ak ck s pp q F) (hbase : base ≤ w.heap.size) (hfull : e.full = bOf big) (hlen : (e.out false).length = bOf big) :
  Calls Tryz.prog 44 #[.pointer (some ⟨p, 0, none⟩)] w fun r w' => r = .returned (.tuple #[]) ∧ ∃ cs' Ar cr hv now, XG w' base p big len key ls lp wr e ((e.out false).take (bOf big)) 0 cs' Ak ck s pp q F Ar cr hv now ∧ But [p] w w' ∧ (∀ a, Ar = some a → w.heap.size ≤ a.block) := by
 obtain ⟨now, hn64, hx⟩ := hX.xc
 have hb0 : 1 ≤ bOf big := by cases big <;> decide
 have hou := fun W h => outN_any q (bOf big) (bOf big) big false (encL big (rootP (kOf big) len key.length s pp) ls lp) key wr e F W h ⟨hb0, Nat.le_refl _⟩ hfull
 have d9 : w.cell? ⟨p, 9, none⟩ = some (.slice none 0 0) := (hX.blk.cell 9).trans hx.c9
 have d8 : w.cell? ⟨p, 8, none⟩ = some (.pointer (some ⟨q, 0, none⟩)) := (hX.blk.cell 8).trans hx.c8
 have d1 : w.cell? ⟨p, 1, none⟩ = some (.int .i64 (bOf big)) := by rw [← mostOf_k]; exact (hX.blk.cell 1).trans hx.c1
 have hmf : ∀ (fn : Fn) (first cap : Array Value) (w : World), (Instr.makeFunc fn first cap).run Tryz.prog w = .ok (.func fn first cap) w := fun _ _ _ _ => rfl
 have hbo : ∀ W, Sem.run Tryz.prog (Go.binOp .eql 22 (.slice none 0 0) (.slice none 0 0)) W = .ok (.bool true) W := by intro W; rfl
 have HX := Lib.hid hX; have HOU := Lib.hid hou; have HXC := Lib.hid hx; have HLN := Lib.hid hlen; clear hX hou hx hfull hb0 hlen
 go_enter Tryz.func44, Tryz.ntmps44
 go_upto_region 1 with fail
 refine wp_region_ords (fun _ => True) (fun _ _ h => h) (Ords.of [(0, 0), (0, 1), (0, 2), (0, 3), (1, 4), (0, 5), (0, 6), (0, 7), (0, 8), (1, 9), (2, 10), (0, 11), (0, 12), (0, 13), (0, 14), (0, 15), (2, 16)] .fin) (by kernel_rfl) rfl (by kernel_rfl) (by kernel_rfl) (fun c a d v w h => by cases d <;> exact h) trivial ?_
 iterate 2 (refine ords_pure rfl (fun K hK => ?_); go_simp; refine hK _ ?_; clear hK K; refine ords_pure rfl (fun K hK => ?_); go_simp; refine hK _ ?_; clear hK K; refine ords_pure rfl (fun K hK => ?_); go_simp; refine hK _ ?_; clear hK K; refine ords_pure rfl (fun K hK => ?_); go_simp; refine hK _ ?_; clear hK K; refine ords_read rfl (fun K hK => ?_); go_simp; refine hK _ ?_; clear hK K)
 refine ords_loud rfl (fun n1 => ?_)
 go_wp2_with (go_at_call 64; refine (HOU.out _ (HX.out.nd.drewN _)).mono ?_; rintro e1 w1 ⟨A1, c1, rfl, ho1, hb1⟩)
 have B1 := Lib.hid (HX.out.blk.below (bcall (bdr (b0 w) _) hb1) HX.out.blk.lt); have HB1 := Lib.hid (bcall (bdr (b0 w) _) hb1); have HO1 := Lib.hid ho1; clear hb1 ho1
 have e9 : w1.cell? ⟨p, 9, none⟩ = some (.slice none 0 0) := (B1.out.cell 9).trans HXC.out.c9
 have e76 : w1.cell? ⟨p, 76, none⟩ = some (takesV p) := (B1.out.cell 76).trans HXC.out.c76
 have f9 := B1.out.frozen 9
 have f76 := B1.out.frozen 76
 refine ⟨trivial, ?_⟩
 iterate 5 (refine ords_pure rfl (fun K hK => ?_); go_simp; refine hK _ ?_; clear hK K)
 refine ords_loud rfl (fun n2 => ?_)
 go_wp2_with fail
 first | (refine ⟨trivial, ?_⟩; refine ords_end (fun n3 => ?_)) | (rintro _ ⟨n3, rfl⟩)
 go_wp2_with fail
 go_end0
 have B5 := But.setCell (p := ⟨p, 76, none⟩) ((But.setCell (p := ⟨p, 9, none⟩) ((But.refl [p] w1).drewN n2) (.inl (List.mem_singleton.2 rfl)) (.slice A1 (bOf big) (bOf big))).drewN n3) (.inl (List.mem_singleton.2 rfl)) (givesV p)
 have sg : ∀ {k : Nat}, k ∈ [p] → k ∈ p :: F := fun h => List.mem_cons.2 (.inl (List.mem_singleton.1 h))
 have ho := (HO1.out.mono hbase).but B5 (fun a ha h => by have h1 := (HO1.out.block_lt a ha).1; rw [List.mem_singleton.1 h] at h1; have h2 := HX.out.blk.lt; exact Nat.lt_irrefl _ (Nat.lt_of_lt_of_le h2 h1))
 refine ⟨rfl, _, A1, c1, -1, now, ⟨(((B1.out.drewN n2).set_ 9 _).drewN n3).set_ 76 _, (HXC.out.put9 _).put76 _, hn64, HX.out.hls, HX.out.hlp, (HX.out.ok.below HB1.out (Nat.le_refl _)).but B5 (fun a ha h => HX.out.fk a ha (sg h)), (HX.out.os.below HB1.out (Nat.le_refl _)).but B5 (fun a ha h => HX.out.fs a ha (sg h)), (HX.out.op.below HB1.out (Nat.le_refl _)).but B5 (fun a ha h => HX.out.fp a ha (sg h)),
  HX.out.fk, HX.out.fs, HX.out.fp, (HX.out.nd.below HB1.out).but B5 (fun k hk h => HX.out.pF (by rw [← List.mem_singleton.1 h]; exact hk)), HX.out.hp, HX.out.hF, HX.out.pF, ho, by rw [List.length_take, HLN.out, Nat.min_self], fun a ha h => ?_, .inl rfl, Nat.zero_le _⟩, (But.of HB1.out [p]).trans B5 (fun k hk => .inl hk), fun a ha => (HO1.out.block_lt a ha).1⟩
 have h1 : w.heap.size ≤ a.block := (HO1.out.block_lt a ha).1
 rcases List.mem_cons.1 h with h2 | h2
 ·have h3 := HX.out.blk.lt; omega
 ·have h3 := HX.out.nd.lt _ h2; omega
end Go.Proofs.YtmapfcdffklopaaGreat

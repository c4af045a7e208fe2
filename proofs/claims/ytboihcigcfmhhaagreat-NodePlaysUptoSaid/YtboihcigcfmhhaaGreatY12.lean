/-
  Y12: contracts and lemmas alone; no statement is claimed here.
-/
import Derived.Test.YtboihcigcfmhhaaGreatY10
import Derived.Test.YtboihcigcfmhhaaGreatY11
set_option maxHeartbeats 4000000
set_option maxRecDepth 20000
namespace Go.Proofs.YtboihcigcfmhhaaGreat
open _root_.Nat renaming le_trans → aZL
open Go renaming results_tmp → aZK
open _root_.Option.some renaming inj → aZF
open _root_.Nat renaming le_refl → aZC
open Go renaming bodyPost_ret → aZB
open Lib renaming hid -> zH
open Go.RowKit
inductive Eng
  | big (s : St64)
  | small (s : St32)
namespace Eng
def T : Eng -> TypeId
  | .big _ => 123
  | .small _ => 129
def fw : Eng -> FuncId
  | .big _ => 153
  | .small _ => 159
def fo : Eng -> FuncId
  | .big _ => 151
  | .small _ => 157
def full : Eng -> Nat
  | .big _ => 64
  | .small _ => 32
def feed : Eng -> List UInt8 -> Eng
  | .big s, b => .big (s.feed b)
  | .small s, b => .small (s.feed b)
def out : Eng -> Bool -> List UInt8
  | .big s, n => s.out n
  | .small s, n => s.out n
def inn (w : World) (base g : Nat) : Eng -> Option Addr -> Nat -> Prop
  | .big s, A, c => E64 w base g s A c
  | .small s, A, c => E32 w base g s A c
theorem feed_T (e : Eng) (b : List UInt8) : (e.feed b).T = e.T := by cases e <;> rfl
theorem feed_full (e : Eng) (b : List UInt8) : (e.feed b).full = e.full := by cases e <;> rfl
theorem run_write (e : Eng) (g k : Nat) (hk : 0 < k) (w : World) : Sem.run Tryz.prog (method k e.T (.pointer (some ⟨g, 0, none⟩)) "quern/node.write") w = .ok (e.fw, .pointer (some ⟨g, 0, none⟩)) w := by
 obtain ⟨n, rfl⟩ : ∃ n, k = n + 1 := ⟨k - 1, by omega⟩;clear hk
 cases e <;> (show _ = _; kernel_rfl)
theorem run_out (e : Eng) (g k : Nat) (hk : 0 < k) (w : World) : Sem.run Tryz.prog (method k e.T (.pointer (some ⟨g, 0, none⟩)) "quern/node.out") w = .ok (e.fo, .pointer (some ⟨g, 0, none⟩)) w := by
 obtain ⟨n, rfl⟩ : ∃ n, k = n + 1 := ⟨k - 1, by omega⟩;clear hk
 cases e <;> (show _ = _; kernel_rfl)
theorem enters_w (e : Eng) (args : Array Value) (w : World) : (callFunc e.fw args).run Tryz.prog w = .ok (.enter e.fw args) w := by
 cases e <;> (show _ = _; kernel_rfl)
theorem enters_o (e : Eng) (args : Array Value) (w : World) : (callFunc e.fo args).run Tryz.prog w = .ok (.enter e.fo args) w := by
 cases e <;> (show _ = _; kernel_rfl)
end Eng
structure WroteE (w w' : World) (base g : Nat) (e : Eng) (A A' : Option Addr) (c' : Nat) : Prop where
  st : e.inn w' base g A' c'
  gr : Grown2 w w' (some g) (A.map (·.block))
  row : A'.map (·.block) = A.map (·.block) \/ ∀ a, A' = some a -> w.heap.size <= a.block
section
variable {w w' : World} {base g c B : Nat} {e : Eng} {A : Option Addr}
theorem Eng.inn_below (h : e.inn w base g A c) (hb : Below w.heap.size w w') : e.inn w' base g A c := by
 cases e
 ·exact E64.below h hb
 ·exact E32.below h hb
theorem Eng.inn_drewN (h : e.inn w base g A c) (n : Nat) : e.inn (w.drewN n) base g A c := by
 cases e
 ·exact E64.drewN h n
 ·exact E32.drewN h n
theorem Eng.inn_lt (h : e.inn w base g A c) : g < w.heap.size := by
 cases e
 ·exact (E64.blk h).lt
 ·exact (E32.blk h).lt
theorem Eng.inn_far (h : e.inn w base g A c) : ∀ a, A = some a -> a.block ≠ g /\ base <= a.block /\ a.block < w.heap.size := by
 cases e
 ·exact fun a ha => ⟨E64.far h a ha, (E64.own h).block_lt a ha⟩
 ·exact fun a ha => ⟨E32.far h a ha, (E32.own h).block_lt a ha⟩
theorem Eng.inn_of (h : e.inn w base g A c) (hg : w'.heap[g]? = w.heap[g]?) (ha : ∀ a, A = some a -> w'.heap[a.block]? = w.heap[a.block]?) : e.inn w' base g A c := by
 cases e
 ·exact ⟨hg.trans (E64.blk h), (E64.own h).of_block ha, E64.ok h, E64.far h⟩
 ·exact ⟨hg.trans (E32.blk h), (E32.own h).of_block ha, E32.ok h, E32.far h⟩
end
theorem eng_write (e : Eng) (g base : Nat) (A : Option Addr) (c : Nat) (Ab : Option Addr) (nb cb : Nat) (L : List UInt8) (w : World) (hE : e.inn w base g A c) (hb : base <= w.heap.size) (hL : L.length = nb) (hnb : nb <= cb) (hcb : cb <= 9223372036854775807) (hr : RS cB w w.heap.size Ab L)
  (hfar : ∀ a, Ab = some a -> some a.block ≠ some g /\ some a.block ≠ A.map (·.block)) :
  Calls Tryz.prog e.fw #[.pointer (some ⟨g, 0, none⟩), .slice Ab nb cb] w fun x w' => x = .returned (.tuple #[]) /\ ∃ A' c', WroteE w w' base g (e.feed L) A A' c' := by
 cases e with
 | big s => exact (write64_any g base s A c Ab nb cb L w hE hb hL hnb hcb hr hfar).mono (fun x w' ⟨h1, A', c', h2⟩ => ⟨h1, A', c', h2.st, h2.gr, h2.row⟩)
 | small s => exact (write32_any g base s A c Ab nb cb L w hE hb hL hnb hcb hr hfar).mono (fun x w' ⟨h1, A', c', h2⟩ => ⟨h1, A', c', h2.st, h2.gr, h2.row⟩)
theorem eng_out (e : Eng) (g base : Nat) (A : Option Addr) (c : Nat) (node : Bool) (w : World) (hE : e.inn w base g A c) :
  Calls Tryz.prog e.fo #[.pointer (some ⟨g, 0, none⟩), .bool node] w fun x w' => ∃ A' c', x = .returned (.slice A' e.full c') /\ OS cB w' w.heap.size A' c' (e.out node) /\ Below w.heap.size w w' := by
 cases e with
 | big s => exact out64_any g base s A c node w hE
 | small s => exact out32_any g base s A c node w hE
theorem Eng.out_len (e : Eng) (n : Bool) : (e.out n).length = e.full := by
 cases e with
 | big s => show (flat _).length = 64; rw [flat_len, St64.last_len]
 | small s => show (flat3 _).length = 32; rw [flat3_len, St32.last_len]
attribute [local go_sem] pureUpon Ords.of
theorem write64_nil (g cb : Nat) (Ab : Option Addr) (w : World) :
  Calls Tryz.prog 153 #[.pointer (some ⟨g, 0, none⟩), .slice Ab 0 cb] w fun e w' => e = .returned (.tuple #[]) /\ w = w' := by
 go_enter Tryz.func153, Tryz.ntmps153;go_wp2_with fail;refine wp_loop_rounds 1 ?_;rw [rounds_succ];go_wp2_with fail;go_end0;exact ⟨rfl, rfl⟩
theorem write32_nil (g cb : Nat) (Ab : Option Addr) (w : World) :
  Calls Tryz.prog 159 #[.pointer (some ⟨g, 0, none⟩), .slice Ab 0 cb] w fun e w' => e = .returned (.tuple #[]) /\ w = w' := by
 go_enter Tryz.func159, Tryz.ntmps159;go_wp2_with fail;refine wp_loop_rounds 1 ?_;rw [rounds_succ];go_wp2_with fail;go_end0;exact ⟨rfl, rfl⟩
theorem eng_write0 (e : Eng) (g base : Nat) (A : Option Addr) (c : Nat) (Ab : Option Addr) (nb cb : Nat) (L : List UInt8) (w : World) (hE : e.inn w base g A c) (hb : base <= w.heap.size) (hL : L.length = nb) (hnb : nb <= cb) (hcb : cb <= 9223372036854775807) (hr : RS cB w w.heap.size Ab L)
  (hfar : L ≠ [] -> ∀ a, Ab = some a -> some a.block ≠ some g /\ some a.block ≠ A.map (·.block)) :
  Calls Tryz.prog e.fw #[.pointer (some ⟨g, 0, none⟩), .slice Ab nb cb] w fun x w' => x = .returned (.tuple #[]) /\ ∃ A' c', WroteE w w' base g (e.feed L) A A' c' := by
 by_cases h0 : L = []
 ·subst h0
  obtain rfl : nb = 0 := hL.symm;have hf : e.feed [] = e := by cases e <;> rfl
  rw [hf]
  cases e with
  | big s => exact (write64_nil g cb Ab w).mono (fun x w' ⟨h1, h2⟩ => ⟨h1, A, c, h2 ▸ ⟨hE, Grown2.refl _ _ _, .inl rfl⟩⟩)
  | small s => exact (write32_nil g cb Ab w).mono (fun x w' ⟨h1, h2⟩ => ⟨h1, A, c, h2 ▸ ⟨hE, Grown2.refl _ _ _, .inl rfl⟩⟩)
 ·exact eng_write e g base A c Ab nb cb L w hE hb hL hnb hcb hr (hfar h0)
def startOf (big : Bool) (b : List UInt8) : Eng := if big then .big ⟨start64 b, 0, 0, []⟩ else .small ⟨start32 b, 0, 0, []⟩
def bOf (big : Bool) : Nat := if big then 64 else 32
theorem startOf_full (big : Bool) (b : List UInt8) : (startOf big b).full = bOf big := by cases big <;> rfl
theorem Blk.new2 (w : World) (o : Obj) (t : TypeId) (cs : Array Value) : Blk ((w.alloc o).alloc (.cells cs t)) (w.heap.size + 1) t cs := by
 have h := Blk.new (w.alloc o) t cs;rw [show (w.alloc o).heap.size = w.heap.size + 1 by simp] at h;exact h
theorem begunBig_any (A : Option Addr) (c B : Nat) (x : List UInt8) (w : World) (hx : x.length = 64) (hB : B <= w.heap.size) (hr : RS cB w B A x) :
  Calls Tryz.prog 55 #[.int .i64 1, .slice A 64 c] w fun e w' => ∃ g, e = .returned (.iface 123 (.pointer (some ⟨g, 0, none⟩))) /\ w.heap.size <= g /\ E64 w' w.heap.size g ⟨start64 x, 0, 0, []⟩ none 0 /\ Below w.heap.size w w' := by
 have hst := fun W hB hr => start_any A c x B W hx hB hr
 have hSl := start64_len x;generalize start64 x = S at *;obtain ⟨x0, x1, x2, x3, x4, x5, x6, x7, rfl⟩ : ∃ x0 x1 x2 x3 x4 x5 x6 x7, S = [x0, x1, x2, x3, x4, x5, x6, x7] := by
  match S, hSl with
  | [x0, x1, x2, x3, x4, x5, x6, x7], _ => exact ⟨x0, x1, x2, x3, x4, x5, x6, x7, rfl⟩
 have HST := zH hst; clear hst hSl;have HR := zH hr; have HX := zH hx; clear hr hx;go_enter Tryz.func55, Tryz.ntmps55;go_wp2_with (go_at_call 81; refine (HST.out _ hB HR.out).mono ?_; rintro e w1 ⟨rfl, hb1⟩; unfold wcs; simp only [List.map_cons, List.map_nil, wv]);have hs := hb1.size;exact aZB (aZK rfl _ _ _) rfl ⟨w1.heap.size + 1, rfl, by omega, ⟨Blk.new2 w1 _ _ _, OS.nil _ _ _ rfl, ⟨rfl, Nat.zero_le _⟩, fun a h => by cases h⟩, bal (bal hb1 _) _⟩
theorem begunSmall_any (A : Option Addr) (c B : Nat) (x : List UInt8) (w : World) (hx : x.length = 32) (hB : B <= w.heap.size) (hr : RS cB w B A x) :
  Calls Tryz.prog 55 #[.int .i64 2, .slice A 32 c] w fun e w' => ∃ g, e = .returned (.iface 129 (.pointer (some ⟨g, 0, none⟩))) /\ w.heap.size <= g /\ E32 w' w.heap.size g ⟨start32 x, 0, 0, []⟩ none 0 /\ Below w.heap.size w w' := by
 have hst := fun W hB hr => start3_any A c x B W hx hB hr
 have hSl := start32_len x;generalize start32 x = S at *;obtain ⟨x0, x1, x2, x3, x4, x5, x6, x7, rfl⟩ : ∃ x0 x1 x2 x3 x4 x5 x6 x7, S = [x0, x1, x2, x3, x4, x5, x6, x7] := by
  match S, hSl with
  | [x0, x1, x2, x3, x4, x5, x6, x7], _ => exact ⟨x0, x1, x2, x3, x4, x5, x6, x7, rfl⟩
 have HST := zH hst; clear hst hSl;have HR := zH hr; have HX := zH hx; clear hr hx;go_enter Tryz.func55, Tryz.ntmps55;go_wp2_with (go_at_call 84; refine (HST.out _ hB HR.out).mono ?_; rintro e w1 ⟨rfl, hb1⟩; unfold wc3; simp only [List.map_cons, List.map_nil, wv3]);have hs := hb1.size;exact aZB (aZK rfl _ _ _) rfl ⟨w1.heap.size + 1, rfl, by omega, ⟨Blk.new2 w1 _ _ _, OS.nil _ _ _ rfl, ⟨rfl, Nat.zero_le _⟩, fun a h => by cases h⟩, bal (bal hb1 _) _⟩
def kOf (big : Bool) : Int := if big then 1 else 2
theorem begun_any (big : Bool) (A : Option Addr) (c B n : Nat) (x : List UInt8) (w : World) (hn : bOf big = n) (hx : x.length = n) (hB : B <= w.heap.size) (hr : RS cB w B A x) :
  Calls Tryz.prog 55 #[.int .i64 (kOf big), .slice A n c] w fun e w' => ∃ g, e = .returned (.iface (startOf big x).T (.pointer (some ⟨g, 0, none⟩))) /\ w.heap.size <= g /\ (startOf big x).inn w' w.heap.size g none 0 /\ Below w.heap.size w w' := by
 subst hn
 cases big with
 | true => exact begunBig_any A c B x w hx hB hr
 | false => exact begunSmall_any A c B x w hx hB hr
theorem blockOf_any (big : Bool) (w : World) : Calls Tryz.prog 54 #[.int .i64 (kOf big)] w fun e w' => e = .returned (.int .i64 (2 * bOf big : Nat)) /\ w = w' := by
 cases big with
 | true =>
  show Calls _ _ #[.int .i64 1] w _
  go_enter Tryz.func54, Tryz.ntmps54;go_wp2_with fail;exact aZB (aZK rfl _ _ _) rfl ⟨rfl, rfl⟩
 | false =>
  show Calls _ _ #[.int .i64 2] w _
  go_enter Tryz.func54, Tryz.ntmps54;go_wp2_with fail;exact aZB (aZK rfl _ _ _) rfl ⟨rfl, rfl⟩
def nodeCells (big : Bool) (d : Nat) (Ax Ak : Option Addr) (nx nk cx ck : Nat) (last : Bool) (wr : UInt64) (e : Value) : Array Value :=
  #[.int .i64 (kOf big), .int .i64 d, .slice Ax nx cx, .slice Ak nk ck, .bool last, .int .u64 (wrd wr), e]
structure NN (w : World) (base p : Nat) (big : Bool) (d : Nat) (x key : List UInt8) (last : Bool) (wr : UInt64) (e : Eng) (Ax Ak : Option Addr) (nx nk cx ck : Nat) (g : Nat) (A : Option Addr) (c : Nat) : Prop where
  blk : Blk w p 64 (nodeCells big d Ax Ak nx nk cx ck last wr (.iface e.T (.pointer (some ⟨g, 0, none⟩))))
  lx : x.length = nx
  lk : key.length = nk
  ox : OS cB w base Ax cx x
  ok : OS cB w base Ak ck key
  eng : e.inn w base g A c
  farx : ∀ a, Ax = some a -> some a.block ≠ A.map (·.block)
  fark : ∀ a, Ak = some a -> some a.block ≠ A.map (·.block)
def startK (big : Bool) (x key : List UInt8) : Eng := if key = [] then startOf big x else (startOf big x).feed (padTo key (2 * bOf big))
theorem Eng.inn_mono {w : World} {base g c B : Nat} {e : Eng} {A : Option Addr} (h : e.inn w base g A c) (hB : B <= base) : e.inn w B g A c := by
 cases e
 ·exact ⟨E64.blk h, (E64.own h).mono hB, E64.ok h, E64.far h⟩
 ·exact ⟨E32.blk h, (E32.own h).mono hB, E32.ok h, E32.far h⟩
theorem Eng.inn_ne {w : World} {base g c p : Nat} {e : Eng} {A : Option Addr} {cs : Array Value} (h : e.inn w base g A c) (hb : Blk w p 64 cs) : p ≠ g := by
 cases e
 ·exact hb.ne_ (E64.blk h) (by decide)
 ·exact hb.ne_ (E32.blk h) (by decide)
theorem Eng.inn_set {w : World} {base g c p o : Nat} {e : Eng} {A : Option Addr} (h : e.inn w base g A c) (hp : g ≠ p) (ha : ∀ a, A = some a -> a.block ≠ p) (u : Value) : e.inn (w.setCell ⟨p, o, none⟩ u) base g A c :=
 Eng.inn_of h (Below.heap_setCell w ⟨p, o, none⟩ u g hp) (fun a h1 => Below.heap_setCell w ⟨p, o, none⟩ u a.block (ha a h1))
def begunW (w1 : World) (p n2 n3 : Nat) (v : Value) : World := ((((w1.drewN n2).setCell ⟨p, 6, none⟩ v).drewN n3).setCell ⟨p, 4, none⟩ (.bool false)).setCell ⟨p, 5, none⟩ (.int .u64 0)
theorem NN.begun {w w1 : World} {base p d nx nk cx ck g n2 n3 : Nat} {big l0 : Bool} {wr0 : UInt64} {ev : Value} {x key : List UInt8} {Ax Ak : Option Addr} {e : Eng} (hb : Blk w p 64 (nodeCells big d Ax Ak nx nk cx ck l0 wr0 ev)) (hx : x.length = nx) (hk : key.length = nk) (hox : OS cB w base Ax cx x) (hok : OS cB w base Ak ck key) (hbase : base <= w.heap.size)
  (hW : Below w.heap.size w w1) (hE : e.inn w1 w.heap.size g none 0) (hg : w.heap.size <= g) :
  NN (begunW w1 p n2 n3 (.iface e.T (.pointer (some ⟨g, 0, none⟩)))) base p big d x key false 0 e Ax Ak nx nk cx ck g none 0 /\ Grown2 w (begunW w1 p n2 n3 (.iface e.T (.pointer (some ⟨g, 0, none⟩)))) (some p) none := by
 have hlt := hb.lt;have fx := hox.ne_blk hb (by decide);have fk := hok.ne_blk hb (by decide);unfold begunW;refine ⟨⟨((((((hb.below hW hlt).drewN n2).set_ 6 _).drewN n3).set_ 4 _).set_ 5 _), hx, hk, (((((hox.below hW (aZC _)).drewN n2).setFar (p := ⟨p, 6, none⟩) fx _).drewN n3).setFar (p := ⟨p, 4, none⟩) fx _).setFar (p := ⟨p, 5, none⟩) fx _, (((((hok.below hW (aZC _)).drewN n2).setFar (p := ⟨p, 6, none⟩) fk _).drewN n3).setFar (p := ⟨p, 4, none⟩) fk _).setFar (p := ⟨p, 5, none⟩) fk _, ?_, (fun _ _ h => by cases h), (fun _ _ h => by cases h)⟩, ?_⟩
 ·have hne : g ≠ p := by omega
  exact Eng.inn_mono (Eng.inn_set (Eng.inn_set (Eng.inn_drewN (Eng.inn_set (Eng.inn_drewN hE n2) hne (fun _ h => by cases h) _) n3) hne (fun _ h => by cases h) _) hne (fun _ h => by cases h) _) hbase
 ·exact ((((((Grown2.refl w (some p) none).below hW).drewN n2).setCell rfl _).drewN n3).setCell rfl _).setCell rfl _
theorem beginNo_any (p base d : Nat) (big l0 : Bool) (wr0 : UInt64) (ev : Value) (x : List UInt8) (Ax Ak : Option Addr) (nx cx ck : Nat) (w : World) (hb : Blk w p 64 (nodeCells big d Ax Ak nx 0 cx ck l0 wr0 ev)) (hx : x.length = nx) (hnx : bOf big = nx) (hox : OS cB w base Ax cx x) (hok : OS cB w base Ak ck ([] : List UInt8)) (hbase : base <= w.heap.size) :
  Calls Tryz.prog 35 #[.pointer (some ⟨p, 0, none⟩)] w fun r w' => r = .returned (.tuple #[]) /\ ∃ g, NN w' base p big d x [] false 0 (startOf big x) Ax Ak nx 0 cx ck g none 0 /\ Grown2 w w' (some p) none /\ w.heap.size <= g := by
 have hbg := fun (W : World) (hr : RS cB W W.heap.size Ax x) => begun_any big Ax cx W.heap.size nx x W hnx hx (aZC _) hr
 have c0 : w.cell? ⟨p, 0, none⟩ = some (.int .i64 (kOf big)) := hb.cell 0;have c2 : w.cell? ⟨p, 2, none⟩ = some (.slice Ax nx cx) := hb.cell 2;have c3 : w.cell? ⟨p, 3, none⟩ = some (.slice Ak (0 : Nat) ck) := hb.cell 3;have c4 : w.cell? ⟨p, 4, none⟩ = some (.bool l0) := hb.cell 4;have c5 : w.cell? ⟨p, 5, none⟩ = some (.int .u64 (wrd wr0)) := hb.cell 5;have c6 : w.cell? ⟨p, 6, none⟩ = some ev := hb.cell 6;have hz := hb.frozen;have hlt := hb.lt;have HBG := zH hbg; have HB := zH hb; have HOX := zH hox; have HOK := zH hok; have HX := zH hx; have HNX := zH hnx; clear hbg hb hox hok hx hnx;generalize hk : kOf big = kk at *;have HK := zH hk; clear hk;generalize he : startOf big x = e0 at *;have HEE := zH he; clear he;go_enter Tryz.func35, Tryz.ntmps35;go_wp2_with fail;refine wrZ (fun _ => True) (fun _ _ h => h) (Ords.of [(0, 0), (0, 1), (0, 2), (0, 3), (1, 4), (0, 5), (0, 6), (0, 7), (1, 8), (2, 9), (0, 10), (0, 11), (2, 12)] .fin) trivial ?_
 iterate 9 ((first | refine ords_pure rfl (fun K hK => ?_) | refine ords_read rfl (fun K hK => ?_)); go_simp; refine hK _ ?_; clear hK K)
 refine ords_loud rfl (fun n1 => ?_);go_wp2_with (go_at_call 55; refine (HBG _ (HOX.drewN _).reads).mono ?_; rintro e w1 ⟨g, rfl, hg, hE, hbw1⟩; (first | refine withN hbw1 ?_ | refine withD hbw1 ?_ | refine with0 hbw1 ?_); intro hcw1 hfw1)
 try (refine ⟨trivial, ?_⟩)
 iterate 2 (refine ords_pure rfl (fun K hK => ?_); go_simp; refine hK _ ?_; clear hK K)
 refine ords_loud rfl (fun n2 => ?_);go_wp2
 first | (refine ⟨trivial, ?_⟩; refine ords_end (fun n3 => ?_)) | (refine ords_end (fun n3 => ?_)) | (rintro _ ⟨n3, rfl⟩)
 have HC := zH hcw1; have HBW := zH (undrN hbw1); have HE := zH hE; have HG := zH hg;go_wp2_with fail;go_end0;have hN := NN.begun (n2 := n2) (n3 := n3) HB HX rfl HOX HOK hbase HBW HE HG.out;exact ⟨rfl, g, hN.1, hN.2, HG.out⟩
theorem Eng.inn_row {w : World} {base g c p : Nat} {e : Eng} {A : Option Addr} {cs : Array Value} (h : e.inn w base g A c) (hb : Blk w p 64 cs) : some p ≠ A.map (·.block) := by
 cases e
 ·exact (E64.own h).ne_row hb (by decide)
 ·exact (E32.own h).ne_row hb (by decide)
theorem Eng.row_far {w : World} {base base' g c cx : Nat} {e : Eng} {A Ax : Option Addr} {x : List UInt8} (h : e.inn w base g A c) (ho : OS cB w base' Ax cx x) : ∀ a, Ax = some a -> a.block ≠ g := by
 cases e
 ·exact ho.ne_blk (E64.blk h) (by decide)
 ·exact ho.ne_blk (E32.blk h) (by decide)
theorem NN.wrote {w w' : World} {base p d nx nk cx ck g c c' : Nat} {big l : Bool} {wr : UInt64} {x key : List UInt8} {Ax Ak A A' : Option Addr} {e e' : Eng} (h : NN w base p big d x key l wr e Ax Ak nx nk cx ck g A c) (hT : e'.T = e.T) (hW : WroteE w w' base g e' A A' c') : NN w' base p big d x key l wr e' Ax Ak nx nk cx ck g A' c' := by
 have hne := Eng.inn_ne h.eng h.blk;have hrow : ∀ (B : Option Addr), (∀ a, B = some a -> some a.block ≠ A.map (·.block)) -> (∀ a, B = some a -> a.block < w.heap.size) -> ∀ a, B = some a -> some a.block ≠ A'.map (·.block) := by
  intro B h1 h2 a ha;rcases hW.row with e1 | e1
  ·rw [e1]; exact h1 a ha
  ·intro e2
   cases hA : A' with
   | none => rw [hA] at e2; cases e2
   | some a' =>
    rw [hA] at e2;simp only [Option.map_some, Option.some.injEq] at e2;have := e1 a' hA; have := h2 a ha; omega
 refine ⟨?_, h.lx, h.lk, h.ox.keep2 hW.gr (fun a ha => ⟨fun e => Eng.row_far h.eng h.ox a ha (aZF e), h.farx a ha⟩), h.ok.keep2 hW.gr (fun a ha => ⟨fun e => Eng.row_far h.eng h.ok a ha (aZF e), h.fark a ha⟩), hW.st, hrow Ax h.farx (fun a ha => (h.ox.block_lt a ha).2), hrow Ak h.fark (fun a ha => (h.ok.block_lt a ha).2)⟩;rw [hT];exact h.blk.keep2 hW.gr (fun e => hne (aZF e)) (Eng.inn_row h.eng h.blk)
theorem NN.below {w w' : World} {base p d nx nk cx ck g c : Nat} {big l : Bool} {wr : UInt64} {x key : List UInt8} {Ax Ak A : Option Addr} {e : Eng} (h : NN w base p big d x key l wr e Ax Ak nx nk cx ck g A c) (hb : Below w.heap.size w w') : NN w' base p big d x key l wr e Ax Ak nx nk cx ck g A c :=
 ⟨h.blk.below hb h.blk.lt, h.lx, h.lk, h.ox.below hb (aZC _), h.ok.below hb (aZC _), Eng.inn_below h.eng hb, h.farx, h.fark⟩
theorem NN.drewN {w : World} {base p d nx nk cx ck g c : Nat} {big l : Bool} {wr : UInt64} {x key : List UInt8} {Ax Ak A : Option Addr} {e : Eng} (h : NN w base p big d x key l wr e Ax Ak nx nk cx ck g A c) (n : Nat) : NN (w.drewN n) base p big d x key l wr e Ax Ak nx nk cx ck g A c :=
 ⟨h.blk.drewN n, h.lx, h.lk, h.ox.drewN n, h.ok.drewN n, Eng.inn_drewN h.eng n, h.farx, h.fark⟩
theorem beginKeyF_any (p base d : Nat) (big l0 : Bool) (wr0 : UInt64) (ev : Value) (x key : List UInt8) (Ax Ak : Option Addr) (nx nk cx ck : Nat) (w : World) (hb : Blk w p 64 (nodeCells big d Ax Ak nx nk cx ck l0 wr0 ev)) (hx : x.length = nx) (hnx : bOf big = nx) (hk : key.length = nk) (hk0 : 0 < nk) (hkm : nk <= 2 * bOf big) (hox : OS cB w base Ax cx x) (hok : OS cB w base Ak ck key) (hbase : base <= w.heap.size) :
  Calls Tryz.prog 35 #[.pointer (some ⟨p, 0, none⟩)] w fun r w' => r = .returned (.tuple #[]) /\ ∃ g A c, NN w' base p big d x key false 0 ((startOf big x).feed (padTo key (2 * bOf big))) Ax Ak nx nk cx ck g A c /\ Grown2 w w' (some p) none /\ w.heap.size <= g /\ ∀ a, A = some a -> w.heap.size <= a.block := by
 have hbg := fun (W : World) (hr : RS cB W W.heap.size Ax x) => begun_any big Ax cx W.heap.size nx x W hnx hx (aZC _) hr
 have hbo := fun (W : World) => blockOf_any big W
 have hbm : 2 * bOf big <= 128 := by cases big <;> decide
 have hpd := fun (W : World) (hr : RS cB W W.heap.size Ak key) => padded_any Ak ck (2 * bOf big) nk key W hk hkm (by omega) hr
 have hpl := padTo_len key (2 * bOf big) (by omega);have c0 : w.cell? ⟨p, 0, none⟩ = some (.int .i64 (kOf big)) := hb.cell 0;have c2 : w.cell? ⟨p, 2, none⟩ = some (.slice Ax nx cx) := hb.cell 2;have c3 : w.cell? ⟨p, 3, none⟩ = some (.slice Ak nk ck) := hb.cell 3;have c4 : w.cell? ⟨p, 4, none⟩ = some (.bool l0) := hb.cell 4;have c5 : w.cell? ⟨p, 5, none⟩ = some (.int .u64 (wrd wr0)) := hb.cell 5;have c6 : w.cell? ⟨p, 6, none⟩ = some ev := hb.cell 6;have hz := hb.frozen;have hlt := hb.lt;generalize padTo key (2 * bOf big) = pk at *;generalize 2 * bOf big = m at *;have HBG := zH hbg; have HB := zH hb; have HOX := zH hox; have HOK := zH hok; have HX := zH hx; have HNX := zH hnx; have HKL := zH hk; have HBO := zH hbo; have HPD := zH hpd; have HPL := zH hpl; clear hbg hb hox hok hx hnx hk hbo hpd hpl;generalize hk : kOf big = kk at *;have HK := zH hk; clear hk;generalize startOf big x = e0 at *;have hmW : ∀ (g k : Nat) (w : World), 0 < k -> Sem.run Tryz.prog (method k e0.T (.pointer (some ⟨g, 0, none⟩)) "quern/node.write") w = .ok (e0.fw, .pointer (some ⟨g, 0, none⟩)) w := fun g k w hk => e0.run_write g k hk w
 have heL : ∀ args w, (callFunc e0.fw args).run Tryz.prog w = .ok (.enter e0.fw args) w := fun args w => e0.enters_w args w
 have hew := fun (g base : Nat) (A5 : Option Addr) (c5 : Nat) (W : World) => eng_write e0 g base none 0 A5 m c5 pk W
 have hT := e0.feed_T pk;have HEW := zH hew; have HT := zH hT; clear hew hT;have hnd : decide ((0 : Int) < nk) = true := by simp; omega
 have hT4 : ∃ T4, T4 = e0.T := ⟨_, rfl⟩;go_enter Tryz.func35, Tryz.ntmps35;go_wp2_with fail;refine wrZ (fun _ => True) (fun _ _ h => h) (Ords.of [(0, 0), (0, 1), (0, 2), (0, 3), (1, 4), (0, 5), (0, 6), (0, 7), (1, 8), (2, 9), (0, 10), (0, 11), (2, 12)] .fin) trivial ?_
 iterate 9 ((first | refine ords_pure rfl (fun K hK => ?_) | refine ords_read rfl (fun K hK => ?_)); go_simp; refine hK _ ?_; clear hK K)
 refine ords_loud rfl (fun n1 => ?_);go_wp2_with (go_at_call 55; refine (HBG _ (HOX.drewN _).reads).mono ?_; rintro e w1 ⟨g, rfl, hg, hE, hbw1⟩; (first | refine withN hbw1 ?_ | refine withD hbw1 ?_ | refine with0 hbw1 ?_); intro hcw1 hfw1)
 try (refine ⟨trivial, ?_⟩)
 iterate 2 (refine ords_pure rfl (fun K hK => ?_); go_simp; refine hK _ ?_; clear hK K)
 refine ords_loud rfl (fun n2 => ?_);go_wp2
 first | (refine ⟨trivial, ?_⟩; refine ords_end (fun n3 => ?_)) | (refine ords_end (fun n3 => ?_)) | (rintro _ ⟨n3, rfl⟩)
 have HC := zH hcw1; have HBW := zH (undrN hbw1); have HE := zH hE; have HG := zH hg;go_upto_if 25 with fail
 have hN := NN.begun (n2 := n2) (n3 := n3) HB HX HKL HOX HOK hbase HBW HE HG.out;unfold begunW at hN;generalize (((((w1.drewN n2).setCell { block := p, off := 6 } (Value.iface e0.T (Value.pointer (some { block := g, off := 0 })))).drewN n3).setCell { block := p, off := 4 } (Value.bool false)).setCell { block := p, off := 5 } (Value.int IntKind.u64 0)) = W3 at *;have d0 : W3.cell? ⟨p, 0, none⟩ = some (.int .i64 kk) := (hN.1.blk.cell 0).trans (by rw [<- HK.out]; rfl);have d3 : W3.cell? ⟨p, 3, none⟩ = some (.slice Ak nk ck) := hN.1.blk.cell 3;have d6 : W3.cell? ⟨p, 6, none⟩ = some (.iface e0.T (.pointer (some ⟨g, 0, none⟩))) := hN.1.blk.cell 6;have hl3 := hN.1.blk.lt;have HN := zH hN; clear hN hcw1 hfw1 c0 c2 c3 c4 c5 c6 hz hlt hbw1 hE hg;go_wp2_with fail;refine wrZ (fun W' => W'.cell? ⟨p, 6, none⟩ = some (.iface e0.T (.pointer (some ⟨g, 0, none⟩))) /\ W'.cell? ⟨p, 3, none⟩ = some (.slice Ak nk ck) /\ W'.cell? ⟨p, 0, none⟩ = some (.int .i64 kk)) (fun _ _ h => h) (Ords.of [(0, 0), (0, 1), (0, 2), (0, 3), (0, 4), (0, 5), (0, 6), (0, 7), (0, 8), (0, 9), (0, 10), (0, 11), (0, 14), (0, 15), (2, 12), (2, 13), (2, 16)] .fin) ⟨d6, d3, d0⟩ ?_
 iterate 3 (refine ords_pure rfl (fun K hK => ?_); go_simp; refine hK _ ?_; clear hK K; refine ords_pure rfl (fun K hK => ?_); go_simp; refine hK _ ?_; clear hK K; refine ords_pure rfl (fun K hK => ?_); go_simp; refine hK _ ?_; clear hK K; refine ords_heldK rfl (fun K K2 hK hK2 => ?_); go_simp; refine ⟨hK2 _ (fun w9 hS => ?_), hK _ ?_⟩; (clear hK hK2 K K2; obtain ⟨s6, s3, s0⟩ := hS; go_simp); (clear hK hK2 K K2))
 iterate 2 (refine ords_pure rfl (fun K hK => ?_); go_simp; refine hK _ ?_; clear hK K)
 refine ords_loud rfl (fun n1 => ?_);go_wp2_with (go_at_call 54; refine (HBO _).mono ?_; rintro e w4 ⟨rfl, rfl⟩); refine ⟨⟨d6, d3, d0⟩, ?_⟩;refine ords_loud rfl (fun n2 => ?_);go_wp2_with (go_at_call 56; refine (HPD _ (HN.out.1.drewN _).ok.reads).mono ?_; rintro e w5 ⟨A5, c5, rfl, ho5, hb5⟩); have hb5' := undrN hb5; refine ⟨⟨(hb5'.cell hl3).trans d6, (hb5'.cell hl3).trans d3, (hb5'.cell hl3).trans d0⟩, ?_⟩;refine ords_loud rfl (fun n3 => ?_);have hgW := Eng.inn_lt HN.out.1.eng; have hEW := Eng.inn_drewN (Eng.inn_below HN.out.1.eng hb5') n3; have hO5 := zH ho5; have hB5 := zH hb5'; have hEWH := zH hEW; have hne := Eng.inn_ne HN.out.1.eng HN.out.1.blk; clear ho5 hb5 hb5' hEW; go_step; (refine (HEW.out g base A5 c5 _ hEWH.out (by have h1 := HN.out.2.size; have h2 := hB5.size; show base <= w5.heap.size; omega) HPL.out (by have h1 := hO5.len_le.1; rw [HPL.out] at h1; exact h1) (by have h1 := hO5.len_le.2; unfold maxLen at h1; omega) (hO5.drewN n3).reads (fun a ha => ⟨(by have h1 := (hO5.block_lt a ha).1; intro h2; have h3 := aZF h2; have h4 : W3.heap.size <= a.block := h1; omega), (fun h2 => by cases h2)⟩)).mono ?_; rintro e w6 ⟨rfl, A6, c6, hW6⟩); go_wp2_with fail; have hpp : ∀ o, w6.cell? ⟨p, o, none⟩ = W3.cell? ⟨p, o, none⟩ := fun o => World.cell?_of_block ((hW6.gr.block p (by have h2 := hB5.size; show p < w5.heap.size; omega) (fun h => hne (aZF h)) (fun h => by cases h)).trans (hB5.block p hl3)); have HW6 := zH hW6; clear hW6; refine ⟨⟨(hpp 6).trans d6, (hpp 3).trans d3, (hpp 0).trans d0⟩, ?_⟩; clear hpp
 refine ords_end (fun n4 => ?_);go_end0;exact ⟨rfl, g, A6, c6, (((HN.out.1.below hB5.out).drewN n3).wrote HT.out HW6.out).drewN n4, (((HN.out.2.below hB5.out).drewN n3).trans HW6.gr (.inr (.inr fun k hk => by have h1 := aZF hk; have h2 : w.heap.size <= g := HG.out; omega)) (.inr (.inl rfl))).drewN n4, HG.out, fun a ha => by
  rcases HW6.row with h | h
  ·rw [ha] at h; cases h
  ·exact aZL (aZL HN.out.2.size hB5.size) (h a ha)⟩
theorem beginKey_any (p base d : Nat) (big l0 : Bool) (wr0 : UInt64) (ev : Value) (x key : List UInt8) (Ax Ak : Option Addr) (nx nk cx ck : Nat) (w : World) (hb : Blk w p 64 (nodeCells big d Ax Ak nx nk cx ck l0 wr0 ev)) (hx : x.length = nx) (hnx : bOf big = nx) (hk : key.length = nk) (hk0 : 0 < nk) (hkm : nk <= 2 * bOf big) (hox : OS cB w base Ax cx x) (hok : OS cB w base Ak ck key) (hbase : base <= w.heap.size) :
  Calls Tryz.prog 35 #[.pointer (some ⟨p, 0, none⟩)] w fun r w' => r = .returned (.tuple #[]) /\ ∃ g A c, NN w' base p big d x key false 0 ((startOf big x).feed (padTo key (2 * bOf big))) Ax Ak nx nk cx ck g A c /\ Grown2 w w' (some p) none /\ w.heap.size <= g :=
 (beginKeyF_any p base d big l0 wr0 ev x key Ax Ak nx nk cx ck w hb hx hnx hk hk0 hkm hox hok hbase).mono (fun _ _ ⟨h1, g, A, c, h2, h3, h4, _⟩ => ⟨h1, g, A, c, h2, h3, h4⟩)
theorem beginF_any (p base d : Nat) (big l0 : Bool) (wr0 : UInt64) (ev : Value) (x key : List UInt8) (Ax Ak : Option Addr) (nx nk cx ck : Nat) (w : World) (hb : Blk w p 64 (nodeCells big d Ax Ak nx nk cx ck l0 wr0 ev)) (hx : x.length = nx) (hnx : bOf big = nx) (hk : key.length = nk) (hkm : nk <= 2 * bOf big) (hox : OS cB w base Ax cx x) (hok : OS cB w base Ak ck key) (hbase : base <= w.heap.size) :
  Calls Tryz.prog 35 #[.pointer (some ⟨p, 0, none⟩)] w fun r w' => r = .returned (.tuple #[]) /\ ∃ g A c, NN w' base p big d x key false 0 (startK big x key) Ax Ak nx nk cx ck g A c /\ Grown2 w w' (some p) none /\ w.heap.size <= g /\ ∀ a, A = some a -> w.heap.size <= a.block := by
 unfold startK
 by_cases h0 : key = []
 ·subst h0
  obtain rfl : nk = 0 := hk.symm;rw [if_pos rfl];exact (beginNo_any p base d big l0 wr0 ev x Ax Ak nx cx ck w hb hx hnx hox hok hbase).mono (fun r w' ⟨h1, g, h2, h3, h4⟩ => ⟨h1, g, none, 0, h2, h3, h4, fun a ha => by cases ha⟩)
 ·rw [if_neg h0]
  have : 0 < nk := by rw [<- hk]; exact List.length_pos_iff.2 h0
  exact beginKeyF_any p base d big l0 wr0 ev x key Ax Ak nx nk cx ck w hb hx hnx hk this hkm hox hok hbase
theorem begin_any (p base d : Nat) (big l0 : Bool) (wr0 : UInt64) (ev : Value) (x key : List UInt8) (Ax Ak : Option Addr) (nx nk cx ck : Nat) (w : World) (hb : Blk w p 64 (nodeCells big d Ax Ak nx nk cx ck l0 wr0 ev)) (hx : x.length = nx) (hnx : bOf big = nx) (hk : key.length = nk) (hkm : nk <= 2 * bOf big) (hox : OS cB w base Ax cx x) (hok : OS cB w base Ak ck key) (hbase : base <= w.heap.size) :
  Calls Tryz.prog 35 #[.pointer (some ⟨p, 0, none⟩)] w fun r w' => r = .returned (.tuple #[]) /\ ∃ g A c, NN w' base p big d x key false 0 (startK big x key) Ax Ak nx nk cx ck g A c /\ Grown2 w w' (some p) none /\ w.heap.size <= g := by
 unfold startK
 by_cases h0 : key = []
 ·subst h0
  obtain rfl : nk = 0 := hk.symm;rw [if_pos rfl];exact (beginNo_any p base d big l0 wr0 ev x Ax Ak nx cx ck w hb hx hnx hox hok hbase).mono (fun r w' ⟨h1, g, h2, h3, h4⟩ => ⟨h1, g, none, 0, h2, h3, h4⟩)
 ·rw [if_neg h0]
  have : 0 < nk := by rw [<- hk]; exact List.length_pos_iff.2 h0
  exact beginKey_any p base d big l0 wr0 ev x key Ax Ak nx nk cx ck w hb hx hnx hk this hkm hox hok hbase
theorem made_any (d : Nat) (big : Bool) (x key : List UInt8) (Ax Ak : Option Addr) (nx nk cx ck : Nat) (w : World) (hx : x.length = nx) (hnx : bOf big = nx) (hk : key.length = nk) (hkm : nk <= 2 * bOf big) (hrx : RS cB w w.heap.size Ax x) (hrk : RS cB w w.heap.size Ak key) :
  Calls Tryz.prog 30 #[.int .i64 (kOf big), .slice Ax nx cx, .int .i64 d, .slice Ak nk ck] w fun r w' => ∃ p g A c Ax' Ak' cx' ck', r = .returned (.pointer (some ⟨p, 0, none⟩)) /\ NN w' w.heap.size p big d x key false 0 (startK big x key) Ax' Ak' nx nk cx' ck' g A c /\ Below w.heap.size w w' /\ w.heap.size <= p /\ w.heap.size <= g := by
 have HX := zH hx; have HNX := zH hnx; have HKL := zH hk; have HRX := zH hrx; have HRK := zH hrk;have hb2 : bOf big <= 64 := by cases big <;> decide
 have hnx2 : nx <= 64 := by omega
 have hnk2 : nk <= 128 := by omega
 clear hx hnx hk hrx hrk;have hO := OS.nil w w.heap.size 0 rfl (cd := cB);have HO := zH hO; clear hO;go_enter Tryz.func30, Tryz.ntmps30;go_wp2_with (first
  | (at_builtin; refine wpList_appB _ rfl (.const (.slice none 0 0)) (.tmp 12) rfl HO.out rfl rfl HRX.out rfl HX.out (by omega) (aZC _) ?_; intro A1 c1 w1 ho1 hg1 hA1; rw [List.nil_append] at ho1; rw [Nat.zero_add]; have HO1 := zH ho1; have HG1 := zH hg1; have HP := zH (OS.nil w1 w.heap.size 0 rfl (cd := cB)); clear ho1 hg1 hA1)
  | (at_builtin; refine wpList_appB _ rfl (.const (.slice none 0 0)) (.tmp 14) rfl HP.out rfl rfl (HRK.grown HG1.out (aZC _) (fun _ h => by cases h)) rfl HKL.out (by omega) HG1.size ?_; intro A2 c2 w2 ho2 hg2 hA2; rw [List.nil_append] at ho2; rw [Nat.zero_add]; have HO2 := zH ho2; have HG2 := zH hg2; clear ho2 hg2 hA2)
  | fail)
 have hW2 : Below w.heap.size w w2 := bcall ((b0 w).grown HG1 (aZC _) (fun _ h => by cases h)) ((b0 w1).grown HG2 (aZC _) (fun _ h => by cases h));have HW2 := zH hW2; clear hW2;refine (begin_any w2.heap.size w.heap.size d big false 0 .nilIface x key A1 A2 nx nk c1 c2 _ (Blk.new w2 _ _) HX.out HNX.out HKL.out hkm ((HO1.kept HG2.out (fun _ _ h => by cases h)).alloc _) (HO2.alloc _) (by have := HW2.size; simp; omega)).mono ?_;rintro r w3 ⟨rfl, g, A, c, hN, hG, hlg⟩;have HN := zH hN; have HG := zH hG; have HLG := zH hlg; clear hN hG hlg;go_wp2_with fail;exact aZB (aZK rfl _ _ _) rfl ⟨w2.heap.size, g, A, c, A1, A2, c1, c2, rfl, HN.out, (bal HW2.out _).trans (HG.toBelow (B := w.heap.size) (by have := HW2.size; simp; omega) (fun k h => by have h1 := aZF h; have := HW2.size; omega) (fun _ h => by cases h)), HW2.size, (by have h1 := HW2.size; have h2 := HLG.out; simp at h2; omega)⟩
structure But (F : List Nat) (w w' : World) : Prop where
  os : w'.os = w.os
  tape : w'.tape = w.tape
  output : w'.output = w.output
  size : w.heap.size <= w'.heap.size
  block : ∀ k, k < w.heap.size -> k ∉ F -> w'.heap[k]? = w.heap[k]?
section
variable {F G : List Nat} {w w1 w2 w' : World}
theorem But.refl (F : List Nat) (w : World) : But F w w := ⟨rfl, rfl, rfl, aZC _, fun _ _ _ => rfl⟩
theorem But.of (h : Below w.heap.size w w') (F : List Nat) : But F w w' := ⟨h.os, h.tape, h.output, h.size, fun k hk _ => h.block k hk⟩
theorem But.trans (h : But F w w1) (h2 : But G w1 w2) (hG : ∀ k, k ∈ G -> k ∈ F \/ w.heap.size <= k) : But F w w2 :=
 ⟨h2.os.trans h.os, h2.tape.trans h.tape, h2.output.trans h.output, aZL h.size h2.size, fun k hk hn => (h2.block k (Nat.lt_of_lt_of_le hk h.size) (fun e => by
  rcases hG k e with h3 | h3
  ·exact hn h3
  ·omega)).trans (h.block k hk hn)⟩
theorem But.below (h : But F w w1) (h2 : Below w1.heap.size w1 w2) : But F w w2 := h.trans (But.of h2 []) (fun _ h => by cases h)
theorem But.toBelow (h : But F w w') {B : Nat} (hB : B <= w.heap.size) (hF : ∀ k, k ∈ F -> B <= k) : Below B w w' :=
 ⟨h.os, h.tape, h.output, h.size, fun k hk => h.block k (by omega) (fun e => by have := hF k e; omega)⟩
theorem But.drewN (h : But F w w1) (n : Nat) : But F w (w1.drewN n) := ⟨h.os, h.tape, h.output, h.size, h.block⟩
theorem But.setCell (h : But F w w1) {p : Addr} (hp : p.block ∈ F \/ w.heap.size <= p.block) (u : Value) : But F w (w1.setCell p u) :=
 h.trans (G := [p.block]) ⟨rfl, rfl, rfl, by simp [World.setCell], fun k _ hk => Below.heap_setCell w1 p u k (fun e => hk (by simp [e]))⟩ (fun k hk => by simp at hk; subst hk; exact hp)
theorem But.alloc (h : But F w w1) (o : Obj) : But F w (w1.alloc o) := h.below (bal (b0 w1) o)
theorem But.grown2 {R S : Option Nat} (h : Grown2 w w' R S) (hR : ∀ k, R = some k -> k ∈ F) (hS : ∀ k, S = some k -> k ∈ F) : But F w w' :=
 ⟨h.os, h.tape, h.output, h.size, fun k hk hn => h.block k hk (fun e => hn (hR k e.symm)) (fun e => hn (hS k e.symm))⟩
theorem But.grown {R : Option Nat} (h : w.grownBy w' R) (hR : ∀ k, R = some k -> k ∈ F \/ w.heap.size <= k) : But F w w' :=
 ⟨h.os, h.tape, h.output, h.size, fun k hk hn => h.block k hk (fun e => by
  rcases hR k e.symm with h3 | h3
  ·exact hn h3
  ·omega)⟩
theorem RS.but {α : Type} {cd : Cod α} {B : Nat} {A : Option Addr} {l : List α} (h : RS cd w B A l) (hB : B <= w.heap.size) (hg : But F w w') (hA : ∀ a, A = some a -> a.block ∉ F) : RS cd w' B A l := by
 refine ⟨h.1, fun hn => ?_⟩;obtain ⟨ad, e, hb, hc⟩ := h.2 hn;refine ⟨ad, e, hb, fun j u hu => ?_⟩;have hbl : (ad.add j).block = ad.block := block_of_add ad j;rw [<- hc j u hu];exact World.cell?_of_block (by rw [hbl]; exact hg.block ad.block (by omega) (hA ad e))
theorem OS.but {α : Type} {cd : Cod α} {base c : Nat} {A : Option Addr} {l : List α} (h : OS cd w base A c l) (hg : But F w w') (hA : ∀ a, A = some a -> a.block ∉ F) : OS cd w' base A c l :=
 h.of_block fun a ha => hg.block a.block (h.block_lt a ha).2 (hA a ha)
theorem Blk.but {g : Nat} {t : TypeId} {cs : Array Value} (h : Blk w g t cs) (hg : But F w w') (h1 : g ∉ F) : Blk w' g t cs := (hg.block g h.lt h1).trans h
end
def obl (A : Option Addr) : List Nat := (A.map (·.block)).toList
theorem mem_obl {A : Option Addr} {k : Nat} : k ∈ obl A ↔ ∃ a, A = some a /\ a.block = k := by
 cases A <;> simp [obl, eq_comm]
def foot (p g : Nat) (Ax Ak A : Option Addr) : List Nat := p :: g :: (obl Ax ++ (obl Ak ++ obl A))
theorem mem_foot {p g k : Nat} {Ax Ak A : Option Addr} : k ∈ foot p g Ax Ak A ↔ k = p \/ k = g \/ (∃ a, Ax = some a /\ a.block = k) \/ (∃ a, Ak = some a /\ a.block = k) \/ (∃ a, A = some a /\ a.block = k) := by
 simp only [foot, List.mem_cons, List.mem_append, mem_obl]
def Nd (w : World) (p : Nat) (big : Bool) (d : Nat) (x key : List UInt8) (last : Bool) (wr : UInt64) (e : Eng) (F : List Nat) : Prop :=
  ∃ (Ax Ak : Option Addr) (nx nk cx ck g : Nat) (A : Option Addr) (c : Nat), NN w 0 p big d x key last wr e Ax Ak nx nk cx ck g A c /\ F = foot p g Ax Ak A
section
variable {w w' : World} {p d : Nat} {big last : Bool} {x key : List UInt8} {wr : UInt64} {e : Eng} {F G : List Nat}
theorem NN.mono {base B nx nk cx ck g c : Nat} {Ax Ak A : Option Addr} (h : NN w base p big d x key last wr e Ax Ak nx nk cx ck g A c) (hB : B <= base) : NN w B p big d x key last wr e Ax Ak nx nk cx ck g A c :=
 ⟨h.blk, h.lx, h.lk, h.ox.mono hB, h.ok.mono hB, Eng.inn_mono h.eng hB, h.farx, h.fark⟩
theorem NN.nd {base nx nk cx ck g c : Nat} {Ax Ak A : Option Addr} (h : NN w base p big d x key last wr e Ax Ak nx nk cx ck g A c) : Nd w p big d x key last wr e (foot p g Ax Ak A) :=
 ⟨Ax, Ak, nx, nk, cx, ck, g, A, c, h.mono (Nat.zero_le _), rfl⟩
theorem NN.low {base nx nk cx ck g c : Nat} {Ax Ak A : Option Addr} (h : NN w base p big d x key last wr e Ax Ak nx nk cx ck g A c) (hp : base <= p) (hg : base <= g) : ∀ k, k ∈ foot p g Ax Ak A -> base <= k := by
 intro k hk;rcases mem_foot.1 hk with rfl | rfl | ⟨a, h1, rfl⟩ | ⟨a, h1, rfl⟩ | ⟨a, h1, rfl⟩
 ·exact hp
 ·exact hg
 ·exact (h.ox.block_lt a h1).1
 ·exact (h.ok.block_lt a h1).1
 ·exact (Eng.inn_far h.eng a h1).2.1
theorem NN.high {base nx nk cx ck g c : Nat} {Ax Ak A : Option Addr} (h : NN w base p big d x key last wr e Ax Ak nx nk cx ck g A c) : ∀ k, k ∈ foot p g Ax Ak A -> k < w.heap.size := by
 intro k hk;rcases mem_foot.1 hk with rfl | rfl | ⟨a, h1, rfl⟩ | ⟨a, h1, rfl⟩ | ⟨a, h1, rfl⟩
 ·exact h.blk.lt
 ·exact Eng.inn_lt h.eng
 ·exact (h.ox.block_lt a h1).2
 ·exact (h.ok.block_lt a h1).2
 ·exact (Eng.inn_far h.eng a h1).2.2
theorem NN.of_ {base nx nk cx ck g c : Nat} {Ax Ak A : Option Addr} (h : NN w base p big d x key last wr e Ax Ak nx nk cx ck g A c) (hk : ∀ k, k ∈ foot p g Ax Ak A -> w'.heap[k]? = w.heap[k]?) : NN w' base p big d x key last wr e Ax Ak nx nk cx ck g A c :=
 ⟨(hk p (mem_foot.2 (.inl rfl))).trans h.blk, h.lx, h.lk, h.ox.of_block (fun a ha => hk _ (mem_foot.2 (.inr (.inr (.inl ⟨a, ha, rfl⟩))))), h.ok.of_block (fun a ha => hk _ (mem_foot.2 (.inr (.inr (.inr (.inl ⟨a, ha, rfl⟩)))))),
  Eng.inn_of h.eng (hk g (mem_foot.2 (.inr (.inl rfl)))) (fun a ha => hk _ (mem_foot.2 (.inr (.inr (.inr (.inr ⟨a, ha, rfl⟩)))))), h.farx, h.fark⟩
theorem Nd.lt (h : Nd w p big d x key last wr e F) : ∀ k, k ∈ F -> k < w.heap.size := by
 obtain ⟨Ax, Ak, nx, nk, cx, ck, g, A, c, hN, rfl⟩ := h;exact hN.high
theorem Nd.of_ (h : Nd w p big d x key last wr e F) (hk : ∀ k, k ∈ F -> w'.heap[k]? = w.heap[k]?) : Nd w' p big d x key last wr e F := by
 obtain ⟨Ax, Ak, nx, nk, cx, ck, g, A, c, hN, rfl⟩ := h;exact ⟨Ax, Ak, nx, nk, cx, ck, g, A, c, hN.of_ hk, rfl⟩
theorem Nd.below (h : Nd w p big d x key last wr e F) (hb : Below w.heap.size w w') : Nd w' p big d x key last wr e F := h.of_ fun k hk => hb.block k (h.lt k hk)
theorem NN.put4 {base nx nk cx ck g c : Nat} {Ax Ak A : Option Addr} (h : NN w base p big d x key last wr e Ax Ak nx nk cx ck g A c) (l : Bool) : NN (w.setCell ⟨p, 4, none⟩ (.bool l)) base p big d x key l wr e Ax Ak nx nk cx ck g A c := by
 have hne := Eng.inn_ne h.eng h.blk;exact ⟨h.blk.set_ 4 _, h.lx, h.lk, h.ox.setFar (p := ⟨p, 4, none⟩) (h.ox.ne_blk h.blk (by decide)) _, h.ok.setFar (p := ⟨p, 4, none⟩) (h.ok.ne_blk h.blk (by decide)) _,
  Eng.inn_set h.eng (fun e => hne e.symm) (fun a ha e => Eng.inn_row h.eng h.blk (by rw [ha, <- e]; rfl)) _, h.farx, h.fark⟩
theorem NN.put5 {base nx nk cx ck g c : Nat} {Ax Ak A : Option Addr} (h : NN w base p big d x key last wr e Ax Ak nx nk cx ck g A c) (v : UInt64) : NN (w.setCell ⟨p, 5, none⟩ (.int .u64 (wrd v))) base p big d x key last v e Ax Ak nx nk cx ck g A c := by
 have hne := Eng.inn_ne h.eng h.blk;exact ⟨h.blk.set_ 5 _, h.lx, h.lk, h.ox.setFar (p := ⟨p, 5, none⟩) (h.ox.ne_blk h.blk (by decide)) _, h.ok.setFar (p := ⟨p, 5, none⟩) (h.ok.ne_blk h.blk (by decide)) _,
  Eng.inn_set h.eng (fun e => hne e.symm) (fun a ha e => Eng.inn_row h.eng h.blk (by rw [ha, <- e]; rfl)) _, h.farx, h.fark⟩
theorem wrd_addN (x : UInt64) (n : Nat) : IntKind.u64.wrap (wrd x + (n : Int)) = wrd (x + UInt64.ofNat n) := by
 rw [wrap_u64];unfold wrd;rw [UInt64.toNat_add, UInt64.toNat_ofNat'];omega
end
theorem noneSame_any (p : Nat) (T : TypeId) (v : Value) (cs : Array Value) (w : World) (hb : Blk w p 64 cs) (h6 : cs[6]? = some (.iface T v)) :
  Calls Tryz.prog 27 #[.pointer (some ⟨p, 0, none⟩)] w fun r w' => r = .returned (.bool false) /\ w = w' := by
 have c6 : w.cell? ⟨p, 6, none⟩ = some (.iface T v) := (hb.cell 6).trans h6;have HB := zH hb; clear hb h6;go_enter Tryz.func27, Tryz.ntmps27;go_wp2_with fail;exact aZB (aZK rfl _ _ _) rfl ⟨rfl, rfl⟩
theorem writeN_any (p d : Nat) (big last : Bool) (x key : List UInt8) (wr : UInt64) (e : Eng) (F : List Nat) (Ab : Option Addr) (nb cb : Nat) (L : List UInt8) (w : World) (hN : Nd w p big d x key last wr e F) (hL : L.length = nb) (hnb : nb <= cb) (hcb : cb <= 9223372036854775807) (hr : RS cB w w.heap.size Ab L) (hfar : L ≠ [] -> ∀ a, Ab = some a -> a.block ∉ F) :
  Calls Tryz.prog 12 #[.pointer (some ⟨p, 0, none⟩), .slice Ab nb cb] w fun r w' => r = .returned (.int .i64 0) /\ ∃ F', Nd w' p big d x key last (wr + UInt64.ofNat nb) (e.feed L) F' /\ (∀ k, k ∈ F' -> k ∈ F \/ w.heap.size <= k) /\ But F w w' := by
 obtain ⟨Ax, Ak, nx, nk, cx, ck, g, A, c, hNN, rfl⟩ := hN;have hb := hNN.blk;have hno := fun (T : TypeId) (v : Value) h6 => noneSame_any p T v _ w hb h6
 have hno2 := hno e.T (.pointer (some ⟨g, 0, none⟩)) rfl;have c5 : w.cell? ⟨p, 5, none⟩ = some (.int .u64 (wrd wr)) := hb.cell 5;have c6 : w.cell? ⟨p, 6, none⟩ = some (.iface e.T (.pointer (some ⟨g, 0, none⟩))) := hb.cell 6;have hf := hb.frozen;have hlt := hb.lt;have hmW : ∀ (g k : Nat) (w : World), 0 < k -> Sem.run Tryz.prog (method k e.T (.pointer (some ⟨g, 0, none⟩)) "quern/node.write") w = .ok (e.fw, .pointer (some ⟨g, 0, none⟩)) w := fun g k w hk => e.run_write g k hk w
 have heL : ∀ args w, (callFunc e.fw args).run Tryz.prog w = .ok (.enter e.fw args) w := fun args w => e.enters_w args w
 have hew := eng_write0 e g 0 A c Ab nb cb L w hNN.eng (Nat.zero_le _) hL hnb hcb hr (fun h0 a ha => ⟨(by intro h; injection h with h; exact hfar h0 a ha (mem_foot.2 (.inr (.inl h)))), (by intro h; cases hA : A with | none => rw [hA] at h; cases h | some a' => rw [hA] at h; injection h with h; exact hfar h0 a ha (mem_foot.2 (.inr (.inr (.inr (.inr ⟨a', hA, h.symm⟩))))))⟩);have hT := e.feed_T L;have hwn : IntKind.u64.wrap (nb : Int) = nb := by rw [wrap_u64]; omega
 have hadd := wrd_addN wr nb;have hnb2 : nb <= 9223372036854775807 := by omega
 have HN := zH hNN; have HNO := zH hno2; have HEW := zH hew; have HT := zH hT; clear hNN hb hno hno2 hew hT hL hr hfar;generalize wr + UInt64.ofNat nb = wr2 at *;generalize he2 : e.feed L = e2 at *;clear he2;go_enter Tryz.func12, Tryz.ntmps12;go_wp2_with (go_at_call 27; refine HNO.mono ?_; rintro e0 w0 ⟨rfl, rfl⟩)
 (refine HEW.mono ?_; rintro e1 w1 ⟨rfl, A1, c1, hW⟩)
 have hN1 := HN.wrote HT hW;have hB1 : But (foot p g Ax Ak A) w w1 := But.grown2 hW.gr (fun k hk => by injection hk with hk; exact mem_foot.2 (.inr (.inl hk.symm))) (fun k hk => by
  cases hA : A with
  | none => rw [hA] at hk; cases hk
  | some a => rw [hA] at hk; injection hk with hk; exact mem_foot.2 (.inr (.inr (.inr (.inr ⟨a, rfl, hk⟩)))))
 have hrow := hW.row;have HN1 := zH hN1; have HB1 := zH hB1; have HR := zH hrow; clear hN1 hB1 hrow hW;have d5 : w1.cell? ⟨p, 5, none⟩ = some (.int .u64 (wrd wr)) := HN1.blk.cell 5;have hf1 := HN1.blk.frozen;have hl1 := HN1.blk.lt;clear c5 c6 hf;go_wp2_with fail;refine aZB (aZK rfl _ _ _) rfl ⟨rfl, foot p g Ax Ak A1, ?_, ?_, ?_⟩
 ·exact ⟨Ax, Ak, nx, nk, cx, ck, g, A1, c1, HN1.put5 wr2, rfl⟩
 ·intro k hk
  rcases mem_foot.1 hk with h | h | ⟨a, h1, h2⟩ | ⟨a, h1, h2⟩ | ⟨a, h1, h2⟩
  ·exact .inl (mem_foot.2 (.inl h))
  ·exact .inl (mem_foot.2 (.inr (.inl h)))
  ·exact .inl (mem_foot.2 (.inr (.inr (.inl ⟨a, h1, h2⟩))))
  ·exact .inl (mem_foot.2 (.inr (.inr (.inr (.inl ⟨a, h1, h2⟩)))))
  ·rcases HR with h3 | h3
   ·cases hA : A with
    | none => rw [h1, hA] at h3; cases h3
    | some a' => rw [h1, hA] at h3; injection h3 with h3; exact .inl (mem_foot.2 (.inr (.inr (.inr (.inr ⟨a', rfl, (show a.block = a'.block from h3).symm.trans h2⟩)))))
   ·exact .inr (by rw [<- h2]; exact h3 a h1)
 ·exact HB1.setCell (p := ⟨p, 5, none⟩) (.inl (mem_foot.2 (.inl rfl))) _
theorem writtenN_any (p d : Nat) (big last : Bool) (x key : List UInt8) (wr : UInt64) (e : Eng) (F : List Nat) (w : World) (hN : Nd w p big d x key last wr e F) :
  Calls Tryz.prog 10 #[.pointer (some ⟨p, 0, none⟩)] w fun r w' => r = .returned (.int .u64 (wrd wr)) /\ w = w' := by
 obtain ⟨Ax, Ak, nx, nk, cx, ck, g, A, c, hNN, rfl⟩ := hN;have hb := hNN.blk;have hno := fun (T : TypeId) (v : Value) h6 => noneSame_any p T v _ w hb h6
 have hno2 := hno e.T (.pointer (some ⟨g, 0, none⟩)) rfl;have c0 : w.cell? ⟨p, 0, none⟩ = some (.int .i64 (kOf big)) := hb.cell 0;have c1 : w.cell? ⟨p, 1, none⟩ = some (.int .i64 d) := hb.cell 1;have c4 : w.cell? ⟨p, 4, none⟩ = some (.bool last) := hb.cell 4;have c5 : w.cell? ⟨p, 5, none⟩ = some (.int .u64 (wrd wr)) := hb.cell 5;have c6 : w.cell? ⟨p, 6, none⟩ = some (.iface e.T (.pointer (some ⟨g, 0, none⟩))) := hb.cell 6;have hf := hb.frozen;have hlt := hb.lt;have HN := zH hNN; have HNO := zH hno2; clear hNN hb hno hno2;go_enter Tryz.func10, Tryz.ntmps10;go_wp2_with (go_at_call 27; refine HNO.mono ?_; rintro e0 w0 ⟨rfl, rfl⟩);exact aZB (aZK rfl _ _ _) rfl ⟨rfl, rfl⟩
theorem sumN_any (p d : Nat) (big last : Bool) (x key : List UInt8) (wr : UInt64) (e : Eng) (F : List Nat) (w : World) (hN : Nd w p big d x key last wr e F) (hd : d <= e.full) :
  Calls Tryz.prog 8 #[.pointer (some ⟨p, 0, none⟩)] w fun r w' => ∃ A' c', r = .returned (.slice A' d d) /\ OS cB w' w.heap.size A' c' ((e.out last).take d) /\ Below w.heap.size w w' := by
 obtain ⟨Ax, Ak, nx, nk, cx, ck, g, A, c, hNN, rfl⟩ := hN;have hb := hNN.blk;have hno := fun (T : TypeId) (v : Value) h6 => noneSame_any p T v _ w hb h6
 have hno2 := hno e.T (.pointer (some ⟨g, 0, none⟩)) rfl;have c0 : w.cell? ⟨p, 0, none⟩ = some (.int .i64 (kOf big)) := hb.cell 0;have c1 : w.cell? ⟨p, 1, none⟩ = some (.int .i64 d) := hb.cell 1;have c4 : w.cell? ⟨p, 4, none⟩ = some (.bool last) := hb.cell 4;have c5 : w.cell? ⟨p, 5, none⟩ = some (.int .u64 (wrd wr)) := hb.cell 5;have c6 : w.cell? ⟨p, 6, none⟩ = some (.iface e.T (.pointer (some ⟨g, 0, none⟩))) := hb.cell 6;have hf := hb.frozen;have hlt := hb.lt;have hmW : ∀ (g k : Nat) (w : World), 0 < k -> Sem.run Tryz.prog (method k e.T (.pointer (some ⟨g, 0, none⟩)) "quern/node.out") w = .ok (e.fo, .pointer (some ⟨g, 0, none⟩)) w := fun g k w hk => e.run_out g k hk w
 have heL : ∀ args w, (callFunc e.fo args).run Tryz.prog w = .ok (.enter e.fo args) w := fun args w => e.enters_o args w
 have heo := fun W hE => eng_out e g 0 A c last W hE
 have hol := e.out_len last;generalize e.full = n at *;have HN := zH hNN; have HNO := zH hno2; have HEO := zH heo; have HOL := zH hol; clear hNN hb hno hno2 heo hol;generalize e.out last = o at *;go_enter Tryz.func8, Tryz.ntmps8;go_wp2_with (go_at_call 27; refine HNO.mono ?_; rintro e0 w0 ⟨rfl, rfl⟩);refine wp_region_B (Ords.of [(0, 0), (0, 1), (0, 2), (0, 3), (0, 4), (0, 5), (0, 6), (0, 7), (0, 8), (0, 9), (0, 11), (0, 12), (0, 13), (0, 14), (0, 15), (0, 16), (0, 17), (0, 18), (2, 10), (0, 19), (0, 20)] .fin) (by kernel_rfl) rfl (by kernel_rfl) (by kernel_rfl) (fun c a d v w h => by cases d <;> exact h) ?_
 iterate 2 (refine ords_pure rfl (fun K hK => ?_); go_simp; refine hK _ ?_; clear hK K; refine ords_pure rfl (fun K hK => ?_); go_simp; refine hK _ ?_; clear hK K; refine ords_pure rfl (fun K hK => ?_); go_simp; refine hK _ ?_; clear hK K; refine ords_heldK rfl (fun K K2 hK hK2 => ?_); go_simp; refine ⟨hK2 _ (fun w9 hS => ?_), hK _ ?_⟩; (clear hK hK2 K K2; (first | refine withN hS ?_ | refine withD hS ?_ | refine with0 hS ?_); intro hcS hfS; go_simp); (clear hK hK2 K K2))
 iterate 5 (refine ords_pure rfl (fun K hK => ?_); go_simp; refine hK _ ?_; clear hK K)
 refine ords_heldK rfl (fun K K2 hK hK2 => ?_); go_simp; refine ⟨hK2 _ (fun w9 hS => ?_), hK _ ?_⟩; (clear hK hK2 K K2; (first | refine withN hS ?_ | refine withD hS ?_ | refine with0 hS ?_); intro hcS hfS; go_simp); (clear hK hK2 K K2)
 iterate 3 (refine ords_pure rfl (fun K hK => ?_); go_simp; refine hK _ ?_; clear hK K)
 refine ords_heldK rfl (fun K K2 hK hK2 => ?_); go_simp; refine ⟨hK2 _ (fun w9 hS => ?_), hK _ ?_⟩; (clear hK hK2 K K2; (first | refine withN hS ?_ | refine withD hS ?_ | refine with0 hS ?_); intro hcS hfS; go_simp); (clear hK hK2 K K2);refine ords_loud rfl (fun n1 => ?_);go_wp2_with fail; (refine (HEO _ (Eng.inn_drewN HN.eng n1)).mono ?_; rintro e1 w1 ⟨A1, cc1, rfl, ho1, hb1⟩); have hcc : d <= cc1 := aZL hd (aZL (Nat.le_of_eq HOL.symm) ho1.len_le.1); have HO1 := zH ho1; have HB1 := zH (bcall (bdr (b0 w) _) hb1); clear ho1 hb1; go_wp2_with fail; refine ⟨HB1.out, ?_⟩
 iterate 2 (refine ords_pure rfl (fun K hK => ?_); go_simp; refine hK _ ?_; clear hK K)
 refine ords_end (fun n2 => ?_);go_wp2;exact aZB (aZK rfl _ _ _) rfl ⟨A1, cc1, rfl, (HO1.take d (by rw [HOL.out]; exact hd)).drewN n2, bdr HB1.out _⟩
theorem outN_any (p d m : Nat) (big last : Bool) (x key : List UInt8) (wr : UInt64) (e : Eng) (F : List Nat) (w : World) (hN : Nd w p big d x key last wr e F) (hm : 1 <= m /\ m <= bOf big) (hfull : e.full = bOf big) :
  Calls Tryz.prog 33 #[.pointer (some ⟨p, 0, none⟩), .int .i64 m] w fun r w' => ∃ A' c', r = .returned (.tuple #[.slice A' m m, .int .i64 0]) /\ OS cB w' w.heap.size A' c' ((e.out last).take m) /\ Below w.heap.size w w' := by
 have hm2 : m <= e.full := by omega
 have hbo := fun (W : World) => blockOf_any big W
 have hq : ((2 * bOf big : Nat) : Int).tdiv 2 = bOf big := by cases big <;> rfl
 have hq2 : ((2 * bOf big : Nat) : Int) / 2 = bOf big := by cases big <;> rfl
 have hb64 : bOf big <= 64 := by cases big <;> decide
 obtain ⟨hm0, hm1⟩ := hm;have t1 : decide ((m : Int) < 1) = false := by simp; omega
 have t2 : decide ((bOf big : Int) < m) = false := by simp; omega
 generalize 2 * bOf big = bb at *;clear hfull;obtain ⟨Ax, Ak, nx, nk, cx, ck, g, A, c, hNN, rfl⟩ := hN;have hb := hNN.blk;have hno := fun (T : TypeId) (v : Value) h6 => noneSame_any p T v _ w hb h6
 have hno2 := hno e.T (.pointer (some ⟨g, 0, none⟩)) rfl;have c0 : w.cell? ⟨p, 0, none⟩ = some (.int .i64 (kOf big)) := hb.cell 0;have c1 : w.cell? ⟨p, 1, none⟩ = some (.int .i64 d) := hb.cell 1;have c4 : w.cell? ⟨p, 4, none⟩ = some (.bool last) := hb.cell 4;have c5 : w.cell? ⟨p, 5, none⟩ = some (.int .u64 (wrd wr)) := hb.cell 5;have c6 : w.cell? ⟨p, 6, none⟩ = some (.iface e.T (.pointer (some ⟨g, 0, none⟩))) := hb.cell 6;have hf := hb.frozen;have hlt := hb.lt;have hmW : ∀ (g k : Nat) (w : World), 0 < k -> Sem.run Tryz.prog (method k e.T (.pointer (some ⟨g, 0, none⟩)) "quern/node.out") w = .ok (e.fo, .pointer (some ⟨g, 0, none⟩)) w := fun g k w hk => e.run_out g k hk w
 have heL : ∀ args w, (callFunc e.fo args).run Tryz.prog w = .ok (.enter e.fo args) w := fun args w => e.enters_o args w
 have heo := fun W hE => eng_out e g 0 A c last W hE
 have hol := e.out_len last;generalize e.full = n at *;have HN := zH hNN; have HNO := zH hno2; have HEO := zH heo; have HOL := zH hol; have HBO := zH hbo; clear hNN hb hno hno2 heo hol hbo;generalize e.out last = o at *;generalize hk : kOf big = kk at *;clear hk;go_enter Tryz.func33, Tryz.ntmps33;go_wp2_with (first | (go_at_call 27; refine HNO.mono ?_; rintro e0 w0 ⟨rfl, rfl⟩) | (go_at_call 54; refine (HBO _).mono ?_; rintro e0 w0 ⟨rfl, rfl⟩));refine wp_region_B (Ords.of [(0, 0), (0, 1), (0, 2), (0, 3), (0, 4), (0, 5), (0, 6), (0, 7), (0, 8), (0, 9), (0, 11), (0, 12), (2, 10), (0, 13), (0, 14), (0, 15)] .fin) (by kernel_rfl) rfl (by kernel_rfl) (by kernel_rfl) (fun c a d v w h => by cases d <;> exact h) ?_
 iterate 2 (refine ords_pure rfl (fun K hK => ?_); go_simp; refine hK _ ?_; clear hK K; refine ords_pure rfl (fun K hK => ?_); go_simp; refine hK _ ?_; clear hK K; refine ords_pure rfl (fun K hK => ?_); go_simp; refine hK _ ?_; clear hK K; refine ords_heldK rfl (fun K K2 hK hK2 => ?_); go_simp; refine ⟨hK2 _ (fun w9 hS => ?_), hK _ ?_⟩; (clear hK hK2 K K2; (first | refine withN hS ?_ | refine withD hS ?_ | refine with0 hS ?_); intro hcS hfS; go_simp); (clear hK hK2 K K2))
 iterate 4 (refine ords_pure rfl (fun K hK => ?_); go_simp; refine hK _ ?_; clear hK K)
 refine ords_loud rfl (fun n1 => ?_);go_wp2_with fail; (refine (HEO _ (Eng.inn_drewN HN.eng n1)).mono ?_; rintro e1 w1 ⟨A1, cc1, rfl, ho1, hb1⟩); have hcc : m <= cc1 := aZL hm2 (aZL (Nat.le_of_eq HOL.symm) ho1.len_le.1); have HO1 := zH ho1; have HB1 := zH (bcall (bdr (b0 w) _) hb1); clear ho1 hb1; go_wp2_with fail; refine ⟨HB1.out, ?_⟩
 iterate 3 (refine ords_pure rfl (fun K hK => ?_); go_simp; refine hK _ ?_; clear hK K)
 refine ords_end (fun n2 => ?_);go_wp2;exact aZB (results_tmp2 rfl _ _ _) rfl ⟨A1, cc1, rfl, (HO1.take m (by rw [HOL.out]; exact hm2)).drewN n2, bdr HB1.out _⟩
theorem outBad_any (p d : Nat) (m : Int) (big last : Bool) (x key : List UInt8) (wr : UInt64) (e : Eng) (F : List Nat) (w : World) (hN : Nd w p big d x key last wr e F) (hm : m < 1 \/ bOf big < m) :
  Calls Tryz.prog 33 #[.pointer (some ⟨p, 0, none⟩), .int .i64 m] w fun r w' => r = .returned (.tuple #[.slice none 0 0, .int .i64 1]) /\ Below w.heap.size w w' := by
 have hbo := fun (W : World) => blockOf_any big W
 have hq : ((2 * bOf big : Nat) : Int).tdiv 2 = bOf big := by cases big <;> rfl
 have hq2 : ((2 * bOf big : Nat) : Int) / 2 = bOf big := by cases big <;> rfl
 have hb64 : bOf big <= 64 := by cases big <;> decide
 by_cases h1 : m < 1
 all_goals
  generalize 2 * bOf big = bb at *;obtain ⟨Ax, Ak, nx, nk, cx, ck, g, A, c, hNN, rfl⟩ := hN;have hb := hNN.blk;have hno := fun (T : TypeId) (v : Value) h6 => noneSame_any p T v _ w hb h6
  have hno2 := hno e.T (.pointer (some ⟨g, 0, none⟩)) rfl;have c0 : w.cell? ⟨p, 0, none⟩ = some (.int .i64 (kOf big)) := hb.cell 0;have c1 : w.cell? ⟨p, 1, none⟩ = some (.int .i64 d) := hb.cell 1;have c4 : w.cell? ⟨p, 4, none⟩ = some (.bool last) := hb.cell 4;have c5 : w.cell? ⟨p, 5, none⟩ = some (.int .u64 (wrd wr)) := hb.cell 5;have c6 : w.cell? ⟨p, 6, none⟩ = some (.iface e.T (.pointer (some ⟨g, 0, none⟩))) := hb.cell 6;have hf := hb.frozen;have hlt := hb.lt;have HNO := zH hno2; have HBO := zH hbo; clear hNN hb hno hno2 hbo;generalize hk : kOf big = kk at *;clear hk
 ·have t1 : decide (m < 1) = true := by simpa using h1
  clear hm;go_enter Tryz.func33, Tryz.ntmps33;go_wp2_with (first | (go_at_call 27; refine HNO.mono ?_; rintro e0 w0 ⟨rfl, rfl⟩) | (go_at_call 54; refine (HBO _).mono ?_; rintro e0 w0 ⟨rfl, rfl⟩));exact aZB (results_tmp2 rfl _ _ _) rfl ⟨rfl, b0 _⟩
 ·have t1 : decide (m < 1) = false := by simpa using h1
  have t2 : decide ((bOf big : Int) < m) = true := by simp; omega
  clear hm;go_enter Tryz.func33, Tryz.ntmps33;go_wp2_with (first | (go_at_call 27; refine HNO.mono ?_; rintro e0 w0 ⟨rfl, rfl⟩) | (go_at_call 54; refine (HBO _).mono ?_; rintro e0 w0 ⟨rfl, rfl⟩));exact aZB (results_tmp2 rfl _ _ _) rfl ⟨rfl, b0 _⟩
end Go.Proofs.YtboihcigcfmhhaaGreat

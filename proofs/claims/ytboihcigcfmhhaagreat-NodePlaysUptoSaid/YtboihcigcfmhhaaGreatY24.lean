/-
  Y24: contracts and lemmas alone; no statement is claimed here.
-/
import Derived.Test.YtboihcigcfmhhaaGreatY16
set_option maxHeartbeats 1000000
set_option maxRecDepth 20000
namespace Go.Proofs.YtboihcigcfmhhaaGreat
open _root_.Nat renaming le_of_lt → bZL
open _root_.Nat renaming ne_of_lt → bZJ
open Go.IntKind renaming wrap → aZU
open Go.IntKind renaming bits → aZR
open _root_.Nat renaming lt_of_lt_of_le → aZO
open Go.IntKind renaming signed → aZM
open Go renaming results_tmp → aZK
open Go renaming bodyPost_ret → aZB
open Lib renaming hid -> zH
open Go.RowKit
attribute [local go_sem] pureUpon Ords.of
theorem But.cell {F : List Nat} {w w' : World} (h : But F w w') {a : Addr} (h1 : a.block < w.heap.size) (h2 : a.block ∉ F) : w'.cell? a = w.cell? a := by
 unfold World.cell?;rw [h.block a.block h1 h2]
def nxA (A : Option Addr) (c k : Nat) : Option Addr := if c = k then A else A.map (·.add k)
structure Pen (w : World) (B p : Nat) (A : Option Addr) (n c : Nat) (l : List UInt8) : Prop where
  blk : Blk w p 87 #[.slice A n c, .int .i64 0]
  len : l.length = n
  cap : n <= c
  top : c <= 9223372036854775807
  low : B <= p
  rs : RS cB w B A l
section
variable {w w' : World} {B p n c : Nat} {A : Option Addr} {l : List UInt8} {F : List Nat}
theorem Pen.but (h : Pen w B p A n c l) (hb : But F w w') (hF : ∀ k, k ∈ F -> p < k) : Pen w' B p A n c l :=
 ⟨h.blk.but hb (fun e => Nat.lt_irrefl _ (hF _ e)), h.len, h.cap, h.top, h.low, h.rs.below (hb.toBelow (bZL (Nat.lt_of_le_of_lt h.low h.blk.lt)) (fun k hk => Nat.le_trans h.low (bZL (hF k hk))))⟩
theorem Pen.below (h : Pen w B p A n c l) {C : Nat} (hb : Below C w w') (hC : p < C) : Pen w' B p A n c l :=
 ⟨h.blk.below hb hC, h.len, h.cap, h.top, h.low, h.rs.below (hb.mono (Nat.le_trans h.low (bZL hC)))⟩
theorem Pen.next (h : Pen w B p A n c l) {k : Nat} (hk : k <= n) (hb : But [p] w w') (hB : Blk w' p 87 #[.slice (nxA A c k) ((n - k : Nat) : Nat) ((c - k : Nat) : Nat), .int .i64 0]) : Pen w' B p (nxA A c k) (n - k) (c - k) (l.drop k) := by
 have h1 := h.len; have h2 := h.cap; have h3 := h.top;refine ⟨hB, by rw [List.length_drop]; omega, by omega, by omega, h.low, ?_⟩;have := (h.rs.below (hb.toBelow (bZL (Nat.lt_of_le_of_lt h.low h.blk.lt)) (fun k hk => by simp at hk; rw [hk]; exact h.low))).cut (k := k) (cap := c) (by omega) (by omega);exact this
end
theorem take_any (B p n c k : Nat) (A : Option Addr) (l : List UInt8) (w : World) (hp : Pen w B p A n c l) (hk : k <= n) :
  Calls Tryz.prog 69 #[.pointer (some ⟨p, 0, none⟩), .int .i64 k] w fun r w' => r = .returned (.slice A k c) /\ Pen w' B p (nxA A c k) (n - k) (c - k) (l.drop k) /\ But [p] w w' := by
 have hb := hp.blk;have c0 : w.cell? ⟨p, 0, none⟩ = some (.slice A n c) := hb.cell 0;have c1 : w.cell? ⟨p, 1, none⟩ = some (.int .i64 0) := hb.cell 1;have hf := hb.frozen;have hlt := hb.lt;have h1 := hp.cap; have h2 := hp.top;have t1 : decide ((n : Int) < (k : Int)) = false := by simp; omega
 have HP := zH hp;clear hp hb;go_enter Tryz.func69, Tryz.ntmps69;go_wp2_with fail
 ·rename_i h0
  clear h0;subst h;have hbut : But [p] w (w.setCell ⟨p, 0, none⟩ (.slice A (n - c) 0)) := (But.refl [p] w).setCell (p := ⟨p, 0, none⟩) (.inl (by simp)) _;have h3 := HP.next hk hbut (by unfold nxA; rw [if_pos rfl, Nat.sub_self]; exact HP.blk.set_ 0 _);rw [Nat.sub_self] at h3;exact aZB (aZK rfl _ _ _) rfl ⟨rfl, h3, hbut⟩
 ·rename_i h0
  clear h0;have hck := h;have hbut : But [p] w (w.setCell ⟨p, 0, none⟩ (.slice (Option.map (fun x => x.add k) A) (n - k) (c - k))) := (But.refl [p] w).setCell (p := ⟨p, 0, none⟩) (.inl (by simp)) _;have h3 := HP.next hk hbut (by unfold nxA; rw [if_neg hck]; exact HP.blk.set_ 0 _);exact aZB (aZK rfl _ _ _) rfl ⟨rfl, h3, hbut⟩
theorem must_any (p : Nat) (v : Value) (w : World) (hb : Blk w p 87 #[v, .int .i64 0]) :
  Calls Tryz.prog 71 #[.pointer (some ⟨p, 0, none⟩), .bool true] w fun r w' => r = .returned (.tuple #[]) /\ w = w' := by
 have c1 : w.cell? ⟨p, 1, none⟩ = some (.int .i64 0) := hb.cell 1;have hlt := hb.lt;clear hb;go_enter Tryz.func71, Tryz.ntmps71;go_wp2_with fail;exact bodyPost_end (results_none rfl _ _ _) rfl ⟨rfl, rfl⟩
theorem isN_any (w : World) : Calls Tryz.prog 63 #[.int .i64 78] w fun r w' => r = .returned (.bool true) /\ w = w' := by
 go_enter Tryz.func63, Tryz.ntmps63;go_wp2_with fail;exact aZB (aZK rfl _ _ _) rfl ⟨rfl, rfl⟩
theorem isKind_any (big : Bool) (w : World) : Calls Tryz.prog 64 #[.int .i64 (kOf big)] w fun r w' => r = .returned (.bool true) /\ w = w' := by
 cases big with
 | true =>
  show Calls _ _ #[.int .i64 1] w _
  go_enter Tryz.func64, Tryz.ntmps64;go_wp2_with fail;exact aZB (aZK rfl _ _ _) rfl ⟨rfl, rfl⟩
 | false =>
  show Calls _ _ #[.int .i64 2] w _
  go_enter Tryz.func64, Tryz.ntmps64;go_wp2_with fail;exact aZB (aZK rfl _ _ _) rfl ⟨rfl, rfl⟩
theorem isFlag_any (k : Nat) (hk : k < 2) (w : World) : Calls Tryz.prog 65 #[.int .i64 k] w fun r w' => r = .returned (.bool true) /\ w = w' := by
 have t1 : decide ((k : Int) < 2) = true := by simp; omega
 go_enter Tryz.func65, Tryz.ntmps65;go_wp2_with fail;exact aZB (aZK rfl _ _ _) rfl ⟨rfl, rfl⟩
theorem isMany_any (k m g : Nat) (hk : k <= m) (w : World) (hg : w.cell? ⟨g, 0, none⟩ = some (.int .i64 m)) : Calls Tryz.prog 67 #[.int .i64 k, .pointer (some ⟨g, 0, none⟩)] w fun r w' => r = .returned (.bool true) /\ w = w' := by
 have t1 : decide ((k : Int) <= (m : Int)) = true := by simp; omega
 go_enter Tryz.func67, Tryz.ntmps67;go_wp2_with fail;exact aZB (aZK rfl _ _ _) rfl ⟨rfl, rfl⟩
theorem byteN_any (B p n c : Nat) (A : Option Addr) (x : UInt8) (l : List UInt8) (w : World) (hp : Pen w B p A n c (x :: l)) (hx78 : x = 78) :
  Calls Tryz.prog 62 #[.pointer (some ⟨p, 0, none⟩), .func (.func 63) #[] #[]] w fun r w' => r = .returned (.int .i64 (x.toNat : Nat)) /\ Pen w' B p (nxA A c 1) (n - 1) (c - 1) l /\ But [p] w w' := by
 have hn : 1 <= n := by have := hp.len; simp at this; omega
 have htk := take_any B p n c 1 A _ w hp hn;have hbp := hp.low;obtain ⟨a, y, rfl, hab, hy, hcl⟩ := hp.rs.at_ (k := 0) (by simp);simp at hy;subst hy;have hal : a.block < p := aZO hab hbp;have hpl := hp.blk.lt;have ea : a.add 0 = a := rfl;rw [ea] at hcl;have hcl2 : w.cell? a = some (.int .u8 (x.toNat : Nat)) := hcl;have hx : ((x.toNat : Nat) : Int) < 256 := by have := x.toNat_lt; omega
 have hxw : IntKind.i64.wrap ((x.toNat : Nat) : Int) = (x.toNat : Nat) := by simp [aZU, aZR, aZM]; omega
 have HTK := zH htk; have HCL := zH hcl2; have HAL := zH hal; have HX := zH hx78;clear htk hcl hcl2 hp hab ea hx78;go_enter Tryz.func62, Tryz.ntmps62;go_wp2_with fail;refine HTK.mono ?_;rintro e1 w1 ⟨rfl, hp1, hb1⟩;have d1 : w1.cell? ⟨p, 1, none⟩ = some (.int .i64 0) := hp1.blk.cell 1;have d2 : w1.cell? a = some (.int .u8 (x.toNat : Nat)) := (hb1.cell (a := a) (Nat.lt_trans HAL.out hpl) (by simp; exact bZJ HAL.out)).trans HCL.out;have hl1 := hp1.blk.lt;have HP1 := zH hp1; have HB1 := zH hb1;clear hp1 hb1
 skip
 go_wp2_with fail;refine (show Calls _ _ #[.int .i64 (x.toNat : Nat)] w1 _ from by rw [HX.out]; exact isN_any w1).mono ?_;rintro e2 w2 ⟨rfl, rfl⟩;go_wp2_with fail;exact aZB (aZK rfl _ _ _) rfl ⟨rfl, HP1.out, HB1.out⟩
theorem byteK_any (B p n c : Nat) (A : Option Addr) (x : UInt8) (l : List UInt8) (w : World) (hp : Pen w B p A n c (x :: l)) (big : Bool) (hxk : ((x.toNat : Nat) : Int) = kOf big) :
  Calls Tryz.prog 62 #[.pointer (some ⟨p, 0, none⟩), .func (.func 64) #[] #[]] w fun r w' => r = .returned (.int .i64 (x.toNat : Nat)) /\ Pen w' B p (nxA A c 1) (n - 1) (c - 1) l /\ But [p] w w' := by
 have hn : 1 <= n := by have := hp.len; simp at this; omega
 have htk := take_any B p n c 1 A _ w hp hn;have hbp := hp.low;obtain ⟨a, y, rfl, hab, hy, hcl⟩ := hp.rs.at_ (k := 0) (by simp);simp at hy;subst hy;have hal : a.block < p := aZO hab hbp;have hpl := hp.blk.lt;have ea : a.add 0 = a := rfl;rw [ea] at hcl;have hcl2 : w.cell? a = some (.int .u8 (x.toNat : Nat)) := hcl;have hx : ((x.toNat : Nat) : Int) < 256 := by have := x.toNat_lt; omega
 have hxw : IntKind.i64.wrap ((x.toNat : Nat) : Int) = (x.toNat : Nat) := by simp [aZU, aZR, aZM]; omega
 have HTK := zH htk; have HCL := zH hcl2; have HAL := zH hal; have HX := zH hxk;clear htk hcl hcl2 hp hab ea hxk;go_enter Tryz.func62, Tryz.ntmps62;go_wp2_with fail;refine HTK.mono ?_;rintro e1 w1 ⟨rfl, hp1, hb1⟩;have d1 : w1.cell? ⟨p, 1, none⟩ = some (.int .i64 0) := hp1.blk.cell 1;have d2 : w1.cell? a = some (.int .u8 (x.toNat : Nat)) := (hb1.cell (a := a) (Nat.lt_trans HAL.out hpl) (by simp; exact bZJ HAL.out)).trans HCL.out;have hl1 := hp1.blk.lt;have HP1 := zH hp1; have HB1 := zH hb1;clear hp1 hb1
 skip
 go_wp2_with fail;refine (show Calls _ _ #[.int .i64 (x.toNat : Nat)] w1 _ from by rw [HX.out]; exact isKind_any big w1).mono ?_;rintro e2 w2 ⟨rfl, rfl⟩;go_wp2_with fail;exact aZB (aZK rfl _ _ _) rfl ⟨rfl, HP1.out, HB1.out⟩
theorem byteF_any (B p n c : Nat) (A : Option Addr) (x : UInt8) (l : List UInt8) (w : World) (hp : Pen w B p A n c (x :: l)) (hxf : x.toNat < 2) :
  Calls Tryz.prog 62 #[.pointer (some ⟨p, 0, none⟩), .func (.func 65) #[] #[]] w fun r w' => r = .returned (.int .i64 (x.toNat : Nat)) /\ Pen w' B p (nxA A c 1) (n - 1) (c - 1) l /\ But [p] w w' := by
 have hn : 1 <= n := by have := hp.len; simp at this; omega
 have htk := take_any B p n c 1 A _ w hp hn;have hbp := hp.low;obtain ⟨a, y, rfl, hab, hy, hcl⟩ := hp.rs.at_ (k := 0) (by simp);simp at hy;subst hy;have hal : a.block < p := aZO hab hbp;have hpl := hp.blk.lt;have ea : a.add 0 = a := rfl;rw [ea] at hcl;have hcl2 : w.cell? a = some (.int .u8 (x.toNat : Nat)) := hcl;have hx : ((x.toNat : Nat) : Int) < 256 := by have := x.toNat_lt; omega
 have hxw : IntKind.i64.wrap ((x.toNat : Nat) : Int) = (x.toNat : Nat) := by simp [aZU, aZR, aZM]; omega
 have HTK := zH htk; have HCL := zH hcl2; have HAL := zH hal; have HX := zH hxf;clear htk hcl hcl2 hp hab ea hxf;go_enter Tryz.func62, Tryz.ntmps62;go_wp2_with fail;refine HTK.mono ?_;rintro e1 w1 ⟨rfl, hp1, hb1⟩;have d1 : w1.cell? ⟨p, 1, none⟩ = some (.int .i64 0) := hp1.blk.cell 1;have d2 : w1.cell? a = some (.int .u8 (x.toNat : Nat)) := (hb1.cell (a := a) (Nat.lt_trans HAL.out hpl) (by simp; exact bZJ HAL.out)).trans HCL.out;have hl1 := hp1.blk.lt;have HP1 := zH hp1; have HB1 := zH hb1;clear hp1 hb1
 skip
 go_wp2_with fail;refine (isFlag_any x.toNat HX w1).mono ?_;rintro e2 w2 ⟨rfl, rfl⟩;go_wp2_with fail;exact aZB (aZK rfl _ _ _) rfl ⟨rfl, HP1.out, HB1.out⟩
theorem byteM_any (B p n c : Nat) (A : Option Addr) (x : UInt8) (l : List UInt8) (w : World) (hp : Pen w B p A n c (x :: l)) (m g : Nat) (hxm : x.toNat <= m) (hgp : p < g) (hcg : w.cell? ⟨g, 0, none⟩ = some (.int .i64 m)) (hgl : g < w.heap.size) :
  Calls Tryz.prog 62 #[.pointer (some ⟨p, 0, none⟩), .func (.func 67) #[] #[.pointer (some ⟨g, 0, none⟩)]] w fun r w' => r = .returned (.int .i64 (x.toNat : Nat)) /\ Pen w' B p (nxA A c 1) (n - 1) (c - 1) l /\ But [p] w w' := by
 have hn : 1 <= n := by have := hp.len; simp at this; omega
 have htk := take_any B p n c 1 A _ w hp hn;have hbp := hp.low;obtain ⟨a, y, rfl, hab, hy, hcl⟩ := hp.rs.at_ (k := 0) (by simp);simp at hy;subst hy;have hal : a.block < p := aZO hab hbp;have hpl := hp.blk.lt;have ea : a.add 0 = a := rfl;rw [ea] at hcl;have hcl2 : w.cell? a = some (.int .u8 (x.toNat : Nat)) := hcl;have hx : ((x.toNat : Nat) : Int) < 256 := by have := x.toNat_lt; omega
 have hxw : IntKind.i64.wrap ((x.toNat : Nat) : Int) = (x.toNat : Nat) := by simp [aZU, aZR, aZM]; omega
 have HTK := zH htk; have HCL := zH hcl2; have HAL := zH hal; have HX := zH hxm; have HG := zH hgp; have HCG := zH hcg; have HGL := zH hgl;clear htk hcl hcl2 hp hab ea hxm hgp hcg hgl;go_enter Tryz.func62, Tryz.ntmps62;go_wp2_with fail;refine HTK.mono ?_;rintro e1 w1 ⟨rfl, hp1, hb1⟩;have d1 : w1.cell? ⟨p, 1, none⟩ = some (.int .i64 0) := hp1.blk.cell 1;have d2 : w1.cell? a = some (.int .u8 (x.toNat : Nat)) := (hb1.cell (a := a) (Nat.lt_trans HAL.out hpl) (by simp; exact bZJ HAL.out)).trans HCL.out;have hl1 := hp1.blk.lt;have HP1 := zH hp1; have HB1 := zH hb1;clear hp1 hb1;have hm1 := fun (W : World) h => isMany_any x.toNat m g HX W h
 have HM1 := zH hm1;have hc9 : w1.cell? ⟨g, 0, none⟩ = some (.int .i64 m) := (HB1.cell (a := ⟨g, 0, none⟩) HGL.out (by simp; exact Nat.ne_of_gt HG.out)).trans HCG.out;have HC9 := zH hc9;clear hm1 hc9;go_wp2_with fail;refine (HM1 w1 HC9).mono ?_;rintro e2 w2 ⟨rfl, rfl⟩;go_wp2_with fail;exact aZB (aZK rfl _ _ _) rfl ⟨rfl, HP1.out, HB1.out⟩
end Go.Proofs.YtboihcigcfmhhaaGreat

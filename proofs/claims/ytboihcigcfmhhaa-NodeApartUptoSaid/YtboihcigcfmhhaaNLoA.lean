/-
  Load of the program: the pen. Contracts alone; no statement is claimed here.
-/
import Derived.Test.YtboihcigcfmhhaaNCopy
namespace Go.Proofs.Ytboihcigcfmhhaa
open Go.RowKit
attribute [local go_sem] pureUpon Ords.of

theorem But.cell {F : List Nat} {w w' : World} (h : But F w w') {a : Addr} (h1 : a.block < w.heap.size) (h2 : a.block ∉ F) : w'.cell? a = w.cell? a := by
  unfold World.cell?
  rw [h.block a.block h1 h2]
/-- behind the first k -/
def nxA (A : Option Addr) (c k : Nat) : Option Addr := if c = k then A else A.map (·.add k)
/-- what a pen has still to read: l, at A -/
structure Pen (w : World) (B p : Nat) (A : Option Addr) (n c : Nat) (l : List UInt8) : Prop where
  blk : Blk w p 54 #[.slice A n c, .int .i64 0]
  len : l.length = n
  cap : n ≤ c
  top : c ≤ 9223372036854775807
  low : B ≤ p
  rs : RS cB w B A l
section
variable {w w' : World} {B p n c : Nat} {A : Option Addr} {l : List UInt8} {F : List Nat}
theorem Pen.but (h : Pen w B p A n c l) (hb : But F w w') (hF : ∀ k, k ∈ F → p < k) : Pen w' B p A n c l :=
  ⟨h.blk.but hb (fun e => Nat.lt_irrefl _ (hF _ e)), h.len, h.cap, h.top, h.low, h.rs.below (hb.toBelow (Nat.le_of_lt (Nat.lt_of_le_of_lt h.low h.blk.lt)) (fun k hk => Nat.le_trans h.low (Nat.le_of_lt (hF k hk))))⟩
theorem Pen.below (h : Pen w B p A n c l) {C : Nat} (hb : Below C w w') (hC : p < C) : Pen w' B p A n c l :=
  ⟨h.blk.below hb hC, h.len, h.cap, h.top, h.low, h.rs.below (hb.mono (Nat.le_trans h.low (Nat.le_of_lt hC)))⟩
theorem Pen.next (h : Pen w B p A n c l) {k : Nat} (hk : k ≤ n) (hb : But [p] w w') (hB : Blk w' p 54 #[.slice (nxA A c k) ((n - k : Nat) : Nat) ((c - k : Nat) : Nat), .int .i64 0]) : Pen w' B p (nxA A c k) (n - k) (c - k) (l.drop k) := by
  have h1 := h.len; have h2 := h.cap; have h3 := h.top
  refine ⟨hB, by rw [List.length_drop]; omega, by omega, by omega, h.low, ?_⟩
  have := (h.rs.below (hb.toBelow (Nat.le_of_lt (Nat.lt_of_le_of_lt h.low h.blk.lt)) (fun k hk => by simp at hk; rw [hk]; exact h.low))).cut (k := k) (cap := c) (by omega) (by omega)
  exact this
end
set_option maxRecDepth 20000 in
set_option maxHeartbeats 1000000 in
theorem take_any (B p n c k : Nat) (A : Option Addr) (l : List UInt8) (w : World) (hp : Pen w B p A n c l) (hk : k ≤ n) :
    Calls Try.prog 32 #[.pointer (some ⟨p, 0, none⟩), .int .i64 k] w fun r w' => r = .returned (.slice A k c) ∧ Pen w' B p (nxA A c k) (n - k) (c - k) (l.drop k) ∧ But [p] w w' := by
  have hb := hp.blk
  have c0 : w.cell? ⟨p, 0, none⟩ = some (.slice A n c) := hb.cell 0
  have c1 : w.cell? ⟨p, 1, none⟩ = some (.int .i64 0) := hb.cell 1
  have hf := hb.frozen
  have hlt := hb.lt
  have h1 := hp.cap; have h2 := hp.top
  have t1 : decide ((n : Int) < (k : Int)) = false := by simp; omega
  have HP := Lib.hid hp
  clear hp hb
  go_enter Try.func32, Try.ntmps32
  go_wp2_with fail
  · rename_i h0
    clear h0
    subst h
    have hbut : But [p] w (w.setCell ⟨p, 0, none⟩ (.slice A (n - c) 0)) := (But.refl [p] w).setCell (p := ⟨p, 0, none⟩) (.inl (by simp)) _
    have h3 := HP.out.next hk hbut (by unfold nxA; rw [if_pos rfl, Nat.sub_self]; exact HP.out.blk.set_ 0 _)
    rw [Nat.sub_self] at h3
    exact bodyPost_ret (results_tmp rfl _ _ _) rfl ⟨rfl, h3, hbut⟩
  · rename_i h0
    clear h0
    have hck := h
    have hbut : But [p] w (w.setCell ⟨p, 0, none⟩ (.slice (Option.map (fun x => x.add k) A) (n - k) (c - k))) := (But.refl [p] w).setCell (p := ⟨p, 0, none⟩) (.inl (by simp)) _
    have h3 := HP.out.next hk hbut (by unfold nxA; rw [if_neg hck]; exact HP.out.blk.set_ 0 _)
    exact bodyPost_ret (results_tmp rfl _ _ _) rfl ⟨rfl, h3, hbut⟩
theorem must_any (p : Nat) (v : Value) (w : World) (hb : Blk w p 54 #[v, .int .i64 0]) :
    Calls Try.prog 34 #[.pointer (some ⟨p, 0, none⟩), .bool true] w fun r w' => r = .returned (.tuple #[]) ∧ w = w' := by
  have c1 : w.cell? ⟨p, 1, none⟩ = some (.int .i64 0) := hb.cell 1
  have hlt := hb.lt
  clear hb
  go_enter Try.func34, Try.ntmps34
  go_wp2_with fail
  exact bodyPost_end (results_none rfl _ _ _) rfl ⟨rfl, rfl⟩
/-! the bytes that may stand at the head -/
theorem isN_any (w : World) : Calls Try.prog 26 #[.int .i64 78] w fun r w' => r = .returned (.bool true) ∧ w = w' := by
  go_enter Try.func26, Try.ntmps26
  go_wp2_with fail
  exact bodyPost_ret (results_tmp rfl _ _ _) rfl ⟨rfl, rfl⟩
theorem isKind_any (big : Bool) (w : World) : Calls Try.prog 27 #[.int .i64 (kOf big)] w fun r w' => r = .returned (.bool true) ∧ w = w' := by
  cases big with
  | true =>
    show Calls _ _ #[.int .i64 1] w _
    go_enter Try.func27, Try.ntmps27
    go_wp2_with fail
    exact bodyPost_ret (results_tmp rfl _ _ _) rfl ⟨rfl, rfl⟩
  | false =>
    show Calls _ _ #[.int .i64 2] w _
    go_enter Try.func27, Try.ntmps27
    go_wp2_with fail
    exact bodyPost_ret (results_tmp rfl _ _ _) rfl ⟨rfl, rfl⟩
theorem isFlag_any (k : Nat) (hk : k < 2) (w : World) : Calls Try.prog 28 #[.int .i64 k] w fun r w' => r = .returned (.bool true) ∧ w = w' := by
  have t1 : decide ((k : Int) < 2) = true := by simp; omega
  go_enter Try.func28, Try.ntmps28
  go_wp2_with fail
  exact bodyPost_ret (results_tmp rfl _ _ _) rfl ⟨rfl, rfl⟩
theorem isMany_any (k m g : Nat) (hk : k ≤ m) (w : World) (hg : w.cell? ⟨g, 0, none⟩ = some (.int .i64 m)) : Calls Try.prog 30 #[.int .i64 k, .pointer (some ⟨g, 0, none⟩)] w fun r w' => r = .returned (.bool true) ∧ w = w' := by
  have t1 : decide ((k : Int) ≤ (m : Int)) = true := by simp; omega
  go_enter Try.func30, Try.ntmps30
  go_wp2_with fail
  exact bodyPost_ret (results_tmp rfl _ _ _) rfl ⟨rfl, rfl⟩
set_option maxRecDepth 20000 in
set_option maxHeartbeats 1000000 in
theorem byteN_any (B p n c : Nat) (A : Option Addr) (x : UInt8) (l : List UInt8) (w : World) (hp : Pen w B p A n c (x :: l)) (hx78 : x = 78) :
    Calls Try.prog 25 #[.pointer (some ⟨p, 0, none⟩), .func (.func 26) #[] #[]] w fun r w' => r = .returned (.int .i64 (x.toNat : Nat)) ∧ Pen w' B p (nxA A c 1) (n - 1) (c - 1) l ∧ But [p] w w' := by
  have hn : 1 ≤ n := by have := hp.len; simp at this; omega
  have htk := take_any B p n c 1 A _ w hp hn
  have hbp := hp.low
  obtain ⟨a, y, rfl, hab, hy, hcl⟩ := hp.rs.at_ (k := 0) (by simp)
  simp at hy
  subst hy
  have hal : a.block < p := Nat.lt_of_lt_of_le hab hbp
  have hpl := hp.blk.lt
  have ea : a.add 0 = a := rfl
  rw [ea] at hcl
  have hcl2 : w.cell? a = some (.int .u8 (x.toNat : Nat)) := hcl
  have hx : ((x.toNat : Nat) : Int) < 256 := by have := x.toNat_lt; omega
  have hxw : IntKind.i64.wrap ((x.toNat : Nat) : Int) = (x.toNat : Nat) := by simp [IntKind.wrap, IntKind.bits, IntKind.signed]; omega
  have HTK := Lib.hid htk; have HCL := Lib.hid hcl2; have HAL := Lib.hid hal; have HX := Lib.hid hx78
  clear htk hcl hcl2 hp hab ea hx78
  go_enter Try.func25, Try.ntmps25
  go_wp2_with fail
  refine HTK.out.mono ?_
  rintro e1 w1 ⟨rfl, hp1, hb1⟩
  have d1 : w1.cell? ⟨p, 1, none⟩ = some (.int .i64 0) := hp1.blk.cell 1
  have d2 : w1.cell? a = some (.int .u8 (x.toNat : Nat)) := (hb1.cell (a := a) (Nat.lt_trans HAL.out hpl) (by simp; exact Nat.ne_of_lt HAL.out)).trans HCL.out
  have hl1 := hp1.blk.lt
  have HP1 := Lib.hid hp1; have HB1 := Lib.hid hb1
  clear hp1 hb1
  skip
  go_wp2_with fail
  refine (show Calls _ _ #[.int .i64 (x.toNat : Nat)] w1 _ from by rw [HX.out]; exact isN_any w1).mono ?_
  rintro e2 w2 ⟨rfl, rfl⟩
  go_wp2_with fail
  exact bodyPost_ret (results_tmp rfl _ _ _) rfl ⟨rfl, HP1.out, HB1.out⟩
set_option maxRecDepth 20000 in
set_option maxHeartbeats 1000000 in
theorem byteK_any (B p n c : Nat) (A : Option Addr) (x : UInt8) (l : List UInt8) (w : World) (hp : Pen w B p A n c (x :: l)) (big : Bool) (hxk : ((x.toNat : Nat) : Int) = kOf big) :
    Calls Try.prog 25 #[.pointer (some ⟨p, 0, none⟩), .func (.func 27) #[] #[]] w fun r w' => r = .returned (.int .i64 (x.toNat : Nat)) ∧ Pen w' B p (nxA A c 1) (n - 1) (c - 1) l ∧ But [p] w w' := by
  have hn : 1 ≤ n := by have := hp.len; simp at this; omega
  have htk := take_any B p n c 1 A _ w hp hn
  have hbp := hp.low
  obtain ⟨a, y, rfl, hab, hy, hcl⟩ := hp.rs.at_ (k := 0) (by simp)
  simp at hy
  subst hy
  have hal : a.block < p := Nat.lt_of_lt_of_le hab hbp
  have hpl := hp.blk.lt
  have ea : a.add 0 = a := rfl
  rw [ea] at hcl
  have hcl2 : w.cell? a = some (.int .u8 (x.toNat : Nat)) := hcl
  have hx : ((x.toNat : Nat) : Int) < 256 := by have := x.toNat_lt; omega
  have hxw : IntKind.i64.wrap ((x.toNat : Nat) : Int) = (x.toNat : Nat) := by simp [IntKind.wrap, IntKind.bits, IntKind.signed]; omega
  have HTK := Lib.hid htk; have HCL := Lib.hid hcl2; have HAL := Lib.hid hal; have HX := Lib.hid hxk
  clear htk hcl hcl2 hp hab ea hxk
  go_enter Try.func25, Try.ntmps25
  go_wp2_with fail
  refine HTK.out.mono ?_
  rintro e1 w1 ⟨rfl, hp1, hb1⟩
  have d1 : w1.cell? ⟨p, 1, none⟩ = some (.int .i64 0) := hp1.blk.cell 1
  have d2 : w1.cell? a = some (.int .u8 (x.toNat : Nat)) := (hb1.cell (a := a) (Nat.lt_trans HAL.out hpl) (by simp; exact Nat.ne_of_lt HAL.out)).trans HCL.out
  have hl1 := hp1.blk.lt
  have HP1 := Lib.hid hp1; have HB1 := Lib.hid hb1
  clear hp1 hb1
  skip
  go_wp2_with fail
  refine (show Calls _ _ #[.int .i64 (x.toNat : Nat)] w1 _ from by rw [HX.out]; exact isKind_any big w1).mono ?_
  rintro e2 w2 ⟨rfl, rfl⟩
  go_wp2_with fail
  exact bodyPost_ret (results_tmp rfl _ _ _) rfl ⟨rfl, HP1.out, HB1.out⟩
set_option maxRecDepth 20000 in
set_option maxHeartbeats 1000000 in
theorem byteF_any (B p n c : Nat) (A : Option Addr) (x : UInt8) (l : List UInt8) (w : World) (hp : Pen w B p A n c (x :: l)) (hxf : x.toNat < 2) :
    Calls Try.prog 25 #[.pointer (some ⟨p, 0, none⟩), .func (.func 28) #[] #[]] w fun r w' => r = .returned (.int .i64 (x.toNat : Nat)) ∧ Pen w' B p (nxA A c 1) (n - 1) (c - 1) l ∧ But [p] w w' := by
  have hn : 1 ≤ n := by have := hp.len; simp at this; omega
  have htk := take_any B p n c 1 A _ w hp hn
  have hbp := hp.low
  obtain ⟨a, y, rfl, hab, hy, hcl⟩ := hp.rs.at_ (k := 0) (by simp)
  simp at hy
  subst hy
  have hal : a.block < p := Nat.lt_of_lt_of_le hab hbp
  have hpl := hp.blk.lt
  have ea : a.add 0 = a := rfl
  rw [ea] at hcl
  have hcl2 : w.cell? a = some (.int .u8 (x.toNat : Nat)) := hcl
  have hx : ((x.toNat : Nat) : Int) < 256 := by have := x.toNat_lt; omega
  have hxw : IntKind.i64.wrap ((x.toNat : Nat) : Int) = (x.toNat : Nat) := by simp [IntKind.wrap, IntKind.bits, IntKind.signed]; omega
  have HTK := Lib.hid htk; have HCL := Lib.hid hcl2; have HAL := Lib.hid hal; have HX := Lib.hid hxf
  clear htk hcl hcl2 hp hab ea hxf
  go_enter Try.func25, Try.ntmps25
  go_wp2_with fail
  refine HTK.out.mono ?_
  rintro e1 w1 ⟨rfl, hp1, hb1⟩
  have d1 : w1.cell? ⟨p, 1, none⟩ = some (.int .i64 0) := hp1.blk.cell 1
  have d2 : w1.cell? a = some (.int .u8 (x.toNat : Nat)) := (hb1.cell (a := a) (Nat.lt_trans HAL.out hpl) (by simp; exact Nat.ne_of_lt HAL.out)).trans HCL.out
  have hl1 := hp1.blk.lt
  have HP1 := Lib.hid hp1; have HB1 := Lib.hid hb1
  clear hp1 hb1
  skip
  go_wp2_with fail
  refine (isFlag_any x.toNat HX.out w1).mono ?_
  rintro e2 w2 ⟨rfl, rfl⟩
  go_wp2_with fail
  exact bodyPost_ret (results_tmp rfl _ _ _) rfl ⟨rfl, HP1.out, HB1.out⟩
set_option maxRecDepth 20000 in
set_option maxHeartbeats 1000000 in
theorem byteM_any (B p n c : Nat) (A : Option Addr) (x : UInt8) (l : List UInt8) (w : World) (hp : Pen w B p A n c (x :: l)) (m g : Nat) (hxm : x.toNat ≤ m) (hgp : p < g) (hcg : w.cell? ⟨g, 0, none⟩ = some (.int .i64 m)) (hgl : g < w.heap.size) :
    Calls Try.prog 25 #[.pointer (some ⟨p, 0, none⟩), .func (.func 30) #[] #[.pointer (some ⟨g, 0, none⟩)]] w fun r w' => r = .returned (.int .i64 (x.toNat : Nat)) ∧ Pen w' B p (nxA A c 1) (n - 1) (c - 1) l ∧ But [p] w w' := by
  have hn : 1 ≤ n := by have := hp.len; simp at this; omega
  have htk := take_any B p n c 1 A _ w hp hn
  have hbp := hp.low
  obtain ⟨a, y, rfl, hab, hy, hcl⟩ := hp.rs.at_ (k := 0) (by simp)
  simp at hy
  subst hy
  have hal : a.block < p := Nat.lt_of_lt_of_le hab hbp
  have hpl := hp.blk.lt
  have ea : a.add 0 = a := rfl
  rw [ea] at hcl
  have hcl2 : w.cell? a = some (.int .u8 (x.toNat : Nat)) := hcl
  have hx : ((x.toNat : Nat) : Int) < 256 := by have := x.toNat_lt; omega
  have hxw : IntKind.i64.wrap ((x.toNat : Nat) : Int) = (x.toNat : Nat) := by simp [IntKind.wrap, IntKind.bits, IntKind.signed]; omega
  have HTK := Lib.hid htk; have HCL := Lib.hid hcl2; have HAL := Lib.hid hal; have HX := Lib.hid hxm; have HG := Lib.hid hgp; have HCG := Lib.hid hcg; have HGL := Lib.hid hgl
  clear htk hcl hcl2 hp hab ea hxm hgp hcg hgl
  go_enter Try.func25, Try.ntmps25
  go_wp2_with fail
  refine HTK.out.mono ?_
  rintro e1 w1 ⟨rfl, hp1, hb1⟩
  have d1 : w1.cell? ⟨p, 1, none⟩ = some (.int .i64 0) := hp1.blk.cell 1
  have d2 : w1.cell? a = some (.int .u8 (x.toNat : Nat)) := (hb1.cell (a := a) (Nat.lt_trans HAL.out hpl) (by simp; exact Nat.ne_of_lt HAL.out)).trans HCL.out
  have hl1 := hp1.blk.lt
  have HP1 := Lib.hid hp1; have HB1 := Lib.hid hb1
  clear hp1 hb1
  have hm1 := fun (W : World) h => isMany_any x.toNat m g HX.out W h
  have HM1 := Lib.hid hm1
  have hc9 : w1.cell? ⟨g, 0, none⟩ = some (.int .i64 m) := (HB1.out.cell (a := ⟨g, 0, none⟩) HGL.out (by simp; exact Nat.ne_of_gt HG.out)).trans HCG.out
  have HC9 := Lib.hid hc9
  clear hm1 hc9
  go_wp2_with fail
  refine (HM1.out w1 HC9.out).mono ?_
  rintro e2 w2 ⟨rfl, rfl⟩
  go_wp2_with fail
  exact bodyPost_ret (results_tmp rfl _ _ _) rfl ⟨rfl, HP1.out, HB1.out⟩
end Go.Proofs.Ytboihcigcfmhhaa

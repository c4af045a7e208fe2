/-
  A segment of Argon's memory filled by the program. Contracts alone; no statement is claimed here.
-/
import Derived.Test.YtbghkdhkahkfnaaAFilB
import Derived.Test.YtbghkdhkahkfnaaAdrAll
import Derived.Test.YtbghkdhkahkfnaaMx
import Derived.Deep.CutRange
namespace Go.Proofs.Ytbghkdhkahkfnaa
open Go.RowKit
attribute [local go_sem] pureUpon Ords.of

structure FNum (a : Ar) (s x m c ac : Nat) : Prop where
  m_ : m = s * a.sg
  c_ : c = s * a.sg + x
  ac_ : ac = aheadC a s x
  mw : (s : Int) * (a.sg : Int) = (m : Int)
  cw : (m : Int) + (x : Int) = (c : Int)
  am : ((c : Int) + (a.cl : Int) - 1) % (a.cl : Int) = (ac : Int)
  at_ : ((c : Int) + (a.cl : Int) - 1).tmod (a.cl : Int) = (ac : Int)
  cl : c < a.cl
  al : ac < a.cl
  c4 : a.cl ≤ 4096
  m4 : m ≤ 4096
theorem fnum {a : Ar} (h : a.ok) {s x : Nat} (hs : s < 4) (hx : x < a.sg) : ∃ m c ac, FNum a s x m c ac := by
 have hn := Ar.n h
 have hs2 := hn.s2; have hs3 := hn.s3
 have h3 : s * a.sg ≤ 3 * a.sg := Nat.mul_le_mul_right _ (by omega)
 have hc : s * a.sg + x < a.cl := by unfold Ar.cl; omega
 have hp : 0 < a.cl := by omega
 have ha : aheadC a s x < a.cl := Nat.mod_lt _ hp
 have e : ((s * a.sg + x : Nat) : Int) + (a.cl : Int) - 1 = ((s * a.sg + x + a.cl - 1 : Nat) : Int) := by omega
 refine ⟨s * a.sg, s * a.sg + x, aheadC a s x, rfl, rfl, rfl, by push_cast; rfl, by push_cast; rfl, ?_, ?_, hc, ha, by unfold Ar.cl; omega, by omega⟩
 ·rw [e]; unfold aheadC; rfl
 ·rw [e]; unfold aheadC; rfl
structure FIn (w wr : World) (H : Nat) (a : Ar) (gm gl cap : Nat) (gs : List Nat) (g : Nat) (ga : Nat) (F : AMem) : Prop where
  mem : Blk wr gm 58 (memC a (some ⟨gl, 0, none⟩) a.ln cap)
  pl : PLn wr H a a.ln (some ⟨gl, 0, none⟩) cap gs F
  arg : Blk wr ga 23 (argC a)
  new : w.heap.size ≤ ga
  but : But [g] w wr
section
variable {w wr w' : World} {H : Nat} {a : Ar} {gm gl cap : Nat} {gs : List Nat} {g ga : Nat} {F : AMem}
theorem FIn.below (h : FIn w wr H a gm gl cap gs g ga F) (hC : 0 < a.cl) (hb : Below wr.heap.size wr w') : FIn w w' H a gm gl cap gs g ga F :=
 ⟨h.mem.below hb h.mem.lt, h.pl.below hC hb, h.arg.below hb h.arg.lt, h.new, h.but.below hb⟩
theorem FIn.drewN (h : FIn w wr H a gm gl cap gs g ga F) (hC : 0 < a.cl) (n : Nat) : FIn w (wr.drewN n) H a gm gl cap gs g ga F := h.below hC (bdr (b0 wr) n)
theorem FIn.put (h : FIn w wr H a gm gl cap gs g ga F) (hF : ∀ l c, (F l c).length = 1024) {l c : Nat} (hg : gs[l]? = some g) (hgw : g < w.heap.size) (hgm : gm ∉ gs) (hc : c < a.cl) {b : List UInt8} (hb : b.length = 1024) : FIn w (wr.setCells g (c * 1024) (bcs b)) H a gm gl cap gs g ga (putM F l c b) := by
 have hgg : g ∈ gs := List.mem_of_getElem? hg
 have hne : gm ≠ g := fun e => hgm (by rw [e]; exact hgg)
 have hna : ga ≠ g := by have := h.new; omega
 have hr := grown_setCells (bcs b) (c * 1024) (World.grownBy.refl wr (some g))
 refine ⟨h.mem.grown hr (fun e => hne (Option.some.inj e)), h.pl.put hF hg hc hb, h.arg.grown hr (fun e => hna (Option.some.inj e)), h.new, h.but.trans (But.grown hr (fun k hk => .inl (by rw [← Option.some.inj hk]; simp))) (fun k hk => .inl hk)⟩
end
structure Drw (w wx : World) (a : Ar) (p s l : Nat) (D : Bool) (A : Option Addr) (n c : Nat) : Prop where
  yes : D = true → n = a.sg ∧ ∃ hb, w.heap.size ≤ hb ∧ OS cW wx hb A c (adrs a p s l)
  no : D = false → A = none ∧ n = 0 ∧ c = 0
section
variable {w wr w' : World} {a : Ar} {p s l : Nat} {D : Bool} {A : Option Addr} {n c : Nat}
theorem Drw.below (h : Drw w wr a p s l D A n c) (hb : Below wr.heap.size wr w') : Drw w w' a p s l D A n c :=
 ⟨fun e => by obtain ⟨h1, k, h2, h3⟩ := h.yes e; exact ⟨h1, k, h2, h3.below hb (Nat.le_refl _)⟩, h.no⟩
theorem Drw.put (h : Drw w wr a p s l D A n c) {g o : Nat} {vs : List Value} (hg : g < w.heap.size) : Drw w (wr.setCells g o vs) a p s l D A n c :=
 ⟨fun e => by
  obtain ⟨h1, k, h2, h3⟩ := h.yes e
  exact ⟨h1, k, h2, h3.of_block fun x hx => heap_setCells_other g x.block vs o wr (by have := (h3.block_lt x hx).1; omega)⟩, h.no⟩
end
theorem adr_ok {a : Ar} (h : a.ok) {p s l : Nat} (hp : (p : Int) < a.passes) (hs : s < 4) (hl : l < a.ln) : ¬ adrBad a p s l := by
 have hn := Ar.n h
 have e := hn.ln
 unfold adrBad
 omega
theorem blk_len : Try.prog.arrayLen 61 = 1024 := by kernel_rfl
set_option maxRecDepth 20000 in
theorem blk_slice8 (g o : Nat) (W : World) : Sem.run Try.prog (Instr.sliceAt 61 (.pointer (some ⟨g, o, none⟩)) none (some (.int .i64 8)) none) W = .ok (.slice (some ⟨g, o, none⟩) 8 1024) W := by
 have h2 := run_sliceAt_array_h (P := Try.prog) W 61 ⟨g, o, none⟩ (by kernel_rfl) .i64 8 (by omega) (by rw [blk_len]; omega)
 have h3 : (sizeOf (Try.prog.elem 61)).run Try.prog W = .ok 1 W := by rfl
 refine h2.trans ?_
 rw [h3, blk_len]
 rfl
set_option maxRecDepth 20000 in
theorem blk_sliceAll (g o : Nat) (W : World) : Sem.run Try.prog (Instr.sliceAt 61 (.pointer (some ⟨g, o, none⟩)) none none none) W = .ok (.slice (some ⟨g, o, none⟩) 1024 1024) W := by
 have h2 := run_sliceAt_array_all (P := Try.prog) W 61 ⟨g, o, none⟩ (by kernel_rfl)
 have h3 : (sizeOf (Try.prog.elem 61)).run Try.prog W = .ok 1 W := by rfl
 refine h2.trans ?_
 rw [h3, blk_len]
 rfl
set_option maxRecDepth 20000 in
set_option maxHeartbeats 8000000 in
theorem fill_any (a : Ar) (h : a.ok) (p s l : Nat) (hp : (p : Int) < a.passes) (hs : s < 4) (hl : l < a.ln) (H gm gl cap : Nat) (gs : List Nat) (g : Nat) (F : AMem) (hF : ∀ l c, (F l c).length = 1024) (w : World) (hm : Blk w gm 58 (memC a (some ⟨gl, 0, none⟩) a.ln cap)) (hpl : PLn w H a a.ln (some ⟨gl, 0, none⟩) cap gs F) (hgm : gm ∉ gs) (hg : gs[l]? = some g) :
  Calls Try.prog 31 #[.pointer (some ⟨gm, 0, none⟩), .int .i64 p, .int .i64 s, .int .i64 l] w fun r w' => r = .returned (.tuple #[]) ∧ PLn w' H a a.ln (some ⟨gl, 0, none⟩) cap gs (segM a p s l F a.sg) ∧ But [g] w w' := by
 have hN := Ar.n h
 have hC0 : 0 < a.cl := by have := hN.s2; unfold Ar.cl; omega
 have hsg := fun W => segment_any h W
 rw [hN.sg] at hsg
 have HSG := Lib.hid hsg; have HMB := Lib.hid hm; have HPL := Lib.hid hpl; have HGM := Lib.hid hgm; have HG := Lib.hid hg; have HC0 := Lib.hid hC0; have HFL := Lib.hid hF
 have hau := Lib.hid Try.underlying23
 have HB : Hid (Below w.heap.size w w) := Lib.hid (b0 w)
 have hlm := hm.lt
 have HGW := Lib.hid (hpl.lt hC0 g (List.mem_of_getElem? hg))
 obtain ⟨u, hu⟩ : ∃ u, u = w := ⟨_, rfl⟩
 have HU : Hid (u = w) := Lib.hid hu
 clear hsg hpl hgm hg hF hm
 go_enter Try.func31, Try.ntmps31
 go_upto_region 0 with fail
 go_cut [8, 9] from 20 to 28 (fun v8 v9 wx => ∃ ga, v8 = .pointer (some ⟨ga, 0, none⟩) ∧ v9 = .int .i64 (a.sg : Nat) ∧ Hid (FIn w wx H a gm gl cap gs g ga F))
 case first =>
  have HP0 := Lib.hid (fun (W : World) (hW : Below w.heap.size w W) => HPL.out.below HC0.out hW)
  rw [← hu] at HMB hlm ⊢
  have HB : Hid (Below w.heap.size w u) := (by rw [hu]; exact HB)
  clear hu HU
  refine wp_region_ords (fun w' => Blk w' gm 58 (memC a (some ⟨gl, 0, none⟩) a.ln cap)) (fun _ n h => h.drewN n) (Ords.of [(0, 0), (0, 1), (0, 2), (0, 3), (0, 4), (0, 5), (0, 6), (0, 7)] (.two 8 9 (Ords.of [(2, 9), (2, 10), (0, 11)] .fin) (Ords.of [(2, 8), (2, 10), (0, 11)] .fin))) (by kernel_rfl) rfl (by kernel_rfl) (by kernel_rfl) (fun c a d v w h => by cases d <;> exact h) HMB.out ?_
  iterate 3 (refine ords_pure rfl (fun K hK => ?_); go_simp; refine hK _ ?_; clear hK K)
  refine ords_held (v := Value.agg #[Value.int .i64 a.kind, .int .i64 a.mem, .int .i64 a.passes, .int .i64 a.lanes, .int .i64 a.tag]) rfl rfl (fun w9 hS => pure_load_mid 23 (.tmp 22) rfl gm 0 rfl _ _ (hS.range 0 5) hau.out rfl (argC_size a)) ?_; go_simp
  iterate 3 (refine ords_pure rfl (fun K hK => ?_); go_simp; refine hK _ ?_; clear hK K)
  refine ords_held (v := Value.agg #[Value.int .i64 a.kind, .int .i64 a.mem, .int .i64 a.passes, .int .i64 a.lanes, .int .i64 a.tag]) rfl rfl (fun w9 hS => pure_load_mid 23 (.tmp 26) rfl gm 0 rfl _ _ (hS.range 0 5) hau.out rfl (argC_size a)) ?_; go_simp
  refine ords_two rfl rfl (fun n1 => ?_) (fun n1 => ?_)
  focus
   replace HB := Lib.hid (bdr HB.out n1); replace HMB := Lib.hid (HMB.out.drewN n1); (try replace HZ := Lib.hid (HZ.out.drewN n1)); generalize u.drewN n1 = u at *
   go_wp2_with (go_at_call 32; refine (HSG.out _).mono ?_; rintro e3 u3 ⟨rfl, hb3⟩)
   replace HB := Lib.hid (bcall HB.out hb3); replace HMB := Lib.hid (HMB.out.below hb3 HMB.out.lt); (try replace HZ := Lib.hid (HZ.out.below hb3 HZ.out.lt))
   clear hb3
   obtain ⟨u, hu⟩ : ∃ u, u = u3 := ⟨_, rfl⟩
   subst hu
   refine ⟨HMB.out, ?_⟩
   go_simp
   refine ords_loud rfl (fun n2 => ?_)
   replace HB := Lib.hid (bdr HB.out n2); replace HMB := Lib.hid (HMB.out.drewN n2); (try replace HZ := Lib.hid (HZ.out.drewN n2)); generalize u.drewN n2 = u at *
   go_wp2_with fail
   have HZ := Lib.hid (Blk.new u 23 #[Value.int .i64 0, .int .i64 0, .int .i64 0, .int .i64 0, .int .i64 0])
   have hba := bal (b0 u) (.cells #[Value.int .i64 0, .int .i64 0, .int .i64 0, .int .i64 0, .int .i64 0] 23)
   have HGA := Lib.hid HB.out.size
   have HNG := Lib.hid (Nat.ne_of_lt HMB.out.lt)
   replace HB := Lib.hid (bcall HB.out hba); replace HMB := Lib.hid (HMB.out.below hba HMB.out.lt)
   clear hba
   obtain ⟨ga, hga⟩ : ∃ g, g = u.heap.size := ⟨_, rfl⟩
   rw [← hga] at HZ HGA HNG ⊢
   clear hga
   generalize u.alloc (.cells #[Value.int .i64 0, .int .i64 0, .int .i64 0, .int .i64 0, .int .i64 0] 23) = u at *
   refine ⟨HMB.out, ?_⟩
   go_simp
   refine ords_loud rfl (fun n3 => ?_)
   replace HB := Lib.hid (bdr HB.out n3); replace HMB := Lib.hid (HMB.out.drewN n3); (try replace HZ := Lib.hid (HZ.out.drewN n3)); generalize u.drewN n3 = u at *
   have HNE := Lib.hid (show gm ≠ ga from HNG.out)
   (refine wpList_store_row rfl 23 (.tmp 8) (.tmp 23) rfl ga #[Value.int .i64 a.kind, .int .i64 a.mem, .int .i64 a.passes, .int .i64 a.lanes, .int .i64 a.tag] rfl rfl 23 #[Value.int .i64 0, .int .i64 0, .int .i64 0, .int .i64 0, .int .i64 0] HZ.out (argC_size a) rfl (by simp [Value.oneCell']) ?_)
   replace HB := Lib.hid (brow HB.out HGA.out #[Value.int .i64 a.kind, .int .i64 a.mem, .int .i64 a.passes, .int .i64 a.lanes, .int .i64 a.tag]); replace HMB := Lib.hid (HMB.out.rowFar HNE.out #[Value.int .i64 a.kind, .int .i64 a.mem, .int .i64 a.passes, .int .i64 a.lanes, .int .i64 a.tag]); replace HZ := Lib.hid (HZ.out.row #[Value.int .i64 a.kind, .int .i64 a.mem, .int .i64 a.passes, .int .i64 a.lanes, .int .i64 a.tag])
   generalize u.setRow ga #[Value.int .i64 a.kind, .int .i64 a.mem, .int .i64 a.passes, .int .i64 a.lanes, .int .i64 a.tag] = u at *
   refine ⟨HMB.out, ?_⟩
   go_simp
   refine ords_pure rfl (fun K hK => ?_); go_simp; refine hK _ ?_; clear hK K
   refine ords_end (fun n4 => ?_)
   replace HB := Lib.hid (bdr HB.out n4); replace HMB := Lib.hid (HMB.out.drewN n4); (try replace HZ := Lib.hid (HZ.out.drewN n4)); generalize u.drewN n4 = u at *
  rotate_left 1
  focus
   replace HB := Lib.hid (bdr HB.out n1); replace HMB := Lib.hid (HMB.out.drewN n1); (try replace HZ := Lib.hid (HZ.out.drewN n1)); generalize u.drewN n1 = u at *
   go_wp2_with fail
   have HZ := Lib.hid (Blk.new u 23 #[Value.int .i64 0, .int .i64 0, .int .i64 0, .int .i64 0, .int .i64 0])
   have hba := bal (b0 u) (.cells #[Value.int .i64 0, .int .i64 0, .int .i64 0, .int .i64 0, .int .i64 0] 23)
   have HGA := Lib.hid HB.out.size
   have HNG := Lib.hid (Nat.ne_of_lt HMB.out.lt)
   replace HB := Lib.hid (bcall HB.out hba); replace HMB := Lib.hid (HMB.out.below hba HMB.out.lt)
   clear hba
   obtain ⟨ga, hga⟩ : ∃ g, g = u.heap.size := ⟨_, rfl⟩
   rw [← hga] at HZ HGA HNG ⊢
   clear hga
   generalize u.alloc (.cells #[Value.int .i64 0, .int .i64 0, .int .i64 0, .int .i64 0, .int .i64 0] 23) = u at *
   refine ⟨HMB.out, ?_⟩
   go_simp
   refine ords_loud rfl (fun n2 => ?_)
   replace HB := Lib.hid (bdr HB.out n2); replace HMB := Lib.hid (HMB.out.drewN n2); (try replace HZ := Lib.hid (HZ.out.drewN n2)); generalize u.drewN n2 = u at *
   go_wp2_with (go_at_call 32; refine (HSG.out _).mono ?_; rintro e3 u3 ⟨rfl, hb3⟩)
   replace HB := Lib.hid (bcall HB.out hb3); replace HMB := Lib.hid (HMB.out.below hb3 HMB.out.lt); (try replace HZ := Lib.hid (HZ.out.below hb3 HZ.out.lt))
   clear hb3
   obtain ⟨u, hu⟩ : ∃ u, u = u3 := ⟨_, rfl⟩
   subst hu
   refine ⟨HMB.out, ?_⟩
   go_simp
   refine ords_loud rfl (fun n3 => ?_)
   replace HB := Lib.hid (bdr HB.out n3); replace HMB := Lib.hid (HMB.out.drewN n3); (try replace HZ := Lib.hid (HZ.out.drewN n3)); generalize u.drewN n3 = u at *
   have HNE := Lib.hid (show gm ≠ ga from HNG.out)
   (refine wpList_store_row rfl 23 (.tmp 8) (.tmp 23) rfl ga #[Value.int .i64 a.kind, .int .i64 a.mem, .int .i64 a.passes, .int .i64 a.lanes, .int .i64 a.tag] rfl rfl 23 #[Value.int .i64 0, .int .i64 0, .int .i64 0, .int .i64 0, .int .i64 0] HZ.out (argC_size a) rfl (by simp [Value.oneCell']) ?_)
   replace HB := Lib.hid (brow HB.out HGA.out #[Value.int .i64 a.kind, .int .i64 a.mem, .int .i64 a.passes, .int .i64 a.lanes, .int .i64 a.tag]); replace HMB := Lib.hid (HMB.out.rowFar HNE.out #[Value.int .i64 a.kind, .int .i64 a.mem, .int .i64 a.passes, .int .i64 a.lanes, .int .i64 a.tag]); replace HZ := Lib.hid (HZ.out.row #[Value.int .i64 a.kind, .int .i64 a.mem, .int .i64 a.passes, .int .i64 a.lanes, .int .i64 a.tag])
   generalize u.setRow ga #[Value.int .i64 a.kind, .int .i64 a.mem, .int .i64 a.passes, .int .i64 a.lanes, .int .i64 a.tag] = u at *
   refine ⟨HMB.out, ?_⟩
   go_simp
   refine ords_pure rfl (fun K hK => ?_); go_simp; refine hK _ ?_; clear hK K
   refine ords_end (fun n4 => ?_)
   replace HB := Lib.hid (bdr HB.out n4); replace HMB := Lib.hid (HMB.out.drewN n4); (try replace HZ := Lib.hid (HZ.out.drewN n4)); generalize u.drewN n4 = u at *
  all_goals
   go_wp2_with fail
   go_meet
   exact ⟨ga, rfl, rfl, Lib.hid ⟨HMB.out, HP0.out u HB.out, HZ.out, HGA.out, But.of HB.out [g]⟩⟩
 case rest =>
  clear HU HB HMB hlm
  clear hu
  obtain ⟨ga, rfl, rfl, HI⟩ := hcut
  obtain ⟨u, hu⟩ : ∃ u, u = wc := ⟨_, rfl⟩
  rw [← hu] at HI ⊢
  clear hu
  have q0 : u.cell? ⟨ga, 0, none⟩ = some (.int .i64 a.kind) := HI.out.arg.cell 0
  have la := HI.out.arg.lt
  go_upto_region 2 with fail
  obtain ⟨D, hD⟩ : ∃ D, D = drawnB a p s := ⟨_, rfl⟩
  have HD := Lib.hid hD
  clear hD
  go_cut [44] from 29 to 44 (fun v wx => v = .bool D ∧ wx = u)
  case first =>
   replace HD := HD.out
   subst HD
   have tp : ((p : Int) == 0) = decide (p = 0) := by rw [Bool.eq_iff_iff]; simp
   have ts : decide ((s : Int) < 2) = decide (s < 2) := by rw [Bool.eq_iff_iff]; simp; omega
   have hD : Hid (drawnB a p s = (decide (a.kind = 1) || (decide (a.kind = 2) && decide (p = 0) && decide (s < 2)))) := Lib.hid rfl
   by_cases k1 : a.kind = 1
   ·have t1 : (a.kind == 1) = true := by simp [k1]
    go_wp2_with fail
    go_meet
    exact ⟨by rw [hD.out, decide_eq_true k1]; rfl, rfl⟩
   ·have t1 : (a.kind == 1) = false := by simp [k1]
    by_cases k2 : a.kind = 2
    ·have t2 : (a.kind == 2) = true := by simp [k2]
     by_cases k3 : p = 0
     ·have t3 : ((p : Int) == 0) = true := by simp [k3]
      go_wp2_with fail
      go_meet
      exact ⟨by rw [hD.out, decide_eq_false k1, decide_eq_true k2, decide_eq_true k3]; first | (rw [ts]; rfl) | simp, rfl⟩
     ·have t3 : ((p : Int) == 0) = false := by simp [k3]
      go_wp2_with fail
      go_meet
      exact ⟨by rw [hD.out, decide_eq_false k1, decide_eq_false k3]; simp, rfl⟩
    ·have t2 : (a.kind == 2) = false := by simp [k2]
     go_wp2_with fail
     go_meet
     exact ⟨by rw [hD.out, decide_eq_false k1, decide_eq_false k2]; rfl, rfl⟩
  case rest =>
   obtain ⟨rfl, rfl⟩ := hcut
   clear q0 la
   obtain ⟨u, hu⟩ : ∃ x, x = wc := ⟨_, rfl⟩
   rw [← hu] at HI ⊢
   clear hu
   have HNL := Lib.hid (fun (F' : AMem) (wr : World) (hI : FIn w wr H a gm gl cap gs g ga F') => (show wr.cell? ⟨gm, 5, none⟩ = some (.slice (some ⟨gl, 0, none⟩) a.ln cap) ∧ ∀ (k q : Nat), gs[k]? = some q → wr.cell? ⟨gl, k, none⟩ = some (.slice (some ⟨q, 0, none⟩) a.cl a.cl) from
    ⟨hI.mem.cell 5, fun k q hq => by
     obtain ⟨g', y, e, -, -, e2, h3, -⟩ := hI.pl.row.at_ (List.getElem?_eq_some_iff.1 hq).1
     injection e with e; injection e with e
     subst e
     rw [hq] at e2
     rw [Option.some.inj e2]
     exact h3⟩))
   have ha4 := hN.l8
   have hlni : (l : Int) < (a.ln : Int) := by omega
   have hadr := addressesP_in a h p s l (adr_ok h hp hs hl)
   have HAD := Lib.hid hadr; clear hadr
   have HLU := Lib.hid HI.out.but.size
   go_upto_if 44 with fail
   go_cut [10] from 45 to 49 (fun v wx => ∃ A n c, v = .slice A n c ∧ Hid (Drw w wx a p s l D A n c) ∧ Hid (Below u.heap.size u wx))
   case first =>
    cases D
    ·go_wp2_with fail
     go_meet
     exact ⟨none, 0, 0, rfl, Lib.hid ⟨fun e => (nomatch e), fun _ => ⟨rfl, rfl, rfl⟩⟩, Lib.hid (b0 u)⟩
    ·go_wp2_with first
      | (refine wpList_load_row rfl 23 _ rfl ga rfl 23 (argC a) (0, 0) _ HI.out.arg hau.out rfl (argC_size a) ?_)
      | (go_at_call 36; refine (HAD.out u).mono ?_; rintro e3 w3 ⟨A3, c3, rfl, ho3, hb3⟩)
     go_meet
     exact ⟨A3, _, c3, rfl, Lib.hid ⟨fun _ => ⟨rfl, _, HLU.out, ho3⟩, fun e => (nomatch e)⟩, Lib.hid hb3⟩
   case rest =>
    obtain ⟨Ad, nd, cd, rfl, HDR, HBX⟩ := hcut
    replace HI := Lib.hid (HI.out.below HC0.out HBX.out)
    clear HAD HLU HBX
    clear u
    obtain ⟨u, hu⟩ : ∃ x, x = wc := ⟨_, rfl⟩
    rw [← hu] at HI HDR ⊢
    clear hu
    obtain ⟨z5, zr⟩ := HNL.out F u HI.out
    have zl := zr l g HG.out
    have lm := HI.out.mem.lt
    have ll := (HI.out.pl.row.block_lt _ rfl).2
    clear zr
    go_upto_region 6 with fail
    clear z5 zl lm ll
    go_loopg [58] a.sg (fun k ix wr => ∃ x : Nat, x ≤ a.sg ∧ a.sg - x ≤ k ∧ ix = .int .i64 (x : Nat) ∧ FIn w wr H a gm gl cap gs g ga (segM a p s l F x) ∧ Drw w wr a p s l D Ad nd cd)
    case atStart => exact ⟨0, Nat.zero_le _, by omega, rfl, HI.out, HDR.out⟩
    case round =>
     clear HI HDR
     clear u
     obtain ⟨x, hx, hxk, rfl, hI, hD2⟩ := hrel
     have HI := Lib.hid hI; have HDR := Lib.hid hD2
     clear hI hD2
     by_cases hlt : x < a.sg
     ·obtain ⟨Fx, hFx⟩ : ∃ Fx, Fx = segM a p s l F x := ⟨_, rfl⟩
      have hSx : segM a p s l F (x + 1) = stepM a p s l x Fx := by rw [hFx]; rfl
      have hFl : ∀ l c, (Fx l c).length = 1024 := by rw [hFx]; exact segM_len a p s l F HFL.out x
      rw [← hFx] at HI
      have HSX := Lib.hid hSx; have HFX := Lib.hid hFl
      clear hSx hFl hFx
      have d1 : decide ((x : Int) < (a.sg : Int)) = true := by simp; omega
      obtain ⟨m, c, ac, N⟩ := fnum h hs hlt
      have hmw := N.mw; have hcw := N.cw; have hcl := N.cl; have hal := N.al; have hc4 := N.c4; have hm4 := N.m4
      have hat := N.at_
      have HN := Lib.hid N; have HLT := Lib.hid (show x < a.seg.toNat from hlt)
      clear N
      go_upto_region 9 with fail
      obtain ⟨E, hE⟩ : ∃ E, E = (decide (p = 0) && decide (c < 2)) := ⟨_, rfl⟩
      have HE := Lib.hid hE
      clear hE
      obtain ⟨u, hu⟩ : ∃ x, x = wr := ⟨_, rfl⟩
      rw [← hu] at HI HDR ⊢
      clear hu
      go_cut [71] from 59 to 150 (fun v wx => v = .bool E ∧ wx = u)
      case first =>
       replace HE := HE.out
       subst HE
       have hD : Hid ((decide (p = 0) && decide (c < 2)) = (decide (p = 0) && decide (c < 2))) := Lib.hid rfl
       have tc : decide ((c : Int) < 2) = decide (c < 2) := by rw [Bool.eq_iff_iff]; simp; omega
       by_cases k3 : p = 0
       ·have t3 : ((p : Int) == 0) = true := by simp [k3]
        have K3 := Lib.hid k3
        clear k3
        go_wp2_with fail
        go_meet
        exact ⟨by rw [decide_eq_true K3.out]; first | (rw [tc]; rfl) | simp, rfl⟩
       ·have t3 : ((p : Int) == 0) = false := by simp [k3]
        have K3 := Lib.hid k3
        clear k3
        go_wp2_with fail
        go_meet
        exact ⟨by rw [decide_eq_false K3.out]; rfl, rfl⟩
      case rest =>
       obtain ⟨rfl, rfl⟩ := hcut
       obtain ⟨u, hu⟩ : ∃ x, x = wc := ⟨_, rfl⟩
       rw [← hu] at HI HDR ⊢
       clear hu
       have hss : s = 0 → c = x := fun e => by have := HN.out.c_; rw [e] at this; omega
       have hs1 : s ≠ 0 → 2 ≤ c := fun e => by have h1 := HN.out.c_; have h2 := hN.s2; have h3 : 1 * a.sg ≤ s * a.sg := Nat.mul_le_mul_right _ (by omega); omega
       cases E
       ·have hsp : SpotOk a p s l x := ⟨h, hp, hs, hl, hlt, fun ⟨e1, e2, e3⟩ => by
         have h1 := HE.out
         rw [decide_eq_true e1, decide_eq_true (show c < 2 by have := hss e2; omega)] at h1
         cases h1⟩
        have HSP := Lib.hid hsp
        clear hsp hss hs1
        have hali : (ac : Int) < (a.cl : Int) := by omega
        have hcli : (c : Int) < (a.cl : Int) := by omega
        have hs8 := fun o W => blk_slice8 g o W
        have hrd := (HI.out.pl.lane l g HG.out).reads HC0.out HN.out.al
        have hl8 := load64_any (some ⟨g, ac * 1024, none⟩) 1024 8 0 u.heap.size ((Fx l ac).take 8) u (by rw [List.length_take, HFX.out]; rfl) (by omega) (hrd.take 8) (by omega)
        rw [show (((Fx l ac).take 8).drop 0).take 8 = (Fx l ac).take 8 by rw [List.drop_zero, List.take_take, Nat.min_self]] at hl8
        have HL8 := Lib.hid hl8
        clear hl8 hrd
        go_upto_region 12 with first
         | (go_at_call 37; refine HL8.out.mono ?_; rintro e3 w3 ⟨rfl, rfl⟩)
        clear HL8 hs8
        obtain ⟨j, hj⟩ : ∃ j, j = jOf a p s l x (Fx l (aheadC a s x)) := ⟨_, rfl⟩
        have HJ := Lib.hid hj
        clear hj
        go_cut [90] from 59 to 150 (fun v wx => v = .bool D ∧ wx = u)
        case first =>
         cases D
         ·obtain ⟨rfl, rfl, rfl⟩ := HDR.out.no rfl
          go_wp2_with fail
          go_meet
          exact ⟨rfl, rfl⟩
         ·obtain ⟨rfl, hb, -, ho⟩ := HDR.out.yes rfl
          obtain ⟨gd, y, rfl, -⟩ := ho.at_ (k := x) (by rw [adrs_len]; exact HLT.out)
          clear ho hb
          go_wp2_with fail
          go_meet
          exact ⟨rfl, rfl⟩
        case rest =>
        obtain ⟨rfl, rfl⟩ := hcut
        obtain ⟨u, hu⟩ : ∃ x, x = wc := ⟨_, rfl⟩
        rw [← hu] at HI HDR ⊢
        clear hu
        go_upto_if 90 with fail
        go_cut [15] from 59 to 150 (fun v wx => v = .int .u64 (wrd j) ∧ wx = u)
        case first =>
         have hj := HJ.out
         subst hj
         cases D
         ·obtain ⟨rfl, rfl, rfl⟩ := HDR.out.no rfl
          go_wp2_with fail
          go_meet
          exact ⟨by unfold jOf; rw [← HD.out, HN.out.ac_]; rfl, rfl⟩
         ·obtain ⟨rfl, hb, -, ho⟩ := HDR.out.yes rfl
          have hsi := HLT.out
          obtain ⟨gd, y, rfl, -, ld, e2, zd, -⟩ := ho.at_ (k := x) (by rw [adrs_len]; exact hsi)
          rw [adrs_at a p s l x hsi] at e2
          obtain rfl := Option.some.inj e2
          clear ho e2 hb hsi
          go_wp2_with fail
          go_meet
          exact ⟨by unfold jOf; rw [← HD.out]; rfl, rfl⟩
        case rest =>
        obtain ⟨rfl, rfl⟩ := hcut
        obtain ⟨u, hu⟩ : ∃ x, x = wc := ⟨_, rfl⟩
        rw [← hu] at HI HDR ⊢
        clear hu
        go_upto_region 14 with fail
        have R1 := HSP.out.ref j
        have hrf := fun W => refer_any h (p := p) (s := s) (l := l) (x := x) j HSP.out.bad W
        obtain ⟨rl, hrl⟩ : ∃ n, n = (refL a p s l j).toNat := ⟨_, rfl⟩
        obtain ⟨rc, hrc⟩ : ∃ n, n = (refZ a p s l x j).toNat := ⟨_, rfl⟩
        rw [← hrl, ← hrc] at R1
        simp only [R1.l_, R1.z_] at hrf
        have hnw : newB a p s l x Fx = if p = 0 then mixB (Fx l ac) (Fx rl rc) else xorB (mixB (Fx l ac) (Fx rl rc)) (Fx l c) := by
         unfold newB aRef
         dsimp only
         rw [← HJ.out, ← hrl, ← hrc, ← HN.out.ac_, ← HN.out.c_]
        have HNW := Lib.hid hnw; have HRF := Lib.hid hrf
        have hrll := R1.ll; have hrcc := R1.cc
        have HN0 := Lib.hid HSP.out.n0
        clear hnw hrf R1 hrl hrc HJ HSP
        obtain ⟨gr, hgr⟩ : ∃ q, gs[rl]? = some q := ⟨_, List.getElem?_eq_getElem (by rw [HI.out.pl.len]; exact hrll)⟩
        have HGR := Lib.hid hgr
        clear hgr
        have hrli : (rl : Int) < (a.ln : Int) := by omega
        have hrci : (rc : Int) < (a.cl : Int) := by omega
        go_upto_if 106 with first
         | (refine wpList_load_row rfl 23 _ rfl ga rfl 23 (argC a) (0, 0) _ HI.out.arg hau.out rfl (argC_size a) ?_)
         | (go_at_call 38; refine (HRF.out u).mono ?_; rintro e3 w3 ⟨rfl, hb3⟩)
        replace HI := Lib.hid (HI.out.below HC0.out hb3)
        replace HDR := Lib.hid (HDR.out.below hb3)
        clear HRF hb3
        clear u
        obtain ⟨u, hu⟩ : ∃ x, x = w3 := ⟨_, rfl⟩
        rw [← hu] at HI HDR ⊢
        clear hu
        go_cut [19] from 59 to 150 (fun v wx => ∃ A3 c3, v = .slice A3 1024 c3 ∧ Hid (OS cB wx u.heap.size A3 c3 (newB a p s l x Fx)) ∧ Hid (Below u.heap.size u wx))
        case first =>
         have hsA := fun o b W => blk_sliceAll b o W
         by_cases k3 : p = 0
         ·have t3 : ((p : Int) == 0) = true := by simp [k3]
          have K3 := Lib.hid k3
          clear k3
          go_upto_region 17 with fail
          obtain ⟨z5, zr⟩ := HNL.out Fx u HI.out
          have zl := zr rl gr HGR.out
          have lm := HI.out.mem.lt
          have ll := (HI.out.pl.row.block_lt _ rfl).2
          clear zr
          refine wp_region_ords (fun w' => FIn w w' H a gm gl cap gs g ga Fx) (fun _ n h => h.drewN HC0.out n) (Ords.of [(0, 0), (0, 1), (0, 2), (0, 3), (0, 4), (0, 5), (0, 6), (0, 7), (0, 8), (0, 9), (0, 10), (0, 11), (0, 12), (2, 13), (0, 14), (0, 15), (0, 16), (0, 17)] .fin) (by kernel_rfl) rfl (by kernel_rfl) (by kernel_rfl) (fun c a d v w h => by cases d <;> exact h) HI.out ?_
          iterate 6 (refine ords_pure rfl (fun K hK => ?_); go_simp; refine hK _ ?_; clear hK K)
          iterate 2 (refine ords_heldK rfl (fun K K2 hK hK2 => ?_); go_simp; refine ⟨hK2 _ (fun w9 hS => ?_), hK _ ?_⟩; (clear hK hK2 K K2; clear z5 zl lm ll; obtain ⟨z5, zr⟩ := HNL.out Fx w9 hS; have zl := zr rl gr HGR.out; have lm := hS.mem.lt; have ll := (hS.pl.row.block_lt _ rfl).2; clear zr hS; go_simp); (clear hK hK2 K K2); refine ords_pure rfl (fun K hK => ?_); go_simp; refine hK _ ?_; clear hK K; refine ords_pure rfl (fun K hK => ?_); go_simp; refine hK _ ?_; clear hK K)
          refine ords_pure rfl (fun K hK => ?_); go_simp; refine hK _ ?_; clear hK K
          refine ords_loud rfl (fun n1 => ?_)
          clear z5 zl lm ll
          replace HI := Lib.hid (HI.out.drewN HC0.out n1)
          have HB := Lib.hid (bdr (b0 u) n1); have HLE := Lib.hid (bdr (b0 u) n1).size
          generalize u.drewN n1 = u1 at *
          have hmx := mixP_yes (some ⟨g, ac * 1024, none⟩) (some ⟨gr, rc * 1024, none⟩) 1024 1024 (Fx l ac) (Fx rl rc) u1 (HFX.out _ _) (HFX.out _ _) ((HI.out.pl.lane l g HG.out).reads HC0.out HN.out.al) ((HI.out.pl.lane rl gr HGR.out).reads HC0.out hrcc)
          have HMX := Lib.hid hmx; clear hmx
          go_wp2_with (go_at_call 39; refine HMX.out.mono ?_; rintro e3 w3 ⟨A3, c3, rfl, ho3, hb3⟩)
          have HO3 := Lib.hid ho3; have HB3 := Lib.hid hb3
          clear ho3 hb3 HMX
          refine ⟨HI.out.below HC0.out HB3.out, ?_⟩
          go_simp
          iterate 4 (refine ords_pure rfl (fun K hK => ?_); go_simp; refine hK _ ?_; clear hK K)
          refine ords_end (fun n2 => ?_)
          replace HB := Lib.hid (bdr (bcall HB.out HB3.out) n2)
          replace HO3 := Lib.hid (HO3.out.drewN n2)
          go_wp2_with fail
          go_meet
          exact ⟨A3, c3, rfl, Lib.hid (by rw [HNW.out, if_pos K3.out]; exact HO3.out.mono HLE.out), Lib.hid HB.out⟩
         ·have t3 : ((p : Int) == 0) = false := by simp [k3]
          have K3 := Lib.hid k3
          clear k3
          go_upto_region 18 with fail
          obtain ⟨z5, zr⟩ := HNL.out Fx u HI.out
          have zl := zr rl gr HGR.out
          have lm := HI.out.mem.lt
          have ll := (HI.out.pl.row.block_lt _ rfl).2
          clear zr
          refine wp_region_ords (fun w' => FIn w w' H a gm gl cap gs g ga Fx) (fun _ n h => h.drewN HC0.out n) (Ords.of [(0, 0), (0, 1), (0, 2), (0, 3), (0, 4), (0, 5), (0, 6), (0, 7), (0, 8), (0, 9), (0, 10), (0, 11), (0, 12), (0, 13), (0, 14), (0, 15), (0, 16), (2, 17), (0, 18), (0, 19), (0, 20), (0, 21)] .fin) (by kernel_rfl) rfl (by kernel_rfl) (by kernel_rfl) (fun c a d v w h => by cases d <;> exact h) HI.out ?_
          iterate 6 (refine ords_pure rfl (fun K hK => ?_); go_simp; refine hK _ ?_; clear hK K)
          iterate 2 (refine ords_heldK rfl (fun K K2 hK hK2 => ?_); go_simp; refine ⟨hK2 _ (fun w9 hS => ?_), hK _ ?_⟩; (clear hK hK2 K K2; clear z5 zl lm ll; obtain ⟨z5, zr⟩ := HNL.out Fx w9 hS; have zl := zr rl gr HGR.out; have lm := hS.mem.lt; have ll := (hS.pl.row.block_lt _ rfl).2; clear zr hS; go_simp); (clear hK hK2 K K2); refine ords_pure rfl (fun K hK => ?_); go_simp; refine hK _ ?_; clear hK K; refine ords_pure rfl (fun K hK => ?_); go_simp; refine hK _ ?_; clear hK K)
          iterate 5 (refine ords_pure rfl (fun K hK => ?_); go_simp; refine hK _ ?_; clear hK K)
          refine ords_loud rfl (fun n1 => ?_)
          clear z5 zl lm ll
          replace HI := Lib.hid (HI.out.drewN HC0.out n1)
          have HB := Lib.hid (bdr (b0 u) n1); have HLE := Lib.hid (bdr (b0 u) n1).size
          generalize u.drewN n1 = u1 at *
          have hmx := overP_yes (some ⟨g, ac * 1024, none⟩) (some ⟨gr, rc * 1024, none⟩) (some ⟨g, c * 1024, none⟩) 1024 1024 1024 (Fx l ac) (Fx rl rc) (Fx l c) u1 (HFX.out _ _) (HFX.out _ _) (HFX.out _ _) ((HI.out.pl.lane l g HG.out).reads HC0.out HN.out.al) ((HI.out.pl.lane rl gr HGR.out).reads HC0.out hrcc) ((HI.out.pl.lane l g HG.out).reads HC0.out HN.out.cl)
          have HMX := Lib.hid hmx; clear hmx
          go_wp2_with (go_at_call 40; refine HMX.out.mono ?_; rintro e3 w3 ⟨A3, c3, rfl, ho3, hb3⟩)
          have HO3 := Lib.hid ho3; have HB3 := Lib.hid hb3
          clear ho3 hb3 HMX
          refine ⟨HI.out.below HC0.out HB3.out, ?_⟩
          go_simp
          iterate 4 (refine ords_pure rfl (fun K hK => ?_); go_simp; refine hK _ ?_; clear hK K)
          refine ords_end (fun n2 => ?_)
          replace HB := Lib.hid (bdr (bcall HB.out HB3.out) n2)
          replace HO3 := Lib.hid (HO3.out.drewN n2)
          go_wp2_with fail
          go_meet
          exact ⟨A3, c3, rfl, Lib.hid (by rw [HNW.out, if_neg K3.out]; exact HO3.out.mono HLE.out), Lib.hid HB.out⟩
        case rest =>
        obtain ⟨A3, c3, rfl, HO3, HB3⟩ := hcut
        have hfl : (newB a p s l x Fx).length = 1024 := newB_len a p s l x Fx HFX.out
        obtain ⟨fb, hfb⟩ : ∃ fb, fb = newB a p s l x Fx := ⟨_, rfl⟩
        rw [← hfb] at HO3 hfl
        obtain ⟨g5, hA5⟩ : ∃ g5, A3 = some ⟨g5, 0, none⟩ := by
         rcases HO3.out.form with ⟨_, _, h0⟩ | ⟨g, h, _⟩
         ·rw [h0] at hfl; cases hfl
         ·exact ⟨g, h⟩
        subst hA5
        have hra : wc.rangeAt g5 0 (bcs fb) := fun i v hv => by
         obtain ⟨ad, e, -, hc⟩ := HO3.out.reads.2 (by rw [hfl]; decide)
         injection e with e
         subst e
         have h1 := hc i v hv
         rw [Addr.add_mid] at h1
         exact h1
        have HRA := Lib.hid hra; have HFL2 := Lib.hid hfl; have HFB := Lib.hid hfb
        clear hra hfl hfb
        replace HI := Lib.hid (HI.out.below HC0.out HB3.out)
        replace HDR := Lib.hid (HDR.out.below HB3.out)
        clear HB3 HO3
        clear u
        have hbu := Lib.hid Try.underlying61
        have har : ∀ (g c : Nat) (W : World), (Instr.arrayAt 61 (.slice (some ⟨g, 0, none⟩) 1024 c)).run Try.prog W = .ok (.pointer (some ⟨g, 0, none⟩)) W := fun g c W => run_arrayAt (P := Try.prog) W _ _ 1024 _ _ _ Try.underlying61 (Nat.le_refl _)
        have hth : wc.there g (c * 1024) (bcs fb).toArray.size := by rw [List.size_toArray, bcs_len, HFL2.out]; exact (HI.out.pl.lane l g HG.out).thereC HN.out.cl
        have HTH := Lib.hid hth
        clear hth
        go_wp2_with first
         | (refine wpList_load_mid rfl 61 (.tmp 148) rfl g5 0 rfl (bcs fb) _ HRA.out hbu.out rfl (bcs_size HFL2.out) ?_)
         | (refine wpList_store_mid rfl 61 (.tmp 150) (.tmp 149) rfl g (c * 1024) (bcs fb).toArray rfl rfl HTH.out (bcs_sizeA HFL2.out) (all_oneCell_toArray (bcs_ones fb)) ?_)
        have hput := HI.out.put HFX.out HG.out HGW.out HGM.out HN.out.cl HFL2.out
        have hst : stepM a p s l x Fx = putM Fx l c fb := by unfold stepM; rw [if_neg HN0.out, ← HN.out.c_, ← HFB.out]
        go_roundg (a.sg - (x + 1))
        case measure => omega
        case rel => exact ⟨x + 1, hlt, Nat.le_refl _, numF x, by rw [HSX.out, hst]; exact hput, HDR.out.put HGW.out⟩
       ·have hk : p = 0 ∧ s = 0 ∧ x < 2 := by
         have h1 := HE.out.symm
         simp only [Bool.and_eq_true, decide_eq_true_eq] at h1
         obtain ⟨h1, h2⟩ := h1
         by_cases e : s = 0
         ·exact ⟨h1, e, by have := hss e; omega⟩
         ·have := hs1 e; omega
        have hst : stepM a p s l x Fx = Fx := by unfold stepM; rw [if_pos hk]
        go_wp2_with fail
        go_roundg (a.sg - (x + 1))
        case measure => omega
        case rel => exact ⟨x + 1, hlt, Nat.le_refl _, numF x, by rw [HSX.out, hst]; exact HI.out, HDR.out⟩
     ·obtain rfl : x = a.sg := by omega
      have d1 : decide ((a.sg : Int) < (a.sg : Int)) = false := by simp
      go_wp2_with fail
      exact bodyPost_end (v := .tuple #[]) (by simp [results, show Try.func31.results = #[] from rfl]) rfl ⟨rfl, HI.out.pl, HI.out.but⟩
end Go.Proofs.Ytbghkdhkahkfnaa

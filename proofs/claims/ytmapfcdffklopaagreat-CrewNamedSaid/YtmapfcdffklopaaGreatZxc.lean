/-
  Scripts that several proofs share, each the default argument of a lemma; no statement is claimed here.
-/
import Derived.BigQuiet
import Derived.ChangeMaps5
import Derived.Deep.AppendLies
import Derived.Deep.CondSized
import Derived.Deep.CutRange
import Derived.Deep.Draws
import Derived.Deep.MidRow
import Derived.Deep.OwnRows
import Derived.Deep.QuietTactic
import Derived.Deep.RegionLaw
import Derived.Deep.Slices
import Derived.Great.BuildSlice
import Derived.JoinedCond
import Derived.Laws.CopyOwn
import Derived.Laws.DeepNot64
import Derived.Laws.EntriesVeiled
import Derived.Laws.Externs
import Derived.Laws.IdiomStrings
import Derived.Laws.OwnMore
import Derived.Laws.Rows
import Derived.Lib.BufferRead
import Derived.Lib.Hide
import Derived.Maps.AppendAt
import Derived.OpenShut
import Derived.OrdersHeld
import Derived.Outline
import Derived.ProofKit
import Derived.SizedLaws
import Derived.WalkKit
import Derived.WalkLawsBesides
import Derived.WalkSpells
import Derived.WideShapes
import Derived.Test.YtmapfcdffklopaaGreatZx
set_option maxRecDepth 1000000
namespace Go.Proofs.YtmapfcdffklopaaGreat
theorem zS31 {P : Prop} (h : P := by
 first
  |(guard_expr zA=zA
    go_wp2_with (first | (refine aZH rfl 97 _ rfl g6 rfl 97 (wcs S.words) (0, 0) _ (N6.drewN _) hu16.out rfl sS.out ?_) | (refine aZH rfl 97 _ rfl g6 rfl 97 (wcs S.words) (0, 0) _ (M6.drewN _) hu16.out rfl sS.out ?_));refine ⟨by first | exact HQ.drewN _ | exact MQ.drewN _, ?_⟩;refine ords_loud rfl (fun n2 => ?_))
  |(skip)
 go_wp2_with (go_at_call 78; refine (HCUT _ (((HMS.below N4).more N4.size).drewN _)).mono ?_; rintro e4 w4 ⟨A4, c4, rfl, ho4, hb4⟩);have HO4 := zH ho4; have M2 := zH ((N2.drewN _).below hb4 (N2.drewN _).lt); have M6 := zH ((N6.drewN _).below hb4 (N6.drewN _).lt); have M4 := zH (bcall (bdr N4 _) hb4); have MQ := zH ((HQ.drewN _).below hb4 (HQ.drewN _).lt); clear ho4 hb4;refine ⟨MQ.out, ?_⟩
 first
  |(guard_expr zA=zA)
  |(refine ords_loud rfl (fun n2 => ?_)
    go_wp2_with (first | (refine aZH rfl 97 _ rfl g6 rfl 97 (wcs S.words) (0, 0) _ (N6.drewN _) hu16.out rfl sS.out ?_) | (refine aZH rfl 97 _ rfl g6 rfl 97 (wcs S.words) (0, 0) _ (M6.drewN _) hu16.out rfl sS.out ?_));refine ⟨by first | exact HQ.drewN _ | exact MQ.drewN _, ?_⟩)
 refine ords_loud rfl (fun n3 => ?_);go_wp2_with (go_at_call 77; refine (HIN' A4 c4 _ (HO4.reads.drewN _)).mono ?_; rintro e5 w5 ⟨rfl, hb5⟩);have K2 := zH ((M2.drewN _).below hb5 (M2.drewN _).lt); have K6 := zH ((M6.drewN _).below hb5 (M6.drewN _).lt); have K4 := zH (bcall (bdr M4 _) hb5); have KQ := zH ((MQ.drewN _).below hb5 (MQ.drewN _).lt); clear hb5;refine ⟨KQ.out, ?_⟩;refine ords_loud rfl (fun n4 => ?_);go_wp2_with (refine aZE rfl 97 _ _ rfl g6 (wcs S'.words) rfl rfl 97 _ (K6.drewN _) sS'.out hoS.out aS'.out ?_);refine ⟨(KQ.drewN _).rowFar (by omega) _, ?_⟩;refine ords_end (fun n5 => ?_);go_wp2_with fail;go_roundw
 case rel => exact ⟨j + 1, a', S', lo', hi', HST.out, by have h1 := HA.out; have h2 := HA'.out; rw [Nat.succ_mul]; omega, by omega, .inr hlt, rfl, rfl, rfl, ((K2.drewN _).rowFar (by omega) _).drewN _, ((K6.drewN _).row _).drewN _, bdr (brow (bdr K4.out _) hwg6.out _) _⟩
 case measure => have := HA'.out; simp [intOf]; omega
 ) : P := h
theorem zS32 {P : Prop} (h : P := by
 have hnd := hh.hs.nds;have hH : H <= wr.heap.size := Nat.le_trans hh.hs.low (Nat.le_of_lt hh.hs.blk.lt);have sub : ∀ x, x ∈ F i -> x ∈ hsB h (lnOf P.big) F0 \/ w.heap.size <= x := fun x hx => by
  rcases hh.fin i hi x hx with h1 | h1
  ·exact .inl (mem_hsB.2 (.inr ⟨i, hi, h1⟩))
  ·exact .inr h1
 have old : ∀ j, j < lnOf P.big -> ∀ x, x ∈ F j -> x < wr.heap.size := fun j hj x hx => by obtain ⟨q, s, -, h2⟩ := hnd.node j hj; exact h2.lt x hx
 first
  |(guard_expr zA=zA)
  |(have oldR : ∀ j, j < lnOf P.big -> ∀ x, x ∈ R j -> x < wr.heap.size := fun j hj x hx => by obtain ⟨q, s, -, h2⟩ := hnd.node j hj; exact h2.ltR x hx)
 have nin : ∀ {x : Nat}, x < wr.heap.size -> x ∉ F i -> x ∉ G := fun h1 h2 h3 => by
  rcases hG _ h3 with h4 | h4
  ·exact h2 h4
  ·omega
 first
  |(guard_expr zA=zA;refine ⟨⟨hh.hs.blk.but hb (hh.hs.fh i hi), ⟨hnd.row.but hb (hnd.fa i hi), hnd.len, fun j hj => ?_, fun j hj x hx => ?_, fun j l hj hl hjl x hx hx2 => ?_, fun j hj x hx => ?_⟩, fun j hj => ?_, hh.hs.ah, hh.hs.low, hh.hs.set_.below (hb.toBelow hH (fun x hx => hnd.low i hi x hx))⟩, hh.le, hh.fit, hh.cr_, ?_, hh.bl, fun j hj x hx => ?_, ?_⟩)
  |(refine ⟨⟨hh.hs.blk.but hb (hh.hs.fh i hi).1, ⟨hnd.row.but hb (fun x hx => (hnd.fa i hi x hx).1), hnd.len, fun j hj => ?_, fun j hj x hx => ?_, fun j l hj hl hjl x hx hx2 => ?_, fun j l hj hl x hx hx2 => ?_, hnd.rr, fun j hj x hx => ⟨?_, (hnd.fa j hj x hx).2⟩⟩, fun j hj => ⟨?_, (hh.hs.fh j hj).2⟩, hh.hs.ah, hh.hs.low, hh.hs.set_.below (hb.toBelow hH (fun x hx => hnd.low i hi x (.inl hx)))⟩, hh.le, hh.fit, hh.cr_, ?_, hh.bl, fun j hj x hx => ?_, ?_⟩)
 ·first
   |(guard_expr zA=zA;show ∃ q s, _ /\ Nd _ _ _ _ _ _ _ _ (if j = i then e' else e j) (if j = i then G else F j))
   |(show ∃ q s, _ /\ NdS _ _ _ _ _ _ _ _ (if j = i then e' else e j) _ (if j = i then G else F j))
  by_cases e1 : j = i
  ·subst e1; rw [if_pos rfl, if_pos rfl]; exact ⟨p, r, hp, hN⟩
  ·rw [if_neg e1, if_neg e1]
   obtain ⟨q, s, h1, h2⟩ := hnd.node j hj
   first
    |(guard_expr zA=zA;exact ⟨q, s, h1, h2.but hb (fun x hx => hnd.far j i hj hi e1 x hx)⟩)
    |(exact ⟨q, s, h1, h2.but hb (fun x hx => hnd.rf j i hj hi x hx) (fun x hx => hnd.far j i hj hi e1 x hx)⟩)
 ·first
   |(guard_expr zA=zA;change x ∈ (if j = i then G else F j) at hx)
   |(change x ∈ (if j = i then G else F j) \/ _ at hx)
  by_cases e1 : j = i
  ·rw [if_pos e1] at hx
   first
    |(guard_expr zA=zA;rcases hG x hx with h1 | h1)
    |(rcases hx with hx | hx)
   ·first
     |(guard_expr zA=zA;exact hnd.low i hi x h1)
     |(rcases hG x hx with h1 | h1
       ·exact hnd.low i hi x (.inl h1)
       ·omega)
   ·first
     |(guard_expr zA=zA;omega)
     |(exact hnd.low j hj x (.inr hx))
  ·rw [if_neg e1] at hx; exact hnd.low j hj x hx
 ·change x ∈ (if j = i then G else F j) at hx
  change x ∈ (if l = i then G else F l) at hx2
  by_cases e1 : j = i
  ·rw [if_pos e1] at hx
   rw [if_neg (by omega)] at hx2;exact nin (old l hl x hx2) (hnd.far l i hl hi (by omega) x hx2) hx
  ·rw [if_neg e1] at hx
   by_cases e2 : l = i
   ·rw [if_pos e2] at hx2
    exact nin (old j hj x hx) (hnd.far j i hj hi e1 x hx) hx2
   ·rw [if_neg e2] at hx2
    exact hnd.far j l hj hl hjl x hx hx2
 first
  |(guard_expr zA=zA)
  |(·change x ∈ (if l = i then G else F l) at hx2
     by_cases e2 : l = i
     ·rw [if_pos e2] at hx2
      exact nin (oldR j hj x hx) (hnd.rf j i hj hi x hx) hx2
     ·rw [if_neg e2] at hx2
      exact hnd.rf j l hj hl x hx hx2)
 ·show x.block ∉ (if j = i then G else F j)
  by_cases e1 : j = i
  ·first
    |(guard_expr zA=zA;rw [if_pos e1]; exact nin (hnd.row.block_lt x hx).2 (hnd.fa i hi x hx))
    |(rw [if_pos e1]; exact nin (hnd.row.block_lt x hx).2 (hnd.fa i hi x hx).1)
  ·first
    |(guard_expr zA=zA;rw [if_neg e1]; exact hnd.fa j hj x hx)
    |(rw [if_neg e1]; exact (hnd.fa j hj x hx).1)
 ·show h ∉ (if j = i then G else F j)
  by_cases e1 : j = i
  ·first
    |(guard_expr zA=zA;rw [if_pos e1]; exact nin hh.hs.blk.lt (hh.hs.fh i hi))
    |(rw [if_pos e1]; exact nin hh.hs.blk.lt (hh.hs.fh i hi).1)
  ·first
    |(guard_expr zA=zA;rw [if_neg e1]; exact hh.hs.fh j hj)
    |(rw [if_neg e1]; exact (hh.hs.fh j hj).1)
 ·exact hh.rs.but hh.but.size hb (fun x hx => (hh.at_ hf hlt x hx).2 i hi)
 ·change x ∈ (if j = i then G else F j) at hx
  by_cases e1 : j = i
  ·rw [if_pos e1] at hx
   subst e1;rcases hG x hx with h1 | h1
   ·exact hh.fin j hj x h1
   ·exact .inr (Nat.le_trans hh.but.size h1)
  ·rw [if_neg e1] at hx; exact hh.fin j hj x hx
 ·exact hh.but.trans hb sub
 ) : P := h
theorem zS33 {P : Prop} (h : P := by
 first
  |(guard_expr zA=zA
    rw [Nat.min_eq_left (Nat.le_of_lt hlf)] at hh;have t5 : (L < f) = True := by simp [hlf])
  |(rw [Nat.min_eq_right (by omega)] at hh
    have t5 : (L < f) = False := by simp [hlf])
 have HVA := zH hva; have HFU := zH hfu; have HTO := zH hto; have HCO := zH hco; have HH := zH hh; have HRS := zH hrs; have HRP := zH hrp; have HRR := zH hrr;clear hva hfu hto hco hh hv ho hT hC hT2 hC2 hs4 ht4 hb hb0 hr hrr hrs hrp hls hlp hl hlt hr2 hq hL hqi hli;go_enter Tryz.func69, Tryz.ntmps69;go_wp2_with (first
  | (go_at_call 19; refine (HVA _).mono ?_; rintro e1 w1 ⟨rfl, hb1⟩; have HB1 := zH hb1; clear hb1)
  | (go_at_call 41; refine (HFU _).mono ?_; rintro e2 w2 ⟨rfl, rfl⟩)
  | (go_at_call 30; refine (HTO _).mono ?_; rintro e3 w3 ⟨rfl, rfl⟩)
  | (go_at_call 63; refine (HCO _).mono ?_; rintro e4 w4 ⟨rfl, rfl⟩)
  | (go_at_call 34; refine (HH.out _ ((((HRS.below HB1.out).more HB1.size).alloc (aZC _) _).more (by simp)) ((((HRP.below HB1.out).more HB1.size).alloc (aZC _) _).more (by simp)) ((((HRR.below HB1.out).more HB1.size).alloc (aZC _) _).more (by simp))).mono ?_; rintro e5 w5 ⟨A5, n5, c5, cc5, rfl, hl5, hcc5, ho5, hb5⟩; have HL5 := zH hl5; have HC5 := zH hcc5; have HO5 := zH (ho5.mono (show w.heap.size <= _ from (bal HB1.out _).size)); have HB5 := zH (bcall (bal HB1.out _) hb5); clear hl5 hcc5 ho5 hb5))
 exact aZB (aZG rfl _ _ _) rfl ⟨A5, n5, c5, cc5, rfl, HL5.out, HC5.out, HO5.out, HB5.out⟩
 ) : P := h
theorem zS34 {P : Prop} (h : P := by
 have hbg := fun (W : World) (hr : RS cB W W.heap.size Ax x) => begun_any big Ax cx W.heap.size nx x W hnx hx (aZC _) hr
 first
  |(guard_expr zA=zA)
  |(have hbo := fun (W : World) => blockOf_any big W
    have hbm : 2 * bOf big <= 128 := by cases big <;> decide
    have hpd := fun (W : World) (hr : RS cB W W.heap.size Ak key) => padded_any Ak ck (2 * bOf big) nk key W hk hkm (by omega) hr
    have hpl := padTo_len key (2 * bOf big) (by omega))
 have c0 : w.cell? ⟨p, 0, none⟩ = some (.int .i64 (kOf big)) := hb.cell 0;have c2 : w.cell? ⟨p, 2, none⟩ = some (.slice Ax nx cx) := hb.cell 2
 first
  |(guard_expr zA=zA;have c3 : w.cell? ⟨p, 3, none⟩ = some (.slice Ak (0 : Nat) ck) := hb.cell 3)
  |(have c3 : w.cell? ⟨p, 3, none⟩ = some (.slice Ak nk ck) := hb.cell 3)
 have c4 : w.cell? ⟨p, 4, none⟩ = some (.bool l0) := hb.cell 4;have c5 : w.cell? ⟨p, 5, none⟩ = some (.int .u64 (wrd wr0)) := hb.cell 5;have c6 : w.cell? ⟨p, 6, none⟩ = some ev := hb.cell 6;have hz := hb.frozen;have hlt := hb.lt
 first
  |(guard_expr zA=zA;have HBG := zH hbg; have HB := zH hb; have HOX := zH hox; have HOK := zH hok; have HX := zH hx; have HNX := zH hnx; clear hbg hb hox hok hx hnx)
  |(generalize padTo key (2 * bOf big) = pk at *
    generalize 2 * bOf big = m at *;have HBG := zH hbg; have HB := zH hb; have HOX := zH hox; have HOK := zH hok; have HX := zH hx; have HNX := zH hnx; have HKL := zH hk; have HBO := zH hbo; have HPD := zH hpd; have HPL := zH hpl; clear hbg hb hox hok hx hnx hk hbo hpd hpl)
 generalize hk : kOf big = kk at *;have HK := zH hk; clear hk
 first
  |(guard_expr zA=zA
    generalize he : startOf big x = e0 at *;have HEE := zH he; clear he)
  |(generalize startOf big x = e0 at *
    have hmW : ∀ (g k : Nat) (w : World), 0 < k -> Sem.run Tryz.prog (method k e0.T (.pointer (some ⟨g, 0, none⟩)) "quern/node.write") w = .ok (e0.fw, .pointer (some ⟨g, 0, none⟩)) w := fun g k w hk => e0.run_write g k hk w
    have heL : ∀ args w, (callFunc e0.fw args).run Tryz.prog w = .ok (.enter e0.fw args) w := fun args w => e0.enters_w args w
    have hew := fun (g base : Nat) (A5 : Option Addr) (c5 : Nat) (W : World) => eng_write e0 g base none 0 A5 m c5 pk W
    have hT := e0.feed_T pk;have HEW := zH hew; have HT := zH hT; clear hew hT;have hnd : decide ((0 : Int) < nk) = true := by simp; omega
    have hT4 : ∃ T4, T4 = e0.T := ⟨_, rfl⟩)
 go_enter Tryz.func109, Tryz.ntmps109;go_wp2_with fail;refine wrZ (fun _ => True) (fun _ _ h => h) (Ords.of [(0, 0), (0, 1), (0, 2), (0, 3), (1, 4), (0, 5), (0, 6), (0, 7), (1, 8), (2, 9), (0, 10), (0, 11), (2, 12)] .fin) trivial ?_
 iterate 9 ((first | refine ords_pure rfl (fun K hK => ?_) | refine ords_read rfl (fun K hK => ?_)); go_simp; refine hK _ ?_; clear hK K)
 refine ords_loud rfl (fun n1 => ?_);go_wp2_with (go_at_call 128; refine (HBG _ (HOX.drewN _).reads).mono ?_; rintro e w1 ⟨g, rfl, hg, hE, hbw1⟩; (first | refine withN hbw1 ?_ | refine withD hbw1 ?_ | refine with0 hbw1 ?_); intro hcw1 hfw1)
 try (refine ⟨trivial, ?_⟩)
 iterate 2 (refine ords_pure rfl (fun K hK => ?_); go_simp; refine hK _ ?_; clear hK K)
 refine ords_loud rfl (fun n2 => ?_);go_wp2
 first | (refine ⟨trivial, ?_⟩; refine ords_end (fun n3 => ?_)) | (refine ords_end (fun n3 => ?_)) | (rintro _ ⟨n3, rfl⟩)
 have HC := zH hcw1; have HBW := zH (undrN hbw1); have HE := zH hE; have HG := zH hg
 first
  |(guard_expr zA=zA)
  |(go_upto_if 25 with fail
    have hN := NN.begun (n2 := n2) (n3 := n3) HB HX HKL HOX HOK hbase HBW HE HG.out;unfold begunW at hN;generalize (((((w1.drewN n2).setCell { block := p, off := 6 } (Value.iface e0.T (Value.pointer (some { block := g, off := 0 })))).drewN n3).setCell { block := p, off := 4 } (Value.bool false)).setCell { block := p, off := 5 } (Value.int IntKind.u64 0)) = W3 at *;have d0 : W3.cell? ⟨p, 0, none⟩ = some (.int .i64 kk) := (hN.1.blk.cell 0).trans (by rw [<- HK.out]; rfl);have d3 : W3.cell? ⟨p, 3, none⟩ = some (.slice Ak nk ck) := hN.1.blk.cell 3;have d6 : W3.cell? ⟨p, 6, none⟩ = some (.iface e0.T (.pointer (some ⟨g, 0, none⟩))) := hN.1.blk.cell 6;have hl3 := hN.1.blk.lt;have HN := zH hN; clear hN hcw1 hfw1 c0 c2 c3 c4 c5 c6 hz hlt hbw1 hE hg)
 go_wp2_with fail
 first
  |(guard_expr zA=zA)
  |(refine wrZ (fun W' => W'.cell? ⟨p, 6, none⟩ = some (.iface e0.T (.pointer (some ⟨g, 0, none⟩))) /\ W'.cell? ⟨p, 3, none⟩ = some (.slice Ak nk ck) /\ W'.cell? ⟨p, 0, none⟩ = some (.int .i64 kk)) (fun _ _ h => h) (Ords.of [(0, 0), (0, 1), (0, 2), (0, 3), (0, 4), (0, 5), (0, 6), (0, 7), (0, 8), (0, 9), (0, 10), (0, 11), (0, 14), (0, 15), (2, 12), (2, 13), (2, 16)] .fin) ⟨d6, d3, d0⟩ ?_
    iterate 3 (refine ords_pure rfl (fun K hK => ?_); go_simp; refine hK _ ?_; clear hK K; refine ords_pure rfl (fun K hK => ?_); go_simp; refine hK _ ?_; clear hK K; refine ords_pure rfl (fun K hK => ?_); go_simp; refine hK _ ?_; clear hK K; refine ords_heldK rfl (fun K K2 hK hK2 => ?_); go_simp; refine ⟨hK2 _ (fun w9 hS => ?_), hK _ ?_⟩; (clear hK hK2 K K2; obtain ⟨s6, s3, s0⟩ := hS; go_simp); (clear hK hK2 K K2))
    iterate 2 (refine ords_pure rfl (fun K hK => ?_); go_simp; refine hK _ ?_; clear hK K)
    refine ords_loud rfl (fun n1 => ?_);go_wp2_with (go_at_call 90; refine (HBO _).mono ?_; rintro e w4 ⟨rfl, rfl⟩); refine ⟨⟨d6, d3, d0⟩, ?_⟩;refine ords_loud rfl (fun n2 => ?_);go_wp2_with (go_at_call 129; refine (HPD _ (HN.out.1.drewN _).ok.reads).mono ?_; rintro e w5 ⟨A5, c5, rfl, ho5, hb5⟩); have hb5' := undrN hb5; refine ⟨⟨(hb5'.cell hl3).trans d6, (hb5'.cell hl3).trans d3, (hb5'.cell hl3).trans d0⟩, ?_⟩;refine ords_loud rfl (fun n3 => ?_);have hgW := Eng.inn_lt HN.out.1.eng; have hEW := Eng.inn_drewN (Eng.inn_below HN.out.1.eng hb5') n3; have hO5 := zH ho5; have hB5 := zH hb5'; have hEWH := zH hEW; have hne := Eng.inn_ne HN.out.1.eng HN.out.1.blk; clear ho5 hb5 hb5' hEW; go_step; (refine (HEW.out g base A5 c5 _ hEWH.out (by have h1 := HN.out.2.size; have h2 := hB5.size; show base <= w5.heap.size; omega) HPL.out (by have h1 := hO5.len_le.1; rw [HPL.out] at h1; exact h1) (by have h1 := hO5.len_le.2; unfold maxLen at h1; omega) (hO5.drewN n3).reads (fun a ha => ⟨(by have h1 := (hO5.block_lt a ha).1; intro h2; have h3 := aZF h2; have h4 : W3.heap.size <= a.block := h1; omega), (fun h2 => by cases h2)⟩)).mono ?_; rintro e w6 ⟨rfl, A6, c6, hW6⟩); go_wp2_with fail; have hpp : ∀ o, w6.cell? ⟨p, o, none⟩ = W3.cell? ⟨p, o, none⟩ := fun o => World.cell?_of_block ((hW6.gr.block p (by have h2 := hB5.size; show p < w5.heap.size; omega) (fun h => hne (aZF h)) (fun h => by cases h)).trans (hB5.block p hl3)); have HW6 := zH hW6; clear hW6; refine ⟨⟨(hpp 6).trans d6, (hpp 3).trans d3, (hpp 0).trans d0⟩, ?_⟩; clear hpp
    refine ords_end (fun n4 => ?_))
 go_end0
 first
  |(guard_expr zA=zA
    have hN := NN.begun (n2 := n2) (n3 := n3) HB HX rfl HOX HOK hbase HBW HE HG.out;exact ⟨rfl, g, hN.1, hN.2, HG.out⟩)
  |(exact ⟨rfl, g, A6, c6, (((HN.out.1.below hB5.out).drewN n3).wrote HT.out HW6.out).drewN n4, (((HN.out.2.below hB5.out).drewN n3).trans HW6.gr (.inr (.inr fun k hk => by have h1 := aZF hk; have h2 : w.heap.size <= g := HG.out; omega)) (.inr (.inl rfl))).drewN n4, HG.out⟩)
 ) : P := h
theorem zS35 {P : Prop} (h : P := by
 first
  |(guard_expr zB=zB
    rw [decide_eq_false ho] at hs;rw [xValid_bad ho];have HS := zH hs; clear hs ho;unfold Sl.v)
  |(guard_expr zA=zA
    rw [xValid_key ho hk];have t1 : decide (f < (nk : Int)) = true := by rw [<- hmo]; simpa using hk
    have HS := zH hs; clear hs ho hk;unfold Sl.v)
  |(rw [xValid_chk ho hk]
    have t1 : decide (f < (nk : Int)) = false := by rw [<- hmo]; simpa using hk
    have hck := fun P W => check_any k P W
    have hpa := fun c t kn W => pars_any k f c t kn Ak nk ck s p W
    have HS := zH hs; have HCK := zH hck; have HPA := zH hpa; have HO := zH ho; clear hs hk hck hpa ho;unfold Sl.v at *)
 go_enter Tryz.func38, Tryz.ntmps38;go_wp2_with fail;refine (HS _).mono ?_;rintro e1 w1 ⟨c, t, kn, rfl, hok, hb1⟩;have hz := ((Blk.new w 67 zSh).below hb1 (by simp)).alloc (.cells (shCells k c t kn) 67);have hn := Blk.new w1 67 (shCells k c t kn);have hB := bal (bcall (bal (b0 w) _) hb1) (.cells (shCells k c t kn) 67);have hlt : w.heap.size < w1.heap.size := by have := hb1.size; simp at this; omega
 have hsz : Hid ((Tryz.prog.info? 67).map (·.size) = some (shCells k c t kn).size) := by show _ = _; kernel_rfl
 have hal : Hid ((shCells k c t kn).all (·.oneCell') = true) := by show _ = _; simp [shCells, Value.oneCell']
 have hold : Hid (zSh.size = (shCells k c t kn).size) := rfl;have HZ := zH hz; have HN := zH hn; have HB := zH hB; have HOK := zH hok;unfold shCells at HZ HN HB hsz hal hold ⊢;rw [hmo] at HZ HN HB hsz hal hold ⊢;clear hz hn hB hb1 hok
 first
  |(guard_expr zC=zC
    obtain ⟨hc1, ht1, hk1⟩ := HOK HO.out;have HC1 := zH hc1; have HT1 := zH ht1; have HK1 := zH hk1; clear hc1 ht1 hk1;obtain ⟨g, hg⟩ : ∃ g, g = w1.heap.size := ⟨_, rfl⟩;obtain ⟨b, hb⟩ : ∃ b, b = w.heap.size := ⟨_, rfl⟩;have hn := HN.out; have hz := HZ.out; have hB := HB.out;rw [<- hg] at hn hlt; rw [<- hb] at hz hlt;clear HN HZ HB;go_upto_region 6 with fail
    rw [<- hg, <- hb];generalize w1.alloc _ = w2 at *;have d0 : w2.cell? ⟨g, 0, none⟩ = some (.int .i64 k) := hn.cell 0;have d1 : w2.cell? ⟨g, 1, none⟩ = some (.int .i64 f) := hn.cell 1;have d2 : w2.cell? ⟨g, 2, none⟩ = some (.int .u32 c) := hn.cell 2;have d3 : w2.cell? ⟨g, 3, none⟩ = some (.int .u64 t) := hn.cell 3;have d4 : w2.cell? ⟨g, 4, none⟩ = some (.bool kn) := hn.cell 4;have HN := zH hn; have HZ := zH hz; have HB := zH hB; have HBE := zH hb; clear hn hz hB hb hg;refine wrZ (fun w' => Blk w' g 67 #[.int .i64 k, .int .i64 f, .int .u32 c, .int .u64 t, .bool kn]) (fun _ n h => h.drewN n) (Ords.of [(0, 0), (0, 1), (0, 2), (0, 3), (0, 4), (0, 5), (2, 6), (2, 7), (2, 8), (0, 9)] .fin) HN ?_
    iterate 2 (refine ords_heldK rfl (fun K K2 hK hK2 => ?_); go_simp; refine ⟨hK2 _ (fun w9 hS => ?_), hK _ ?_⟩; (clear hK hK2 K K2; have q0 : w9.cell? ⟨g, 0, none⟩ = some (.int .i64 k) := hS.cell 0; have q1 : w9.cell? ⟨g, 1, none⟩ = some (.int .i64 f) := hS.cell 1; have q2 : w9.cell? ⟨g, 2, none⟩ = some (.int .u32 c) := hS.cell 2; have q3 : w9.cell? ⟨g, 3, none⟩ = some (.int .u64 t) := hS.cell 3; have q4 : w9.cell? ⟨g, 4, none⟩ = some (.bool kn) := hS.cell 4; go_simp); (clear hK hK2 K K2); refine ords_pure rfl (fun K hK => ?_); go_simp; refine hK _ ?_; clear hK K)
    iterate 2 (refine ords_pure rfl (fun K hK => ?_); go_simp; refine hK _ ?_; clear hK K)
    refine ords_loud rfl (fun n1 => ?_);go_wp2_with (go_at_call 59; refine (HPA c t kn _).mono ?_; rintro e3 w3 ⟨rfl, hb3⟩);have M1 := zH ((HN.drewN _).below hb3 (HN.drewN _).lt); have M0 := zH ((HZ.drewN _).below hb3 (HZ.drewN _).lt); have MB := zH (bcall (bdr HB _) hb3); clear hb3;refine ⟨M1.out, ?_⟩;refine ords_loud rfl (fun n2 => ?_);go_wp2_with (go_at_call 58; refine (HCK ⟨f, nk, 1, 1, 0, 0, c, 0, 0, s, p⟩ _).mono ?_; rintro e4 w4 ⟨rfl, hb4⟩);have K1 := zH ((M1.drewN _).below hb4 (M1.drewN _).lt); have K0 := zH ((M0.drewN _).below hb4 (M0.drewN _).lt); have KB := zH (bcall (bdr MB _) hb4); clear hb4;refine ⟨K1.out, ?_⟩;refine ords_loud rfl (fun n3 => ?_);go_wp2_with (refine aZE rfl 67 _ _ rfl b #[.int .i64 k, .int .i64 f, .int .u32 c, .int .u64 t, .bool kn] rfl rfl 67 _ (K0.drewN _) hsz.out hold.out hal.out ?_);refine ⟨(K1.drewN _).rowFar (by omega) _, ?_⟩;refine ords_pure rfl (fun K hK => ?_); go_simp; refine hK _ ?_; clear hK K;refine ords_end (fun n4 => ?_);go_wp2_with fail;refine aZB (results_cell_tmp rfl _ _ b _ _ _ rfl (((K0.drewN _).row _).drewN _) hu.out rfl hsz.out) rfl ⟨c, t, kn, ?_, fun _ => ⟨HC1.out, HT1.out, HK1.out⟩, bdr (brow (bdr KB.out _) (by have := HBE.out; omega) _) _⟩;have e : rootP k len nk s p = ⟨f, nk, 1, 1, 0, 0, c, 0, 0, s, p⟩ := by unfold rootP; rw [HC1.out, hmo]
    rw [e];unfold shCells;rw [hmo]
    rfl)
  |(go_wp2_with (refine aZE rfl 67 _ _ rfl w.heap.size #[.int .i64 k, .int .i64 f, .int .u32 c, .int .u64 t, .bool kn] rfl rfl 67 _ HZ hsz.out hold.out hal.out ?_)
    exact aZB (results_cell_tmp rfl _ _ w.heap.size _ _ _ rfl (HZ.row _) hu.out rfl hsz.out) rfl ⟨c, t, kn, (by unfold shCells; rw [hmo]; rfl), (fun h => absurd h (by decide)), brow HB.out (Nat.le_refl _) _⟩)
 ) : P := h
theorem zS36 {P : Prop} (h : P := by
 first
  |(guard_expr zA=zA
    rw [pieceS_arg hv (.inl hr)];have t1 : ((nr : Int) != (bOf big : Int)) = true := by simp; omega
    have t2 : (nr = bOf big) = False := by simp; omega)
  |(rw [pieceS_arg hv (.inr hi)]
    rw [<- hlt] at hi)
 generalize totN (kOf big) len = T at *;generalize codN (kOf big) len = C at *;generalize bOf big = f at *;generalize kOf big = k at *
 first
  |(guard_expr zA=zA)
  |(generalize (T + f - 1) / f = N at *
    generalize T + f - 1 = N1 at *;generalize T + f = N2 at *;have t3 : (N <= I) = True := by simp [hi]
    have t4 : (I < N) = False := by simp; omega)
 have HVA := zH hva; have HFU := zH hfu; have HTO := zH hto
 first
  |(guard_expr zA=zA;clear hva hfu hto hco hv ho hT hC hT2 hC2 hs4 ht4 hb hb0 hr hrr hrs hrp hls hlp hl)
  |(clear hva hfu hto hco hv ho hT hC hT2 hC2 hs4 ht4 hb hb0 hr hrr hrs hrp hls hlp hl hlt hr2)
 unfold Sl.v at *;go_enter Tryz.func69, Tryz.ntmps69;go_wp2_with (first
  | (go_at_call 19; refine (HVA _).mono ?_; rintro e1 w1 ⟨rfl, hb1⟩; have HB1 := zH hb1; clear hb1)
  | (go_at_call 41; refine (HFU _).mono ?_; rintro e2 w2 ⟨rfl, rfl⟩)
  | (go_at_call 30; refine (HTO _).mono ?_; rintro e3 w3 ⟨rfl, rfl⟩)
  | (go_at_call 63; refine (HCO _).mono ?_; rintro e4 w4 ⟨rfl, rfl⟩)
  | (go_at_call 34; refine (HH.out _ ((((HRS.below HB1.out).more HB1.size).alloc (aZC _) _).more (by simp)) ((((HRP.below HB1.out).more HB1.size).alloc (aZC _) _).more (by simp)) ((((HRR.below HB1.out).more HB1.size).alloc (aZC _) _).more (by simp))).mono ?_; rintro e5 w5 ⟨A5, n5, c5, cc5, rfl, hl5, hcc5, ho5, hb5⟩; have HL5 := zH hl5; have HC5 := zH hcc5; have HO5 := zH (ho5.mono (show w.heap.size <= _ from (bal HB1.out _).size)); have HB5 := zH (bcall (bal HB1.out _) hb5); clear hl5 hcc5 ho5 hb5))
 exact aZB (aZG rfl _ _ _) rfl ⟨none, 0, 0, 0, rfl, rfl, aZC _, OS.nil _ _ _ rfl, HB1.out⟩
 ) : P := h
theorem zS37 {P : Prop} (h : P := by
 first
  |(guard_expr zA=zA
    go_wp2;refine ⟨trivial, ?_⟩;refine ords_loud rfl (fun n2 => ?_))
  |(skip)
 go_wp2_with (go_at_call 121; refine (HL.out _).mono ?_; rintro e w4 ⟨rfl, hb4⟩; have m1 := (N1.drewN _).below hb4 (N1.drewN _).lt; have gc : w4.cell? ⟨b + 1, k, none⟩ = some (.int .u32 (wr3 q)) := by rw [m1.cell, <- N1.cell, c1]);have gf : w4.frozen? ⟨b + 1, k, none⟩ = false := m1.frozen k;have hms : ∀ n m, Blk (((w4.drewN n).setCell ⟨b + 1, k, none⟩ (wv3 (q ^^^ v))).drewN m) (b + 1) 154 (wc3 (half3 S I (k + 1))) := by
  intro n m;have h := ((m1.drewN n).set_ k (wv3 (q ^^^ v))).drewN m;rw [wc3_set, half3_put S I k _ HSV.out (by rw [HSL.out, HIL.out])] at h;exact h
 have HMS := zH hms; have HB4 := zH hb4; have M0 := zH ((N0.drewN _).below hb4 (N0.drewN _).lt); have M4 := zH (bcall (bdr N4 _) hb4);clear m1 hms hb4;refine ⟨trivial, ?_⟩
 first
  |(guard_expr zA=zA)
  |(refine ords_loud rfl (fun n2 => ?_)
    go_wp2;refine ⟨trivial, ?_⟩)
 iterate 2 (refine ords_pure rfl (fun K hK => ?_); go_simp; refine hK _ ?_; clear hK K)
 refine ords_loud rfl (fun n3 => ?_);go_wp2;refine ⟨trivial, ?_⟩;refine ords_end (fun n4 => ?_);go_wp2_with fail;go_roundw
 case rel => exact ⟨k + 1, by omega, by go_num, ((M0.drewN _).far (p := ⟨b + 1, k, none⟩) (by simp) _).drewN _, HMS.out _ _, bdr (bput (bdr M4.out _) (p := ⟨b + 1, k, none⟩) (by have := hwb.out; simp; omega) _) _⟩
 case measure => simp [intOf]; omega
 ) : P := h
theorem zS38 {P : Prop} (h : P := by
 first
  |(guard_expr zE=zE
    have hat : ∀ W, OS cS W w.heap.size (some ⟨g3, 0, none⟩) c3 nmL -> W.cell? ⟨g3, 4, none⟩ = some (.string ⟨#[98, 108, 97, 107, 101, 50, 120, 98]⟩) /\ g3 < W.heap.size := fun W hW => by
     obtain ⟨g', y, e, -, hl, e2, h3, -⟩ := hW.at_ (k := 4) (by decide);injection e with e; injection e with e
     subst e;rw [<- aZF e2] at h3;exact ⟨h3, hl⟩)
  |(guard_expr zD=zD
    have hat : ∀ W, OS cS W w.heap.size (some ⟨g3, 0, none⟩) c3 nmL -> W.cell? ⟨g3, 3, none⟩ = some (.string ⟨#[98, 108, 97, 107, 101, 50, 115, 112]⟩) /\ g3 < W.heap.size := fun W hW => by
     obtain ⟨g', y, e, -, hl, e2, h3, -⟩ := hW.at_ (k := 3) (by decide);injection e with e; injection e with e
     subst e;rw [<- aZF e2] at h3;exact ⟨h3, hl⟩)
  |(guard_expr zC=zC
    have hat : ∀ W, OS cS W w.heap.size (some ⟨g3, 0, none⟩) c3 nmL -> W.cell? ⟨g3, 2, none⟩ = some (.string ⟨#[98, 108, 97, 107, 101, 50, 98, 112]⟩) /\ g3 < W.heap.size := fun W hW => by
     obtain ⟨g', y, e, -, hl, e2, h3, -⟩ := hW.at_ (k := 2) (by decide);injection e with e; injection e with e
     subst e;rw [<- aZF e2] at h3;exact ⟨h3, hl⟩)
  |(guard_expr zB=zB
    have hat : ∀ W, OS cS W w.heap.size (some ⟨g3, 0, none⟩) c3 nmL -> W.cell? ⟨g3, 1, none⟩ = some (.string ⟨#[98, 108, 97, 107, 101, 50, 115]⟩) /\ g3 < W.heap.size := fun W hW => by
     obtain ⟨g', y, e, -, hl, e2, h3, -⟩ := hW.at_ (k := 1) (by decide);injection e with e; injection e with e
     subst e;rw [<- aZF e2] at h3;exact ⟨h3, hl⟩)
  |(guard_expr zA=zA
    have hat : ∀ W, OS cS W w.heap.size (some ⟨g3, 0, none⟩) c3 nmL -> W.cell? ⟨g3, 0, none⟩ = some (.string ⟨#[98, 108, 97, 107, 101, 50, 98]⟩) /\ g3 < W.heap.size := fun W hW => by
     obtain ⟨g', y, e, -, hl, e2, h3, -⟩ := hW.at_ (k := 0) (by decide);injection e with e; injection e with e
     subst e;rw [<- aZF e2] at h3;exact ⟨h3, hl⟩)
  |(have hat : ∀ W, OS cS W w.heap.size (some ⟨g3, 0, none⟩) c3 nmL -> W.cell? ⟨g3, 5, none⟩ = some (.string ⟨#[98, 108, 97, 107, 101, 50, 120, 115]⟩) /\ g3 < W.heap.size := fun W hW => by
     obtain ⟨g', y, e, -, hl, e2, h3, -⟩ := hW.at_ (k := 5) (by decide);injection e with e; injection e with e
     subst e;rw [<- aZF e2] at h3;exact ⟨h3, hl⟩)
 have HAT := zH hat;obtain ⟨z1, zl⟩ := hat wr O3.out;clear hat;go_upto_region 9 with fail
 refine wrZ (fun w' => OS cS w' w.heap.size (some ⟨g3, 0, none⟩) c3 nmL) (fun _ n h => h.drewN n) (Ords.of [(0, 0), (0, 1), (0, 2), (0, 3), (0, 4), (2, 5), (0, 6)] .fin) O3 ?_
 iterate 3 (refine ords_pure rfl (fun K hK => ?_); go_simp; refine hK _ ?_; clear hK K)
 refine ords_heldK rfl (fun K K2 hK hK2 => ?_); go_simp; refine ⟨hK2 _ (fun w9 hS => ?_), hK _ ?_⟩; (clear hK hK2 K K2; clear z1 zl; obtain ⟨z1, zl⟩ := HAT w9 hS; clear hS; go_simp); (clear hK hK2 K K2);refine ords_pure rfl (fun K hK => ?_); go_simp; refine hK _ ?_; clear hK K;refine ords_loud rfl (fun n1 => ?_);clear z1 zl;replace O3 := zH (O3.drewN n1);replace HB := zH (bdr HB n1);generalize wr.drewN n1 = u at *
 first
  |(guard_expr zE=zE;go_wp2_with (go_at_call 16; refine ((HNA u).2.2.2.2.1).mono ?_; rintro e5 w5 ⟨rfl, hb5⟩))
  |(guard_expr zD=zD;go_wp2_with (go_at_call 16; refine ((HNA u).2.2.2.1).mono ?_; rintro e5 w5 ⟨rfl, hb5⟩))
  |(guard_expr zC=zC;go_wp2_with (go_at_call 16; refine ((HNA u).2.2.1).mono ?_; rintro e5 w5 ⟨rfl, hb5⟩))
  |(guard_expr zB=zB;go_wp2_with (go_at_call 16; refine ((HNA u).2.1).mono ?_; rintro e5 w5 ⟨rfl, hb5⟩))
  |(guard_expr zA=zA;go_wp2_with (go_at_call 16; refine ((HNA u).1).mono ?_; rintro e5 w5 ⟨rfl, hb5⟩))
  |(go_wp2_with (go_at_call 16; refine ((HNA u).2.2.2.2.2).mono ?_; rintro e5 w5 ⟨rfl, hb5⟩))
 replace O3 := zH (O3.below hb5 (aZC _));replace HB := zH (bcall HB hb5);clear hb5;refine ⟨O3.out, ?_⟩;go_simp;refine ords_pure rfl (fun K hK => ?_); go_simp; refine hK _ ?_; clear hK K;refine ords_end (fun n2 => ?_);replace O3 := zH (O3.drewN n2);replace HB := zH (bdr HB n2);generalize w5.drewN n2 = u5 at *;go_wp2_with fail
 first
  |(guard_expr zE=zE;exact ⟨⟨5, by decide, rfl, O3.out, HB.out⟩, by simp [intOf]⟩)
  |(guard_expr zD=zD;exact ⟨⟨4, by decide, rfl, O3.out, HB.out⟩, by simp [intOf]⟩)
  |(guard_expr zC=zC;exact ⟨⟨3, by decide, rfl, O3.out, HB.out⟩, by simp [intOf]⟩)
  |(guard_expr zB=zB;exact ⟨⟨2, by decide, rfl, O3.out, HB.out⟩, by simp [intOf]⟩)
  |(guard_expr zA=zA;exact ⟨⟨1, by decide, rfl, O3.out, HB.out⟩, by simp [intOf]⟩)
  |(exact ⟨⟨6, by decide, rfl, O3.out, HB.out⟩, by simp [intOf]⟩)
 ) : P := h
theorem zS39 {P : Prop} (h : P := by
 have kp : ∀ (L : List Nat), (∀ a, A = some a -> a.block ∉ L) -> ∀ k, k ∈ L -> k < w.heap.size -> w'.heap[k]? = w.heap[k]? := fun L hL k hk hlt => hg.block k hlt (fun e => by
  cases hh : A with
  | none => rw [hh] at e; cases e
  | some a => rw [hh] at e; have e2 : a.block = k := aZF e.symm; exact hL a hh (by rw [e2]; exact hk))
 have fr : ∀ (L : List Nat), (∀ a, A = some a -> a.block ∉ L) -> (∀ k, k ∈ L -> k < w.heap.size) -> ∀ a, A' = some a -> a.block ∉ L := fun L hL hl a ha hm => by
  rcases hA' with e | e
  ·rw [ha] at e
   cases hh : A with
   | none => rw [hh] at e; cases e
   | some b => rw [hh] at e; have e2 : a.block = b.block := aZF e; exact hL b hh (by rw [<- e2]; exact hm)
  ·rw [ha] at e
   have e2 : a.block = w.heap.size := aZF e;have := hl _ hm;omega
 first
  |(guard_expr zA=zA;refine ⟨ho, by rw [List.length_append, h.len]; rfl, fun i hi => ?_, fun i hi k hk => ?_, fun i j hi hj hij k hk hk2 => ?_, fun i hi a ha => ?_⟩)
  |(refine ⟨ho, by rw [List.length_append, h.len]; rfl, fun i hi => ?_, fun i hi k hk => ?_, fun i j hi hj hij k hk hk2 => ?_, fun i j hi hj k hk hk2 => ?_, fun i j hi hj hij k hk hk2 => ?_, fun i hi a ha => ?_⟩)
 ·by_cases hm : i = m
  ·subst hm
   first
    |(guard_expr zA=zA
      refine ⟨q, 0, by rw [List.getElem?_append_right (by rw [h.len]; exact aZC _), h.len, Nat.sub_self]; rfl, ?_⟩
      show Nd _ _ _ _ _ _ _ _ _ (if i = i then G else F i))
    |(refine ⟨q, wr, by rw [List.getElem?_append_right (by rw [h.len]; exact Nat.le_refl _), h.len, Nat.sub_self]; rfl, ?_⟩
      show NdS _ _ _ _ _ _ _ _ _ _ (if i = i then G else F i))
   rw [if_pos rfl]
   first
    |(guard_expr zA=zA;exact hN.of_ (fun k hk => kp G hA k hk (hN.lt k hk)))
    |(exact hN.of_ (fun k hk => kp (R i) (fun a ha => (hA a ha).2) k hk (hN.ltR k hk)) (fun k hk => kp G (fun a ha => (hA a ha).1) k hk (hN.lt k hk)))
  ·obtain ⟨p, wr, h1, h2⟩ := h.node i (by omega)
   refine ⟨p, wr, by rw [List.getElem?_append_left (by rw [h.len]; omega)]; exact h1, ?_⟩
   first
    |(guard_expr zA=zA;show Nd _ _ _ _ _ _ _ _ _ (if i = m then G else F i))
    |(show NdS _ _ _ _ _ _ _ _ _ _ (if i = m then G else F i))
   rw [if_neg hm]
   first
    |(guard_expr zA=zA;exact h2.of_ (fun k hk => kp (F i) (h.fa i (by omega)) k hk (h2.lt k hk)))
    |(exact h2.of_ (fun k hk => kp (R i) (fun a ha => (h.fa i (by omega) a ha).2) k hk (h2.ltR k hk)) (fun k hk => kp (F i) (fun a ha => (h.fa i (by omega) a ha).1) k hk (h2.lt k hk)))
 ·first
   |(guard_expr zA=zA;change k ∈ (if i = m then G else F i) at hk)
   |(change k ∈ (if i = m then G else F i) \/ _ at hk)
  by_cases hm : i = m
  ·first
    |(guard_expr zA=zA;rw [if_pos hm] at hk; exact hG k hk)
    |(rw [if_pos hm] at hk; rw [hm] at hk; exact hG k hk)
  ·rw [if_neg hm] at hk; exact h.low i (by omega) k hk
 ·change k ∈ (if i = m then G else F i) at hk
  change k ∈ (if j = m then G else F j) at hk2
  by_cases hm : i = m
  ·rw [if_pos hm] at hk
   rw [if_neg (by omega)] at hk2
   first
    |(guard_expr zA=zA;exact hd j (by omega) k hk hk2)
    |(exact (hd j (by omega) k hk).1 hk2)
  ·rw [if_neg hm] at hk
   by_cases hm2 : j = m
   ·rw [if_pos hm2] at hk2
    first
     |(guard_expr zA=zA;exact hd i (by omega) k hk2 hk)
     |(exact (hd i (by omega) k hk2).1 hk)
   ·rw [if_neg hm2] at hk2
    exact h.far i j (by omega) (by omega) hij k hk hk2
 first
  |(guard_expr zA=zA)
  |(·change k ∈ (if j = m then G else F j) at hk2
     by_cases hm2 : j = m
     ·rw [if_pos hm2] at hk2
      by_cases hm : i = m
      ·rw [hm] at hk; exact hN.apart k hk hk2
      ·exact (hd i (by omega) k hk2).2 hk
     ·rw [if_neg hm2] at hk2
      by_cases hm : i = m
      ·rw [hm] at hk; exact (hr j (by omega) k hk).1 hk2
      ·exact h.rf i j (by omega) (by omega) k hk hk2
    ·by_cases hm : i = m
     ·rw [hm] at hk; exact (hr j (by omega) k hk).2 hk2
     ·by_cases hm2 : j = m
      ·rw [hm2] at hk2; exact (hr i (by omega) k hk2).2 hk
      ·exact h.rr i j (by omega) (by omega) hij k hk hk2)
 ·first
   |(guard_expr zA=zA;show a.block ∉ (if i = m then G else F i))
   |(show a.block ∉ (if i = m then G else F i) /\ _)
  by_cases hm : i = m
  ·first
    |(guard_expr zA=zA;rw [if_pos hm]; exact fr G hA (fun k hk => hN.lt k hk) a ha)
    |(rw [if_pos hm, hm]; exact ⟨fr G (fun a ha => (hA a ha).1) (fun k hk => hN.lt k hk) a ha, fr (R m) (fun a ha => (hA a ha).2) (fun k hk => hN.ltR k hk) a ha⟩)
  ·rw [if_neg hm]
   obtain ⟨p, wr, h1, h2⟩ := h.node i (by omega)
   first
    |(guard_expr zA=zA;exact fr (F i) (h.fa i (by omega)) (fun k hk => h2.lt k hk) a ha)
    |(exact ⟨fr (F i) (fun a ha => (h.fa i (by omega) a ha).1) (fun k hk => h2.lt k hk) a ha, fr (R i) (fun a ha => (h.fa i (by omega) a ha).2) (fun k hk => h2.ltR k hk) a ha⟩)
 ) : P := h
theorem zS40 {P : Prop} (h : P := by
 first
  |(guard_expr zC=zC
    have hn0 : n = 0 := by omega
    subst hn0;have w2' : IntKind.u64.wrap (pos : Int) = (pos : Int) := by rw [wrap_u64]; omega
    have HM := zH hpo;clear hL hpo hT2 hn h h1;rw [Nat.zero_min])
  |(guard_expr zB=zB
    rw [Nat.min_eq_left (by omega)];have hm : pos + n <= T := by omega
    have w2' : IntKind.u64.wrap ((pos : Int) + (n : Int)) = ((pos + n : Nat) : Int) := by rw [wrap_u64]; omega
    have t4 : (L < n) = False := by simp; omega
    have t6 : (n <= L) = True := by simp; omega
    have HM := zH hm;clear hL hpo hT2 hn hm h h1 h2)
  |(guard_expr zA=zA
    rw [Nat.min_eq_right (Nat.le_of_lt h2)];have hm : pos + L <= T := by omega
    have w2' : IntKind.u64.wrap ((pos : Int) + (L : Int)) = ((pos + L : Nat) : Int) := by rw [wrap_u64]; omega
    have t4 : (L < n) = True := by simp [h2]
    have t5 : (n < L) = False := by simp; omega
    have t6 : (n <= L) = False := by simp; omega
    have HM := zH hm;clear hL hpo hT2 hn hm h h1 h2)
  |(rw [if_pos h]
    obtain ⟨h1, h2⟩ := h;have t1 : (0 < n) = True := by simp [h1]
    have t3 : (n = 0) = False := by simp; omega
    subst h2;clear hL hpo hT2 hn h1)
 go_enter Tryz.func23, Tryz.ntmps23;go_wp2_with (go_at_call 29; refine HNO.mono ?_; rintro e0 w0 ⟨rfl, rfl⟩);refine HGI.mono ?_;rintro e1 w1 ⟨rfl, cs, Ar, cr, hv, now, hX, hbut, hQ⟩;have d3 : w1.cell? ⟨p, 3, none⟩ = some (.int .u64 T) := by rw [<- HT.out]; exact (hX.blk.cell 3).trans hX.xc.c3
 have d10 : w1.cell? ⟨p, 10, none⟩ = some (.int .u64 pos) := (hX.blk.cell 10).trans hX.xc.c10;have f10 := hX.blk.frozen 10;have hpl := hX.blk.lt;have HX := zH hX; have HB := zH hbut; have HQ := zH hQ; clear hX hbut hQ HGI HNO;go_upto_region 4 with fail
 refine wrZ (fun _ => True) (fun _ _ h => h) (Ords.of [(0, 0), (0, 1), (0, 2), (0, 3), (1, 4), (0, 5), (0, 6), (0, 7), (1, 8), (0, 9), (0, 10)] .fin) trivial ?_
 iterate 11 ((first | refine ords_pure rfl (fun K hK => ?_) | refine ords_read rfl (fun K hK => ?_)); go_simp; refine hK _ ?_; clear hK K)
 refine ords_end (fun n1 => ?_);go_wp2_with fail
 first
  |(guard_expr zC=zC;exact aZB (aZG rfl _ _ _) rfl ⟨rfl, _, Ar, cr, hv, now, (HX.drewN _).moved (pos + 0) (by rw [HTT.out]; exact HM.out), But.setCell (p := ⟨p, 10, none⟩) (HB.drewN _) (.inl (List.mem_singleton.2 rfl)) _, HQ.out⟩)
  |(guard_expr zB=zB;exact aZB (aZG rfl _ _ _) rfl ⟨rfl, _, Ar, cr, hv, now, (HX.drewN _).moved (pos + n) (by rw [HTT.out]; exact HM.out), But.setCell (p := ⟨p, 10, none⟩) (HB.drewN _) (.inl (List.mem_singleton.2 rfl)) _, HQ.out⟩)
  |(guard_expr zA=zA;exact aZB (aZG rfl _ _ _) rfl ⟨rfl, _, Ar, cr, hv, now, (HX.drewN _).moved (pos + L) (by rw [HTT.out]; exact HM.out), But.setCell (p := ⟨p, 10, none⟩) (HB.drewN _) (.inl (List.mem_singleton.2 rfl)) _, HQ.out⟩)
  |(exact aZB (aZG rfl _ _ _) rfl ⟨rfl, cs, Ar, cr, hv, now, HX.drewN _, HB.drewN _, HQ.out⟩)
 ) : P := h
theorem zS41 {P : Prop} (h : P := by
 first
  |(guard_expr zA=zA
    have t0 : (([98, 108, 97, 107, 101, 50, 120, 98] : List UInt8) == n.toList) = true := by rw [hn]; decide +kernel
    have HIK : Hid (i = 4) := zH (HI1.out.2.2.2.2.1 hn))
  |(have t0 : (([98, 108, 97, 107, 101, 50, 120, 115] : List UInt8) == n.toList) = true := by rw [hn]; decide +kernel
    have HIK : Hid (i = 5) := zH (HI1.out.2.2.2.2.2 hn))
 clear hn
 by_cases h1 : size < 1
 ·have d1 : decide (size < 1) = true := by simpa using h1
  have HRR2 : Hid (R = ([], 1)) := zH (by rw [HR.out, HIK.out]; exact nmS_size (by decide) (.inl h1));clear h1
  first
   |(guard_expr zA=zA;go_wp2_with (refine aZX rfl 78 (.tmp 16) rfl g 20 rfl _ _ HRR Tryz.underlying78 rfl (by kernel_rfl) ?_))
   |(go_wp2_with (refine aZX rfl 78 (.tmp 16) rfl g 25 rfl _ _ HRR Tryz.underlying78 rfl (by kernel_rfl) ?_))
  exact aZB (aZG rfl _ _ _) rfl ⟨none, 0, 0, 0, by rw [HRR2.out]; rfl, by rw [HRR2.out]; rfl, by rw [HRR2.out]; exact OS.nil _ _ 0 rfl, bal HBW.out _⟩
 ·have d1 : decide (size < 1) = false := by simpa using h1
  first
   |(guard_expr zA=zA;by_cases h2 : 65536 < size)
   |(by_cases h2 : 65534 < size)
  ·first
    |(guard_expr zA=zA
      have d2 : decide (size > 65536) = true := by simpa using h2
      have d3 : decide (65536 < size) = true := d2)
    |(have d2 : decide (size > 65534) = true := by simpa using h2
      have d3 : decide (65534 < size) = true := d2)
   have HRR2 : Hid (R = ([], 1)) := zH (by rw [HR.out, HIK.out]; exact nmS_size (by decide) (.inr h2));clear h1 h2
   first
    |(guard_expr zA=zA;go_wp2_with (refine aZX rfl 78 (.tmp 16) rfl g 20 rfl _ _ HRR Tryz.underlying78 rfl (by kernel_rfl) ?_))
    |(go_wp2_with (refine aZX rfl 78 (.tmp 16) rfl g 25 rfl _ _ HRR Tryz.underlying78 rfl (by kernel_rfl) ?_))
   exact aZB (aZG rfl _ _ _) rfl ⟨none, 0, 0, 0, by rw [HRR2.out]; rfl, by rw [HRR2.out]; rfl, by rw [HRR2.out]; exact OS.nil _ _ 0 rfl, bal HBW.out _⟩
  ·first
    |(guard_expr zA=zA
      have d2 : decide (size > 65536) = false := by simpa using h2
      have d3 : decide (65536 < size) = false := d2;have hsz : ¬ (size < 1 \/ (nmMost 4 : Int) < size) := fun h => h.elim h1 h2
      by_cases h3 : 64 < nk)
    |(have d2 : decide (size > 65534) = false := by simpa using h2
      have d3 : decide (65534 < size) = false := d2;have hsz : ¬ (size < 1 \/ (nmMost 5 : Int) < size) := fun h => h.elim h1 h2
      by_cases h3 : 32 < nk)
   ·first
     |(guard_expr zA=zA
       have d4 : decide ((nk : Int) > 64) = true := by simp; omega
       have d5 : (64 < nk) = True := eq_true h3)
     |(have d4 : decide ((nk : Int) > 32) = true := by simp; omega
       have d5 : (32 < nk) = True := eq_true h3)
    have HRR2 : Hid (R = ([], 8)) := zH (by rw [HR.out, HIK.out]; exact nmS_key (by decide) hsz (by rw [HK.out]; exact h3));clear h1 h2 h3 hsz
    first
     |(guard_expr zA=zA;go_wp2_with (refine aZX rfl 78 (.tmp 16) rfl g 20 rfl _ _ HRR Tryz.underlying78 rfl (by kernel_rfl) ?_))
     |(go_wp2_with (refine aZX rfl 78 (.tmp 16) rfl g 25 rfl _ _ HRR Tryz.underlying78 rfl (by kernel_rfl) ?_))
    exact aZB (aZG rfl _ _ _) rfl ⟨none, 0, 0, 0, by rw [HRR2.out]; rfl, by rw [HRR2.out]; rfl, by rw [HRR2.out]; exact OS.nil _ _ 0 rfl, bal HBW.out _⟩
   ·first
     |(guard_expr zA=zA
       have d4 : decide ((nk : Int) > 64) = false := by simp; omega
       have d5 : (64 < nk) = False := eq_false h3;have hRh : R = nmHash 4 size key data := by rw [HR.out, HIK.out]; exact nmS_ok (by decide) hsz (by rw [HK.out]; exact h3)
       have hR3 : R = takeS 1 size key data 0 size := by rw [hRh]; rfl
       have hcl : ∀ W, Below w.heap.size w W -> Calls Tryz.prog 51 #[.int .i64 1, .int .i64 size, .slice Ak nk ck, .slice Ad nd cd] W (AnsN R W) :=
        fun W hb => by rw [hR3]; exact streamN_any 1 size key data Ak Ad nk ck nd cd W HK.out ((HRK.below hb).more hb.size) HDL.out HND.out HCD.out ((HRD.below hb).more hb.size))
     |(have d4 : decide ((nk : Int) > 32) = false := by simp; omega
       have d5 : (32 < nk) = False := eq_false h3;have hRh : R = nmHash 5 size key data := by rw [HR.out, HIK.out]; exact nmS_ok (by decide) hsz (by rw [HK.out]; exact h3)
       have hR3 : R = takeS 2 size key data 0 size := by rw [hRh]; rfl
       have hcl : ∀ W, Below w.heap.size w W -> Calls Tryz.prog 51 #[.int .i64 2, .int .i64 size, .slice Ak nk ck, .slice Ad nd cd] W (AnsN R W) :=
        fun W hb => by rw [hR3]; exact streamN_any 2 size key data Ak Ad nk ck nd cd W HK.out ((HRK.below hb).more hb.size) HDL.out HND.out HCD.out ((HRD.below hb).more hb.size))
    unfold AnsN at hcl;have HCL := zH hcl;clear h1 h2 h3 hsz hRh hR3 hcl
    first
     |(guard_expr zA=zA
       go_wp2_with (first
        | (refine aZX rfl 78 (.tmp 16) rfl g 20 rfl _ _ HRR Tryz.underlying78 rfl (by kernel_rfl) ?_)
        | (go_at_call 51; refine (HCL _ (bal HBW _)).mono ?_; rintro e3 w3 ⟨A3, j3, c3, x3, rfl, hl3, ho3, hb3⟩; have HO3 := zH ho3; have HB3 := zH hb3; have HL3 := zH hl3; clear ho3 hb3 hl3)))
     |(go_wp2_with (first
        | (refine aZX rfl 78 (.tmp 16) rfl g 25 rfl _ _ HRR Tryz.underlying78 rfl (by kernel_rfl) ?_)
        | (go_at_call 51; refine (HCL _ (bal HBW _)).mono ?_; rintro e3 w3 ⟨A3, j3, c3, x3, rfl, hl3, ho3, hb3⟩; have HO3 := zH ho3; have HB3 := zH hb3; have HL3 := zH hl3; clear ho3 hb3 hl3)))
    exact aZB (aZG rfl _ _ _) rfl ⟨A3, j3, c3, x3, rfl, HL3.out, HO3.mono (bal HBW _).size, bcall (bal HBW _) HB3.out⟩
 ) : P := h
theorem zS42 {P : Prop} (h : P := by
 obtain ⟨y, hy⟩ : ∃ y : Nat, y = x.toNat := ⟨_, rfl⟩;have hw : wrd x = (y : Int) := by rw [hy]; rfl
 have hy2 : y < 18446744073709551616 := by rw [hy]; exact x.toNat_lt
 rw [hw, <- hy];clear hw hy;have HO0 := zH ho; have HL := zH hl; clear ho hl
 first
  |(guard_expr zA=zA;go_enter Tryz.func107, Tryz.ntmps107)
  |(go_enter Tryz.func103, Tryz.ntmps103)
 go_wp2_with fail
 first
  |(guard_expr zA=zA;go_loopw [8, 10] (fun _ i wr => ∃ k : Nat, k <= size /\ i = .int .i64 k /\ OS cB wr base (some ⟨g, 0, none⟩) c (putL l at_ y k) /\ w.grownBy wr (some g)) (fun _ i _ => size - (intOf i).toNat))
  |(go_loopw [8] (fun i wr => ∃ k : Nat, k <= size /\ i = .int .i64 k /\ OS cB wr base (some ⟨g, 0, none⟩) c (putL l at_ y k) /\ w.grownBy wr (some g)) (fun i _ => size - (intOf i).toNat))
 case atStart => exact ⟨0, Nat.zero_le _, rfl, HO0.out, World.grownBy.refl w _⟩
 case round =>
  obtain ⟨k, hk, rfl, hos, hgr⟩ := hrel;have HO := zH hos; have HG := zH hgr; clear hos hgr
  by_cases hlt : k < size
  ·obtain ⟨g', z, e1, -, -, -, gc, gf⟩ := HO.at_ (k := at_ + k) (by rw [putL_len, HL.out]; omega)
   injection e1 with e1; injection e1 with e1; subst e1
   have hkd : decide ((k : Int) < size) = true := by simp; omega
   obtain ⟨j, hj⟩ : ∃ j, j = at_ + k := ⟨_, rfl⟩;have hji : (at_ : Int) + (k : Int) = (j : Int) := by omega
   first
    |(guard_expr zA=zA;have hjw : IntKind.i64.wrap (j : Int) = j := by simp [IntKind.wrap, IntKind.bits, IntKind.signed]; omega)
    |(have hjw : IntKind.i64.wrap (j : Int) = j := by simp [IntKind.wrap, IntKind.bits, aZM]; omega)
   have hjn : j < n := by omega
   first
    |(guard_expr zA=zA)
    |(have hkw : IntKind.u64.wrap (k : Int) = k := by rw [wrap_u64]; omega
      have hkw8 : IntKind.u64.wrap (8 * (k : Int)) = 8 * (k : Int) := by rw [wrap_u64]; omega)
   rw [<- hj] at gc gf;have HJ := zH hj; clear hj;go_wp2
   case roundEnd =>
    first
     |(guard_expr zA=zA;have h1 := HO.set j (bZZ (y / 256 ^ k % 256)))
     |(have h1 := HO.set j (UInt8.ofNat (y / 256 ^ k % 256)))
    rw [storeN_byte]
    first
     |(guard_expr zA=zA;have h2 : putL l at_ y (k + 1) = (putL l at_ y k).set j (bZZ (y / 256 ^ k % 256)) := by rw [HJ.out]; rfl)
     |(have h2 : putL l at_ y (k + 1) = (putL l at_ y k).set j (UInt8.ofNat (y / 256 ^ k % 256)) := by rw [HJ.out]; rfl)
    exact ⟨⟨k + 1, by omega, by go_num, by rw [h2]; exact h1, grown_setCells [_] j HG.out⟩, by simp [intOf]; omega⟩
  ·obtain rfl : k = size := by omega
   go_wp2;go_end0;exact ⟨rfl, HO.out, HG.out⟩
 ) : P := h
theorem zS43 {P : Prop} (h : P := by
 have HNO := zH hno; have HGI := zH hgi; have HT := zH hT; clear hno hgi hT
 first
  |(guard_expr zA=zA
    obtain ⟨L, hL⟩ : ∃ L, L = T - pos := ⟨_, rfl⟩;have w1' : IntKind.u64.wrap ((T : Int) - (pos : Int)) = L := by rw [wrap_u64]; omega
    clear hL hpo hT2)
  |(have w1' : IntKind.u64.wrap ((T : Int) - (pos : Int)) = 0 := by rw [wrap_u64]; omega
    have t1 : decide ((n : Int) < 0) = false := by simp <;> omega
    have t2 : decide ((65536 : Int) < (n : Int)) = false := by simp <;> omega
    have t4 : (0 < n) = True := by simp [h0]
    clear hpo hn h0)
 go_enter Tryz.func26, Tryz.ntmps26;go_wp2_with (go_at_call 29; refine HNO.mono ?_; rintro e0 w0 ⟨rfl, rfl⟩);refine HGI.mono ?_;rintro e1 w1 ⟨rfl, cs, Ar, cr, hv, now, hX, hbut, hQ⟩;have d3 : w1.cell? ⟨p, 3, none⟩ = some (.int .u64 T) := by rw [<- HT.out]; exact (hX.blk.cell 3).trans hX.xc.c3
 have d10 : w1.cell? ⟨p, 10, none⟩ = some (.int .u64 pos) := (hX.blk.cell 10).trans hX.xc.c10;have hpl := hX.blk.lt;have HX := zH hX; have HB := zH hbut; have HQ := zH hQ; clear hX hbut hQ HGI HNO;go_upto_region 6 with fail
 refine wrZ (fun _ => True) (fun _ _ h => h) (Ords.of [(0, 0), (0, 1), (0, 2), (0, 3), (1, 4), (0, 5), (0, 6), (0, 7), (1, 8), (0, 9), (0, 10)] .fin) trivial ?_
 iterate 11 ((first | refine ords_pure rfl (fun K hK => ?_) | refine ords_read rfl (fun K hK => ?_)); go_simp; refine hK _ ?_; clear hK K)
 refine ords_end (fun n1 => ?_);go_wp2_with fail
 first
  |(guard_expr zA=zA
    refine wp_loop_rounds 1 ?_;rw [rounds_succ];go_wp2_with fail)
  |(skip)
 exact aZB (aZG rfl _ _ _) rfl ⟨rfl, cs, Ar, cr, hv, now, HX.drewN _, HB.drewN _, HQ.out⟩
 ) : P := h
theorem zS44 {P : Prop} (h : P := by
 by_cases h0 : len = -1
 ·subst h0
  clear ho hb hlen hk;go_enter Tryz.func19, Tryz.ntmps19;go_wp2_with (first
   | (go_at_call 41; refine (HF _).mono ?_; rintro e1 w1 ⟨rfl, rfl⟩)
   | (go_at_call 43; refine (HRO _).mono ?_; rintro e2 w2 ⟨rfl, hb2⟩)
   | (go_at_call 42; refine (HCK _).mono ?_; rintro e3 w3 ⟨rfl, hb3⟩))
  exact aZB (aZK rfl _ _ _) rfl ⟨rfl, bcall hb2 hb3⟩
 ·have hr := hlen.resolve_left h0
  have t2 : (len != -1) = true := by simpa using h0
  have t3 : (len == -1) = false := by simpa using h0
  have t4 : decide (len < 1) = false := by simp; omega
  first
   |(guard_expr zA=zA;have t5 : decide (4294967294 < len) = false := by have := hr.2; unfold xMost at this; simp at this; simp; omega)
   |(have t5 : decide (65534 < len) = false := by have := hr.2; unfold xMost at this; simp at this; simp; omega)
  clear ho hb hlen hk h0 hr;go_enter Tryz.func19, Tryz.ntmps19;go_wp2_with (first
   | (go_at_call 41; refine (HF _).mono ?_; rintro e1 w1 ⟨rfl, rfl⟩)
   | (go_at_call 43; refine (HRO _).mono ?_; rintro e2 w2 ⟨rfl, hb2⟩)
   | (go_at_call 42; refine (HCK _).mono ?_; rintro e3 w3 ⟨rfl, hb3⟩))
  exact aZB (aZK rfl _ _ _) rfl ⟨rfl, bcall hb2 hb3⟩
 ) : P := h
theorem zS45 {P : Prop} (h : P := by
 first
  |(guard_expr zA=zA;have hMl := wordsOf_len x 16)
  |(have hMl := words3_len x 16)
 have HH := zH hH; have HX := zH hx; have HR := zH (hr.more hB); clear hH hx hr
 first
  |(guard_expr zA=zA;obtain ⟨w1, hw1⟩ : ∃ w1, w1 = w.alloc (.cells (wcs H) 150) := ⟨_, rfl⟩)
  |(obtain ⟨w1, hw1⟩ : ∃ w1, w1 = w.alloc (.cells (wc3 H) 154) := ⟨_, rfl⟩)
 obtain ⟨w2, hw2⟩ : ∃ w2, w2 = w1.alloc (.cells #[.int .u64 (wrd lo), .int .u64 (wrd hi)] 217) := ⟨_, rfl⟩
 first
  |(guard_expr zA=zA
    obtain ⟨w3, hw3⟩ : ∃ w3, w3 = w2.alloc (.cells (wcs (zw 8)) 150) := ⟨_, rfl⟩;have e4 : ((w.alloc (.cells (wcs H) 150)).alloc (.cells #[.int .u64 (wrd lo), .int .u64 (wrd hi)] 217)).alloc (.cells z8 150) = w3 := by rw [hw3, hw2, hw1]; rfl
    unfold z8 at e4;have n0 : Blk w3 w.heap.size 150 (wcs H) := by rw [hw3, hw2, hw1]; exact ((Blk.new _ _ _).alloc _).alloc _)
  |(obtain ⟨w3, hw3⟩ : ∃ w3, w3 = w2.alloc (.cells (wc3 (zw3 8)) 154) := ⟨_, rfl⟩
    have e4 : ((w.alloc (.cells (wc3 H) 154)).alloc (.cells #[.int .u64 (wrd lo), .int .u64 (wrd hi)] 217)).alloc (.cells z8s 154) = w3 := by rw [hw3, hw2, hw1]; rfl
    unfold z8s at e4;have n0 : Blk w3 w.heap.size 154 (wc3 H) := by rw [hw3, hw2, hw1]; exact ((Blk.new _ _ _).alloc _).alloc _)
 have n1 : Blk w3 (w.heap.size + 1) 217 #[.int .u64 (wrd lo), .int .u64 (wrd hi)] := by
  have : w1.heap.size = w.heap.size + 1 := by rw [hw1]; simp
  rw [<- this, hw3, hw2]; exact (Blk.new _ _ _).alloc _
 first
  |(guard_expr zA=zA
    have n2 : Blk w3 (w.heap.size + 1 + 1) 150 (wcs (zw 8)) := by
     have : w2.heap.size = w.heap.size + 1 + 1 := by rw [hw2, hw1]; simp
     rw [<- this, hw3]; exact Blk.new _ _ _)
  |(have n2 : Blk w3 (w.heap.size + 1 + 1) 154 (wc3 (zw3 8)) := by
     have : w2.heap.size = w.heap.size + 1 + 1 := by rw [hw2, hw1]; simp
     rw [<- this, hw3]; exact Blk.new _ _ _)
 have n4 : Below w.heap.size w w3 := by rw [hw3, hw2, hw1]; exact bal (bal (bal (b0 _) _) _) _
 first
  |(guard_expr zA=zA
    have hbw := blockWords_any A c x w.heap.size w3 HX n4.size (HR.below n4);have hcomp := fun W => comp_any H (wordsOf x 16) lo hi last node W HH hMl
    have hFl := comp64_len H (wordsOf x 16) lo hi last node;generalize wordsOf x 16 = M at *;generalize comp64 H M lo hi last node = F at *)
  |(have hbw := blockWords3_any A c x w.heap.size w3 HX n4.size (HR.below n4)
    have hcomp := fun W => comp3_any H (words3 x 16) lo last node W HH hMl
    have hFl := comp32_len H (words3 x 16) lo last node;generalize words3 x 16 = M at *;generalize comp32 H M lo last node = F at *)
 clear hw1 hw2 hw3 w1 w2
 first
  |(guard_expr zA=zA
    have hu8 := zH Tryz.underlying150; have hu16 := zH Tryz.underlying97;have s8 := zH (sz8w H HH); have sM := zH (sz16w M hMl); have sF := zH (sz8w F hFl);have aM := zH (wcs_all M); have aF := zH (wcs_all F);have hoM : Hid ((wcs (zw 16)).size = (wcs M).size) := by show _ = _; rw [wcs_size, wcs_size, hMl]; rfl
    have hoF : Hid ((wcs (zw 8)).size = (wcs F).size) := by show _ = _; rw [wcs_size, wcs_size, hFl]; rfl)
  |(have hu8 := zH Tryz.underlying154; have hu16 := zH Tryz.underlying155
    have s8 := zH (sz8s H HH); have sM := zH (sz16s M hMl); have sF := zH (sz8s F hFl);have aM := zH (wc3_all M); have aF := zH (wc3_all F);have hoM : Hid ((wc3 (zw3 16)).size = (wc3 M).size) := by show _ = _; rw [wc3_size, wc3_size, hMl]; rfl
    have hoF : Hid ((wc3 (zw3 8)).size = (wc3 F).size) := by show _ = _; rw [wc3_size, wc3_size, hFl]; rfl)
 have N0 := zH n0; have N1 := zH n1; have N2 := zH n2; have N4 := zH n4; have HW := zH hbw; have HC := zH hcomp; clear n0 n1 n2 n4 hbw hcomp hMl hFl;have E4 := zH e4; clear e4
 first
  |(guard_expr zA=zA;go_enter Tryz.func143, Tryz.ntmps143)
  |(go_enter Tryz.func146, Tryz.ntmps146)
 go_upto_region 1 with fail
 rw [E4.out];go_wp2_with fail;refine HW.mono ?_;rintro e w5 ⟨rfl, hb5⟩
 first
  |(guard_expr zA=zA
    have q0 := (N0.below hb5 N0.lt).alloc (.cells z16 97);have q1 := (N1.below hb5 N1.lt).alloc (.cells z16 97);have q2 := (N2.below hb5 N2.lt).alloc (.cells z16 97);have q4 := bal (bcall N4 hb5) (.cells z16 97);have q3 : Blk (w5.alloc (.cells z16 97)) w5.heap.size 97 (wcs (zw 16)) := Blk.new _ _ _)
  |(have q0 := (N0.below hb5 N0.lt).alloc (.cells z16s 155)
    have q1 := (N1.below hb5 N1.lt).alloc (.cells z16s 155);have q2 := (N2.below hb5 N2.lt).alloc (.cells z16s 155);have q4 := bal (bcall N4 hb5) (.cells z16s 155);have q3 : Blk (w5.alloc (.cells z16s 155)) w5.heap.size 155 (wc3 (zw3 16)) := Blk.new _ _ _)
 have hs5 : w.heap.size + 1 + 1 < w5.heap.size := by have := N2.lt; have := hb5.size; omega
 first
  |(guard_expr zA=zA;unfold z16 at q0 q1 q2 q3 q4)
  |(unfold z16s at q0 q1 q2 q3 q4)
 have Q3 := zH q3; clear q3 hb5 N0 N1 N2 N4
 first
  |(guard_expr zA=zA
    go_upto_region 2 with (refine aZE rfl 97 _ _ rfl w5.heap.size (wcs M) rfl rfl 97 _ Q3 sM.out hoM.out aM.out ?_)
    have q3 := Q3.row (wcs M);replace q0 := q0.rowFar (k := w5.heap.size) (by omega) (wcs M); replace q1 := q1.rowFar (k := w5.heap.size) (by omega) (wcs M); replace q2 := q2.rowFar (k := w5.heap.size) (by omega) (wcs M); replace q4 := brow q4 (g := w5.heap.size) (by omega) (wcs M))
  |(go_upto_region 2 with (refine aZE rfl 155 _ _ rfl w5.heap.size (wc3 M) rfl rfl 155 _ Q3 sM.out hoM.out aM.out ?_)
    have q3 := Q3.row (wc3 M);replace q0 := q0.rowFar (k := w5.heap.size) (by omega) (wc3 M); replace q1 := q1.rowFar (k := w5.heap.size) (by omega) (wc3 M); replace q2 := q2.rowFar (k := w5.heap.size) (by omega) (wc3 M); replace q4 := brow q4 (g := w5.heap.size) (by omega) (wc3 M))
 clear Q3
 first
  |(guard_expr zA=zA;generalize (w5.alloc (.cells #[.int .u64 0, .int .u64 0, .int .u64 0, .int .u64 0, .int .u64 0, .int .u64 0, .int .u64 0, .int .u64 0, .int .u64 0, .int .u64 0, .int .u64 0, .int .u64 0, .int .u64 0, .int .u64 0, .int .u64 0, .int .u64 0] 97)).setRow w5.heap.size (wcs M) = w6 at *)
  |(generalize (w5.alloc (.cells #[.int .u32 0, .int .u32 0, .int .u32 0, .int .u32 0, .int .u32 0, .int .u32 0, .int .u32 0, .int .u32 0, .int .u32 0, .int .u32 0, .int .u32 0, .int .u32 0, .int .u32 0, .int .u32 0, .int .u32 0, .int .u32 0] 155)).setRow w5.heap.size (wc3 M) = w6 at *)
 have Q0 := zH q0; have Q2 := zH q2; have Q3 := zH q3; have Q4 := zH q4;have d0 : w6.cell? ⟨w.heap.size + 1, 0, none⟩ = some (.int .u64 (wrd lo)) := q1.cell 0;have d1 : w6.cell? ⟨w.heap.size + 1, 1, none⟩ = some (.int .u64 (wrd hi)) := q1.cell 1;clear q0 q1 q2 q3 q4
 first
  |(guard_expr zA=zA
    go_wp2_with (first
     | (refine aZH rfl 150 _ rfl w.heap.size rfl 150 (wcs H) (0, 0) _ Q0 hu8.out rfl s8.out ?_)
     | (refine aZH rfl 97 _ rfl w5.heap.size rfl 97 (wcs M) (0, 0) _ Q3 hu16.out rfl sM.out ?_)
     | (go_at_call 158; refine (HC _).mono ?_; rintro e w7 ⟨rfl, hb7⟩)
     | (refine aZE rfl 150 _ _ rfl (w.heap.size + 1 + 1) (wcs F) rfl rfl 150 _ (Q2.below hb7 Q2.lt) sF.out hoF.out aF.out ?_)))
  |(go_wp2_with (first
     | (refine aZH rfl 154 _ rfl w.heap.size rfl 154 (wc3 H) (0, 0) _ Q0 hu8.out rfl s8.out ?_)
     | (refine aZH rfl 155 _ rfl w5.heap.size rfl 155 (wc3 M) (0, 0) _ Q3 hu16.out rfl sM.out ?_)
     | (go_at_call 164; refine (HC _).mono ?_; rintro e w7 ⟨rfl, hb7⟩)
     | (refine aZE rfl 154 _ _ rfl (w.heap.size + 1 + 1) (wc3 F) rfl rfl 154 _ (Q2.below hb7 Q2.lt) sF.out hoF.out aF.out ?_)))
 exact bodyPost_ret (results_cell_row rfl _ _ (w.heap.size + 1 + 1) _ _ (0, 0) _ rfl ((Q2.below hb7 Q2.lt).row _) hu8.out rfl sF.out) rfl ⟨rfl, brow (bcall Q4.out hb7) (by omega) _⟩
 ) : P := h
theorem zS46 {P : Prop} (h : P := by
 have t1 : (L == -1) = false := by simpa using h0
 have t2 : (L != -1) = true := by simpa using h0
 obtain ⟨c, hc⟩ : ∃ c, IntKind.u32.wrap L = c := ⟨_, rfl⟩;obtain ⟨t, ht⟩ : ∃ t, IntKind.u64.wrap L = t := ⟨_, rfl⟩
 by_cases h3 : 1 <= L
 ·have t3 : decide (1 <= L) = true := by simpa using h3
  first
   |(guard_expr zA=zA;have t4 : decide (L <= 4294967294) = false := by simp; omega)
   |(have t4 : decide (L <= 65534) = false := by simp; omega)
  clear h0 h1 h3;go_enter Tryz.func57, Tryz.ntmps57;go_wp2;exact aZB (results_cell_tmp rfl _ _ w.heap.size 67 _ _ rfl ((Blk.new w _ _).alloc _) Tryz.underlying67 rfl (by kernel_rfl)) rfl ⟨_, _,rfl, bal (bal (b0 w) _) _⟩
 ·have t3 : decide (1 <= L) = false := by simpa using h3
  clear h0 h1 h3;go_enter Tryz.func57, Tryz.ntmps57;go_wp2;exact aZB (results_cell_tmp rfl _ _ w.heap.size 67 _ _ rfl ((Blk.new w _ _).alloc _) Tryz.underlying67 rfl (by kernel_rfl)) rfl ⟨_, _,rfl, bal (bal (b0 w) _) _⟩
 ) : P := h
theorem zS47 {P : Prop} (h : P := by
 first
  |(guard_expr zA=zA
    rw [Nat.min_eq_left (Nat.le_of_lt hlt)] at hh;have t1 : (L < f) = True := by simp [hlt])
  |(rw [Nat.min_eq_right (by omega)] at hh
    have t1 : (L < f) = False := by simp [hlt])
 have HH := zH hh; have HRS := zH hrs; have HRP := zH hrp; have HRR := zH hrr;clear hh hrs hrp hrr hI hT hc hs ht hls hlp hl hnr hcr hb hb0 hq hL hqi hli;go_enter Tryz.func47, Tryz.ntmps47;go_wp2_with fail;refine (HH.out _ ((((HRS.alloc (aZC _) _).more (by simp)).alloc (aZC _) _).more (by simp)) ((((HRP.alloc (aZC _) _).more (by simp)).alloc (aZC _) _).more (by simp)) ((((HRR.alloc (aZC _) _).more (by simp)).alloc (aZC _) _).more (by simp))).mono ?_;rintro e1 w1 ⟨A1, n1, c1, cc1, rfl, hl1, hcc1, ho1, hb1⟩;have HL1 := zH hl1; have HC1 := zH hcc1; have HO1 := zH (ho1.mono (show w.heap.size <= _ by simp; omega)); have HB1 := zH (bcall (bal (bal (b0 w) _) _) hb1); clear hl1 hcc1 ho1 hb1;go_wp2_with fail;exact aZB (aZK rfl _ _ _) rfl ⟨A1, n1, c1, cc1, rfl, HL1.out, HC1.out, HO1.out, HB1.out⟩
 ) : P := h
theorem zS48 {P : Prop} (h : P := by
 obtain ⟨j, x, hj, rfl, rfl, hx⟩ := hrel;have HX := zH hx; clear hx
 by_cases hlt : 0 < j
 ·obtain ⟨i, rfl⟩ : ∃ i, j = i + 1 := ⟨j - 1, by omega⟩
  obtain ⟨ad, b, rfl, -, eb, gb⟩ := HR.at_ (k := at_ + i) (by rw [HN.out]; omega);change w.cell? (ad.add (at_ + i)) = some (.int .u8 (byt b)) at gb;have EB := zH eb; clear eb;have gk : (at_ : Int) + i < N := by omega
  have ei : ((i + 1 : Nat) : Int) - 1 = (i : Int) := by omega
  first
   |(guard_expr zA=zA)
   |(have hx8 : x < 256 ^ (n - (i + 1)) := by
      have := le_lt ((l.drop (at_ + (i + 1))).take (n - (i + 1)));rw [<- HX.out] at this;have e4 : ((l.drop (at_ + (i + 1))).take (n - (i + 1))).length = n - (i + 1) := by simp; have := HN.out; omega
      rwa [e4] at this
     have so := shl_or x (n - (i + 1)) b (by omega) hx8;have HX8 := zH hx8; clear hx8)
  have r1 := byt_range b;obtain ⟨r1, r2⟩ := r1;rw [ei];go_wp2
  case roundEnd =>
   have e3 : n - i = (n - (i + 1)) + 1 := by omega
   have e : (l.drop (at_ + i)).take (n - i) = b :: (l.drop (at_ + (i + 1))).take (n - (i + 1)) := by
    have hl : at_ + i < l.length := by have := HN.out; omega
    rw [e3, List.drop_eq_getElem_cons hl, List.take_succ_cons]
    first
     |(guard_expr zA=zA;have : l[at_ + i] = b := by have := EB.out; rw [List.getElem?_eq_getElem hl] at this; exact aZF this)
     |(have : l[at_ + i] = b := by have := EB.out; rw [List.getElem?_eq_getElem hl] at this; exact Option.some.inj this)
    rw [this]; rfl
   first
    |(guard_expr zA=zA
      have hx : x < 256 ^ (n - (i + 1)) := by
       have := le_lt ((l.drop (at_ + (i + 1))).take (n - (i + 1)));rw [<- HX.out] at this;have e4 : ((l.drop (at_ + (i + 1))).take (n - (i + 1))).length = n - (i + 1) := by simp; have := HN.out; omega
       rwa [e4] at this
      refine ⟨⟨i, b.toNat + 256 * x, by omega, rfl, by rw [ld_back x (n - (i + 1)) b (by omega) hx], ?_⟩, by simp [intOf]⟩)
    |(refine ⟨⟨i, b.toNat + 256 * x, by omega, rfl, (by first | rw [so] | rfl), ?_⟩, by simp [intOf]⟩)
   rw [e, HX.out]; rfl
 ·obtain rfl : j = 0 := by omega
  go_wp2
  first
   |(guard_expr zA=zA;exact aZB (aZG rfl _ _ _) rfl ⟨by rw [HX.out]; simp only [Nat.add_zero, Nat.sub_zero]; rfl, rfl⟩)
   |(exact aZB (aZK rfl _ _ _) rfl ⟨by rw [HX.out]; simp only [Nat.add_zero, Nat.sub_zero]; rfl, rfl⟩)
 ) : P := h
theorem zS49 {P : Prop} (h : P := by
 first
  |(guard_expr zA=zA
    have t3 : (0 < n') = True := by simp [h0]
    have t4 : (m.T <= fr0) = False := by simp; omega)
  |(have t3 : (0 < n') = False := by simp [h0])
 clear hv h1 h2 h3 h4 h5 h6 hn he h0;go_enter Tryz.func36, Tryz.ntmps36;go_wp2_with (first
  | (go_at_call 19; refine HVA.mono ?_; rintro e1 w1 ⟨rfl, hb1⟩; have HB := zH hb1; clear hb1)
  | (go_at_call 30; refine (HTO _).mono ?_; rintro e3 w3 ⟨rfl, rfl⟩))
 refine (HPA.out _ cd false 0 n' _ (Blk.new w1 38 _) ((((HRK.below HB.out).more HB.size).alloc (aZC _) _).more (by simp)) ((((HRD.below HB.out).more HB.size).alloc (aZC _) _).more (by simp)) HN.out).mono ?_;rintro e4 w4 ⟨A, c, rfl, ho, hb4⟩;have HB4 := zH (bcall (bal HB _) hb4); have HO4 := zH (ho.mono (show w.heap.size <= _ from (bal HB _).size)); clear ho hb4;go_wp2_with fail;exact aZB (aZG rfl _ _ _) rfl ⟨A, _, c, rfl, HROW _ _ _, HO4.out, HB4.out⟩
 ) : P := h
theorem zS50 {P : Prop} (h : P := by
 first
  |(guard_expr zA=zA
    have hjd : decide ((j' : Int) < (lb : Int)) = true := by simp <;> omega
    have hjT : (j' < lb) = True := by simp [hjb]
    have hkd : decide ((k' : Int) < (n : Int)) = false := by simp <;> omega
    have hkT : (k' < n) = False := by simp [hkn])
  |(have hjd : decide ((j' : Int) < (lb : Int)) = false := by simp <;> omega
    have hjT : (j' < lb) = False := by simp [hjb])
 have g3 := HX8.out;have g2 : k + 1 <= k' := part_more n fr0 f i k k' a' j' j0 lb a g3.1 g3.2.2.1 g3.2.2.2.1 g3.2.2.2.2 HNUM.out.1 HNUM.out.2.2.2.2.2.2.1 HNUM.out.2.2.2.2.1 (by omega) HLT.out;have g4 : k' <= n := by have := g3.2.1; omega
 have G2 := zH g2; have G4 := zH g4
 first
  |(guard_expr zA=zA;clear g2 g3 g4 hjb hkn)
  |(clear g2 g3 g4 hjb)
 go_wp2_with fail;go_roundw
 case rel =>
  have hb9 : Below W.heap.size W6 wr := HB8.toBelow (aZL HBE.size HB7.size) (fun k9 h9 => by
   obtain ⟨a9, ha9, hb9⟩ := mem_obl.1 h9;rw [<- hb9]; exact (HO.block_lt a9 ha9).1)
  exact ⟨k', a', A', c', HX8.out.2.1, HX8.out.2.2.1, rfl, rfl, HO8.out, HBE.trans ((HB7.mono HBE.size).trans hb9)⟩
 case measure =>
  show n - k' < n - k
  exact meas2 _ _ _ G2 G4.out
 ) : P := h
theorem zS51 {P : Prop} (h : P := by
 first
  |(guard_expr zA=zA;subst h1)
  |(subst h2)
 by_cases hx : xo = 0
 ·subst hx
  go_enter Tryz.func42, Tryz.ntmps42
  first
   |(guard_expr zA=zA;go_wp2_with (go_at_call 62; refine (most_big _).mono ?_; rintro e w1 ⟨rfl, rfl⟩))
   |(go_wp2_with (go_at_call 62; refine (most_small _).mono ?_; rintro e w1 ⟨rfl, rfl⟩))
  all_goals refine aZB (aZK rfl _ _ _) rfl ⟨?_, bal (b0 _) _⟩
  all_goals refine ret_int ?_
  all_goals rw [HR.out]
  all_goals unfold chk mostOf
  all_goals dsimp only
  all_goals (repeat (first | rw [if_neg (by omega)] | rw [if_pos (by omega)]))
 ·have hx0 : (xo == 0) = false := by simpa using hx
  have hx1 : (xo != 0) = true := by simpa using hx
  go_enter Tryz.func42, Tryz.ntmps42
  first
   |(guard_expr zA=zA;go_wp2_with (go_at_call 62; refine (most_big _).mono ?_; rintro e w1 ⟨rfl, rfl⟩))
   |(go_wp2_with (go_at_call 62; refine (most_small _).mono ?_; rintro e w1 ⟨rfl, rfl⟩))
  all_goals refine aZB (aZK rfl _ _ _) rfl ⟨?_, bal (b0 _) _⟩
  all_goals refine ret_int ?_
  all_goals rw [HR.out]
  all_goals unfold chk mostOf
  all_goals dsimp only
  all_goals (repeat (first | rw [if_neg (by omega)] | rw [if_pos (by omega)]))
 ) : P := h
theorem zS52 {P : Prop} (h : P := by
 have hb := (h.same hg).drewN m
 first
  |(guard_expr zA=zA;refine ⟨E64.put hb h.st.ok.H (ho.drewN m) (by rw [hn]; exact hl) hn, ((h.gr.grown hg ?_).drewN m).setCell rfl _, ?_⟩)
  |(refine ⟨E32.put hb h.st.ok.H (ho.drewN m) (by rw [hn]; exact hl) hn, ((h.gr.grown hg ?_).drewN m).setCell rfl _, ?_⟩)
 ·rcases h.row with e | e
  ·exact .inr (.inl e)
  ·refine .inr (.inr fun k hk => ?_)
   cases hA1 : A1 with
   | none => rw [hA1] at hk; cases hk
   | some a => rw [hA1] at hk; simp only [Option.map_some, bZU] at hk; have := e a hA1; omega
 ·rcases hA with hA | hA
  ·rcases h.row with e | e
   ·exact .inl (hA.trans e)
   ·refine .inr fun a ha => ?_
    subst ha
    cases hA1 : A1 with
    | none => rw [hA1] at hA; cases hA
    | some a1 => rw [hA1] at hA; simp only [Option.map_some, bZU] at hA; have := e a1 hA1; omega
  ·refine .inr fun a ha => ?_
   subst ha;simp only [Option.map_some, bZU] at hA;have := h.gr.size;omega
 ) : P := h
theorem zS53 {P : Prop} (h : P := by
 by_cases h0 : len = -1
 ·subst h0
  clear ho hb hlen hk;go_enter Tryz.func19, Tryz.ntmps19;go_wp2_with (go_at_call 41; refine (HF _).mono ?_; rintro e1 w1 ⟨rfl, rfl⟩);exact aZB (aZK rfl _ _ _) rfl ⟨rfl, b0 w⟩
 ·have hr := hlen.resolve_left h0
  have t2 : (len != -1) = true := by simpa using h0
  have t3 : (len == -1) = false := by simpa using h0
  have t4 : decide (len < 1) = false := by simp; omega
  first
   |(guard_expr zA=zA;have t5 : decide (4294967294 < len) = false := by have := hr.2; unfold xMost at this; simp at this; simp; omega)
   |(have t5 : decide (65534 < len) = false := by have := hr.2; unfold xMost at this; simp at this; simp; omega)
  clear ho hb hlen hk h0 hr;go_enter Tryz.func19, Tryz.ntmps19;go_wp2_with (go_at_call 41; refine (HF _).mono ?_; rintro e1 w1 ⟨rfl, rfl⟩);exact aZB (aZK rfl _ _ _) rfl ⟨rfl, b0 w⟩
 ) : P := h
theorem zS54 {P : Prop} (h : P := by
 intro k hk;rcases mem_foot.1 hk with h | h | ⟨a, h1, h2⟩ | ⟨a, h1, h2⟩ | ⟨a, h1, h2⟩
 ·exact .inl (mem_foot.2 (.inl h))
 ·exact .inl (mem_foot.2 (.inr (.inl h)))
 ·exact .inl (mem_foot.2 (.inr (.inr (.inl ⟨a, h1, h2⟩))))
 ·exact .inl (mem_foot.2 (.inr (.inr (.inr (.inl ⟨a, h1, h2⟩)))))
 ·first
   |(guard_expr zA=zA;rcases HR with h3 | h3)
   |(rcases hW.row with h3 | h3)
  ·cases hA : A with
   | none => rw [h1, hA] at h3; cases h3
   | some a' => rw [h1, hA] at h3; injection h3 with h3; exact .inl (mem_foot.2 (.inr (.inr (.inr (.inr ⟨a', rfl, (show a.block = a'.block from h3).symm.trans h2⟩)))))
  ·exact .inr (by rw [<- h2]; exact h3 a h1)
 ) : P := h
theorem zS55 {P : Prop} (h : P := by
 first
  |(guard_expr zA=zA;have HX := zH hx; have HR := zH (hr.more hB); clear hx hr)
  |(have HX := zH hx; have HR := zH hr; clear hx hr)
 obtain ⟨S, hS⟩ : ∃ S, S = start64 x := ⟨_, rfl⟩;have hSl : S.length = 8 := by rw [hS, start64_len]
 have hSk : ∀ k, k < 8 -> S[k]? = some (iv64.getD k 0 ^^^ word ((x.drop (8 * k)).take 8)) := by
  intro k hk;rw [hS];exact xorW_at iv64 (wordsOf x 8) k _ _ (getDW iv64 k hk) (wordsOf_at x 8 k hk)
 rw [<- hS]
 first
  |(guard_expr zA=zA
    have hiv := iv_any;have hIl : iv64.length = 8 := rfl;have sI := zH (sz8w iv64 hIl))
  |(have hiv := refIV_any)
 generalize iv64 = I at *
 first
  |(guard_expr zA=zA;have HSK := zH hSk; have HSL := zH hSl; have HIV := zH hiv; have HIL := zH hIl; clear hS hSl hSk hiv hIl)
  |(have HSK := zH hSk; have HSL := zH hSl; have HIV := zH hiv; clear hS hSl hSk hiv)
 have hu := zH Tryz.underlying150;have sS := zH (sz8w S HSL)
 first
  |(guard_expr zA=zA
    have aS := zH (wcs_all S); have aI := zH (wcs_all I);have hoS : Hid ((wcs (zw 8)).size = (wcs S).size) := by show _ = _; rw [wcs_size, wcs_size, HSL.out]; rfl
    have hoI : Hid ((wcs (zw 8)).size = (wcs I).size) := by show _ = _; rw [wcs_size, wcs_size, HIL.out]; rfl
    go_enter Tryz.func142, Tryz.ntmps142;go_wp2_with fail;refine (HIV _).mono ?_;rintro e w1 ⟨rfl, hb1⟩;have n0 : Blk (w.alloc (.cells z8 150)) w.heap.size 150 (wcs (zw 8)) := Blk.new _ _ _;have n4 := bal (b0 w) (.cells z8 150);unfold z8 at n0 n4;replace n0 := n0.below hb1 n0.lt;replace n4 := bcall n4 hb1;have n1 : Blk (w1.alloc (.cells z8 150)) w1.heap.size 150 (wcs (zw 8)) := Blk.new _ _ _;replace n0 := n0.alloc (.cells z8 150);replace n4 := bal n4 (.cells z8 150))
  |(have aS := zH (wcs_all S)
    have e0 : wcs (fillU S 0 8) = z8 := rfl;have hoS : Hid ((wcs (fillU S 0 8)).size = (wcs S).size) := by show _ = _; rw [wcs_size, wcs_size, fillU_len _ _ _ (by omega) HSL.out, HSL.out]
    go_enter Tryz.func116, Tryz.ntmps116;go_upto_region 4 with fail
    have n0 : Blk ((w.alloc (.cells z8 150)).alloc (.cells z8 150)) w.heap.size 150 (wcs (fillU S 0 8)) := by rw [e0]; exact (Blk.new _ _ _).alloc _
    have n1 : Blk ((w.alloc (.cells z8 150)).alloc (.cells z8 150)) (w.heap.size + 1) 150 (wcs (fillU S 0 8)) := by
     rw [e0]; simpa using Blk.new (w.alloc (.cells z8 150)) 150 z8
    have n4 := bal (bal (b0 w) (.cells z8 150)) (.cells z8 150);clear e0)
 unfold z8 at n0 n1 n4
 first
  |(guard_expr zA=zA
    have hlt0 : w.heap.size < w1.heap.size := by have := hb1.size; simp at this; omega
    have N1 := zH n1;clear hb1 n1;go_upto_region 4 with (refine aZE rfl 150 _ _ rfl w1.heap.size (wcs I) rfl rfl 150 _ N1 sI.out hoI.out aI.out ?_)
    have n1 := N1.row (wcs I);replace n0 := n0.rowFar (k := w1.heap.size) (by omega) (wcs I); replace n4 := brow n4 (g := w1.heap.size) (by omega) (wcs I))
  |(skip)
 obtain ⟨b, hb⟩ : ∃ b, b = w.heap.size := ⟨_, rfl⟩
 first
  |(guard_expr zA=zA
    obtain ⟨g, hg⟩ : ∃ g, g = w1.heap.size := ⟨_, rfl⟩;have hwb : Hid (w.heap.size <= b) := by (show _ <= _; omega)
    rw [<- hg, <- hb] at hlt0;rw [<- hg] at n0 n1 n4 ⊢;rw [<- hb] at n0 ⊢;clear N1 hb hg;generalize (w1.alloc (.cells #[.int .u64 0, .int .u64 0, .int .u64 0, .int .u64 0, .int .u64 0, .int .u64 0, .int .u64 0, .int .u64 0] 150)).setRow g (wcs I) = w2 at *;have N0 := zH n0; have N1 := zH n1; have N4 := zH n4; clear n0 n1 n4)
  |(rw [<- hb] at n0 n1 ⊢
    generalize (w.alloc (.cells #[.int .u64 0, .int .u64 0, .int .u64 0, .int .u64 0, .int .u64 0, .int .u64 0, .int .u64 0, .int .u64 0] 150)).alloc (.cells #[.int .u64 0, .int .u64 0, .int .u64 0, .int .u64 0, .int .u64 0, .int .u64 0, .int .u64 0, .int .u64 0] 150) = w0 at *;have N0 := zH n0; have N1 := zH n1; have N4 := zH n4; have hwb : Hid (w.heap.size <= b) := by (show _ <= _; omega)
    clear n0 n1 n4 hb)
 go_wp2_with fail
 first
  |(guard_expr zA=zA
    go_loopw [13] (fun i wr => ∃ k : Nat, k <= 8 /\ i = .int .i64 k /\ Blk wr b 150 (wcs (zw 8)) /\ Blk wr g 150 (wcs (halfW S I k)) /\ Below w.heap.size w wr) (fun i _ => 8 - (intOf i).toNat)
    case atStart => exact ⟨0, by omega, rfl, N0.out, by simpa [halfW] using N1.out, N4.out⟩)
  |(go_loopw [5] (fun i wr => ∃ k : Nat, k <= 8 /\ i = .int .i64 k /\ Blk wr b 150 (wcs (fillU S 0 8)) /\ Blk wr (b + 1) 150 (wcs (fillU S k 8)) /\ Below w.heap.size w wr) (fun i _ => 8 - (intOf i).toNat)
    case atStart => exact ⟨0, by omega, rfl, N0.out, N1.out, N4.out⟩)
 case round =>
  clear N0 N1 N4;obtain ⟨k, hk, rfl, x0, x1, x4⟩ := hrel;have N0 := zH x0; have N1 := zH x1; have N4 := zH x4; clear x0 x1 x4
  by_cases hlt : k < 8
  ·first
    |(guard_expr zA=zA;have hl := load64_any A c 64 (8 * k) w.heap.size x wr HX.out (by omega) (HR.below N4.out) (by omega))
    |(have hl := refLoad_any A c 64 (8 * k) 8 w.heap.size x wr HX.out (by omega) (HR.below N4.out) (by omega) (by omega))
   have e8 : ((8 * k : Nat) : Int) = 8 * (k : Int) := by omega
   rw [e8] at hl;have hsk := HSK k hlt;obtain ⟨v, hv⟩ : ∃ v, v = word ((x.drop (8 * k)).take 8) := ⟨_, rfl⟩
   first
    |(guard_expr zA=zA)
    |(have hI := fun W => HIV k hlt W)
   obtain ⟨q, hq⟩ : ∃ q, q = I.getD k 0 := ⟨_, rfl⟩;rw [<- hv] at hl hsk
   first
    |(guard_expr zA=zA
      have gc : wr.cell? ⟨g, k, none⟩ = some (.int .u64 (wrd q)) := by rw [N1.cell, wcs_at' _ k q (by rw [hq]; exact halfW_at S I k (by rw [HIL.out]; exact hlt) (by rw [HIL.out, HSL.out]))]
      have gf : wr.frozen? ⟨g, k, none⟩ = false := N1.frozen k;rw [<- hq] at hsk;have HL := zH hl; have HSV := zH hsk; clear hl hv e8 hsk hq)
    |(rw [<- hq] at hsk hI
      have HL := zH hl; have HSV := zH hsk; have HI := zH hI; clear hl hv e8 hsk hq hI)
   have h2 := wrd_xor;have hki : (k : Int) < 8 := by omega
   first
    |(guard_expr zA=zA;go_wp2_with (go_at_call 156; refine HL.mono ?_; rintro e w3 ⟨rfl, rfl⟩))
    |(go_wp2_with (first
       | (go_at_call 118; refine HL.mono ?_; rintro e w3 ⟨rfl, rfl⟩)
       | (go_at_call 134; refine (HI.out _).mono ?_; rintro e w4 ⟨rfl, hb4⟩; have n1 := N1.below hb4 N1.lt; have gc : w4.cell? ⟨b + 1, k, none⟩ = some (wv ((fillU S k 8).getD k 0)) := (n1.cell k).trans (wcs_get _ _ (by rw [fillU_len _ _ _ hk HSL.out]; exact hlt)); have gf : w4.frozen? ⟨b + 1, k, none⟩ = false := n1.frozen k; generalize wv ((fillU S k 8).getD k 0) = old at gc; have N1' := zH n1; have HB4 := zH hb4; clear n1 hb4)))
   case roundEnd =>
    first
     |(guard_expr zA=zA
       have h1 := N1.set_ k (wv (q ^^^ v));rw [wcs_set, halfW_put S I k _ HSV.out (by rw [HIL.out, HSL.out])] at h1;exact ⟨⟨k + 1, by omega, by go_num, N0.far (p := ⟨g, k, none⟩) (by simp; omega) _, h1, bput N4.out (p := ⟨g, k, none⟩) (by have := hwb.out; simp; omega) _⟩, by simp [intOf]; omega⟩)
     |(have h1 := N1'.set_ k (wv (q ^^^ v))
       rw [fillU_put _ k 8 _ hlt HSV.out] at h1;exact ⟨⟨k + 1, by omega, by go_num, (N0.below HB4.out N0.lt).far (p := ⟨b + 1, k, none⟩) (by simp) _, h1, bput (bcall N4.out HB4.out) (p := ⟨b + 1, k, none⟩) (by have := hwb.out; simp; omega) _⟩, by simp [intOf]; omega⟩)
  ·obtain rfl : k = 8 := by omega
   clear hlt hk;have x1 := N1.out
   first
    |(guard_expr zA=zA;rw [halfW_all S I 8 HSL.out HIL.out] at x1)
    |(rw [fillU_all _ 8 HSL.out] at x1)
   have X1 := zH x1; clear x1 N1
   first
    |(guard_expr zA=zA
      go_upto_region 10 with fail
      go_wp2_with (first
       | (refine aZH rfl 150 _ rfl g rfl 150 (wcs S) (0, 0) _ X1 hu.out rfl sS.out ?_)
       | (refine aZE rfl 150 _ _ rfl b (wcs S) rfl rfl 150 _ N0 sS.out hoS.out aS.out ?_)))
    |(go_upto_region 9 with fail
      go_wp2_with (first
       | (refine aZH rfl 150 _ rfl (b + 1) rfl 150 (wcs S) (0, 0) _ X1 hu.out rfl sS.out ?_)
       | (refine aZE rfl 150 _ _ rfl b (wcs S) rfl rfl 150 _ N0 sS.out hoS.out aS.out ?_)))
   exact aZB (results_cell_tmp rfl _ _ b _ _ _ rfl (N0.row _) hu.out rfl sS.out) rfl ⟨rfl, brow N4 hwb.out _⟩
 ) : P := h
theorem zS56 {P : Prop} (h : P := by
 obtain ⟨k, A1, c1, hk, rfl, rfl, hos, hbw⟩ := hrel;have HO := zH hos; have HB := zH hbw; clear hos hbw
 by_cases hlt : k < n
 ·have hkd : decide ((k : Int) < n) = true := by simp; omega
  have hkl : Hid ((C.take k).length = k) := by show _ = _; rw [aZJ, HCL.out]; omega
  first
   |(guard_expr zA=zA
     obtain ⟨j, hj⟩ : ∃ j, j = at_ + k := ⟨_, rfl⟩;have hji : (at_ : Int) + (k : Int) = (j : Int) := by omega
     have hjw : IntKind.i64.wrap (j : Int) = j := by simp [IntKind.wrap, IntKind.bits, aZM]; omega
     have HJ := zH hj
     by_cases hjN : j < N)
   |(by_cases hjN : k < nk)
  ·first
    |(guard_expr zA=zA
      obtain ⟨ad, x, rfl, -, hlx, hcx⟩ := (HR.below HB.out).at_ (k := j) (by rw [HM.out]; exact hjN);change wr.cell? (ad.add j) = some (.int .u8 (byt x)) at hcx;have htk := take_more C k x (HIN.out k x hlt (by rw [<- hj]; exact hlx)))
    |(obtain ⟨ad, x, rfl, -, hlx, hcx⟩ := (HR.below HB.out).at_ (k := k) (by rw [HM.out]; exact hjN)
      change wr.cell? (ad.add k) = some (.int .u8 (byt x)) at hcx;have htk := take_more C k x (HIN k x hlx))
   have HTK := zH htk
   first
    |(guard_expr zA=zA
      have hjd : decide ((j : Int) < N) = true := by simp; omega
      clear hj htk hlx;go_wp2_with (at_builtin; refine wpList_appB1 _ rfl (.tmp 27) (.tmp 29) rfl (HO.alloc _) rfl hkl.out rfl (cnew _ _ _ rfl) x rfl (by omega) (by have := HB.size; simp; omega) ?_; intro A3 c3 w3 hown3 hgrow hat; have HW3 := zH (bapp (bal HB.out _) (HO.alloc _) hgrow); have HO3 := zH hown3; clear hown3 hgrow hat))
    |(have hjd : decide ((k : Int) < nk) = true := by simp; omega
      clear htk hlx;go_wp2_with (first
       | (go_at_call 79; refine (HBL _).mono ?_; rintro e2 w2 ⟨rfl, rfl⟩)
       | (at_builtin; refine wpList_appB1 _ rfl (.tmp 25) (.tmp 27) rfl (HO.alloc _) rfl hkl.out rfl (cnew _ _ _ rfl) x rfl (by omega) (by have := HB.size; simp; omega) ?_; intro A3 c3 w3 hown3 hgrow hat; have HW3 := zH (bapp (bal HB.out _) (HO.alloc _) hgrow); have HO3 := zH hown3; clear hown3 hgrow hat)))
   go_roundw
   case rel => exact ⟨k + 1, A3, c3, by omega, by go_num, rfl, by rw [HTK.out]; exact HO3.out, HW3.out⟩
   case measure => simp [intOf]; omega
  ·first
    |(guard_expr zA=zA;have htk := take_more C k 0 (HOUT.out k hlt (by rw [<- hj]; omega)))
    |(have htk := take_more C k 0 (HOUT.out k hlt (by omega)))
   have HTK := zH htk
   first
    |(guard_expr zA=zA
      have hjd : decide ((j : Int) < N) = false := by simp; omega
      clear hj htk;go_wp2_with (at_builtin; refine wpList_appB1 _ rfl (.tmp 27) (.tmp 29) rfl (HO.alloc _) rfl hkl.out rfl (cnew _ _ _ rfl) 0 rfl (by omega) (by have := HB.size; simp; omega) ?_; intro A3 c3 w3 hown3 hgrow hat; have HW3 := zH (bapp (bal HB.out _) (HO.alloc _) hgrow); have HO3 := zH hown3; clear hown3 hgrow hat))
    |(have hjd : decide ((k : Int) < nk) = false := by simp; omega
      clear htk;go_wp2_with (first
       | (go_at_call 79; refine (HBL _).mono ?_; rintro e2 w2 ⟨rfl, rfl⟩)
       | (at_builtin; refine wpList_appB1 _ rfl (.tmp 25) (.tmp 27) rfl (HO.alloc _) rfl hkl.out rfl (cnew _ _ _ rfl) 0 rfl (by omega) (by have := HB.size; simp; omega) ?_; intro A3 c3 w3 hown3 hgrow hat; have HW3 := zH (bapp (bal HB.out _) (HO.alloc _) hgrow); have HO3 := zH hown3; clear hown3 hgrow hat)))
   go_roundw
   case rel => exact ⟨k + 1, A3, c3, by omega, by go_num, rfl, by rw [HTK.out]; exact HO3.out, HW3.out⟩
   case measure => simp [intOf]; omega
 ·obtain rfl : k = n := by omega
  have hos := HO.out;rw [aZQ (Nat.le_of_eq HCL.out)] at hos;have HO2 := zH hos; clear hos
  first
   |(guard_expr zA=zA
     go_wp2_with fail;exact aZB (results_tmp rfl _ _ _) rfl ⟨_, _, rfl, HO2.out, HB.out⟩)
   |(go_wp2_with (go_at_call 79; refine (HBL _).mono ?_; rintro e2 w2 ⟨rfl, rfl⟩)
     exact aZB (results_tmp rfl _ _ _) rfl ⟨_, _, _, rfl, HCL.out, HO2.out, HB.out⟩)
 ) : P := h
theorem zS57 {P : Prop} (h : P := by
 first
  |(guard_expr zA=zA
    have t1 : decide (m < 1) = true := by simpa using h1
    clear hm)
  |(have t1 : decide (m < 1) = false := by simpa using h1
    have h2 := hm.resolve_left h1;have t2 : decide ((bo : Int) < m) = true := by simpa using h2
    clear hm h1)
 go_enter Tryz.func34, Tryz.ntmps34;go_wp2_with (first
  | (go_at_call 52; refine (HNEW.out _ ((HRS.alloc (aZC _) _).more (by simp)) ((HRP.alloc (aZC _) _).more (by simp)) ((HRK.alloc (aZC _) _).more (by simp))).mono ?_; rintro e w1 ⟨q, Am, nm, cm, rfl, hN1, hbw1⟩; (first | refine withN hbw1 ?_ | refine withD hbw1 ?_ | refine with0 hbw1 ?_); intro hcw1 hfw1; have z0w1 : w.heap.size < w1.heap.size := (by have := hbw1.size; (try simp at this); omega))
  | (go_at_call 33; refine (HFU _).mono ?_; rintro e2 w2 ⟨rfl, rfl⟩))
 exact aZB (aZG rfl _ _ _) rfl ⟨rfl, bcall (bal (b0 w) _) hbw1⟩
 ) : P := h
theorem zS58 {P : Prop} (h : P := by
 have hu := zH Tryz.underlying154;have hsz : Hid ((Tryz.prog.info? 154).map (·.size) = some (wc3 iv32).size) := by show _ = _; kernel_rfl
 have hn := zH (Blk.new w 154 #[.int .u32 0, .int .u32 0, .int .u32 0, .int .u32 0, .int .u32 0, .int .u32 0, .int .u32 0, .int .u32 0]);have hall := zH (wc3_all iv32)
 first
  |(guard_expr zA=zA;go_enter Tryz.func162, Tryz.ntmps162)
  |(go_enter Tryz.func135, Tryz.ntmps135)
 go_wp2_with (refine aZE rfl 154 _ _ rfl w.heap.size (wc3 iv32) rfl (by kernel_rfl) 154 _ hn.out hsz.out (by kernel_rfl) hall.out ?_);exact aZB (aZZ rfl _ _ w.heap.size _ _ (0, 0) _ rfl (hn.row _) hu.out rfl hsz.out) rfl ⟨rfl, brow (bal (b0 w) _) (Nat.le_refl _) _⟩
 ) : P := h
theorem zS59 {P : Prop} (h : P := by
 first
  |(guard_expr zB=zB
    have t1 : decide (n < 0) = false := by simpa using h1
    have t2 : decide (65536 < n) = true := by simp; omega
    clear hn h1 hd hnd hcd hfr)
  |(guard_expr zA=zA
    have t1 : decide (n < 0) = true := by simpa using h1
    clear hn h1 hd hnd hcd hfr)
  |(rw [takeS_end h6 hv hn he]
    have t3 : (0 < n') = True := by simp; omega
    have t4 : (m.T <= fr0) = True := by simp [he.2]
    clear hv h1 h2 h3 h4 h5 h6 hn he hd hnd hcd hfr)
 go_enter Tryz.func72, Tryz.ntmps72;go_wp2_with fail;refine HNW.mono ?_;rintro e1 w1 ⟨g, F, rfl, hX, hF, hb⟩;have HX := zH hX; have HF := zH hF; have HB := zH hb;have d3 : w1.cell? ⟨g, 3, none⟩ = some (.int .u64 m.T) := hX.total HM.out;have hgl : g < w1.heap.size := hX.lt _ hX.here;clear hX hF hb;go_wp2_with fail;exact aZB (aZG rfl _ _ _) rfl ⟨none, 0, 0, rfl, rfl, aZC _, OS.nil _ _ _ rfl, HB.out⟩
 ) : P := h
theorem zS60 {P : Prop} (h : P := by
 obtain ⟨u, hu⟩ : ∃ u, u = H.getD k 0 := ⟨_, rfl⟩;obtain ⟨v, hv⟩ : ∃ v, v = I.getD k 0 := ⟨_, rfl⟩
 first
  |(guard_expr zA=zA
    have hHk : H[k]? = some u := by rw [hu]; exact getD3 H k (by rw [HH.out]; exact hlt)
    have hIk : I[k]? = some v := by rw [hv]; exact getD3 I k (by rw [IVl.out]; exact hlt)
    have hput := halves3_put H I k u v hlt HH IVl hHk hIk)
  |(have hHk : H[k]? = some u := by rw [hu]; exact getDW H k (by rw [HH.out]; exact hlt)
    have hIk : I[k]? = some v := by rw [hv]; exact getDW I k (by rw [IVl.out]; exact hlt)
    have hI := fun W => hiv.out k hlt W
    rw [<- hv] at hI;have hput := halves_put H I k u v hlt HH IVl hHk hIk)
 obtain ⟨k8, hk8⟩ : ∃ k8, k8 = k + 8 := ⟨_, rfl⟩;rw [<- hk8] at hput;have e8 : (k : Int) + 8 = (k8 : Int) := by omega
 have w8' : IntKind.i64.wrap (k8 : Int) = k8 := by simp [aZU, aZR, aZM]; omega
 have hk8i : (k8 : Int) < 16 := by omega
 have hk16 : (k : Int) < 16 := by omega
 have hki : (k : Int) < 8 := by omega
 have hkd : decide ((k : Int) < 8) = true := by simp; omega
 first
  |(guard_expr zA=zA
    have hkk : k ≠ k8 := by omega
    have hl16 := halves3_len H I k (by omega) HH.out IVl.out;have c0 : wr.cell? ⟨g, k, none⟩ = some (.int .u32 (wr3 u)) := by rw [N1.cell, wc3_at' _ k u hHk]
    have c5 : wr.cell? ⟨g5, k, none⟩ = some (.int .u32 (wr3 v)) := by rw [N5.cell, wc3_at' _ k v hIk]
    have c1 : wr.cell? ⟨g3, k, none⟩ = some (wv3 ((halves3 H I k).getD k 0)) := (N3.cell k).trans (wc3_get _ _ (by rw [hl16]; omega));have c2 : wr.cell? ⟨g3, k8, none⟩ = some (wv3 ((halves3 H I k).getD k8 0)) := (N3.cell k8).trans (wc3_get _ _ (by rw [hl16]; omega));generalize wv3 ((halves3 H I k).getD k 0) = old at c1;generalize wv3 ((halves3 H I k).getD k8 0) = old2 at c2)
  |(have hl16 := halves_len H I k (by omega) HH.out IVl.out
    have c0 : wr.cell? ⟨g, k, none⟩ = some (.int .u64 (wrd u)) := by rw [N1.cell, wcs_at' _ k u hHk]
    have c1 : wr.cell? ⟨g3, k, none⟩ = some (wv ((halves H I k).getD k 0)) := (N3.cell k).trans (wcs_get _ _ (by rw [hl16]; omega));generalize wv ((halves H I k).getD k 0) = old at c1)
 have f1 : wr.frozen? ⟨g3, k, none⟩ = false := N3.frozen k
 first
  |(guard_expr zA=zA
    have f2 : wr.frozen? ⟨g3, k8, none⟩ = false := N3.frozen k8;have hs3 := (N3.set_ k (wv3 u)).set_ k8 (wv3 v);rw [wc3_set, wc3_set, hput] at hs3;have hs1 := (N1.far (p := ⟨g3, k, none⟩) (by show g ≠ g3; omega) (wv3 u)).far (p := ⟨g3, k8, none⟩) (by show g ≠ g3; omega) (wv3 v);have hs2 := (N2.far (p := ⟨g3, k, none⟩) (by show g2 ≠ g3; omega) (wv3 u)).far (p := ⟨g3, k8, none⟩) (by show g2 ≠ g3; omega) (wv3 v);have hs5 := (N5.far (p := ⟨g3, k, none⟩) (by show g5 ≠ g3; omega) (wv3 u)).far (p := ⟨g3, k8, none⟩) (by show g5 ≠ g3; omega) (wv3 v);have hs4 := bput (bput N4.out (p := ⟨g3, k, none⟩) (by have := l0.out; simp; omega) (wv3 u)) (p := ⟨g3, k8, none⟩) (by have := l0.out; simp; omega) (wv3 v);have hg53 : g5 ≠ g3 := by omega
    have HS1 := zH hs1; have HS2 := zH hs2; have HS3 := zH hs3; have HS4 := zH hs4; have HS5 := zH hs5;clear hput hs1 hs2 hs3 hs4 hs5 hl16 hHk hIk hu hv hk8 N1 N2 N3 N4 N5;go_wp2_with fail;go_roundw
    case rel => exact ⟨k + 1, by omega, by go_num, HS1.out, HS2.out, HS3.out, HS5.out, HS4.out⟩
    case measure => simp [intOf]; omega)
  |(have hs3 := N3.set_ k (wv u)
    rw [wcs_set] at hs3;have hs1 := N1.far (p := ⟨g3, k, none⟩) (by show g ≠ g3; omega) (wv u);have hs2 := N2.far (p := ⟨g3, k, none⟩) (by show g2 ≠ g3; omega) (wv u);have hs4 := bput N4.out (p := ⟨g3, k, none⟩) (by have := l0.out; simp; omega) (wv u);have HI := zH hI; have HPUT := zH hput; have HS1 := zH hs1; have HS2 := zH hs2; have HS3 := zH hs3; have HS4 := zH hs4; have HL16 := zH hl16;clear hI hput hs1 hs2 hs3 hs4 hl16 hHk hIk hu hv hk8 N1 N2 N3 N4;go_wp2_with (go_at_call 134; refine (HI.out _).mono ?_; rintro e w4 ⟨rfl, hb4⟩; have n3 := HS3.below hb4 HS3.lt; have gc : w4.cell? ⟨g3, k8, none⟩ = some (wv (((halves H I k).set k u).getD k8 0)) := (n3.cell k8).trans (wcs_get _ _ (by rw [List.length_set, HL16.out]; omega)); have gf : w4.frozen? ⟨g3, k8, none⟩ = false := n3.frozen k8; generalize wv (((halves H I k).set k u).getD k8 0) = old2 at gc; have N3' := zH n3; have HB4 := zH hb4; clear n3 hb4)
    case roundEnd =>
     have h1 := N3'.set_ k8 (wv v);rw [wcs_set, HPUT.out] at h1;exact ⟨⟨k + 1, by omega, by go_num, (HS1.below HB4.out HS1.lt).far (p := ⟨g3, k8, none⟩) (by show g ≠ g3; omega) _, (HS2.below HB4.out HS2.lt).far (p := ⟨g3, k8, none⟩) (by show g2 ≠ g3; omega) _, h1, bput (bcall HS4.out HB4.out) (p := ⟨g3, k8, none⟩) (by have := l0.out; simp; omega) _⟩, by simp [intOf]; omega⟩)
 ) : P := h
theorem zS61 {P : Prop} (h : P := by
 intro x hx;have hb : ∃ y, Ab = some y /\ x.block = y.block := by
  have h1 := hh.bl;rw [hx] at h1
  cases hA : Ab with
  | none => rw [hA] at h1; cases h1
  | some y => rw [hA] at h1; exact ⟨y, rfl, aZF h1⟩
 obtain ⟨y, hy, e1⟩ := hb;have h2 := hf (fun e => hlt (by rw [e]; exact List.drop_nil)) y hy;have h3 := hh.rs.low hlt x hx;rw [<- e1] at h2;refine ⟨fun e => h2 (mem_hsB.2 (.inl e)), fun i hi hm => ?_⟩;rcases hh.fin i hi _ hm with h4 | h4
 ·exact h2 (mem_hsB.2 (.inr ⟨i, hi, h4⟩))
 ·omega
 ) : P := h
theorem zS62 {P : Prop} (h : P := by
 first
  |(guard_expr zA=zA
    have hst := fun W hB hr => start_any A c x B W hx hB hr
    have hSl := start64_len x;generalize start64 x = S at *)
  |(have hst := fun W hB hr => start3_any A c x B W hx hB hr
    have hSl := start32_len x;generalize start32 x = S at *)
 obtain ⟨x0, x1, x2, x3, x4, x5, x6, x7, rfl⟩ : ∃ x0 x1 x2 x3 x4 x5 x6 x7, S = [x0, x1, x2, x3, x4, x5, x6, x7] := by
  match S, hSl with
  | [x0, x1, x2, x3, x4, x5, x6, x7], _ => exact ⟨x0, x1, x2, x3, x4, x5, x6, x7, rfl⟩
 have HST := zH hst; clear hst hSl;have HR := zH hr; have HX := zH hx; clear hr hx;go_enter Tryz.func128, Tryz.ntmps128
 first
  |(guard_expr zA=zA;go_wp2_with (go_at_call 142; refine (HST.out _ hB HR.out).mono ?_; rintro e w1 ⟨rfl, hb1⟩; unfold wcs; simp only [List.map_cons, List.map_nil, wv]))
  |(go_wp2_with (go_at_call 145; refine (HST.out _ hB HR.out).mono ?_; rintro e w1 ⟨rfl, hb1⟩; unfold wc3; simp only [List.map_cons, List.map_nil, wv3]))
 have hs := hb1.size;exact aZB (aZK rfl _ _ _) rfl ⟨w1.heap.size + 1, rfl, by omega, ⟨Blk.new2 w1 _ _ _, OS.nil _ _ _ rfl, ⟨rfl, Nat.zero_le _⟩, fun a h => by cases h⟩, bal (bal hb1 _) _⟩
 ) : P := h
theorem zS63 {P : Prop} (h : P := by
 have t1 : (L == -1) = false := by simp; omega
 have t2 : (L != -1) = true := by simp; omega
 have t3 : decide (1 <= L) = true := by simpa using h1
 first
  |(guard_expr zA=zA;have t4 : decide (L <= 4294967294) = true := by simpa using h2)
  |(have t4 : decide (L <= 65534) = true := by simpa using h2)
 have hw : IntKind.u32.wrap L = L := by rw [wrap_u32w]; omega
 have hw2 : IntKind.u64.wrap L = L := by rw [wrap_u64]; omega
 go_enter Tryz.func57, Tryz.ntmps57;go_wp2;exact aZB (results_cell_tmp rfl _ _ w.heap.size 67 _ _ rfl ((Blk.new w _ _).alloc _) Tryz.underlying67 rfl (by kernel_rfl)) rfl ⟨rfl, bal (bal (b0 w) _) _⟩
 ) : P := h
theorem zS64 {P : Prop} (h : P := by
 first
  |(guard_expr zA=zA;obtain ⟨ad, x, hA, -, hlx, hcx⟩ := hrs.at_ (k := k) (by rw [HLS.out]; exact hlt))
  |(obtain ⟨ad, x, hA, -, hlx, hcx⟩ := hrp.at_ (k := k) (by rw [HLP.out]; exact hlt))
 change wr.cell? (ad.add k) = some (.int .u8 (byt x)) at hcx
 first
  |(guard_expr zA=zA
    rw [hA] at c9;obtain ⟨g', z, e1, -, -, -, gc, gf⟩ := HOS.at_ (k := q2 + k) (by rw [over_len _ _ _ (by rw [HL9'.out, aZJ, HLS.out]; omega), HL9'.out]; omega))
  |(rw [hA] at c10
    obtain ⟨g', z, e1, -, -, -, gc, gf⟩ := HOS.at_ (k := q3 + k) (by rw [over_len _ _ _ (by rw [HLL.out, aZJ, HLP.out]; omega), HLL.out]; omega))
 injection e1 with e1; injection e1 with e1; subst e1
 first
  |(guard_expr zA=zA
    have hset := over_put L9 ls q2 k x hlx (by rw [HL9'.out]; omega);obtain ⟨j, hj⟩ : ∃ j, j = q2 + k := ⟨_, rfl⟩)
  |(have hset := over_put L lp q3 k x hlx (by rw [HLL.out]; omega)
    obtain ⟨j, hj⟩ : ∃ j, j = q3 + k := ⟨_, rfl⟩)
 rw [<- hj] at gc gf hset
 first
  |(guard_expr zA=zA;have hji : (q2 : Int) + (k : Int) = (j : Int) := by omega)
  |(have hji : (q3 : Int) + (k : Int) = (j : Int) := by omega)
 have hjw : IntKind.i64.wrap (j : Int) = j := by simp [IntKind.wrap, IntKind.bits, aZM]; omega
 have hjn : j < n := by omega
 first
  |(guard_expr zA=zA
    have hkd : decide ((k : Int) < p.salt.n) = true := by simp; omega
    have HSET := zH hset; clear hset hlx hrs hA hj)
  |(have hkd : decide ((k : Int) < p.pers.n) = true := by simp; omega
    have HSET := zH hset; clear hset hlx hrp hA hj)
 go_wp2_with fail
 case roundEnd =>
  have h1 := HOS.set j x;rw [HSET.out] at h1;exact ⟨⟨k + 1, by omega, by go_num, h1, grown_setCells [_] j HGR.out⟩, by simp [intOf]; omega⟩
 ) : P := h
theorem zS65 {P : Prop} (h : P := by
 first
  |(guard_expr zA=zA;subst h1)
  |(subst h2)
 go_enter Tryz.func58, Tryz.ntmps58
 first
  |(guard_expr zA=zA
    go_wp2_with (first
     | (go_at_call 85; refine (sizes_big _).mono ?_; rintro e w1 ⟨rfl, rfl⟩)
     | (go_at_call 86; refine (within_any _ _ _ _).mono ?_; rintro e w1 ⟨rfl, rfl⟩)))
  |(go_wp2_with (first
     | (go_at_call 85; refine (sizes_small _).mono ?_; rintro e w1 ⟨rfl, rfl⟩)
     | (go_at_call 86; refine (within_any _ _ _ _).mono ?_; rintro e w1 ⟨rfl, rfl⟩)))
 all_goals refine aZB (aZK rfl _ _ _) rfl ⟨?_, bal (b0 _) _⟩
 all_goals refine ret_int ?_
 all_goals rw [HR.out]
 all_goals (try simp only [bne_iff_ne, ne_eq, Bool.not_eq_true', Bool.not_eq_false', decide_eq_false_iff_not, decide_eq_true_eq, bne_eq_false_iff_eq] at *)
 all_goals unfold chk mostOf
 all_goals dsimp only
 all_goals (repeat (first | rw [if_neg (by omega)] | rw [if_pos (by omega)]))
 all_goals first | rfl | (exfalso; omega)
 ) : P := h
theorem zS66 {P : Prop} (h : P := by
 first
  |(guard_expr zA=zA
    have hx0 : (p.xof == 0) = false := by simpa using hx
    have he := encTo_put HROW (show ¬ (f = 7 /\ p.xof = 0) from fun h => hx h.2);have HE := zH he; clear hx he h7 hfk)
  |(have h70 : ((f : Int) == 7) = false := by simp; omega
    have he := encTo_put HROW (show ¬ (f = 7 /\ p.xof = 0) from fun h => h7 h.1);have HE := zH he; clear he h7 hfk)
 go_wp2_with (first
  | (go_at_call 102; refine (HPC _).mono ?_; rintro e3 w3 ⟨rfl, rfl⟩)
  | (go_at_call 103; refine HLAY.mono ?_; rintro e4 w4 ⟨rfl, ho4, hg4⟩; have HO4 := zH ho4; have HG4 := zH hg4; clear ho4 hg4))
 case roundEnd => exact ⟨⟨k + 1, f + 1, by omega, by have := HFK.out; omega, by go_num, by rw [HE.out]; exact HO4.out, grown_grown HGR.out HG4.out⟩, by have := HFK.out; simp [intOf]; omega⟩
 ) : P := h
theorem zS67 {P : Prop} (h : P := by
 first
  |(guard_expr zA=zA
    subst h1;have h0 : len ≠ -1 := fun h => ho ⟨.inl rfl, .inl h⟩
    have hr : ¬ (1 <= len /\ len <= 4294967294) := fun h => ho ⟨.inl rfl, .inr h⟩)
  |(subst h2
    have h0 : len ≠ -1 := fun h => ho ⟨.inr rfl, .inl h⟩
    have hr : ¬ (1 <= len /\ len <= 65534) := fun h => ho ⟨.inr rfl, .inr h⟩)
 have t2 : (len != -1) = true := by simpa using h0
 have t3 : (len == -1) = false := by simpa using h0
 by_cases h5 : len < 1
 ·have t4 : decide (len < 1) = true := by simpa using h5
  first
   |(guard_expr zA=zA;clear ho h0 hr h5)
   |(clear ho h0 hr h5 h1)
  go_enter Tryz.func19, Tryz.ntmps19;go_wp2_with fail;exact aZB (aZK rfl _ _ _) rfl ⟨rfl, b0 w⟩
 ·have t4 : decide (len < 1) = false := by simpa using h5
  first
   |(guard_expr zA=zA
     have t5 : decide (4294967294 < len) = true := by simp; omega
     clear ho h0 hr h5)
   |(have t5 : decide (65534 < len) = true := by simp; omega
     clear ho h0 hr h5 h1)
  go_enter Tryz.func19, Tryz.ntmps19;go_wp2_with fail;exact aZB (aZK rfl _ _ _) rfl ⟨rfl, b0 w⟩
 ) : P := h
theorem zS68 {P : Prop} (h : P := by
 clear O0 O4;obtain ⟨k, n, A, c, hk, rfl, hn, rfl, hos, hbw⟩ := hrel;have HO := zH hos; have HN := zH hn; clear hos hn
 by_cases hlt : k < 8
 ·obtain ⟨v, hv⟩ : ∃ v, S[k]? = some v := ⟨_, aZP (by rw [HS.out]; exact hlt)⟩
  first
   |(guard_expr zA=zA;have hix := index8 S HS k v hv)
   |(have hix := index83 S HS k v hv)
  have HV := zH hv; clear hv
  first
   |(guard_expr zA=zA
     have hlen : Hid ((flat (S.take k)).length = n) := by show _ = _; rw [flat_len, List.length_take, HS.out, HN.out]; omega
     have hn8 : n <= 64 := by have := HN.out; omega)
   |(have y0 := low_byte v 0; have y1 := low_byte v 1; have y2 := low_byte v 2; have y3 := low_byte v 3
     have hst : storeN v.toNat 4 = [bZZ (v.toNat / 256 ^ 0 % 256), bZZ (v.toNat / 256 ^ 1 % 256), bZZ (v.toNat / 256 ^ 2 % 256), bZZ (v.toNat / 256 ^ 3 % 256)] := rfl;generalize bZZ (v.toNat / 256 ^ 0 % 256) = p0 at *;generalize bZZ (v.toNat / 256 ^ 1 % 256) = p1 at *;generalize bZZ (v.toNat / 256 ^ 2 % 256) = p2 at *;generalize bZZ (v.toNat / 256 ^ 3 % 256) = p3 at *;have HST := zH hst; clear hst;rw [show ((256 ^ 0 : Nat) : Int) = 1 from rfl, Int.ediv_one] at y0;rw [show ((256 ^ 1 : Nat) : Int) = 256 from rfl] at y1;rw [show ((256 ^ 2 : Nat) : Int) = 65536 from rfl] at y2;rw [show ((256 ^ 3 : Nat) : Int) = 16777216 from rfl] at y3;have hlen : Hid ((flat3 (S.take k)).length = n) := by show _ = _; rw [flat3_len, List.length_take, HS.out, HN.out]; omega
     have hn8 : n <= 32 := by have := HN.out; omega)
  have hkd : decide ((k : Int) < 8) = true := by simp; omega
  first
   |(guard_expr zA=zA
     go_wp2_with (first
      | (go_at_call 159; refine (store64_any v _).mono ?_; rintro e w6 ⟨A6, c6, rfl, ho6, hb6⟩; have HO6 := zH ho6; clear ho6)
      | (at_builtin; refine wpList_appB _ rfl (.tmp 11) (.tmp 13) rfl (HO.below hb6 (Nat.le_refl _)) rfl hlen.out HO6.reads rfl (storeN_len _ _) (by omega) (by have := hbw.size; have := hb6.size; omega) ?_; intro A3 c3 w7 hown3 hgrow hat; have hw3 := bapp (bcall hbw hb6) (HO.below hb6 (Nat.le_refl _)) hgrow; have HO3 := zH hown3; clear hown3 hgrow hat)))
   |(have hfr := RS.fresh wr p0 p1 p2 p3
     have HF := zH hfr; clear hfr;go_wp2_with (at_builtin; refine wpList_appB _ rfl (.tmp 11) (.tmp 23) rfl (HO.alloc _) rfl hlen.out HF.out rfl rfl (by omega) (by have := hbw.size; simp; omega) ?_; intro A3 c3 w7 hown3 hgrow hat; have hw3 := bapp (bal hbw _) (HO.alloc _) hgrow; have HO3 := zH hown3; clear hown3 hgrow hat))
  go_roundw
  case rel =>
   first
    |(guard_expr zA=zA;refine ⟨k + 1, n + 8, A3, c3, by omega, by go_num, by have := HN.out; omega, rfl, ?_, hw3⟩)
    |(refine ⟨k + 1, n + 4, A3, c3, by omega, by go_num, by have := HN.out; omega, rfl, ?_, hw3⟩)
   rw [List.take_add_one, HV.out]
   first
    |(guard_expr zA=zA
      show OS cB _ _ _ _ (flat (S.take k ++ [v]))
      rw [flat_snoc])
    |(show OS cB _ _ _ _ (flat3 (S.take k ++ [v]))
      rw [flat3_snoc, HST.out])
   exact HO3.out
  case measure => simp [intOf]; omega
 ·obtain rfl : k = 8 := by omega
  have hn := HN.out;subst hn;have ho := HO.out
  first
   |(guard_expr zA=zA;rw [aZQ (Nat.le_of_eq HS.out)] at ho)
   |(rw [List.take_of_length_le (Nat.le_of_eq HS.out)] at ho)
  go_wp2_with fail;exact aZB (results_tmp rfl _ _ _) rfl ⟨A, c, rfl, ho, hbw⟩
 ) : P := h
theorem zS69 {P : Prop} (h : P := by
 have hu := zH Tryz.underlying228;have hsz : Hid ((Tryz.prog.info? 228).map (·.size) = some plCells.size) := by show _ = _; kernel_rfl
 have hn := zH (Blk.new w 228 (ics (List.replicate 32 0)));have hall := zH (ics_all [0, 4, 8, 12, 1, 5, 9, 13, 2, 6, 10, 14, 3, 7, 11, 15, 0, 5, 10, 15, 1, 6, 11, 12, 2, 7, 8, 13, 3, 4, 9, 14])
 first
  |(guard_expr zA=zA;go_enter Tryz.func173, Tryz.ntmps173)
  |(go_enter Tryz.func175, Tryz.ntmps175)
 go_wp2_with (refine aZE rfl 228 _ _ rfl w.heap.size plCells rfl (by kernel_rfl) 228 _ hn.out hsz.out (by kernel_rfl) hall.out ?_)
 first
  |(guard_expr zA=zA;exact aZB (aZZ rfl _ _ w.heap.size _ _ (0, 0) _ rfl (hn.row _) hu.out rfl hsz.out) rfl ⟨rfl, brow (bal (b0 w) _) (aZC _) _⟩)
  |(exact aZB (aZZ rfl _ _ w.heap.size _ _ (0, 0) _ rfl (hn.row _) hu.out rfl hsz.out) rfl ⟨rfl, brow (bal (b0 w) _) (Nat.le_refl _) _⟩)
 ) : P := h
theorem zS70 {P : Prop} (h : P := by
 have hck := fun W => refCheck_any k p W
 first
  |(guard_expr zA=zA
    have t0 : (chk k p == 0) = false := by simpa using hc
    obtain ⟨r, hr⟩ : ∃ r, r = chk k p := ⟨_, rfl⟩;rw [<- hr] at t0 ⊢;simp only [<- hr] at hck;have HCK := zH hck; clear hck hr hc)
  |(simp only [hc] at hck
    have t0 : ((nk : Int) == 0) = false := by simp; omega
    have t1 : ((nk : Int) == p.key) = false := by simpa using hk
    have t2 : ((nk : Int) != p.key) = true := by simpa using hk
    have t3 : ((nk : Int) != 0) = true := by simp; omega
    have HCK := zH hck; clear hck hc hk)
 unfold Pr.v Pr.cs Sl.v at *;go_enter Tryz.func52, Tryz.ntmps52;go_wp2_with (go_at_call 42; refine (HCK.out _).mono ?_; rintro e w1 ⟨rfl, hbw1⟩; (first | refine withN hbw1 ?_ | refine withD hbw1 ?_ | refine with0 hbw1 ?_); intro hcw1 hfw1; have z0w1 : w.heap.size < w1.heap.size := (by have := hbw1.size; (try simp at this); omega));exact aZB (aZG rfl _ _ _) rfl ⟨rfl, bcall (bal (b0 w) _) hbw1⟩
 ) : P := h
theorem zS71 {P : Prop} (h : P := by
 first
  |(guard_expr zA=zA
    have hnew := fun W => refNewBad_any k p Ak nk ck W hc
    have t0 : (chk k p == 0) = false := by simpa using hc
    have t1 : (chk k p != 0) = true := by simpa using hc
    obtain ⟨r, hr⟩ : ∃ r, r = chk k p := ⟨_, rfl⟩;rw [<- hr] at t0 t1 ⊢;simp only [<- hr] at hnew;have HNEW := zH hnew; clear hnew hr hc)
  |(have hnew := fun W => refNewKey_any k p Ak nk ck W hc hn hk
    have HNEW := zH hnew; clear hnew hc hn hk)
 unfold Pr.v Pr.cs Sl.v at *;go_enter Tryz.func34, Tryz.ntmps34;go_wp2_with (go_at_call 52; refine (HNEW.out _).mono ?_; rintro e w1 ⟨rfl, hbw1⟩; (first | refine withN hbw1 ?_ | refine withD hbw1 ?_ | refine with0 hbw1 ?_); intro hcw1 hfw1; have z0w1 : w.heap.size < w1.heap.size := (by have := hbw1.size; (try simp at this); omega));exact aZB (aZG rfl _ _ _) rfl ⟨rfl, bcall (bal (b0 w) _) hbw1⟩
 ) : P := h
theorem zS72 {P : Prop} (h : P := by
 first
  |(guard_expr zB=zB
    have t1 : decide (n < 0) = false := by simpa using h1
    have t2 : decide (65536 < n) = true := by simp; omega
    clear hn h1)
  |(guard_expr zA=zA
    have t1 : decide (n < 0) = true := by simpa using h1
    clear hn h1)
  |(rw [takeS_end h6 hv hn he]
    have t3 : (0 < n') = True := by simp; omega
    have t4 : (m.T <= fr0) = True := by simp [he.2]
    clear hv h1 h2 h3 h4 h5 h6 hn he)
 go_enter Tryz.func36, Tryz.ntmps36;go_wp2_with (first
  | (go_at_call 19; refine HVA.mono ?_; rintro e1 w1 ⟨rfl, hb1⟩; have HB := zH hb1; clear hb1)
  | (go_at_call 30; refine (HTO _).mono ?_; rintro e3 w3 ⟨rfl, rfl⟩))
 exact aZB (aZG rfl _ _ _) rfl ⟨none, 0, 0, rfl, rfl, OS.nil _ _ _ rfl, HB.out⟩
 ) : P := h
theorem zS73 {P : Prop} (h : P := by
 first
  |(guard_expr zA=zA
    have HKN := zH hlt;have hkn : Hid (k <= n) := Nat.le_of_lt hlt;have d2 : decide ((k : Int) < (n : Int)) = true := by simp; omega)
  |(obtain rfl : k = n := by omega
    have hkn : Hid (k <= k) := aZC k;have d2 : decide ((k : Int) < (k : Int)) = false := by simp)
 have HBR := zH (b0 wr); have HW := HBW;go_wp2_with (go_at_call 82; refine (HPA k hkn.out _).mono ?_; rintro e3 u ⟨rfl, hb3⟩; replace HBR := zH (bcall HBR hb3); replace HW := zH (HBW.trans (HBR.mono (bsz HH HBW))); clear hb3);refine (HEN k hkn.out u ((HRB.below HW).more (bsz HH HW)) ((HRC.below HW).more (bsz HH HW))).mono ?_;rintro e4 u ⟨A4, c4, rfl, ho4, hb4⟩;have HE := zH (ho4.mono (show wr.heap.size <= _ from HBR.size));replace HBR := zH (bcall HBR hb4); replace HW := zH (HBW.trans (HBR.mono (bsz HH HBW)));clear ho4 hb4
 first
  |(guard_expr zA=zA
    go_upto_region 14 with fail
    obtain ⟨g9, s, e9, -, -, hsk, hsc, -⟩ := HT.row.at_ (k := k) (by rw [HLEN.out]; exact hlt);injection e9 with e9
    injection e9 with e9
    subst e9;have HSK := zH hsk;have HTC : Hid (u2.cell? ⟨gT, k, none⟩ = some (.slice s.A s.l.length s.c)) := hsc;have HSO := zH (HT.parts.own k s hsk);have HSR := zH (show RS cB u2 H s.A s.l by rw [HH.out]; exact HSO.reads);clear hsk hsc;have zT : u.cell? ⟨gT, k, none⟩ = some (.slice s.A s.l.length s.c) := (HW.cell (p := ⟨gT, k, none⟩) HTL).trans HTC.out;refine wrZ (fun w' => w'.cell? ⟨gT, k, none⟩ = some (.slice s.A s.l.length s.c)) (fun _ n h => h) (Ords.of [(0, 0), (0, 1), (0, 2), (0, 3), (0, 4), (0, 5), (0, 6), (0, 7), (0, 9), (0, 10), (0, 11), (0, 12)] (.two 8 14 (Ords.of [(0, 13), (2, 14), (2, 15)] .fin) (Ords.of [(2, 8), (0, 13), (2, 15)] .fin))) zT ?_
    iterate 11 (refine ords_pure rfl (fun K hK => ?_); go_simp; refine hK _ ?_; clear hK K)
    refine ords_heldK rfl (fun K K2 hK hK2 => ?_); go_simp; refine ⟨hK2 _ (fun w9 hS => ?_), hK _ ?_⟩; (clear hK hK2 K K2; have qT := hS; clear hS; go_simp); (clear hK hK2 K K2);refine ords_two rfl rfl (fun n1 => ?_) (fun n1 => ?_)
    focus
     (try clear zT)
     replace HBR := zH (bdr HBR n1); replace HW := zH (HBW.trans (HBR.mono (bsz HH HBW))); replace HE := zH (HE.drewN n1); (try replace HC := zH (HC.drewN n1)); generalize u.drewN n1 = u at *;go_wp2_with (go_at_call 62; refine (HMO _).mono ?_; rintro e5 w5 ⟨rfl, rfl⟩);refine ⟨(HW.cell (p := ⟨gT, k, none⟩) HTL).trans HTC.out, ?_⟩;go_simp;refine ords_pure rfl (fun K hK => ?_); go_simp; refine hK _ ?_; clear hK K;refine ords_loud rfl (fun n2 => ?_)
     (try clear zT)
     replace HBR := zH (bdr HBR n2); replace HW := zH (HBW.trans (HBR.mono (bsz HH HBW))); replace HE := zH (HE.drewN n2); (try replace HC := zH (HC.drewN n2)); generalize u.drewN n2 = u at *;go_wp2_with fail;have HC := zH (Blk.new u 107 #[.int .i64 0, .slice none 0 0, .slice none 0 0, .bool false, .int .i64 0, .slice none 0 0]);have hba := bal (b0 u) (.cells #[.int .i64 0, .slice none 0 0, .slice none 0 0, .bool false, .int .i64 0, .slice none 0 0] 107);replace HE := zH (HE.below hba (aZC _));obtain ⟨gc, hgc⟩ : ∃ g, g = u.heap.size := ⟨_, rfl⟩;have HGC := zH (show wr.heap.size <= gc by rw [hgc]; exact HBR.size);replace HBR := zH (bcall HBR hba); replace HW := zH (HBW.trans (HBR.mono (bsz HH HBW)));rw [<- hgc] at HC ⊢;clear hba hgc;generalize u.alloc (.cells #[.int .i64 0, .slice none 0 0, .slice none 0 0, .bool false, .int .i64 0, .slice none 0 0] 107) = u at *;refine ⟨(HW.cell (p := ⟨gT, k, none⟩) HTL).trans HTC.out, ?_⟩;go_simp;refine ords_loud rfl (fun n3 => ?_);replace HBR := zH (bdr HBR n3); replace HW := zH (HBW.trans (HBR.mono (bsz HH HBW))); replace HE := zH (HE.drewN n3); (try replace HC := zH (HC.drewN n3)); generalize u.drewN n3 = u at *;go_wp2_with (refine wpList_store_row rfl 107 _ _ rfl gc (#[Value.int .i64 kk, .slice A4 most c4, .slice sk.A sk.n sk.c, .bool ((k : Int) == (n : Int) - 1), .int .i64 most, .slice s.A s.l.length s.c]) rfl rfl 107 _ HC.out (callC_size ⟨kk, ⟨A4, most, c4⟩, ⟨sk.A, sk.n, sk.c⟩, ⟨s.A, s.l.length, s.c⟩, (k : Int) == (n : Int) - 1, most⟩) rfl (by simp [Value.oneCell']) ?_);replace HE := zH (HE.of_block (fun a ha => setRow_other _ _ _ _ (HE.ne_blk HC (by show 5 ≠ 107; decide) a ha)) : OS cB (u.setRow gc (#[Value.int .i64 kk, .slice A4 most c4, .slice sk.A sk.n sk.c, .bool ((k : Int) == (n : Int) - 1), .int .i64 most, .slice s.A s.l.length s.c])) wr.heap.size _ _ _);replace HC := zH (HC.row (#[Value.int .i64 kk, .slice A4 most c4, .slice sk.A sk.n sk.c, .bool ((k : Int) == (n : Int) - 1), .int .i64 most, .slice s.A s.l.length s.c]));replace HBR := zH (brow HBR HGC (#[Value.int .i64 kk, .slice A4 most c4, .slice sk.A sk.n sk.c, .bool ((k : Int) == (n : Int) - 1), .int .i64 most, .slice s.A s.l.length s.c])); replace HW := zH (HBW.trans (HBR.mono (bsz HH HBW)));generalize u.setRow gc (#[Value.int .i64 kk, .slice A4 most c4, .slice sk.A sk.n sk.c, .bool ((k : Int) == (n : Int) - 1), .int .i64 most, .slice s.A s.l.length s.c]) = u at *;refine ⟨(HW.cell (p := ⟨gT, k, none⟩) HTL).trans HTC.out, ?_⟩;go_simp;refine ords_end (fun n4 => ?_);replace HBR := zH (bdr HBR n4); replace HW := zH (HBW.trans (HBR.mono (bsz HH HBW))); replace HE := zH (HE.drewN n4); (try replace HC := zH (HC.drewN n4)); generalize u.drewN n4 = u at *
    rotate_left 1
    focus
     (try clear zT)
     replace HBR := zH (bdr HBR n1); replace HW := zH (HBW.trans (HBR.mono (bsz HH HBW))); replace HE := zH (HE.drewN n1); (try replace HC := zH (HC.drewN n1)); generalize u.drewN n1 = u at *;go_wp2_with fail;have HC := zH (Blk.new u 107 #[.int .i64 0, .slice none 0 0, .slice none 0 0, .bool false, .int .i64 0, .slice none 0 0]);have hba := bal (b0 u) (.cells #[.int .i64 0, .slice none 0 0, .slice none 0 0, .bool false, .int .i64 0, .slice none 0 0] 107);replace HE := zH (HE.below hba (aZC _));obtain ⟨gc, hgc⟩ : ∃ g, g = u.heap.size := ⟨_, rfl⟩;have HGC := zH (show wr.heap.size <= gc by rw [hgc]; exact HBR.size);replace HBR := zH (bcall HBR hba); replace HW := zH (HBW.trans (HBR.mono (bsz HH HBW)));rw [<- hgc] at HC ⊢;clear hba hgc;generalize u.alloc (.cells #[.int .i64 0, .slice none 0 0, .slice none 0 0, .bool false, .int .i64 0, .slice none 0 0] 107) = u at *;refine ⟨(HW.cell (p := ⟨gT, k, none⟩) HTL).trans HTC.out, ?_⟩;go_simp;refine ords_loud rfl (fun n2 => ?_)
     (try clear zT)
     replace HBR := zH (bdr HBR n2); replace HW := zH (HBW.trans (HBR.mono (bsz HH HBW))); replace HE := zH (HE.drewN n2); (try replace HC := zH (HC.drewN n2)); generalize u.drewN n2 = u at *;go_wp2_with (go_at_call 62; refine (HMO _).mono ?_; rintro e5 w5 ⟨rfl, rfl⟩);refine ⟨(HW.cell (p := ⟨gT, k, none⟩) HTL).trans HTC.out, ?_⟩;go_simp;refine ords_pure rfl (fun K hK => ?_); go_simp; refine hK _ ?_; clear hK K;refine ords_loud rfl (fun n3 => ?_);replace HBR := zH (bdr HBR n3); replace HW := zH (HBW.trans (HBR.mono (bsz HH HBW))); replace HE := zH (HE.drewN n3); (try replace HC := zH (HC.drewN n3)); generalize u.drewN n3 = u at *;go_wp2_with (refine wpList_store_row rfl 107 _ _ rfl gc (#[Value.int .i64 kk, .slice A4 most c4, .slice sk.A sk.n sk.c, .bool ((k : Int) == (n : Int) - 1), .int .i64 most, .slice s.A s.l.length s.c]) rfl rfl 107 _ HC.out (callC_size ⟨kk, ⟨A4, most, c4⟩, ⟨sk.A, sk.n, sk.c⟩, ⟨s.A, s.l.length, s.c⟩, (k : Int) == (n : Int) - 1, most⟩) rfl (by simp [Value.oneCell']) ?_);replace HE := zH (HE.of_block (fun a ha => setRow_other _ _ _ _ (HE.ne_blk HC (by show 5 ≠ 107; decide) a ha)) : OS cB (u.setRow gc (#[Value.int .i64 kk, .slice A4 most c4, .slice sk.A sk.n sk.c, .bool ((k : Int) == (n : Int) - 1), .int .i64 most, .slice s.A s.l.length s.c])) wr.heap.size _ _ _);replace HC := zH (HC.row (#[Value.int .i64 kk, .slice A4 most c4, .slice sk.A sk.n sk.c, .bool ((k : Int) == (n : Int) - 1), .int .i64 most, .slice s.A s.l.length s.c]));replace HBR := zH (brow HBR HGC (#[Value.int .i64 kk, .slice A4 most c4, .slice sk.A sk.n sk.c, .bool ((k : Int) == (n : Int) - 1), .int .i64 most, .slice s.A s.l.length s.c])); replace HW := zH (HBW.trans (HBR.mono (bsz HH HBW)));generalize u.setRow gc (#[Value.int .i64 kk, .slice A4 most c4, .slice sk.A sk.n sk.c, .bool ((k : Int) == (n : Int) - 1), .int .i64 most, .slice s.A s.l.length s.c]) = u at *;refine ⟨(HW.cell (p := ⟨gT, k, none⟩) HTL).trans HTC.out, ?_⟩;go_simp;refine ords_end (fun n4 => ?_);replace HBR := zH (bdr HBR n4); replace HW := zH (HBW.trans (HBR.mono (bsz HH HBW))); replace HE := zH (HE.drewN n4); (try replace HC := zH (HC.drewN n4)); generalize u.drewN n4 = u at *
    all_goals
     obtain ⟨lst, hls⟩ : ∃ x : Bool, x = ((k : Int) == (n : Int) - 1) := ⟨_, rfl⟩;have HLS := zH hls;rw [<- hls] at HC;clear hls;obtain ⟨y, hyy⟩ : ∃ y : CC, y = ⟨kk, ⟨A4, most, c4⟩, ⟨sk.A, sk.n, sk.c⟩, ⟨s.A, s.l.length, s.c⟩, lst, most⟩ := ⟨_, rfl⟩;have hycs : y.cs = (#[Value.int .i64 kk, .slice A4 most c4, .slice sk.A sk.n sk.c, .bool lst, .int .i64 most, .slice s.A s.l.length s.c]) := by rw [hyy]; rfl
     have hlane : s.l = laneB n blk k P.data := HLANE k s HSK.out;have hyd : y.data.n <= 140737488355200 := by
      rw [hyy]
      show s.l.length <= _
      have h1 := laneB_le n blk k P.data;rw [<- hlane, HIN.hd] at h1;have h2 := HIN.nd;exact Nat.le_trans h1 (Nat.le_trans h2 (by decide))
     have hy : CIn u kk y (P.lane k) := by
      rw [hyy];refine ⟨rfl, ?_, ?_, ?_, ⟨?_, ?_⟩, ?_, HIN.hk, ?_, ?_, ⟨?_, ?_⟩, ?_⟩
      ·show lst = decide (lnOf P.big - 1 <= k)
       rw [HLS.out, <- HN.out];have h := HKN.out;rw [Bool.eq_iff_iff];simp;omega
      ·show (most : Int) = (bOf P.big : Int)
       rw [HM.out]
      ·exact HBL k
      ·show most <= c4
       rw [<- HBL.out k]; exact HE.len_le.1
      ·show c4 <= _
       have h := HE.len_le.2; unfold maxLen at h; exact h
      ·exact HE.reads
      ·exact (HRA.below HW).more (bsz HH HW)
      ·show (laneB (lnOf P.big) (blOf P.big) k P.data).length = s.l.length
       rw [hlane, HN.out, HBLK.out]
      ·exact HSO.len_le.1
      ·have h := HSO.len_le.2; unfold maxLen at h; exact h
      ·show RS cB u u.heap.size s.A (laneB (lnOf P.big) (blOf P.big) k P.data)
       rw [<- HN.out, <- HBLK.out, <- hlane];exact (HSR.below HW).more (bsz HH HW)
     have hap : ∀ R : Option Nat, (∀ g, R = some g -> H <= g /\ g < wr.heap.size) -> y.apart R := fun R hR => by
      rw [hyy];exact ⟨apart_fresh (fun a ha => (HE.block_lt a ha).1) (fun g hg => (hR g hg).2), apart_old HRA HIN.hk (fun g hg => (hR g hg).1), apart_old HSR rfl (fun g hg => (hR g hg).1)⟩
     have HYY := zH hycs; have HY := zH hy; have HYD := zH hyd;have HAPL := zH (hap _ (crow_ge HCR.row)); have HAPO := zH (hap _ (row_ge HCR));have HGA := zH (show some gc ≠ Al.map (·.block) from fun e => Nat.lt_irrefl _ (Nat.lt_of_lt_of_le (crow_ge HCR.row gc e.symm).2 HGC));have HK8 : Hid (k <= 1000) := by (show k <= 1000; have := hkn.out; omega)
     have HCR5 := zH (HCR.below HBR);clear hyy hycs hlane hy hap hyd HE;go_upto_region 16 with (first
      | (refine wpList_load_row rfl 107 _ rfl gc rfl 107 (#[Value.int .i64 kk, .slice A4 most c4, .slice sk.A sk.n sk.c, .bool lst, .int .i64 most, .slice s.A s.l.length s.c]) (0, 0) _ HC.out hcu.out rfl (by rw [<- HYY.out]; exact callC_size y) ?_)
      | (at_builtin; refine wpList_appC _ rfl (.tmp 87) (.tmp 89) rfl (HCR5.row.alloc _) rfl HCR5.len (y := y) (by rw [HYY.out]; exact Blk.new _ _ _) rfl HK8.out (size_new (bsz HH.out HW.out)) ?_; intro A8 c8 u8 ho8 hg8 hA8))
     have HY8 := zH ((HY.below (bal (b0 u) _)).kept hg8 HAPL);have HCR8 := zH ((HCR5.below (bal (b0 u) _)).snoc (by rw [<- HN.out]; exact hkn.out) ((show CIn u (kOf P.big) y (P.call k) from by rw [P.call_lt (by rw [<- HN.out]; exact HKN.out), <- HKK.out]; exact HY.out).below (bal (b0 u) _)) HAPL.out (fun _ => HAPO.out) ho8 hg8 hA8);have HC8 := zH ((HC.alloc _).grown hg8 HGA);have HW8 := zH (below_appC (HW.alloc (bsz HH HW) _) (HCR5.row.alloc _) hg8 (aZC _) (size_new (bsz HH HW)));clear ho8 hg8 hA8 HC HY HCR5;go_wp2_with (refine wpList_load_row rfl 107 _ rfl gc rfl 107 (#[Value.int .i64 kk, .slice A4 most c4, .slice sk.A sk.n sk.c, .bool lst, .int .i64 most, .slice s.A s.l.length s.c]) (0, 0) _ HC8.out hcu.out rfl (by rw [<- HYY.out]; exact callC_size y) ?_);rw [<- HYY.out];refine (HCA y (P.lane k) u8 HY8 HYD).mono ?_;rintro e6 u9 ⟨A6, n6, c6, cc6, rfl, hl6, -, ho6, hb6⟩;have HO6 := zH ho6; have HL6 := zH hl6;have HCR9 := zH (HCR8.below hb6);have HW9 := zH (HW8.trans (hb6.mono (bsz HH HW8)));clear ho6 hl6 hb6 HC8 HY8 HCR8;have hn6 : n6 <= 64 := by rw [<- HL6.out]; exact callS_le _ _ _ _ _ _
     have hol : olen <= 1000 := by rw [<- HOL.out]; have := P.outs_le k; have := hkn.out; omega
     go_wp2_with (at_builtin; refine wpList_appB _ rfl (.tmp 96) (.tmp 97) rfl HCR9.out rfl HOL.out HO6.reads rfl HL6.out (by omega) (bsz HH.out HW9.out) ?_; intro A7 c7 u7 ho7 hg7 hA7);have ho7b : OS cB u7 H A7 c7 (P.outs (k + 1)) := by rw [HKK.out] at ho7; exact ho7
     have HCR10 := zH (HCR9.outs (by rw [<- HN.out]; exact HKN.out) ho7b hg7 hA7);have HW10 := zH (below_app HW9 HCR9 hg7 (aZC _) (bsz HH HW9));go_roundw
     case rel =>
      refine ⟨k + 1, olen + n6, A8, c8, L ++ [y], A7, c7, HKN.out, num8 k, rfl, rfl, ?_, HCR10.out, HW10.out⟩
      show (P.outs k ++ ((P.lane k).out (kOf P.big)).1).length = _
      rw [List.length_append, HOL.out, <- HKK.out, HL6.out]
     case measure => exact meas9 n k HKN.out)
  |(obtain ⟨y, hyy⟩ : ∃ y : CC, y = ⟨kk, ⟨A4, most, c4⟩, Sl.nil, ⟨Ao, olen, co⟩, true, P.digest⟩ := ⟨_, rfl⟩
    have hycs : y.cs = (#[Value.int .i64 kk, .slice A4 most c4, .slice none 0 0, .bool true, .int .i64 P.digest, .slice Ao olen co]) := by rw [hyy]; rfl
    have HCR6 := zH (HCR.below HBR);have hkl : k = lnOf P.big := HN.out;have hy : CIn u kk y P.root := by
     rw [hyy];refine ⟨rfl, rfl, rfl, ?_, ⟨?_, ?_⟩, ?_, rfl, RS.nil _, ?_, ⟨?_, ?_⟩, ?_⟩
     ·exact HBL _
     ·show most <= c4
      rw [<- HBL.out k]; exact HE.len_le.1
     ·show c4 <= _
      have h := HE.len_le.2; unfold maxLen at h; exact h
     ·show RS cB u u.heap.size A4 (P.blk (lnOf P.big))
      rw [<- hkl]; exact HE.reads
     ·show (P.outs (lnOf P.big)).length = olen
      rw [<- hkl]; exact HOL.out
     ·show olen <= co
      rw [<- HOL.out]; exact HCR6.out.len_le.1
     ·show co <= _
      have h := HCR6.out.len_le.2; unfold maxLen at h; exact h
     ·show RS cB u u.heap.size Ao (P.outs (lnOf P.big))
      rw [<- hkl]; exact HCR6.out.reads
    have hap : y.apart (Al.map (·.block)) := by
     rw [hyy];refine ⟨apart_fresh (fun a ha => (HE.block_lt a ha).1) (fun g hg => (crow_ge HCR.row g hg).2), fun h => absurd h (Nat.lt_irrefl 0), fun _ a ha e => ?_⟩
     cases hAl : Al with
     | none => rw [hAl] at e; cases e
     | some b => rw [hAl] at e; exact HCR6.row.ne_os HCR6.out b a hAl ha (Option.some.inj e)
    have HYY := zH hycs; have HY := zH hy; have HAPL := zH hap; have HKL := zH hkl;have HK8 : Hid (k <= 1000) := by (show k <= 1000; omega)
    clear hyy hycs hy hap HE hkl;go_wp2_with (at_builtin; refine wpList_appC _ rfl (.tmp 112) (.tmp 118) rfl (HCR6.row.alloc _) rfl HCR6.len (y := y) (by rw [HYY.out]; exact Blk.new _ _ _) rfl HK8.out (size_new (bsz HH.out HW.out)) ?_; intro A8 c8 u8 ho8 hg8 hA8);have HCR8 := zH ((HCR6.below (bal (b0 u) _)).snoc (by rw [<- HN.out]; exact hkn.out) ((show CIn u (kOf P.big) y (P.call k) from by rw [HKL.out, P.call_root, <- HKK.out]; exact HY.out).below (bal (b0 u) _)) HAPL.out (fun h => absurd HKL.out (Nat.ne_of_lt h)) ho8 hg8 hA8);have HW8 := zH (below_appC (HW.alloc (bsz HH HW) _) (HCR6.row.alloc _) hg8 (aZC _) (size_new (bsz HH HW)));exact bodyPost_ret (results_tmp2 rfl _ _ _) rfl ⟨A8, c8, rfl, L ++ [y], HCR8.row.mono (by rw [HH.out]; exact HB.size), HCR8.len, fun i x hx => by rw [HKK.out]; exact HCR8.inn i x hx, HB.trans (HW8.mono (by rw [HH.out]; exact HB.size))⟩)
 ) : P := h
theorem zS74 {P : Prop} (h : P := by
 have f0 : fld L 0 1 = v1 := fld_of (by rw [hL]; kernel_rfl) (by omega);have f1 : fld L 1 1 = v2 := fld_of (by rw [hL]; kernel_rfl) (by omega);have f2 : fld L 2 1 = v3 := fld_of (by rw [hL]; kernel_rfl) (by omega);have f3 : fld L 3 1 = v4 := fld_of (by rw [hL]; kernel_rfl) (by omega);have f4 : fld L 4 4 = v5 := fld_of (by rw [hL]; kernel_rfl) (by omega)
 first
  |(guard_expr zA=zA
    have f6 : fld L 8 6 = v6 := fld_of (by rw [hL]; kernel_rfl) (by have := r6' rfl; omega);have f8 : fld L 14 1 = v8 := fld_of (by rw [hL]; kernel_rfl) (by omega);have f9 : fld L 15 1 = v9 := fld_of (by rw [hL]; kernel_rfl) (by omega);refine ⟨⟨hlen, (fun h => nomatch h), (fun h => nomatch h), ?_⟩, by rw [f0, h1], by rw [f1, h2]⟩;rw [hcc];unfold decPr;simp only [Bool.false_eq_true, if_false];rw [f0, f1, f2, f3, f4, f6, f8, f9])
  |(have f6 : fld L 8 8 = v6 := fld_of (by rw [hL]; kernel_rfl) (by omega)
    have f8 : fld L 16 1 = v8 := fld_of (by rw [hL]; kernel_rfl) (by omega);have f9 : fld L 17 1 = v9 := fld_of (by rw [hL]; kernel_rfl) (by omega);refine ⟨⟨hlen, fun _ i i1 i2 => ?_, (fun h => nomatch h), ?_⟩, by rw [f0, h1], by rw [f1, h2]⟩
    ·rw [hL]
     rcases le31 i i1 i2 with rfl | rfl | rfl | rfl | rfl | rfl | rfl | rfl | rfl | rfl | rfl | rfl | rfl | rfl <;> kernel_rfl
    ·rw [hcc]
     unfold decPr;simp only [Bool.false_eq_true, if_false, if_true];rw [f0, f1, f2, f3, f4, f6, f8, f9])
 ) : P := h
theorem zS75 {P : Prop} (h : P := by
 have hk1 : (k == 1) = false := by simpa using h1
 have hk2 : (k == 2) = false := by simpa using h2
 have hr := HR.out;unfold chk mostOf at hr;simp only [if_neg h1, if_neg h2, if_true] at hr;subst hr;clear HR h1 h2
 first
  |(guard_expr zA=zA
    go_enter Tryz.func58, Tryz.ntmps58;go_wp2_with (go_at_call 85; refine (sizes_none _ hk1 hk2 _).mono ?_; rintro e w1 ⟨rfl, rfl⟩))
  |(go_enter Tryz.func42, Tryz.ntmps42
    go_wp2_with (go_at_call 62; refine (most_none _ hk1 hk2 _).mono ?_; rintro e w1 ⟨rfl, rfl⟩))
 exact aZB (aZK rfl _ _ _) rfl ⟨rfl, bal (b0 _) _⟩
 ) : P := h
theorem zS76 {P : Prop} (h : P := by
 intro k hk;rcases mem_xfoot.1 hk with h1 | h1 | ⟨a, h1, h2⟩ | ⟨a, h1, h2⟩ | ⟨a, h1, h2⟩ | ⟨a, h1, h2⟩
 ·rw [h1]; exact h.blk.lt
 ·exact h.nd.lt _ h1
 ·rw [<- h2]; exact (h.ok.block_lt a h1).2
 ·rw [<- h2]; exact (h.os.block_lt a h1).2
 ·rw [<- h2]; exact (h.op.block_lt a h1).2
 ·first
   |(guard_expr zA=zA;rw [<- h2]; exact (h.or.block_lt a h1).2)
   |(cases h1)
 ) : P := h
theorem zS77 {P : Prop} (h : P := by
 intro k hk;rcases mem_xfoot.1 hk with h1 | h1 | ⟨a, h1, h2⟩ | ⟨a, h1, h2⟩ | ⟨a, h1, h2⟩ | ⟨a, h1, h2⟩
 ·rw [h1]; exact h.hp
 ·exact h.hF _ h1
 ·rw [<- h2]; exact (h.ok.block_lt a h1).1
 ·rw [<- h2]; exact (h.os.block_lt a h1).1
 ·rw [<- h2]; exact (h.op.block_lt a h1).1
 ·first
   |(guard_expr zA=zA;rw [<- h2]; exact (h.or.block_lt a h1).1)
   |(cases h1)
 ) : P := h
theorem zS78 {P : Prop} (h : P := by
 have hk : k < z.length := (List.getElem?_eq_some_iff.1 hz).1;have h1 : (z.take k).length = k := by simp; omega
 first
  |(guard_expr zA=zA;unfold halfW)
  |(unfold half3)
 rw [List.take_add_one, hz, List.drop_eq_getElem_cons (by omega), List.set_append, if_neg (by rw [h1]; omega), h1, Nat.sub_self, List.set_cons_zero, List.append_assoc]
 rfl
 ) : P := h
theorem zS79 {P : Prop} (h : P := by
 first
  |(guard_expr zA=zA;have t1 : decide (m < 1) = true := by simpa using h1)
  |(have t1 : decide (m < 1) = false := by simpa using h1
    have t2 : decide ((bOf big : Int) < m) = true := by simp; omega)
 clear hm;go_enter Tryz.func64, Tryz.ntmps64;go_wp2_with (first | (go_at_call 66; refine HNO.mono ?_; rintro e0 w0 ⟨rfl, rfl⟩) | (go_at_call 90; refine (HBO _).mono ?_; rintro e0 w0 ⟨rfl, rfl⟩));exact aZB (results_tmp2 rfl _ _ _) rfl ⟨rfl, b0 _⟩
 ) : P := h
theorem zS80 {P : Prop} (h : P := by
 have hl := hh.le;have hf := hh.fit;have hc := hh.cr_;refine ⟨hh.hs, by omega, by omega, by omega, ?_, ?_, hh.fin, hh.but⟩
 ·first
   |(guard_expr zA=zA;have h1 := hh.rs.cut (k := m) (cap := cr) (by rw [aZS]; exact hm) (by rw [aZS]; exact hf))
   |(have h1 := hh.rs.cut (k := m) (cap := cr) (by rw [List.length_drop]; exact hm) (by rw [List.length_drop]; exact hf))
  rw [List.drop_drop] at h1;exact h1
 ·rw [<- hh.bl]
  split
  ·rfl
  ·cases Ar with
   | none => rfl
   | some x => show some (x.add m).block = some x.block; rw [block_of_add]
 ) : P := h
end Go.Proofs.YtmapfcdffklopaaGreat

/-
  Y46: contracts and lemmas alone; no statement is claimed here.
-/
import Derived.Test.YtmapfcdffklopaaGreatY45
import Derived.Test.YtmapfcdffklopaaGreatY36
import Derived.Test.YtmapfcdffklopaaGreatY27
import Derived.Test.YtmapfcdffklopaaGreatY20
namespace Go.Proofs.YtmapfcdffklopaaGreat
open Go.RowKit
attribute [local go_sem] pureUpon Ords.of

def NewZ (m : Xm) (E : Int) (B : Nat) (W : World) (xo : Option Addr) : Prop := (E ≠ 0 ∧ xo = none) ∨ (E = 0 ∧ ∃ g F, xo = some ⟨g, 0, none⟩ ∧ XTk W g m [] F ∧ ∀ k, k ∈ F → B ≤ k)
theorem NewZ.but {m : Xm} {E : Int} {B : Nat} {W W' : World} {xo : Option Addr} {G : List Nat} (h : NewZ m E B W xo) (hb : But G W W') (hG : ∀ k, k ∈ G → k < B) : NewZ m E B W' xo := by
 rcases h with h | ⟨h1, g, F, h2, h3, h4⟩
 ·exact .inl h
 ·exact .inr ⟨h1, g, F, h2, h3.but hb (fun k hk hg => Nat.lt_irrefl _ (Nat.lt_of_lt_of_le (hG k hg) (h4 k hk))), h4⟩
set_option maxRecDepth 20000 in
set_option maxHeartbeats 4000000 in
theorem made7_core (k len E : Int) (m : Xm) (key ls lp : List UInt8) (Ak : Option Addr) (nk ck : Nat) (s t : Sl) (w : World) (hk : key.length = nk) (hs : ls.length = s.n) (ht : lp.length = t.n) (hnk : nk ≤ 140737488355328) (hns : s.n ≤ 140737488355328) (hnt : t.n ≤ 140737488355328) (hrk : RS cB w w.heap.size Ak key) (hrs : RS cB w w.heap.size s.A ls) (hrt : RS cB w w.heap.size t.A lp) (hE : E = xValid k len nk s t)
  (hnew : ∀ (W : World) (A1 : Option Addr) (c1 : Nat) (A3 : Option Addr) (c3 : Nat) (A4 : Option Addr) (c4 : Nat), RS cB W W.heap.size A1 key → RS cB W W.heap.size A3 ls → RS cB W W.heap.size A4 lp → Calls Tryz.prog 17 #[.int .i64 k, .int .i64 len, .slice A1 nk c1, .slice A3 s.n c3, .slice A4 t.n c4] W fun r W' => ∃ xo, r = .returned (.tuple #[.pointer xo, .int .i64 E]) ∧ NewZ m E W.heap.size W' xo ∧ Below W.heap.size W W') :
  Calls Tryz.prog 6 #[sxV k len Ak nk ck s t] w fun r w' => ∃ xo q B, r = .returned (.tuple #[.pointer xo, .pointer (some ⟨q, 0, none⟩), .bool true]) ∧ (∃ W2, NewZ m E B W2 xo ∧ Below W2.heap.size W2 w' ∧ W2.heap.size ≤ q) ∧ w.heap.size ≤ B ∧ Blk w' q 38 #[.int .i64 k, .int .i64 len, .slice Ak nk ck, s.v, t.v, .slice none 0 0, .bool false, .int .u64 0] ∧ Below w.heap.size w w' := by
 have hva := fun W => refValid_any k len Ak nk ck s t W
 rw [← hE] at hva
 have tE : (E != E) = false := by simp
 have HVA := Lib.hid hva; have HNW := Lib.hid hnew; have HN := Lib.hid hk
 have hbe := bal (b0 w) (.cells #[.int .i64 k, .int .i64 len, .slice Ak nk ck, s.v, t.v] 24)
 have HB0 := Lib.hid hbe; have HK := Lib.hid (Blk.new w 24 #[.int .i64 k, .int .i64 len, .slice Ak nk ck, s.v, t.v])
 have HRK := Lib.hid (hrk.below hbe); have HRS := Lib.hid (hrs.below hbe); have HRT := Lib.hid (hrt.below hbe)
 have hrk0 := Lib.hid hrk
 clear hva hnew hrk hrs hrt hbe hE
 unfold sxV Sl.v
 unfold Sl.v at HB0 HK HRK HRS HRT HVA
 go_enter Tryz.func6, Tryz.ntmps6
 go_upto_region 1 with fail
 obtain ⟨g, hg⟩ : ∃ g, g = w.heap.size := ⟨_, rfl⟩
 rw [← hg] at HK ⊢
 have HG := Lib.hid hg
 clear hg
 generalize w.alloc (.cells #[.int .i64 k, .int .i64 len, .slice Ak nk ck, .slice s.A s.n s.c, .slice t.A t.n t.c] 24) = u at *
 have HGE := Lib.hid (show w.heap.size ≤ u.heap.size from HB0.out.size)
 have HCP := Lib.hid (copied7_any Ak ck nk key u hk hnk (HRK.out.more HGE.out))
 have k0 : u.cell? ⟨g, 0, none⟩ = some (.int .i64 k) := HK.out.cell 0
 have k1 : u.cell? ⟨g, 1, none⟩ = some (.int .i64 len) := HK.out.cell 1
 have k2 : u.cell? ⟨g, 2, none⟩ = some (.slice Ak nk ck) := HK.out.cell 2
 have k3 : u.cell? ⟨g, 3, none⟩ = some (.slice s.A s.n s.c) := HK.out.cell 3
 have k4 : u.cell? ⟨g, 4, none⟩ = some (.slice t.A t.n t.c) := HK.out.cell 4
 have kl := HK.out.lt
 go_upto_region 2 with (go_at_call 18; refine HCP.out.mono ?_; rintro e1 u1 ⟨A1, c1, rfl, ho1, hb1⟩)
 have HK1 := Lib.hid (HK.out.below hb1 HK.out.lt); have HB1 := Lib.hid (bcall HB0.out hb1); have HO1 := Lib.hid ho1; have HU1 := Lib.hid hb1.size; have HBU := Lib.hid (hb1.mono HGE.out)
 have HC3 := Lib.hid (fun W (hb : Below u1.heap.size u1 W) => copied7_any s.A s.c s.n ls W hs hns ((HRS.out.below (HBU.out.trans (hb.mono (Nat.le_trans HGE.out HU1.out)))).more (Nat.le_trans HB1.out.size hb.size)))
 have HC4 := Lib.hid (fun W (hb : Below u1.heap.size u1 W) => copied7_any t.A t.c t.n lp W ht hnt ((HRT.out.below (HBU.out.trans (hb.mono (Nat.le_trans HGE.out HU1.out)))).more (Nat.le_trans HB1.out.size hb.size)))
 have HGA := Lib.hid (show g ∉ obl A1 from fun hm => by obtain ⟨a, h1, h2⟩ := mem_obl.1 hm; have h3 := (ho1.block_lt a h1).1; have h4 := HK.out.lt; omega)
 have HAW := Lib.hid (fun j (hj : j ∈ obl A1) => (by obtain ⟨a, h1, h2⟩ := mem_obl.1 hj; have h3 := (ho1.block_lt a h1).1; have := HGE.out; omega : w.heap.size ≤ j))
 clear ho1 hb1 k0 k1 k2 k3 k4 kl
 have k0 : u1.cell? ⟨g, 0, none⟩ = some (.int .i64 k) := HK1.out.cell 0
 have k1 : u1.cell? ⟨g, 1, none⟩ = some (.int .i64 len) := HK1.out.cell 1
 have k2 : u1.cell? ⟨g, 2, none⟩ = some (.slice Ak nk ck) := HK1.out.cell 2
 have k3 : u1.cell? ⟨g, 3, none⟩ = some (.slice s.A s.n s.c) := HK1.out.cell 3
 have k4 : u1.cell? ⟨g, 4, none⟩ = some (.slice t.A t.n t.c) := HK1.out.cell 4
 have kl := HK1.out.lt
 refine wp_region_B (Ords.of [(0, 0), (0, 1), (0, 2), (0, 3), (0, 4), (0, 5), (0, 6), (0, 8), (0, 9), (2, 7), (2, 10), (2, 11), (0, 12), (0, 13), (0, 14), (0, 15), (0, 16)] .fin) (by kernel_rfl) rfl (by kernel_rfl) (by kernel_rfl) (fun c a d v w h => by cases d <;> exact h) ?_
 iterate 2 (refine ords_pure rfl (fun K hK => ?_); go_simp; refine hK _ ?_; clear hK K; refine ords_heldK rfl (fun K K2 hK hK2 => ?_); go_simp; refine ⟨hK2 _ (fun w9 hS => ?_), hK _ ?_⟩; (clear hK hK2 K K2; (first | refine withN hS ?_ | refine withD hS ?_ | refine with0 hS ?_); intro hcS hfS; go_simp); (clear hK hK2 K K2))
 iterate 2 (refine ords_pure rfl (fun K hK => ?_); go_simp; refine hK _ ?_; clear hK K)
 refine ords_heldK rfl (fun K K2 hK hK2 => ?_); go_simp; refine ⟨hK2 _ (fun w9 hS => ?_), hK _ ?_⟩; (clear hK hK2 K K2; (first | refine withN hS ?_ | refine withD hS ?_ | refine with0 hS ?_); intro hcS hfS; go_simp); (clear hK hK2 K K2)
 refine ords_pure rfl (fun K hK => ?_); go_simp; refine hK _ ?_; clear hK K
 refine ords_heldK rfl (fun K K2 hK hK2 => ?_); go_simp; refine ⟨hK2 _ (fun w9 hS => ?_), hK _ ?_⟩; (clear hK hK2 K K2; (first | refine withN hS ?_ | refine withD hS ?_ | refine with0 hS ?_); intro hcS hfS; go_simp); (clear hK hK2 K K2)
 refine ords_loud rfl (fun n1 => ?_)
 go_wp2_with (go_at_call 18; refine (HC3.out _ (bdr (b0 u1) _)).mono ?_; rintro e2 u2 ⟨A3, c3, rfl, ho3, hb3⟩)
 have HB3 := Lib.hid (bcall (bdr (b0 u1) _) hb3); have HO3 := Lib.hid ho3
 clear hb3 ho3
 refine ⟨HB3.out, ?_⟩
 go_simp
 refine ords_loud rfl (fun n2 => ?_)
 go_wp2_with (go_at_call 18; refine (HC4.out _ (bdr HB3.out _)).mono ?_; rintro e3 u3 ⟨A4, c4, rfl, ho4, hb4⟩)
 have HB4 := Lib.hid (bcall (bdr HB3.out _) hb4); have HO4 := Lib.hid ho4; have HO34 := Lib.hid ((HO3.out.drewN _).below hb4 (Nat.le_refl _))
 clear hb4 ho4
 refine ⟨HB4.out, ?_⟩
 go_simp
 refine ords_loud rfl (fun n3 => ?_)
 go_wp2_with fail
 refine (HNW.out _ A1 c1 A3 c3 A4 c4 (HO1.out.below (bdr HB4.out _) (Nat.le_refl _)).reads (HO34.out.drewN _).reads (HO4.out.drewN _).reads).mono ?_
 rintro e4 v ⟨xo, rfl, hz, hb5⟩
 have HB5 := Lib.hid (bcall (bdr HB4.out _) hb5)
 have HAB := Lib.hid (fun j (hj : j ∈ obl A1) => (by obtain ⟨a, h1, h2⟩ := mem_obl.1 hj; have h3 := (HO1.out.block_lt a h1).2; have h4 := HB4.out.size; simp; omega : j < (u3.drewN n3).heap.size))
 clear hb5
 go_wp2_with fail
 refine ⟨HB5.out, ?_⟩
 go_simp
 iterate 5 (refine ords_pure rfl (fun K hK => ?_); go_simp; refine hK _ ?_; clear hK K)
 refine ords_end (fun n4 => ?_)
 have HKv := Lib.hid ((HK1.out.below HB5.out HK1.out.lt).drewN n4); have HOv := Lib.hid (HO1.out.below (bdr HB5.out n4) (Nat.le_refl _)); have HBv := Lib.hid (HB1.out.trans ((bdr HB5.out n4).mono HB1.out.size))
 have hz2 := hz.but (But.of (bdr (b0 v) n4) []) (fun _ h => by cases h)
 have HAV := Lib.hid (show w.heap.size ≤ (u3.drewN n3).heap.size from Nat.le_trans HB1.out.size (bdr HB4.out n3).size)
 have HRW := Lib.hid (fun (W : World) (hW : Below w.heap.size w W) => (hrk0.out.below hW).more hW.size)
 clear hz k0 k1 k2 k3 k4 kl HB5 HB4 HB3 HO4 HO34 HO3
 generalize v.drewN n4 = v at *
 generalize (u3.drewN n3).heap.size = B at *
 have HZ := Lib.hid hz2
 rcases hz2 with ⟨hE0, rfl⟩ | ⟨hE0, gx, F, rfl, -, -⟩
 ·have t1 : (E != 0) = true := by simpa using hE0
  clear hE0
  have k0 : v.cell? ⟨g, 0, none⟩ = some (.int .i64 k) := HKv.out.cell 0
  have k1 : v.cell? ⟨g, 1, none⟩ = some (.int .i64 len) := HKv.out.cell 1
  have k2 : v.cell? ⟨g, 2, none⟩ = some (.slice Ak nk ck) := HKv.out.cell 2
  have k3 : v.cell? ⟨g, 3, none⟩ = some (.slice s.A s.n s.c) := HKv.out.cell 3
  have k4 : v.cell? ⟨g, 4, none⟩ = some (.slice t.A t.n t.c) := HKv.out.cell 4
  have kl := HKv.out.lt
  go_wp2_with (first
   | (go_at_call 19; refine (HVA.out _).mono ?_; rintro e5 w5 ⟨rfl, hb5⟩; have HK5 := Lib.hid (HKv.out.below hb5 HKv.out.lt); have HB5 := Lib.hid (bcall HBv.out hb5); have HO5 := Lib.hid (HOv.out.below hb5 (Nat.le_refl _)); have HZ5 := Lib.hid (HZ.out.but (But.of hb5 []) (fun _ h => by cases h)); clear hb5 k0 k1 k2 k3 k4 kl; have k2 : w5.cell? ⟨g, 2, none⟩ = some (.slice Ak nk ck) := HK5.out.cell 2; have hsm := same7_any A1 Ak c1 ck key key nk nk w5 HN.out HN.out (by omega) HO5.out.reads (HRW.out w5 HB5.out); rw [decide_eq_true rfl] at hsm; have HSM := Lib.hid hsm; clear hsm)
   | (go_at_call 20; refine HSM.out.mono ?_; rintro e6 w6 ⟨rfl, hb6⟩; have HK6 := Lib.hid (HK5.out.below hb6 HK5.out.lt); have HB6 := Lib.hid (bcall HB5.out hb6); have HO6 := Lib.hid (HO5.out.below hb6 (Nat.le_refl _)); have HZ6 := Lib.hid (HZ5.out.but (But.of hb6 []) (fun _ h => by cases h)); clear hb6 k2))
  go_loopw [9, 58] (fun _ i wr => ∃ (j : Nat) (M : List UInt8), j ≤ nk ∧ i = .int .i64 j ∧ M.length = nk ∧ OS cB wr u.heap.size A1 c1 M ∧ But (obl A1) w6 wr) (fun _ i _ => nk - (intOf i).toNat)
  case atStart => exact ⟨0, key, Nat.zero_le _, rfl, HN.out, HO6.out, But.refl _ _⟩
  case round =>
   obtain ⟨j, M, hj, rfl, hM, ho, hb⟩ := hrel
   have HM := Lib.hid hM; have HB := Lib.hid hb
   clear hM hb
   by_cases hlt : j < nk
   ·obtain ⟨g', x, rfl, -, hgl, ex, gc, gf⟩ := ho.at_ (k := j) (by rw [HM.out]; exact hlt)
    change wr.cell? ⟨g', j, none⟩ = some (.int .u8 (byt x)) at gc
    have hkd : decide ((j : Int) < nk) = true := by simp; omega
    have hki : (j : Int) < nk := by omega
    have hnt := byt_not x
    have hnt2 : bits .xor .u8 (if IntKind.u8.signed = true then -1 else IntKind.u8.max) (byt x) = byt (~~~x) := byt_not x
    have hos := ho.set j (~~~x)
    have HOS := Lib.hid hos
    clear ex ho hos
    go_wp2_with fail
    go_roundw
    case rel => exact ⟨j + 1, M.set j (~~~x), by omega, by go_num, by rw [List.length_set]; exact HM.out, HOS.out, HB.out.setCell (p := ⟨g', j, none⟩) (.inl (by simp [obl])) _⟩
    case measure => simp [intOf]; omega
   ·obtain rfl : nk = j := by omega
    clear ho
    have HK7 := Lib.hid (HK6.out.but HB.out HGA.out); have HZ7 := Lib.hid (HZ6.out.but HB.out HAB.out)
    have HB7 := Lib.hid (HB6.out.trans (HB.out.toBelow HB6.out.size HAW.out))
    have k0 : wr.cell? ⟨g, 0, none⟩ = some (.int .i64 k) := HK7.out.cell 0
    have k1 : wr.cell? ⟨g, 1, none⟩ = some (.int .i64 len) := HK7.out.cell 1
    have k2 : wr.cell? ⟨g, 2, none⟩ = some (.slice Ak nk ck) := HK7.out.cell 2
    have k3 : wr.cell? ⟨g, 3, none⟩ = some (.slice s.A s.n s.c) := HK7.out.cell 3
    have k4 : wr.cell? ⟨g, 4, none⟩ = some (.slice t.A t.n t.c) := HK7.out.cell 4
    have kl := HK7.out.lt
    go_wp2_with fail
    clear hlt
    refine wp_region_B (Ords.of [(0, 0), (0, 1), (0, 2), (0, 3), (0, 4), (0, 5), (0, 6), (0, 7), (0, 8), (0, 9), (0, 10), (0, 11), (0, 13), (2, 12), (0, 14), (0, 15)] .fin) (by kernel_rfl) rfl (by kernel_rfl) (by kernel_rfl) (fun c a d v w h => by cases d <;> exact h) ?_
    iterate 2 (refine ords_pure rfl (fun K hK => ?_); go_simp; refine hK _ ?_; clear hK K)
    iterate 5 (refine ords_heldK rfl (fun K K2 hK hK2 => ?_); go_simp; refine ⟨hK2 _ (fun w9 hS => ?_), hK _ ?_⟩; (clear hK hK2 K K2; (first | refine withN hS ?_ | refine withD hS ?_ | refine with0 hS ?_); intro hcS hfS; go_simp); (clear hK hK2 K K2); refine ords_pure rfl (fun K hK => ?_); go_simp; refine hK _ ?_; clear hK K)
    refine ords_pure rfl (fun K hK => ?_); go_simp; refine hK _ ?_; clear hK K
    refine ords_loud rfl (fun n1 => ?_)
    go_wp2_with fail
    refine ⟨bal (bdr (b0 wr) _) _, ?_⟩
    go_simp
    iterate 2 (refine ords_pure rfl (fun K hK => ?_); go_simp; refine hK _ ?_; clear hK K)
    refine ords_end (fun n2 => ?_)
    go_wp2_with fail
    refine bodyPost_ret (results_tmp3 rfl _ _ _) rfl ⟨_, wr.heap.size, _, rfl, ⟨wr, HZ7.out, bdr (bal (bdr (b0 wr) _) _) _, Nat.le_refl _⟩, HAV.out, Blk.drewN (Blk.new (wr.drewN _) _ _) _, bdr (bal (bdr HB7.out _) _) _⟩
 ·have t1 : (E != 0) = false := by simpa using hE0
  clear hE0
  have k0 : v.cell? ⟨g, 0, none⟩ = some (.int .i64 k) := HKv.out.cell 0
  have k1 : v.cell? ⟨g, 1, none⟩ = some (.int .i64 len) := HKv.out.cell 1
  have k2 : v.cell? ⟨g, 2, none⟩ = some (.slice Ak nk ck) := HKv.out.cell 2
  have k3 : v.cell? ⟨g, 3, none⟩ = some (.slice s.A s.n s.c) := HKv.out.cell 3
  have k4 : v.cell? ⟨g, 4, none⟩ = some (.slice t.A t.n t.c) := HKv.out.cell 4
  have kl := HKv.out.lt
  go_wp2_with (first
   | (go_at_call 19; refine (HVA.out _).mono ?_; rintro e5 w5 ⟨rfl, hb5⟩; have HK5 := Lib.hid (HKv.out.below hb5 HKv.out.lt); have HB5 := Lib.hid (bcall HBv.out hb5); have HO5 := Lib.hid (HOv.out.below hb5 (Nat.le_refl _)); have HZ5 := Lib.hid (HZ.out.but (But.of hb5 []) (fun _ h => by cases h)); clear hb5 k0 k1 k2 k3 k4 kl; have k2 : w5.cell? ⟨g, 2, none⟩ = some (.slice Ak nk ck) := HK5.out.cell 2; have hsm := same7_any A1 Ak c1 ck key key nk nk w5 HN.out HN.out (by omega) HO5.out.reads (HRW.out w5 HB5.out); rw [decide_eq_true rfl] at hsm; have HSM := Lib.hid hsm; clear hsm)
   | (go_at_call 20; refine HSM.out.mono ?_; rintro e6 w6 ⟨rfl, hb6⟩; have HK6 := Lib.hid (HK5.out.below hb6 HK5.out.lt); have HB6 := Lib.hid (bcall HB5.out hb6); have HO6 := Lib.hid (HO5.out.below hb6 (Nat.le_refl _)); have HZ6 := Lib.hid (HZ5.out.but (But.of hb6 []) (fun _ h => by cases h)); clear hb6 k2))
  go_loopw [9, 58] (fun _ i wr => ∃ (j : Nat) (M : List UInt8), j ≤ nk ∧ i = .int .i64 j ∧ M.length = nk ∧ OS cB wr u.heap.size A1 c1 M ∧ But (obl A1) w6 wr) (fun _ i _ => nk - (intOf i).toNat)
  case atStart => exact ⟨0, key, Nat.zero_le _, rfl, HN.out, HO6.out, But.refl _ _⟩
  case round =>
   obtain ⟨j, M, hj, rfl, hM, ho, hb⟩ := hrel
   have HM := Lib.hid hM; have HB := Lib.hid hb
   clear hM hb
   by_cases hlt : j < nk
   ·obtain ⟨g', x, rfl, -, hgl, ex, gc, gf⟩ := ho.at_ (k := j) (by rw [HM.out]; exact hlt)
    change wr.cell? ⟨g', j, none⟩ = some (.int .u8 (byt x)) at gc
    have hkd : decide ((j : Int) < nk) = true := by simp; omega
    have hki : (j : Int) < nk := by omega
    have hnt := byt_not x
    have hnt2 : bits .xor .u8 (if IntKind.u8.signed = true then -1 else IntKind.u8.max) (byt x) = byt (~~~x) := byt_not x
    have hos := ho.set j (~~~x)
    have HOS := Lib.hid hos
    clear ex ho hos
    go_wp2_with fail
    go_roundw
    case rel => exact ⟨j + 1, M.set j (~~~x), by omega, by go_num, by rw [List.length_set]; exact HM.out, HOS.out, HB.out.setCell (p := ⟨g', j, none⟩) (.inl (by simp [obl])) _⟩
    case measure => simp [intOf]; omega
   ·obtain rfl : nk = j := by omega
    clear ho
    have HK7 := Lib.hid (HK6.out.but HB.out HGA.out); have HZ7 := Lib.hid (HZ6.out.but HB.out HAB.out)
    have HB7 := Lib.hid (HB6.out.trans (HB.out.toBelow HB6.out.size HAW.out))
    have k0 : wr.cell? ⟨g, 0, none⟩ = some (.int .i64 k) := HK7.out.cell 0
    have k1 : wr.cell? ⟨g, 1, none⟩ = some (.int .i64 len) := HK7.out.cell 1
    have k2 : wr.cell? ⟨g, 2, none⟩ = some (.slice Ak nk ck) := HK7.out.cell 2
    have k3 : wr.cell? ⟨g, 3, none⟩ = some (.slice s.A s.n s.c) := HK7.out.cell 3
    have k4 : wr.cell? ⟨g, 4, none⟩ = some (.slice t.A t.n t.c) := HK7.out.cell 4
    have kl := HK7.out.lt
    go_wp2_with fail
    clear hlt
    refine wp_region_B (Ords.of [(0, 0), (0, 1), (0, 2), (0, 3), (0, 4), (0, 5), (0, 6), (0, 7), (0, 8), (0, 9), (0, 10), (0, 11), (0, 13), (2, 12), (0, 14), (0, 15)] .fin) (by kernel_rfl) rfl (by kernel_rfl) (by kernel_rfl) (fun c a d v w h => by cases d <;> exact h) ?_
    iterate 2 (refine ords_pure rfl (fun K hK => ?_); go_simp; refine hK _ ?_; clear hK K)
    iterate 5 (refine ords_heldK rfl (fun K K2 hK hK2 => ?_); go_simp; refine ⟨hK2 _ (fun w9 hS => ?_), hK _ ?_⟩; (clear hK hK2 K K2; (first | refine withN hS ?_ | refine withD hS ?_ | refine with0 hS ?_); intro hcS hfS; go_simp); (clear hK hK2 K K2); refine ords_pure rfl (fun K hK => ?_); go_simp; refine hK _ ?_; clear hK K)
    refine ords_pure rfl (fun K hK => ?_); go_simp; refine hK _ ?_; clear hK K
    refine ords_loud rfl (fun n1 => ?_)
    go_wp2_with fail
    refine ⟨bal (bdr (b0 wr) _) _, ?_⟩
    go_simp
    iterate 2 (refine ords_pure rfl (fun K hK => ?_); go_simp; refine hK _ ?_; clear hK K)
    refine ords_end (fun n2 => ?_)
    go_wp2_with fail
    refine bodyPost_ret (results_tmp3 rfl _ _ _) rfl ⟨_, wr.heap.size, _, rfl, ⟨wr, HZ7.out, bdr (bal (bdr (b0 wr) _) _) _, Nat.le_refl _⟩, HAV.out, Blk.drewN (Blk.new (wr.drewN _) _ _) _, bdr (bal (bdr HB7.out _) _) _⟩
end Go.Proofs.YtmapfcdffklopaaGreat

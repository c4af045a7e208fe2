/-
  Z26: contracts and lemmas alone; no statement is claimed here.
-/
import Derived.Test.YtmapfcdffklopaaGreatZx
import Derived.Test.YtmapfcdffklopaaGreatZxc
import Derived.Test.YtmapfcdffklopaaGreatZ24
import Derived.Deep.CutRange
set_option maxHeartbeats 4000000
set_option maxRecDepth 20000
namespace Go.Proofs.YtmapfcdffklopaaGreat
open _root_.Nat renaming not_lt_zero → cZF
open _root_.Nat renaming lt_irrefl → bZI
open _root_.Nat renaming lt_of_lt_of_le → aZO
open _root_.Nat renaming le_trans → aZL
open _root_.Option.some renaming inj → aZF
open _root_.Nat renaming le_refl → aZC
open Go renaming bodyPost_ret → aZB
open Lib renaming hid -> zH
open Go.RowKit
attribute [local go_sem] pureUpon Ords.of
structure SetIn (w : World) (P : LP) (a b c : Sl) : Prop where
  hk : P.key.length = a.n
  hs : P.ls.length = b.n
  hp : P.lp.length = c.n
  rk : RS cB w w.heap.size a.A P.key
  rs : RS cB w w.heap.size b.A P.ls
  rp : RS cB w w.heap.size c.A P.lp
theorem SetIn.below {w w' : World} {P : LP} {a b c : Sl} (h : SetIn w P a b c) (hb : Below w.heap.size w w') : SetIn w' P a b c :=
 ⟨h.hk, h.hs, h.hp, (h.rk.below hb).more hb.size, (h.rs.below hb).more hb.size, (h.rp.below hb).more hb.size⟩
def LP.nkey (P : LP) (i : Nat) : List UInt8 := if i = lnOf P.big then [] else P.key
def LP.nlast (P : LP) (i : Nat) : Bool := decide (lnOf P.big - 1 <= i)
def LP.eng0 (P : LP) (i : Nat) : Eng := startK P.big (P.blk i) (P.nkey i)
theorem LP.err_dig {P : LP} (he : P.err = 0) : ∃ d : Nat, P.digest = d /\ 1 <= d /\ d <= bOf P.big := by
 have h := (chk_range he).1;have h2 : 1 <= P.digest /\ P.digest <= (bOf P.big : Int) := h;exact ⟨P.digest.toNat, by omega, by omega, by omega⟩
theorem hasher_any (P : LP) (i : Nat) (hi : i <= lnOf P.big) (he : P.err = 0) (d : Nat) (hd : P.digest = d) (a b c : Sl) (w : World) (hin : SetIn w P a b c) :
  Calls Tryz.prog 132 #[.agg (setC (lnOf P.big) (blOf P.big) (bOf P.big) (kOf P.big) P.digest a b c), .int .i64 i] w fun r w' => ∃ q F, r = .returned (.pointer (some ⟨q, 0, none⟩)) /\ Nd w' q P.big d (P.blk i) (P.nkey i) (P.nlast i) 0 (P.eng0 i) F /\ (∀ k, k ∈ F -> w.heap.size <= k) /\ Below w.heap.size w w' := by
 have h8 := lnOf_pos P.big;have hpa : ∀ W, Calls Tryz.prog 131 #[.agg (setC (lnOf P.big) (blOf P.big) (bOf P.big) (kOf P.big) P.digest a b c), .int .i64 i] W (fun e w' => e = .returned (P.par i b c).v /\ Below W.heap.size W w') := fun W => by
  have h := setParams_any (lnOf P.big) (blOf P.big) (bOf P.big) (kOf P.big) P.digest i a b c (by omega) (by omega) (by omega) W;rw [show lanePar (lnOf P.big) (bOf P.big) P.digest a.n i b c = P.par i b c by unfold LP.par; rw [hin.hk]] at h;exact h
 have hnw : ∀ (A : Option Addr) (nk ck : Nat) W, (P.nkey i).length = nk -> RS cB W W.heap.size A (P.nkey i) -> SetIn W P a b c -> Calls Tryz.prog 60 #[.int .i64 (kOf P.big), (P.par i b c).v, .slice A nk ck] W (fun r w' => ∃ q F, r = .returned (.tuple #[.pointer (some ⟨q, 0, none⟩), .int .i64 0]) /\ Nd w' q P.big d (P.blk i) (P.nkey i) false 0 (P.eng0 i) F /\ (∀ k, k ∈ F -> W.heap.size <= k) /\ Below W.heap.size W w') := fun A nk ck W h1 h2 h3 => by
  have h := new_any P.big d (P.par i b c) P.ls P.lp (P.nkey i) A nk ck W (by rw [P.chk_eq i hi b c h3.hs h3.hp]; exact he) (P.fit i hi b c) hd h3.hs h3.hp h3.rs h3.rp h1 (by
   rw [<- h1]
   show _ \/ ((P.nkey i).length : Int) = (P.key.length : Int)
   unfold LP.nkey
   split
   ·exact .inl rfl
   ·exact .inr rfl) h2
  rw [P.blk_eq] at h;exact h
 have hla : ∀ q F (W : World) e, Nd W q P.big d (P.blk i) (P.nkey i) false 0 e F -> Calls Tryz.prog 148 #[.pointer (some ⟨q, 0, none⟩), .bool (P.nlast i)] W (fun r w' => r = .returned (.int .i64 0) /\ Nd w' q P.big d (P.blk i) (P.nkey i) (P.nlast i) 0 e F /\ But F W w') := fun q F W e hN => lastN_any q d P.big false (P.nlast i) (P.blk i) (P.nkey i) 0 e F W hN
 have hkl : (i = lnOf P.big -> P.nkey i = []) /\ (i ≠ lnOf P.big -> P.nkey i = P.key) := ⟨fun h => if_pos h, fun h => if_neg h⟩;have hlst : P.nlast i = decide ((lnOf P.big : Int) - 1 <= (i : Int)) := by unfold LP.nlast; exact decide_eq_decide.2 (by omega)
 generalize P.nlast i = lst at *;generalize P.eng0 i = e0 at *;generalize P.nkey i = key at *;generalize P.blk i = X at *;generalize (P.par i b c).v = PV at *;generalize kOf P.big = kk at *;generalize lnOf P.big = n at *;generalize blOf P.big = blk at *;generalize bOf P.big = most at *;have HPA := zH hpa; have HNW := zH hnw; have HLA := zH hla; have HIN := zH hin; have HKL := zH hkl; have HLST := zH hlst;have hsu := zH Tryz.underlying174;clear hpa hnw hla hin hkl he hd hlst;have ti : (((i : Int) == (n : Int)) = true /\ i = n) \/ (((i : Int) == (n : Int)) = false /\ i ≠ n) := by
  by_cases h : i = n
  ·exact .inl ⟨by simp [h], h⟩
  ·exact .inr ⟨by simp; omega, h⟩
 have HKK : Hid (∃ (A : Option Addr) (nk ck : Nat), ((if i = n then (Value.slice none 0 0) else (.slice a.A a.n a.c)) = .slice A nk ck) /\ key.length = nk /\ ∀ W, SetIn W P a b c -> RS cB W W.heap.size A key) := by
  by_cases h : i = n
  ·exact ⟨none, 0, 0, if_pos h, by rw [HKL.out.1 h]; rfl, fun W _ => by rw [HKL.out.1 h]; exact RS.nil _⟩
  ·exact ⟨a.A, a.n, a.c, if_neg h, by rw [HKL.out.2 h]; exact HIN.hk, fun W hW => by rw [HKL.out.2 h]; exact hW.rk⟩
 obtain ⟨A, nk, ck, hsl, hnk, hrk⟩ := HKK.out;have HNK := zH hnk; have HRK := zH hrk; have HSL := zH hsl;clear hsl hnk hrk HKK HKL;go_enter Tryz.func132, Tryz.ntmps132;go_upto_region 1 with fail
 have HBK := zH (Blk.new w 174 (setC n blk most kk P.digest a b c));have HB := zH (bal (b0 w) (.cells (setC n blk most kk P.digest a b c) 174));obtain ⟨g, hg⟩ : ∃ g, g = w.heap.size := ⟨_, rfl⟩;rw [<- hg] at HBK ⊢;have HG := zH hg;clear hg;generalize w.alloc (.cells (setC n blk most kk P.digest a b c) 174) = u at *;have q0 : u.cell? ⟨g, 0, none⟩ = some (.int .i64 n) := HBK.cell 0;have q3 : u.cell? ⟨g, 3, none⟩ = some (.int .i64 kk) := HBK.cell 3;have q5 : u.cell? ⟨g, 5, none⟩ = some (.slice a.A a.n a.c) := HBK.cell 5;rcases ti with ⟨t1, t2⟩ | ⟨t1, t2⟩
 all_goals
  have hsl := HSL.out
  first | rw [if_pos t2] at hsl | rw [if_neg t2] at hsl
  injection hsl with s1 s2 s3
  subst s1; subst s2; subst s3;have HKT := zH t2;clear t2;go_upto_region 4 with fail
  clear q5;refine wrZ (fun w' => Blk w' g 174 (setC n blk most kk P.digest a b c)) (fun _ n h => h.drewN n) (Ords.of [(0, 0), (0, 1), (0, 2), (0, 3), (0, 5), (2, 4), (2, 6), (0, 7), (0, 8), (0, 9), (0, 10), (0, 11)] .fin) HBK ?_;refine ords_pure rfl (fun K hK => ?_); go_simp; refine hK _ ?_; clear hK K;refine ords_heldK rfl (fun K K2 hK hK2 => ?_); go_simp; refine ⟨hK2 _ (fun w9 hS => ?_), hK _ ?_⟩; (clear hK hK2 K K2; have q3 : w9.cell? ⟨g, 3, none⟩ = some (.int .i64 kk) := hS.cell 3; clear hS; go_simp); (clear hK hK2 K K2);refine ords_held (v := Value.agg ((setC n blk most kk P.digest a b c).toList).toArray) rfl rfl (fun w9 hS => pure_load_mid 174 (.tmp 2) rfl g 0 rfl _ _ hS.whole hsu.out rfl (setC_size _ _ _ _ _ _ _ _)) ?_; go_simp
  iterate 2 (refine ords_pure rfl (fun K hK => ?_); go_simp; refine hK _ ?_; clear hK K)
  refine ords_loud rfl (fun n1 => ?_);clear q0 q3;replace HB := zH (bdr HB n1); replace HBK := zH (HBK.drewN n1); generalize u.drewN n1 = u at *;go_wp2_with (go_at_call 131; refine (HPA _).mono ?_; rintro e3 u ⟨rfl, hb3⟩);replace HB := zH (bcall HB hb3); replace HBK := zH (HBK.below hb3 HBK.lt);clear hb3;refine ⟨HBK.out, ?_⟩;go_simp;refine ords_loud rfl (fun n2 => ?_);replace HB := zH (bdr HB n2); replace HBK := zH (HBK.drewN n2); generalize u.drewN n2 = u at *;have hz0 := zH HB.size;go_wp2_with (go_at_call 60; refine (HNW _ _ _ _ HNK (HRK _ (HIN.below HB)) (HIN.below HB)).mono ?_; rintro e4 u ⟨q, F, rfl, hN, hF, hb4⟩);replace HB := zH (bcall HB hb4); replace HBK := zH (HBK.below hb4 HBK.lt);have HND := zH hN; have HF := zH (fun k hk => aZL hz0.out (hF k hk));clear hb4 hN hF hz0;refine ⟨HBK.out, ?_⟩;go_simp
  iterate 5 (refine ords_pure rfl (fun K hK => ?_); go_simp; refine hK _ ?_; clear hK K)
  refine ords_end (fun n3 => ?_);replace HND := zH (HND.drewN n3);replace HB := zH (bdr HB n3); replace HBK := zH (HBK.drewN n3); generalize u.drewN n3 = u at *;have q0 : u.cell? ⟨g, 0, none⟩ = some (.int .i64 n) := HBK.cell 0;have hl5 := HLA q F u e0 HND.out;rw [HLST.out] at hl5;have HL5 := zH hl5;clear hl5;go_wp2_with (go_at_call 148; refine HL5.mono ?_; rintro e5 u5 ⟨rfl, hN5, hb5⟩; have HN5 := zH hN5; have HB5 := zH hb5; clear hN5 hb5);exact aZB (results_tmp rfl _ _ _) rfl ⟨q, F, rfl, by rw [HLST.out]; exact HN5.out, HF.out, HB.trans (HB5.toBelow HB.size HF.out)⟩
def cP : Cod Nat := ⟨68, 177, 8, .pointer none, fun p => .pointer (some ⟨p, 0, none⟩)⟩
theorem cP_ok : cP.Ok Tryz.prog := ⟨Tryz.underlying177, by kernel_rfl, rfl, fun _ => rfl⟩
def hasC (P : LP) (a b c : Sl) (A : Option Addr) (m cap t : Nat) : Array Value := #[.int .i64 (lnOf P.big : Nat), .int .i64 (blOf P.big : Nat), .int .i64 (bOf P.big : Nat), .int .i64 (kOf P.big), .int .i64 P.digest, .slice a.A a.n a.c, .slice b.A b.n b.c, .slice c.A c.n c.c, .slice A m cap, .int .u64 t]
structure SetLow (w : World) (H : Nat) (P : LP) (a b c : Sl) : Prop where
  hk : P.key.length = a.n
  hs : P.ls.length = b.n
  hp : P.lp.length = c.n
  rk : RS cB w H a.A P.key
  rs : RS cB w H b.A P.ls
  rp : RS cB w H c.A P.lp
theorem SetLow.below {w w' : World} {H : Nat} {P : LP} {a b c : Sl} (h : SetLow w H P a b c) (hb : Below H w w') : SetLow w' H P a b c := ⟨h.hk, h.hs, h.hp, h.rk.below hb, h.rs.below hb, h.rp.below hb⟩
theorem SetLow.in_ {w : World} {H : Nat} {P : LP} {a b c : Sl} (h : SetLow w H P a b c) (hw : H <= w.heap.size) : SetIn w P a b c := ⟨h.hk, h.hs, h.hp, h.rk.more hw, h.rs.more hw, h.rp.more hw⟩
structure Nds (w : World) (H : Nat) (P : LP) (d m : Nat) (A : Option Addr) (cap : Nat) (ps : List Nat) (F : Nat -> List Nat) (e : Nat -> Eng) : Prop where
  row : OS cP w H A cap ps
  len : ps.length = m
  node : ∀ i, i < m -> ∃ p wr, ps[i]? = some p /\ Nd w p P.big d (P.blk i) (P.nkey i) (P.nlast i) wr (e i) (F i)
  low : ∀ i, i < m -> ∀ k, k ∈ F i -> H <= k
  far : ∀ i j, i < m -> j < m -> i ≠ j -> ∀ k, k ∈ F i -> k ∉ F j
  fa : ∀ i, i < m -> ∀ a, A = some a -> a.block ∉ F i
section
variable {w w' : World} {H : Nat} {P : LP} {d m : Nat} {A : Option Addr} {cap : Nat} {ps : List Nat} {F : Nat -> List Nat} {e : Nat -> Eng}
theorem Nds.below (h : Nds w H P d m A cap ps F e) (hb : Below w.heap.size w w') : Nds w' H P d m A cap ps F e :=
 ⟨h.row.below hb (aZC _), h.len, fun i hi => by obtain ⟨p, wr, h1, h2⟩ := h.node i hi; exact ⟨p, wr, h1, h2.below hb⟩, h.low, h.far, h.fa⟩
theorem Nds.drewN (h : Nds w H P d m A cap ps F e) (k : Nat) : Nds (w.drewN k) H P d m A cap ps F e := h.below (bdr (b0 w) k)
theorem Nds.setFar (h : Nds w H P d m A cap ps F e) {p : Addr} (hp : ∀ i, i < m -> p.block ∉ F i) (hA : ∀ a, A = some a -> a.block ≠ p.block) (v : Value) : Nds (w.setCell p v) H P d m A cap ps F e :=
 ⟨h.row.setFar hA v, h.len, fun i hi => by
  obtain ⟨q, wr, h1, h2⟩ := h.node i hi;exact ⟨q, wr, h1, h2.of_ (fun k hk => Below.heap_setCell w p v k (fun e => hp i hi (by rw [<- e]; exact hk)))⟩, h.low, h.far, h.fa⟩
theorem Nds.empty (w : World) (H : Nat) (P : LP) (d : Nat) (e : Nat -> Eng) : Nds w H P d 0 none 0 [] (fun _ => []) e :=
 ⟨OS.nil w H 0 rfl, rfl, fun i h => absurd h (cZF i), fun i h => absurd h (cZF i), fun i _ h => absurd h (cZF i), fun i h => absurd h (cZF i)⟩
theorem Nds.snoc (h : Nds w H P d m A cap ps F e) {q : Nat} {G : List Nat} (hN : Nd w q P.big d (P.blk m) (P.nkey m) (P.nlast m) 0 (e m) G) (hG : ∀ k, k ∈ G -> H <= k) (hd : ∀ i, i < m -> ∀ k, k ∈ G -> k ∉ F i) (hA : ∀ a, A = some a -> a.block ∉ G)
  {A' : Option Addr} {cap' : Nat} (ho : OS cP w' H A' cap' (ps ++ [q])) (hg : w.grownBy w' (A.map (·.block))) (hA' : A'.map (·.block) = A.map (·.block) \/ A'.map (·.block) = some w.heap.size) : Nds w' H P d (m + 1) A' cap' (ps ++ [q]) (fun i => if i = m then G else F i) e := by open kA in exact zS39
end
theorem lnoneH_any (P : LP) (a b c : Sl) (A : Option Addr) (m cap t h : Nat) (w : World) (hb : Blk w h 179 (hasC P a b c A m cap t)) :
  Calls Tryz.prog 113 #[.pointer (some ⟨h, 0, none⟩)] w fun r w' => r = .returned (.bool false) /\ w = w' := by
 have c0 : w.cell? ⟨h, 0, none⟩ = some (.int .i64 (lnOf P.big : Nat)) := hb.cell 0;have hl := hb.lt;have tn : (((lnOf P.big : Nat) : Int) == 0) = false := by have := lnOf_pos P.big; simp; omega
 generalize lnOf P.big = n at *;clear hb;go_enter Tryz.func113, Tryz.ntmps113;go_wp2_with fail;exact aZB (results_tmp rfl _ _ _) rfl ⟨rfl, rfl⟩
theorem num9 (k : Nat) : Value.int .i64 ((k : Int) + 1) = .int .i64 ((k + 1 : Nat) : Int) := rfl
theorem measH (n k : Nat) (h : k < n) : n - (intOf (.int .i64 ((k : Int) + 1))).toNat < n - (intOf (.int .i64 (k : Int))).toNat := by simp [intOf]; omega
theorem reset_any (P : LP) (he : P.err = 0) (d : Nat) (hd : P.digest = d) (a b c : Sl) (h H : Nat) (A0 : Option Addr) (m0 c0 t0 : Nat) (w : World) (hb : Blk w h 179 (hasC P a b c A0 m0 c0 t0)) (hH : H <= h) (hs : SetLow w H P a b c) :
  Calls Tryz.prog 112 #[.pointer (some ⟨h, 0, none⟩)] w fun r w' => ∃ A cap ps F, r = .returned (.int .i64 0) /\ Blk w' h 179 (hasC P a b c A (lnOf P.big) cap 0) /\ Nds w' H P d (lnOf P.big) A cap ps F P.eng0 /\ (∀ i, i < lnOf P.big -> h ∉ F i) /\ (∀ x, A = some x -> x.block ≠ h) /\ Below H w w' := by
 have hno := lnoneH_any P a b c A0 m0 c0 t0 h w hb;have hha := fun (i : Nat) (hi : i <= lnOf P.big) W (h : SetIn W P a b c) => hasher_any P i hi he d hd a b c W h
 have h8 := lnOf_pos P.big;obtain ⟨n, hn⟩ : ∃ n, n = lnOf P.big := ⟨_, rfl⟩;have HN := zH hn;have HNO := zH hno; have HHA := zH hha; have HS := zH hs; have HLO := zH hH; have H8 := zH h8;have HBK := zH hb;have hsu := zH Tryz.underlying174;have l0 := hb.lt;have z8 : w.cell? ⟨h, 8, none⟩ = some (.slice A0 m0 c0) := hb.cell 8;have z9 : w.cell? ⟨h, 9, none⟩ = some (.int .u64 t0) := hb.cell 9;have f8 := hb.frozen 8;have f9 := hb.frozen 9;rw [<- hn];clear hno hha hs hH h8 hb hn he hd;go_enter Tryz.func112, Tryz.ntmps112;go_upto_region 4 with (go_at_call 113; refine HNO.mono ?_; rintro e1 w1 ⟨rfl, rfl⟩)
 have HB2 := zH ((HBK.set_ 9 (.int .u64 0)).set_ 8 (.slice none 0 0));have HW2 := zH (((Below.refl H w).setCell (p := ⟨h, 9, none⟩) HLO (.int .u64 0)).setCell (p := ⟨h, 8, none⟩) HLO (.slice none 0 0));change Hid (Blk _ h 179 (hasC P a b c none 0 0 0)) at HB2;clear z8 z9 f8 f9 l0 HBK;generalize (w.setCell ⟨h, 9, none⟩ (.int .u64 0)).setCell ⟨h, 8, none⟩ (.slice none 0 0) = w2 at *;have z0 : w2.cell? ⟨h, 0, none⟩ = some (.int .i64 n) := by rw [HN.out]; exact HB2.cell 0
 have l0 := HB2.lt;go_wp2_with fail;clear z0 l0;go_loopw [3, 18] (fun i1 ix wr => ∃ (j : Nat) (A : Option Addr) (cap : Nat) (ps : List Nat) (F : Nat -> List Nat), j <= n /\ ix = .int .i64 j /\ Blk wr h 179 (hasC P a b c A j cap 0) /\ Nds wr H P d j A cap ps F P.eng0 /\ (∀ i, i < j -> h ∉ F i) /\ (∀ x, A = some x -> x.block ≠ h) /\ Below H w wr) (fun _ ix _ => n - (intOf ix).toNat)
 case atStart => exact ⟨0, none, 0, [], fun _ => [], Nat.zero_le _, rfl, HB2.out, Nds.empty _ _ _ _ _, fun i hi => absurd hi (cZF i), fun _ h => (nomatch h), HW2.out⟩
 case round =>
  clear HB2 HW2;obtain ⟨j, A, cap, ps, F, hj, rfl, hbk, hnd, hfh, hah, hbw⟩ := hrel;have HBK := zH hbk; have HND := zH hnd; have HFH := zH hfh; have HAH := zH hah; have HBW := zH hbw;clear hbk hnd hfh hah hbw
  by_cases hlt : j < n
  ·have HJ := zH hlt
   have d1 : decide ((j : Int) < (n : Int)) = true := by simp; omega
   have hj8 : j <= 8 := by have := H8.out; rw [<- HN.out] at this; omega
   go_upto_region 7 with fail
   clear hj hlt;have HHW := zH (aZL HLO (Nat.le_of_lt HBK.lt));obtain ⟨u, hu⟩ : ∃ u, u = wr := ⟨_, rfl⟩;have HWU : Hid (Below wr.heap.size wr u) := by rw [hu]; exact b0 wr
   rw [<- hu];rw [<- hu] at HBK HND;have hgl := HBK.lt;have z8 : u.cell? ⟨h, 8, none⟩ = some (.slice A j cap) := HBK.cell 8;clear hu;have HSL := zH (fun (W : World) (hW : Below wr.heap.size wr W) => (HS.below (HBW.trans (hW.mono HHW))).in_ (aZL HHW hW.size));refine wrZ (fun w' => w'.rangeAt h 0 (setC (lnOf P.big) (blOf P.big) (bOf P.big) (kOf P.big) P.digest a b c).toList) (fun _ n h => h) (Ords.of [(0, 0), (0, 1), (0, 2), (0, 3), (0, 5), (0, 6), (0, 7), (0, 8), (0, 9)] (.two 4 10 (Ords.of [(2, 10), (2, 11), (2, 12), (0, 13), (0, 14), (2, 15)] .fin) (Ords.of [] (.two 4 11 (Ords.of [(2, 11), (2, 12), (0, 13), (0, 14), (2, 15)] .fin) (Ords.of [(2, 4), (2, 12), (0, 13), (0, 14), (2, 15)] .fin))))) (HBK.range 0 8) ?_
   iterate 7 (refine ords_pure rfl (fun K hK => ?_); go_simp; refine hK _ ?_; clear hK K)
   refine ords_held (v := Value.agg ((setC (lnOf P.big) (blOf P.big) (bOf P.big) (kOf P.big) P.digest a b c).toList).toArray) rfl rfl (fun w9 hS => pure_load_mid 174 (.tmp 28) rfl h 0 rfl _ _ (hS) hsu.out rfl (setC_size _ _ _ _ _ _ _ _)) ?_; go_simp;refine ords_pure rfl (fun K hK => ?_); go_simp; refine hK _ ?_; clear hK K;refine ords_two rfl rfl (fun n1 => ?_) (fun n1 => ?_)
   focus
    (try clear z8)
    replace HWU := zH (bdr HWU n1); replace HBK := zH (HBK.drewN n1); replace HND := zH (HND.drewN n1); (try replace HQ := zH (HQ.drewN n1)); (try replace HC1 := zH (show (u.drewN n1).cell? ⟨gb, 0, none⟩ = some (cP.enc q) from HC1)); generalize u.drewN n1 = u at *;have z8 : u.cell? ⟨h, 8, none⟩ = some (.slice A j cap) := HBK.cell 8;have l8 := HBK.lt;go_wp2_with fail;clear z8 l8;refine ⟨HBK.range 0 8, ?_⟩;go_simp;refine ords_loud rfl (fun n2 => ?_)
    (try clear z8)
    replace HWU := zH (bdr HWU n2); replace HBK := zH (HBK.drewN n2); replace HND := zH (HND.drewN n2); (try replace HQ := zH (HQ.drewN n2)); (try replace HC1 := zH (show (u.drewN n2).cell? ⟨gb, 0, none⟩ = some (cP.enc q) from HC1)); generalize u.drewN n2 = u at *;go_wp2_with (go_at_call 132; refine (HHA.out j (by rw [<- HN.out]; exact Nat.le_of_lt HJ.out) u (HSL.out u HWU.out)).mono ?_; rintro e3 u3 ⟨q, G, rfl, hN, hG, hb3⟩);have HG := zH (fun k hk => aZL HWU.size (hG k hk));have HGD := zH (fun (i : Nat) (hi : i < j) (k : Nat) (hk : k ∈ G) (hm : k ∈ F i) => by obtain ⟨p, r, -, h2⟩ := HND.node i hi; exact bZI _ (aZO (h2.lt k hm) (hG k hk)));have HGA := zH (fun (x : Addr) (hx : A = some x) (hm : x.block ∈ G) => bZI _ (aZO (HND.row.block_lt x hx).2 (hG _ hm)));have HGH := zH (fun hm : h ∈ G => bZI _ (aZO HBK.lt (hG h hm)));have HQ := zH hN;replace HND := zH (HND.below hb3); replace HBK := zH (HBK.below hb3 HBK.lt); replace HWU := zH (bcall HWU hb3);clear hb3 hN hG;obtain ⟨u, hu⟩ : ∃ u, u = u3 := ⟨_, rfl⟩;subst hu;refine ⟨HBK.range 0 8, ?_⟩;go_simp;refine ords_loud rfl (fun n3 => ?_);replace HWU := zH (bdr HWU n3); replace HBK := zH (HBK.drewN n3); replace HND := zH (HND.drewN n3); (try replace HQ := zH (HQ.drewN n3)); (try replace HC1 := zH (show (u.drewN n3).cell? ⟨gb, 0, none⟩ = some (cP.enc q) from HC1)); generalize u.drewN n3 = u at *;go_wp2_with fail;have hb4 := bal (b0 u) (.cells #[.pointer (some ⟨q, 0, none⟩)] 68);have HC1 : Hid ((u.alloc (.cells #[.pointer (some ⟨q, 0, none⟩)] 68)).cell? ⟨u.heap.size, 0, none⟩ = some (cP.enc q)) := cnew _ _ _ rfl;replace HQ := zH (HQ.below hb4);replace HND := zH (HND.below hb4); replace HBK := zH (HBK.below hb4 HBK.lt); replace HWU := zH (bcall HWU hb4);clear hb4;obtain ⟨gb, hgb⟩ : ∃ g, g = u.heap.size := ⟨_, rfl⟩;rw [<- hgb] at HC1 ⊢;clear hgb;generalize u.alloc (.cells #[.pointer (some ⟨q, 0, none⟩)] 68) = u at *;refine ⟨HBK.range 0 8, ?_⟩;go_simp;refine ords_loud rfl (fun n4 => ?_);replace HWU := zH (bdr HWU n4); replace HBK := zH (HBK.drewN n4); replace HND := zH (HND.drewN n4); (try replace HQ := zH (HQ.drewN n4)); (try replace HC1 := zH (show (u.drewN n4).cell? ⟨gb, 0, none⟩ = some (cP.enc q) from HC1)); generalize u.drewN n4 = u at *;have HUS := zH (aZL HHW HWU.size)
    (refine wpList_appS _ cP_ok rfl (.tmp 25) (.tmp 32) rfl HND.row rfl HND.len (RS.one' HC1.out) rfl rfl (by show (j + 1) * 8 <= _; omega) (by omega) HUS.out ?_; intro A' cap' u4 ho hg hA)
    have HN2 := zH (HND.snoc HQ (fun k hk => aZL HHW (HG k hk)) HGD HGA ho hg hA);have HB4 := zH (HBK.grown hg (fun e => by cases hh : A with | none => rw [hh] at e; cases e | some x => rw [hh] at e; have e2 : h = x.block := aZF e; exact HAH.out x hh e2.symm));have HA4 : Hid (∀ x : Addr, A' = some x -> x.block ≠ h) := (fun x hx e2 => by
     rcases hA with e | e
     ·rw [hx] at e
      cases hh : A with
      | none => rw [hh] at e; cases e
      | some y => rw [hh] at e; have e3 : x.block = y.block := aZF e; exact HAH.out y hh (by rw [<- e3]; exact e2)
     ·rw [hx] at e
      have e3 : x.block = u.heap.size := aZF e;have e4 := HBK.lt;omega)
    have HW4 := zH (below_app (HWU.mono HHW) HND.row hg (aZC _) HUS);have HF4 := zH (fun (i : Nat) (hi : i < j + 1) => (show h ∉ (if i = j then G else F i) by
     by_cases e : i = j
     ·rw [if_pos e]; exact HGH.out
     ·rw [if_neg e]; exact HFH.out i (by omega)))
    clear HC1 HUS ho hg hA HND HBK HWU HQ HG HGD HGA HGH;refine ⟨HB4.range 0 8, ?_⟩;go_simp
    iterate 2 (refine ords_pure rfl (fun K hK => ?_); go_simp; refine hK _ ?_; clear hK K)
    refine ords_loud rfl (fun n5 => ?_);replace HN2 := zH (HN2.drewN n5); replace HB4 := zH (HB4.drewN n5); replace HW4 := zH (below_drewN HW4 n5); generalize u4.drewN n5 = u4 at *;have z8 : u4.cell? ⟨h, 8, none⟩ = some (.slice A j cap) := HB4.cell 8;have f8 := HB4.frozen 8;have l8 := HB4.lt;go_wp2_with fail;clear z8 f8 l8;replace HB4 := zH (HB4.set_ 8 (.slice A' (j + 1) cap'));replace HN2 := zH (HN2.setFar (p := ⟨h, 8, none⟩) HF4 HA4 (.slice A' (j + 1) cap'));replace HW4 := zH (HW4.setCell (p := ⟨h, 8, none⟩) HLO (.slice A' (j + 1) cap'));generalize u4.setCell ⟨h, 8, none⟩ (.slice A' (j + 1) cap') = u4 at *;change Hid (Blk u4 h 179 (hasC P a b c A' (j + 1) cap' 0)) at HB4;refine ⟨HB4.range 0 8, ?_⟩;go_simp;refine ords_end (fun n6 => ?_);replace HN2 := zH (HN2.drewN n6); replace HB4 := zH (HB4.drewN n6); replace HW4 := zH (below_drewN HW4 n6); generalize u4.drewN n6 = u4 at *
   rotate_left 1
   focus
    (try clear z8)
    replace HWU := zH (bdr HWU n1); replace HBK := zH (HBK.drewN n1); replace HND := zH (HND.drewN n1); (try replace HQ := zH (HQ.drewN n1)); (try replace HC1 := zH (show (u.drewN n1).cell? ⟨gb, 0, none⟩ = some (cP.enc q) from HC1)); generalize u.drewN n1 = u at *;go_wp2_with (go_at_call 132; refine (HHA.out j (by rw [<- HN.out]; exact Nat.le_of_lt HJ.out) u (HSL.out u HWU.out)).mono ?_; rintro e3 u3 ⟨q, G, rfl, hN, hG, hb3⟩);have HG := zH (fun k hk => aZL HWU.size (hG k hk));have HGD := zH (fun (i : Nat) (hi : i < j) (k : Nat) (hk : k ∈ G) (hm : k ∈ F i) => by obtain ⟨p, r, -, h2⟩ := HND.node i hi; exact bZI _ (aZO (h2.lt k hm) (hG k hk)));have HGA := zH (fun (x : Addr) (hx : A = some x) (hm : x.block ∈ G) => bZI _ (aZO (HND.row.block_lt x hx).2 (hG _ hm)));have HGH := zH (fun hm : h ∈ G => bZI _ (aZO HBK.lt (hG h hm)));have HQ := zH hN;replace HND := zH (HND.below hb3); replace HBK := zH (HBK.below hb3 HBK.lt); replace HWU := zH (bcall HWU hb3);clear hb3 hN hG;obtain ⟨u, hu⟩ : ∃ u, u = u3 := ⟨_, rfl⟩;subst hu;refine ⟨HBK.range 0 8, ?_⟩;go_simp;refine ords_two rfl rfl (fun n2 => ?_) (fun n2 => ?_)
    focus
     (try clear z8)
     replace HWU := zH (bdr HWU n2); replace HBK := zH (HBK.drewN n2); replace HND := zH (HND.drewN n2); (try replace HQ := zH (HQ.drewN n2)); (try replace HC1 := zH (show (u.drewN n2).cell? ⟨gb, 0, none⟩ = some (cP.enc q) from HC1)); generalize u.drewN n2 = u at *;have z8 : u.cell? ⟨h, 8, none⟩ = some (.slice A j cap) := HBK.cell 8;have l8 := HBK.lt;go_wp2_with fail;clear z8 l8;refine ⟨HBK.range 0 8, ?_⟩;go_simp;refine ords_loud rfl (fun n3 => ?_);replace HWU := zH (bdr HWU n3); replace HBK := zH (HBK.drewN n3); replace HND := zH (HND.drewN n3); (try replace HQ := zH (HQ.drewN n3)); (try replace HC1 := zH (show (u.drewN n3).cell? ⟨gb, 0, none⟩ = some (cP.enc q) from HC1)); generalize u.drewN n3 = u at *;go_wp2_with fail;have hb4 := bal (b0 u) (.cells #[.pointer (some ⟨q, 0, none⟩)] 68);have HC1 : Hid ((u.alloc (.cells #[.pointer (some ⟨q, 0, none⟩)] 68)).cell? ⟨u.heap.size, 0, none⟩ = some (cP.enc q)) := cnew _ _ _ rfl;replace HQ := zH (HQ.below hb4);replace HND := zH (HND.below hb4); replace HBK := zH (HBK.below hb4 HBK.lt); replace HWU := zH (bcall HWU hb4);clear hb4;obtain ⟨gb, hgb⟩ : ∃ g, g = u.heap.size := ⟨_, rfl⟩;rw [<- hgb] at HC1 ⊢;clear hgb;generalize u.alloc (.cells #[.pointer (some ⟨q, 0, none⟩)] 68) = u at *;refine ⟨HBK.range 0 8, ?_⟩;go_simp;refine ords_loud rfl (fun n4 => ?_);replace HWU := zH (bdr HWU n4); replace HBK := zH (HBK.drewN n4); replace HND := zH (HND.drewN n4); (try replace HQ := zH (HQ.drewN n4)); (try replace HC1 := zH (show (u.drewN n4).cell? ⟨gb, 0, none⟩ = some (cP.enc q) from HC1)); generalize u.drewN n4 = u at *;have HUS := zH (aZL HHW HWU.size)
     (refine wpList_appS _ cP_ok rfl (.tmp 25) (.tmp 32) rfl HND.row rfl HND.len (RS.one' HC1.out) rfl rfl (by show (j + 1) * 8 <= _; omega) (by omega) HUS.out ?_; intro A' cap' u4 ho hg hA)
     have HN2 := zH (HND.snoc HQ (fun k hk => aZL HHW (HG k hk)) HGD HGA ho hg hA);have HB4 := zH (HBK.grown hg (fun e => by cases hh : A with | none => rw [hh] at e; cases e | some x => rw [hh] at e; have e2 : h = x.block := aZF e; exact HAH.out x hh e2.symm));have HA4 : Hid (∀ x : Addr, A' = some x -> x.block ≠ h) := (fun x hx e2 => by
      rcases hA with e | e
      ·rw [hx] at e
       cases hh : A with
       | none => rw [hh] at e; cases e
       | some y => rw [hh] at e; have e3 : x.block = y.block := aZF e; exact HAH.out y hh (by rw [<- e3]; exact e2)
      ·rw [hx] at e
       have e3 : x.block = u.heap.size := aZF e;have e4 := HBK.lt;omega)
     have HW4 := zH (below_app (HWU.mono HHW) HND.row hg (aZC _) HUS);have HF4 := zH (fun (i : Nat) (hi : i < j + 1) => (show h ∉ (if i = j then G else F i) by
      by_cases e : i = j
      ·rw [if_pos e]; exact HGH.out
      ·rw [if_neg e]; exact HFH.out i (by omega)))
     clear HC1 HUS ho hg hA HND HBK HWU HQ HG HGD HGA HGH;refine ⟨HB4.range 0 8, ?_⟩;go_simp
     iterate 2 (refine ords_pure rfl (fun K hK => ?_); go_simp; refine hK _ ?_; clear hK K)
     refine ords_loud rfl (fun n5 => ?_);replace HN2 := zH (HN2.drewN n5); replace HB4 := zH (HB4.drewN n5); replace HW4 := zH (below_drewN HW4 n5); generalize u4.drewN n5 = u4 at *;have z8 : u4.cell? ⟨h, 8, none⟩ = some (.slice A j cap) := HB4.cell 8;have f8 := HB4.frozen 8;have l8 := HB4.lt;go_wp2_with fail;clear z8 f8 l8;replace HB4 := zH (HB4.set_ 8 (.slice A' (j + 1) cap'));replace HN2 := zH (HN2.setFar (p := ⟨h, 8, none⟩) HF4 HA4 (.slice A' (j + 1) cap'));replace HW4 := zH (HW4.setCell (p := ⟨h, 8, none⟩) HLO (.slice A' (j + 1) cap'));generalize u4.setCell ⟨h, 8, none⟩ (.slice A' (j + 1) cap') = u4 at *;change Hid (Blk u4 h 179 (hasC P a b c A' (j + 1) cap' 0)) at HB4;refine ⟨HB4.range 0 8, ?_⟩;go_simp;refine ords_end (fun n6 => ?_);replace HN2 := zH (HN2.drewN n6); replace HB4 := zH (HB4.drewN n6); replace HW4 := zH (below_drewN HW4 n6); generalize u4.drewN n6 = u4 at *
    rotate_left 1
    focus
     replace HWU := zH (bdr HWU n2); replace HBK := zH (HBK.drewN n2); replace HND := zH (HND.drewN n2); (try replace HQ := zH (HQ.drewN n2)); (try replace HC1 := zH (show (u.drewN n2).cell? ⟨gb, 0, none⟩ = some (cP.enc q) from HC1)); generalize u.drewN n2 = u at *;go_wp2_with fail;have hb4 := bal (b0 u) (.cells #[.pointer (some ⟨q, 0, none⟩)] 68);have HC1 : Hid ((u.alloc (.cells #[.pointer (some ⟨q, 0, none⟩)] 68)).cell? ⟨u.heap.size, 0, none⟩ = some (cP.enc q)) := cnew _ _ _ rfl;replace HQ := zH (HQ.below hb4);replace HND := zH (HND.below hb4); replace HBK := zH (HBK.below hb4 HBK.lt); replace HWU := zH (bcall HWU hb4);clear hb4;obtain ⟨gb, hgb⟩ : ∃ g, g = u.heap.size := ⟨_, rfl⟩;rw [<- hgb] at HC1 ⊢;clear hgb;generalize u.alloc (.cells #[.pointer (some ⟨q, 0, none⟩)] 68) = u at *;refine ⟨HBK.range 0 8, ?_⟩;go_simp;refine ords_loud rfl (fun n3 => ?_)
     (try clear z8)
     replace HWU := zH (bdr HWU n3); replace HBK := zH (HBK.drewN n3); replace HND := zH (HND.drewN n3); (try replace HQ := zH (HQ.drewN n3)); (try replace HC1 := zH (show (u.drewN n3).cell? ⟨gb, 0, none⟩ = some (cP.enc q) from HC1)); generalize u.drewN n3 = u at *;have z8 : u.cell? ⟨h, 8, none⟩ = some (.slice A j cap) := HBK.cell 8;have l8 := HBK.lt;go_wp2_with fail;clear z8 l8;refine ⟨HBK.range 0 8, ?_⟩;go_simp;refine ords_loud rfl (fun n4 => ?_);replace HWU := zH (bdr HWU n4); replace HBK := zH (HBK.drewN n4); replace HND := zH (HND.drewN n4); (try replace HQ := zH (HQ.drewN n4)); (try replace HC1 := zH (show (u.drewN n4).cell? ⟨gb, 0, none⟩ = some (cP.enc q) from HC1)); generalize u.drewN n4 = u at *;have HUS := zH (aZL HHW HWU.size)
     (refine wpList_appS _ cP_ok rfl (.tmp 25) (.tmp 32) rfl HND.row rfl HND.len (RS.one' HC1.out) rfl rfl (by show (j + 1) * 8 <= _; omega) (by omega) HUS.out ?_; intro A' cap' u4 ho hg hA)
     have HN2 := zH (HND.snoc HQ (fun k hk => aZL HHW (HG k hk)) HGD HGA ho hg hA);have HB4 := zH (HBK.grown hg (fun e => by cases hh : A with | none => rw [hh] at e; cases e | some x => rw [hh] at e; have e2 : h = x.block := aZF e; exact HAH.out x hh e2.symm));have HA4 : Hid (∀ x : Addr, A' = some x -> x.block ≠ h) := (fun x hx e2 => by
      rcases hA with e | e
      ·rw [hx] at e
       cases hh : A with
       | none => rw [hh] at e; cases e
       | some y => rw [hh] at e; have e3 : x.block = y.block := aZF e; exact HAH.out y hh (by rw [<- e3]; exact e2)
      ·rw [hx] at e
       have e3 : x.block = u.heap.size := aZF e;have e4 := HBK.lt;omega)
     have HW4 := zH (below_app (HWU.mono HHW) HND.row hg (aZC _) HUS);have HF4 := zH (fun (i : Nat) (hi : i < j + 1) => (show h ∉ (if i = j then G else F i) by
      by_cases e : i = j
      ·rw [if_pos e]; exact HGH.out
      ·rw [if_neg e]; exact HFH.out i (by omega)))
     clear HC1 HUS ho hg hA HND HBK HWU HQ HG HGD HGA HGH;refine ⟨HB4.range 0 8, ?_⟩;go_simp
     iterate 2 (refine ords_pure rfl (fun K hK => ?_); go_simp; refine hK _ ?_; clear hK K)
     refine ords_loud rfl (fun n5 => ?_);replace HN2 := zH (HN2.drewN n5); replace HB4 := zH (HB4.drewN n5); replace HW4 := zH (below_drewN HW4 n5); generalize u4.drewN n5 = u4 at *;have z8 : u4.cell? ⟨h, 8, none⟩ = some (.slice A j cap) := HB4.cell 8;have f8 := HB4.frozen 8;have l8 := HB4.lt;go_wp2_with fail;clear z8 f8 l8;replace HB4 := zH (HB4.set_ 8 (.slice A' (j + 1) cap'));replace HN2 := zH (HN2.setFar (p := ⟨h, 8, none⟩) HF4 HA4 (.slice A' (j + 1) cap'));replace HW4 := zH (HW4.setCell (p := ⟨h, 8, none⟩) HLO (.slice A' (j + 1) cap'));generalize u4.setCell ⟨h, 8, none⟩ (.slice A' (j + 1) cap') = u4 at *;change Hid (Blk u4 h 179 (hasC P a b c A' (j + 1) cap' 0)) at HB4;refine ⟨HB4.range 0 8, ?_⟩;go_simp;refine ords_end (fun n6 => ?_);replace HN2 := zH (HN2.drewN n6); replace HB4 := zH (HB4.drewN n6); replace HW4 := zH (below_drewN HW4 n6); generalize u4.drewN n6 = u4 at *
   all_goals
    go_wp2_with fail;exact ⟨⟨j + 1, A', cap', ps ++ [q], fun i => if i = j then G else F i, HJ.out, num9 j, HB4.out, HN2.out, HF4.out, HA4.out, HBW.trans HW4.out⟩, measH n j HJ.out⟩
  ·obtain rfl : j = n := by omega
   have d1 : decide ((j : Int) < (j : Int)) = false := by simp
   go_wp2_with fail;exact aZB (results_tmp rfl _ _ _) rfl ⟨A, cap, ps, F, rfl, HBK.out, HND.out, HFH.out, HAH.out, HBW.out⟩
structure Hs (w : World) (H h : Nat) (P : LP) (d : Nat) (a b c : Sl) (A : Option Addr) (cap t : Nat) (ps : List Nat) (F : Nat -> List Nat) (e : Nat -> Eng) : Prop where
  blk : Blk w h 179 (hasC P a b c A (lnOf P.big) cap t)
  nds : Nds w H P d (lnOf P.big) A cap ps F e
  fh : ∀ i, i < lnOf P.big -> h ∉ F i
  ah : ∀ x, A = some x -> x.block ≠ h
  low : H <= h
  set_ : SetLow w H P a b c
theorem lnew_any (P : LP) (he : P.err = 0) (d : Nat) (hd : P.digest = d) (sk ss sp sd : Sl) (w : World) (h : LIn w P sk ss sp sd) :
  Calls Tryz.prog 92 #[.int .i64 (kOf P.big), .int .i64 P.digest, .slice sk.A sk.n sk.c, .slice ss.A ss.n ss.c, .slice sp.A sp.n sp.c] w fun r w' => ∃ H g a b c A cap ps F, r = .returned (.tuple #[.pointer (some ⟨g, 0, none⟩), .int .i64 0]) /\ w.heap.size <= H /\ Hs w' H g P d a b c A cap 0 ps F P.eng0 /\ Below w.heap.size w w' := by
 have hs := lset_any P sk ss sp sd w h;rw [he] at hs;have hr := fun (a b c : Sl) (g H : Nat) W h1 h2 h3 => reset_any P he d hd a b c g H none 0 0 0 W h1 h2 h3
 have HS := zH hs; have HR := zH hr; have HIN := zH h;have hsu := zH Tryz.underlying174;clear hs hr h he hd;go_enter Tryz.func92, Tryz.ntmps92;go_wp2_with fail;refine HS.mono ?_;rintro e1 w1 ⟨a, b, c, rfl, ha, hb, hc, hoa, hob, hoc, hb1⟩;have HST := zH ((Blk.new w1 174 zset).row (setC (lnOf P.big) (blOf P.big) (bOf P.big) (kOf P.big) P.digest a b c));have hbu := brow (g := w1.heap.size) (bal (b0 w1) (.cells zset 174)) (aZC _) (setC (lnOf P.big) (blOf P.big) (bOf P.big) (kOf P.big) P.digest a b c);have HOA := zH (hoa.below hbu (aZC _)); have HOB := zH (hob.below hbu (aZC _)); have HOC := zH (hoc.below hbu (aZC _));have HB := zH (bcall hb1 hbu);have HHA := zH ha; have HHB := zH hb; have HHC := zH hc;clear hoa hob hoc hb1 hbu ha hb hc;go_upto_region 2 with (refine wpList_store_row rfl 174 _ _ rfl w1.heap.size (setC (lnOf P.big) (blOf P.big) (bOf P.big) (kOf P.big) P.digest a b c) rfl rfl 174 zset (Blk.new _ _ _) (setC_size _ _ _ _ _ _ _ _) rfl (setC_ones _ _ _ _ _ _ _ _) ?_)
 have hz : zset = #[.int .i64 0, .int .i64 0, .int .i64 0, .int .i64 0, .int .i64 0, .slice none 0 0, .slice none 0 0, .slice none 0 0] := rfl;rw [<- hz];clear hz;obtain ⟨gS, hgS⟩ : ∃ g, g = w1.heap.size := ⟨_, rfl⟩;rw [<- hgS] at HST HB HOA HOB HOC ⊢;clear hgS;generalize (w1.alloc (.cells zset 174)).setRow gS (setC (lnOf P.big) (blOf P.big) (bOf P.big) (kOf P.big) P.digest a b c) = u at *;clear w1;go_upto_region 5 with (refine wpList_load_row rfl 174 _ rfl gS rfl 174 (#[Value.int .i64 (lnOf P.big : Nat), .int .i64 (blOf P.big : Nat), .int .i64 (bOf P.big : Nat), .int .i64 (kOf P.big), .int .i64 P.digest, .slice a.A a.n a.c, .slice b.A b.n b.c, .slice c.A c.n c.c]) (0, 0) _ HST hsu.out rfl (setC_size _ _ _ _ _ _ _ _) ?_)
 have HG := zH (Blk.new u 179 (hasC P a b c none 0 0 0));have hba := bal (b0 u) (.cells (hasC P a b c none 0 0 0) 179);have HWH := zH HB.size;have HSL : Hid (SetLow (u.alloc (.cells (hasC P a b c none 0 0 0) 179)) u.heap.size P a b c) :=
  ⟨by rw [HHA.out]; exact HIN.hk, by rw [HHB.out]; exact HIN.hs, by rw [HHC.out]; exact HIN.hp, HOA.reads.alloc (aZC _) _, HOB.reads.alloc (aZC _) _, HOC.reads.alloc (aZC _) _⟩
 have HB2 := zH (bcall HB hba);rw [show #[Value.int .i64 (lnOf P.big : Nat), .int .i64 (blOf P.big : Nat), .int .i64 (bOf P.big : Nat), .int .i64 (kOf P.big), .int .i64 P.digest, .slice a.A a.n a.c, .slice b.A b.n b.c, .slice c.A c.n c.c, .slice none 0 0, .int .u64 0] = hasC P a b c none 0 0 0 from rfl];obtain ⟨g, hg⟩ : ∃ g, g = u.heap.size := ⟨_, rfl⟩;rw [<- hg] at HG HSL HWH ⊢;clear hg hba HB HST HOA HOB HOC;generalize u.alloc (.cells (hasC P a b c none 0 0 0) 179) = u2 at *;go_wp2_with (go_at_call 112; refine (HR a b c g g _ HG (aZC _) HSL).mono ?_; rintro e3 u3 ⟨A, cap, ps, F, rfl, hb3, hn3, hf3, ha3, hw3⟩);exact aZB (results_tmp2 rfl _ _ _) rfl ⟨g, g, a, b, c, A, cap, ps, F, rfl, HWH.out, ⟨hb3, hn3, hf3, ha3, aZC _, HSL.below hw3⟩, HB2.trans (hw3.mono HWH)⟩
end Go.Proofs.YtmapfcdffklopaaGreat

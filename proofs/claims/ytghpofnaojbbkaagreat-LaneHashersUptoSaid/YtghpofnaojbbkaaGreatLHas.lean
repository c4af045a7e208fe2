/-
  A hasher of lanes: the node of a lane or of the root, made. Contracts alone; no statement is claimed here.
-/
import Derived.Test.YtghpofnaojbbkaaGreatLCal
import Derived.Deep.CutRange
namespace Go.Proofs.YtghpofnaojbbkaaGreat
open Go.RowKit
attribute [local go_sem] pureUpon Ords.of

structure SetIn (w : World) (P : LP) (a b c : Sl) : Prop where
  hk : P.key.length = a.n
  hs : P.ls.length = b.n
  hp : P.lp.length = c.n
  rk : RS cB w w.heap.size a.A P.key
  rs : RS cB w w.heap.size b.A P.ls
  rp : RS cB w w.heap.size c.A P.lp
theorem SetIn.below {w w' : World} {P : LP} {a b c : Sl} (h : SetIn w P a b c) (hb : Below w.heap.size w w') : SetIn w' P a b c :=
 ⟨h.hk, h.hs, h.hp, (h.rk.below hb).more hb.size, (h.rs.below hb).more hb.size, (h.rp.below hb).more hb.size⟩
def LP.nkey (P : LP) (i : Nat) : List UInt8 := if i = lnOf P.big then [] else P.key
def LP.nlast (P : LP) (i : Nat) : Bool := decide (lnOf P.big - 1 ≤ i)
def LP.eng0 (P : LP) (i : Nat) : Eng := startK P.big (P.blk i) (P.nkey i)
theorem LP.err_dig {P : LP} (he : P.err = 0) : ∃ d : Nat, P.digest = d ∧ 1 ≤ d ∧ d ≤ bOf P.big := by
 have h := (chk_range he).1
 have h2 : 1 ≤ P.digest ∧ P.digest ≤ (bOf P.big : Int) := h
 exact ⟨P.digest.toNat, by omega, by omega, by omega⟩
set_option maxRecDepth 20000 in
set_option maxHeartbeats 4000000 in
theorem hasher_any (P : LP) (i : Nat) (hi : i ≤ lnOf P.big) (he : P.err = 0) (d : Nat) (hd : P.digest = d) (a b c : Sl) (w : World) (hin : SetIn w P a b c) :
  Calls Tryz.prog 25 #[.agg (setC (lnOf P.big) (blOf P.big) (bOf P.big) (kOf P.big) P.digest a b c), .int .i64 i] w fun r w' => ∃ q F, r = .returned (.pointer (some ⟨q, 0, none⟩)) ∧ Nd w' q P.big d (P.blk i) (P.nkey i) (P.nlast i) 0 (P.eng0 i) F ∧ (∀ k, k ∈ F → w.heap.size ≤ k) ∧ Below w.heap.size w w' := by
 have h8 := lnOf_pos P.big
 have hpa : ∀ W, Calls Tryz.prog 31 #[.agg (setC (lnOf P.big) (blOf P.big) (bOf P.big) (kOf P.big) P.digest a b c), .int .i64 i] W (fun e w' => e = .returned (P.par i b c).v ∧ Below W.heap.size W w') := fun W => by
  have h := setParams_any (lnOf P.big) (blOf P.big) (bOf P.big) (kOf P.big) P.digest i a b c (by omega) (by omega) (by omega) W
  rw [show lanePar (lnOf P.big) (bOf P.big) P.digest a.n i b c = P.par i b c by unfold LP.par; rw [hin.hk]] at h
  exact h
 have hnw : ∀ (A : Option Addr) (nk ck : Nat) W, (P.nkey i).length = nk → RS cB W W.heap.size A (P.nkey i) → SetIn W P a b c → Calls Tryz.prog 41 #[.int .i64 (kOf P.big), (P.par i b c).v, .slice A nk ck] W (fun r w' => ∃ q F, r = .returned (.tuple #[.pointer (some ⟨q, 0, none⟩), .int .i64 0]) ∧ Nd w' q P.big d (P.blk i) (P.nkey i) false 0 (P.eng0 i) F ∧ (∀ k, k ∈ F → W.heap.size ≤ k) ∧ Below W.heap.size W w') := fun A nk ck W h1 h2 h3 => by
  have h := new_any P.big d (P.par i b c) P.ls P.lp (P.nkey i) A nk ck W (by rw [P.chk_eq i hi b c h3.hs h3.hp]; exact he) (P.fit i hi b c) hd h3.hs h3.hp h3.rs h3.rp h1 (by
   rw [← h1]
   show _ ∨ ((P.nkey i).length : Int) = (P.key.length : Int)
   unfold LP.nkey
   split
   ·exact .inl rfl
   ·exact .inr rfl) h2
  rw [P.blk_eq] at h
  exact h
 have hla : ∀ q F (W : World) e, Nd W q P.big d (P.blk i) (P.nkey i) false 0 e F → Calls Tryz.prog 42 #[.pointer (some ⟨q, 0, none⟩), .bool (P.nlast i)] W (fun r w' => r = .returned (.int .i64 0) ∧ Nd w' q P.big d (P.blk i) (P.nkey i) (P.nlast i) 0 e F ∧ But F W w') := fun q F W e hN => lastN_any q d P.big false (P.nlast i) (P.blk i) (P.nkey i) 0 e F W hN
 have hkl : (i = lnOf P.big → P.nkey i = []) ∧ (i ≠ lnOf P.big → P.nkey i = P.key) := ⟨fun h => if_pos h, fun h => if_neg h⟩
 have hlst : P.nlast i = decide ((lnOf P.big : Int) - 1 ≤ (i : Int)) := by unfold LP.nlast; exact decide_eq_decide.2 (by omega)
 generalize P.nlast i = lst at *
 generalize P.eng0 i = e0 at *
 generalize P.nkey i = key at *
 generalize P.blk i = X at *
 generalize (P.par i b c).v = PV at *
 generalize kOf P.big = kk at *
 generalize lnOf P.big = n at *
 generalize blOf P.big = blk at *
 generalize bOf P.big = most at *
 have HPA := Lib.hid hpa; have HNW := Lib.hid hnw; have HLA := Lib.hid hla; have HIN := Lib.hid hin; have HKL := Lib.hid hkl; have HLST := Lib.hid hlst
 have hsu := Lib.hid Tryz.underlying50
 clear hpa hnw hla hin hkl he hd hlst
 have ti : (((i : Int) == (n : Int)) = true ∧ i = n) ∨ (((i : Int) == (n : Int)) = false ∧ i ≠ n) := by
  by_cases h : i = n
  ·exact .inl ⟨by simp [h], h⟩
  ·exact .inr ⟨by simp; omega, h⟩
 have HKK : Hid (∃ (A : Option Addr) (nk ck : Nat), ((if i = n then (Value.slice none 0 0) else (.slice a.A a.n a.c)) = .slice A nk ck) ∧ key.length = nk ∧ ∀ W, SetIn W P a b c → RS cB W W.heap.size A key) := by
  by_cases h : i = n
  ·exact ⟨none, 0, 0, if_pos h, by rw [HKL.out.1 h]; rfl, fun W _ => by rw [HKL.out.1 h]; exact RS.nil _⟩
  ·exact ⟨a.A, a.n, a.c, if_neg h, by rw [HKL.out.2 h]; exact HIN.out.hk, fun W hW => by rw [HKL.out.2 h]; exact hW.rk⟩
 obtain ⟨A, nk, ck, hsl, hnk, hrk⟩ := HKK.out
 have HNK := Lib.hid hnk; have HRK := Lib.hid hrk; have HSL := Lib.hid hsl
 clear hsl hnk hrk HKK HKL
 go_enter Tryz.func25, Tryz.ntmps25
 go_upto_region 1 with fail
 have HBK := Lib.hid (Blk.new w 50 (setC n blk most kk P.digest a b c))
 have HB := Lib.hid (bal (b0 w) (.cells (setC n blk most kk P.digest a b c) 50))
 obtain ⟨g, hg⟩ : ∃ g, g = w.heap.size := ⟨_, rfl⟩
 rw [← hg] at HBK ⊢
 have HG := Lib.hid hg
 clear hg
 generalize w.alloc (.cells (setC n blk most kk P.digest a b c) 50) = u at *
 have q0 : u.cell? ⟨g, 0, none⟩ = some (.int .i64 n) := HBK.out.cell 0
 have q3 : u.cell? ⟨g, 3, none⟩ = some (.int .i64 kk) := HBK.out.cell 3
 have q5 : u.cell? ⟨g, 5, none⟩ = some (.slice a.A a.n a.c) := HBK.out.cell 5
 rcases ti with ⟨t1, t2⟩ | ⟨t1, t2⟩
 all_goals
  have hsl := HSL.out
  first | rw [if_pos t2] at hsl | rw [if_neg t2] at hsl
  injection hsl with s1 s2 s3
  subst s1; subst s2; subst s3
  have HKT := Lib.hid t2
  clear t2
  go_upto_region 4 with fail
  clear q5
  refine wp_region_ords (fun w' => Blk w' g 50 (setC n blk most kk P.digest a b c)) (fun _ n h => h.drewN n) (Ords.of [(0, 0), (0, 1), (0, 2), (0, 3), (0, 5), (2, 4), (2, 6), (0, 7), (0, 8), (0, 9), (0, 10), (0, 11)] .fin) (by kernel_rfl) rfl (by kernel_rfl) (by kernel_rfl) (fun c a d v w h => by cases d <;> exact h) HBK.out ?_
  refine ords_pure rfl (fun K hK => ?_); go_simp; refine hK _ ?_; clear hK K
  refine ords_heldK rfl (fun K K2 hK hK2 => ?_); go_simp; refine ⟨hK2 _ (fun w9 hS => ?_), hK _ ?_⟩; (clear hK hK2 K K2; have q3 : w9.cell? ⟨g, 3, none⟩ = some (.int .i64 kk) := hS.cell 3; clear hS; go_simp); (clear hK hK2 K K2)
  refine ords_held (v := Value.agg ((setC n blk most kk P.digest a b c).toList).toArray) rfl rfl (fun w9 hS => pure_load_mid 50 (.tmp 2) rfl g 0 rfl _ _ hS.whole hsu.out rfl (setC_size _ _ _ _ _ _ _ _)) ?_; go_simp
  iterate 2 (refine ords_pure rfl (fun K hK => ?_); go_simp; refine hK _ ?_; clear hK K)
  refine ords_loud rfl (fun n1 => ?_)
  clear q0 q3
  replace HB := Lib.hid (bdr HB.out n1); replace HBK := Lib.hid (HBK.out.drewN n1); generalize u.drewN n1 = u at *
  go_wp2_with (go_at_call 31; refine (HPA.out _).mono ?_; rintro e3 u ⟨rfl, hb3⟩)
  replace HB := Lib.hid (bcall HB.out hb3); replace HBK := Lib.hid (HBK.out.below hb3 HBK.out.lt)
  clear hb3
  refine ⟨HBK.out, ?_⟩
  go_simp
  refine ords_loud rfl (fun n2 => ?_)
  replace HB := Lib.hid (bdr HB.out n2); replace HBK := Lib.hid (HBK.out.drewN n2); generalize u.drewN n2 = u at *
  have hz0 := Lib.hid HB.out.size
  go_wp2_with (go_at_call 41; refine (HNW.out _ _ _ _ HNK.out (HRK.out _ (HIN.out.below HB.out)) (HIN.out.below HB.out)).mono ?_; rintro e4 u ⟨q, F, rfl, hN, hF, hb4⟩)
  replace HB := Lib.hid (bcall HB.out hb4); replace HBK := Lib.hid (HBK.out.below hb4 HBK.out.lt)
  have HND := Lib.hid hN; have HF := Lib.hid (fun k hk => Nat.le_trans hz0.out (hF k hk))
  clear hb4 hN hF hz0
  refine ⟨HBK.out, ?_⟩
  go_simp
  iterate 5 (refine ords_pure rfl (fun K hK => ?_); go_simp; refine hK _ ?_; clear hK K)
  refine ords_end (fun n3 => ?_)
  replace HND := Lib.hid (HND.out.drewN n3)
  replace HB := Lib.hid (bdr HB.out n3); replace HBK := Lib.hid (HBK.out.drewN n3); generalize u.drewN n3 = u at *
  have q0 : u.cell? ⟨g, 0, none⟩ = some (.int .i64 n) := HBK.out.cell 0
  have hl5 := HLA.out q F u e0 HND.out
  rw [HLST.out] at hl5
  have HL5 := Lib.hid hl5
  clear hl5
  go_wp2_with (go_at_call 42; refine HL5.out.mono ?_; rintro e5 u5 ⟨rfl, hN5, hb5⟩; have HN5 := Lib.hid hN5; have HB5 := Lib.hid hb5; clear hN5 hb5)
  exact bodyPost_ret (results_tmp rfl _ _ _) rfl ⟨q, F, rfl, by rw [HLST.out]; exact HN5.out, HF.out, HB.out.trans (HB5.out.toBelow HB.out.size HF.out)⟩
def cP : Cod Nat := ⟨64, 53, 8, .pointer none, fun p => .pointer (some ⟨p, 0, none⟩)⟩
theorem cP_ok : cP.Ok Tryz.prog := ⟨Tryz.underlying53, by kernel_rfl, rfl, fun _ => rfl⟩
def hasC (P : LP) (a b c : Sl) (A : Option Addr) (m cap t : Nat) : Array Value := #[.int .i64 (lnOf P.big : Nat), .int .i64 (blOf P.big : Nat), .int .i64 (bOf P.big : Nat), .int .i64 (kOf P.big), .int .i64 P.digest, .slice a.A a.n a.c, .slice b.A b.n b.c, .slice c.A c.n c.c, .slice A m cap, .int .u64 t]
structure SetLow (w : World) (H : Nat) (P : LP) (a b c : Sl) : Prop where
  hk : P.key.length = a.n
  hs : P.ls.length = b.n
  hp : P.lp.length = c.n
  rk : RS cB w H a.A P.key
  rs : RS cB w H b.A P.ls
  rp : RS cB w H c.A P.lp
theorem SetLow.below {w w' : World} {H : Nat} {P : LP} {a b c : Sl} (h : SetLow w H P a b c) (hb : Below H w w') : SetLow w' H P a b c := ⟨h.hk, h.hs, h.hp, h.rk.below hb, h.rs.below hb, h.rp.below hb⟩
theorem SetLow.in_ {w : World} {H : Nat} {P : LP} {a b c : Sl} (h : SetLow w H P a b c) (hw : H ≤ w.heap.size) : SetIn w P a b c := ⟨h.hk, h.hs, h.hp, h.rk.more hw, h.rs.more hw, h.rp.more hw⟩
structure Nds (w : World) (H : Nat) (P : LP) (d m : Nat) (A : Option Addr) (cap : Nat) (ps : List Nat) (F : Nat → List Nat) (e : Nat → Eng) : Prop where
  row : OS cP w H A cap ps
  len : ps.length = m
  node : ∀ i, i < m → ∃ p wr, ps[i]? = some p ∧ Nd w p P.big d (P.blk i) (P.nkey i) (P.nlast i) wr (e i) (F i)
  low : ∀ i, i < m → ∀ k, k ∈ F i → H ≤ k
  far : ∀ i j, i < m → j < m → i ≠ j → ∀ k, k ∈ F i → k ∉ F j
  fa : ∀ i, i < m → ∀ a, A = some a → a.block ∉ F i
section
variable {w w' : World} {H : Nat} {P : LP} {d m : Nat} {A : Option Addr} {cap : Nat} {ps : List Nat} {F : Nat → List Nat} {e : Nat → Eng}
theorem Nds.below (h : Nds w H P d m A cap ps F e) (hb : Below w.heap.size w w') : Nds w' H P d m A cap ps F e :=
 ⟨h.row.below hb (Nat.le_refl _), h.len, fun i hi => by obtain ⟨p, wr, h1, h2⟩ := h.node i hi; exact ⟨p, wr, h1, h2.below hb⟩, h.low, h.far, h.fa⟩
theorem Nds.drewN (h : Nds w H P d m A cap ps F e) (k : Nat) : Nds (w.drewN k) H P d m A cap ps F e := h.below (bdr (b0 w) k)
theorem Nds.setFar (h : Nds w H P d m A cap ps F e) {p : Addr} (hp : ∀ i, i < m → p.block ∉ F i) (hA : ∀ a, A = some a → a.block ≠ p.block) (v : Value) : Nds (w.setCell p v) H P d m A cap ps F e :=
 ⟨h.row.setFar hA v, h.len, fun i hi => by
  obtain ⟨q, wr, h1, h2⟩ := h.node i hi
  exact ⟨q, wr, h1, h2.of_ (fun k hk => Below.heap_setCell w p v k (fun e => hp i hi (by rw [← e]; exact hk)))⟩, h.low, h.far, h.fa⟩
theorem Nds.empty (w : World) (H : Nat) (P : LP) (d : Nat) (e : Nat → Eng) : Nds w H P d 0 none 0 [] (fun _ => []) e :=
 ⟨OS.nil w H 0 rfl, rfl, fun i h => absurd h (Nat.not_lt_zero i), fun i h => absurd h (Nat.not_lt_zero i), fun i _ h => absurd h (Nat.not_lt_zero i), fun i h => absurd h (Nat.not_lt_zero i)⟩
theorem Nds.snoc (h : Nds w H P d m A cap ps F e) {q : Nat} {G : List Nat} (hN : Nd w q P.big d (P.blk m) (P.nkey m) (P.nlast m) 0 (e m) G) (hG : ∀ k, k ∈ G → H ≤ k) (hd : ∀ i, i < m → ∀ k, k ∈ G → k ∉ F i) (hA : ∀ a, A = some a → a.block ∉ G)
  {A' : Option Addr} {cap' : Nat} (ho : OS cP w' H A' cap' (ps ++ [q])) (hg : w.grownBy w' (A.map (·.block))) (hA' : A'.map (·.block) = A.map (·.block) ∨ A'.map (·.block) = some w.heap.size) : Nds w' H P d (m + 1) A' cap' (ps ++ [q]) (fun i => if i = m then G else F i) e := by
 have kp : ∀ (L : List Nat), (∀ a, A = some a → a.block ∉ L) → ∀ k, k ∈ L → k < w.heap.size → w'.heap[k]? = w.heap[k]? := fun L hL k hk hlt => hg.block k hlt (fun e => by
  cases hh : A with
  | none => rw [hh] at e; cases e
  | some a => rw [hh] at e; have e2 : a.block = k := Option.some.inj e.symm; exact hL a hh (by rw [e2]; exact hk))
 have fr : ∀ (L : List Nat), (∀ a, A = some a → a.block ∉ L) → (∀ k, k ∈ L → k < w.heap.size) → ∀ a, A' = some a → a.block ∉ L := fun L hL hl a ha hm => by
  rcases hA' with e | e
  ·rw [ha] at e
   cases hh : A with
   | none => rw [hh] at e; cases e
   | some b => rw [hh] at e; have e2 : a.block = b.block := Option.some.inj e; exact hL b hh (by rw [← e2]; exact hm)
  ·rw [ha] at e
   have e2 : a.block = w.heap.size := Option.some.inj e
   have := hl _ hm
   omega
 refine ⟨ho, by rw [List.length_append, h.len]; rfl, fun i hi => ?_, fun i hi k hk => ?_, fun i j hi hj hij k hk hk2 => ?_, fun i hi a ha => ?_⟩
 ·by_cases hm : i = m
  ·subst hm
   refine ⟨q, 0, by rw [List.getElem?_append_right (by rw [h.len]; exact Nat.le_refl _), h.len, Nat.sub_self]; rfl, ?_⟩
   show Nd _ _ _ _ _ _ _ _ _ (if i = i then G else F i)
   rw [if_pos rfl]
   exact hN.of_ (fun k hk => kp G hA k hk (hN.lt k hk))
  ·obtain ⟨p, wr, h1, h2⟩ := h.node i (by omega)
   refine ⟨p, wr, by rw [List.getElem?_append_left (by rw [h.len]; omega)]; exact h1, ?_⟩
   show Nd _ _ _ _ _ _ _ _ _ (if i = m then G else F i)
   rw [if_neg hm]
   exact h2.of_ (fun k hk => kp (F i) (h.fa i (by omega)) k hk (h2.lt k hk))
 ·change k ∈ (if i = m then G else F i) at hk
  by_cases hm : i = m
  ·rw [if_pos hm] at hk; exact hG k hk
  ·rw [if_neg hm] at hk; exact h.low i (by omega) k hk
 ·change k ∈ (if i = m then G else F i) at hk
  change k ∈ (if j = m then G else F j) at hk2
  by_cases hm : i = m
  ·rw [if_pos hm] at hk
   rw [if_neg (by omega)] at hk2
   exact hd j (by omega) k hk hk2
  ·rw [if_neg hm] at hk
   by_cases hm2 : j = m
   ·rw [if_pos hm2] at hk2
    exact hd i (by omega) k hk2 hk
   ·rw [if_neg hm2] at hk2
    exact h.far i j (by omega) (by omega) hij k hk hk2
 ·show a.block ∉ (if i = m then G else F i)
  by_cases hm : i = m
  ·rw [if_pos hm]; exact fr G hA (fun k hk => hN.lt k hk) a ha
  ·rw [if_neg hm]
   obtain ⟨p, wr, h1, h2⟩ := h.node i (by omega)
   exact fr (F i) (h.fa i (by omega)) (fun k hk => h2.lt k hk) a ha
end
theorem lnoneH_any (P : LP) (a b c : Sl) (A : Option Addr) (m cap t h : Nat) (w : World) (hb : Blk w h 55 (hasC P a b c A m cap t)) :
  Calls Tryz.prog 20 #[.pointer (some ⟨h, 0, none⟩)] w fun r w' => r = .returned (.bool false) ∧ w = w' := by
 have c0 : w.cell? ⟨h, 0, none⟩ = some (.int .i64 (lnOf P.big : Nat)) := hb.cell 0
 have hl := hb.lt
 have tn : (((lnOf P.big : Nat) : Int) == 0) = false := by have := lnOf_pos P.big; simp; omega
 generalize lnOf P.big = n at *
 clear hb
 go_enter Tryz.func20, Tryz.ntmps20
 go_wp2_with fail
 exact bodyPost_ret (results_tmp rfl _ _ _) rfl ⟨rfl, rfl⟩
theorem num9 (k : Nat) : Value.int .i64 ((k : Int) + 1) = .int .i64 ((k + 1 : Nat) : Int) := rfl
theorem measH (n k : Nat) (h : k < n) : n - (intOf (.int .i64 ((k : Int) + 1))).toNat < n - (intOf (.int .i64 (k : Int))).toNat := by simp [intOf]; omega
set_option maxRecDepth 20000 in
set_option maxHeartbeats 4000000 in
theorem reset_any (P : LP) (he : P.err = 0) (d : Nat) (hd : P.digest = d) (a b c : Sl) (h H : Nat) (A0 : Option Addr) (m0 c0 t0 : Nat) (w : World) (hb : Blk w h 55 (hasC P a b c A0 m0 c0 t0)) (hH : H ≤ h) (hs : SetLow w H P a b c) :
  Calls Tryz.prog 13 #[.pointer (some ⟨h, 0, none⟩)] w fun r w' => ∃ A cap ps F, r = .returned (.int .i64 0) ∧ Blk w' h 55 (hasC P a b c A (lnOf P.big) cap 0) ∧ Nds w' H P d (lnOf P.big) A cap ps F P.eng0 ∧ (∀ i, i < lnOf P.big → h ∉ F i) ∧ (∀ x, A = some x → x.block ≠ h) ∧ Below H w w' := by
 have hno := lnoneH_any P a b c A0 m0 c0 t0 h w hb
 have hha := fun (i : Nat) (hi : i ≤ lnOf P.big) W (h : SetIn W P a b c) => hasher_any P i hi he d hd a b c W h
 have h8 := lnOf_pos P.big
 obtain ⟨n, hn⟩ : ∃ n, n = lnOf P.big := ⟨_, rfl⟩
 have HN := Lib.hid hn
 have HNO := Lib.hid hno; have HHA := Lib.hid hha; have HS := Lib.hid hs; have HLO := Lib.hid hH; have H8 := Lib.hid h8
 have HBK := Lib.hid hb
 have hsu := Lib.hid Tryz.underlying50
 have l0 := hb.lt
 have z8 : w.cell? ⟨h, 8, none⟩ = some (.slice A0 m0 c0) := hb.cell 8
 have z9 : w.cell? ⟨h, 9, none⟩ = some (.int .u64 t0) := hb.cell 9
 have f8 := hb.frozen 8
 have f9 := hb.frozen 9
 rw [← hn]
 clear hno hha hs hH h8 hb hn he hd
 go_enter Tryz.func13, Tryz.ntmps13
 go_upto_region 4 with (go_at_call 20; refine HNO.out.mono ?_; rintro e1 w1 ⟨rfl, rfl⟩)
 have HB2 := Lib.hid ((HBK.out.set_ 9 (.int .u64 0)).set_ 8 (.slice none 0 0))
 have HW2 := Lib.hid (((Below.refl H w).setCell (p := ⟨h, 9, none⟩) HLO.out (.int .u64 0)).setCell (p := ⟨h, 8, none⟩) HLO.out (.slice none 0 0))
 change Hid (Blk _ h 55 (hasC P a b c none 0 0 0)) at HB2
 clear z8 z9 f8 f9 l0 HBK
 generalize (w.setCell ⟨h, 9, none⟩ (.int .u64 0)).setCell ⟨h, 8, none⟩ (.slice none 0 0) = w2 at *
 have z0 : w2.cell? ⟨h, 0, none⟩ = some (.int .i64 n) := by rw [HN.out]; exact HB2.out.cell 0
 have l0 := HB2.out.lt
 go_wp2_with fail
 clear z0 l0
 go_loopw [3, 18] (fun i1 ix wr => ∃ (j : Nat) (A : Option Addr) (cap : Nat) (ps : List Nat) (F : Nat → List Nat), j ≤ n ∧ ix = .int .i64 j ∧ Blk wr h 55 (hasC P a b c A j cap 0) ∧ Nds wr H P d j A cap ps F P.eng0 ∧ (∀ i, i < j → h ∉ F i) ∧ (∀ x, A = some x → x.block ≠ h) ∧ Below H w wr) (fun _ ix _ => n - (intOf ix).toNat)
 case atStart => exact ⟨0, none, 0, [], fun _ => [], Nat.zero_le _, rfl, HB2.out, Nds.empty _ _ _ _ _, fun i hi => absurd hi (Nat.not_lt_zero i), fun _ h => (nomatch h), HW2.out⟩
 case round =>
  clear HB2 HW2
  obtain ⟨j, A, cap, ps, F, hj, rfl, hbk, hnd, hfh, hah, hbw⟩ := hrel
  have HBK := Lib.hid hbk; have HND := Lib.hid hnd; have HFH := Lib.hid hfh; have HAH := Lib.hid hah; have HBW := Lib.hid hbw
  clear hbk hnd hfh hah hbw
  by_cases hlt : j < n
  ·have HJ := Lib.hid hlt
   have d1 : decide ((j : Int) < (n : Int)) = true := by simp; omega
   have hj8 : j ≤ 8 := by have := H8.out; rw [← HN.out] at this; omega
   go_upto_region 7 with fail
   clear hj hlt
   have HHW := Lib.hid (Nat.le_trans HLO.out (Nat.le_of_lt HBK.out.lt))
   obtain ⟨u, hu⟩ : ∃ u, u = wr := ⟨_, rfl⟩
   have HWU : Hid (Below wr.heap.size wr u) := by rw [hu]; exact b0 wr
   rw [← hu]
   rw [← hu] at HBK HND
   have hgl := HBK.out.lt
   have z8 : u.cell? ⟨h, 8, none⟩ = some (.slice A j cap) := HBK.out.cell 8
   clear hu
   have HSL := Lib.hid (fun (W : World) (hW : Below wr.heap.size wr W) => (HS.out.below (HBW.out.trans (hW.mono HHW.out))).in_ (Nat.le_trans HHW.out hW.size))
   refine wp_region_ords (fun w' => w'.rangeAt h 0 (setC (lnOf P.big) (blOf P.big) (bOf P.big) (kOf P.big) P.digest a b c).toList) (fun _ n h => h) (Ords.of [(0, 0), (0, 1), (0, 2), (0, 3), (0, 5), (0, 6), (0, 7), (0, 8), (0, 9)] (.two 4 10 (Ords.of [(2, 10), (2, 11), (2, 12), (0, 13), (0, 14), (2, 15)] .fin) (Ords.of [] (.two 4 11 (Ords.of [(2, 11), (2, 12), (0, 13), (0, 14), (2, 15)] .fin) (Ords.of [(2, 4), (2, 12), (0, 13), (0, 14), (2, 15)] .fin))))) (by kernel_rfl) rfl (by kernel_rfl) (by kernel_rfl) (fun c a d v w h => by cases d <;> exact h) (HBK.out.range 0 8) ?_
   iterate 7 (refine ords_pure rfl (fun K hK => ?_); go_simp; refine hK _ ?_; clear hK K)
   refine ords_held (v := Value.agg ((setC (lnOf P.big) (blOf P.big) (bOf P.big) (kOf P.big) P.digest a b c).toList).toArray) rfl rfl (fun w9 hS => pure_load_mid 50 (.tmp 28) rfl h 0 rfl _ _ (hS) hsu.out rfl (setC_size _ _ _ _ _ _ _ _)) ?_; go_simp
   refine ords_pure rfl (fun K hK => ?_); go_simp; refine hK _ ?_; clear hK K
   refine ords_two rfl rfl (fun n1 => ?_) (fun n1 => ?_)
   focus
    (try clear z8)
    replace HWU := Lib.hid (bdr HWU.out n1); replace HBK := Lib.hid (HBK.out.drewN n1); replace HND := Lib.hid (HND.out.drewN n1); (try replace HQ := Lib.hid (HQ.out.drewN n1)); (try replace HC1 := Lib.hid (show (u.drewN n1).cell? ⟨gb, 0, none⟩ = some (cP.enc q) from HC1.out)); generalize u.drewN n1 = u at *
    have z8 : u.cell? ⟨h, 8, none⟩ = some (.slice A j cap) := HBK.out.cell 8
    have l8 := HBK.out.lt
    go_wp2_with fail
    clear z8 l8
    refine ⟨HBK.out.range 0 8, ?_⟩
    go_simp
    refine ords_loud rfl (fun n2 => ?_)
    (try clear z8)
    replace HWU := Lib.hid (bdr HWU.out n2); replace HBK := Lib.hid (HBK.out.drewN n2); replace HND := Lib.hid (HND.out.drewN n2); (try replace HQ := Lib.hid (HQ.out.drewN n2)); (try replace HC1 := Lib.hid (show (u.drewN n2).cell? ⟨gb, 0, none⟩ = some (cP.enc q) from HC1.out)); generalize u.drewN n2 = u at *
    go_wp2_with (go_at_call 25; refine (HHA.out j (by rw [← HN.out]; exact Nat.le_of_lt HJ.out) u (HSL.out u HWU.out)).mono ?_; rintro e3 u3 ⟨q, G, rfl, hN, hG, hb3⟩)
    have HG := Lib.hid (fun k hk => Nat.le_trans HWU.out.size (hG k hk))
    have HGD := Lib.hid (fun (i : Nat) (hi : i < j) (k : Nat) (hk : k ∈ G) (hm : k ∈ F i) => by obtain ⟨p, r, -, h2⟩ := HND.out.node i hi; exact Nat.lt_irrefl _ (Nat.lt_of_lt_of_le (h2.lt k hm) (hG k hk)))
    have HGA := Lib.hid (fun (x : Addr) (hx : A = some x) (hm : x.block ∈ G) => Nat.lt_irrefl _ (Nat.lt_of_lt_of_le (HND.out.row.block_lt x hx).2 (hG _ hm)))
    have HGH := Lib.hid (fun hm : h ∈ G => Nat.lt_irrefl _ (Nat.lt_of_lt_of_le HBK.out.lt (hG h hm)))
    have HQ := Lib.hid hN
    replace HND := Lib.hid (HND.out.below hb3); replace HBK := Lib.hid (HBK.out.below hb3 HBK.out.lt); replace HWU := Lib.hid (bcall HWU.out hb3)
    clear hb3 hN hG
    obtain ⟨u, hu⟩ : ∃ u, u = u3 := ⟨_, rfl⟩
    subst hu
    refine ⟨HBK.out.range 0 8, ?_⟩
    go_simp
    refine ords_loud rfl (fun n3 => ?_)
    replace HWU := Lib.hid (bdr HWU.out n3); replace HBK := Lib.hid (HBK.out.drewN n3); replace HND := Lib.hid (HND.out.drewN n3); (try replace HQ := Lib.hid (HQ.out.drewN n3)); (try replace HC1 := Lib.hid (show (u.drewN n3).cell? ⟨gb, 0, none⟩ = some (cP.enc q) from HC1.out)); generalize u.drewN n3 = u at *
    go_wp2_with fail
    have hb4 := bal (b0 u) (.cells #[.pointer (some ⟨q, 0, none⟩)] 64)
    have HC1 : Hid ((u.alloc (.cells #[.pointer (some ⟨q, 0, none⟩)] 64)).cell? ⟨u.heap.size, 0, none⟩ = some (cP.enc q)) := cnew _ _ _ rfl
    replace HQ := Lib.hid (HQ.out.below hb4)
    replace HND := Lib.hid (HND.out.below hb4); replace HBK := Lib.hid (HBK.out.below hb4 HBK.out.lt); replace HWU := Lib.hid (bcall HWU.out hb4)
    clear hb4
    obtain ⟨gb, hgb⟩ : ∃ g, g = u.heap.size := ⟨_, rfl⟩
    rw [← hgb] at HC1 ⊢
    clear hgb
    generalize u.alloc (.cells #[.pointer (some ⟨q, 0, none⟩)] 64) = u at *
    refine ⟨HBK.out.range 0 8, ?_⟩
    go_simp
    refine ords_loud rfl (fun n4 => ?_)
    replace HWU := Lib.hid (bdr HWU.out n4); replace HBK := Lib.hid (HBK.out.drewN n4); replace HND := Lib.hid (HND.out.drewN n4); (try replace HQ := Lib.hid (HQ.out.drewN n4)); (try replace HC1 := Lib.hid (show (u.drewN n4).cell? ⟨gb, 0, none⟩ = some (cP.enc q) from HC1.out)); generalize u.drewN n4 = u at *
    have HUS := Lib.hid (Nat.le_trans HHW.out HWU.out.size)
    (refine wpList_appS _ cP_ok rfl (.tmp 25) (.tmp 32) rfl HND.out.row rfl HND.out.len (RS.one' HC1.out) rfl rfl (by show (j + 1) * 8 ≤ _; omega) (by omega) HUS.out ?_; intro A' cap' u4 ho hg hA)
    have HN2 := Lib.hid (HND.out.snoc HQ.out (fun k hk => Nat.le_trans HHW.out (HG.out k hk)) HGD.out HGA.out ho hg hA)
    have HB4 := Lib.hid (HBK.out.grown hg (fun e => by cases hh : A with | none => rw [hh] at e; cases e | some x => rw [hh] at e; have e2 : h = x.block := Option.some.inj e; exact HAH.out x hh e2.symm))
    have HA4 : Hid (∀ x : Addr, A' = some x → x.block ≠ h) := (fun x hx e2 => by
     rcases hA with e | e
     ·rw [hx] at e
      cases hh : A with
      | none => rw [hh] at e; cases e
      | some y => rw [hh] at e; have e3 : x.block = y.block := Option.some.inj e; exact HAH.out y hh (by rw [← e3]; exact e2)
     ·rw [hx] at e
      have e3 : x.block = u.heap.size := Option.some.inj e
      have e4 := HBK.out.lt
      omega)
    have HW4 := Lib.hid (below_app (HWU.out.mono HHW.out) HND.out.row hg (Nat.le_refl _) HUS.out)
    have HF4 := Lib.hid (fun (i : Nat) (hi : i < j + 1) => (show h ∉ (if i = j then G else F i) by
     by_cases e : i = j
     ·rw [if_pos e]; exact HGH.out
     ·rw [if_neg e]; exact HFH.out i (by omega)))
    clear HC1 HUS ho hg hA HND HBK HWU HQ HG HGD HGA HGH
    refine ⟨HB4.out.range 0 8, ?_⟩
    go_simp
    iterate 2 (refine ords_pure rfl (fun K hK => ?_); go_simp; refine hK _ ?_; clear hK K)
    refine ords_loud rfl (fun n5 => ?_)
    replace HN2 := Lib.hid (HN2.out.drewN n5); replace HB4 := Lib.hid (HB4.out.drewN n5); replace HW4 := Lib.hid (below_drewN HW4.out n5); generalize u4.drewN n5 = u4 at *
    have z8 : u4.cell? ⟨h, 8, none⟩ = some (.slice A j cap) := HB4.out.cell 8
    have f8 := HB4.out.frozen 8
    have l8 := HB4.out.lt
    go_wp2_with fail
    clear z8 f8 l8
    replace HB4 := Lib.hid (HB4.out.set_ 8 (.slice A' (j + 1) cap'))
    replace HN2 := Lib.hid (HN2.out.setFar (p := ⟨h, 8, none⟩) HF4.out HA4.out (.slice A' (j + 1) cap'))
    replace HW4 := Lib.hid (HW4.out.setCell (p := ⟨h, 8, none⟩) HLO.out (.slice A' (j + 1) cap'))
    generalize u4.setCell ⟨h, 8, none⟩ (.slice A' (j + 1) cap') = u4 at *
    change Hid (Blk u4 h 55 (hasC P a b c A' (j + 1) cap' 0)) at HB4
    refine ⟨HB4.out.range 0 8, ?_⟩
    go_simp
    refine ords_end (fun n6 => ?_)
    replace HN2 := Lib.hid (HN2.out.drewN n6); replace HB4 := Lib.hid (HB4.out.drewN n6); replace HW4 := Lib.hid (below_drewN HW4.out n6); generalize u4.drewN n6 = u4 at *
   rotate_left 1
   focus
    (try clear z8)
    replace HWU := Lib.hid (bdr HWU.out n1); replace HBK := Lib.hid (HBK.out.drewN n1); replace HND := Lib.hid (HND.out.drewN n1); (try replace HQ := Lib.hid (HQ.out.drewN n1)); (try replace HC1 := Lib.hid (show (u.drewN n1).cell? ⟨gb, 0, none⟩ = some (cP.enc q) from HC1.out)); generalize u.drewN n1 = u at *
    go_wp2_with (go_at_call 25; refine (HHA.out j (by rw [← HN.out]; exact Nat.le_of_lt HJ.out) u (HSL.out u HWU.out)).mono ?_; rintro e3 u3 ⟨q, G, rfl, hN, hG, hb3⟩)
    have HG := Lib.hid (fun k hk => Nat.le_trans HWU.out.size (hG k hk))
    have HGD := Lib.hid (fun (i : Nat) (hi : i < j) (k : Nat) (hk : k ∈ G) (hm : k ∈ F i) => by obtain ⟨p, r, -, h2⟩ := HND.out.node i hi; exact Nat.lt_irrefl _ (Nat.lt_of_lt_of_le (h2.lt k hm) (hG k hk)))
    have HGA := Lib.hid (fun (x : Addr) (hx : A = some x) (hm : x.block ∈ G) => Nat.lt_irrefl _ (Nat.lt_of_lt_of_le (HND.out.row.block_lt x hx).2 (hG _ hm)))
    have HGH := Lib.hid (fun hm : h ∈ G => Nat.lt_irrefl _ (Nat.lt_of_lt_of_le HBK.out.lt (hG h hm)))
    have HQ := Lib.hid hN
    replace HND := Lib.hid (HND.out.below hb3); replace HBK := Lib.hid (HBK.out.below hb3 HBK.out.lt); replace HWU := Lib.hid (bcall HWU.out hb3)
    clear hb3 hN hG
    obtain ⟨u, hu⟩ : ∃ u, u = u3 := ⟨_, rfl⟩
    subst hu
    refine ⟨HBK.out.range 0 8, ?_⟩
    go_simp
    refine ords_two rfl rfl (fun n2 => ?_) (fun n2 => ?_)
    focus
     (try clear z8)
     replace HWU := Lib.hid (bdr HWU.out n2); replace HBK := Lib.hid (HBK.out.drewN n2); replace HND := Lib.hid (HND.out.drewN n2); (try replace HQ := Lib.hid (HQ.out.drewN n2)); (try replace HC1 := Lib.hid (show (u.drewN n2).cell? ⟨gb, 0, none⟩ = some (cP.enc q) from HC1.out)); generalize u.drewN n2 = u at *
     have z8 : u.cell? ⟨h, 8, none⟩ = some (.slice A j cap) := HBK.out.cell 8
     have l8 := HBK.out.lt
     go_wp2_with fail
     clear z8 l8
     refine ⟨HBK.out.range 0 8, ?_⟩
     go_simp
     refine ords_loud rfl (fun n3 => ?_)
     replace HWU := Lib.hid (bdr HWU.out n3); replace HBK := Lib.hid (HBK.out.drewN n3); replace HND := Lib.hid (HND.out.drewN n3); (try replace HQ := Lib.hid (HQ.out.drewN n3)); (try replace HC1 := Lib.hid (show (u.drewN n3).cell? ⟨gb, 0, none⟩ = some (cP.enc q) from HC1.out)); generalize u.drewN n3 = u at *
     go_wp2_with fail
     have hb4 := bal (b0 u) (.cells #[.pointer (some ⟨q, 0, none⟩)] 64)
     have HC1 : Hid ((u.alloc (.cells #[.pointer (some ⟨q, 0, none⟩)] 64)).cell? ⟨u.heap.size, 0, none⟩ = some (cP.enc q)) := cnew _ _ _ rfl
     replace HQ := Lib.hid (HQ.out.below hb4)
     replace HND := Lib.hid (HND.out.below hb4); replace HBK := Lib.hid (HBK.out.below hb4 HBK.out.lt); replace HWU := Lib.hid (bcall HWU.out hb4)
     clear hb4
     obtain ⟨gb, hgb⟩ : ∃ g, g = u.heap.size := ⟨_, rfl⟩
     rw [← hgb] at HC1 ⊢
     clear hgb
     generalize u.alloc (.cells #[.pointer (some ⟨q, 0, none⟩)] 64) = u at *
     refine ⟨HBK.out.range 0 8, ?_⟩
     go_simp
     refine ords_loud rfl (fun n4 => ?_)
     replace HWU := Lib.hid (bdr HWU.out n4); replace HBK := Lib.hid (HBK.out.drewN n4); replace HND := Lib.hid (HND.out.drewN n4); (try replace HQ := Lib.hid (HQ.out.drewN n4)); (try replace HC1 := Lib.hid (show (u.drewN n4).cell? ⟨gb, 0, none⟩ = some (cP.enc q) from HC1.out)); generalize u.drewN n4 = u at *
     have HUS := Lib.hid (Nat.le_trans HHW.out HWU.out.size)
     (refine wpList_appS _ cP_ok rfl (.tmp 25) (.tmp 32) rfl HND.out.row rfl HND.out.len (RS.one' HC1.out) rfl rfl (by show (j + 1) * 8 ≤ _; omega) (by omega) HUS.out ?_; intro A' cap' u4 ho hg hA)
     have HN2 := Lib.hid (HND.out.snoc HQ.out (fun k hk => Nat.le_trans HHW.out (HG.out k hk)) HGD.out HGA.out ho hg hA)
     have HB4 := Lib.hid (HBK.out.grown hg (fun e => by cases hh : A with | none => rw [hh] at e; cases e | some x => rw [hh] at e; have e2 : h = x.block := Option.some.inj e; exact HAH.out x hh e2.symm))
     have HA4 : Hid (∀ x : Addr, A' = some x → x.block ≠ h) := (fun x hx e2 => by
      rcases hA with e | e
      ·rw [hx] at e
       cases hh : A with
       | none => rw [hh] at e; cases e
       | some y => rw [hh] at e; have e3 : x.block = y.block := Option.some.inj e; exact HAH.out y hh (by rw [← e3]; exact e2)
      ·rw [hx] at e
       have e3 : x.block = u.heap.size := Option.some.inj e
       have e4 := HBK.out.lt
       omega)
     have HW4 := Lib.hid (below_app (HWU.out.mono HHW.out) HND.out.row hg (Nat.le_refl _) HUS.out)
     have HF4 := Lib.hid (fun (i : Nat) (hi : i < j + 1) => (show h ∉ (if i = j then G else F i) by
      by_cases e : i = j
      ·rw [if_pos e]; exact HGH.out
      ·rw [if_neg e]; exact HFH.out i (by omega)))
     clear HC1 HUS ho hg hA HND HBK HWU HQ HG HGD HGA HGH
     refine ⟨HB4.out.range 0 8, ?_⟩
     go_simp
     iterate 2 (refine ords_pure rfl (fun K hK => ?_); go_simp; refine hK _ ?_; clear hK K)
     refine ords_loud rfl (fun n5 => ?_)
     replace HN2 := Lib.hid (HN2.out.drewN n5); replace HB4 := Lib.hid (HB4.out.drewN n5); replace HW4 := Lib.hid (below_drewN HW4.out n5); generalize u4.drewN n5 = u4 at *
     have z8 : u4.cell? ⟨h, 8, none⟩ = some (.slice A j cap) := HB4.out.cell 8
     have f8 := HB4.out.frozen 8
     have l8 := HB4.out.lt
     go_wp2_with fail
     clear z8 f8 l8
     replace HB4 := Lib.hid (HB4.out.set_ 8 (.slice A' (j + 1) cap'))
     replace HN2 := Lib.hid (HN2.out.setFar (p := ⟨h, 8, none⟩) HF4.out HA4.out (.slice A' (j + 1) cap'))
     replace HW4 := Lib.hid (HW4.out.setCell (p := ⟨h, 8, none⟩) HLO.out (.slice A' (j + 1) cap'))
     generalize u4.setCell ⟨h, 8, none⟩ (.slice A' (j + 1) cap') = u4 at *
     change Hid (Blk u4 h 55 (hasC P a b c A' (j + 1) cap' 0)) at HB4
     refine ⟨HB4.out.range 0 8, ?_⟩
     go_simp
     refine ords_end (fun n6 => ?_)
     replace HN2 := Lib.hid (HN2.out.drewN n6); replace HB4 := Lib.hid (HB4.out.drewN n6); replace HW4 := Lib.hid (below_drewN HW4.out n6); generalize u4.drewN n6 = u4 at *
    rotate_left 1
    focus
     replace HWU := Lib.hid (bdr HWU.out n2); replace HBK := Lib.hid (HBK.out.drewN n2); replace HND := Lib.hid (HND.out.drewN n2); (try replace HQ := Lib.hid (HQ.out.drewN n2)); (try replace HC1 := Lib.hid (show (u.drewN n2).cell? ⟨gb, 0, none⟩ = some (cP.enc q) from HC1.out)); generalize u.drewN n2 = u at *
     go_wp2_with fail
     have hb4 := bal (b0 u) (.cells #[.pointer (some ⟨q, 0, none⟩)] 64)
     have HC1 : Hid ((u.alloc (.cells #[.pointer (some ⟨q, 0, none⟩)] 64)).cell? ⟨u.heap.size, 0, none⟩ = some (cP.enc q)) := cnew _ _ _ rfl
     replace HQ := Lib.hid (HQ.out.below hb4)
     replace HND := Lib.hid (HND.out.below hb4); replace HBK := Lib.hid (HBK.out.below hb4 HBK.out.lt); replace HWU := Lib.hid (bcall HWU.out hb4)
     clear hb4
     obtain ⟨gb, hgb⟩ : ∃ g, g = u.heap.size := ⟨_, rfl⟩
     rw [← hgb] at HC1 ⊢
     clear hgb
     generalize u.alloc (.cells #[.pointer (some ⟨q, 0, none⟩)] 64) = u at *
     refine ⟨HBK.out.range 0 8, ?_⟩
     go_simp
     refine ords_loud rfl (fun n3 => ?_)
     (try clear z8)
     replace HWU := Lib.hid (bdr HWU.out n3); replace HBK := Lib.hid (HBK.out.drewN n3); replace HND := Lib.hid (HND.out.drewN n3); (try replace HQ := Lib.hid (HQ.out.drewN n3)); (try replace HC1 := Lib.hid (show (u.drewN n3).cell? ⟨gb, 0, none⟩ = some (cP.enc q) from HC1.out)); generalize u.drewN n3 = u at *
     have z8 : u.cell? ⟨h, 8, none⟩ = some (.slice A j cap) := HBK.out.cell 8
     have l8 := HBK.out.lt
     go_wp2_with fail
     clear z8 l8
     refine ⟨HBK.out.range 0 8, ?_⟩
     go_simp
     refine ords_loud rfl (fun n4 => ?_)
     replace HWU := Lib.hid (bdr HWU.out n4); replace HBK := Lib.hid (HBK.out.drewN n4); replace HND := Lib.hid (HND.out.drewN n4); (try replace HQ := Lib.hid (HQ.out.drewN n4)); (try replace HC1 := Lib.hid (show (u.drewN n4).cell? ⟨gb, 0, none⟩ = some (cP.enc q) from HC1.out)); generalize u.drewN n4 = u at *
     have HUS := Lib.hid (Nat.le_trans HHW.out HWU.out.size)
     (refine wpList_appS _ cP_ok rfl (.tmp 25) (.tmp 32) rfl HND.out.row rfl HND.out.len (RS.one' HC1.out) rfl rfl (by show (j + 1) * 8 ≤ _; omega) (by omega) HUS.out ?_; intro A' cap' u4 ho hg hA)
     have HN2 := Lib.hid (HND.out.snoc HQ.out (fun k hk => Nat.le_trans HHW.out (HG.out k hk)) HGD.out HGA.out ho hg hA)
     have HB4 := Lib.hid (HBK.out.grown hg (fun e => by cases hh : A with | none => rw [hh] at e; cases e | some x => rw [hh] at e; have e2 : h = x.block := Option.some.inj e; exact HAH.out x hh e2.symm))
     have HA4 : Hid (∀ x : Addr, A' = some x → x.block ≠ h) := (fun x hx e2 => by
      rcases hA with e | e
      ·rw [hx] at e
       cases hh : A with
       | none => rw [hh] at e; cases e
       | some y => rw [hh] at e; have e3 : x.block = y.block := Option.some.inj e; exact HAH.out y hh (by rw [← e3]; exact e2)
      ·rw [hx] at e
       have e3 : x.block = u.heap.size := Option.some.inj e
       have e4 := HBK.out.lt
       omega)
     have HW4 := Lib.hid (below_app (HWU.out.mono HHW.out) HND.out.row hg (Nat.le_refl _) HUS.out)
     have HF4 := Lib.hid (fun (i : Nat) (hi : i < j + 1) => (show h ∉ (if i = j then G else F i) by
      by_cases e : i = j
      ·rw [if_pos e]; exact HGH.out
      ·rw [if_neg e]; exact HFH.out i (by omega)))
     clear HC1 HUS ho hg hA HND HBK HWU HQ HG HGD HGA HGH
     refine ⟨HB4.out.range 0 8, ?_⟩
     go_simp
     iterate 2 (refine ords_pure rfl (fun K hK => ?_); go_simp; refine hK _ ?_; clear hK K)
     refine ords_loud rfl (fun n5 => ?_)
     replace HN2 := Lib.hid (HN2.out.drewN n5); replace HB4 := Lib.hid (HB4.out.drewN n5); replace HW4 := Lib.hid (below_drewN HW4.out n5); generalize u4.drewN n5 = u4 at *
     have z8 : u4.cell? ⟨h, 8, none⟩ = some (.slice A j cap) := HB4.out.cell 8
     have f8 := HB4.out.frozen 8
     have l8 := HB4.out.lt
     go_wp2_with fail
     clear z8 f8 l8
     replace HB4 := Lib.hid (HB4.out.set_ 8 (.slice A' (j + 1) cap'))
     replace HN2 := Lib.hid (HN2.out.setFar (p := ⟨h, 8, none⟩) HF4.out HA4.out (.slice A' (j + 1) cap'))
     replace HW4 := Lib.hid (HW4.out.setCell (p := ⟨h, 8, none⟩) HLO.out (.slice A' (j + 1) cap'))
     generalize u4.setCell ⟨h, 8, none⟩ (.slice A' (j + 1) cap') = u4 at *
     change Hid (Blk u4 h 55 (hasC P a b c A' (j + 1) cap' 0)) at HB4
     refine ⟨HB4.out.range 0 8, ?_⟩
     go_simp
     refine ords_end (fun n6 => ?_)
     replace HN2 := Lib.hid (HN2.out.drewN n6); replace HB4 := Lib.hid (HB4.out.drewN n6); replace HW4 := Lib.hid (below_drewN HW4.out n6); generalize u4.drewN n6 = u4 at *
   all_goals
    go_wp2_with fail
    exact ⟨⟨j + 1, A', cap', ps ++ [q], fun i => if i = j then G else F i, HJ.out, num9 j, HB4.out, HN2.out, HF4.out, HA4.out, HBW.out.trans HW4.out⟩, measH n j HJ.out⟩
  ·obtain rfl : j = n := by omega
   have d1 : decide ((j : Int) < (j : Int)) = false := by simp
   go_wp2_with fail
   exact bodyPost_ret (results_tmp rfl _ _ _) rfl ⟨A, cap, ps, F, rfl, HBK.out, HND.out, HFH.out, HAH.out, HBW.out⟩
structure Hs (w : World) (H h : Nat) (P : LP) (d : Nat) (a b c : Sl) (A : Option Addr) (cap t : Nat) (ps : List Nat) (F : Nat → List Nat) (e : Nat → Eng) : Prop where
  blk : Blk w h 55 (hasC P a b c A (lnOf P.big) cap t)
  nds : Nds w H P d (lnOf P.big) A cap ps F e
  fh : ∀ i, i < lnOf P.big → h ∉ F i
  ah : ∀ x, A = some x → x.block ≠ h
  low : H ≤ h
  set_ : SetLow w H P a b c
end Go.Proofs.YtghpofnaojbbkaaGreat

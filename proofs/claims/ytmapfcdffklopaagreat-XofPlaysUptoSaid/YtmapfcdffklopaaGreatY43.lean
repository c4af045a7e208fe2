/-
  Y43: contracts and lemmas alone; no statement is claimed here.
-/
import Derived.Test.YtmapfcdffklopaaGreatY42
import Derived.Test.YtmapfcdffklopaaGreatY18
namespace Go.Proofs.YtmapfcdffklopaaGreat
open Go.RowKit
attribute [local go_sem] pureUpon Ords.of

def XS (w : World) (p : Nat) (m : Xm) (t : XSt) (F : List Nat) : Prop := (t.gv = false ∧ t.pos = 0 ∧ XTk w p m t.msg F) ∨ (t.gv = true ∧ XGv w p m (m.root t.msg) t.pos F)
section
variable {w w' : World} {p : Nat} {m : Xm} {t : XSt} {F G : List Nat}
theorem XS.lt (h : XS w p m t F) : ∀ k, k ∈ F → k < w.heap.size := by rcases h with ⟨-, -, h⟩ | ⟨-, h⟩ <;> exact h.lt
theorem XS.here (h : XS w p m t F) : p ∈ F := by rcases h with ⟨-, -, h⟩ | ⟨-, h⟩ <;> exact h.here
theorem XS.but (h : XS w p m t F) (hb : But G w w') (hd : ∀ k, k ∈ F → k ∉ G) : XS w' p m t F := by
 rcases h with ⟨h1, h2, h⟩ | ⟨h1, h⟩
 ·exact .inl ⟨h1, h2, h.but hb hd⟩
 ·exact .inr ⟨h1, h.but hb hd⟩
theorem XS.none_ (h : XS w p m t F) : Calls Tryz.prog 29 #[.pointer (some ⟨p, 0, none⟩)] w fun r w' => r = .returned (.bool false) ∧ w = w' := by
 rcases h with ⟨-, -, h⟩ | ⟨-, h⟩ <;> exact h.none_
theorem XS.read (hX : XS w p m t F) (hm : m.Ok) (hpo : t.pos ≤ m.T) (n : Nat) (hn : n ≤ 65536) :
  Calls Tryz.prog 26 #[.pointer (some ⟨p, 0, none⟩), .int .i64 n] w fun r w' => ∃ A k cc, r = .returned (.tuple #[.slice A k cc, .int .i64 (m.readS (m.root t.msg) t.pos n).2]) ∧ (m.readS (m.root t.msg) t.pos n).1.length = k ∧ OS cB w' w.heap.size A cc (m.readS (m.root t.msg) t.pos n).1 ∧
   ∃ F', XS w' p m ⟨t.msg, true, t.pos + k⟩ F' ∧ Fresh F F' w ∧ But [p] w w' ∧ (∀ a, A = some a → a.block ∉ F') := by
 obtain ⟨msg, gv, pos⟩ := t
 rcases hX with ⟨h1, h2, h⟩ | ⟨h1, h⟩
 ·dsimp only at h1 h2 h hpo
  subst h1; subst h2
  refine (h.read hm n hn).mono ?_
  rintro r w' ⟨A, k, cc, e1, e2, -, e4, F', h5, h6, h7, h8⟩
  exact ⟨A, k, cc, e1, e2, e4, F', .inr ⟨rfl, h5⟩, h6, h7, h8⟩
 ·dsimp only at h1 h hpo
  subst h1
  refine (h.read hm hpo n hn).mono ?_
  rintro r w' ⟨A, k, cc, e1, e2, -, e4, F', h5, h6, h7, h8⟩
  exact ⟨A, k, cc, e1, e2, e4, F', .inr ⟨rfl, h5⟩, h6, h7, h8⟩
theorem XS.skip (hX : XS w p m t F) (hm : m.Ok) (hpo : t.pos ≤ m.T) (n : Nat) (hn : n < 18446744073709551616) :
  Calls Tryz.prog 23 #[.pointer (some ⟨p, 0, none⟩), .int .u64 n] w fun r w' => r = .returned (.tuple #[.int .u64 (skipS m.T t.pos n).1, .int .i64 (skipS m.T t.pos n).2]) ∧ ∃ F', XS w' p m ⟨t.msg, true, t.pos + (skipS m.T t.pos n).1⟩ F' ∧ Fresh F F' w ∧ But [p] w w' := by
 obtain ⟨msg, gv, pos⟩ := t
 rcases hX with ⟨h1, h2, h⟩ | ⟨h1, h⟩
 ·dsimp only at h1 h2 h hpo
  subst h1; subst h2
  refine (h.skip hm n hn).mono ?_
  rintro r w' ⟨e1, F', h5, h6, h7⟩
  exact ⟨e1, F', .inr ⟨rfl, h5⟩, h6, h7⟩
 ·dsimp only at h1 h hpo
  subst h1
  refine (h.skip hm hpo n hn).mono ?_
  rintro r w' ⟨e1, F', h5, h6, h7⟩
  exact ⟨e1, F', .inr ⟨rfl, h5⟩, h6, h7⟩
theorem XS.atq (hX : XS w p m t F) : Calls Tryz.prog 8 #[.pointer (some ⟨p, 0, none⟩)] w fun r w' => r = .returned (.int .u64 t.pos) ∧ w = w' := by
 rcases hX with ⟨-, h2, h⟩ | ⟨-, h⟩
 ·rw [h2]; exact h.atq
 ·exact h.atq
theorem XS.leftq (hX : XS w p m t F) (hm : m.Ok) : Calls Tryz.prog 9 #[.pointer (some ⟨p, 0, none⟩)] w fun r w' => r = .returned (.int .u64 ((m.T - t.pos : Nat) : Int)) ∧ Below w.heap.size w w' := by
 rcases hX with ⟨-, h2, h⟩ | ⟨-, h⟩
 ·rw [h2]; exact h.left hm
 ·exact h.leftq hm
theorem XS.copy (hX : XS w p m t F) : Calls Tryz.prog 25 #[.pointer (some ⟨p, 0, none⟩)] w fun r w' => ∃ g F', r = .returned (.pointer (some ⟨g, 0, none⟩)) ∧ w.heap.size ≤ g ∧ XS w' g m t F' ∧ p ∉ F' ∧ Fresh F F' w ∧ Below w.heap.size w w' := by
 rcases hX with ⟨h1, h2, h⟩ | ⟨h1, h⟩
 ·refine h.copy.mono ?_
  rintro r w' ⟨g, F', e1, e2, h3, h4, h5, h6⟩
  exact ⟨g, F', e1, e2, .inl ⟨h1, h2, h3⟩, h4, h5, h6⟩
 ·refine h.copy.mono ?_
  rintro r w' ⟨g, F', e1, e2, h3, h4, h5, h6⟩
  exact ⟨g, F', e1, e2, .inr ⟨h1, h3⟩, h4, h5, h6⟩
theorem XS.reset (hX : XS w p m t F) (hm : m.Ok) : Calls Tryz.prog 28 #[.pointer (some ⟨p, 0, none⟩)] w fun r w' => r = .returned (.int .i64 0) ∧ ∃ F', XS w' p m ⟨[], false, 0⟩ F' ∧ Fresh F F' w ∧ But [p] w w' := by
 rcases hX with ⟨-, -, h⟩ | ⟨-, h⟩
 ·refine (h.reset hm).mono ?_
  rintro r w' ⟨e1, F', h3, h4, h5⟩
  exact ⟨e1, F', .inl ⟨rfl, rfl, h3⟩, h4, h5⟩
 ·refine (h.reset hm).mono ?_
  rintro r w' ⟨e1, F', h3, h4, h5⟩
  exact ⟨e1, F', .inl ⟨rfl, rfl, h3⟩, h4, h5⟩
end
structure PS (H : Nat) (w0 w : World) (p q : Nat) (m : Xm) (t t2 : XSt) (F : List Nat) (Ak : Option Addr) (ck : Nat) (s tt : Sl) (Am : Option Addr) (nm cm : Nat) : Prop where
  x : XS w p m t F
  r : RX w H q m t2 Ak ck s tt Am nm cm
  hF : ∀ k, k ∈ F → H ≤ k
  q : q ∉ F
  a : ∀ b, Am = some b → b.block ∉ F
  pos : t.pos ≤ m.T
  bel : Below H w0 w
section
variable {H : Nat} {w0 w w' : World} {p q : Nat} {m : Xm} {t t2 : XSt} {F G : List Nat} {Ak : Option Addr} {ck : Nat} {s tt : Sl} {Am : Option Addr} {nm cm : Nat}
theorem PS.hH (h : PS H w0 w p q m t t2 F Ak ck s tt Am nm cm) : H ≤ w.heap.size := h.r.hH
theorem PS.but (h : PS H w0 w p q m t t2 F Ak ck s tt Am nm cm) (hb : But G w w') (hG : ∀ k, k ∈ G → H ≤ k ∧ k ∉ F ∧ k ≠ q ∧ ∀ b, Am = some b → b.block ≠ k) : PS H w0 w' p q m t t2 F Ak ck s tt Am nm cm :=
 ⟨h.x.but hb (fun k hk hg => (hG k hg).2.1 hk), h.r.but hb (fun hg => (hG _ hg).2.2.1 rfl) (fun a ha hg => (hG _ hg).2.2.2 a ha rfl) (fun k hk => (hG k hk).1) h.hH, h.hF, h.q, h.a, h.pos, h.bel.trans (hb.toBelow h.hH (fun k hk => (hG k hk).1))⟩
theorem PS.fresh (h : PS H w0 w p q m t t2 F Ak ck s tt Am nm cm) {k : Nat} (hk : w.heap.size ≤ k) : H ≤ k ∧ k ∉ F ∧ k ≠ q ∧ ∀ b, Am = some b → b.block ≠ k :=
 ⟨Nat.le_trans h.hH hk, fun hm => Nat.lt_irrefl _ (Nat.lt_of_lt_of_le (h.x.lt k hm) hk), fun e => Nat.lt_irrefl _ (Nat.lt_of_lt_of_le h.r.blk.lt (e ▸ hk)), fun b hb e => Nat.lt_irrefl _ (Nat.lt_of_lt_of_le (h.r.own.block_lt b hb).2 (e ▸ hk))⟩
theorem PS.below (h : PS H w0 w p q m t t2 F Ak ck s tt Am nm cm) (hb : Below w.heap.size w w') : PS H w0 w' p q m t t2 F Ak ck s tt Am nm cm := h.but (But.of hb []) (fun _ hk => by cases hk)
theorem PS.ref (h : PS H w0 w p q m t t2 F Ak ck s tt Am nm cm) {p' : Nat} {t' : XSt} {F' G : List Nat} (hx : XS w' p' m t' F') (hp : t'.pos ≤ m.T) (hf : Fresh F F' w) (hb : But G w w') (hG : ∀ k, k ∈ G → k ∈ F ∨ w.heap.size ≤ k) :
  PS H w0 w' p' q m t' t2 F' Ak ck s tt Am nm cm := by
 have hGH : ∀ k, k ∈ G → H ≤ k := fun k hk => by
  rcases hG k hk with h1 | h1
  ·exact h.hF k h1
  ·exact (h.fresh h1).1
 refine ⟨hx, h.r.but hb (fun hg => ?_) (fun a ha hg => ?_) hGH h.hH, fun k hk => ?_, fun hk => ?_, fun b hb hk => ?_, hp, h.bel.trans (hb.toBelow h.hH hGH)⟩
 ·rcases hG _ hg with h1 | h1
  ·exact h.q h1
  ·exact (h.fresh h1).2.2.1 rfl
 ·rcases hG _ hg with h1 | h1
  ·exact h.a a ha h1
  ·exact (h.fresh h1).2.2.2 a ha rfl
 ·rcases hf k hk with h1 | h1
  ·exact h.hF k h1
  ·exact (h.fresh h1).1
 ·rcases hf _ hk with h1 | h1
  ·exact h.q h1
  ·exact (h.fresh h1).2.2.1 rfl
 ·rcases hf _ hk with h1 | h1
  ·exact h.a b hb h1
  ·exact (h.fresh h1).2.2.2 b hb rfl
theorem PS.went (h : PS H w0 w p q m t t2 F Ak ck s tt Am nm cm) {t3 : XSt} {Am' : Option Addr} {nm' cm' : Nat} {G : List Nat} (hr : RX w' H q m t3 Ak ck s tt Am' nm' cm') (hb : But G w w') (hG : ∀ k, k ∈ G → k = q ∨ k ∈ obl Am ∨ w.heap.size ≤ k) (hA : ∀ b, Am' = some b → b.block ∈ obl Am ∨ w.heap.size ≤ b.block) :
  PS H w0 w' p q m t t3 F Ak ck s tt Am' nm' cm' := by
 refine ⟨h.x.but hb (fun k hk hg => ?_), hr, h.hF, h.q, fun b hb hk => ?_, h.pos, h.bel.trans (hb.toBelow h.hH (fun k hg => ?_))⟩
 ·rcases hG k hg with h1 | h1 | h1
  ·exact h.q (h1 ▸ hk)
  ·obtain ⟨b, h2, h3⟩ := mem_obl.1 h1; exact h.a b h2 (by rw [h3]; exact hk)
  ·exact (h.fresh h1).2.1 hk
 ·rcases hA b hb with h1 | h1
  ·obtain ⟨c, h2, h3⟩ := mem_obl.1 h1; exact h.a c h2 (by rw [h3]; exact hk)
  ·exact (h.fresh h1).2.1 hk
 ·rcases hG k hg with h1 | h1 | h1
  ·rw [h1]; exact h.r.lo
  ·obtain ⟨b, h2, h3⟩ := mem_obl.1 h1; rw [← h3]; exact (h.r.own.block_lt b h2).1
  ·exact (h.fresh h1).1
end
theorem byt_not (x : UInt8) : bits .xor .u8 IntKind.u8.max (byt x) = byt (~~~x) := by
 have h : x = x ^^^ 0 := by simp
 have h2 := byt_xor 255 x
 rw [show (255 : UInt8) ^^^ x = ~~~x by rw [← UInt8.toBitVec_inj]; simp [UInt8.toBitVec_xor, UInt8.toBitVec_not, ← BitVec.allOnes_xor]] at h2
 rw [← h2]
 rfl
set_option maxRecDepth 20000 in
set_option maxHeartbeats 2000000 in
theorem read7_core (p q : Nat) (n e : Int) (L : List UInt8) (w : World) (X Y : World → Option Addr → Prop) (Z : World → Prop) (hL : L.length ≤ 65536)
  (hx : Calls Tryz.prog 26 #[.pointer (some ⟨p, 0, none⟩), .int .i64 n] w fun r w' => ∃ A cc, r = .returned (.tuple #[.slice A L.length cc, .int .i64 e]) ∧ X w' A)
  (hy : ∀ w1 A, X w1 A → Calls Tryz.prog 31 #[.pointer (some ⟨q, 0, none⟩), .int .i64 n] w1 fun r w' => ∃ B c2, r = .returned (.tuple #[.slice B L.length c2, .int .i64 e]) ∧ RS cB w' w'.heap.size B L ∧ (∃ cc, OS cB w' w.heap.size A cc L) ∧ Y w' A)
  (hz : ∀ w2 w3 A, Y w2 A → (∀ a, A = some a → w.heap.size ≤ a.block) → But (obl A) w2 w3 → Z w3) :
  Calls Tryz.prog 11 #[.pointer (some ⟨p, 0, none⟩), .pointer (some ⟨q, 0, none⟩), .int .i64 n] w fun r w' => r = .returned (.bool true) ∧ Z w' := by
 have hee : (e == e) = true := by simp
 have HX := Lib.hid hx; have HY := Lib.hid hy; have HZ := Lib.hid hz
 obtain ⟨N, hN⟩ : ∃ N, N = L.length := ⟨_, rfl⟩
 rw [← hN] at hx hy hL
 have HX := Lib.hid hx; have HY := Lib.hid hy; have HN := Lib.hid hN
 clear hx hy hz hN
 go_enter Tryz.func11, Tryz.ntmps11
 go_wp2_with fail
 refine HX.out.mono ?_
 rintro e1 w1 ⟨A, cc, rfl, hX⟩
 have hY := HY.out w1 A hX
 have HY1 := Lib.hid hY
 clear hX hY
 go_wp2_with fail
 refine HY1.out.mono ?_
 rintro e2 w2 ⟨B, c2, rfl, hrs, ⟨c3, hos⟩, hY⟩
 have hsm := same7_any A B cc c2 L L N N w2 HN.out.symm HN.out.symm (by omega) hos.reads hrs
 rw [decide_eq_true rfl] at hsm
 have HSM := Lib.hid hsm; have HO := Lib.hid hos; have HYY := Lib.hid hY
 clear hsm hos hY hrs
 go_wp2_with (go_at_call 20; refine HSM.out.mono ?_; rintro e3 w3 ⟨rfl, hb3⟩)
 have HO3 := Lib.hid (HO.out.below hb3 (Nat.le_refl _)); have HB3 := Lib.hid (But.of hb3 (obl A))
 clear hb3
 go_loopw [12, 35] (fun _ i wr => ∃ (k : Nat) (M : List UInt8), k ≤ N ∧ i = .int .i64 k ∧ M.length = N ∧ OS cB wr w.heap.size A c3 M ∧ But (obl A) w2 wr) (fun _ i _ => N - (intOf i).toNat)
 case atStart => exact ⟨0, L, Nat.zero_le _, rfl, HN.out.symm, HO3.out, HB3.out⟩
 case round =>
  clear HO3 HB3
  obtain ⟨k, M, hk, rfl, hM, ho, hb⟩ := hrel
  have HM := Lib.hid hM; have HB := Lib.hid hb
  clear hM hb
  by_cases hlt : k < N
  ·obtain ⟨g, x, rfl, -, hgl, ex, gc, gf⟩ := ho.at_ (k := k) (by rw [HM.out]; exact hlt)
   change wr.cell? ⟨g, k, none⟩ = some (.int .u8 (byt x)) at gc
   have hkd : decide ((k : Int) < N) = true := by simp; omega
   have hki : (k : Int) < N := by omega
   have hnt := byt_not x
   have hnt2 : bits .xor .u8 (if IntKind.u8.signed = true then -1 else IntKind.u8.max) (byt x) = byt (~~~x) := byt_not x
   have hos := ho.set k (~~~x)
   have HOS := Lib.hid hos
   clear ex ho hos
   go_wp2_with fail
   go_roundw
   case rel => exact ⟨k + 1, M.set k (~~~x), by omega, by go_num, by rw [List.length_set]; exact HM.out, HOS.out, HB.out.setCell (p := ⟨g, k, none⟩) (.inl (by simp [obl])) _⟩
   case measure => simp [intOf]; omega
  ·obtain rfl : k = N := by omega
   have HO4 := Lib.hid ho; clear ho
   go_wp2_with fail
   exact bodyPost_ret (results_tmp rfl _ _ _) rfl ⟨rfl, HZ.out w2 _ A HYY.out (fun a ha => (HO.out.block_lt a ha).1) HB.out⟩
theorem read7_any {H : Nat} {w0 w : World} {p q : Nat} {m : Xm} {t : XSt} {F : List Nat} {Ak : Option Addr} {ck : Nat} {s tt : Sl} {Am : Option Addr} {nm cm : Nat} (h : PS H w0 w p q m t t F Ak ck s tt Am nm cm) (hm : m.Ok) (hnm : nm ≤ 140737488355200) (n : Int) :
  Calls Tryz.prog 11 #[.pointer (some ⟨p, 0, none⟩), .pointer (some ⟨q, 0, none⟩), .int .i64 n] w fun r w' => r = .returned (.bool true) ∧ ∃ t' F', PS H w0 w' p q m t' t' F' Ak ck s tt Am nm cm := by
 by_cases hn : n < 0 ∨ 65536 < n
 ·refine read7_core p q n 1 [] w (fun w1 A => A = none ∧ w = w1) (fun w1 A => A = none ∧ w = w1) _ (Nat.zero_le _) ((xreadBad_any p n w hn h.x.none_).mono ?_) ?_ ?_
  ·rintro r w' ⟨rfl, rfl⟩
   exact ⟨none, 0, rfl, rfl, rfl⟩
  ·rintro w1 A ⟨rfl, rfl⟩
   refine (rxReadBad_any q n hn w).mono ?_
   rintro r w' ⟨rfl, rfl⟩
   exact ⟨none, 0, rfl, RS.nil _, ⟨0, OS.nil _ _ _ rfl⟩, rfl, rfl⟩
  ·rintro w2 w3 A ⟨rfl, rfl⟩ - hb
   exact ⟨t, F, h.but hb (fun k hk => by simp [obl] at hk)⟩
 ·obtain ⟨N, rfl⟩ : ∃ N : Nat, n = N := ⟨n.toNat, by omega⟩
  have hN : N ≤ 65536 := by omega
  have hpo := h.pos
  have hl : (m.readS (m.root t.msg) t.pos N).1.length ≤ N ∧ t.pos + (m.readS (m.root t.msg) t.pos N).1.length ≤ m.T := by
   unfold Xm.readS
   split
   ·exact ⟨Nat.zero_le _, hpo⟩
   ·show (Xm.row _ _ _ _).length ≤ _ ∧ t.pos + (Xm.row _ _ _ _).length ≤ _
    rw [Xm.row_len]
    omega
  refine read7_core p q N (m.readS (m.root t.msg) t.pos N).2 (m.readS (m.root t.msg) t.pos N).1 w
   (fun w1 A => ∃ F' cc, PS H w0 w1 p q m ⟨t.msg, true, t.pos + (m.readS (m.root t.msg) t.pos N).1.length⟩ t F' Ak ck s tt Am nm cm ∧ OS cB w1 w.heap.size A cc (m.readS (m.root t.msg) t.pos N).1 ∧ (∀ a, A = some a → a.block ∉ F') ∧ q < w.heap.size ∧ ∀ b, Am = some b → b.block < w.heap.size)
   (fun w2 A => ∃ F', PS H w0 w2 p q m ⟨t.msg, true, t.pos + (m.readS (m.root t.msg) t.pos N).1.length⟩ ⟨t.msg, true, t.pos + (m.readS (m.root t.msg) t.pos N).1.length⟩ F' Ak ck s tt Am nm cm ∧ (∀ a, A = some a → a.block ∉ F') ∧ q < w.heap.size ∧ ∀ b, Am = some b → b.block < w.heap.size) _ (by omega) ((h.x.read hm hpo N hN).mono ?_) ?_ ?_
  ·rintro r w' ⟨A, k, cc, rfl, rfl, ho, F', h5, h6, h7, h8⟩
   exact ⟨A, cc, rfl, F', cc, h.ref h5 hl.2 h6 h7 (fun k hk => by rw [List.mem_singleton.1 hk]; exact .inl h.x.here), ho, h8, h.r.blk.lt, fun b hb => (h.r.own.block_lt b hb).2⟩
  ·rintro w1 A ⟨F', cc, hP, ho, hA, hq, hb⟩
   refine (rxRead_any H q m hm t Ak ck s tt Am nm cm w1 hP.r hpo hnm N hN).mono ?_
   rintro r w' ⟨B, k, c2, rfl, rfl, ho2, hr2, hb2⟩
   refine ⟨B, c2, rfl, ho2.reads, ⟨cc, ho.but hb2 (fun a ha hm => ?_)⟩, F', hP.went hr2 hb2 (fun k hk => .inl (List.mem_singleton.1 hk)) (fun b hb => .inl (mem_obl.2 ⟨b, hb, rfl⟩)), hA, hq, hb⟩
   have h1 := (ho.block_lt a ha).1
   rw [List.mem_singleton.1 hm] at h1
   omega
  ·rintro w2 w3 A ⟨F', hP, hA, hq, hb⟩ hlo hbu
   refine ⟨_, F', hP.but hbu (fun k hk => ?_)⟩
   obtain ⟨a, h1, h2⟩ := mem_obl.1 hk
   have h3 := hlo a h1
   refine ⟨by have := h.hH; omega, by rw [← h2]; exact hA a h1, by omega, fun b h4 => by have := hb b h4; omega⟩
end Go.Proofs.YtmapfcdffklopaaGreat

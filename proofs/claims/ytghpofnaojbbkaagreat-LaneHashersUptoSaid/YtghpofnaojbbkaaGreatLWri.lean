/-
  A hasher of lanes: Write, Digest. Contracts alone; no statement is claimed here.
-/
import Derived.Test.YtghpofnaojbbkaaGreatLSum
namespace Go.Proofs.YtghpofnaojbbkaaGreat
open Go.RowKit
attribute [local go_sem] pureUpon Ords.of

def hsB (h n : Nat) (F : Nat → List Nat) : List Nat := h :: (List.range n).flatMap F
theorem mem_hsB {h n k : Nat} {F : Nat → List Nat} : k ∈ hsB h n F ↔ k = h ∨ ∃ i, i < n ∧ k ∈ F i := by
 simp [hsB]
def LP.engs (P : LP) (M : List UInt8) (i : Nat) : Eng := (P.eng0 i).feed (laneB (lnOf P.big) (blOf P.big) i M)
theorem LP.engs_nil (P : LP) : P.engs [] = P.eng0 := by funext i; exact Eng.feed_nil _
theorem LP.engs_full (P : LP) (M : List UInt8) (i : Nat) : (P.engs M i).full = bOf P.big := by unfold LP.engs LP.eng0; rw [Eng.feed_full, startK_full]
theorem LP.engs_step (P : LP) (M p : List UInt8) (i : Nat) (hi : i = M.length / blOf P.big % lnOf P.big) (hp : ∀ x, x < p.length → (M.length + x) / blOf P.big = M.length / blOf P.big) :
  (fun j => if j = i then (P.engs M i).feed p else P.engs M j) = P.engs (M ++ p) := by
 funext j
 show _ = (P.eng0 j).feed _
 rw [laneB_piece _ _ j _ p M hp, ← hi]
 by_cases h : j = i
 ·subst h
  rw [if_pos rfl, if_pos rfl, Eng.feed_append (P.eng0 j) (startK_ok _ _ _)]
  rfl
 ·rw [if_neg h, if_neg (fun e => h e.symm)]
  rfl
theorem taken_facts (big : Bool) (x : Nat) : x % 18446744073709551616 % 512 / blOf big = x / blOf big % lnOf big ∧ x % 18446744073709551616 % 512 % blOf big = x % blOf big ∧ 0 < blOf big ∧ blOf big ≤ 128 := by
 cases big
 ·show x % 18446744073709551616 % 512 / 64 = x / 64 % 8 ∧ x % 18446744073709551616 % 512 % 64 = x % 64 ∧ 0 < 64 ∧ 64 ≤ 128
  omega
 ·show x % 18446744073709551616 % 512 / 128 = x / 128 % 4 ∧ x % 18446744073709551616 % 512 % 128 = x % 128 ∧ 0 < 128 ∧ 128 ≤ 128
  omega
theorem OS.ptr {w : World} {base c g i p : Nat} {ps : List Nat} (h : OS cP w base (some ⟨g, 0, none⟩) c ps) (hp : ps[i]? = some p) : w.cell? ⟨g, i, none⟩ = some (.pointer (some ⟨p, 0, none⟩)) := by
 obtain ⟨g', y, e, -, -, e2, h3, -⟩ := h.at_ (List.getElem?_eq_some_iff.1 hp).1
 injection e with e; injection e with e
 subst e
 rw [hp] at e2
 rw [Option.some.inj e2]
 exact h3
structure WIn (w wr : World) (H h : Nat) (P : LP) (d : Nat) (a b c : Sl) (A : Option Addr) (cap : Nat) (ps : List Nat) (F0 F : Nat → List Nat) (t : Nat) (e : Nat → Eng) (L : List UInt8) (k : Nat) (Ab Ar : Option Addr) (cb cr : Nat) : Prop where
  hs : Hs wr H h P d a b c A cap t ps F e
  le : k ≤ L.length
  fit : L.length - k ≤ cr
  cr_ : cr ≤ cb
  rs : RS cB wr w.heap.size Ar (L.drop k)
  bl : Ar.map (·.block) = Ab.map (·.block)
  fin : ∀ i, i < lnOf P.big → ∀ x, x ∈ F i → x ∈ F0 i ∨ w.heap.size ≤ x
  but : But (hsB h (lnOf P.big) F0) w wr
section
variable {w wr w' : World} {H h : Nat} {P : LP} {d : Nat} {a b c : Sl} {A : Option Addr} {cap : Nat} {ps : List Nat} {F0 F : Nat → List Nat} {t : Nat} {e : Nat → Eng} {L : List UInt8} {k : Nat} {Ab Ar : Option Addr} {cb cr : Nat}
theorem WIn.below (hh : WIn w wr H h P d a b c A cap ps F0 F t e L k Ab Ar cb cr) (hb : Below wr.heap.size wr w') : WIn w w' H h P d a b c A cap ps F0 F t e L k Ab Ar cb cr :=
 ⟨hh.hs.below hb (Nat.le_trans hh.hs.low (Nat.le_of_lt hh.hs.blk.lt)), hh.le, hh.fit, hh.cr_, hh.rs.below (hb.mono hh.but.size), hh.bl, hh.fin, hh.but.below hb⟩
theorem WIn.drewN (hh : WIn w wr H h P d a b c A cap ps F0 F t e L k Ab Ar cb cr) (n : Nat) : WIn w (wr.drewN n) H h P d a b c A cap ps F0 F t e L k Ab Ar cb cr := hh.below (bdr (b0 wr) n)
theorem WIn.at_ (hh : WIn w wr H h P d a b c A cap ps F0 F t e L k Ab Ar cb cr) (hf : L ≠ [] → ∀ x, Ab = some x → x.block ∉ hsB h (lnOf P.big) F0) (hlt : L.drop k ≠ []) : ∀ x, Ar = some x → x.block ≠ h ∧ ∀ i, i < lnOf P.big → x.block ∉ F i := by
 intro x hx
 have hb : ∃ y, Ab = some y ∧ x.block = y.block := by
  have h1 := hh.bl
  rw [hx] at h1
  cases hA : Ab with
  | none => rw [hA] at h1; cases h1
  | some y => rw [hA] at h1; exact ⟨y, rfl, Option.some.inj h1⟩
 obtain ⟨y, hy, e1⟩ := hb
 have h2 := hf (fun e => hlt (by rw [e]; exact List.drop_nil)) y hy
 have h3 := hh.rs.low hlt x hx
 rw [← e1] at h2
 refine ⟨fun e => h2 (mem_hsB.2 (.inl e)), fun i hi hm => ?_⟩
 rcases hh.fin i hi _ hm with h4 | h4
 ·exact h2 (mem_hsB.2 (.inr ⟨i, hi, h4⟩))
 ·omega
theorem WIn.wrote (hh : WIn w wr H h P d a b c A cap ps F0 F t e L k Ab Ar cb cr) (hf : L ≠ [] → ∀ x, Ab = some x → x.block ∉ hsB h (lnOf P.big) F0) (hlt : L.drop k ≠ []) {i p : Nat} {r : UInt64} {G : List Nat} {e' : Eng} (hi : i < lnOf P.big) (hp : ps[i]? = some p)
  (hN : Nd w' p P.big d (P.blk i) (P.nkey i) (P.nlast i) r e' G) (hG : ∀ x, x ∈ G → x ∈ F i ∨ wr.heap.size ≤ x) (hb : But (F i) wr w') :
  WIn w w' H h P d a b c A cap ps F0 (fun j => if j = i then G else F j) t (fun j => if j = i then e' else e j) L k Ab Ar cb cr := by
 have hnd := hh.hs.nds
 have hH : H ≤ wr.heap.size := Nat.le_trans hh.hs.low (Nat.le_of_lt hh.hs.blk.lt)
 have sub : ∀ x, x ∈ F i → x ∈ hsB h (lnOf P.big) F0 ∨ w.heap.size ≤ x := fun x hx => by
  rcases hh.fin i hi x hx with h1 | h1
  ·exact .inl (mem_hsB.2 (.inr ⟨i, hi, h1⟩))
  ·exact .inr h1
 have old : ∀ j, j < lnOf P.big → ∀ x, x ∈ F j → x < wr.heap.size := fun j hj x hx => by obtain ⟨q, s, -, h2⟩ := hnd.node j hj; exact h2.lt x hx
 have nin : ∀ {x : Nat}, x < wr.heap.size → x ∉ F i → x ∉ G := fun h1 h2 h3 => by
  rcases hG _ h3 with h4 | h4
  ·exact h2 h4
  ·omega
 refine ⟨⟨hh.hs.blk.but hb (hh.hs.fh i hi), ⟨hnd.row.but hb (hnd.fa i hi), hnd.len, fun j hj => ?_, fun j hj x hx => ?_, fun j l hj hl hjl x hx hx2 => ?_, fun j hj x hx => ?_⟩, fun j hj => ?_, hh.hs.ah, hh.hs.low, hh.hs.set_.below (hb.toBelow hH (fun x hx => hnd.low i hi x hx))⟩, hh.le, hh.fit, hh.cr_, ?_, hh.bl, fun j hj x hx => ?_, ?_⟩
 ·show ∃ q s, _ ∧ Nd _ _ _ _ _ _ _ _ (if j = i then e' else e j) (if j = i then G else F j)
  by_cases e1 : j = i
  ·subst e1; rw [if_pos rfl, if_pos rfl]; exact ⟨p, r, hp, hN⟩
  ·rw [if_neg e1, if_neg e1]
   obtain ⟨q, s, h1, h2⟩ := hnd.node j hj
   exact ⟨q, s, h1, h2.but hb (fun x hx => hnd.far j i hj hi e1 x hx)⟩
 ·change x ∈ (if j = i then G else F j) at hx
  by_cases e1 : j = i
  ·rw [if_pos e1] at hx
   rcases hG x hx with h1 | h1
   ·exact hnd.low i hi x h1
   ·omega
  ·rw [if_neg e1] at hx; exact hnd.low j hj x hx
 ·change x ∈ (if j = i then G else F j) at hx
  change x ∈ (if l = i then G else F l) at hx2
  by_cases e1 : j = i
  ·rw [if_pos e1] at hx
   rw [if_neg (by omega)] at hx2
   exact nin (old l hl x hx2) (hnd.far l i hl hi (by omega) x hx2) hx
  ·rw [if_neg e1] at hx
   by_cases e2 : l = i
   ·rw [if_pos e2] at hx2
    exact nin (old j hj x hx) (hnd.far j i hj hi e1 x hx) hx2
   ·rw [if_neg e2] at hx2
    exact hnd.far j l hj hl hjl x hx hx2
 ·show x.block ∉ (if j = i then G else F j)
  by_cases e1 : j = i
  ·rw [if_pos e1]; exact nin (hnd.row.block_lt x hx).2 (hnd.fa i hi x hx)
  ·rw [if_neg e1]; exact hnd.fa j hj x hx
 ·show h ∉ (if j = i then G else F j)
  by_cases e1 : j = i
  ·rw [if_pos e1]; exact nin hh.hs.blk.lt (hh.hs.fh i hi)
  ·rw [if_neg e1]; exact hh.hs.fh j hj
 ·exact hh.rs.but hh.but.size hb (fun x hx => (hh.at_ hf hlt x hx).2 i hi)
 ·change x ∈ (if j = i then G else F j) at hx
  by_cases e1 : j = i
  ·rw [if_pos e1] at hx
   subst e1
   rcases hG x hx with h1 | h1
   ·exact hh.fin j hj x h1
   ·exact .inr (Nat.le_trans hh.but.size h1)
  ·rw [if_neg e1] at hx; exact hh.fin j hj x hx
 ·exact hh.but.trans hb sub
theorem WIn.took (hh : WIn w wr H h P d a b c A cap ps F0 F t e L k Ab Ar cb cr) (hf : L ≠ [] → ∀ x, Ab = some x → x.block ∉ hsB h (lnOf P.big) F0) (hlt : L.drop k ≠ []) (t' : Nat) : WIn w (wr.setCell ⟨h, 9, none⟩ (.int .u64 t')) H h P d a b c A cap ps F0 F t' e L k Ab Ar cb cr :=
 ⟨⟨hh.hs.blk.set_ 9 (.int .u64 t'), hh.hs.nds.setFar (p := ⟨h, 9, none⟩) hh.hs.fh hh.hs.ah _, hh.hs.fh, hh.hs.ah, hh.hs.low, hh.hs.set_.below ((Below.refl H wr).setCell (p := ⟨h, 9, none⟩) hh.hs.low _)⟩, hh.le, hh.fit, hh.cr_,
  hh.rs.but hh.but.size ((But.refl [h] wr).setCell (p := ⟨h, 9, none⟩) (.inl (by simp)) _) (fun x hx => by simp; exact (hh.at_ hf hlt x hx).1), hh.bl, hh.fin, hh.but.setCell (p := ⟨h, 9, none⟩) (.inl (mem_hsB.2 (.inl rfl))) _⟩
theorem WIn.cut (hh : WIn w wr H h P d a b c A cap ps F0 F t e L k Ab Ar cb cr) {m : Nat} (hm : m ≤ L.length - k) : WIn w wr H h P d a b c A cap ps F0 F t e L (k + m) Ab (if cr = m then Ar else Ar.map (·.add m)) cb (cr - m) := by
 have hl := hh.le
 have hf := hh.fit
 have hc := hh.cr_
 refine ⟨hh.hs, by omega, by omega, by omega, ?_, ?_, hh.fin, hh.but⟩
 ·have h1 := hh.rs.cut (k := m) (cap := cr) (by rw [List.length_drop]; exact hm) (by rw [List.length_drop]; exact hf)
  rw [List.drop_drop] at h1
  exact h1
 ·rw [← hh.bl]
  split
  ·rfl
  ·cases Ar with
   | none => rfl
   | some x => show some (x.add m).block = some x.block; rw [block_of_add]
end
def lnV : Value → Nat
  | .slice _ n _ => n
  | _ => 0
theorem wnums (big : Bool) (x : Nat) : ∃ q p i at_ : Nat, (((x % 18446744073709551616 : Nat) : Int) % 512 = (at_ : Int) ∧ ((x % 18446744073709551616 : Nat) : Int).tmod 512 = (at_ : Int) ∧ IntKind.i64.wrap (at_ : Int) = at_) ∧
  ((at_ : Int) % ((blOf big : Nat) : Int) = q ∧ (at_ : Int).tmod ((blOf big : Nat) : Int) = q ∧ ((blOf big : Nat) : Int) - (q : Int) = p ∧ (at_ : Int) / ((blOf big : Nat) : Int) = i ∧ (at_ : Int).tdiv ((blOf big : Nat) : Int) = i) ∧
  (q < blOf big ∧ 0 < p ∧ p ≤ 128 ∧ i < lnOf big ∧ i = x / blOf big % lnOf big ∧ ∀ y, y < p → (x + y) / blOf big = x / blOf big) ∧ at_ < 512 ∧ x % 18446744073709551616 < 18446744073709551616 := by
 obtain ⟨f1, f2, f3, f4⟩ := taken_facts big x
 have hl := lnOf_pos big
 have hq := Nat.mod_lt x f3
 obtain ⟨z, hz⟩ : ∃ z, z = x % 18446744073709551616 := ⟨_, rfl⟩
 have hz2 : z < 18446744073709551616 := by rw [hz]; exact Nat.mod_lt _ (by decide)
 rw [← hz] at f1 f2 ⊢
 have hat : z % 512 < 512 := Nat.mod_lt _ (by decide)
 refine ⟨x % blOf big, blOf big - x % blOf big, x / blOf big % lnOf big, z % 512, ⟨rfl, rfl, ?_⟩, ⟨?_, ?_, by omega, ?_, ?_⟩, ⟨hq, by omega, by omega, Nat.mod_lt _ (by omega), rfl, fun y hy => ?_⟩, hat, hz2⟩
 ·clear f1 f2 hz
  generalize z % 512 = v at *
  simp [IntKind.wrap, IntKind.bits, IntKind.signed]; omega
 ·rw [← f2]; rfl
 ·rw [← f2]; rfl
 ·rw [← f1]; rfl
 ·rw [← f1]; rfl
 ·have h2 := Nat.div_add_mod x (blOf big)
  rw [Nat.div_eq_iff f3]
  rw [Nat.mul_comm] at h2
  generalize x / blOf big = u at *
  generalize x % blOf big = v at *
  constructor <;> omega
theorem wtook (x m : Nat) (hm : m ≤ 128) : IntKind.u64.wrap (((x % 18446744073709551616 : Nat) : Int) + (m : Int)) = (((x + m) % 18446744073709551616 : Nat) : Int) ∧ IntKind.u64.wrap (m : Int) = m := by
 constructor <;> (simp only [IntKind.wrap, IntKind.bits, IntKind.signed]; simp; try omega)
theorem all8_any (big : Bool) (most : Nat) (w : World) : Calls Tryz.prog 21 #[.agg #[.int .i64 (lnOf big : Nat), .int .i64 (blOf big : Nat), .int .i64 most]] w fun r w' => r = .returned (.int .i64 512) ∧ Below w.heap.size w w' := by
 have hm : ((lnOf big : Nat) : Int) * ((blOf big : Nat) : Int) = 512 := by cases big <;> rfl
 generalize lnOf big = n at *
 generalize blOf big = k at *
 go_enter Tryz.func21, Tryz.ntmps21
 go_wp2
 exact bodyPost_ret (results_tmp rfl _ _ _) rfl ⟨rfl, bal (b0 _) _⟩
theorem lnewErr_any (P : LP) (sk ss sp sd : Sl) (w : World) (h : LIn w P sk ss sp sd) (he : P.err ≠ 0) :
  Calls Tryz.prog 5 #[.int .i64 (kOf P.big), .int .i64 P.digest, .slice sk.A sk.n sk.c, .slice ss.A ss.n ss.c, .slice sp.A sp.n sp.c] w fun r w' => r = .returned (.tuple #[.pointer none, .int .i64 P.err]) ∧ Below w.heap.size w w' := by
 have hs := lset_any P sk ss sp sd w h
 have te : (P.err != 0) = true := by simpa using he
 generalize P.err = E at *
 have HS := Lib.hid hs; clear hs h he
 go_enter Tryz.func5, Tryz.ntmps5
 go_wp2_with fail
 refine HS.out.mono ?_
 rintro e w1 ⟨a, b, c, rfl, -, -, -, -, -, -, hb1⟩
 unfold setC
 go_wp2_with fail
 exact bodyPost_ret (results_tmp2 rfl _ _ _) rfl ⟨rfl, bal (bcall (b0 w) hb1) _⟩
theorem lnewKind_any (k : Int) (d a b c : Value) (h1 : k ≠ 1) (h2 : k ≠ 2) (w : World) :
  Calls Tryz.prog 5 #[.int .i64 k, d, a, b, c] w fun r w' => r = .returned (.tuple #[.pointer none, .int .i64 1]) ∧ Below w.heap.size w w' := by
 have hs := fun W => set_none k d a b c h1 h2 W
 have HS := Lib.hid hs; clear hs
 go_enter Tryz.func5, Tryz.ntmps5
 go_wp2_with fail
 refine (HS.out _).mono ?_
 rintro e w1 ⟨rfl, hb1⟩
 unfold zset
 go_wp2_with fail
 exact bodyPost_ret (results_tmp2 rfl _ _ _) rfl ⟨rfl, bal (bcall (b0 w) hb1) _⟩
def LP.dig (P : LP) : List UInt8 := (((P.eng0 (lnOf P.big)).feed (catTo (P.outOf (P.engs P.data)) (lnOf P.big))).out true).take P.digest.toNat
theorem LP.dig_len (P : LP) (he : P.err = 0) : (P.dig.length : Int) = P.digest := by
 obtain ⟨d, h1, h2, h3⟩ := LP.err_dig he
 unfold LP.dig
 rw [List.length_take, Eng.out_len, Eng.feed_full]
 unfold LP.eng0
 rw [startK_full, h1]
 show ((min d _ : Nat) : Int) = _
 rw [Nat.min_eq_left h3]
end Go.Proofs.YtghpofnaojbbkaaGreat

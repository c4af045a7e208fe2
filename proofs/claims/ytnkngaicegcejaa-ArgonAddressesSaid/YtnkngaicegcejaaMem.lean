/-
  Slices as lists, over any element type of one cell: what a slice reads as ('RS'), what a slice of the call's own holds ('OS'), and append and make in these words. Lemmas alone; no statement is claimed here.
-/
import Derived.Test.YtnkngaicegcejaaBase
namespace Go.Proofs.Ytnkngaicegcejaa
open Go.RowKit

/-- an element type of one cell: its number, its slice type's number, its bytes, how an element stands in a cell -/
structure Cod (α : Type) where
  e : TypeId
  sl : TypeId
  bytes : Nat
  zero : Value
  enc : α → Value

structure Cod.Ok {α : Type} (cd : Cod α) (P : Program) : Prop where
  under : P.underlying cd.sl = some (.slice cd.e)
  info : (P.info? cd.e).map (fun i => (i.zero, i.size, i.bytes)) = some (some cd.zero, 1, cd.bytes)
  zcell : cd.zero.cells = #[cd.zero]
  one : ∀ x, (cd.enc x).oneCell' = true

/-- numbers as they stand in memory: words that the walk does not look into -/
def byt (c : UInt8) : Int := (c.toNat : Int)
def wrd (c : UInt64) : Int := (c.toNat : Int)
theorem byt_range (c : UInt8) : 0 ≤ byt c ∧ byt c ≤ 255 := by unfold byt; have := c.toNat_lt; omega
theorem byt_inj {c d : UInt8} (h : byt c = byt d) : c = d := by unfold byt at h; exact UInt8.toNat_inj.1 (by omega)
theorem wrd_inj {c d : UInt64} (h : wrd c = wrd d) : c = d := by unfold wrd at h; exact UInt64.toNat_inj.1 (by omega)
theorem wrd_lo (c : UInt64) : 0 ≤ wrd c := by unfold wrd; omega

theorem byt_xor (x y : UInt8) : bits .xor .u8 (byt x) (byt y) = byt (x ^^^ y) := by
  unfold byt
  rw [u8_xor_nat _ _ x.toNat_lt y.toNat_lt, UInt8.toNat_xor]
theorem byt_lt (x : UInt8) : x.toNat < 256 := x.toNat_lt

def cB : Cod UInt8 := ⟨5, 22, 1, .int .u8 0, fun c => .int .u8 (byt c)⟩

/-- slice A of n = l.length elements reads as l, in blocks below B -/
def RS {α : Type} (cd : Cod α) (w : World) (B : Nat) (A : Option Addr) (l : List α) : Prop := Reads w B 1 A l.length (l.map cd.enc)

/-- the slice (A, l.length, c) is a row of the call's own (blocks from base on) and holds l -/
def OS {α : Type} (cd : Cod α) (w : World) (base : Nat) (A : Option Addr) (c : Nat) (l : List α) : Prop :=
  w.ownsRow base cd.e 1 (.slice A l.length c) l.length (l.map cd.enc)

section
variable {α : Type} {cd : Cod α} {w w' : World} {B B' base : Nat} {A : Option Addr} {c : Nat} {l m : List α}

theorem RS.nil (A : Option Addr) : RS cd w B A [] := ⟨by simp, fun h => absurd h (by simp)⟩
theorem RS.below (h : RS cd w B A l) (hb : Below B w w') : RS cd w' B A l := Reads.below h hb
theorem RS.keep (h : RS cd w B A l) (hk : ∀ p : Addr, p.block < B → w'.cell? p = w.cell? p) : RS cd w' B A l := Reads.keep h hk
theorem RS.more (h : RS cd w B A l) (hB : B ≤ B') : RS cd w B' A l := Reads.more h hB
theorem RS.drewN (h : RS cd w B A l) (k : Nat) : RS cd (w.drewN k) B A l := h
theorem RS.drew (h : RS cd w B A l) : RS cd w.drew B A l := h
theorem RS.alloc (h : RS cd w B A l) (hB : B ≤ w.heap.size) (o : Obj) : RS cd (w.alloc o) B A l := Reads.alloc h hB o
theorem RS.setCell (h : RS cd w B A l) {p : Addr} (hB : B ≤ p.block) (u : Value) : RS cd (w.setCell p u) B A l := Reads.setCell h hB u
theorem RS.grown (h : RS cd w B A l) {row : Option Nat} (hg : w.grownBy w' row) (hB : B ≤ w.heap.size) (hr : ∀ g, row = some g → B ≤ g) : RS cd w' B A l := Reads.grown h hg hB hr
theorem RS.at_ (h : RS cd w B A l) {k : Nat} (hk : k < l.length) : ∃ ad x, A = some ad ∧ ad.block < B ∧ l[k]? = some x ∧ w.cell? (ad.add k) = some (cd.enc x) := by
  obtain ⟨ad, e, hb, hc⟩ := h.2 (by omega)
  refine ⟨ad, l[k], e, hb, List.getElem?_eq_getElem hk, hc k _ ?_⟩
  simp [List.getElem?_map, List.getElem?_eq_getElem hk]
theorem RS.cut (h : RS cd w B A l) {k cap : Nat} (hk : k ≤ l.length) (hc : l.length ≤ cap) :
    RS cd w B (if cap = k then A else A.map (·.add k)) (l.drop k) := by
  have := Reads.cut (k := k) h hk hc
  unfold RS
  rw [List.length_drop, List.map_drop]
  simpa using this
theorem RS.take (h : RS cd w B A l) (k : Nat) : RS cd w B A (l.take k) := by
  refine ⟨by simp, fun hn => ?_⟩
  obtain ⟨ad, e, hb, hc⟩ := h.2 (by simp at hn; omega)
  refine ⟨ad, e, hb, fun j u hu => hc j u ?_⟩
  rw [List.map_take, List.getElem?_take] at hu
  split at hu
  · exact hu
  · cases hu
theorem RS.one (w : World) (x : α) : RS cd (w.alloc (.cells #[cd.enc x] cd.e)) (w.heap.size + 1) (some ⟨w.heap.size, 0, none⟩) [x] := by
  refine ⟨by simp, fun _ => ⟨_, rfl, by simp, fun j u hu => ?_⟩⟩
  exact cell_one_new w _ _ j u (by simpa using hu)
/-- one element that stands in a new block -/
theorem RS.one' {w1 : World} {g : Nat} {x : α} (h : w1.cell? ⟨g, 0, none⟩ = some (cd.enc x)) : RS cd w1 (g + 1) (some ⟨g, 0, none⟩) [x] := by
  refine ⟨by simp, fun _ => ⟨_, rfl, by simp, fun j u hu => ?_⟩⟩
  match j, hu with
  | 0, hu => simp at hu; subst hu; simpa [Addr.add] using h
  | j + 1, hu => simp at hu

theorem OS.nil (w : World) (base c : Nat) (hc : c = 0) : OS cd w base none c [] := by subst hc; exact World.ownsRow_nil w base cd.e 1
theorem OS.form (h : OS cd w base A c l) : (A = none ∧ c = 0 ∧ l = []) ∨ ∃ g, A = some ⟨g, 0, none⟩ ∧ base ≤ g ∧ g < w.heap.size ∧ l.length ≤ c ∧ c ≤ maxLen := by
  rcases h.2 with ⟨hv, hn⟩ | ⟨g, cap, cur, hv, hb, hg, hle, hm, _⟩
  · injection hv with h1 h2 h3
    exact .inl ⟨h1, h3, List.eq_nil_of_length_eq_zero hn⟩
  · injection hv with h1 h2 h3
    subst h1; subst h3
    exact .inr ⟨g, rfl, hb, (Array.getElem?_eq_some_iff.1 hg).1, hle, hm⟩
theorem OS.len_le (h : OS cd w base A c l) : l.length ≤ c ∧ c ≤ maxLen := by
  rcases h.form with ⟨_, rfl, rfl⟩ | ⟨_, _, _, _, h1, h2⟩
  · simp
  · exact ⟨h1, h2⟩
theorem OS.reads (h : OS cd w base A c l) : RS cd w w.heap.size A l := Reads.of_own h
theorem OS.block_lt (h : OS cd w base A c l) : ∀ a, A = some a → base ≤ a.block ∧ a.block < w.heap.size := by
  intro a ha
  rcases h.form with ⟨h0, _⟩ | ⟨g, hg, hb, hl, _⟩
  · rw [h0] at ha; cases ha
  · rw [hg] at ha; injection ha with ha; subst ha; exact ⟨hb, hl⟩
theorem OS.kept {row : Option Nat} (h : OS cd w base A c l) (hg : w.grownBy w' row) (hne : ∀ a, A = some a → row ≠ some a.block) : OS cd w' base A c l := by
  refine World.ownsRow.kept h hg ?_
  cases A with
  | none => exact .inl rfl
  | some a => exact .inr (fun e => hne a rfl (by rw [← e]; rfl))
theorem OS.alloc (h : OS cd w base A c l) (o : Obj) : OS cd (w.alloc o) base A c l := World.ownsRow.alloc h o
theorem OS.drew (h : OS cd w base A c l) : OS cd w.drew base A c l := h
theorem OS.drewN (h : OS cd w base A c l) (k : Nat) : OS cd (w.drewN k) base A c l := h
theorem OS.of_block (h : OS cd w base A c l) (hb : ∀ a, A = some a → w'.heap[a.block]? = w.heap[a.block]?) : OS cd w' base A c l := by
  obtain ⟨h1, h2⟩ := h
  refine ⟨h1, ?_⟩
  rcases h2 with h2 | ⟨g, cap, cur, hv, hg, hh, r⟩
  · exact .inl h2
  · refine .inr ⟨g, cap, cur, hv, hg, ?_, r⟩
    injection hv with hv
    rw [hb _ hv]; exact hh
theorem OS.below (h : OS cd w base A c l) (hb : Below B w w') (hB : w.heap.size ≤ B) : OS cd w' base A c l :=
  h.of_block fun a ha => hb.block _ (Nat.lt_of_lt_of_le (h.block_lt a ha).2 hB)
theorem OS.setFar (h : OS cd w base A c l) {p : Addr} (hp : ∀ a, A = some a → a.block ≠ p.block) (u : Value) : OS cd (w.setCell p u) base A c l :=
  h.of_block fun a ha => Below.heap_setCell w p u _ (hp a ha)
theorem OS.mono (h : OS cd w base A c l) (hb : B ≤ base) : OS cd w B A c l := by
  obtain ⟨h1, h2⟩ := h
  refine ⟨h1, ?_⟩
  rcases h2 with h2 | ⟨g, cap, cur, hv, hg, r⟩
  · exact .inl h2
  · exact .inr ⟨g, cap, cur, hv, by omega, r⟩
theorem OS.take (h : OS cd w base A c l) (k : Nat) (hk : k ≤ l.length) : OS cd w base A c (l.take k) := by
  obtain ⟨h1, h2⟩ := h
  have hlen : (l.take k).length = k := by simp; omega
  refine ⟨by simp, ?_⟩
  rcases h2 with ⟨hv, hn⟩ | ⟨g, cap, cur, hv, hb, hg, hle, hm, hs, ht⟩
  · have hl : l = [] := List.eq_nil_of_length_eq_zero hn
    subst hl
    exact .inl ⟨by simpa using hv, by simp⟩
  · refine .inr ⟨g, cap, cur, ?_, hb, hg, by rw [hlen]; omega, hm, hs, ?_⟩
    · injection hv with h1 h2 h3
      rw [h1, h3]
    · rw [hlen, List.map_take, ← ht, List.take_take]
      congr 1
      omega
/-- a cell of a row of one's own, and that it may be written -/
theorem OS.at_ (h : OS cd w base A c l) {k : Nat} (hk : k < l.length) : ∃ g x, A = some ⟨g, 0, none⟩ ∧ base ≤ g ∧ g < w.heap.size ∧ l[k]? = some x ∧ w.cell? ⟨g, k, none⟩ = some (cd.enc x) ∧ w.frozen? ⟨g, k, none⟩ = false := by
  rcases h.form with ⟨_, _, rfl⟩ | ⟨g, rfl, hb, hl, _⟩
  · simp at hk
  · refine ⟨g, l[k], rfl, hb, hl, List.getElem?_eq_getElem hk, ?_, World.ownsRow.frozenAt h k⟩
    rw [World.ownsRow.cellAt h k (by omega)]
    simp [List.getElem?_map, List.getElem?_eq_getElem hk]
theorem OS.set {g : Nat} (h : OS cd w base (some ⟨g, 0, none⟩) c l) (k : Nat) (x : α) : OS cd (w.setCell ⟨g, k, none⟩ (cd.enc x)) base (some ⟨g, 0, none⟩) c (l.set k x) := by
  by_cases hk : k < l.length
  · have := World.ownsRow.stored h k (cd.enc x)
    unfold OS
    rw [List.length_set, List.map_set]
    exact this.1
  · rw [List.set_eq_of_length_le (by omega)]
    obtain ⟨h1, h2⟩ := h
    refine ⟨h1, ?_⟩
    rcases h2 with ⟨hv, _⟩ | ⟨g', cap, cur, hv, hb, hg, hle, hm, hs, ht⟩
    · cases hv
    · injection hv with hv _ hc
      injection hv with hv
      injection hv with hv
      subst hv; subst hc
      refine .inr ⟨g, c, cur.setIfInBounds k (cd.enc x), rfl, hb, ?_, hle, hm, by simpa using hs, ?_⟩
      · simp [World.setCell, Array.getElem?_modify, hg]
      · rw [← ht, Array.toList_setIfInBounds, List.take_set_of_le (by omega)]
/-- what make has laid: n zeros -/
theorem OS.made (w : World) (n c : Nat) (z : α) (hz : cd.enc z = cd.zero) (hn : n ≤ c) (hc : c ≤ maxLen) (hb : base ≤ w.heap.size) :
    OS cd (w.alloc (.cells (madeCells #[cd.zero] c) cd.e)) base (some ⟨w.heap.size, 0, none⟩) c (List.replicate n z) := by
  refine ⟨by simp, .inr ⟨w.heap.size, c, _, by simp, hb, heap_alloc_new w _, by simpa using hn, hc, by simp [madeCells], ?_⟩⟩
  rw [toList_madeCells_one]
  simp [List.take_replicate, hz]
  omega
end

theorem OS.madeAt {α : Type} {cd : Cod α} {base g : Nat} (w : World) (n c : Nat) (z : α) (hz : cd.enc z = cd.zero) (hn : n ≤ c) (hc : c ≤ maxLen) (hb : base ≤ w.heap.size) (hg : w.heap.size = g) :
    OS cd (w.alloc (.cells (madeCells #[cd.zero] c) cd.e)) base (some ⟨g, 0, none⟩) c (List.replicate n z) := by
  subst hg; exact OS.made w n c z hz hn hc hb

section
variable {P : Program} (w : World) {α : Type} {cd : Cod α}

theorem run_appS (hok : cd.Ok P) {ty : TypeId} {base : Nat} {A : Option Addr} {c : Nat} {l : List α} (hown : OS cd w base A c l) {B : Nat} {A' : Option Addr} {c' : Nat} {m : List α} (hr : RS cd w B A' m)
    (hbytes : (l.length + m.length) * cd.bytes ≤ 140737488355328) (hlen : l.length + m.length ≤ 140737488355328) (hbase : base ≤ w.heap.size) :
    ∃ A1 c1 w1, (Builtin.append_ #[cd.sl, cd.sl] ty #[.slice A l.length c, .slice A' m.length c']).run P w = .ok (.slice A1 (l.length + m.length) c1) w1 ∧ OS cd w1 base A1 c1 (l ++ m) ∧ w.grownBy w1 (A.map (·.block)) ∧
      (A1.map (·.block) = A.map (·.block) ∨ A1.map (·.block) = some w.heap.size) := by
  obtain ⟨i, hi, hz, hz1, hz2⟩ := info_parts hok.info
  obtain ⟨v', w', h1, h2, h3, h4⟩ := run_append_any (P := P) w base cd.sl ty cd.e i cd.zero 1 cd.bytes hok.under hi hz hz1 hz2 (by rw [hok.zcell]; rfl) (by omega) _ _ _ hown B A' m.length c' _ hr
    (by intro u hu; simp only [List.mem_map] at hu; obtain ⟨x, _, rfl⟩ := hu; exact hok.one x) (by simp only [maxLen]; omega) hbytes hbase
  have hob : (Value.slice A l.length c).ownBlock = A.map (·.block) := by cases A <;> rfl
  rw [hob] at h3 h4
  have hv : ∃ A1 c1, v' = .slice A1 (l.length + m.length) c1 := by
    rcases h2.2 with ⟨rfl, h0⟩ | ⟨g, cap, cur, rfl, _⟩
    · exact ⟨none, 0, by rw [h0]⟩
    · exact ⟨_, _, rfl⟩
  obtain ⟨A1, c1, rfl⟩ := hv
  have hob1 : (Value.slice A1 (l.length + m.length) c1).ownBlock = A1.map (·.block) := by cases A1 <;> rfl
  rw [hob1] at h4
  refine ⟨A1, c1, w', h1, ?_, h3, h4⟩
  unfold OS
  rw [List.length_append, List.map_append]
  exact h2

theorem wp_appS (hok : cd.Ok P) {o : Oper} {a : Act} {K : Act → World → Prop} {Q : Exit → Act → World → Prop} (s x : Operand)
    (ho : o.op = .call { callee := .builtin .append, args := #[s, x], argTypes := #[cd.sl, cd.sl] })
    {base : Nat} {A : Option Addr} {c n : Nat} {l : List α} (hown : OS cd w base A c l) (hs : a.eval s = .slice A n c) (hn : l.length = n) {B : Nat} {A' : Option Addr} {c' n' : Nat} {m : List α} (hr : RS cd w B A' m) (hx : a.eval x = .slice A' n' c') (hn' : m.length = n')
    (hbytes : (n + n') * cd.bytes ≤ 140737488355328) (hlen : n + n' ≤ 140737488355328) (hbase : base ≤ w.heap.size)
    (h : ∀ A1 c1 w1, OS cd w1 base A1 c1 (l ++ m) → w.grownBy w1 (A.map (·.block)) → (A1.map (·.block) = A.map (·.block) ∨ A1.map (·.block) = some w.heap.size) → K (a.put o.dst (.slice A1 (n + n') c1)) w1) : o.wp P a w K Q := by
  subst hn; subst hn'
  obtain ⟨A1, c1, w1, hrun, h2, h3, h4⟩ := run_appS (P := P) w hok (ty := o.type) hown hr hbytes hlen hbase
  unfold Oper.wp execOp
  simp only [ho, resolve, invoke, builtin, Sem.run_bind, Sem.run_pure, Result.andThen_ok, List.map_toArray, List.map_cons, List.map_nil, hs, hx]
  rw [hrun]
  exact h A1 c1 w1 h2 h3 h4

theorem wpList_appS (hok : cd.Ok P) {ops : Array Oper} {rest : List Oper} {o : Oper} {a : Act} {Q : Exit → Act → World → Prop} (hgd : o.guard = none) (s x : Operand)
    (ho : o.op = .call { callee := .builtin .append, args := #[s, x], argTypes := #[cd.sl, cd.sl] })
    {base : Nat} {A : Option Addr} {c n : Nat} {l : List α} (hown : OS cd w base A c l) (hs : a.eval s = .slice A n c) (hn : l.length = n) {B : Nat} {A' : Option Addr} {c' n' : Nat} {m : List α} (hr : RS cd w B A' m) (hx : a.eval x = .slice A' n' c') (hn' : m.length = n')
    (hbytes : (n + n') * cd.bytes ≤ 140737488355328) (hlen : n + n' ≤ 140737488355328) (hbase : base ≤ w.heap.size)
    (h : ∀ A1 c1 w1, OS cd w1 base A1 c1 (l ++ m) → w.grownBy w1 (A.map (·.block)) → (A1.map (·.block) = A.map (·.block) ∨ A1.map (·.block) = some w.heap.size) → wpList P ops Q rest (a.put o.dst (.slice A1 (n + n') c1)) w1) : wpList P ops Q (o :: rest) a w :=
  wpList_plain hgd fun _ hK => wp_appS w hok s x ho hown hs hn hr hx hn' hbytes hlen hbase fun A1 c1 w1 h2 h3 h4 => hK _ _ (h A1 c1 w1 h2 h3 h4)

theorem step_appS (hok : cd.Ok P) {ops : Array Oper} {o : Oper} {a : Act} {K : Act → World → Prop} {Q : Exit → Act → World → Prop} {E : Prop} (hgd : o.guard = none) (s x : Operand)
    (ho : o.op = .call { callee := .builtin .append, args := #[s, x], argTypes := #[cd.sl, cd.sl] })
    {base : Nat} {A : Option Addr} {c n : Nat} {l : List α} (hown : OS cd w base A c l) (hs : a.eval s = .slice A n c) (hn : l.length = n) {B : Nat} {A' : Option Addr} {c' n' : Nat} {m : List α} (hr : RS cd w B A' m) (hx : a.eval x = .slice A' n' c') (hn' : m.length = n')
    (hbytes : (n + n') * cd.bytes ≤ 140737488355328) (hlen : n + n' ≤ 140737488355328) (hbase : base ≤ w.heap.size)
    (h : ∀ A1 c1 w1, OS cd w1 base A1 c1 (l ++ m) → w.grownBy w1 (A.map (·.block)) → (A1.map (·.block) = A.map (·.block) ∨ A1.map (·.block) = some w.heap.size) → K (a.put o.dst (.slice A1 (n + n') c1)) w1) :
    if Region.wanted o (yielded ops a.tmps) = true then Oper.wp P o a w K Q else E := by
  have hw : Region.wanted o (yielded ops a.tmps) = true := by simp [Region.wanted, hgd]
  rw [if_pos hw]
  exact wp_appS w hok s x ho hown hs hn hr hx hn' hbytes hlen hbase h
end

theorem run_makeS {P : Program} {α : Type} {cd : Cod α} (hok : cd.Ok P) (kl kc : IntKind) (n c : Nat) (hnc : n ≤ c) (hbytes : cd.bytes * c ≤ 281474976710656) (h63 : c ≤ 9223372036854775807) (w : World) :
    (Instr.makeSlice cd.sl (.int kl (n : Int)) (.int kc (c : Int))).run P w = .ok (.slice (some ⟨w.heap.size, 0, none⟩) n c) (w.alloc (.cells (madeCells #[cd.zero] c) cd.e)) := by
  obtain ⟨i, hi, hz, hz1, hz2⟩ := info_parts hok.info
  have := run_make_rowN (P := P) cd.sl cd.e i cd.zero hok.under hi hz kl kc n c hnc (by rw [hz2]; exact hbytes) h63 w
  rw [hok.zcell, hz1, Nat.mul_one] at this
  exact this

theorem cB_ok : cB.Ok Try.prog := ⟨Try.underlying22, by kernel_rfl, rfl, fun _ => rfl⟩

theorem Blk.row {w : World} {g : Nat} {t : TypeId} {cs : Array Value} (h : Blk w g t cs) (cs' : Array Value) : Blk (w.setRow g cs') g t cs' := setRow_heap w g cs cs' t _ h
theorem Blk.rowFar {w : World} {g : Nat} {t : TypeId} {cs : Array Value} (h : Blk w g t cs) {k : Nat} (hk : g ≠ k) (cs' : Array Value) : Blk (w.setRow k cs') g t cs := (setRow_other w k g cs' hk).trans h
theorem below_row {B g : Nat} {a w : World} (h : Below B a w) (hg : B ≤ g) (cs : Array Value) : Below B a (w.setRow g cs) :=
  h.trans ⟨rfl, rfl, rfl, by simp, fun k hk => setRow_other w g k cs (by omega)⟩
theorem below_put {B g i : Nat} {a w : World} {u : Value} (h : Below B a w) (hg : B ≤ g) : Below B a (w.setCell ⟨g, i, none⟩ u) := h.setCell (p := ⟨g, i, none⟩) hg u
theorem below_app {α : Type} {cd : Cod α} {B base : Nat} {a w w' : World} {A : Option Addr} {c : Nat} {l : List α} (h : Below B a w) (hown : OS cd w base A c l) (hg : w.grownBy w' (A.map (·.block))) (hB : B ≤ base) (hs : B ≤ w.heap.size) : Below B a w' :=
  h.grown hg hs (by
    intro k hk
    cases A with
    | none => cases hk
    | some ad => simp at hk; rw [← hk]; exact Nat.le_trans hB (hown.block_lt ad rfl).1)

theorem OS.ne_blk {α : Type} {cd : Cod α} {w : World} {base : Nat} {A : Option Addr} {c : Nat} {l : List α} (h : OS cd w base A c l) {g : Nat} {t : TypeId} {cs : Array Value} (hb : Blk w g t cs) (hne : cd.e ≠ t) : ∀ a, A = some a → a.block ≠ g := by
  intro a ha e
  subst ha
  exact own_blk_ne h hb hne (by rw [← e]; rfl)
theorem OS.ne_row {α : Type} {cd : Cod α} {w : World} {base : Nat} {A : Option Addr} {c : Nat} {l : List α} (h : OS cd w base A c l) {g : Nat} {t : TypeId} {cs : Array Value} (hb : Blk w g t cs) (hne : cd.e ≠ t) : some g ≠ A.map (·.block) := by
  intro e
  cases A with
  | none => cases e
  | some a => simp at e; exact h.ne_blk hb hne a rfl e.symm
theorem grown_undrewN {w w' : World} {k : Nat} {row : Option Nat} (h : (w.drewN k).grownBy w' row) : w.grownBy w' row := ⟨h.os, h.tape, h.output, h.size, h.block⟩
theorem grown_undrew {w w' : World} {row : Option Nat} (h : w.drew.grownBy w' row) : w.grownBy w' row := ⟨h.os, h.tape, h.output, h.size, h.block⟩
theorem cell_new (w : World) (x : Value) (t : TypeId) : (w.alloc (.cells #[x] t)).cell? ⟨w.heap.size, 0, none⟩ = some x := World.cell?_alloc_at _ _ _ _ rfl
theorem cell_new_drew (w : World) (x : Value) (t : TypeId) : (w.alloc (.cells #[x] t)).drew.cell? ⟨w.heap.size, 0, none⟩ = some x := World.cell?_alloc_at _ _ _ _ rfl
theorem size_new_drew {w : World} {o : Obj} {B : Nat} (h : B ≤ w.heap.size) : B ≤ (w.alloc o).drew.heap.size := by
  show B ≤ (w.heap.push o).size
  simp; omega
theorem size_new {w : World} {o : Obj} {B : Nat} (h : B ≤ w.heap.size) : B ≤ (w.alloc o).heap.size := by
  show B ≤ (w.heap.push o).size
  simp; omega
/-- a store behind other writes -/
theorem grown_set {a w : World} {R : Option Nat} (h : a.grownBy w R) {p : Addr} (hp : R = some p.block ∨ a.heap.size ≤ p.block) (u : Value) : a.grownBy (w.setCell p u) R :=
  ⟨h.os, h.tape, h.output, by simpa [World.setCell] using h.size, fun i hi hne => (Below.heap_setCell w p u i (by
    rintro rfl
    rcases hp with hp | hp
    · exact hne hp.symm
    · omega)).trans (h.block i hi hne)⟩
/-- an append behind other writes: rows that are not the first one's, and not new, are as they were -/
theorem grown_app {α : Type} {cd : Cod α} {base : Nat} {a w w' : World} {R : Option Nat} {A : Option Addr} {c : Nat} {l : List α} (h : a.grownBy w R) (_hown : OS cd w base A c l) (hA : ∀ ad, A = some ad → R = some ad.block ∨ a.heap.size ≤ ad.block)
    (hg : w.grownBy w' (A.map (·.block))) : a.grownBy w' R :=
  ⟨hg.os.trans h.os, hg.tape.trans h.tape, hg.output.trans h.output, Nat.le_trans h.size hg.size, fun k hk hne => by
    refine (hg.block k (Nat.lt_of_lt_of_le hk h.size) ?_).trans (h.block k hk hne)
    cases A with
    | none => intro e; cases e
    | some ad =>
      intro e
      simp at e
      rcases hA ad rfl with h1 | h1
      · exact hne (by rw [h1, e])
      · omega⟩

section
variable (w : World) {ops : Array Oper} {rest : List Oper} {o : Oper} {a : Act} {Q : Exit → Act → World → Prop} {base : Nat} {A : Option Addr} {c n : Nat} {l : List UInt8}
/-- append(s, x...) of bytes -/
theorem wpList_appB (hgd : o.guard = none) (s x : Operand)
    (ho : o.op = .call { callee := .builtin .append, args := #[s, x], argTypes := #[22, 22] })
    (hown : OS cB w base A c l) (hs : a.eval s = .slice A n c) (hn : l.length = n) {B : Nat} {A' : Option Addr} {c' n' : Nat} {m : List UInt8} (hr : RS cB w B A' m) (hx : a.eval x = .slice A' n' c') (hn' : m.length = n')
    (hlen : n + n' ≤ 140737488355328) (hbase : base ≤ w.heap.size)
    (h : ∀ A1 c1 w1, OS cB w1 base A1 c1 (l ++ m) → w.grownBy w1 (A.map (·.block)) → (A1.map (·.block) = A.map (·.block) ∨ A1.map (·.block) = some w.heap.size) → wpList Try.prog ops Q rest (a.put o.dst (.slice A1 (n + n') c1)) w1) : wpList Try.prog ops Q (o :: rest) a w :=
  wpList_appS w cB_ok hgd s x ho hown hs hn hr hx hn' (by show (n + n') * 1 ≤ _; omega) hlen hbase h
/-- append(s, x) of one byte -/
theorem wpList_appB1 (hgd : o.guard = none) (s x : Operand)
    (ho : o.op = .call { callee := .builtin .append, args := #[s, x], argTypes := #[22, 22] })
    (hown : OS cB w base A c l) (hs : a.eval s = .slice A n c) (hn : l.length = n) {g : Nat} {X : Int} (hx : a.eval x = .slice (some ⟨g, 0, none⟩) 1 1) (hcell : w.cell? ⟨g, 0, none⟩ = some (.int .u8 X)) (y : UInt8) (hX : X = byt y)
    (hlen : n + 1 ≤ 140737488355328) (hbase : base ≤ w.heap.size)
    (h : ∀ A1 c1 w1, OS cB w1 base A1 c1 (l ++ [y]) → w.grownBy w1 (A.map (·.block)) → (A1.map (·.block) = A.map (·.block) ∨ A1.map (·.block) = some w.heap.size) → wpList Try.prog ops Q rest (a.put o.dst (.slice A1 (n + 1) c1)) w1) : wpList Try.prog ops Q (o :: rest) a w := by
  subst hX
  exact wpList_appS w cB_ok hgd s x ho hown hs hn (RS.one' (cd := cB) hcell) hx rfl (by show (n + 1) * 1 ≤ _; omega) hlen hbase h
variable {K : Act → World → Prop} {E : Prop}
theorem step_appB (hgd : o.guard = none) (s x : Operand)
    (ho : o.op = .call { callee := .builtin .append, args := #[s, x], argTypes := #[22, 22] })
    (hown : OS cB w base A c l) (hs : a.eval s = .slice A n c) (hn : l.length = n) {B : Nat} {A' : Option Addr} {c' n' : Nat} {m : List UInt8} (hr : RS cB w B A' m) (hx : a.eval x = .slice A' n' c') (hn' : m.length = n')
    (hlen : n + n' ≤ 140737488355328) (hbase : base ≤ w.heap.size)
    (h : ∀ A1 c1 w1, OS cB w1 base A1 c1 (l ++ m) → w.grownBy w1 (A.map (·.block)) → (A1.map (·.block) = A.map (·.block) ∨ A1.map (·.block) = some w.heap.size) → K (a.put o.dst (.slice A1 (n + n') c1)) w1) :
    if Region.wanted o (yielded ops a.tmps) = true then Oper.wp Try.prog o a w K Q else E :=
  step_appS w cB_ok hgd s x ho hown hs hn hr hx hn' (by show (n + n') * 1 ≤ _; omega) hlen hbase h
theorem step_appB1 (hgd : o.guard = none) (s x : Operand)
    (ho : o.op = .call { callee := .builtin .append, args := #[s, x], argTypes := #[22, 22] })
    (hown : OS cB w base A c l) (hs : a.eval s = .slice A n c) (hn : l.length = n) {g : Nat} {X : Int} (hx : a.eval x = .slice (some ⟨g, 0, none⟩) 1 1) (hcell : w.cell? ⟨g, 0, none⟩ = some (.int .u8 X)) (y : UInt8) (hX : X = byt y)
    (hlen : n + 1 ≤ 140737488355328) (hbase : base ≤ w.heap.size)
    (h : ∀ A1 c1 w1, OS cB w1 base A1 c1 (l ++ [y]) → w.grownBy w1 (A.map (·.block)) → (A1.map (·.block) = A.map (·.block) ∨ A1.map (·.block) = some w.heap.size) → K (a.put o.dst (.slice A1 (n + 1) c1)) w1) :
    if Region.wanted o (yielded ops a.tmps) = true then Oper.wp Try.prog o a w K Q else E := by
  subst hX
  exact step_appS w cB_ok hgd s x ho hown hs hn (RS.one' (cd := cB) hcell) hx rfl (by show (n + 1) * 1 ≤ _; omega) hlen hbase h
end

end Go.Proofs.Ytnkngaicegcejaa

/-
  Y41: contracts and lemmas alone; no statement is claimed here.
-/
import Derived.Test.YtboihcigcfmhhaaGreatY40
namespace Go.Proofs.YtboihcigcfmhhaaGreat
open _root_.Nat renaming le_of_eq → bZF
open _root_.UInt64 renaming ofNat → bZD
open _root_.Nat renaming zero_le → aZY
open Go.RowKit
attribute [local go_sem] pureUpon Ords.of
theorem tot64 (H : List UInt64) (h1 data : List UInt8) (hH : H.length = 8) (hl : h1.length <= 128) (hd : data.length < 2 ^ 60) : (St64.feed ⟨H, 0, 0, h1⟩ data).lo.toNat + (St64.feed ⟨H, 0, 0, h1⟩ data).held.length = h1.length + data.length := by
 have hok : (⟨H, 0, 0, h1⟩ : St64).Ok := ⟨hH, hl⟩;have hcn : (⟨H, 0, 0, h1⟩ : St64).Cnt h1.length := ⟨by show (0 : UInt64).toNat + h1.length = _; simp, rfl, rfl⟩;exact (St64.Cnt.feed data.length data hok hcn (Nat.le_refl _) (by omega) (.inl rfl)).1.tot
theorem tot32 (H : List UInt32) (h1 data : List UInt8) (hH : H.length = 8) (hl : h1.length <= 64) (hd : data.length < 2 ^ 60) : (St32.feed ⟨H, 0, 0, h1⟩ data).lo.toNat + (St32.feed ⟨H, 0, 0, h1⟩ data).held.length = h1.length + data.length := by
 have hok : (⟨H, 0, 0, h1⟩ : St32).Ok := ⟨hH, hl⟩;have hcn : (⟨H, 0, 0, h1⟩ : St32).Cnt h1.length := ⟨by show (0 : UInt64).toNat + h1.length = _; simp, rfl, rfl⟩;exact (St32.Cnt.feed data.length data hok hcn (Nat.le_refl _) (by omega) (.inl rfl)).1.tot
theorem tot_fed (big : Bool) (x key data : List UInt8) (hk : key.length <= 2 * bOf big) (hd : data.length < 2 ^ 60) :
  ((startK big x key).feed data).lo.toNat + ((startK big x key).feed data).held.length = (if key = [] then 0 else 2 * bOf big) + data.length := by
 have hp := padTo_len key (2 * bOf big) hk
 cases big with
 | true =>
  have hH : (start64 x).length = 8 := start64_len x
  by_cases h : key = []
  ·rw [if_pos h, show startK true x key = .big ⟨start64 x, 0, 0, []⟩ by unfold startK; rw [if_pos h]; rfl]
   exact tot64 (start64 x) [] data hH (aZY _) hd
  ·have e : startK true x key = .big ⟨start64 x, 0, 0, padTo key 128⟩ := by
    unfold startK;rw [if_neg h];exact congrArg Eng.big (St64.feed_small (s := ⟨start64 x, 0, 0, []⟩) ⟨hH, aZY _⟩ rfl (padTo key 128) (bZF hp))
   have h2 := tot64 (start64 x) (padTo key 128) data hH (bZF hp) hd;rw [if_neg h, e];rw [show (padTo key 128).length = 2 * bOf true from hp] at h2;exact h2
 | false =>
  have hH : (start32 x).length = 8 := start32_len x
  by_cases h : key = []
  ·rw [if_pos h, show startK false x key = .small ⟨start32 x, 0, 0, []⟩ by unfold startK; rw [if_pos h]; rfl]
   exact tot32 (start32 x) [] data hH (aZY _) hd
  ·have e : startK false x key = .small ⟨start32 x, 0, 0, padTo key 64⟩ := by
    unfold startK;rw [if_neg h];exact congrArg Eng.small (St32.feed_small (s := ⟨start32 x, 0, 0, []⟩) ⟨hH, aZY _⟩ rfl (padTo key 64) (bZF hp))
   have h2 := tot32 (start32 x) (padTo key 64) data hH (bZF hp) hd;rw [if_neg h, e];rw [show (padTo key 64).length = 2 * bOf false from hp] at h2;exact h2
theorem wr_fed (big : Bool) (x key data : List UInt8) (hk : key.length <= 2 * bOf big) (hd : data.length < 2 ^ 60) :
  wrOf ((startK big x key).feed data).lo ((startK big x key).feed data).held.length key.length (bZD (2 * bOf big)) = bZD data.length := by
 have h := tot_fed big x key data hk hd;generalize (startK big x key).feed data = E at *;have e1 : E.lo + bZD E.held.length = bZD (E.lo.toNat + E.held.length) := by rw [UInt64.ofNat_add, UInt64.ofNat_toNat]
 unfold wrOf;rw [e1, h]
 by_cases hk0 : key = []
 ·rw [if_pos hk0, if_pos (by rw [hk0]; rfl), Nat.zero_add]
 ·rw [if_neg hk0, if_neg (fun e => hk0 (List.eq_nil_of_length_eq_zero e)), UInt64.ofNat_add, UInt64.add_comm, UInt64.add_sub_cancel]
section
variable {w : World} {p : Nat} {m : NPm} {t : NSt} {R F : List Nat}
theorem NX.write (h : NX w p m t R F) (Ab : Option Addr) (nb cb : Nat) (L : List UInt8) (hL : L.length = nb) (hnb : nb <= cb) (hcb : cb <= 9223372036854775807) (hr : RS cB w w.heap.size Ab L) (hfar : L ≠ [] -> ∀ a, Ab = some a -> a.block ∉ F) :
  Calls Tryz.prog 12 #[.pointer (some ⟨p, 0, none⟩), .slice Ab nb cb] w fun r w' => r = .returned (.int .i64 0) /\ ∃ F', NX w' p m ⟨t.last, t.data ++ L⟩ R F' /\ (∀ k, k ∈ F' -> k ∈ F \/ w.heap.size <= k) /\ But F w w' := by
 refine (writeS_any p m.d m.big t.last m.x m.key _ (m.e t.data) R F Ab nb cb L w h hL hnb hcb hr hfar).mono ?_;rintro r w' ⟨e1, F', h1, h2, h3⟩;refine ⟨e1, F', ?_, h2, h3⟩;rw [NPm.feed_, <- UInt64.ofNat_add, <- hL, <- List.length_append] at h1;exact h1
theorem NX.setLast (h : NX w p m t R F) (l : Bool) :
  Calls Tryz.prog 18 #[.pointer (some ⟨p, 0, none⟩), .bool l] w fun r w' => r = .returned (.int .i64 0) /\ NX w' p m ⟨l, t.data⟩ R F /\ But [p] w w' :=
 lastS_any p m.d m.big t.last l m.x m.key _ (m.e t.data) R F w h
theorem NX.sum (h : NX w p m t R F) (hm : m.Ok) :
  Calls Tryz.prog 8 #[.pointer (some ⟨p, 0, none⟩)] w fun r w' => ∃ A' c', r = .returned (.slice A' m.d m.d) /\ OS cB w' w.heap.size A' c' (((m.e t.data).out t.last).take m.d) /\ Below w.heap.size w w' := by
 obtain ⟨F', h1, -⟩ := h.nd;exact sumN_any p m.d m.big t.last m.x m.key _ (m.e t.data) F' w h1 (by rw [NPm.full_]; exact hm.db.2)
theorem NX.out (h : NX w p m t R F) (k : Nat) (hk : 1 <= k /\ k <= bOf m.big) :
  Calls Tryz.prog 33 #[.pointer (some ⟨p, 0, none⟩), .int .i64 k] w fun r w' => ∃ A' c', r = .returned (.tuple #[.slice A' k k, .int .i64 0]) /\ OS cB w' w.heap.size A' c' (((m.e t.data).out t.last).take k) /\ Below w.heap.size w w' := by
 obtain ⟨F', h1, -⟩ := h.nd;exact outN_any p m.d k m.big t.last m.x m.key _ (m.e t.data) F' w h1 hk (NPm.full_ _)
theorem NX.outBad (h : NX w p m t R F) (k : Int) (hk : k < 1 \/ bOf m.big < k) :
  Calls Tryz.prog 33 #[.pointer (some ⟨p, 0, none⟩), .int .i64 k] w fun r w' => r = .returned (.tuple #[.slice none 0 0, .int .i64 1]) /\ Below w.heap.size w w' := by
 obtain ⟨F', h1, -⟩ := h.nd;exact outBad_any p m.d k m.big t.last m.x m.key _ (m.e t.data) F' w h1 hk
theorem NX.written (h : NX w p m t R F) :
  Calls Tryz.prog 10 #[.pointer (some ⟨p, 0, none⟩)] w fun r w' => r = .returned (.int .u64 (wrd (bZD t.data.length))) /\ w = w' := by
 obtain ⟨F', h1, -⟩ := h.nd;exact writtenN_any p m.d m.big t.last m.x m.key _ (m.e t.data) F' w h1
theorem NX.copy (h : NX w p m t R F) :
  Calls Tryz.prog 20 #[.pointer (some ⟨p, 0, none⟩)] w fun r w' => ∃ q F', r = .returned (.pointer (some ⟨q, 0, none⟩)) /\ NX w' q m t R F' /\ (∀ k, k ∈ F' -> w.heap.size <= k) /\ Below w.heap.size w w' :=
 copyS_any p m.d m.big t.last m.x m.key _ (m.e t.data) R F w h
theorem NX.reset (h : NX w p m t R F) (hm : m.Ok) :
  Calls Tryz.prog 22 #[.pointer (some ⟨p, 0, none⟩)] w fun r w' => r = .returned (.int .i64 0) /\ ∃ F', NX w' p m ⟨false, []⟩ R F' /\ (∀ k, k ∈ F' -> k ∈ F \/ w.heap.size <= k) /\ But F w w' := by
 refine (resetS_any p m.d m.big t.last m.x m.key _ (m.e t.data) R F w h hm.xlen (by have := hm.nkb; rw [hm.key]; omega)).mono ?_;rintro r w' ⟨e1, F', h1, h2, h3⟩;refine ⟨e1, F', ?_, h2, h3⟩;rw [<- NPm.e_nil] at h1;exact h1
theorem NX.save (h : NX w p m t R F) (hm : m.Ok) :
  Calls Tryz.prog 23 #[.pointer (some ⟨p, 0, none⟩)] w fun r w' => ∃ A' n' c', r = .returned (.slice A' n' c') /\ n' <= 1024 /\ (saveL m.big m.x m.key t.last (m.e t.data)).length = n' /\ OS cB w' w.heap.size A' c' (saveL m.big m.x m.key t.last (m.e t.data)) /\ Below w.heap.size w w' := by
 obtain ⟨F', h1, -⟩ := h.nd;have hb : bOf m.big <= 64 := by cases m.big <;> decide
 exact save_any p m.d m.big t.last m.x m.key _ (m.e t.data) F' w h1 (by rw [hm.xlen]; exact hb) (by have := hm.nkb; rw [hm.key]; omega)
end
theorem nx_load (m : NPm) (t : NSt) (hm : m.Ok) (A : Option Addr) (n c : Nat) (w : World) (hn : (saveL m.big m.x m.key t.last (m.e t.data)).length = n) (hc : n <= c /\ c <= 9223372036854775807) (hr : RS cB w w.heap.size A (saveL m.big m.x m.key t.last (m.e t.data))) (hd : t.data.length < 2 ^ 60) :
  Calls Tryz.prog 25 #[.slice A n c] w fun r w' => ∃ q R F, r = .returned (.tuple #[.pointer (some ⟨q, 0, none⟩), .int .i64 0]) /\ NX w' q m t R F /\ (∀ k, k ∈ F -> w.heap.size <= k) /\ (∀ k, k ∈ R -> w.heap.size <= k) /\ Below w.heap.size w w' := by
 obtain ⟨h1, h2, h3⟩ := dec_encA (big := m.big) hm.chk hm.fit hm.ls hm.lp;have hk := hm.key; have hkd := hm.keyd; have hd2 := hm.d;refine (load_of A n c m.big t.last m.x m.key (m.e t.data) w hn hc hr hm.xlen h1 (by rw [hk]; rcases hkd with h | h; exact .inl h; exact .inr (by show m.nk = fld (encL m.big m.pr m.ls m.lp) 1 1; omega)) (by rw [hk]; exact hm.nkb) (hm.sv t.data hd)).mono ?_;rintro r w' ⟨q, F, e1, hN, hF, hb⟩;obtain ⟨R, F', h4, h5⟩ := hN.s;refine ⟨q, R, F', e1, ?_, fun k hk => hF k ((h5 k).2 (.inl hk)), fun k hk => hF k ((h5 k).2 (.inr hk)), hb⟩;have e2 : wrOf (m.e t.data).lo (m.e t.data).held.length m.key.length (bZD (2 * bOf m.big)) = bZD t.data.length := wr_fed m.big m.x m.key t.data (by have := hm.nkb; rw [hk]; omega) hd;rw [e2, show fld m.x 0 1 = m.d by show fld (encL m.big m.pr m.ls m.lp) 0 1 = m.d; omega] at h4;exact h4
end Go.Proofs.YtboihcigcfmhhaaGreat

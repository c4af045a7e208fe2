/-
  A hasher that is fed with cuts. Contracts alone; no statement is claimed here.
-/
import Derived.Test.YtgephdbicbmpeaaGreatFeedA
import Derived.Test.YtgephdbicbmpeaaGreatHashC
namespace Go.Proofs.YtgephdbicbmpeaaGreat
open Go.RowKit
attribute [local go_sem] pureUpon Ords.of

def stV (k : Int) (p : Pr) (key : Value) : Value := .agg #[.int .i64 k, .int .i64 p.digest, .int .i64 p.key, .int .i64 p.fanout, .int .i64 p.depth, .int .u32 p.leaf, .int .u64 p.offset, .int .u32 p.xof, .int .i64 p.nd, .int .i64 p.inner, p.salt.v, p.pers.v, key]
/-- whole numbers that came in -/
def cI : Cod Int := ⟨3, 154, 8, .int .i64 0, fun z => .int .i64 z⟩
theorem tmod_bounds (z : Int) (r : Nat) : -(r : Int) ≤ z.tmod ((r : Int) + 1) ∧ z.tmod ((r : Int) + 1) ≤ r := by
  by_cases h : 0 ≤ z
  · rw [Int.tmod_eq_emod_of_nonneg h]
    have h1 := Int.emod_nonneg z (show (r : Int) + 1 ≠ 0 by omega)
    have h2 := Int.emod_lt_of_pos z (show (0 : Int) < (r : Int) + 1 by omega)
    omega
  · have e : z.tmod ((r : Int) + 1) = -((-z).tmod ((r : Int) + 1)) := by rw [Int.neg_tmod, Int.neg_neg]
    rw [e, Int.tmod_eq_emod_of_nonneg (a := -z) (by omega)]
    have h1 := Int.emod_nonneg (-z) (show (r : Int) + 1 ≠ 0 by omega)
    have h2 := Int.emod_lt_of_pos (-z) (show (0 : Int) < (r : Int) + 1 by omega)
    omega
/-- what a hasher has had, and what is left -/
structure FedTo (w wr : World) (q d : Nat) (big : Bool) (X key data : List UInt8) (e0 : Eng) (nd off : Nat) (Ar : Option Addr) (cr : Nat) (F : List Nat) : Prop where
  le : off ≤ nd
  cap : nd - off ≤ cr
  cap2 : cr ≤ 9223372036854775807
  rs : RS cB wr w.heap.size Ar (data.drop off)
  nd : Nd wr q big d X key false (UInt64.ofNat off) (e0.feed (data.take off)) F
  low : ∀ k, k ∈ F → w.heap.size ≤ k
  blw : Below w.heap.size w wr
theorem fed_write {w wr : World} {q d nd off cr m : Nat} {big : Bool} {X key data : List UInt8} {e0 : Eng} {Ar : Option Addr} {F : List Nat} (h : FedTo w wr q d big X key data e0 nd off Ar cr F) (hok : e0.Ok) (hdl : data.length = nd) (hm : m ≤ nd - off) :
    Calls Tryz.prog 81 #[.pointer (some ⟨q, 0, none⟩), .slice Ar m cr] wr fun r w' => r = .returned (.int .i64 0) ∧ ∃ F', FedTo w w' q d big X key data e0 nd (off + m) (if cr = m then Ar else Ar.map (·.add m)) (cr - m) F' := by
  have hl : (data.drop off).length = nd - off := by rw [List.length_drop, hdl]
  have hle := h.le
  have hcap := h.cap
  have hcap2 := h.cap2
  refine (writeN_any q d big false X key (UInt64.ofNat off) (e0.feed (data.take off)) F Ar m cr ((data.drop off).take m) wr h.nd (by rw [List.length_take, hl]; omega) (by omega) hcap2 ((h.rs.take m).more h.blw.size) (fun h0 a ha hF => by
    have h1 := (h.rs.take m).low h0 a ha
    have h2 := h.low _ hF
    omega)).mono ?_
  rintro r w2 ⟨rfl, F', hN, hF', hB⟩
  have hb2 : Below w.heap.size w w2 := h.blw.trans (hB.toBelow h.blw.size h.low)
  refine ⟨rfl, F', ⟨by omega, by omega, by omega, ?_, ?_, ?_, hb2⟩⟩
  · have h1 := (h.rs.below (hB.toBelow h.blw.size h.low)).cut (k := m) (cap := cr) (by rw [hl]; exact hm) (by rw [hl]; exact hcap)
    rw [List.drop_drop] at h1
    exact h1
  · have e1 : data.take (off + m) = data.take off ++ (data.drop off).take m := List.take_add ..
    have e2 : UInt64.ofNat off + UInt64.ofNat m = UInt64.ofNat (off + m) := (UInt64.ofNat_add off m).symm
    rw [e1, Eng.feed_append _ hok, ← e2]
    exact hN
  · intro k hk
    rcases hF' k hk with h1 | h1
    · exact h.low k h1
    · exact Nat.le_trans h.blw.size h1
end Go.Proofs.YtgephdbicbmpeaaGreat

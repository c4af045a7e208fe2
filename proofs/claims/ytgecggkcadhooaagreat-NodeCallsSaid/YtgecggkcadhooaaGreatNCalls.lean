/-
  NodeCalls' law. Contracts alone; no statement is claimed here.
-/
import Derived.Test.YtgecggkcadhooaaGreatNCalm
import Derived.Test.YtgecggkcadhooaaGreatRDecE
import Derived.Test.YtgecggkcadhooaaGreatAwk5
import Derived.Test.YtgecggkcadhooaaGreatOpenP
namespace Go.Proofs.YtgecggkcadhooaaGreat
open Go.ChangeShapes Go.WideShapes Go.ChangeAt Go.RowKit
attribute [local go_sem] pureUpon Ords.of

theorem callV_size (k : Int) (b key data : Sl) (last : Bool) (m : Int) : (Tryz.prog.info? 50).map (·.size) = some (callV k b key data last m).size := by unfold callV; kernel_rfl
set_option maxRecDepth 20000 in
set_option maxHeartbeats 2000000 in
theorem nodeCalls_law (k : Int) (last : Bool) (m : Int) (sb sk sd : Sl) (b key data : List UInt8) (w : World) (hin : CallIn w sb sk sd b key data) (h47 : sd.n ≤ 140737488355200) :
    Calls Tryz.prog 5 #[.agg (callV k sb sk sd last m)] w fun e w' => e = .returned (.bool true) ∧ Below w.heap.size w w' := by
  have hA := fun W hin => callS_any k last m sb sk sd b key data W hin
  have hB := fun W hin => refCallS_any k last m sb sk sd b key data W hin h47
  have haw := fun W => awake5_any W
  have hle : (callS k b key last m data).1.length ≤ 64 := call_ways (P := fun R => R.1.length ≤ 64) k b key last m data (fun _ _ => Nat.zero_le _) (fun _ _ _ => Nat.zero_le _) (fun _ _ _ _ _ => Nat.zero_le _) (fun _ _ _ _ _ => Nat.zero_le _) (fun big _ _ _ n _ hn => by
    have h1 := bOf_le big
    show (List.take n _).length ≤ 64
    rw [List.length_take]
    omega)
  have hsame := fun (A1 A2 : Option Addr) (c1 c2 n1 n2 : Nat) (l1 l2 : List UInt8) W h1 h2 hm r1 r2 => same5_any A1 A2 c1 c2 l1 l2 n1 n2 W h1 h2 hm r1 r2
  generalize callS k b key last m data = R at *
  have HA := Lib.hid hA; have HB2 := Lib.hid hB; have HAW := Lib.hid haw; have HSM := Lib.hid hsame; have HIN := Lib.hid hin; have HLE := Lib.hid hle
  clear hA hB haw hsame hin hle h47
  have hu := Lib.hid Tryz.underlying50
  go_enter Tryz.func5, Tryz.ntmps5
  have HC := Lib.hid (Blk.new w 50 (callV k sb sk sd last m))
  have HB := Lib.hid (bal (b0 w) (.cells (callV k sb sk sd last m) 50))
  go_upto_region 1 with fail
  generalize w.alloc (.cells (callV k sb sk sd last m) 50) = u at *
  go_wp2_with (refine wpList_load_row rfl 50 _ rfl w.heap.size rfl 50 (callV k sb sk sd last m) (0, 0) _ HC.out hu.out rfl (callV_size _ _ _ _ _ _) ?_)
  refine (HA.out _ (HIN.out.below HB.out)).mono ?_
  rintro e1 u ⟨A1, n1, c1, cc1, rfl, hl1, -, ho1, hb1⟩
  have HO1 := Lib.hid (ho1.mono HB.out.size); have HL1 := Lib.hid hl1
  replace HC := Lib.hid (HC.out.below hb1 HC.out.lt)
  replace HB := Lib.hid (bcall HB.out hb1)
  clear ho1 hl1 hb1
  go_wp2_with (refine wpList_load_row rfl 50 _ rfl w.heap.size rfl 50 (callV k sb sk sd last m) (0, 0) _ HC.out hu.out rfl (callV_size _ _ _ _ _ _) ?_)
  refine (HB2.out _ (HIN.out.below HB.out)).mono ?_
  rintro e2 u2 ⟨A2, n2, c2, cc2, rfl, hl2, -, ho2, hb2⟩
  have HO2 := Lib.hid (ho2.mono HB.out.size); have HL2 := Lib.hid hl2
  have HO12 := Lib.hid (HO1.out.below hb2 (Nat.le_refl _))
  replace HB := Lib.hid (bcall HB.out hb2)
  clear ho2 hl2 hb2
  go_wp2_with (first
    | (go_at_call 21; refine (HSM.out A1 A2 cc1 cc2 n1 n2 R.1 R.1 _ HL1.out HL2.out (by rw [← HL1.out]; exact Nat.le_trans HLE.out (by decide)) HO12.out.reads HO2.out.reads).mono ?_; rintro e3 w3 ⟨rfl, hb3⟩; rw [decide_eq_true (rfl : R.1 = R.1)]; have HB3 := Lib.hid (bcall HB.out hb3); clear hb3)
    | (go_at_call 22; refine (HAW.out _).mono ?_; rintro e4 w4 ⟨rfl, hb4⟩; have HB4 := Lib.hid (bcall HB3.out hb4); clear hb4))
  exact bodyPost_ret (results_tmp rfl _ _ _) rfl ⟨rfl, HB4.out⟩
theorem six_ {L : List Value} {a b c d e f : Value} (hl : L.length = 6) (h0 : L[0]? = some a) (h1 : L[1]? = some b) (h2 : L[2]? = some c) (h3 : L[3]? = some d) (h4 : L[4]? = some e) (h5 : L[5]? = some f) : L = [a, b, c, d, e, f] := by
  match L, hl with
  | [_, _, _, _, _, _], _ =>
    simp only [List.getElem?_cons_zero, List.getElem?_cons_succ, Option.some.injEq] at h0 h1 h2 h3 h4 h5
    subst h0 h1 h2 h3 h4 h5
    rfl
set_option maxRecDepth 100000 in
theorem got_call {H : Type} {enc : TypeId × Value → H} {W : World} {L : List Value} (h : Got enc W 50 L) : ∃ (k : Int) (sb sk sd : Sl) (last : Bool) (m : Int) (b key data : List UInt8), L = (callV k sb sk sd last m).toList ∧ CallIn W sb sk sd b key data ∧ sd.n ≤ 140737488351232 := by
  obtain ⟨hl, hf⟩ := got_struct Tryz.underlying50 h
  have hl : L.length = 6 := hl.trans (by kernel_rfl)
  have ck : Tryz.prog.cellsOf 29 = 1 := by kernel_rfl
  have ci : Tryz.prog.cellsOf 3 = 1 := by kernel_rfl
  have co : Tryz.prog.cellsOf 4 = 1 := by kernel_rfl
  have cb : Tryz.prog.cellsOf 22 = 1 := by kernel_rfl
  have g0 : Got enc W 29 ((L.drop 0).take (Tryz.prog.cellsOf 29)) := hf 0 _ rfl
  rw [ck] at g0
  obtain ⟨k, e0, _⟩ := got_int Tryz.underlying29 g0
  have g1 : Got enc W 22 ((L.drop 1).take (Tryz.prog.cellsOf 22)) := hf 1 _ rfl
  rw [cb] at g1
  obtain ⟨A1, n1, c1, b, e1, hl1, hn1, hc1, hr1⟩ := got_bytes g1
  have g2 : Got enc W 22 ((L.drop 2).take (Tryz.prog.cellsOf 22)) := hf 2 _ rfl
  rw [cb] at g2
  obtain ⟨A2, n2, c2, key, e2, hl2, hn2, hc2, hr2⟩ := got_bytes g2
  have g3 : Got enc W 4 ((L.drop 3).take (Tryz.prog.cellsOf 4)) := hf 3 _ rfl
  rw [co] at g3
  obtain ⟨last, e3⟩ := got_bool Tryz.underlying4 g3
  have g4 : Got enc W 3 ((L.drop 4).take (Tryz.prog.cellsOf 3)) := hf 4 _ rfl
  rw [ci] at g4
  obtain ⟨m, e4, _⟩ := got_int Tryz.underlying3 g4
  have g5 : Got enc W 22 ((L.drop 5).take (Tryz.prog.cellsOf 22)) := hf 5 _ rfl
  rw [cb] at g5
  obtain ⟨A5, n5, c5, data, e5, hl5, hn5, hc5, hr5⟩ := got_bytes g5
  exact ⟨k, ⟨A1, n1, c1⟩, ⟨A2, n2, c2⟩, ⟨A5, n5, c5⟩, last, m, b, key, data, six_ hl (cut_at e0) (cut_at e1) (cut_at e2) (cut_at e3) (cut_at e4) (cut_at e5), ⟨hl1, ⟨hn1, by show c1 ≤ _; omega⟩, hr1, hl2, hr2, hl5, ⟨hn5, by show c5 ≤ _; omega⟩, hr5⟩, by show n5 ≤ _; omega⟩
set_option maxRecDepth 100000 in
theorem open_call {H : Type} {enc : TypeId × Value → H} {W : World} {base : Nat} {v : Value} {d : DataW H} {p : List MemPlace} {ts : List TypeId} {ds : List (DataW H)}
    (hv : Value.okWide Tryz.prog W .any base 50 v) (h : DataW.Trod enc Tryz.prog W 0 (fun _ => true) true 50 v d p) (hlt : ∀ x ∈ p, x.block < W.heap.size)
    (hsz : (DataW.weightsEach Tryz.prog ts ds).all (· ≤ reachBytes) = true) {j : Nat} (ht : ts[j]? = some 50) (hd : ds[j]? = some d) :
    ∃ (k : Int) (sb sk sd : Sl) (last : Bool) (m : Int) (b key data : List UInt8), v = .agg (callV k sb sk sd last m) ∧ CallIn W sb sk sd b key data ∧ sd.n ≤ 140737488351232 := by
  obtain ⟨cs, rfl, hs⟩ := okWide_struct Tryz.underlying50 hv
  obtain ⟨k, sb, sk, sd, last, m, b, key, data, e, hp, h1⟩ := got_call (got_top h hlt hsz ht hd)
  refine ⟨k, sb, sk, sd, last, m, b, key, data, ?_, hp, h1⟩
  have e2 : cs.toList = (callV k sb sk sd last m).toList := e
  have e3 : cs = (callV k sb sk sd last m) := Array.toList_inj.1 e2
  rw [e3]
end Go.Proofs.YtgecggkcadhooaaGreat

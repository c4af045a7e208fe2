/-
  Z44: contracts and lemmas alone; no statement is claimed here.
-/
import Derived.Test.YtmapfcdffklopaaGreatZx
import Derived.Test.YtmapfcdffklopaaGreatZxc
import Derived.Test.YtmapfcdffklopaaGreatZ32
import Derived.Test.YtmapfcdffklopaaGreatZ16
import Derived.Test.YtmapfcdffklopaaGreatZ30
import Derived.Test.YtmapfcdffklopaaGreatZ42
import Derived.Test.YtmapfcdffklopaaGreatZ15
set_option maxHeartbeats 2000000
set_option maxRecDepth 100000
namespace Go.Proofs.YtmapfcdffklopaaGreat
open Lib renaming hid -> zH
open Go.RowKit
attribute [local go_sem] pureUpon Ords.of
def dOf (A a b c : Option Addr) (n : Nat) (R : Nat -> List Nat) : List Nat := obl A ++ (obl a ++ (obl b ++ (obl c ++ (List.range n).flatMap R)))
def HX (w : World) (P : LP) (d g : Nat) (M : List UInt8) (D Wr : List Nat) : Prop :=
  ∃ (H : Nat) (a b c : Sl) (A : Option Addr) (cap : Nat) (ps : List Nat) (R F : Nat -> List Nat), Hm w H g P d a b c A cap (M.length % 18446744073709551616) ps R F (P.engs M) /\ (∀ x, a.A = some x \/ b.A = some x \/ c.A = some x -> x.block < H) /\ D = dOf A a.A b.A c.A (lnOf P.big) R /\ Wr = hsB g (lnOf P.big) F
def digOf (P : LP) (d : Nat) (M : List UInt8) : List UInt8 := (((P.eng0 (lnOf P.big)).feed (catTo (P.outOf (P.engs M)) (lnOf P.big))).out true).take d
section
variable {w w' : World} {P : LP} {d g : Nat} {M : List UInt8} {D Wr G : List Nat}
end
theorem fld_of {b : List UInt8} {at_ n x : Nat} (h : (b.drop at_).take n = storeN x n) (hx : x < 256 ^ n) : fld b at_ n = x := by
 unfold fld;rw [h, le_storeN, Nat.mod_eq_of_lt hx]
theorem enc_laid (big : Bool) (p : Pr) (v1 v2 v3 v4 v5 v6 v8 v9 : Nat) (h1 : p.digest = v1) (h2 : p.key = v2) (h3 : p.fanout = v3) (h4 : p.depth = v4) (h5 : p.leaf = v5) (h6 : p.offset = v6) (hx : p.xof = 0) (h8 : p.nd = v8) (h9 : p.inner = v9)
  (b1 : v1 < 256 ^ 8) (b2 : v2 < 256 ^ 8) (b3 : v3 < 256 ^ 8) (b4 : v4 < 256 ^ 8) (b5 : v5 < 256 ^ 8) (b6 : v6 < 256 ^ 8) (b8 : v8 < 256 ^ 8) (b9 : v9 < 256 ^ 8) :
  encTo big p 9 = over (over (over (over (over (over (over (over (List.replicate (bOf big) 0) 0 (storeN v1 1)) 1 (storeN v2 1)) 2 (storeN v3 1)) 3 (storeN v4 1)) 4 (storeN v5 4)) 8 (storeN v6 (if big then 8 else 6))) (if big then 16 else 14) (storeN v8 1)) (if big then 17 else 15) (storeN v9 1) := by
 have E0 : encTo big p 0 = List.replicate (bOf big) 0 := rfl;have no : ∀ {f : Nat}, f ≠ 7 -> ¬ (f = 7 /\ p.xof = 0) := fun h h2 => h h2.1
 cases big
 ·rw [dput v9 (f := 9) (at_ := 15) (size := 1) rfl (no (by decide)) h9 b9 (by decide), dput v8 (f := 8) (at_ := 14) (size := 1) rfl (no (by decide)) h8 b8 (by decide), dskip (at_ := 12) (size := 2) rfl hx, dput v6 (f := 6) (at_ := 8) (size := 6) rfl (no (by decide)) h6 b6 (by decide), dput v5 (f := 5) (at_ := 4) (size := 4) rfl (no (by decide)) h5 b5 (by decide), dput v4 (f := 4) (at_ := 3) (size := 1) rfl (no (by decide)) h4 b4 (by decide), dput v3 (f := 3) (at_ := 2) (size := 1) rfl (no (by decide)) h3 b3 (by decide), dput v2 (f := 2) (at_ := 1) (size := 1) rfl (no (by decide)) h2 b2 (by decide), dput v1 (f := 1) (at_ := 0) (size := 1) rfl (no (by decide)) h1 b1 (by decide), E0]
  rfl
 ·rw [dput v9 (f := 9) (at_ := 17) (size := 1) rfl (no (by decide)) h9 b9 (by decide), dput v8 (f := 8) (at_ := 16) (size := 1) rfl (no (by decide)) h8 b8 (by decide), dskip (at_ := 12) (size := 4) rfl hx, dput v6 (f := 6) (at_ := 8) (size := 8) rfl (no (by decide)) h6 b6 (by decide), dput v5 (f := 5) (at_ := 4) (size := 4) rfl (no (by decide)) h5 b5 (by decide), dput v4 (f := 4) (at_ := 3) (size := 1) rfl (no (by decide)) h4 b4 (by decide), dput v3 (f := 3) (at_ := 2) (size := 1) rfl (no (by decide)) h3 b3 (by decide), dput v2 (f := 2) (at_ := 1) (size := 1) rfl (no (by decide)) h2 b2 (by decide), dput v1 (f := 1) (at_ := 0) (size := 1) rfl (no (by decide)) h1 b1 (by decide), E0]
  rfl
theorem le31 (i : Nat) (h1 : 18 <= i) (h2 : i < 32) : i = 18 \/ i = 19 \/ i = 20 \/ i = 21 \/ i = 22 \/ i = 23 \/ i = 24 \/ i = 25 \/ i = 26 \/ i = 27 \/ i = 28 \/ i = 29 \/ i = 30 \/ i = 31 := by omega
theorem dec_enc {big : Bool} {p : Pr} {ls lp : List UInt8} (hc : chk (kOf big) p = 0) (hf : p.Fit) (hx : p.xof = 0) (l1 : ls.length = p.salt.n) (l2 : lp.length = p.pers.n) :
  decOk big false (encL big p ls lp) /\ ((fld (encL big p ls lp) 0 1 : Nat) : Int) = p.digest /\ ((fld (encL big p ls lp) 1 1 : Nat) : Int) = p.key := by
 obtain ⟨r1, r2, r3, r4, r8, r9, q1, q2⟩ := chk_range hc;have hb := bOf_le big;have r5 := hf.leaf;have r6 := hf.offset;have hlen := encL_len big p ls lp (by rw [l1]; exact q1) (by rw [l2]; exact q2);have r6' : big = false -> p.offset < 281474976710656 := fun hb0 => by
  subst hb0;unfold chk at hc
  repeat (split at hc; · exact absurd hc (by decide))
  rename_i h _ _ _ _ _
  have hk : kOf false = 2 := rfl;omega
 obtain ⟨v1, h1⟩ : ∃ v : Nat, p.digest = v := ⟨p.digest.toNat, by omega⟩;obtain ⟨v2, h2⟩ : ∃ v : Nat, p.key = v := ⟨p.key.toNat, by omega⟩;obtain ⟨v3, h3⟩ : ∃ v : Nat, p.fanout = v := ⟨p.fanout.toNat, by omega⟩;obtain ⟨v4, h4⟩ : ∃ v : Nat, p.depth = v := ⟨p.depth.toNat, by omega⟩;obtain ⟨v5, h5⟩ : ∃ v : Nat, p.leaf = v := ⟨p.leaf.toNat, by omega⟩;obtain ⟨v6, h6⟩ : ∃ v : Nat, p.offset = v := ⟨p.offset.toNat, by omega⟩;obtain ⟨v8, h8⟩ : ∃ v : Nat, p.nd = v := ⟨p.nd.toNat, by omega⟩;obtain ⟨v9, h9⟩ : ∃ v : Nat, p.inner = v := ⟨p.inner.toNat, by omega⟩;have hE := enc_laid big p v1 v2 v3 v4 v5 v6 v8 v9 h1 h2 h3 h4 h5 h6 hx h8 h9 (by omega) (by omega) (by omega) (by omega) (by omega) (by omega) (by omega) (by omega);have hcc := chk_sl big p.digest p.key p.fanout p.depth p.leaf p.offset p.xof p.nd p.inner p.salt p.pers q1 q2;change chk (kOf big) p = _ at hcc;rw [hc, h1, h2, h3, h4, h5, h6, hx, h8, h9] at hcc;have hL : encL big p ls lp = over (over (encTo big p 9) (bOf big / 2) ls) (3 * (bOf big / 4)) lp := rfl;rw [hE] at hL;generalize encL big p ls lp = L at *
 cases big
 ·open kA in exact zS74
 ·exact zS74
theorem callS_ok (big : Bool) (b key : List UInt8) (last : Bool) (m : Int) (data : List UInt8) (hb : blkOk big b) (hk : key.length = 0 \/ key.length = fld b 1 1) (hm : 1 <= m /\ m <= bOf big) :
  callS (kOf big) b key last m data = ((((startK big b key).feed data).out last).take m.toNat, 0) := by
 unfold callS;have hk0 : ¬ (kOf big ≠ 1 /\ kOf big ≠ 2) := by cases big <;> decide
 rw [if_neg hk0, kOf_is, mostOf_k, if_neg (fun h => h hb), if_neg (by omega), if_neg (by omega)]
theorem LP.dec (P : LP) (he : P.err = 0) (i : Nat) (hi : i <= lnOf P.big) : blkOk P.big (P.blk i) /\ P.key.length = fld (P.blk i) 1 1 := by
 have hc := P.chk_eq i hi ⟨none, P.ls.length, 0⟩ ⟨none, P.lp.length, 0⟩ rfl rfl;rw [he] at hc;have h := dec_enc (big := P.big) (p := P.par i ⟨none, P.ls.length, 0⟩ ⟨none, P.lp.length, 0⟩) (ls := P.ls) (lp := P.lp) hc (P.fit i hi _ _) rfl rfl rfl;rw [P.blk_eq] at h;obtain ⟨h1, -, h3⟩ := h;exact ⟨.inl h1, (Int.ofNat.inj h3).symm⟩
theorem LP.lane_out (P : LP) (he : P.err = 0) (i : Nat) (hi : i < lnOf P.big) : (P.lane i).out (kOf P.big) = (P.outOf (P.engs P.data) i, 0) := by
 obtain ⟨h1, h2⟩ := P.dec he i (Nat.le_of_lt hi);have hb := bOf_le P.big;refine (callS_ok P.big (P.blk i) P.key _ _ _ h1 (.inr h2) (by show (1 : Int) <= (bOf P.big : Nat) /\ ((bOf P.big : Nat) : Int) <= _; omega)).trans ?_;unfold LP.outOf LP.engs LP.eng0;rw [show P.nkey i = P.key from if_neg (by omega)]
 rfl
theorem LP.outs_eq (P : LP) (he : P.err = 0) : ∀ m, m <= lnOf P.big -> P.outs m = catTo (P.outOf (P.engs P.data)) m
 | 0, _ => rfl
 | m + 1, h => by
  show P.outs m ++ ((P.lane m).out (kOf P.big)).1 = _
  rw [P.outs_eq he m (by omega), P.lane_out he m (by omega)]
  rfl
theorem LP.root_out (P : LP) (he : P.err = 0) : P.root.out (kOf P.big) = (P.dig, 0) := by
 obtain ⟨h1, h2⟩ := P.dec he (lnOf P.big) (Nat.le_refl _);obtain ⟨d, hd, hd1, hd2⟩ := LP.err_dig he;refine (callS_ok P.big (P.blk (lnOf P.big)) [] _ _ _ h1 (.inl rfl) (by show 1 <= P.digest /\ P.digest <= _; omega)).trans ?_;unfold LP.dig LP.eng0;rw [show P.nkey (lnOf P.big) = [] from if_pos rfl]
 show ((((startK P.big (P.blk (lnOf P.big)) []).feed (P.outs (lnOf P.big))).out true).take P.digest.toNat, (0 : Int)) = _
 rw [P.outs_eq he _ (Nat.le_refl _)]
theorem refDigest_any (P : LP) (he : P.err = 0) (sk ss sp sd : Sl) (w : World) (h : LIn w P sk ss sp sd) :
  Calls Tryz.prog 35 #[.int .i64 (kOf P.big), .int .i64 P.digest, .slice sk.A sk.n sk.c, .slice ss.A ss.n ss.c, .slice sp.A sp.n sp.c, .slice sd.A sd.n sd.c] w fun r w' => ∃ A n c cc, r = .returned (.tuple #[.slice A n cc, .int .i64 0]) /\ P.dig.length = n /\ n <= cc /\ OS cB w' w.heap.size A c P.dig /\ Below w.heap.size w w' := by
 have hc := rcalls_any P sk ss sp sd w h he;have hro := P.root_out he;have hcr := P.call_root;have h88 := lnOf_pos P.big;have hol := P.outs_le (lnOf P.big);have hca := fun (x : CC) (W : World) (h : CIn W (kOf P.big) x (P.call (lnOf P.big))) h2 => refCallC_any (kOf P.big) x (P.call (lnOf P.big)) W h h2
 rw [hcr, hro] at hca;rw [hcr.symm] at hca;obtain ⟨n, hn⟩ : ∃ n, n = lnOf P.big := ⟨_, rfl⟩;have HCR := zH hcr;rw [<- hn] at hc h88 hca hol;have HCA := zH hca; have HC := zH hc; have HN := zH hn; have HOL := zH hol;clear hc hro hcr hca h he hn hol;have hcu := zH Tryz.underlying107;go_enter Tryz.func35, Tryz.ntmps35;go_wp2_with fail;refine HC.mono ?_;rintro e1 w1 ⟨A5, c5, L5, rfl, hco5, hl5, hci5, hb5⟩;obtain ⟨g5, rfl⟩ := hco5.whole (by rw [hl5]; exact Nat.succ_pos _);obtain ⟨x, hx⟩ : ∃ x, L5[n]? = some x := ⟨_, List.getElem?_eq_getElem (by rw [hl5]; omega)⟩;have hxi := hci5 n x hx;have hr5 := hco5.at_ hx;have hg5 : g5 < w1.heap.size := (hco5.block_lt _ rfl).2;have hdn : x.data.n <= 140737488355200 := by
  have h1 := hxi.inn.dl;rw [HN.out, HCR.out] at h1;have h2 : P.root.data.length = (P.outs (lnOf P.big)).length := rfl;have h3 := HOL.out;rw [HN.out] at h3;rw [h2] at h1;have h4 := HN.out;omega
 have HX := zH (HCA x w1 hxi hdn);have HB := zH hb5;clear hco5 hl5 hci5 hb5 hx hxi hdn HC;have z0 : w1.cell? ⟨g5, n * 6, none⟩ = some (.int .i64 x.k) := hr5 0 _ rfl;have z1 : w1.cell? ⟨g5, n * 6 + 1, none⟩ = some (.slice x.b.A x.b.n x.b.c) := hr5 1 _ rfl;have z2 : w1.cell? ⟨g5, n * 6 + 2, none⟩ = some (.slice x.key.A x.key.n x.key.c) := hr5 2 _ rfl;have z3 : w1.cell? ⟨g5, n * 6 + 3, none⟩ = some (.bool x.last) := hr5 3 _ rfl;have z4 : w1.cell? ⟨g5, n * 6 + 4, none⟩ = some (.int .i64 x.m) := hr5 4 _ rfl;have z5 : w1.cell? ⟨g5, n * 6 + 5, none⟩ = some (.slice x.data.A x.data.n x.data.c) := hr5 5 _ rfl;clear hr5;have i9 : (n : Int) < ((n + 1 : Nat) : Int) := by omega
 have hn1 : ((n + 1 : Nat) : Int) - 1 = (n : Int) := by omega
 go_wp2_with fail;refine HX.mono ?_;rintro r7 w7 ⟨A7, n7, c7, cc7, rfl, hl7, hn7, ho7, hb7⟩;have HL7 := zH hl7; have HN7 := zH hn7; have HO7 := zH (ho7.mono HB.size); have HB7 := zH (bcall HB hb7);clear hl7 hn7 ho7 hb7;go_wp2_with fail;exact bodyPost_ret (results_tmp2 rfl _ _ _) rfl ⟨A7, n7, c7, cc7, rfl, HL7.out, HN7.out, HO7.out, HB7.out⟩
end Go.Proofs.YtmapfcdffklopaaGreat

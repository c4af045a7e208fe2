/-
  Z20: contracts and lemmas alone; no statement is claimed here.
-/
import Derived.Test.YtmapfcdffklopaaGreatZxc
import Derived.Test.YtmapfcdffklopaaGreatZ4
import Derived.Test.YtmapfcdffklopaaGreatZ16
import Derived.Test.YtmapfcdffklopaaGreatZ19
set_option maxHeartbeats 2000000
namespace Go.Proofs.YtmapfcdffklopaaGreat
open Go renaming results_tmp → aZK
open Go renaming bodyPost_ret → aZB
open Lib renaming hid -> zH
open Go.RowKit
def zeroPar : Pr := ⟨0, 0, 0, 0, 0, 0, 0, 0, 0, Sl.nil, Sl.nil⟩
def zcs : Array Value := #[.int .i64 0, .int .i64 0, .int .i64 0, .int .i64 0, .int .u32 0, .int .u64 0, .int .u32 0, .int .i64 0, .int .i64 0, .slice none 0 0, .slice none 0 0]
theorem Pr.size (p : Pr) : (Tryz.prog.info? 81).map (·.size) = some p.cs.size := by unfold Pr.cs; kernel_rfl
theorem Pr.ones (p : Pr) : p.cs.all (·.oneCell') = true := by unfold Pr.cs Sl.v; simp [Value.oneCell']
attribute [local go_sem] pureUpon Ords.of
theorem Trim.less {l : List UInt8} {k : Nat} (h : Trim l (k + 1)) (h0 : l[k]? = some 0) : Trim l k := by
 obtain ⟨h1, h2⟩ := h;refine ⟨by omega, ?_⟩;obtain ⟨h3, h4⟩ := List.getElem?_eq_some_iff.1 h0;have e : l.length - k = (l.length - (k + 1)) + 1 := by omega
 rw [List.drop_eq_getElem_cons h3, h2, h4, e, List.replicate_succ]
theorem sizes_any (big : Bool) (w : World) : Calls Tryz.prog 85 #[.int .i64 (kOf big)] w fun e w' => e = .returned (.tuple #[.int .i64 (bOf big : Nat), .int .i64 (bOf big : Nat), .int .i64 (bOf big / 4 : Nat)]) /\ w = w' := by
 cases big
 ·exact sizes_small w
 ·exact sizes_big w
def Pr.slk (p : Pr) (s t : Sl) : Pr := { p with salt := s, pers := t }
theorem RS.some_of {w : World} {B : Nat} {A : Option Addr} {b : List UInt8} (hr : RS cB w B A b) (h : 0 < b.length) : ∃ ad : Addr, A = some ad /\ ad.block < B := by
 obtain ⟨ad, x, e, h2, -⟩ := hr.at_ h;exact ⟨ad, e, h2⟩
def DecAns (big ext : Bool) (b : List UInt8) (w : World) (r : Ending) (w' : World) : Prop :=
  ∃ (p : Pr) (e : Int), r = .returned (.tuple #[p.v, .int .i64 e]) /\ ((e = 0 /\ decOk big ext b /\ p.digest = (fld b 0 1 : Nat) /\ p.key = (fld b 1 1 : Nat)) \/ (e ≠ 0 /\ ¬ decOk big ext b)) /\ Below w.heap.size w w'
theorem RS.mid {w : World} {B k : Nat} {ad : Addr} {b : List UInt8} (hr : RS cB w B (some ad) b) (h : k <= b.length) (h0 : 0 < k) (n : Nat) : RS cB w B (some ⟨ad.block, ad.off + k, none⟩) ((b.drop k).take n) := by
 refine RS.take ?_ n;have h1 := hr.cut (k := k) (cap := b.length + k + 1) h (by omega);rw [if_neg (by omega)] at h1;have e : (some ad).map (·.add k) = some (⟨ad.block, ad.off + k, none⟩ : Addr) := by
  show some (ad.add k) = _
  unfold Addr.add;rw [if_neg (by omega)]
 rwa [e] at h1
theorem dec_mid {b : List UInt8} {k n m : Nat} (hb : b.length = m) (h : k + n <= m) : ((b.drop k).take n).length = n := by rw [List.length_take, List.length_drop, hb]; omega
def prV (d0 d1 : Int) (X : Pr) : Array Value := #[.int .i64 d0, .int .i64 d1, .int .i64 X.fanout, .int .i64 X.depth, .int .u32 X.leaf, .int .u64 X.offset, .int .u32 X.xof, .int .i64 X.nd, .int .i64 X.inner, .slice X.salt.A X.salt.n X.salt.c, .slice X.pers.A X.pers.n X.pers.c]
instance (big ext : Bool) (b : List UInt8) : Decidable (decOk big ext b) :=
  decidable_of_iff (b.length = bOf big /\ (big = true -> ∀ i, i < 32 -> 18 <= i -> b[i]? = some 0) /\ (ext = true -> fld b 12 (if big then 4 else 2) ≠ 0) /\ chk (kOf big) (decPr big ext b (sl4 big) (sl4 big)) = 0) (by
    unfold decOk
    constructor
    · rintro ⟨h1, h2, h3⟩; exact ⟨h1, fun h i a b => h2 h i b a, h3⟩
    · rintro ⟨h1, h2, h3⟩; exact ⟨h1, fun h i a b => h2 h i b a, h3⟩)
def blkOk (big : Bool) (b : List UInt8) : Prop := decOk big false b \/ decOk big true b
instance (big : Bool) (b : List UInt8) : Decidable (blkOk big b) := inferInstanceAs (Decidable (_ \/ _))
def callS (k : Int) (b key : List UInt8) (last : Bool) (m : Int) (data : List UInt8) : List UInt8 × Int :=
  if k ≠ 1 /\ k ≠ 2 then ([], 1) else if ¬ blkOk (decide (k = 1)) b then ([], 4) else if key.length ≠ 0 /\ key.length ≠ fld b 1 1 then ([], 8) else if m < 1 \/ mostOf k < m then ([], 1) else ((((startK (decide (k = 1)) b key).feed data).out last).take m.toNat, 0)
theorem call_ways {P : List UInt8 × Int -> Prop} (k : Int) (b key : List UInt8) (last : Bool) (m : Int) (data : List UInt8)
  (h1 : k ≠ 1 -> k ≠ 2 -> P ([], 1)) (h2 : ∀ big, k = kOf big -> ¬ blkOk big b -> P ([], 4))
  (h3 : ∀ big, k = kOf big -> blkOk big b -> key.length ≠ 0 -> key.length ≠ fld b 1 1 -> P ([], 8))
  (h4 : ∀ big, k = kOf big -> blkOk big b -> (key.length = 0 \/ key.length = fld b 1 1) -> (m < 1 \/ (bOf big : Int) < m) -> P ([], 1))
  (h5 : ∀ big, k = kOf big -> blkOk big b -> (key.length = 0 \/ key.length = fld b 1 1) -> ∀ n : Nat, m = n -> 1 <= n /\ n <= bOf big -> P ((((startK big b key).feed data).out last).take n, 0)) : P (callS k b key last m data) := by
 unfold callS
 by_cases hk : k ≠ 1 /\ k ≠ 2
 ·rw [if_pos hk]; exact h1 hk.1 hk.2
 ·rw [if_neg hk]
  obtain ⟨big, rfl⟩ : ∃ big, k = kOf big := by
   by_cases h : k = 1
   ·exact ⟨true, h⟩
   ·exact ⟨false, Decidable.not_not.1 (fun h2 => hk ⟨h, h2⟩)⟩
  rw [kOf_is, mostOf_k]
  by_cases hb : blkOk big b
  ·rw [if_neg (fun h => h hb)]
   by_cases hkey : key.length ≠ 0 /\ key.length ≠ fld b 1 1
   ·rw [if_pos hkey]; exact h3 big rfl hb hkey.1 hkey.2
   ·rw [if_neg hkey]
    have hkey' : key.length = 0 \/ key.length = fld b 1 1 := by omega
    by_cases hm : m < 1 \/ (bOf big : Int) < m
    ·rw [if_pos hm]; exact h4 big rfl hb hkey' hm
    ·rw [if_neg hm]; exact h5 big rfl hb hkey' m.toNat (by omega) (by omega)
  ·rw [if_pos hb]; exact h2 big rfl hb
theorem blkOk.len {big : Bool} {b : List UInt8} (h : blkOk big b) : b.length = bOf big := h.elim (fun h => h.1) (fun h => h.1)
def callV (k : Int) (b key data : Sl) (last : Bool) (m : Int) : Array Value := #[.int .i64 k, .slice b.A b.n b.c, .slice key.A key.n key.c, .bool last, .int .i64 m, .slice data.A data.n data.c]
structure CallIn (w : World) (sb sk sd : Sl) (b key data : List UInt8) : Prop where
  bl : b.length = sb.n
  bc : sb.n <= sb.c /\ sb.c <= 9223372036854775807
  br : RS cB w w.heap.size sb.A b
  kl : key.length = sk.n
  kr : RS cB w w.heap.size sk.A key
  dl : data.length = sd.n
  dc : sd.n <= sd.c /\ sd.c <= 9223372036854775807
  dr : RS cB w w.heap.size sd.A data
theorem CallIn.below {w w' : World} {sb sk sd : Sl} {b key data : List UInt8} (h : CallIn w sb sk sd b key data) (hb : Below w.heap.size w w') : CallIn w' sb sk sd b key data :=
 ⟨h.bl, h.bc, (h.br.below hb).more hb.size, h.kl, (h.kr.below hb).more hb.size, h.dl, h.dc, (h.dr.below hb).more hb.size⟩
theorem kind_tests (big : Bool) : (kOf big != 1) = false \/ ((kOf big != 1) = true /\ (kOf big != 2) = false) := by cases big; exact .inr ⟨rfl, rfl⟩; exact .inl rfl
def cN : Cod Nat := ⟨31, 159, 8, .int .u64 0, fun n => .int .u64 (n : Int)⟩
theorem cN_ok : cN.Ok Tryz.prog := ⟨Tryz.underlying159, by kernel_rfl, rfl, fun _ => rfl⟩
theorem shl_or (x j : Nat) (b : UInt8) (hj : j < 8) (hx : x < 256 ^ j) : bits .or .u64 (IntKind.u64.wrap ((x : Int) * 256)) (byt b) = ((b.toNat + 256 * x : Nat) : Int) := by
 have hb : b.toNat < 256 := b.toNat_lt;have h2 := pow256 (j + 1) (by omega);rw [Nat.pow_succ] at h2;have e : IntKind.u64.wrap ((x : Int) * 256) = ((256 * x : Nat) : Int) := by rw [wrap_u64]; omega
 rw [e];unfold byt;rw [u64_or_nat _ _ (by omega) (by omega)]
 congr 1
 have h3 : (256 * x) ||| b.toNat = 2 ^ 8 * x + b.toNat := (Nat.two_pow_add_eq_or_of_lt (i := 8) hb x).symm
 rw [h3];omega
theorem refRead_any (A : Option Addr) (c N at_ n B : Nat) (l : List UInt8) (w : World) (hN : l.length = N) (hm : N <= 1024) (hr : RS cB w B A l) (hat : at_ + n <= N) (hn : n <= 8) :
  Calls Tryz.prog 126 #[.slice A N c, .int .i64 at_, .int .i64 n] w fun e w' => e = .returned (.int .u64 (fld l at_ n : Nat)) /\ w = w' := by
 have HN := zH hN; have HR := zH hr; clear hN hr;have w0 : wrap64 ((n : Int) - 1) = (n : Int) - 1 := by unfold wrap64; omega
 go_enter Tryz.func126, Tryz.ntmps126;go_wp2;go_loop [7, 8] (fun v i => ∃ (j x : Nat), j <= n /\ i = .int .i64 ((j : Int) - 1) /\ v = .int .u64 x /\ x = le ((l.drop (at_ + j)).take (n - j))) (fun _ i => (intOf i + 1).toNat)
 case atStart => exact ⟨n, 0, by omega, rfl, rfl, by simp [le]⟩
 case round =>
  exact zS48
theorem Trim.all2 (l : List UInt8) : Trim l l.length := ⟨Nat.le_refl _, by simp⟩
theorem refTrim_any (A : Option Addr) (c N : Nat) (l : List UInt8) (w : World) (hl : l.length = N) (hN : N <= 1024) (hr : RS cB w w.heap.size A l) :
  Calls Tryz.prog 141 #[.slice A N c] w fun r w' => ∃ (A' : Option Addr) (t c' : Nat), r = .returned (.slice A' t c') /\ Trim l t /\ OS cB w' w.heap.size A' c' (l.take t) /\ Below w.heap.size w w' := by
 have HL := zH hl; have HR := zH hr; clear hr;go_enter Tryz.func141, Tryz.ntmps141;go_wp2;go_loop [3] (fun v => ∃ t : Nat, t <= N /\ v = .int .i64 t /\ Trim l t) (fun v => (intOf v).toNat)
 case atStart => exact ⟨N, Nat.le_refl _, rfl, by rw [<- hl]; exact Trim.all2 l⟩
 case round =>
  obtain ⟨t, ht, rfl, hT⟩ := hrel;have HT := zH hT; clear hT hl
  by_cases h0 : 0 < t
  ·obtain ⟨k, rfl⟩ : ∃ k, t = k + 1 := ⟨t - 1, by omega⟩
   obtain ⟨ad, b, rfl, -, eb, gb⟩ := HR.at_ (k := k) (by rw [HL.out]; omega);change w.cell? (ad.add k) = some (.int .u8 (byt b)) at gb;have ek : ((k + 1 : Nat) : Int) - 1 = (k : Int) := by omega
   have wk : wrap64 (((k + 1 : Nat) : Int) - 1) = (k : Int) := by unfold wrap64; omega
   have EB := zH eb; clear eb
   by_cases hb : b = 0
   ·subst hb
    go_wp2
    case roundEnd =>
     exact ⟨⟨k, by omega, by go_num, HT.less EB.out⟩, by simp [intOf]⟩
   ·have tb : (byt b == 0) = false := by
     rw [beq_eq_false_iff_ne];intro h;exact hb (UInt8.toNat_inj.1 (Int.ofNat.inj h))
    clear hb EB;generalize byt b = y at *;go_wp2_with fail;go_loopw [4, 5] (fun o i wr => ∃ (kk : Nat) (A' : Option Addr) (c' : Nat), kk <= (k + 1) /\ i = .int .i64 kk /\ o = .slice A' kk c' /\ OS cB wr w.heap.size A' c' (l.take kk) /\ Below w.heap.size w wr) (fun _ i _ => (k + 1) - (intOf i).toNat)
    case atStart => exact ⟨0, none, 0, Nat.zero_le _, rfl, rfl, OS.nil _ _ _ rfl, b0 w⟩
    case round =>
     obtain ⟨k2, A', c', hk2, rfl, rfl, hos, hbw⟩ := hrel;have HO := zH hos; have HBW := zH hbw; clear hos hbw
     by_cases hlt2 : k2 < (k + 1)
     ·obtain ⟨ad2, b2, hA2, hab2, eb2, gb2⟩ := (HR.below HBW.out).at_ (k := k2) (by rw [HL.out]; omega)
      have EB2 := zH eb2;injection hA2 with hA2
      rw [<- hA2] at gb2 hab2;clear hA2;change wr.cell? (ad.add k2) = some (.int .u8 (byt b2)) at gb2;have hlen := zH (show (l.take k2).length = k2 by rw [List.length_take, HL.out]; omega);have hlo : ad.block < wr.heap.size := Nat.lt_of_lt_of_le hab2 HBW.size;have HLT2 := zH hlt2;clear eb2;go_wp2_with (at_builtin; refine wpList_appB1 _ rfl (.tmp 25) (.tmp 30) rfl (HO.alloc _) rfl hlen.out rfl (cnew _ _ _ rfl) b2 rfl (by omega) (by have := HBW.size; simp; omega) ?_; intro A3 c3 w3 hown3 hgrow hat; have hw3 := bapp (bal HBW.out _) (HO.alloc _) hgrow; have HO3 := zH hown3; have HW3 := zH hw3; clear hown3 hgrow hat hw3)
      case roundEnd => exact ⟨⟨k2 + 1, A3, c3, HLT2.out, by go_num, rfl, by rw [List.take_add_one, EB2.out]; exact HO3.out, HW3.out⟩, by have h := HLT2.out; simp [intOf]; omega⟩
     ·obtain rfl : k2 = (k + 1) := by omega
      go_wp2;exact aZB (aZK rfl _ _ _) rfl ⟨A', (k + 1), c', rfl, HT.out, HO.out, HBW.out⟩
  ·obtain rfl : t = 0 := by omega
   go_wp2_with fail;go_loopw [4, 5] (fun o i wr => o = .slice none 0 0 /\ i = .int .i64 0 /\ Below w.heap.size w wr) (fun _ _ _ => 0)
   case atStart => exact ⟨rfl, rfl, b0 w⟩
   case round =>
    obtain ⟨rfl, rfl, hbw⟩ := hrel;go_wp2;exact aZB (aZK rfl _ _ _) rfl ⟨none, 0, 0, rfl, HT.out, OS.nil _ _ _ rfl, hbw⟩
theorem refSized_any (big : Bool) (A : Option Addr) (n c : Nat) (w : World) : Calls Tryz.prog 125 #[.int .i64 (kOf big), .slice A n c] w fun e w' => e = .returned (.int .i64 (if n < bOf big then 3 else if bOf big < n then 2 else 0)) /\ w = w' := by
 have hs := fun W => refSize_any big W
 have hm := fun W => refMost_any big W
 have h0 : ((bOf big : Int) == 0) = false := by cases big <;> rfl
 generalize bOf big = m at *;generalize kOf big = k at *;have HS := zH hs; have HM := zH hm; clear hs hm
 by_cases h1 : n < m
 ·rw [if_pos h1]
  have t1 : decide ((n : Int) < (m : Int)) = true := decide_eq_true (Int.ofNat_lt.2 h1);go_enter Tryz.func125, Tryz.ntmps125;go_wp2_with (first | (go_at_call 62; refine (HM _).mono ?_; rintro e1 w1 ⟨rfl, rfl⟩) | (go_at_call 101; refine (HS _).mono ?_; rintro e1 w1 ⟨rfl, rfl⟩));exact aZB (aZK rfl _ _ _) rfl ⟨rfl, rfl⟩
 ·rw [if_neg h1]
  have t1 : decide ((n : Int) < (m : Int)) = false := decide_eq_false (fun h => h1 (Int.ofNat_lt.1 h))
  by_cases h2 : m < n
  ·rw [if_pos h2]
   have t2 : decide ((m : Int) < (n : Int)) = true := decide_eq_true (Int.ofNat_lt.2 h2);go_enter Tryz.func125, Tryz.ntmps125;go_wp2_with (first | (go_at_call 62; refine (HM _).mono ?_; rintro e1 w1 ⟨rfl, rfl⟩) | (go_at_call 101; refine (HS _).mono ?_; rintro e1 w1 ⟨rfl, rfl⟩));exact aZB (aZK rfl _ _ _) rfl ⟨rfl, rfl⟩
  ·rw [if_neg h2]
   have t2 : decide ((m : Int) < (n : Int)) = false := decide_eq_false (fun h => h2 (Int.ofNat_lt.1 h));go_enter Tryz.func125, Tryz.ntmps125;go_wp2_with (first | (go_at_call 62; refine (HM _).mono ?_; rintro e1 w1 ⟨rfl, rfl⟩) | (go_at_call 101; refine (HS _).mono ?_; rintro e1 w1 ⟨rfl, rfl⟩));exact aZB (aZK rfl _ _ _) rfl ⟨rfl, rfl⟩
end Go.Proofs.YtmapfcdffklopaaGreat

/-
  Z41: contracts and lemmas alone; no statement is claimed here.
-/
import Derived.Test.YtmapfcdffklopaaGreatZ0
import Derived.Deep.MidRow
import Derived.Laws.EntriesVeiled
import Derived.Test.YtmapfcdffklopaaGreatZ13
import Derived.Test.YtmapfcdffklopaaGreatZ14
import Derived.Test.YtmapfcdffklopaaGreatZ20
import Derived.Test.YtmapfcdffklopaaGreatZ39
import Derived.Test.YtmapfcdffklopaaGreatZ30
set_option maxHeartbeats 2000000
set_option maxRecDepth 20000
namespace Go.Proofs.YtmapfcdffklopaaGreat
open Go renaming results_tmp2 → aZG
open Go renaming bodyPost_ret → aZB
open Lib renaming hid -> zH
open Go.RowKit
attribute [local go_sem] pureUpon Ords.of
def varRows : List (List Value) := [[.string ⟨#[98, 108, 97, 107, 101, 50, 98]⟩, .int .i64 1, .int .i64 64, .int .i64 64, .func (.func 49) #[] #[]],
  [.string ⟨#[98, 108, 97, 107, 101, 50, 115]⟩, .int .i64 2, .int .i64 32, .int .i64 32, .func (.func 49) #[] #[]],
  [.string ⟨#[98, 108, 97, 107, 101, 50, 98, 112]⟩, .int .i64 1, .int .i64 64, .int .i64 64, .func (.func 50) #[] #[]],
  [.string ⟨#[98, 108, 97, 107, 101, 50, 115, 112]⟩, .int .i64 2, .int .i64 32, .int .i64 32, .func (.func 50) #[] #[]],
  [.string ⟨#[98, 108, 97, 107, 101, 50, 120, 98]⟩, .int .i64 1, .int .i64 65536, .int .i64 64, .func (.func 51) #[] #[]],
  [.string ⟨#[98, 108, 97, 107, 101, 50, 120, 115]⟩, .int .i64 2, .int .i64 65534, .int .i64 32, .func (.func 51) #[] #[]]]
def varCells : Array Value := varRows.flatten.toArray
theorem variants_any (w : World) : Calls Tryz.prog 32 #[] w fun e w' => ∃ g, e = .returned (.slice (some ⟨g, 0, none⟩) 6 6) /\ w.heap.size <= g /\ Blk w' g 78 varCells /\ Below w.heap.size w w' := by
 go_enter Tryz.func32, Tryz.ntmps32;go_wp2_with fail;exact aZB (results_tmp rfl _ _ _) rfl ⟨_, rfl, Nat.le_refl _, Blk.new w _ _, bal (b0 w) _⟩
def plainP (n : Int) (k : Int) : Pr := ⟨n, k, 1, 1, 0, 0, 0, 0, 0, Sl.nil, Sl.nil⟩
theorem plainP_fit (n k : Int) : (plainP n k).Fit := by constructor <;> (unfold plainP; simp)
theorem plainP_chk (big : Bool) (n k : Nat) (h : 1 <= n /\ n <= bOf big) (hk : k <= bOf big) : chk (kOf big) (plainP n k) = 0 := by
 have e : mostOf (kOf big) = bOf big := by cases big <;> rfl
 have e0 : 0 < bOf big := by cases big <;> decide
 unfold chk;rw [e];unfold plainP Sl.nil
 dsimp only
 repeat rw [if_neg (by omega)]
def nm0 : ByteArray := ⟨#[98, 108, 97, 107, 101, 50, 98]⟩
def nm1 : ByteArray := ⟨#[98, 108, 97, 107, 101, 50, 115]⟩
def nm2 : ByteArray := ⟨#[98, 108, 97, 107, 101, 50, 98, 112]⟩
def nm3 : ByteArray := ⟨#[98, 108, 97, 107, 101, 50, 115, 112]⟩
def nm4 : ByteArray := ⟨#[98, 108, 97, 107, 101, 50, 120, 98]⟩
def nm5 : ByteArray := ⟨#[98, 108, 97, 107, 101, 50, 120, 115]⟩
def nmI (n : ByteArray) : Nat := if n = nm0 then 0 else if n = nm1 then 1 else if n = nm2 then 2 else if n = nm3 then 3 else if n = nm4 then 4 else if n = nm5 then 5 else 6
def nmBig (i : Nat) : Bool := decide (i % 2 = 0)
def nmMost (i : Nat) : Nat := if i = 4 then 65536 else if i = 5 then 65534 else bOf (nmBig i)
def nmHash (i : Nat) (size : Int) (key data : List UInt8) : List UInt8 × Int :=
  if i / 2 = 0 then ((hashL (nmBig i) (plainP size key.length) [] [] key false data).take size.toNat, 0)
  else if i / 2 = 1 then ((LP.mk (nmBig i) size key [] [] data).dig, 0)
  else takeS (kOf (nmBig i)) size key data 0 size
def nmS (i : Nat) (size : Int) (key data : List UInt8) : List UInt8 × Int :=
  if 6 <= i then ([], 171) else if size < 1 \/ (nmMost i : Int) < size then ([], 1) else if bOf (nmBig i) < key.length then ([], 8) else nmHash i size key data
def AnsN (R : List UInt8 × Int) (w : World) (r : Ending) (w' : World) : Prop :=
  ∃ A j c cc, r = .returned (.tuple #[.slice A j cc, .int .i64 R.2]) /\ R.1.length = j /\ OS cB w' w.heap.size A c R.1 /\ Below w.heap.size w w'
theorem bOf_64 (big : Bool) : bOf big <= 64 := by cases big <;> decide
theorem psize_any (big : Bool) (w : World) : Calls Tryz.prog 110 #[.int .i64 (kOf big)] w fun e w' => e = .returned (.tuple #[.int .i64 (bOf big : Nat), .int .i64 0]) /\ Below w.heap.size w w' := by
 have hs := fun W => sizes_any big W
 have HS := zH hs; clear hs;have hb : ((bOf big : Nat) : Int) ≠ 0 := by cases big <;> decide
 have t1 : (((bOf big : Nat) : Int) == 0) = false := by simpa using hb
 clear hb;generalize bOf big = B at *;generalize kOf big = K at *;go_enter Tryz.func110, Tryz.ntmps110;go_wp2_with (go_at_call 85; refine (HS _).mono ?_; rintro e1 w1 ⟨rfl, hb1⟩);exact aZB (aZG rfl _ _ _) rfl ⟨rfl, by first | exact hb1 | (subst hb1; exact b0 _)⟩
theorem plainM_any (big : Bool) (n : Nat) (key data : List UInt8) (Ak Ad : Option Addr) (nk ck nd cd : Nat) (w : World) (hn : 1 <= n /\ n <= bOf big) (hk : key.length = nk) (hkn : nk <= bOf big) (hrk : RS cB w w.heap.size Ak key) (hdl : data.length = nd) (hnd : nd <= cd) (hcd : cd <= 9223372036854775807) (hrd : RS cB w w.heap.size Ad data) :
  Calls Tryz.prog 91 #[.int .i64 (kOf big), .int .i64 n, .slice Ak nk ck, .slice none 0 0, .slice none 0 0, .slice Ad nd cd] w fun r w' => ∃ A' c', r = .returned (.tuple #[.slice A' n n, .int .i64 0]) /\ OS cB w' w.heap.size A' c' ((hashL big (plainP n nk) [] [] key false data).take n) /\ Below w.heap.size w w' := by
 have hs := fun (W : World) (h1 : RS cB W W.heap.size Ak key) (h2 : RS cB W W.heap.size Ad data) => hash_any big false n n (plainP n nk) [] [] key data Ak Ad nk ck nd cd W (plainP_chk big n nk hn hkn) (plainP_fit _ _) rfl rfl rfl (RS.nil _) (RS.nil _) hk (.inr rfl) h1 hdl hnd hcd h2 hn
 change ∀ W, _ -> _ -> Calls Tryz.prog _ #[_, .agg #[Value.int .i64 n, .int .i64 nk, .int .i64 1, .int .i64 1, .int .u32 0, .int .u64 0, .int .u32 0, .int .i64 0, .int .i64 0, .slice none 0 0, .slice none 0 0], _, _, _, _] W _ at hs;have hck := fun W => check_any (kOf big) (plainP n nk) W
 rw [plainP_chk big n nk hn hkn] at hck;change ∀ W, Calls Tryz.prog _ #[_, .agg #[Value.int .i64 n, .int .i64 nk, .int .i64 1, .int .i64 1, .int .u32 0, .int .u64 0, .int .u32 0, .int .i64 0, .int .i64 0, .slice none 0 0, .slice none 0 0]] W _ at hck;have hsz := fun W => psize_any big W
 generalize (hashL big (plainP n nk) [] [] key false data).take n = LS at *;have PS : Hid ((Tryz.prog.info? 81).map (·.size) = some (#[Value.int .i64 n, .int .i64 nk, .int .i64 1, .int .i64 1, .int .u32 0, .int .u64 0, .int .u32 0, .int .i64 0, .int .i64 0, .slice none 0 0, .slice none 0 0]).size) := Pr.size (plainP n nk);have PO : Hid ((#[Value.int .i64 n, .int .i64 nk, .int .i64 1, .int .i64 1, .int .u32 0, .int .u64 0, .int .u32 0, .int .i64 0, .int .i64 0, .slice none 0 0, .slice none 0 0]).all (·.oneCell') = true) := Pr.ones (plainP n nk);have HS := zH hs; have HCK := zH hck; have HSZ := zH hsz; have HRK := zH hrk; have HRD := zH hrd; clear hs hck hsz hrk hrd hk hdl hnd hcd;have hu := zH Tryz.underlying81;clear hn hkn;generalize kOf big = K at *;go_enter Tryz.func91, Tryz.ntmps91;go_wp2_with fail;refine (HSZ _).mono ?_;rintro e1 w1 ⟨rfl, hb1⟩;have HB1 := zH hb1;clear hb1;go_upto_region 5 with (refine wpList_store_row rfl 81 _ _ rfl w1.heap.size #[Value.int .i64 n, .int .i64 nk, .int .i64 1, .int .i64 1, .int .u32 0, .int .u64 0, .int .u32 0, .int .i64 0, .int .i64 0, .slice none 0 0, .slice none 0 0] rfl rfl 81 zcs (Blk.new _ _ _) PS rfl PO ?_)
 have HG := zH ((Blk.new w1 81 zcs).row #[Value.int .i64 n, .int .i64 nk, .int .i64 1, .int .i64 1, .int .u32 0, .int .u64 0, .int .u32 0, .int .i64 0, .int .i64 0, .slice none 0 0, .slice none 0 0]);have HB := zH (bcall HB1 (brow (bal (b0 w1) (.cells zcs 81)) (Nat.le_refl _) #[Value.int .i64 n, .int .i64 nk, .int .i64 1, .int .i64 1, .int .u32 0, .int .u64 0, .int .u32 0, .int .i64 0, .int .i64 0, .slice none 0 0, .slice none 0 0]));have hz : zcs = #[.int .i64 0, .int .i64 0, .int .i64 0, .int .i64 0, .int .u32 0, .int .u64 0, .int .u32 0, .int .i64 0, .int .i64 0, .slice none 0 0, .slice none 0 0] := rfl
 (try rw [<- hz])
 clear hz;generalize (w1.alloc (.cells zcs 81)).setRow w1.heap.size #[Value.int .i64 n, .int .i64 nk, .int .i64 1, .int .i64 1, .int .u32 0, .int .u64 0, .int .u32 0, .int .i64 0, .int .i64 0, .slice none 0 0, .slice none 0 0] = u at *;go_wp2_with (first
  | (refine wpList_load_row rfl 81 _ rfl w1.heap.size rfl 81 #[Value.int .i64 n, .int .i64 nk, .int .i64 1, .int .i64 1, .int .u32 0, .int .u64 0, .int .u32 0, .int .i64 0, .int .i64 0, .slice none 0 0, .slice none 0 0] (0, 0) _ HG hu.out rfl PS ?_)
  | (go_at_call 58; refine (HCK _).mono ?_; rintro e2 u ⟨rfl, hb2⟩; replace HG := zH (HG.below hb2 HG.lt); replace HB := zH (bcall HB hb2); clear hb2)
  | (go_at_call 67; refine (HS _ ((HRK.below HB).more HB.size) ((HRD.below HB).more HB.size)).mono ?_; rintro e3 w3 ⟨A3, c3, rfl, ho3, hb3⟩; have HO3 := zH ho3; have HB3 := zH (bcall HB hb3); clear hb3))
 exact aZB (aZG rfl _ _ _) rfl ⟨A3, c3, rfl, HO3.mono HB.size, HB3.out⟩
theorem plainN_any (big : Bool) (n : Nat) (key data : List UInt8) (Ak Ad : Option Addr) (nk ck nd cd : Nat) (w : World) (hn : 1 <= n /\ n <= bOf big) (hk : key.length = nk) (hkn : nk <= bOf big) (hrk : RS cB w w.heap.size Ak key) (hdl : data.length = nd) (hnd : nd <= cd) (hcd : cd <= 9223372036854775807) (hrd : RS cB w w.heap.size Ad data) :
  Calls Tryz.prog 49 #[.int .i64 (kOf big), .int .i64 n, .slice Ak nk ck, .slice Ad nd cd] w fun r w' => ∃ A' c', r = .returned (.tuple #[.slice A' n n, .int .i64 0]) /\ OS cB w' w.heap.size A' c' ((hashL big (plainP n nk) [] [] key false data).take n) /\ Below w.heap.size w w' := by
 have hd := plainM_any big n key data Ak Ad nk ck nd cd w hn hk hkn hrk hdl hnd hcd hrd;generalize (hashL big (plainP n nk) [] [] key false data).take n = LS at *;have hm : Calls Tryz.prog 70 #[.int .i64 (kOf big), .int .i64 n, .slice Ak nk ck, .slice none 0 0, .slice none 0 0, .slice Ad nd cd] w fun r w' => ∃ A' c', r = .returned (.tuple #[.slice A' n n, .int .i64 0]) /\ OS cB w' w.heap.size A' c' LS /\ Below w.heap.size w w' := by
  have HD := zH hd; clear hd hrk hrd hn hk hkn hdl hnd hcd;generalize kOf big = K at *;go_enter Tryz.func70, Tryz.ntmps70;go_wp2_with (go_at_call 91; refine HD.mono ?_; rintro e1 w1 ⟨A1, c1, rfl, ho1, hb1⟩);exact aZB (aZG rfl _ _ _) rfl ⟨A1, c1, rfl, ho1, hb1⟩
 have HM := zH hm; clear hm hd hrk hrd hn hk hkn hdl hnd hcd;generalize kOf big = K at *;go_enter Tryz.func49, Tryz.ntmps49;go_wp2_with (go_at_call 70; refine HM.mono ?_; rintro e1 w1 ⟨A1, c1, rfl, ho1, hb1⟩);exact aZB (aZG rfl _ _ _) rfl ⟨A1, c1, rfl, ho1, hb1⟩
theorem LP.err_plain (big : Bool) (n : Nat) (key data : List UInt8) (hn : 1 <= n /\ n <= bOf big) (hk : key.length <= bOf big) : (LP.mk big n key [] [] data).err = 0 := by
 unfold LP.err LP.par lanePar chk
 dsimp only
 have e : mostOf (kOf big) = bOf big := by cases big <;> rfl
 have e0 : 0 < bOf big := by cases big <;> decide
 have e8 := lnOf_pos big;rw [e];rw [if_neg (by omega), if_neg (by omega), if_neg (by omega), if_neg (by omega), if_neg (by omega)];simp;omega
theorem laneN_any (big : Bool) (n : Nat) (key data : List UInt8) (Ak Ad : Option Addr) (nk ck nd cd : Nat) (w : World) (hn : 1 <= n /\ n <= bOf big) (hk : key.length = nk) (hkn : nk <= bOf big) (hrk : RS cB w w.heap.size Ak key) (hdl : data.length = nd) (hnd : nd <= cd) (hcd : cd <= 9223372036854775807) (hnd2 : nd <= 140737488351232) (hrd : RS cB w w.heap.size Ad data) :
  Calls Tryz.prog 50 #[.int .i64 (kOf big), .int .i64 n, .slice Ak nk ck, .slice Ad nd cd] w fun r w' => ∃ A' c', r = .returned (.tuple #[.slice A' n n, .int .i64 0]) /\ OS cB w' w.heap.size A' c' (LP.mk big n key [] [] data).dig /\ Below w.heap.size w w' := by
 have h64 := bOf_64 big;have hd := ldigest_any (LP.mk big n key [] [] data) (LP.err_plain big n key data hn (by omega)) ⟨Ak, nk, ck⟩ ⟨none, 0, 0⟩ ⟨none, 0, 0⟩ ⟨Ad, nd, cd⟩ w ⟨hk, rfl, rfl, hdl, by show nk <= _; omega, by decide, by decide, hnd2, ⟨hnd, hcd⟩, hrk, RS.nil _, RS.nil _, hrd⟩;dsimp only [Int.toNat_natCast] at hd;generalize (LP.mk big n key [] [] data).dig = LS at *;have HD := zH hd; clear hd hrk hrd hn hk hkn hdl hnd hcd hnd2 h64;generalize kOf big = K at *;go_enter Tryz.func50, Tryz.ntmps50;go_wp2_with (go_at_call 71; refine HD.mono ?_; rintro e1 w1 ⟨A1, c1, rfl, ho1, hb1⟩);exact aZB (aZG rfl _ _ _) rfl ⟨A1, c1, rfl, ho1, hb1⟩
theorem streamN_any (k size : Int) (key data : List UInt8) (Ak Ad : Option Addr) (nk ck nd cd : Nat) (w : World) (hk : key.length = nk) (hrk : RS cB w w.heap.size Ak key) (hdl : data.length = nd) (hnd : nd <= cd) (hcd : cd <= 9223372036854775807) (hrd : RS cB w w.heap.size Ad data) :
  Calls Tryz.prog 51 #[.int .i64 k, .int .i64 size, .slice Ak nk ck, .slice Ad nd cd] w (AnsN (takeS k size key data 0 size) w) := by
 have hd := xTake_any k size key data Ak Ad nk ck nd cd 0 size w hk hrk hdl hnd hcd hrd (by decide);generalize takeS k size key data 0 size = R at *;unfold AnsN;have HD := zH hd; clear hd hrk hrd hk hdl hnd hcd;go_enter Tryz.func51, Tryz.ntmps51;go_wp2_with (go_at_call 72; refine HD.mono ?_; rintro e1 w1 ⟨A1, j1, c1, rfl, hl1, hj1, ho1, hb1⟩);exact aZB (aZG rfl _ _ _) rfl ⟨A1, j1, c1, c1, rfl, hl1, ho1, hb1⟩
end Go.Proofs.YtmapfcdffklopaaGreat

/-
  Z31: contracts and lemmas alone; no statement is claimed here.
-/
import Derived.Test.YtmapfcdffklopaaGreatZx
import Derived.Test.YtmapfcdffklopaaGreatZxb
import Derived.Test.YtmapfcdffklopaaGreatZ29
import Derived.Test.YtmapfcdffklopaaGreatZ14
import Derived.Test.YtmapfcdffklopaaGreatZ20
set_option maxHeartbeats 2000000
set_option maxRecDepth 20000
namespace Go.Proofs.YtmapfcdffklopaaGreat
open _root_.Nat renaming le_refl → aZC
open Lib renaming hid -> zH
open Go.RowKit
attribute [local go_sem] pureUpon Ords.of
theorem refHashS_any (k : Int) (last : Bool) (m : Int) (p : Pr) (ls lp key data : List UInt8) (Ak Ad : Option Addr) (nk ck nd cd : Nat) (w : World) (hf : p.Fit) (hls : ls.length = p.salt.n) (hlp : lp.length = p.pers.n) (hrs : RS cB w w.heap.size p.salt.A ls) (hrp : RS cB w w.heap.size p.pers.A lp)
  (hk : key.length = nk) (hrk : RS cB w w.heap.size Ak key) (hdl : data.length = nd) (hnd : nd <= 140737488355200) (hrd : RS cB w w.heap.size Ad data) :
  Calls Tryz.prog 34 #[.int .i64 k, p.v, .slice Ak nk ck, .bool last, .int .i64 m, .slice Ad nd cd] w fun r w' => ∃ A n c cc, r = .returned (.tuple #[.slice A n cc, .int .i64 (hashS k p ls lp key last m data).2]) /\ (hashS k p ls lp key last m data).1.length = n /\ n <= cc /\ OS cB w' w.heap.size A c (hashS k p ls lp key last m data).1 /\ Below w.heap.size w w' := by
 refine hash_ways (P := fun R => Calls Tryz.prog 34 #[.int .i64 k, p.v, .slice Ak nk ck, .bool last, .int .i64 m, .slice Ad nd cd] w fun r w' => ∃ A n c cc, r = .returned (.tuple #[.slice A n cc, .int .i64 R.2]) /\ R.1.length = n /\ n <= cc /\ OS cB w' w.heap.size A c R.1 /\ Below w.heap.size w w') k p ls lp key last m data ?_ ?_ ?_ ?_
 ·intro hc
  exact (refHashBad_any k last m p Ak Ad nk ck nd cd w hc).mono fun r w' ⟨h1, h2⟩ => ⟨none, 0, 0, 0, h1, rfl, aZC _, OS.nil _ _ _ rfl, h2⟩
 ·rintro big rfl hc h1 h2
  exact (refHashKey_any (kOf big) last m p Ak Ad nk ck nd cd w hc (by rw [<- hk]; exact h1) (by rw [<- hk]; exact h2)).mono fun r w' ⟨h1, h2⟩ => ⟨none, 0, 0, 0, h1, rfl, aZC _, OS.nil _ _ _ rfl, h2⟩
 ·rintro big rfl hc h1 h2
  exact (refHashOut_any big last m p ls lp key Ak Ad nk ck nd cd w hc hrs hrp hk (by rw [<- hk]; exact h1) hrk h2).mono fun r w' ⟨h1, h2⟩ => ⟨none, 0, 0, 0, h1, rfl, aZC _, OS.nil _ _ _ rfl, h2⟩
 ·rintro big rfl hc h1 n rfl hn
  exact (refHash_any big last n p ls lp key data Ak Ad nk ck nd cd w hc hf hls hlp hrs hrp hk (by rw [<- hk]; exact h1) hrk hdl hnd hrd hn).mono fun r w' ⟨A, c, cc, h1, h0, h2, h3⟩ => ⟨A, n, c, cc, h1, by rw [List.length_take, hashL_len]; omega, h0, h2, h3⟩
theorem refNormalNo_any (k : Int) (p : Pr) (w : World) (hc : chk k p ≠ 0) :
  Calls Tryz.prog 127 #[.int .i64 k, p.v] w fun r w' => r = .returned (.tuple #[zeroPar.v, .int .i64 (chk k p)]) /\ Below w.heap.size w w' := by open kA in exact zS23
theorem refNormal_any (k : Int) (p : Pr) (ls lp : List UInt8) (w : World) (hc : chk k p = 0) (hls : ls.length = p.salt.n) (hlp : lp.length = p.pers.n) (h1 : p.salt.n <= 1024) (h2 : p.pers.n <= 1024) (hrs : RS cB w w.heap.size p.salt.A ls) (hrp : RS cB w w.heap.size p.pers.A lp) :
  Calls Tryz.prog 127 #[.int .i64 k, p.v] w fun r w' => ∃ (A1 : Option Addr) (t1 c1 : Nat) (A2 : Option Addr) (t2 c2 : Nat), r = .returned (.tuple #[(p.slk ⟨A1, t1, c1⟩ ⟨A2, t2, c2⟩).v, .int .i64 0]) /\ Trim ls t1 /\ Trim lp t2 /\ OS cB w' w.heap.size A1 c1 (ls.take t1) /\ OS cB w' w.heap.size A2 c2 (lp.take t2) /\ Below w.heap.size w w' := by exact zS23
end Go.Proofs.YtmapfcdffklopaaGreat

/-
  Z40: contracts and lemmas alone; no statement is claimed here.
-/
import Derived.Test.YtmapfcdffklopaaGreatZx
import Derived.Test.YtmapfcdffklopaaGreatZxb
import Derived.Test.YtmapfcdffklopaaGreatZ37
set_option maxHeartbeats 4000000
set_option maxRecDepth 20000
namespace Go.Proofs.YtmapfcdffklopaaGreat
open Go renaming setRow_other → bZC
open _root_.List renaming length_take → aZJ
open Go renaming results_tmp2 → aZG
open Go renaming wpList_store_row → aZE
open Go renaming bodyPost_ret → aZB
open Lib renaming hid -> zH
open Go.RowKit
attribute [local go_sem] pureUpon Ords.of
theorem hashS_dec {big ext : Bool} {b : List UInt8} {s t : Sl} (key : List UInt8) (last : Bool) (m : Int) (data : List UInt8) (h : decOk big ext b) (h1 : Trim (s1L big b) s.n) (h2 : Trim (s2L big b) t.n) (hs : 4 * s.n <= bOf big) (ht : 4 * t.n <= bOf big) (hk : key.length = 0 \/ key.length = fld b 1 1) :
  hashS (kOf big) (decPr big ext b s t) ((s1L big b).take s.n) ((s2L big b).take t.n) key last m data = callS (kOf big) b key last m data := by
 have hc := chk_dec h s t hs ht;have hb : blkOk big b := by cases ext; exact .inl h; exact .inr h
 have hkk : ¬ (key.length ≠ 0 /\ (key.length : Int) ≠ (decPr big ext b s t).key) := by
  rintro ⟨a, b2⟩;exact b2 (by rw [hk.resolve_left a]; rfl)
 have hl : ∀ kk, hashL kk (decPr big ext b s t) ((s1L big b).take s.n) ((s2L big b).take t.n) key last data = ((startK kk (encL kk (decPr big ext b s t) ((s1L big b).take s.n) ((s2L big b).take t.n)) key).feed data).out last := fun _ => rfl
 have he : encL big (decPr big ext b s t) ((s1L big b).take s.n) ((s2L big b).take t.n) = b := encL_dec s t h h1 h2;unfold hashS callS;rw [if_neg (fun h => h hc), if_neg hkk, kOf_is, if_neg (c := kOf big ≠ 1 /\ kOf big ≠ 2) (by cases big <;> decide), if_neg (c := ¬ blkOk big b) (fun h => h hb), if_neg (c := key.length ≠ 0 /\ key.length ≠ fld b 1 1) (by omega), hl, he]
theorem Trim.le4 {big : Bool} {b : List UInt8} {t : Nat} (h : Trim (s1L big b) t) : t <= bOf big / 4 := by
 have h1 := h.1;unfold s1L at h1;rw [aZJ] at h1;omega
theorem Trim.le4' {big : Bool} {b : List UInt8} {t : Nat} (h : Trim (s2L big b) t) : t <= bOf big / 4 := by
 have h1 := h.1;unfold s2L at h1;rw [aZJ] at h1;omega
theorem refCallKind_any (k : Int) (sb sk sd : Sl) (last : Bool) (m : Int) (w : World) (h1 : k ≠ 1) (h2 : k ≠ 2) :
  Calls Tryz.prog 56 #[.agg (callV k sb sk sd last m)] w fun r w' => r = .returned (.tuple #[.slice none 0 0, .int .i64 1]) /\ Below w.heap.size w w' := by
 have t1 : (k != 1) = true := by simpa using h1
 have t2 : (k != 2) = true := by simpa using h2
 unfold callV;clear h1 h2;go_enter Tryz.func56, Tryz.ntmps56;go_wp2;exact aZB (aZG rfl _ _ _) rfl ⟨rfl, bal (b0 w) _⟩
theorem refCallNo_any (big last : Bool) (m : Int) (sb sk sd : Sl) (b key data : List UInt8) (w : World) (hok : ¬ blkOk big b) (hin : CallIn w sb sk sd b key data) :
  Calls Tryz.prog 56 #[.agg (callV (kOf big) sb sk sd last m)] w fun r w' => r = .returned (.tuple #[.slice none 0 0, .int .i64 4]) /\ Below w.heap.size w w' := by open kC in exact zS14
theorem refCallKey_any (big last : Bool) (m : Int) (sb sk sd : Sl) (b key data : List UInt8) (w : World) (hok : blkOk big b) (hin : CallIn w sb sk sd b key data) (h1 : sk.n ≠ 0) (h2 : sk.n ≠ fld b 1 1) :
  Calls Tryz.prog 56 #[.agg (callV (kOf big) sb sk sd last m)] w fun r w' => r = .returned (.tuple #[.slice none 0 0, .int .i64 8]) /\ Below w.heap.size w w' := by open kA in exact zS14
theorem refCall_any (big last : Bool) (m : Int) (sb sk sd : Sl) (b key data : List UInt8) (w : World) (hok : blkOk big b) (hin : CallIn w sb sk sd b key data) (h47 : sd.n <= 140737488355200) (hkey : sk.n = 0 \/ sk.n = fld b 1 1) :
  Calls Tryz.prog 56 #[.agg (callV (kOf big) sb sk sd last m)] w fun r w' => ∃ A n c cc, r = .returned (.tuple #[.slice A n cc, .int .i64 (callS (kOf big) b key last m data).2]) /\ (callS (kOf big) b key last m data).1.length = n /\ n <= cc /\ OS cB w' w.heap.size A c (callS (kOf big) b key last m data).1 /\ Below w.heap.size w w' := by open kB in exact zS14
theorem refCallS_any (k : Int) (last : Bool) (m : Int) (sb sk sd : Sl) (b key data : List UInt8) (w : World) (hin : CallIn w sb sk sd b key data) (h47 : sd.n <= 140737488355200) :
  Calls Tryz.prog 56 #[.agg (callV k sb sk sd last m)] w fun r w' => ∃ A n c cc, r = .returned (.tuple #[.slice A n cc, .int .i64 (callS k b key last m data).2]) /\ (callS k b key last m data).1.length = n /\ n <= cc /\ OS cB w' w.heap.size A c (callS k b key last m data).1 /\ Below w.heap.size w w' := by
 have hl := hin.kl
 by_cases hg : ∃ big, k = kOf big /\ blkOk big b /\ (key.length = 0 \/ key.length = fld b 1 1)
 ·obtain ⟨big, rfl, h1, h2⟩ := hg
  exact refCall_any big last m sb sk sd b key data w h1 hin h47 (by rw [<- hl]; exact h2)
 ·refine call_ways (P := fun R => Calls Tryz.prog 56 #[.agg (callV k sb sk sd last m)] w fun r w' => ∃ A n c cc, r = .returned (.tuple #[.slice A n cc, .int .i64 R.2]) /\ R.1.length = n /\ n <= cc /\ OS cB w' w.heap.size A c R.1 /\ Below w.heap.size w w') k b key last m data ?_ ?_ ?_ ?_ ?_
  ·intro h1 h2
   exact (refCallKind_any k sb sk sd last m w h1 h2).mono fun r w' ⟨h1, h2⟩ => ⟨none, 0, 0, 0, h1, rfl, Nat.le_refl _, OS.nil _ _ _ rfl, h2⟩
  ·rintro big rfl hb
   exact (refCallNo_any big last m sb sk sd b key data w hb hin).mono fun r w' ⟨h1, h2⟩ => ⟨none, 0, 0, 0, h1, rfl, Nat.le_refl _, OS.nil _ _ _ rfl, h2⟩
  ·rintro big rfl hb h1 h2
   exact (refCallKey_any big last m sb sk sd b key data w hb hin (by rw [<- hl]; exact h1) (by rw [<- hl]; exact h2)).mono fun r w' ⟨h1, h2⟩ => ⟨none, 0, 0, 0, h1, rfl, Nat.le_refl _, OS.nil _ _ _ rfl, h2⟩
  ·intro big h1 h2 h3
   exact absurd ⟨big, h1, h2, h3⟩ hg
  ·intro big h1 h2 h3
   exact absurd ⟨big, h1, h2, h3⟩ hg
end Go.Proofs.YtmapfcdffklopaaGreat

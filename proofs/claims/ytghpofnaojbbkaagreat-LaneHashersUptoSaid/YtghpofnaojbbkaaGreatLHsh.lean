/-
  LaneHashers: the digest by the document; what is left over. Contracts alone; no statement is claimed here.
-/
import Derived.Test.YtghpofnaojbbkaaGreatMHx
import Derived.Test.YtghpofnaojbbkaaGreatLRtP
import Derived.Test.YtghpofnaojbbkaaGreatLCalR
import Derived.Test.YtghpofnaojbbkaaGreatBu3
namespace Go.Proofs.YtghpofnaojbbkaaGreat
open Go.RowKit
attribute [local go_sem] pureUpon Ords.of

theorem refDigestErr_any (k : Int) (d a b c e : Value) (E : Int) (hE : E ≠ 0) (w : World)
  (h : Calls Tryz.prog 18 #[.int .i64 k, d, a, b, c, e] w fun r w' => r = .returned (.tuple #[.slice none 0 0, .int .i64 E]) ∧ Below w.heap.size w w') :
  Calls Tryz.prog 6 #[.int .i64 k, d, a, b, c, e] w fun r w' => r = .returned (.tuple #[.slice none 0 0, .int .i64 E]) ∧ Below w.heap.size w w' := by
 have te : (E != 0) = true := by simpa using hE
 have HS := Lib.hid h; clear h hE
 go_enter Tryz.func6, Tryz.ntmps6
 go_wp2_with fail
 refine HS.out.mono ?_
 rintro e w1 ⟨rfl, hb1⟩
 go_wp2_with fail
 exact bodyPost_ret (results_tmp2 rfl _ _ _) rfl ⟨rfl, hb1⟩
set_option maxRecDepth 20000 in
set_option maxHeartbeats 2000000 in
theorem refDigest_any (P : LP) (he : P.err = 0) (sk ss sp sd : Sl) (w : World) (h : LIn w P sk ss sp sd) :
  Calls Tryz.prog 6 #[.int .i64 (kOf P.big), .int .i64 P.digest, .slice sk.A sk.n sk.c, .slice ss.A ss.n ss.c, .slice sp.A sp.n sp.c, .slice sd.A sd.n sd.c] w fun r w' => ∃ A n c cc, r = .returned (.tuple #[.slice A n cc, .int .i64 0]) ∧ P.dig.length = n ∧ n ≤ cc ∧ OS cB w' w.heap.size A c P.dig ∧ Below w.heap.size w w' := by
 have hc := rcalls_any P sk ss sp sd w h he
 have hro := P.root_out he
 have hcr := P.call_root
 have h88 := lnOf_pos P.big
 have hol := P.outs_le (lnOf P.big)
 have hca := fun (x : CC) (W : World) (h : CIn W (kOf P.big) x (P.call (lnOf P.big))) h2 => refCallC_any (kOf P.big) x (P.call (lnOf P.big)) W h h2
 rw [hcr, hro] at hca
 rw [hcr.symm] at hca
 obtain ⟨n, hn⟩ : ∃ n, n = lnOf P.big := ⟨_, rfl⟩
 have HCR := Lib.hid hcr
 rw [← hn] at hc h88 hca hol
 have HCA := Lib.hid hca; have HC := Lib.hid hc; have HN := Lib.hid hn; have HOL := Lib.hid hol
 clear hc hro hcr hca h he hn hol
 have hcu := Lib.hid Tryz.underlying61
 go_enter Tryz.func6, Tryz.ntmps6
 go_wp2_with fail
 refine HC.out.mono ?_
 rintro e1 w1 ⟨A5, c5, L5, rfl, hco5, hl5, hci5, hb5⟩
 obtain ⟨g5, rfl⟩ := hco5.whole (by rw [hl5]; exact Nat.succ_pos _)
 obtain ⟨x, hx⟩ : ∃ x, L5[n]? = some x := ⟨_, List.getElem?_eq_getElem (by rw [hl5]; omega)⟩
 have hxi := hci5 n x hx
 have hr5 := hco5.at_ hx
 have hg5 : g5 < w1.heap.size := (hco5.block_lt _ rfl).2
 have hdn : x.data.n ≤ 140737488355200 := by
  have h1 := hxi.inn.dl
  rw [HN.out, HCR.out] at h1
  have h2 : P.root.data.length = (P.outs (lnOf P.big)).length := rfl
  have h3 := HOL.out
  rw [HN.out] at h3
  rw [h2] at h1
  have h4 := HN.out
  omega
 have HX := Lib.hid (HCA.out x w1 hxi hdn)
 have HB := Lib.hid hb5
 clear hco5 hl5 hci5 hb5 hx hxi hdn HC
 have z0 : w1.cell? ⟨g5, n * 6, none⟩ = some (.int .i64 x.k) := hr5 0 _ rfl
 have z1 : w1.cell? ⟨g5, n * 6 + 1, none⟩ = some (.slice x.b.A x.b.n x.b.c) := hr5 1 _ rfl
 have z2 : w1.cell? ⟨g5, n * 6 + 2, none⟩ = some (.slice x.key.A x.key.n x.key.c) := hr5 2 _ rfl
 have z3 : w1.cell? ⟨g5, n * 6 + 3, none⟩ = some (.bool x.last) := hr5 3 _ rfl
 have z4 : w1.cell? ⟨g5, n * 6 + 4, none⟩ = some (.int .i64 x.m) := hr5 4 _ rfl
 have z5 : w1.cell? ⟨g5, n * 6 + 5, none⟩ = some (.slice x.data.A x.data.n x.data.c) := hr5 5 _ rfl
 clear hr5
 have i9 : (n : Int) < ((n + 1 : Nat) : Int) := by omega
 have hn1 : ((n + 1 : Nat) : Int) - 1 = (n : Int) := by omega
 go_wp2_with fail
 refine HX.out.mono ?_
 rintro r7 w7 ⟨A7, n7, c7, cc7, rfl, hl7, hn7, ho7, hb7⟩
 have HL7 := Lib.hid hl7; have HN7 := Lib.hid hn7; have HO7 := Lib.hid (ho7.mono HB.out.size); have HB7 := Lib.hid (bcall HB.out hb7)
 clear hl7 hn7 ho7 hb7
 go_wp2_with fail
 exact bodyPost_ret (results_tmp2 rfl _ _ _) rfl ⟨A7, n7, c7, cc7, rfl, HL7.out, HN7.out, HO7.out, HB7.out⟩
theorem refTaken_any (big : Bool) (t : Nat) (ht : t < 18446744073709551616) (w : World) :
  Calls Tryz.prog 15 #[.int .i64 (kOf big), .int .u64 t] w fun r w' => r = .returned (.tuple #[.int .u64 t, .int .i64 (t / blOf big % lnOf big : Nat)]) ∧ Below w.heap.size w w' := by
 have hcn := fun W => rcount_of big W
 have hbl := fun W => rblock_of big W
 have h8 := lnOf_pos big
 obtain ⟨-, -, hb0, hb8⟩ := taken_facts big 0
 obtain ⟨n, hn⟩ : ∃ n, n = lnOf big := ⟨_, rfl⟩
 obtain ⟨b, hb⟩ : ∃ n, n = blOf big := ⟨_, rfl⟩
 rw [← hn] at hcn h8 ⊢
 rw [← hb] at hbl hb0 hb8 ⊢
 obtain ⟨i, hi⟩ : ∃ i, i = t / b % n := ⟨_, rfl⟩
 obtain ⟨q, hq⟩ : ∃ q, q = t / b := ⟨_, rfl⟩
 have n1 : (t : Int) / (b : Int) = (q : Int) := by rw [hq]; rfl
 have n2 : (t : Int).tdiv (b : Int) = (q : Int) := by rw [hq]; rfl
 have n3 : (q : Int) % (n : Int) = (i : Int) := by rw [hi, hq]; rfl
 have n4 : (q : Int).tmod (n : Int) = (i : Int) := by rw [hi, hq]; rfl
 have hi8 : i < 8 := by have := Nat.mod_lt (t / b) (show n > 0 by omega); omega
 rw [← hi]
 have hwi : IntKind.i64.wrap (i : Int) = i := by clear n1 n2 n3 n4; simp [IntKind.wrap, IntKind.bits, IntKind.signed]; omega
 have hwb : IntKind.u64.wrap (b : Int) = b := by clear n1 n2 n3 n4; rw [wrap_u64]; omega
 have hwn : IntKind.u64.wrap (n : Int) = n := by clear n1 n2 n3 n4; rw [wrap_u64]; omega
 have hwj : IntKind.u64.wrap (i : Int) = i := by clear n1 n2 n3 n4; rw [wrap_u64]; omega
 have hwq : IntKind.u64.wrap (q : Int) = q := by clear n1 n2 n3 n4; have : q ≤ t := (by rw [hq]; exact Nat.div_le_self _ _); rw [wrap_u64]; omega
 have hbz : ¬ b = 0 := by omega
 have hnz : ¬ n = 0 := by omega
 have HC := Lib.hid hcn; have HL := Lib.hid hbl
 clear hcn hbl hi hq hn hb
 go_enter Tryz.func15, Tryz.ntmps15
 go_wp2_with fail
 refine wp_region_B (Ords.of [(0, 0), (0, 1), (0, 2), (0, 6), (2, 3), (0, 4), (0, 5), (2, 7), (0, 8), (0, 9), (0, 10), (0, 11), (0, 12)] .fin) (by kernel_rfl) rfl (by kernel_rfl) (by kernel_rfl) (fun c a d v w h => by cases d <;> exact h) ?_
 iterate 4 (refine ords_pure rfl (fun K hK => ?_); go_simp; refine hK _ ?_; clear hK K)
 refine ords_loud rfl (fun n1 => ?_)
 go_wp2_with (go_at_call 26; refine (HL.out _).mono ?_; rintro e3 w3 ⟨rfl, rfl⟩)
 refine ⟨bdr (b0 _) _, ?_⟩
 go_simp
 iterate 2 (refine ords_pure rfl (fun K hK => ?_); go_simp; refine hK _ ?_; clear hK K)
 refine ords_loud rfl (fun n2 => ?_)
 go_wp2_with (go_at_call 27; refine (HC.out _).mono ?_; rintro e3 w3 ⟨rfl, rfl⟩)
 refine ⟨bdr (b0 _) _, ?_⟩
 go_simp
 iterate 5 (refine ords_pure rfl (fun K hK => ?_); go_simp; refine hK _ ?_; clear hK K)
 refine ords_end (fun n3 => ?_)
 go_wp2_with fail
 exact bodyPost_ret (results_tmp2 rfl _ _ _) rfl ⟨rfl, by first | exact bdr (b0 w) _ | exact bdr (bdr (b0 w) _) _ | exact bdr (bdr (bdr (b0 w) _) _) _⟩
end Go.Proofs.YtghpofnaojbbkaaGreat

/-
  Blocks as words, by the program. Contracts alone; no statement is claimed here.
-/
import Derived.Test.YtnkngaicegcejaaMixP
import Derived.Test.YtnkngaicegcejaaLoad
import Derived.Test.YtnkngaicegcejaaStore
import Derived.Outline
import Derived.Deep.CutRange
namespace Go.Proofs.Ytnkngaicegcejaa
open Go.RowKit
attribute [local go_sem] pureUpon Ords.of

theorem wcs_len (l : List UInt64) (n : Nat) (h : l.length = n) : (wcs l).size = n := by rw [wcs_size, h]
/-- a row of words that is filled from the left -/
def fillW (z : List UInt64) (k n : Nat) : List UInt64 := z.take k ++ List.replicate (n - k) 0

theorem fillW_put (z : List UInt64) (k n : Nat) (v : UInt64) (hk : k < n) (hz : z[k]? = some v) : (wcs (fillW z k n)).setIfInBounds k (wv v) = wcs (fillW z (k + 1) n) := by
  rw [wcs_set]; unfold fillW; rw [fill_put z k n 0 v hk hz]
theorem fillW_len (z : List UInt64) (k n : Nat) (hk : k ≤ n) (hz : z.length = n) : (fillW z k n).length = n := fill_len z k n 0 hk hz
theorem fillW_all (z : List UInt64) (n : Nat) (hz : z.length = n) : fillW z n n = z := by unfold fillW; rw [Nat.sub_self, List.replicate_zero, List.append_nil, List.take_of_length_le (by omega)]
theorem z128 : Try.zeroCells100 = wcs (fillW [] 0 128) := by kernel_rfl
theorem z128' (z : List UInt64) : Try.zeroCells100 = wcs (fillW z 0 128) := z128
theorem sz128 (z : List UInt64) (h : z.length = 128) : (Try.prog.info? 100).map (·.size) = some (wcs z).size := by rw [wcs_len z 128 h]; kernel_rfl
theorem sz16 (z : List UInt64) (h : z.length = 16) : (Try.prog.info? 35).map (·.size) = some (wcs z).size := by rw [wcs_len z 16 h]; kernel_rfl

set_option maxRecDepth 20000 in
set_option maxHeartbeats 1000000 in
theorem words_any (A : Option Addr) (c : Nat) (x : List UInt8) (w : World) (hx : x.length = 1024) (hr : RS cB w w.heap.size A x) :
    Calls Try.prog 65 #[.slice A 1024 c] w fun e w' => e = .returned (.agg (wcs (wordsOf x 128))) ∧ Below w.heap.size w w' := by
  have HX := Lib.hid hx; have HR := Lib.hid hr; clear hx hr
  have hz : (wordsOf x 128).length = 128 := wordsOf_len x 128
  have HZ := Lib.hid hz; clear hz
  go_enter Try.func65, Try.ntmps65
  go_upto_region 2 with fail
  obtain ⟨b, hb⟩ : ∃ b, b = w.heap.size := ⟨_, rfl⟩
  have h0 : Blk ((w.alloc (.cells Try.zeroCells100 100)).alloc (.cells Try.zeroCells100 100)) b 100 (wcs (fillW (wordsOf x 128) 0 128)) := by rw [hb, ← z128' (wordsOf x 128)]; exact (Blk.new _ _ _).alloc _
  have h1 : Blk ((w.alloc (.cells Try.zeroCells100 100)).alloc (.cells Try.zeroCells100 100)) (b + 1) 100 (wcs (fillW (wordsOf x 128) 0 128)) := by
    rw [hb, ← z128' (wordsOf x 128)]
    have := Blk.new (w.alloc (.cells Try.zeroCells100 100)) 100 Try.zeroCells100
    simpa using this
  have hw : Below w.heap.size w ((w.alloc (.cells Try.zeroCells100 100)).alloc (.cells Try.zeroCells100 100)) := bal (bal (b0 _) _) _
  rw [← hb]
  have HB := Lib.hid hb; clear hb
  generalize (w.alloc (.cells Try.zeroCells100 100)).alloc (.cells Try.zeroCells100 100) = w0 at *
  go_wp2_with fail
  go_loopw [5] (fun i wr => ∃ k : Nat, k ≤ 128 ∧ i = .int .i64 k ∧ Blk wr b 100 (wcs (fillW (wordsOf x 128) 0 128)) ∧ Blk wr (b + 1) 100 (wcs (fillW (wordsOf x 128) k 128)) ∧ Below w.heap.size w wr) (fun i _ => 128 - (intOf i).toNat)
  case atStart => exact ⟨0, by omega, rfl, h0, h1, hw⟩
  case round =>
    clear h0 h1 hw
    obtain ⟨k, hk, rfl, hb0, hb1, hbw⟩ := hrel
    have HB0 := Lib.hid hb0; have HB1 := Lib.hid hb1; clear hb0 hb1
    by_cases hlt : k < 128
    · have hl := load64_any A c 1024 (8 * k) w.heap.size x wr HX.out (by omega) (HR.out.below hbw) (by omega)
      have e8 : ((8 * k : Nat) : Int) = 8 * (k : Int) := by omega
      rw [e8] at hl
      obtain ⟨v, hv⟩ : ∃ v, v = word ((x.drop (8 * k)).take 8) := ⟨_, rfl⟩
      rw [← hv] at hl
      have HL := Lib.hid hl; have HV := Lib.hid hv; clear hl hv e8
      have gc : wr.cell? ⟨b + 1, k, none⟩ = some (wv ((fillW (wordsOf x 128) k 128).getD k 0)) := (HB1.out.cell k).trans (wcs_get _ _ (by rw [fillW_len _ _ _ hk HZ.out]; exact hlt))
      have gf : wr.frozen? ⟨b + 1, k, none⟩ = false := HB1.out.frozen k
      generalize wv ((fillW (wordsOf x 128) k 128).getD k 0) = old at gc
      go_wp2_with (go_at_call 83; refine HL.out.mono ?_; rintro e w1 ⟨rfl, rfl⟩)
      case roundEnd =>
        have hw2 : (wordsOf x 128)[k]? = some v := by rw [wordsOf_at x 128 k hlt, ← HV.out]
        have h1 := HB1.out.set_ k (wv v)
        rw [fillW_put _ k 128 v hlt hw2] at h1
        exact ⟨⟨k + 1, by omega, by go_num, HB0.out.far (p := ⟨b + 1, k, none⟩) (by simp) _, h1, bput hbw (by rw [HB.out]; simp) _⟩, by simp [intOf]; omega⟩
    · obtain rfl : k = 128 := by omega
      have h1 := HB1.out
      rw [fillW_all _ 128 HZ.out] at h1
      have H1 := Lib.hid h1; clear h1
      have S1 := Lib.hid (sz128 (wordsOf x 128) HZ.out)
      have S2 := Lib.hid (wcs_all (wordsOf x 128))
      have S3 : Hid ((wcs (fillW (wordsOf x 128) 0 128)).size = (wcs (wordsOf x 128)).size) := by show _ = _; rw [wcs_len _ 128 HZ.out, wcs_len _ 128 (fillW_len _ _ _ (by omega) HZ.out)]
      have U := Lib.hid Try.underlying100
      go_wp2_with (first
        | (refine wpList_load_row rfl 100 _ rfl (b + 1) rfl 100 (wcs (wordsOf x 128)) (0, 0) _ H1.out U.out rfl S1.out ?_)
        | (refine wpList_store_row rfl 100 _ _ rfl b (wcs (wordsOf x 128)) rfl rfl 100 (wcs (fillW (wordsOf x 128) 0 128)) HB0.out S1.out S3.out S2.out ?_))
      have hf := HB0.out.row (wcs (wordsOf x 128))
      exact bodyPost_ret (results_cell_row rfl _ _ b _ _ (0, 0) _ rfl hf U.out rfl S1.out) rfl ⟨rfl, brow hbw (by rw [HB.out]; exact Nat.le_refl _) _⟩

set_option maxRecDepth 20000 in
set_option maxHeartbeats 1000000 in
theorem laid_any (g : Nat) (z : List UInt64) (w : World) (hz : z.length = 128) (hg : Blk w g 100 (wcs z)) :
    Calls Try.prog 69 #[.pointer (some ⟨g, 0, none⟩)] w fun e w' => ∃ A c, e = .returned (.slice A 1024 c) ∧ OS cB w' w.heap.size A c (flat z) ∧ Below w.heap.size w w' := by
  have HZ := Lib.hid hz; have HG := Lib.hid hg; clear hz hg
  have hmk : ∀ (W : World), (Instr.makeSlice 22 (.int .i64 0) (.int .i64 1024)).run Try.prog W = .ok (.slice (some ⟨W.heap.size, 0, none⟩) 0 1024) (W.alloc (.cells (madeCells #[cB.zero] 1024) 5)) := fun (W : World) => run_makeS cB_ok .i64 .i64 0 1024 (by omega) (by show 1 * 1024 ≤ _; omega) (by omega) W
  go_enter Try.func69, Try.ntmps69
  go_wp2
  clear hmk
  go_loopw [3, 9] (fun o i wr => ∃ (k : Nat) (A : Option Addr) (c : Nat), k ≤ 128 ∧ i = .int .i64 k ∧ o = .slice A (8 * k) c ∧ OS cB wr w.heap.size A c (flat (z.take k)) ∧ Below w.heap.size w wr) (fun _ i _ => 128 - (intOf i).toNat)
  case atStart => exact ⟨0, _, 1024, by omega, rfl, rfl, OS.madeAt (cd := cB) w 0 1024 0 rfl (by omega) (by unfold maxLen; omega) (Nat.le_refl _) rfl, bal (b0 _) _⟩
  case round =>
    obtain ⟨k, A, c, hk, rfl, rfl, hos, hbw⟩ := hrel
    have HO := Lib.hid hos; clear hos
    by_cases hlt : k < 128
    · have hzk : z[k]? = some (z.getD k 0) := by rw [List.getD_eq_getElem?_getD, List.getElem?_eq_getElem (by rw [HZ.out]; exact hlt)]; rfl
      have gz : wr.cell? ⟨g, k, none⟩ = some (wv (z.getD k 0)) := ((HG.out.below hbw HG.out.lt).cell k).trans (wcs_get z k (by rw [HZ.out]; exact hlt))
      obtain ⟨v, hv⟩ : ∃ v, v = z.getD k 0 := ⟨_, rfl⟩
      rw [← hv] at gz hzk
      have hy2 : v.toNat < 18446744073709551616 := v.toNat_lt
      obtain ⟨y, hy⟩ : ∃ y : Nat, y = v.toNat := ⟨_, rfl⟩
      rw [← hy] at hy2
      have gz2 : wr.cell? ⟨g, k, none⟩ = some (.int .u64 (y : Int)) := by rw [gz]; unfold wv wrd; rw [hy]
      have HZK := Lib.hid hzk; have HY := Lib.hid hy; clear gz hzk hv hy
      obtain ⟨wo, rfl⟩ : ∃ wo : World, wo = wr := ⟨_, rfl⟩
      have hkd : decide ((k : Int) < 128) = true := by simp; omega
      go_wp2
      go_loopw [3, 6] (fun o i wr => ∃ (j s : Nat) (A : Option Addr) (c : Nat), j ≤ 8 ∧ s = 8 * j ∧ i = .int .i64 s ∧ o = .slice A (8 * k + j) c ∧ OS cB wr w.heap.size A c (flat (z.take k) ++ storeN y j) ∧ Below w.heap.size w wr) (fun _ i _ => 64 - (intOf i).toNat)
      case atStart => exact ⟨0, 0, A, c, by omega, rfl, rfl, rfl, by simpa [storeN] using HO.out, hbw⟩
      case round =>
        obtain ⟨j, s, A2, c2, hj, hs, rfl, rfl, hos2, hbw2⟩ := hrel
        have HO2 := Lib.hid hos2; clear hos2
        by_cases hj8 : j < 8
        · have hb := storeN_byte y j
          rw [← hs] at hb
          have HS := Lib.hid hs; have hs64 : s < 64 := by omega
          clear hs
          have hl : Hid ((flat (z.take k) ++ storeN y j).length = 8 * k + j) := by show _ = _; rw [List.length_append, flat_len, storeN_len, List.length_take]; have := HZ.out; omega
          go_wp2_with (at_builtin; refine wpList_appB1 _ rfl (.tmp 18) (.tmp 23) rfl (HO2.out.alloc _) rfl hl.out rfl (cnew _ _ _ rfl) (UInt8.ofNat (y / 256 ^ j % 256)) rfl (by omega) (by have := hbw2.size; simp; omega) ?_; intro A3 c3 w3 hown3 hgrow hat; have hw3 := bapp (bal hbw2 _) (HO2.out.alloc _) hgrow; have HO3 := Lib.hid hown3; clear hown3 hgrow hat)
          go_roundw
          case rel => exact ⟨j + 1, s + 8, A3, c3, by omega, by have := HS.out; omega, by go_num, rfl, by rw [storeN_succ, ← List.append_assoc]; exact HO3.out, hw3⟩
          case measure => simp [intOf]; omega
        · obtain rfl : j = 8 := by omega
          subst hs
          go_wp2
          go_roundw
          case rel =>
            refine ⟨k + 1, A2, c2, by omega, by go_num, rfl, ?_, hbw2⟩
            rw [List.take_add_one, HZK.out]
            show OS cB _ _ _ _ (flat (z.take k ++ [v]))
            rw [flat_snoc, ← HY.out]
            exact HO2.out
          case measure => simp [intOf]; omega
    · obtain rfl : k = 128 := by omega
      go_wp2
      have h1 := HO.out
      rw [List.take_of_length_le (Nat.le_of_eq HZ.out)] at h1
      exact bodyPost_ret (results_tmp rfl _ _ _) rfl ⟨_, _, rfl, h1, hbw⟩
end Go.Proofs.Ytnkngaicegcejaa

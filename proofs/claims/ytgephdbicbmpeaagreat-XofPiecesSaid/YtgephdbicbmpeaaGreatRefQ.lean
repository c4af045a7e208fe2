/-
  The reference's hasher: Out, Hash. Contracts alone; no statement is claimed here.
-/
import Derived.Test.YtgephdbicbmpeaaGreatRefP
namespace Go.Proofs.YtgephdbicbmpeaaGreat
open Go.RowKit
attribute [local go_sem] pureUpon Ords.of

theorem results_cell_tmp3 {P : Program} {fn : Func} {p q r s : Tmp} {ty : TypeId} (h : fn.results = #[.cell p ty, .tmp q, .tmp r, .tmp s]) (tmps : Array Value) (w : World) (g : Nat) (t : TypeId) (cs : Array Value) (d : TypeDesc)
    (hp : tmps.getD p undef = .pointer (some ⟨g, 0, none⟩)) (hg : Blk w g t cs) (hu : P.underlying ty = some d) (hd : (match d with | .struct _ | .array _ _ => true | _ => false) = true) (hi : (P.info? ty).map (·.size) = some cs.size) :
    (results fn tmps).run P w = .ok (.tuple #[.agg cs, tmps.getD q undef, tmps.getD r undef, tmps.getD s undef]) w := by
  have hl := run_loadVar_row (P := P) w g t ty cs (0, 0) d hg hu hd hi
  have hp' : tmps[p]?.getD undef = .pointer (some ⟨g, 0, none⟩) := by simpa using hp
  simp [results, h, hp', asAddr, hl]
/-- the state at first -/
def HS.start (big : Bool) (x : List UInt8) : HS := if big then .big (start64 x) else .small (start32 x)
theorem HS.start_k (big : Bool) (x : List UInt8) : (HS.start big x).k = big := by cases big <;> rfl
theorem HS.start_ok (big : Bool) (x : List UInt8) : (HS.start big x).Ok := by
  cases big
  · exact start32_len x
  · exact start64_len x
theorem fillU_half (H : List UInt64) (hH : H.length = 8) : fillU (H ++ zw 8) 8 16 = H ++ zw 8 := by
  unfold fillU
  rw [List.take_left' hH]
  rfl
theorem rn_par (big : Bool) (p : Pr) (kv : Value) (last : Bool) (mv : Value) (cnt : UInt64) : ((rnCells big p kv last mv cnt).extract 1 (1 + 11)).toList = [.int .i64 p.digest, .int .i64 p.key, .int .i64 p.fanout, .int .i64 p.depth, .int .u32 p.leaf, .int .u64 p.offset, .int .u32 p.xof, .int .i64 p.nd, .int .i64 p.inner, .slice p.salt.A p.salt.n p.salt.c, .slice p.pers.A p.pers.n p.pers.c] := by
  show _ = _; kernel_rfl
set_option maxRecDepth 20000 in
set_option maxHeartbeats 4000000 in
theorem refFirstBig_any (q : Nat) (p : Pr) (ls lp : List UInt8) (kv mv : Value) (last : Bool) (cnt : UInt64) (w : World) (hc : chk (kOf true) p = 0) (hf : p.Fit) (hls : ls.length = p.salt.n) (hlp : lp.length = p.pers.n) (hrs : RS cB w w.heap.size p.salt.A ls) (hrp : RS cB w w.heap.size p.pers.A lp)
    (hb : Blk w q 123 (rnCells true p kv last mv cnt)) :
    Calls Tryz.prog 184 #[.pointer (some ⟨q, 0, none⟩)] w fun e w' => e = .returned (.agg (wcs (HS.start true (encL true p ls lp)).words)) ∧ Below w.heap.size w w' := by
  have hen := fun W hrs hrp => refEncode_any true p ls lp W hc hf hls hlp hrs hrp
  have hxl := encL_len true p ls lp (by have h := (chk_range hc).2.2.2.2.2.2.1; rw [hls]; exact h) (by have h := (chk_range hc).2.2.2.2.2.2.2; rw [hlp]; exact h)
  have hst := fun A c W hr => refStart_any A c (encL true p ls lp) W hxl hr
  change ∀ W, _ → _ → Calls Tryz.prog _ #[.int .i64 1, p.v] W _ at hen
  have e64 : bOf true = 64 := rfl
  simp only [e64] at hen
  have c30 : w.cell? ⟨q, 30, none⟩ = some (.bool false) := hb.cell 30
  have hql := hb.lt
  obtain ⟨H, hH⟩ : ∃ H, H = start64 (encL true p ls lp) := ⟨_, rfl⟩
  have hHl : H.length = 8 := by rw [hH]; exact start64_len _
  simp only [← hH] at hst
  have hw : (HS.start true (encL true p ls lp)).words = H ++ zw 8 := by rw [hH]; rfl
  rw [hw]
  generalize encL true p ls lp = X at *
  obtain ⟨R, hR⟩ : ∃ R, R = H ++ zw 8 := ⟨_, rfl⟩
  have hRl : R.length = 16 := by rw [hR, List.length_append, hHl]; rfl
  have hRH : ∀ k v, k < 8 → H[k]? = some v → R[k]? = some v := fun k v hk h => by rw [hR, List.getElem?_append_left (by omega), h]
  have hfi : fillU R 8 16 = R := by rw [hR]; exact fillU_half H hHl
  rw [← hR]
  have HEN := Lib.hid hen; have HST := Lib.hid hst; have HHL := Lib.hid hHl; have HRL := Lib.hid hRl; have HRH := Lib.hid hRH; have HFI := Lib.hid hfi; have HRS := Lib.hid hrs; have HRP := Lib.hid hrp; have HB := Lib.hid hb
  clear hen hst hHl hRl hRH hfi hrs hrp hb hc hf hls hlp hxl hH hw hR
  have hup := Lib.hid Tryz.underlying26; have hu16 := Lib.hid Tryz.underlying121
  have s8 := Lib.hid (sz8w H HHL.out); have sR := Lib.hid (sz16w R HRL.out); have a8 := Lib.hid (wcs_all H); have aR := Lib.hid (wcs_all R)
  have ho8 : Hid (z8.size = (wcs H).size) := by show _ = _; rw [wcs_size, HHL.out]; rfl
  have hoR : Hid ((wcs (fillU R 0 16)).size = (wcs R).size) := by show _ = _; rw [wcs_size, wcs_size, fillU_len _ _ _ (by omega) HRL.out, HRL.out]
  have e0 : wcs (fillU R 0 16) = z16 := rfl
  unfold Pr.v Pr.cs Sl.v at *
  go_enter Tryz.func184, Tryz.ntmps184
  go_wp2_with fail
  have n0 : Blk ((w.alloc (.cells z16 121)).alloc (.cells z16 121)) w.heap.size 121 (wcs (fillU R 0 16)) := by rw [e0]; exact (Blk.new _ _ _).alloc _
  have n1 : Blk ((w.alloc (.cells z16 121)).alloc (.cells z16 121)) (w.heap.size + 1) 121 (wcs (fillU R 0 16)) := by
    rw [e0]; simpa using Blk.new (w.alloc (.cells z16 121)) 121 z16
  have n4 := bal (bal (b0 w) (.cells z16 121)) (.cells z16 121)
  unfold z16 at n0 n1 n4
  obtain ⟨b, hb⟩ : ∃ b, b = w.heap.size := ⟨_, rfl⟩
  rw [← hb] at n0 n1 ⊢
  generalize (w.alloc (.cells #[.int .u64 0, .int .u64 0, .int .u64 0, .int .u64 0, .int .u64 0, .int .u64 0, .int .u64 0, .int .u64 0, .int .u64 0, .int .u64 0, .int .u64 0, .int .u64 0, .int .u64 0, .int .u64 0, .int .u64 0, .int .u64 0] 121)).alloc (.cells #[.int .u64 0, .int .u64 0, .int .u64 0, .int .u64 0, .int .u64 0, .int .u64 0, .int .u64 0, .int .u64 0, .int .u64 0, .int .u64 0, .int .u64 0, .int .u64 0, .int .u64 0, .int .u64 0, .int .u64 0, .int .u64 0] 121) = w0 at *
  have N0 := Lib.hid n0; have N1 := Lib.hid n1; have N4 := Lib.hid n4; have hwb : Hid (w.heap.size ≤ b) := by (show _ ≤ _; omega)
  clear n0 n1 n4 hb e0
  have HQ := Lib.hid (HB.out.below N4.out HB.out.lt)
  have c0 : w0.cell? ⟨q, 0, none⟩ = some (.int .i64 1) := HQ.out.cell 0
  have HRNG := Lib.hid (fun m => by
    have h := (HQ.out.drewN m).range 1 11
    rw [rn_par] at h
    exact h : ∀ m, (w0.drewN m).rangeAt q 1 [.int .i64 p.digest, .int .i64 p.key, .int .i64 p.fanout, .int .i64 p.depth, .int .u32 p.leaf, .int .u64 p.offset, .int .u32 p.xof, .int .i64 p.nd, .int .i64 p.inner, .slice p.salt.A p.salt.n p.salt.c, .slice p.pers.A p.pers.n p.pers.c])
  refine wp_region_ords (fun _ => True) (fun _ _ h => h) (Ords.of [(0, 0), (0, 1), (0, 2), (1, 3), (0, 4), (0, 5), (0, 6), (1, 7), (2, 8), (0, 9), (0, 10), (0, 11), (0, 12), (0, 13)] .fin) (by kernel_rfl) rfl (by kernel_rfl) (by kernel_rfl) (fun c a d v w h => by cases d <;> exact h) trivial ?_
  refine ords_pure rfl (fun K hK => ?_); go_simp; refine hK _ ?_; clear hK K
  refine ords_pure rfl (fun K hK => ?_); go_simp; refine hK _ ?_; clear hK K
  refine ords_pure rfl (fun K hK => ?_); go_simp; refine hK _ ?_; clear hK K
  refine ords_read rfl (fun K hK => ?_); go_simp; refine hK _ ?_; clear hK K
  refine ords_pure rfl (fun K hK => ?_); go_simp; refine hK _ ?_; clear hK K
  refine ords_pure rfl (fun K hK => ?_); go_simp; refine hK _ ?_; clear hK K
  refine ords_pure rfl (fun K hK => ?_); go_simp; refine hK _ ?_; clear hK K
  refine ords_readV (v := Value.agg [.int .i64 p.digest, .int .i64 p.key, .int .i64 p.fanout, .int .i64 p.depth, .int .u32 p.leaf, .int .u64 p.offset, .int .u32 p.xof, .int .i64 p.nd, .int .i64 p.inner, .slice p.salt.A p.salt.n p.salt.c, .slice p.pers.A p.pers.n p.pers.c].toArray) rfl rfl (fun m9 => pure_load_mid 26 (.tmp 27) rfl q 1 rfl _ _ (HRNG.out m9) hup.out rfl (by kernel_rfl)) ?_; go_simp
  refine ords_loud rfl (fun n1 => ?_)
  go_wp2_with (go_at_call 114; refine (HEN.out _ (((HRS.out.below N4.out).more N4.out.size).drewN _) (((HRP.out.below N4.out).more N4.out.size).drewN _)).mono ?_; rintro e1 w1 ⟨A1, c1, rfl, ho1, hb1⟩); have HO1 := Lib.hid ho1; have M0 := Lib.hid ((N0.out.drewN _).below hb1 (N0.out.drewN _).lt); have M1 := Lib.hid ((N1.out.drewN _).below hb1 (N1.out.drewN _).lt); have M4 := Lib.hid (bcall (bdr N4.out _) hb1); have MQ := Lib.hid ((HQ.out.drewN _).below hb1 (HQ.out.drewN _).lt); clear ho1 hb1
  try (refine ⟨trivial, ?_⟩)
  refine ords_pure rfl (fun K hK => ?_); go_simp; refine hK _ ?_; clear hK K
  refine ords_pure rfl (fun K hK => ?_); go_simp; refine hK _ ?_; clear hK K
  refine ords_pure rfl (fun K hK => ?_); go_simp; refine hK _ ?_; clear hK K
  refine ords_pure rfl (fun K hK => ?_); go_simp; refine hK _ ?_; clear hK K
  refine ords_pure rfl (fun K hK => ?_); go_simp; refine hK _ ?_; clear hK K
  refine ords_end (fun n2 => ?_)
  have n0 := M0.out.drewN n2; have n1 := M1.out.drewN n2; have n4 := bdr M4.out n2; have ho1 := HO1.out.drewN n2
  have c0 : (w1.drewN n2).cell? ⟨q, 0, none⟩ = some (.int .i64 1) := MQ.out.cell 0
  generalize w1.drewN n2 = w2 at *
  clear N0 N1 N4 HQ HRNG M0 M1 M4 MQ HO1
  have N0 := Lib.hid n0; have N1 := Lib.hid n1; have N4 := Lib.hid n4; have HO1 := Lib.hid ho1; clear n0 n1 n4 ho1
  go_wp2_with fail
  refine (HST.out A1 c1 _ HO1.out.reads).mono ?_
  rintro e3 w3 ⟨rfl, hb3⟩
  have q0 := (N0.out.below hb3 N0.out.lt).alloc (.cells z8 252)
  have q1 := (N1.out.below hb3 N1.out.lt).alloc (.cells z8 252)
  have q4 := bal (bcall N4.out hb3) (.cells z8 252)
  have q3 := Blk.new w3 252 z8
  have hs3 : b + 1 < w3.heap.size := (N1.out.below hb3 N1.out.lt).lt
  have hw3 : Hid (w.heap.size ≤ w3.heap.size) := (bcall N4.out hb3).size
  unfold z8 at q0 q1 q3 q4
  have Q3 := Lib.hid q3; clear q3 hb3 N0 N1 N4 c0 HO1
  go_upto_region 7 with (refine wpList_store_row rfl 252 _ _ rfl w3.heap.size (wcs H) rfl rfl 252 _ Q3.out s8.out ho8.out a8.out ?_)
  have q3 := Q3.out.row (wcs H)
  replace q0 := q0.rowFar (k := w3.heap.size) (by omega) (wcs H); replace q1 := q1.rowFar (k := w3.heap.size) (by omega) (wcs H); replace q4 := brow q4 (g := w3.heap.size) hw3.out (wcs H)
  clear Q3
  obtain ⟨g, hg⟩ : ∃ g, g = w3.heap.size := ⟨_, rfl⟩
  rw [← hg] at q0 q1 q3 q4 hs3 ⊢
  generalize (w3.alloc _).setRow g (wcs H) = w4 at *
  have N0 := Lib.hid q0; have N1 := Lib.hid q1; have N3 := Lib.hid q3; have N4 := Lib.hid q4
  clear q0 q1 q3 q4 hg hw3
  go_wp2_with fail
  go_loopw [8] (fun i wr => ∃ k : Nat, k ≤ 8 ∧ i = .int .i64 k ∧ Blk wr b 121 (wcs (fillU R 0 16)) ∧ Blk wr (b + 1) 121 (wcs (fillU R k 16)) ∧ Blk wr g 252 (wcs H) ∧ Below w.heap.size w wr) (fun i _ => 8 - (intOf i).toNat)
  case atStart => exact ⟨0, by omega, rfl, N0.out, N1.out, N3.out, N4.out⟩
  case round =>
    clear N0 N1 N3 N4
    obtain ⟨k, hk, rfl, x0, x1, x3, x4⟩ := hrel
    have N0 := Lib.hid x0; have N1 := Lib.hid x1; have N3 := Lib.hid x3; have N4 := Lib.hid x4; clear x0 x1 x3 x4
    by_cases hlt : k < 8
    · obtain ⟨u, hu⟩ : ∃ u, u = H.getD k 0 := ⟨_, rfl⟩
      have hHk : H[k]? = some u := by rw [hu]; exact getDW H k (by rw [HHL.out]; exact hlt)
      have hcv := down_up
      have c3 : wr.cell? ⟨g, k, none⟩ = some (.int .u64 (wrd u)) := by rw [N3.out.cell]; exact wcs_at' H k u hHk
      have c1 : wr.cell? ⟨b + 1, k, none⟩ = some (wv ((fillU R k 16).getD k 0)) := (N1.out.cell k).trans (wcs_get _ _ (by rw [fillU_len R k 16 (by omega) HRL.out]; omega))
      generalize wv ((fillU R k 16).getD k 0) = old at c1
      have f1 : wr.frozen? ⟨b + 1, k, none⟩ = false := N1.out.frozen k
      have hki : (k : Int) < 8 := by omega
      have hk16 : (k : Int) < 16 := by omega
      have hkd : decide ((k : Int) < 8) = true := by simp; omega
      obtain ⟨v, hv⟩ : ∃ v, v = u := ⟨_, rfl⟩
      have hs1 := N1.out.set_ k (wv v)
      rw [fillU_put R k 16 v (by omega) (by rw [hv]; exact HRH.out k u hlt hHk)] at hs1
      have hs0 := N0.out.far (p := ⟨b + 1, k, none⟩) (by show b ≠ b + 1; omega) (wv v)
      have hs3 := N3.out.far (p := ⟨b + 1, k, none⟩) (by show g ≠ b + 1; omega) (wv v)
      have hs4 := bput N4.out (p := ⟨b + 1, k, none⟩) (by have := hwb.out; simp; omega) (wv v)
      rw [hv] at hs0 hs1 hs3 hs4
      have HS0 := Lib.hid hs0; have HS1 := Lib.hid hs1; have HS3 := Lib.hid hs3; have HS4 := Lib.hid hs4
      clear hs0 hs1 hs3 hs4 hu hHk hv N0 N1 N3 N4
      go_wp2_with fail
      go_roundw
      case rel => exact ⟨k + 1, by omega, by go_num, HS0.out, HS1.out, HS3.out, HS4.out⟩
      case measure => simp [intOf]; omega
    · obtain rfl : k = 8 := by omega
      clear hlt hk
      have x1 := N1.out
      rw [HFI.out] at x1
      have X1 := Lib.hid x1; clear x1 N1
      go_wp2_with (first
        | (refine wpList_load_row rfl 121 _ rfl (b + 1) rfl 121 (wcs R) (0, 0) _ X1.out hu16.out rfl sR.out ?_)
        | (refine wpList_store_row rfl 121 _ _ rfl b (wcs R) rfl rfl 121 _ N0.out sR.out hoR.out aR.out ?_))
      exact bodyPost_ret (results_cell_row rfl _ _ b _ _ (0, 0) _ rfl (N0.out.row _) hu16.out rfl sR.out) rfl ⟨rfl, brow N4.out hwb.out _⟩
set_option maxRecDepth 20000 in
set_option maxHeartbeats 4000000 in
theorem refFirstSmall_any (q : Nat) (p : Pr) (ls lp : List UInt8) (kv mv : Value) (last : Bool) (cnt : UInt64) (w : World) (hc : chk (kOf false) p = 0) (hf : p.Fit) (hls : ls.length = p.salt.n) (hlp : lp.length = p.pers.n) (hrs : RS cB w w.heap.size p.salt.A ls) (hrp : RS cB w w.heap.size p.pers.A lp)
    (hb : Blk w q 123 (rnCells false p kv last mv cnt)) :
    Calls Tryz.prog 184 #[.pointer (some ⟨q, 0, none⟩)] w fun e w' => e = .returned (.agg (wcs (HS.start false (encL false p ls lp)).words)) ∧ Below w.heap.size w w' := by
  have hen := fun W hrs hrp => refEncode_any false p ls lp W hc hf hls hlp hrs hrp
  have hxl := encL_len false p ls lp (by have h := (chk_range hc).2.2.2.2.2.2.1; rw [hls]; exact h) (by have h := (chk_range hc).2.2.2.2.2.2.2; rw [hlp]; exact h)
  have hst := fun A c W hr => r4Start_any A c (encL false p ls lp) W hxl hr
  change ∀ W, _ → _ → Calls Tryz.prog _ #[.int .i64 2, p.v] W _ at hen
  have e64 : bOf false = 32 := rfl
  simp only [e64] at hen
  have c30 : w.cell? ⟨q, 30, none⟩ = some (.bool false) := hb.cell 30
  have hql := hb.lt
  obtain ⟨H, hH⟩ : ∃ H, H = start32 (encL false p ls lp) := ⟨_, rfl⟩
  have hHl : H.length = 8 := by rw [hH]; exact start32_len _
  simp only [← hH] at hst
  have hw : (HS.start false (encL false p ls lp)).words = H.map (fun x => x.toUInt64) ++ zw 8 := by rw [hH]; rfl
  rw [hw]
  generalize encL false p ls lp = X at *
  obtain ⟨R, hR⟩ : ∃ R, R = H.map (fun x => x.toUInt64) ++ zw 8 := ⟨_, rfl⟩
  have hRl : R.length = 16 := by rw [hR, List.length_append, List.length_map, hHl]; rfl
  have hRH : ∀ k v, k < 8 → H[k]? = some v → R[k]? = some (UInt32.toUInt64 v) := fun k v hk h => by rw [hR, List.getElem?_append_left (by rw [List.length_map]; omega), List.getElem?_map, h]; rfl
  have hfi : fillU R 8 16 = R := by rw [hR]; exact fillU_half _ (by rw [List.length_map]; exact hHl)
  rw [← hR]
  have HEN := Lib.hid hen; have HST := Lib.hid hst; have HHL := Lib.hid hHl; have HRL := Lib.hid hRl; have HRH := Lib.hid hRH; have HFI := Lib.hid hfi; have HRS := Lib.hid hrs; have HRP := Lib.hid hrp; have HB := Lib.hid hb
  clear hen hst hHl hRl hRH hfi hrs hrp hb hc hf hls hlp hxl hH hw hR
  have hup := Lib.hid Tryz.underlying26; have hu16 := Lib.hid Tryz.underlying121
  have s8 := Lib.hid (sz8s H HHL.out); have sR := Lib.hid (sz16w R HRL.out); have a8 := Lib.hid (wc3_all H); have aR := Lib.hid (wcs_all R)
  have ho8 : Hid (z8s.size = (wc3 H).size) := by show _ = _; rw [wc3_size, HHL.out]; rfl
  have hoR : Hid ((wcs (fillU R 0 16)).size = (wcs R).size) := by show _ = _; rw [wcs_size, wcs_size, fillU_len _ _ _ (by omega) HRL.out, HRL.out]
  have e0 : wcs (fillU R 0 16) = z16 := rfl
  unfold Pr.v Pr.cs Sl.v at *
  go_enter Tryz.func184, Tryz.ntmps184
  go_wp2_with fail
  have n0 : Blk ((w.alloc (.cells z16 121)).alloc (.cells z16 121)) w.heap.size 121 (wcs (fillU R 0 16)) := by rw [e0]; exact (Blk.new _ _ _).alloc _
  have n1 : Blk ((w.alloc (.cells z16 121)).alloc (.cells z16 121)) (w.heap.size + 1) 121 (wcs (fillU R 0 16)) := by
    rw [e0]; simpa using Blk.new (w.alloc (.cells z16 121)) 121 z16
  have n4 := bal (bal (b0 w) (.cells z16 121)) (.cells z16 121)
  unfold z16 at n0 n1 n4
  obtain ⟨b, hb⟩ : ∃ b, b = w.heap.size := ⟨_, rfl⟩
  rw [← hb] at n0 n1 ⊢
  generalize (w.alloc (.cells #[.int .u64 0, .int .u64 0, .int .u64 0, .int .u64 0, .int .u64 0, .int .u64 0, .int .u64 0, .int .u64 0, .int .u64 0, .int .u64 0, .int .u64 0, .int .u64 0, .int .u64 0, .int .u64 0, .int .u64 0, .int .u64 0] 121)).alloc (.cells #[.int .u64 0, .int .u64 0, .int .u64 0, .int .u64 0, .int .u64 0, .int .u64 0, .int .u64 0, .int .u64 0, .int .u64 0, .int .u64 0, .int .u64 0, .int .u64 0, .int .u64 0, .int .u64 0, .int .u64 0, .int .u64 0] 121) = w0 at *
  have N0 := Lib.hid n0; have N1 := Lib.hid n1; have N4 := Lib.hid n4; have hwb : Hid (w.heap.size ≤ b) := by (show _ ≤ _; omega)
  clear n0 n1 n4 hb e0
  have HQ := Lib.hid (HB.out.below N4.out HB.out.lt)
  have c0 : w0.cell? ⟨q, 0, none⟩ = some (.int .i64 2) := HQ.out.cell 0
  have HRNG := Lib.hid (fun m => by
    have h := (HQ.out.drewN m).range 1 11
    rw [rn_par] at h
    exact h : ∀ m, (w0.drewN m).rangeAt q 1 [.int .i64 p.digest, .int .i64 p.key, .int .i64 p.fanout, .int .i64 p.depth, .int .u32 p.leaf, .int .u64 p.offset, .int .u32 p.xof, .int .i64 p.nd, .int .i64 p.inner, .slice p.salt.A p.salt.n p.salt.c, .slice p.pers.A p.pers.n p.pers.c])
  refine wp_region_ords (fun _ => True) (fun _ _ h => h) (Ords.of [(0, 0), (0, 1), (0, 2), (1, 3), (0, 4), (0, 5), (0, 6), (1, 7), (2, 8), (0, 9), (0, 10), (0, 11), (0, 12), (0, 13)] .fin) (by kernel_rfl) rfl (by kernel_rfl) (by kernel_rfl) (fun c a d v w h => by cases d <;> exact h) trivial ?_
  refine ords_pure rfl (fun K hK => ?_); go_simp; refine hK _ ?_; clear hK K
  refine ords_pure rfl (fun K hK => ?_); go_simp; refine hK _ ?_; clear hK K
  refine ords_pure rfl (fun K hK => ?_); go_simp; refine hK _ ?_; clear hK K
  refine ords_read rfl (fun K hK => ?_); go_simp; refine hK _ ?_; clear hK K
  refine ords_pure rfl (fun K hK => ?_); go_simp; refine hK _ ?_; clear hK K
  refine ords_pure rfl (fun K hK => ?_); go_simp; refine hK _ ?_; clear hK K
  refine ords_pure rfl (fun K hK => ?_); go_simp; refine hK _ ?_; clear hK K
  refine ords_readV (v := Value.agg [.int .i64 p.digest, .int .i64 p.key, .int .i64 p.fanout, .int .i64 p.depth, .int .u32 p.leaf, .int .u64 p.offset, .int .u32 p.xof, .int .i64 p.nd, .int .i64 p.inner, .slice p.salt.A p.salt.n p.salt.c, .slice p.pers.A p.pers.n p.pers.c].toArray) rfl rfl (fun m9 => pure_load_mid 26 (.tmp 27) rfl q 1 rfl _ _ (HRNG.out m9) hup.out rfl (by kernel_rfl)) ?_; go_simp
  refine ords_loud rfl (fun n1 => ?_)
  go_wp2_with (go_at_call 114; refine (HEN.out _ (((HRS.out.below N4.out).more N4.out.size).drewN _) (((HRP.out.below N4.out).more N4.out.size).drewN _)).mono ?_; rintro e1 w1 ⟨A1, c1, rfl, ho1, hb1⟩); have HO1 := Lib.hid ho1; have M0 := Lib.hid ((N0.out.drewN _).below hb1 (N0.out.drewN _).lt); have M1 := Lib.hid ((N1.out.drewN _).below hb1 (N1.out.drewN _).lt); have M4 := Lib.hid (bcall (bdr N4.out _) hb1); have MQ := Lib.hid ((HQ.out.drewN _).below hb1 (HQ.out.drewN _).lt); clear ho1 hb1
  try (refine ⟨trivial, ?_⟩)
  refine ords_pure rfl (fun K hK => ?_); go_simp; refine hK _ ?_; clear hK K
  refine ords_pure rfl (fun K hK => ?_); go_simp; refine hK _ ?_; clear hK K
  refine ords_pure rfl (fun K hK => ?_); go_simp; refine hK _ ?_; clear hK K
  refine ords_pure rfl (fun K hK => ?_); go_simp; refine hK _ ?_; clear hK K
  refine ords_pure rfl (fun K hK => ?_); go_simp; refine hK _ ?_; clear hK K
  refine ords_end (fun n2 => ?_)
  have n0 := M0.out.drewN n2; have n1 := M1.out.drewN n2; have n4 := bdr M4.out n2; have ho1 := HO1.out.drewN n2
  have c0 : (w1.drewN n2).cell? ⟨q, 0, none⟩ = some (.int .i64 2) := MQ.out.cell 0
  generalize w1.drewN n2 = w2 at *
  clear N0 N1 N4 HQ HRNG M0 M1 M4 MQ HO1
  have N0 := Lib.hid n0; have N1 := Lib.hid n1; have N4 := Lib.hid n4; have HO1 := Lib.hid ho1; clear n0 n1 n4 ho1
  go_wp2_with fail
  refine (HST.out A1 c1 _ HO1.out.reads).mono ?_
  rintro e3 w3 ⟨rfl, hb3⟩
  have q0 := (N0.out.below hb3 N0.out.lt).alloc (.cells z8s 256)
  have q1 := (N1.out.below hb3 N1.out.lt).alloc (.cells z8s 256)
  have q4 := bal (bcall N4.out hb3) (.cells z8s 256)
  have q3 := Blk.new w3 256 z8s
  have hs3 : b + 1 < w3.heap.size := (N1.out.below hb3 N1.out.lt).lt
  have hw3 : Hid (w.heap.size ≤ w3.heap.size) := (bcall N4.out hb3).size
  unfold z8s at q0 q1 q3 q4
  have Q3 := Lib.hid q3; clear q3 hb3 N0 N1 N4 c0 HO1
  go_upto_region 13 with (refine wpList_store_row rfl 256 _ _ rfl w3.heap.size (wc3 H) rfl rfl 256 _ Q3.out s8.out ho8.out a8.out ?_)
  have q3 := Q3.out.row (wc3 H)
  replace q0 := q0.rowFar (k := w3.heap.size) (by omega) (wc3 H); replace q1 := q1.rowFar (k := w3.heap.size) (by omega) (wc3 H); replace q4 := brow q4 (g := w3.heap.size) hw3.out (wc3 H)
  clear Q3
  obtain ⟨g, hg⟩ : ∃ g, g = w3.heap.size := ⟨_, rfl⟩
  rw [← hg] at q0 q1 q3 q4 hs3 ⊢
  generalize (w3.alloc _).setRow g (wc3 H) = w4 at *
  have N0 := Lib.hid q0; have N1 := Lib.hid q1; have N3 := Lib.hid q3; have N4 := Lib.hid q4
  clear q0 q1 q3 q4 hg hw3
  go_wp2_with fail
  go_loopw [11] (fun i wr => ∃ k : Nat, k ≤ 8 ∧ i = .int .i64 k ∧ Blk wr b 121 (wcs (fillU R 0 16)) ∧ Blk wr (b + 1) 121 (wcs (fillU R k 16)) ∧ Blk wr g 256 (wc3 H) ∧ Below w.heap.size w wr) (fun i _ => 8 - (intOf i).toNat)
  case atStart => exact ⟨0, by omega, rfl, N0.out, N1.out, N3.out, N4.out⟩
  case round =>
    clear N0 N1 N3 N4
    obtain ⟨k, hk, rfl, x0, x1, x3, x4⟩ := hrel
    have N0 := Lib.hid x0; have N1 := Lib.hid x1; have N3 := Lib.hid x3; have N4 := Lib.hid x4; clear x0 x1 x3 x4
    by_cases hlt : k < 8
    · obtain ⟨u, hu⟩ : ∃ u, u = H.getD k 0 := ⟨_, rfl⟩
      have hHk : H[k]? = some u := by rw [hu]; exact getD3 H k (by rw [HHL.out]; exact hlt)
      have hcv := down_up
      have c3 : wr.cell? ⟨g, k, none⟩ = some (.int .u32 (wr3 u)) := by rw [N3.out.cell]; exact wc3_at' H k u hHk
      have c1 : wr.cell? ⟨b + 1, k, none⟩ = some (wv ((fillU R k 16).getD k 0)) := (N1.out.cell k).trans (wcs_get _ _ (by rw [fillU_len R k 16 (by omega) HRL.out]; omega))
      generalize wv ((fillU R k 16).getD k 0) = old at c1
      have f1 : wr.frozen? ⟨b + 1, k, none⟩ = false := N1.out.frozen k
      have hki : (k : Int) < 8 := by omega
      have hk16 : (k : Int) < 16 := by omega
      have hkd : decide ((k : Int) < 8) = true := by simp; omega
      obtain ⟨v, hv⟩ : ∃ v, v = (UInt32.toUInt64 u) := ⟨_, rfl⟩
      have hs1 := N1.out.set_ k (wv v)
      rw [fillU_put R k 16 v (by omega) (by rw [hv]; exact HRH.out k u hlt hHk)] at hs1
      have hs0 := N0.out.far (p := ⟨b + 1, k, none⟩) (by show b ≠ b + 1; omega) (wv v)
      have hs3 := N3.out.far (p := ⟨b + 1, k, none⟩) (by show g ≠ b + 1; omega) (wv v)
      have hs4 := bput N4.out (p := ⟨b + 1, k, none⟩) (by have := hwb.out; simp; omega) (wv v)
      rw [hv] at hs0 hs1 hs3 hs4
      have HS0 := Lib.hid hs0; have HS1 := Lib.hid hs1; have HS3 := Lib.hid hs3; have HS4 := Lib.hid hs4
      clear hs0 hs1 hs3 hs4 hu hHk hv N0 N1 N3 N4
      go_wp2_with fail
      go_roundw
      case rel => exact ⟨k + 1, by omega, by go_num, HS0.out, HS1.out, HS3.out, HS4.out⟩
      case measure => simp [intOf]; omega
    · obtain rfl : k = 8 := by omega
      clear hlt hk
      have x1 := N1.out
      rw [HFI.out] at x1
      have X1 := Lib.hid x1; clear x1 N1
      go_wp2_with (first
        | (refine wpList_load_row rfl 121 _ rfl (b + 1) rfl 121 (wcs R) (0, 0) _ X1.out hu16.out rfl sR.out ?_)
        | (refine wpList_store_row rfl 121 _ _ rfl b (wcs R) rfl rfl 121 _ N0.out sR.out hoR.out aR.out ?_))
      exact bodyPost_ret (results_cell_row rfl _ _ b _ _ (0, 0) _ rfl (N0.out.row _) hu16.out rfl sR.out) rfl ⟨rfl, brow N4.out hwb.out _⟩
theorem refFirst_any (big : Bool) (q : Nat) (p : Pr) (ls lp : List UInt8) (kv mv : Value) (last : Bool) (cnt : UInt64) (w : World) (hc : chk (kOf big) p = 0) (hf : p.Fit) (hls : ls.length = p.salt.n) (hlp : lp.length = p.pers.n) (hrs : RS cB w w.heap.size p.salt.A ls) (hrp : RS cB w w.heap.size p.pers.A lp)
    (hb : Blk w q 123 (rnCells big p kv last mv cnt)) :
    Calls Tryz.prog 184 #[.pointer (some ⟨q, 0, none⟩)] w fun e w' => e = .returned (.agg (wcs (HS.start big (encL big p ls lp)).words)) ∧ Below w.heap.size w w' := by
  cases big with
  | true => exact refFirstBig_any q p ls lp kv mv last cnt w hc hf hls hlp hrs hrp hb
  | false => exact refFirstSmall_any q p ls lp kv mv last cnt w hc hf hls hlp hrs hrp hb
end Go.Proofs.YtgephdbicbmpeaaGreat

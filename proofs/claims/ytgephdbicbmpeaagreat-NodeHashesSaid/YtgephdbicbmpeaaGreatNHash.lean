/-
  NodeHashes' law. Contracts alone; no statement is claimed here.
-/
import Derived.Test.YtgephdbicbmpeaaGreatRefH
import Derived.Test.YtgephdbicbmpeaaGreatFed
import Derived.Test.YtgephdbicbmpeaaGreatAwk5
import Derived.Test.YtgephdbicbmpeaaGreatOpenP
namespace Go.Proofs.YtgephdbicbmpeaaGreat
open Go.RowKit
attribute [local go_sem] pureUpon Ords.of

/-- other salts of the same bytes -/
def Pr.salted (p : Pr) (s t : Sl) : Pr := { p with salt := s, pers := t }
theorem encTo_salt (big : Bool) (p : Pr) (s t : Sl) : ∀ k, encTo big (p.salted s t) k = encTo big p k
  | 0 => rfl
  | k + 1 => by
    unfold encTo
    rw [encTo_salt big p s t k]
    rfl
theorem hashS_salt (k : Int) (p : Pr) (s t : Sl) (ls lp key : List UInt8) (last : Bool) (m : Int) (data : List UInt8) (hs : s.n = p.salt.n) (ht : t.n = p.pers.n) : hashS k (p.salted s t) ls lp key last m data = hashS k p ls lp key last m data := by
  have h1 : chk k (p.salted s t) = chk k p := by
    unfold chk Pr.salted
    dsimp only
    rw [hs, ht]
  have h2 : ∀ big, hashL big (p.salted s t) ls lp key last data = hashL big p ls lp key last data := fun big => by
    unfold hashL encL
    rw [encTo_salt]
  unfold hashS
  rw [h1, h2]
  rfl
theorem PrIn.fit_salted {W : World} {p : Pr} {ls lp : List UInt8} (h : PrIn W p ls lp) (s t : Sl) : (p.salted s t).Fit := ⟨h.fit.leaf, h.fit.offset, h.fit.xof⟩
set_option maxRecDepth 20000 in
set_option maxHeartbeats 2000000 in
theorem params5_any (p : Pr) (ls lp : List UInt8) (w : World) (hls : ls.length = p.salt.n) (hlp : lp.length = p.pers.n) (hn1 : p.salt.n ≤ 140737488355328) (hn2 : p.pers.n ≤ 140737488355328) (hrs : RS cB w w.heap.size p.salt.A ls) (hrp : RS cB w w.heap.size p.pers.A lp) :
    Calls Tryz.prog 17 #[p.v] w fun e w' => ∃ s t : Sl, e = .returned (p.salted s t).v ∧ s.n = p.salt.n ∧ t.n = p.pers.n ∧ OS cB w' w.heap.size s.A s.c ls ∧ OS cB w' w.heap.size t.A t.c lp ∧ Below w.heap.size w w' := by
  have h1 := fun W hr => copied5_any p.salt.A p.salt.c p.salt.n ls W hls hn1 hr
  have h2 := fun W hr => copied5_any p.pers.A p.pers.c p.pers.n lp W hlp hn2 hr
  obtain ⟨d, ky, fo, de, le, of, xo, nd, inn, ⟨sA, sn, sc⟩, ⟨pA, pn, pc⟩⟩ := p
  unfold Pr.v Pr.cs Sl.v Pr.salted at *
  dsimp only at *
  have H1 := Lib.hid h1; have H2 := Lib.hid h2; have HRS := Lib.hid hrs; have HRP := Lib.hid hrp
  clear h1 h2 hrs hrp hls hlp hn1 hn2
  have hu := Lib.hid Tryz.underlying26
  go_enter Tryz.func17, Tryz.ntmps17
  go_upto_region 1 with fail
  have n0 : Blk ((w.alloc (.cells #[.int .i64 d, .int .i64 ky, .int .i64 fo, .int .i64 de, .int .u32 le, .int .u64 of, .int .u32 xo, .int .i64 nd, .int .i64 inn, .slice sA sn sc, .slice pA pn pc] 26)).alloc (.cells #[.int .i64 0, .int .i64 0, .int .i64 0, .int .i64 0, .int .u32 0, .int .u64 0, .int .u32 0, .int .i64 0, .int .i64 0, .slice none 0 0, .slice none 0 0] 26)) w.heap.size 26 #[.int .i64 d, .int .i64 ky, .int .i64 fo, .int .i64 de, .int .u32 le, .int .u64 of, .int .u32 xo, .int .i64 nd, .int .i64 inn, .slice sA sn sc, .slice pA pn pc] := (Blk.new _ _ _).alloc _
  have n1 : Blk ((w.alloc (.cells #[.int .i64 d, .int .i64 ky, .int .i64 fo, .int .i64 de, .int .u32 le, .int .u64 of, .int .u32 xo, .int .i64 nd, .int .i64 inn, .slice sA sn sc, .slice pA pn pc] 26)).alloc (.cells #[.int .i64 0, .int .i64 0, .int .i64 0, .int .i64 0, .int .u32 0, .int .u64 0, .int .u32 0, .int .i64 0, .int .i64 0, .slice none 0 0, .slice none 0 0] 26)) (w.heap.size + 1) 26 #[.int .i64 0, .int .i64 0, .int .i64 0, .int .i64 0, .int .u32 0, .int .u64 0, .int .u32 0, .int .i64 0, .int .i64 0, .slice none 0 0, .slice none 0 0] := Blk.new2 _ _ _ _
  have n4 := bal (bal (b0 w) (.cells #[.int .i64 d, .int .i64 ky, .int .i64 fo, .int .i64 de, .int .u32 le, .int .u64 of, .int .u32 xo, .int .i64 nd, .int .i64 inn, .slice sA sn sc, .slice pA pn pc] 26)) (.cells #[.int .i64 0, .int .i64 0, .int .i64 0, .int .i64 0, .int .u32 0, .int .u64 0, .int .u32 0, .int .i64 0, .int .i64 0, .slice none 0 0, .slice none 0 0] 26)
  obtain ⟨g, hg⟩ : ∃ g, g = w.heap.size := ⟨_, rfl⟩
  rw [← hg] at n0 n1 ⊢
  generalize (w.alloc (.cells #[.int .i64 d, .int .i64 ky, .int .i64 fo, .int .i64 de, .int .u32 le, .int .u64 of, .int .u32 xo, .int .i64 nd, .int .i64 inn, .slice sA sn sc, .slice pA pn pc] 26)).alloc (.cells #[.int .i64 0, .int .i64 0, .int .i64 0, .int .i64 0, .int .u32 0, .int .u64 0, .int .u32 0, .int .i64 0, .int .i64 0, .slice none 0 0, .slice none 0 0] 26) = w0 at *
  have hwg : Hid (w.heap.size ≤ g) := by (show _ ≤ _; omega)
  have c9 : w0.cell? ⟨g, 9, none⟩ = some (.slice sA sn sc) := n0.cell 9
  have N0 := Lib.hid n0; have N1 := Lib.hid n1; have N4 := Lib.hid n4; clear n0 n1 n4 hg
  go_wp2_with fail
  refine (H1.out _ ((HRS.out.below N4.out).more N4.out.size)).mono ?_
  rintro e1 w1 ⟨A1, c1, rfl, ho1, hb1⟩
  have m0 := N0.out.below hb1 N0.out.lt
  have d9 : w1.cell? ⟨g, 9, none⟩ = some (.slice sA sn sc) := m0.cell 9
  have f9 := m0.frozen 9
  have M0 := Lib.hid (m0.set_ 9 (.slice A1 sn c1)); have M1 := Lib.hid ((N1.out.below hb1 N1.out.lt).far (p := ⟨g, 9, none⟩) (by show g + 1 ≠ g; omega) (.slice A1 sn c1)); have M4 := Lib.hid (bput (bcall N4.out hb1) (p := ⟨g, 9, none⟩) hwg.out (.slice A1 sn c1))
  have HO1 := Lib.hid ((ho1.mono (show w.heap.size ≤ _ from N4.out.size)).setFar (p := ⟨g, 9, none⟩) (fun a ha he => by have h1 := (ho1.block_lt a ha).1; have h2 := N0.out.lt; have h3 : a.block = g := he; omega) (.slice A1 sn c1))
  clear m0 ho1 hb1 c9 N0 N1 N4
  go_upto_region 2 with fail
  generalize w1.setCell ⟨g, 9, none⟩ (.slice A1 sn c1) = w2 at *
  have c10 : w2.cell? ⟨g, 10, none⟩ = some (.slice pA pn pc) := M0.out.cell 10
  clear d9 f9
  go_wp2_with fail
  refine (H2.out _ ((HRP.out.below M4.out).more M4.out.size)).mono ?_
  rintro e3 w3 ⟨A2, c2, rfl, ho2, hb2⟩
  have m0 := M0.out.below hb2 M0.out.lt
  have d10 : w3.cell? ⟨g, 10, none⟩ = some (.slice pA pn pc) := m0.cell 10
  have f10 := m0.frozen 10
  have N0 := Lib.hid (m0.set_ 10 (.slice A2 pn c2)); have N1 := Lib.hid ((M1.out.below hb2 M1.out.lt).far (p := ⟨g, 10, none⟩) (by show g + 1 ≠ g; omega) (.slice A2 pn c2)); have N4 := Lib.hid (bput (bcall M4.out hb2) (p := ⟨g, 10, none⟩) hwg.out (.slice A2 pn c2))
  have HO2 := Lib.hid ((ho2.mono (show w.heap.size ≤ _ from M4.out.size)).setFar (p := ⟨g, 10, none⟩) (fun a ha he => by have h1 := (ho2.block_lt a ha).1; have h2 := M0.out.lt; have h3 : a.block = g := he; omega) (.slice A2 pn c2))
  have HO1' := Lib.hid ((HO1.out.below hb2 (Nat.le_refl _)).setFar (p := ⟨g, 10, none⟩) (fun a ha he => by
    have h3 : a.block = g := he
    have h1 := HO1.out
    rcases h1.form with ⟨h4, -, -⟩ | ⟨g', h4, -, -, -, -⟩
    · rw [ha] at h4; cases h4
    · exact HO1.out.ne_blk M0.out (by show 5 ≠ 26; decide) a ha h3) (.slice A2 pn c2))
  clear m0 ho2 hb2 c10 M0 M1 M4 HO1
  go_upto_region 3 with fail
  generalize w3.setCell ⟨g, 10, none⟩ (.slice A2 pn c2) = w4 at *
  clear d10 f10
  have n0 := N0.out
  change Blk w4 g 26 #[.int .i64 d, .int .i64 ky, .int .i64 fo, .int .i64 de, .int .u32 le, .int .u64 of, .int .u32 xo, .int .i64 nd, .int .i64 inn, .slice A1 sn c1, .slice A2 pn c2] at n0
  have M0 := Lib.hid n0; clear n0 N0
  have hsz : Hid ((Tryz.prog.info? 26).map (·.size) = some (#[Value.int .i64 d, .int .i64 ky, .int .i64 fo, .int .i64 de, .int .u32 le, .int .u64 of, .int .u32 xo, .int .i64 nd, .int .i64 inn, .slice A1 sn c1, .slice A2 pn c2]).size) := by show _ = _; kernel_rfl
  have hall : Hid ((#[Value.int .i64 d, .int .i64 ky, .int .i64 fo, .int .i64 de, .int .u32 le, .int .u64 of, .int .u32 xo, .int .i64 nd, .int .i64 inn, .slice A1 sn c1, .slice A2 pn c2]).all (·.oneCell') = true) := by show _ = _; simp [Value.oneCell']
  go_wp2_with (first
    | (refine wpList_load_row rfl 26 _ rfl g rfl 26 #[.int .i64 d, .int .i64 ky, .int .i64 fo, .int .i64 de, .int .u32 le, .int .u64 of, .int .u32 xo, .int .i64 nd, .int .i64 inn, .slice A1 sn c1, .slice A2 pn c2] (0, 0) _ M0.out hu.out rfl hsz.out ?_)
    | (refine wpList_store_row rfl 26 _ _ rfl (g + 1) #[.int .i64 d, .int .i64 ky, .int .i64 fo, .int .i64 de, .int .u32 le, .int .u64 of, .int .u32 xo, .int .i64 nd, .int .i64 inn, .slice A1 sn c1, .slice A2 pn c2] rfl rfl 26 _ N1.out hsz.out rfl hall.out ?_))
  refine bodyPost_ret (results_cell_row rfl _ _ (g + 1) _ _ (0, 0) _ rfl (N1.out.row _) hu.out rfl hsz.out) rfl ⟨⟨A1, sn, c1⟩, ⟨A2, pn, c2⟩, rfl, rfl, rfl, ?_, ?_, brow N4.out (by have := hwg.out; omega) _⟩
  · exact HO1'.out.of_block (fun a ha => setRow_other w4 _ _ _ (HO1'.out.ne_blk N1.out (by show 5 ≠ 26; decide) a ha))
  · exact HO2.out.of_block (fun a ha => setRow_other w4 _ _ _ (HO2.out.ne_blk N1.out (by show 5 ≠ 26; decide) a ha))
set_option maxRecDepth 20000 in
set_option maxHeartbeats 4000000 in
theorem nodeHashes_law (k : Int) (last : Bool) (most : Int) (p : Pr) (ls lp key data : List UInt8) (Ak Ad : Option Addr) (nk ck nd cd : Nat) (w : World) (hp : PrIn w p ls lp) (hk : key.length = nk) (hnk : nk ≤ ck) (hck : ck ≤ 140737488351232) (hrk : RS cB w w.heap.size Ak key) (hdl : data.length = nd) (hn47 : nd ≤ 140737488351232) (hrd : RS cB w w.heap.size Ad data) :
    Calls Tryz.prog 3 #[stV k p (.slice Ak nk ck), .bool last, .int .i64 most, .slice Ad nd cd] w fun e w' => e = .returned (.bool true) ∧ Below w.heap.size w w' := by
  have hcd5 := fun W hr => copied5_any Ad cd nd data W hdl (by omega) hr
  have hck5 := fun W hr => copied5_any Ak ck nk key W hk (by omega) hr
  have hpa := fun W hrs hrp => params5_any p ls lp W hp.hls hp.hlp (by have := hp.cs; omega) (by have := hp.cp; omega) hrs hrp
  have hhr := fun W hrs hrp hrk hrd => refHashS_any k last most p ls lp key data Ak Ad nk ck nd cd W hp.fit hp.hls hp.hlp hrs hrp hk hrk hdl (by omega) hrd
  have haw := fun W => awake5_any W
  have hsame := fun (A1 A2 : Option Addr) (c1 c2 n1 n2 : Nat) (l1 l2 : List UInt8) W h1 h2 hm r1 r2 => same5_any A1 A2 c1 c2 l1 l2 n1 n2 W h1 h2 hm r1 r2
  have hss := fun (s t : Sl) (hs : s.n = p.salt.n) (ht : t.n = p.pers.n) => hashS_salt k p s t ls lp key last most data hs ht
  obtain ⟨R, hR⟩ : ∃ R, R = hashS k p ls lp key last most data := ⟨_, rfl⟩
  have hR2 : ∀ s t : Sl, s.n = p.salt.n → t.n = p.pers.n → hashS k (p.salted s t) ls lp key last most data = R := fun s t hs ht => by rw [hss s t hs ht, hR]
  simp only [← hR] at hhr
  have hha2 : ∀ (s t : Sl) (A1 A2 : Option Addr) (c1 c2 : Nat) (W : World), s.n = p.salt.n → t.n = p.pers.n → (nd ≤ c2 ∧ c2 ≤ 9223372036854775807) → RS cB W W.heap.size s.A ls → RS cB W W.heap.size t.A lp → RS cB W W.heap.size A1 key → RS cB W W.heap.size A2 data →
      Calls Tryz.prog 16 #[.int .i64 k, (p.salted s t).v, .slice A1 nk c1, .bool last, .int .i64 most, .slice A2 nd c2] W fun r w' => ∃ A n c cc, r = .returned (.tuple #[.slice A n cc, .int .i64 R.2]) ∧ R.1.length = n ∧ OS cB w' W.heap.size A c R.1 ∧ Below W.heap.size W w' := by
    intro s t A1 A2 c1 c2 W hs ht hc2 hrs hrp hrk hrd
    have h := hashS_any k last most (p.salted s t) ls lp key data A1 A2 nk c1 nd c2 W (hp.fit_salted s t) (hp.hls.trans hs.symm) (hp.hlp.trans ht.symm) hrs hrp hk hrk hdl hc2.1 hc2.2 hrd
    rw [hR2 s t hs ht] at h
    exact h
  obtain ⟨OUT, ERR⟩ := R
  dsimp only at hhr hha2
  have hlen : OUT.length ≤ 64 := by
    have : (hashS k p ls lp key last most data).1.length ≤ 64 := by
      refine hash_ways (P := fun R => R.1.length ≤ 64) k p ls lp key last most data (fun _ => Nat.zero_le _) (fun _ _ _ _ _ => Nat.zero_le _) (fun _ _ _ _ _ => Nat.zero_le _) (fun big _ _ _ n _ hn => ?_)
      rw [List.length_take]
      have := bOf_le big
      omega
    rw [← hR] at this
    exact this
  have HCD := Lib.hid hcd5; have HCK := Lib.hid hck5; have HPA := Lib.hid hpa; have HHA := Lib.hid hha2; have HHR := Lib.hid hhr; have HAW := Lib.hid haw; have HSM := Lib.hid hsame
  have HRS := Lib.hid hp.rs; have HRP := Lib.hid hp.rp; have HRK := Lib.hid hrk; have HRD := Lib.hid hrd; have HDL := Lib.hid hdl; have HLN := Lib.hid hlen
  clear hcd5 hck5 hpa hha2 hhr haw hsame hss hR hR2 hp hk hrk hrd hdl hlen
  unfold stV
  unfold Pr.v Pr.cs Sl.v at *
  go_enter Tryz.func3, Tryz.ntmps3
  go_wp2_with (go_at_call 15; refine (HCD.out _ ((HRD.out.alloc (Nat.le_refl _) _).more (by simp))).mono ?_; rintro e w1 ⟨A1, c1, rfl, ho1, hbw1⟩; (first | refine withN hbw1 ?_ | refine withD hbw1 ?_ | refine with0 hbw1 ?_); intro hcw1 hfw1; have z0w1 : w.heap.size < w1.heap.size := (by have := hbw1.size; (try simp at this); omega))
  have hB0 := Blk.new w 28 #[.int .i64 k, .int .i64 p.digest, .int .i64 p.key, .int .i64 p.fanout, .int .i64 p.depth, .int .u32 p.leaf, .int .u64 p.offset, .int .u32 p.xof, .int .i64 p.nd, .int .i64 p.inner, .slice p.salt.A p.salt.n p.salt.c, .slice p.pers.A p.pers.n p.pers.c, .slice Ak nk ck]
  have hW1 := bcall (bal (b0 w) _) hbw1
  have HO1 := Lib.hid ho1; have HB0 := Lib.hid (hB0.below hbw1 (by simp)); have HW1 := Lib.hid hW1
  clear hB0 hW1 hbw1 ho1
  refine wp_region_B (Ords.of [(0, 0), (0, 1), (0, 2), (0, 3), (0, 5), (0, 6), (0, 8), (0, 9), (0, 10), (2, 4), (2, 7), (2, 11), (0, 12), (0, 13), (0, 14), (0, 15), (0, 16)] .fin) (by kernel_rfl) rfl (by kernel_rfl) (by kernel_rfl) (fun c a d v w h => by cases d <;> exact h) ?_
  refine ords_pure rfl (fun K hK => ?_); go_simp; refine hK _ ?_; clear hK K
  refine ords_heldK rfl (fun K K2 hK hK2 => ?_); go_simp; refine ⟨hK2 _ (fun w9 hS => ?_), hK _ ?_⟩; (clear hK hK2 K K2; (first | refine withN hS ?_ | refine withD hS ?_ | refine with0 hS ?_); intro hcS hfS; go_simp); (clear hK hK2 K K2)
  refine ords_pure rfl (fun K hK => ?_); go_simp; refine hK _ ?_; clear hK K
  refine ords_heldK rfl (fun K K2 hK hK2 => ?_); go_simp; refine ⟨hK2 _ (fun w9 hS => ?_), hK _ ?_⟩; (clear hK hK2 K K2; (first | refine withN hS ?_ | refine withD hS ?_ | refine with0 hS ?_); intro hcS hfS; go_simp); (clear hK hK2 K K2)
  refine ords_pure rfl (fun K hK => ?_); go_simp; refine hK _ ?_; clear hK K
  refine ords_heldK rfl (fun K K2 hK hK2 => ?_); go_simp; refine ⟨hK2 _ (fun w9 hS => ?_), hK _ ?_⟩; (clear hK hK2 K K2; (first | refine withN hS ?_ | refine withD hS ?_ | refine with0 hS ?_); intro hcS hfS; go_simp); (clear hK hK2 K K2)
  refine ords_pure rfl (fun K hK => ?_); go_simp; refine hK _ ?_; clear hK K
  refine ords_pure rfl (fun K hK => ?_); go_simp; refine hK _ ?_; clear hK K
  refine ords_pure rfl (fun K hK => ?_); go_simp; refine hK _ ?_; clear hK K
  refine ords_loud rfl (fun n1 => ?_)
  go_wp2_with (go_at_call 17; refine (HPA.out _ (((HRS.out.below HW1.out).more HW1.out.size).drewN _) (((HRP.out.below HW1.out).more HW1.out.size).drewN _)).mono ?_; rintro e2 w2 ⟨s, t, rfl, hs, ht, hos, hot, hb2⟩)
  have HB2 := Lib.hid (bcall (bdr (b0 w1) _) hb2); have HOS := Lib.hid hos; have HOT := Lib.hid hot; have HSN := Lib.hid hs; have HTN := Lib.hid ht; clear hb2 hos hot hs ht
  refine ⟨HB2.out, ?_⟩
  refine ords_loud rfl (fun n2 => ?_)
  go_wp2_with (go_at_call 15; refine (HCK.out _ ((((HRK.out.below HW1.out).more HW1.out.size).below HB2.out).more HB2.out.size |>.drewN _)).mono ?_; rintro e3 w3 ⟨A3, c3, rfl, ho3, hb3⟩)
  have HB3 := Lib.hid (bcall (bdr HB2.out _) hb3); have HO3 := Lib.hid ho3; have HOS3 := Lib.hid (((HOS.out.drewN _).below hb3 (Nat.le_refl _))); have HOT3 := Lib.hid (((HOT.out.drewN _).below hb3 (Nat.le_refl _))); clear hb3 ho3
  refine ⟨HB3.out, ?_⟩
  refine ords_loud rfl (fun n3 => ?_)
  go_wp2_with (go_at_call 16; refine (HHA.out s t A3 A1 c3 c1 _ HSN.out HTN.out ⟨by have := HO1.out.len_le.1; rw [HDL.out] at this; exact this, by have := HO1.out.len_le.2; unfold maxLen at this; omega⟩ (HOS3.out.reads.drewN _) (HOT3.out.reads.drewN _) (HO3.out.reads.drewN _) (((HO1.out.below HB3.out (Nat.le_refl _)).reads).drewN _)).mono ?_; rintro e4 w4 ⟨A4, m4, c4, cc4, rfl, hl4, ho4, hb4⟩)
  have HB4 := Lib.hid (bcall (bdr HB3.out _) hb4); have HO4 := Lib.hid ho4; have HL4 := Lib.hid hl4; clear hb4 ho4 hl4
  refine ⟨HB4.out, ?_⟩
  refine ords_pure rfl (fun K hK => ?_); go_simp; refine hK _ ?_; clear hK K
  refine ords_pure rfl (fun K hK => ?_); go_simp; refine hK _ ?_; clear hK K
  refine ords_pure rfl (fun K hK => ?_); go_simp; refine hK _ ?_; clear hK K
  refine ords_pure rfl (fun K hK => ?_); go_simp; refine hK _ ?_; clear hK K
  refine ords_pure rfl (fun K hK => ?_); go_simp; refine hK _ ?_; clear hK K
  refine ords_end (fun n4 => ?_)
  have hB := bdr HB4.out n4
  have hO4 := HO4.out.drewN n4
  have hB0 := HB0.out.below hB HB0.out.lt
  have hO1 := HO1.out.below hB (Nat.le_refl _)
  generalize w4.drewN n4 = w5 at *
  have HWW := Lib.hid (bcall HW1.out hB)
  have hbl : w.heap.size < w5.heap.size := hB0.lt
  have d0 : w5.cell? ⟨w.heap.size, 0, none⟩ = some (.int .i64 k) := hB0.cell 0
  have d1 : w5.cell? ⟨w.heap.size, 1, none⟩ = some (.int .i64 p.digest) := hB0.cell 1
  have d2 : w5.cell? ⟨w.heap.size, 2, none⟩ = some (.int .i64 p.key) := hB0.cell 2
  have d3 : w5.cell? ⟨w.heap.size, 3, none⟩ = some (.int .i64 p.fanout) := hB0.cell 3
  have d4 : w5.cell? ⟨w.heap.size, 4, none⟩ = some (.int .i64 p.depth) := hB0.cell 4
  have d5 : w5.cell? ⟨w.heap.size, 5, none⟩ = some (.int .u32 p.leaf) := hB0.cell 5
  have d6 : w5.cell? ⟨w.heap.size, 6, none⟩ = some (.int .u64 p.offset) := hB0.cell 6
  have d7 : w5.cell? ⟨w.heap.size, 7, none⟩ = some (.int .u32 p.xof) := hB0.cell 7
  have d8 : w5.cell? ⟨w.heap.size, 8, none⟩ = some (.int .i64 p.nd) := hB0.cell 8
  have d9 : w5.cell? ⟨w.heap.size, 9, none⟩ = some (.int .i64 p.inner) := hB0.cell 9
  have d10 : w5.cell? ⟨w.heap.size, 10, none⟩ = some (.slice p.salt.A p.salt.n p.salt.c) := hB0.cell 10
  have d11 : w5.cell? ⟨w.heap.size, 11, none⟩ = some (.slice p.pers.A p.pers.n p.pers.c) := hB0.cell 11
  have d12 : w5.cell? ⟨w.heap.size, 12, none⟩ = some (.slice Ak nk ck) := hB0.cell 12
  have HO4' := Lib.hid hO4; have HO1' := Lib.hid hO1
  have hm4 : m4 ≤ 64 := by have h1 := HL4.out; have h2 := HLN.out; omega
  clear hB hO4 hB0 hO1 HO4 HO1 HB2 HB3 HB4 HOS HOT HOS3 HOT3 HO3 HSN HTN HB0 HW1 HCD HCK HPA HHA
  go_wp2_with (first
    | (go_at_call 18; refine (HHR.out _ ((HRS.out.below HWW.out).more HWW.out.size) ((HRP.out.below HWW.out).more HWW.out.size) ((HRK.out.below HWW.out).more HWW.out.size) ((HRD.out.below HWW.out).more HWW.out.size)).mono ?_; rintro e6 w6 ⟨A6, m6, c6, cc6, rfl, hl6, ho6, hb6⟩; have HB6 := Lib.hid hb6; have HO6 := Lib.hid ho6; have HL6 := Lib.hid hl6; have HO46 := Lib.hid (HO4'.out.below hb6 (Nat.le_refl _)); clear hb6 ho6 hl6)
    | (go_at_call 19; refine (HSM.out A4 A6 cc4 cc6 m4 m6 OUT OUT _ HL4.out HL6.out (by omega) HO46.out.reads HO6.out.reads).mono ?_; rintro e7 w7 ⟨rfl, hb7⟩; rw [decide_eq_true (rfl : OUT = OUT)]; have HB7 := Lib.hid (bcall HB6.out hb7); clear hb7)
    | (go_at_call 19; refine (HSM.out A1 Ad c1 cd nd nd data data _ HDL.out HDL.out (by omega) ((HO1'.out.below HB7.out (Nat.le_refl _)).reads) (((HRD.out.below HWW.out).more HWW.out.size).below HB7.out |>.more HB7.out.size)).mono ?_; rintro e8 w8 ⟨rfl, hb8⟩; rw [decide_eq_true (rfl : data = data)]; have HB8 := Lib.hid (bcall HB7.out hb8); clear hb8)
    | (go_at_call 20; refine (HAW.out _).mono ?_; rintro e9 w9 ⟨rfl, hb9⟩; have HB9 := Lib.hid (bcall HB8.out hb9); clear hb9))
  exact bodyPost_ret (results_tmp rfl _ _ _) rfl ⟨rfl, bcall HWW.out HB9.out⟩
end Go.Proofs.YtgephdbicbmpeaaGreat

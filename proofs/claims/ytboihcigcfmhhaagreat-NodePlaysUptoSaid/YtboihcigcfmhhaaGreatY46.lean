/-
  Y46: contracts and lemmas alone; no statement is claimed here.
-/
import Derived.Test.YtboihcigcfmhhaaGreatY45
import Derived.Test.YtboihcigcfmhhaaGreatY21
namespace Go.Proofs.YtboihcigcfmhhaaGreat
open Lib renaming hid -> zH
open Go.RowKit
attribute [local go_sem] pureUpon Ords.of
def Pr.salted (p : Pr) (s t : Sl) : Pr := { p with salt := s, pers := t }
theorem encTo_salt (big : Bool) (p : Pr) (s t : Sl) : ∀ k, encTo big (p.salted s t) k = encTo big p k
 | 0 => rfl
 | k + 1 => by
  unfold encTo;rw [encTo_salt big p s t k]
  rfl
set_option maxRecDepth 20000 in
set_option maxHeartbeats 2000000 in
theorem params5_any (p : Pr) (ls lp : List UInt8) (w : World) (hls : ls.length = p.salt.n) (hlp : lp.length = p.pers.n) (hn1 : p.salt.n <= 140737488355328) (hn2 : p.pers.n <= 140737488355328) (hrs : RS cB w w.heap.size p.salt.A ls) (hrp : RS cB w w.heap.size p.pers.A lp) :
  Calls Tryz.prog 14 #[p.v] w fun e w' => ∃ s t : Sl, e = .returned (p.salted s t).v /\ s.n = p.salt.n /\ t.n = p.pers.n /\ OS cB w' w.heap.size s.A s.c ls /\ OS cB w' w.heap.size t.A t.c lp /\ Below w.heap.size w w' := by
 have h1 := fun W hr => copied5_any p.salt.A p.salt.c p.salt.n ls W hls hn1 hr
 have h2 := fun W hr => copied5_any p.pers.A p.pers.c p.pers.n lp W hlp hn2 hr
 obtain ⟨d, ky, fo, de, le, of, xo, nd, inn, ⟨sA, sn, sc⟩, ⟨pA, pn, pc⟩⟩ := p;unfold Pr.v Pr.cs Sl.v Pr.salted at *;dsimp only at *;have H1 := zH h1; have H2 := zH h2; have HRS := zH hrs; have HRP := zH hrp;clear h1 h2 hrs hrp hls hlp hn1 hn2;have hu := zH Tryz.underlying26;go_enter Tryz.func14, Tryz.ntmps14;go_upto_region 1 with fail
 have n0 : Blk ((w.alloc (.cells #[.int .i64 d, .int .i64 ky, .int .i64 fo, .int .i64 de, .int .u32 le, .int .u64 of, .int .u32 xo, .int .i64 nd, .int .i64 inn, .slice sA sn sc, .slice pA pn pc] 26)).alloc (.cells #[.int .i64 0, .int .i64 0, .int .i64 0, .int .i64 0, .int .u32 0, .int .u64 0, .int .u32 0, .int .i64 0, .int .i64 0, .slice none 0 0, .slice none 0 0] 26)) w.heap.size 26 #[.int .i64 d, .int .i64 ky, .int .i64 fo, .int .i64 de, .int .u32 le, .int .u64 of, .int .u32 xo, .int .i64 nd, .int .i64 inn, .slice sA sn sc, .slice pA pn pc] := (Blk.new _ _ _).alloc _;have n1 : Blk ((w.alloc (.cells #[.int .i64 d, .int .i64 ky, .int .i64 fo, .int .i64 de, .int .u32 le, .int .u64 of, .int .u32 xo, .int .i64 nd, .int .i64 inn, .slice sA sn sc, .slice pA pn pc] 26)).alloc (.cells #[.int .i64 0, .int .i64 0, .int .i64 0, .int .i64 0, .int .u32 0, .int .u64 0, .int .u32 0, .int .i64 0, .int .i64 0, .slice none 0 0, .slice none 0 0] 26)) (w.heap.size + 1) 26 #[.int .i64 0, .int .i64 0, .int .i64 0, .int .i64 0, .int .u32 0, .int .u64 0, .int .u32 0, .int .i64 0, .int .i64 0, .slice none 0 0, .slice none 0 0] := Blk.new2 _ _ _ _;have n4 := bal (bal (b0 w) (.cells #[.int .i64 d, .int .i64 ky, .int .i64 fo, .int .i64 de, .int .u32 le, .int .u64 of, .int .u32 xo, .int .i64 nd, .int .i64 inn, .slice sA sn sc, .slice pA pn pc] 26)) (.cells #[.int .i64 0, .int .i64 0, .int .i64 0, .int .i64 0, .int .u32 0, .int .u64 0, .int .u32 0, .int .i64 0, .int .i64 0, .slice none 0 0, .slice none 0 0] 26);obtain ⟨g, hg⟩ : ∃ g, g = w.heap.size := ⟨_, rfl⟩;rw [<- hg] at n0 n1 ⊢;generalize (w.alloc (.cells #[.int .i64 d, .int .i64 ky, .int .i64 fo, .int .i64 de, .int .u32 le, .int .u64 of, .int .u32 xo, .int .i64 nd, .int .i64 inn, .slice sA sn sc, .slice pA pn pc] 26)).alloc (.cells #[.int .i64 0, .int .i64 0, .int .i64 0, .int .i64 0, .int .u32 0, .int .u64 0, .int .u32 0, .int .i64 0, .int .i64 0, .slice none 0 0, .slice none 0 0] 26) = w0 at *;have hwg : Hid (w.heap.size <= g) := by (show _ <= _; omega)
 have c9 : w0.cell? ⟨g, 9, none⟩ = some (.slice sA sn sc) := n0.cell 9;have N0 := zH n0; have N1 := zH n1; have N4 := zH n4; clear n0 n1 n4 hg;go_wp2_with fail;refine (H1 _ ((HRS.below N4).more N4.size)).mono ?_;rintro e1 w1 ⟨A1, c1, rfl, ho1, hb1⟩;have m0 := N0.below hb1 N0.lt;have d9 : w1.cell? ⟨g, 9, none⟩ = some (.slice sA sn sc) := m0.cell 9;have f9 := m0.frozen 9;have M0 := zH (m0.set_ 9 (.slice A1 sn c1)); have M1 := zH ((N1.below hb1 N1.lt).far (p := ⟨g, 9, none⟩) (by show g + 1 ≠ g; omega) (.slice A1 sn c1)); have M4 := zH (bput (bcall N4.out hb1) (p := ⟨g, 9, none⟩) hwg.out (.slice A1 sn c1));have HO1 := zH ((ho1.mono (show w.heap.size <= _ from N4.size)).setFar (p := ⟨g, 9, none⟩) (fun a ha he => by have h1 := (ho1.block_lt a ha).1; have h2 := N0.lt; have h3 : a.block = g := he; omega) (.slice A1 sn c1));clear m0 ho1 hb1 c9 N0 N1 N4;go_upto_region 2 with fail
 generalize w1.setCell ⟨g, 9, none⟩ (.slice A1 sn c1) = w2 at *;have c10 : w2.cell? ⟨g, 10, none⟩ = some (.slice pA pn pc) := M0.cell 10;clear d9 f9;go_wp2_with fail;refine (H2 _ ((HRP.below M4).more M4.size)).mono ?_;rintro e3 w3 ⟨A2, c2, rfl, ho2, hb2⟩;have m0 := M0.below hb2 M0.lt;have d10 : w3.cell? ⟨g, 10, none⟩ = some (.slice pA pn pc) := m0.cell 10;have f10 := m0.frozen 10;have N0 := zH (m0.set_ 10 (.slice A2 pn c2)); have N1 := zH ((M1.below hb2 M1.lt).far (p := ⟨g, 10, none⟩) (by show g + 1 ≠ g; omega) (.slice A2 pn c2)); have N4 := zH (bput (bcall M4.out hb2) (p := ⟨g, 10, none⟩) hwg.out (.slice A2 pn c2));have HO2 := zH ((ho2.mono (show w.heap.size <= _ from M4.size)).setFar (p := ⟨g, 10, none⟩) (fun a ha he => by have h1 := (ho2.block_lt a ha).1; have h2 := M0.lt; have h3 : a.block = g := he; omega) (.slice A2 pn c2));have HO1' := zH ((HO1.below hb2 (Nat.le_refl _)).setFar (p := ⟨g, 10, none⟩) (fun a ha he => by
  have h3 : a.block = g := he;have h1 := HO1.out;rcases h1.form with ⟨h4, -, -⟩ | ⟨g', h4, -, -, -, -⟩
  ·rw [ha] at h4; cases h4
  ·exact HO1.ne_blk M0 (by show 5 ≠ 26; decide) a ha h3) (.slice A2 pn c2))
 clear m0 ho2 hb2 c10 M0 M1 M4 HO1;go_upto_region 3 with fail
 generalize w3.setCell ⟨g, 10, none⟩ (.slice A2 pn c2) = w4 at *;clear d10 f10;have n0 := N0.out;change Blk w4 g 26 #[.int .i64 d, .int .i64 ky, .int .i64 fo, .int .i64 de, .int .u32 le, .int .u64 of, .int .u32 xo, .int .i64 nd, .int .i64 inn, .slice A1 sn c1, .slice A2 pn c2] at n0;have M0 := zH n0; clear n0 N0;have hsz : Hid ((Tryz.prog.info? 26).map (·.size) = some (#[Value.int .i64 d, .int .i64 ky, .int .i64 fo, .int .i64 de, .int .u32 le, .int .u64 of, .int .u32 xo, .int .i64 nd, .int .i64 inn, .slice A1 sn c1, .slice A2 pn c2]).size) := by show _ = _; kernel_rfl
 have hall : Hid ((#[Value.int .i64 d, .int .i64 ky, .int .i64 fo, .int .i64 de, .int .u32 le, .int .u64 of, .int .u32 xo, .int .i64 nd, .int .i64 inn, .slice A1 sn c1, .slice A2 pn c2]).all (·.oneCell') = true) := by show _ = _; simp [Value.oneCell']
 go_wp2_with (first
  | (refine wpList_load_row rfl 26 _ rfl g rfl 26 #[.int .i64 d, .int .i64 ky, .int .i64 fo, .int .i64 de, .int .u32 le, .int .u64 of, .int .u32 xo, .int .i64 nd, .int .i64 inn, .slice A1 sn c1, .slice A2 pn c2] (0, 0) _ M0 hu.out rfl hsz.out ?_)
  | (refine wpList_store_row rfl 26 _ _ rfl (g + 1) #[.int .i64 d, .int .i64 ky, .int .i64 fo, .int .i64 de, .int .u32 le, .int .u64 of, .int .u32 xo, .int .i64 nd, .int .i64 inn, .slice A1 sn c1, .slice A2 pn c2] rfl rfl 26 _ N1 hsz.out rfl hall.out ?_))
 refine bodyPost_ret (results_cell_row rfl _ _ (g + 1) _ _ (0, 0) _ rfl (N1.row _) hu.out rfl hsz.out) rfl ⟨⟨A1, sn, c1⟩, ⟨A2, pn, c2⟩, rfl, rfl, rfl, ?_, ?_, brow N4.out (by have := hwg.out; omega) _⟩
 ·exact HO1'.of_block (fun a ha => setRow_other w4 _ _ _ (HO1'.ne_blk N1 (by show 5 ≠ 26; decide) a ha))
 ·exact HO2.of_block (fun a ha => setRow_other w4 _ _ _ (HO2.ne_blk N1 (by show 5 ≠ 26; decide) a ha))
theorem chk_salt (k : Int) (p : Pr) (s t : Sl) (hs : s.n = p.salt.n) (ht : t.n = p.pers.n) : chk k (p.salted s t) = chk k p := by
 unfold chk Pr.salted
 dsimp only
 rw [hs, ht]
theorem encL_salt (big : Bool) (p : Pr) (s t : Sl) (ls lp : List UInt8) : encL big (p.salted s t) ls lp = encL big p ls lp := by
 unfold encL;rw [encTo_salt]
def NewX (m : NPm) (E : Int) (B : Nat) (W : World) (xo : Option Addr) : Prop := (E ≠ 0 /\ xo = none) \/ (E = 0 /\ ∃ g R F, xo = some ⟨g, 0, none⟩ /\ NX W g m ⟨false, []⟩ R F /\ (∀ k, k ∈ F -> B <= k) /\ ∀ k, k ∈ R -> B <= k)
theorem newX_any (k : Int) (p : Pr) (ls lp key : List UInt8) (s t : Sl) (A1 : Option Addr) (nk c1 : Nat) (m : NPm) (E : Int) (W : World) (hs : s.n = p.salt.n) (ht : t.n = p.pers.n) (hls : ls.length = p.salt.n) (hlp : lp.length = p.pers.n) (hf : p.Fit) (hk : key.length = nk)
  (hE : E = if chk k p ≠ 0 then chk k p else if nk ≠ 0 /\ (nk : Int) ≠ p.key then 8 else 0) (hm : E = 0 -> m.Ok /\ k = kOf m.big /\ m.pr = p /\ m.ls = ls /\ m.lp = lp /\ m.key = key)
  (h1 : RS cB W W.heap.size s.A ls) (h2 : RS cB W W.heap.size t.A lp) (h3 : RS cB W W.heap.size A1 key) :
  Calls Tryz.prog 11 #[.int .i64 k, (p.salted s t).v, .slice A1 nk c1] W fun r W' => ∃ xo, r = .returned (.tuple #[.pointer xo, .int .i64 E]) /\ NewX m E W.heap.size W' xo /\ Below W.heap.size W W' := by
 have hcs := chk_salt k p s t hs ht
 by_cases hc : chk k p = 0
 ·obtain ⟨big, rfl⟩ := kind_of hc
  have hfs : (p.salted s t).Fit := ⟨hf.leaf, hf.offset, hf.xof⟩
  by_cases hk2 : nk ≠ 0 /\ (nk : Int) ≠ p.key
  ·rw [if_neg (fun h => h hc), if_pos hk2] at hE
   refine (newKey_any big (p.salted s t) ls lp A1 nk c1 W (hcs.trans hc) hfs (by rw [hls]; exact hs.symm) (by rw [hlp]; exact ht.symm) h1 h2 hk2.1 hk2.2).mono ?_;rintro r W' ⟨rfl, hb⟩;exact ⟨none, by rw [hE], .inl ⟨by rw [hE]; decide, rfl⟩, hb⟩
  ·rw [if_neg (fun h => h hc), if_neg hk2] at hE
   obtain ⟨hmo, hkb, hp, rfl, rfl, rfl⟩ := hm hE;have hbb : big = m.big := by cases big <;> cases hmb : m.big <;> rw [hmb] at hkb <;> first | rfl | exact absurd hkb (by decide)
   subst hbb;refine (new_any m.big m.d (p.salted s t) m.ls m.lp m.key A1 nk c1 W (hcs.trans hc) hfs (by rw [<- hmo.d, hp]; rfl) (by rw [hls]; exact hs.symm) (by rw [hlp]; exact ht.symm) h1 h2 hk (by by_cases h0 : nk = 0; exact .inl h0; exact .inr (by have h8 := not_and.1 hk2 h0; have h9 : (nk : Int) = p.key := (by simpa using h8); exact h9)) h3).mono ?_;rintro r W' ⟨q, F, rfl, hN, hF, hb⟩;rw [encL_salt] at hN;obtain ⟨R, F', h4, h5⟩ := hN.s;refine ⟨_, by rw [hE], .inr ⟨hE, q, R, F', rfl, ?_, fun k hk => hF k ((h5 k).2 (.inl hk)), fun k hk => hF k ((h5 k).2 (.inr hk))⟩, hb⟩;unfold NX;rw [NPm.e_nil];unfold NPm.x;rw [hp];exact h4
 ·rw [if_pos hc] at hE
  refine (newBad_any k (p.salted s t) A1 nk c1 W (by rw [hcs]; exact hc)).mono ?_;rintro r W' ⟨rfl, hb⟩;exact ⟨none, by rw [hE, hcs], .inl ⟨by rw [hE]; exact hc, rfl⟩, hb⟩
def NewR (m : NPm) (E : Int) (H B : Nat) (W : World) (qo : Option Addr) : Prop := (E ≠ 0 /\ qo = none) \/ (E = 0 /\ ∃ q Am nm cm, qo = some ⟨q, 0, none⟩ /\ NR W H q m ⟨false, []⟩ Am nm cm /\ B <= q /\ ∀ a, Am = some a -> B <= a.block)
theorem newR_any (k : Int) (p : Pr) (ls lp key : List UInt8) (A : Option Addr) (nk c : Nat) (m : NPm) (E : Int) (H : Nat) (W : World) (hk : key.length = nk)
  (hE : E = if chk k p ≠ 0 then chk k p else if nk ≠ 0 /\ (nk : Int) ≠ p.key then 8 else 0) (hm : E = 0 -> m.Ok /\ k = kOf m.big /\ m.pr = p /\ m.ls = ls /\ m.lp = lp /\ m.key = key /\ m.Ak = A /\ m.nk = nk /\ m.ck = c)
  (hH : H <= W.heap.size) (h1 : RS cB W H p.salt.A ls) (h2 : RS cB W H p.pers.A lp) (h3 : RS cB W W.heap.size A key) :
  Calls Tryz.prog 16 #[.int .i64 k, p.v, .slice A nk c] W fun r W' => ∃ qo, r = .returned (.tuple #[.pointer qo, .int .i64 E]) /\ NewR m E H W.heap.size W' qo /\ Below W.heap.size W W' := by
 by_cases hc : chk k p = 0
 ·obtain ⟨big, rfl⟩ := kind_of hc
  by_cases hk2 : nk ≠ 0 /\ (nk : Int) ≠ p.key
  ·rw [if_neg (fun h => h hc), if_pos hk2] at hE
   refine (refNewKey_any (kOf big) p A nk c W hc hk2.1 hk2.2).mono ?_;rintro r W' ⟨rfl, hb⟩;exact ⟨none, by rw [hE], .inl ⟨by rw [hE]; decide, rfl⟩, hb⟩
  ·rw [if_neg (fun h => h hc), if_neg hk2] at hE
   obtain ⟨hmo, hkb, rfl, rfl, rfl, rfl, rfl, rfl, rfl⟩ := hm hE;have hbb : big = m.big := by cases big <;> cases hmb : m.big <;> rw [hmb] at hkb <;> first | rfl | exact absurd hkb (by decide)
   subst hbb;refine (refNew_any m.big m.pr m.ls m.lp m.key m.Ak m.nk m.ck W hc (h1.more hH) (h2.more hH) hk (by by_cases h0 : m.nk = 0; exact .inl h0; exact .inr (by have h8 := not_and.1 hk2 h0; simpa using h8)) h3).mono ?_;rintro r W' ⟨q, Am, nm, cm, rfl, hN, hb⟩;refine ⟨_, by rw [hE], .inr ⟨hE, q, Am, nm, cm, rfl, ⟨W.heap.size, hH, ?_, h1.below (hb.mono hH), h2.below (hb.mono hH)⟩, hN.lo, fun a ha => (hN.own.block_lt a ha).1⟩, hb⟩
   show RN _ _ _ _ _ _ _ _ _ _ _ _ (keyL m.big m.key ++ []) _ _ _ _
   rw [List.append_nil];exact hN
 ·rw [if_pos hc] at hE
  refine (refNewBad_any k p A nk c W hc).mono ?_;rintro r W' ⟨rfl, hb⟩;exact ⟨none, by rw [hE], .inl ⟨by rw [hE]; exact hc, rfl⟩, hb⟩
end Go.Proofs.YtboihcigcfmhhaaGreat

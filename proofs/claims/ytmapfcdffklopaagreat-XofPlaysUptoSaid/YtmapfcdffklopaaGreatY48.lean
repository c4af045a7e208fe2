/-
  Y48: contracts and lemmas alone; no statement is claimed here.
-/
import Derived.Test.YtmapfcdffklopaaGreatY47
namespace Go.Proofs.YtmapfcdffklopaaGreat
open Go.RowKit
attribute [local go_sem] pureUpon Ords.of

theorem meas7 (n k : Nat) (h : k < n) : n - (intOf (.int .i64 ((k : Int) + 1))).toNat < n - (intOf (.int .i64 (k : Int))).toNat := by simp [intOf]; omega
theorem num7 (k : Nat) : Value.int .i64 ((k : Int) + 1) = .int .i64 ((k + 1 : Nat) : Int) := rfl
theorem made7_ok (m : Xm) (hm : m.Ok) (Ak : Option Addr) (nk ck : Nat) (s t : Sl) (H : Nat) (w0 w : World) (hk : m.key.length = nk) (hs : m.ls.length = s.n) (ht : m.lp.length = t.n) (hnk : nk ≤ 140737488355328) (hns : s.n ≤ 140737488355328) (hnt : t.n ≤ 140737488355328) (hrk : RS cB w0 H Ak m.key) (hrs : RS cB w0 H s.A m.ls) (hrt : RS cB w0 H t.A m.lp) (hB : Below H w0 w) (hH : H ≤ w.heap.size) :
  Calls Tryz.prog 6 #[sxV (kOf m.big) m.len Ak nk ck s t] w fun r w' => ∃ g q F, r = .returned (.tuple #[.pointer (some ⟨g, 0, none⟩), .pointer (some ⟨q, 0, none⟩), .bool true]) ∧ PS H w0 w' g q m ⟨[], false, 0⟩ ⟨[], false, 0⟩ F Ak ck s t none 0 0 := by
 have hv := hm.val s t hs.symm ht.symm
 rw [hk] at hv
 have hrk1 := hrk.below hB; have hrs1 := hrs.below hB; have hrt1 := hrt.below hB
 refine (made7_core (kOf m.big) m.len 0 m m.key m.ls m.lp Ak nk ck s t w hk hs ht hnk hns hnt (hrk1.more hH) (hrs1.more hH) (hrt1.more hH) hv.symm (fun W A1 c1 A3 c3 A4 c4 h1 h3 h4 => (xNew m hm A1 nk c1 ⟨A3, s.n, c3⟩ ⟨A4, t.n, c4⟩ W hs ht h3 h4 hk h1).mono ?_)).mono ?_
 ·rintro r W' ⟨g, F, rfl, hx, hF, hb⟩
  exact ⟨_, rfl, .inr ⟨rfl, g, F, rfl, hx, hF⟩, hb⟩
 ·rintro r w' ⟨xo, q, B, rfl, ⟨W2, hz, hb2, hq⟩, hBw, hblk, hb⟩
  rcases hz with ⟨h1, -⟩ | ⟨-, g, F, rfl, hx, hF⟩
  ·exact absurd rfl h1
  have hx2 := hx.below hb2
  have hB2 := hB.trans (hb.mono hH)
  refine ⟨g, q, F, rfl, .inl ⟨rfl, rfl, hx2⟩, ⟨by rw [← hk] at hblk; exact hblk, OS.nil _ _ _ rfl, rfl, (fun a h => by cases h), ?_, hs, ht, hrk.below hB2, hrs.below hB2, hrt.below hB2⟩, fun k h => Nat.le_trans hH (Nat.le_trans hBw (hF k h)), fun h => Nat.lt_irrefl _ (Nat.lt_of_lt_of_le (hx.lt q h) hq), (fun a h => by cases h), Nat.zero_le _, hB2⟩
  exact Nat.le_trans hH (Nat.le_trans hBw (Nat.le_trans (Nat.le_trans (hF g hx.here) (Nat.le_of_lt (hx.lt g hx.here))) hq))
theorem made7_no (k len : Int) (key ls lp : List UInt8) (Ak : Option Addr) (nk ck : Nat) (s t : Sl) (w : World) (hk : key.length = nk) (hs : ls.length = s.n) (ht : lp.length = t.n) (hnk : nk ≤ 140737488355328) (hns : s.n ≤ 140737488355328) (hnt : t.n ≤ 140737488355328) (hrk : RS cB w w.heap.size Ak key) (hrs : RS cB w w.heap.size s.A ls) (hrt : RS cB w w.heap.size t.A lp) (hv : xValid k len nk s t ≠ 0) :
  Calls Tryz.prog 6 #[sxV k len Ak nk ck s t] w fun r w' => ∃ q, r = .returned (.tuple #[.pointer none, .pointer (some ⟨q, 0, none⟩), .bool true]) ∧ Below w.heap.size w w' := by
 refine (made7_core k len (xValid k len nk s t) ⟨true, 0, [], [], []⟩ key ls lp Ak nk ck s t w hk hs ht hnk hns hnt hrk hrs hrt rfl (fun W A1 c1 A3 c3 A4 c4 h1 h3 h4 => ?_)).mono ?_
 ·have e : xValid k len nk ⟨A3, s.n, c3⟩ ⟨A4, t.n, c4⟩ = xValid k len nk s t := rfl
  refine (xnewBad_any k len A1 nk c1 ⟨A3, s.n, c3⟩ ⟨A4, t.n, c4⟩ W (by rw [e]; exact hv)).mono ?_
  rintro r W' ⟨rfl, hb⟩
  exact ⟨_, by rw [e], .inl ⟨hv, rfl⟩, hb⟩
 ·rintro r w' ⟨xo, q, B, rfl, ⟨W2, hz, hb2, hq⟩, hBw, hblk, hb⟩
  rcases hz with ⟨-, rfl⟩ | ⟨h1, -⟩
  ·exact ⟨q, rfl, hb⟩
  ·exact absurd h1 hv
set_option maxRecDepth 20000 in
set_option maxHeartbeats 4000000 in
theorem xofPlays_no (k len : Int) (key ls lp : List UInt8) (Ak : Option Addr) (nk ck : Nat) (s t : Sl) (S : Value) (w : World) (hk : key.length = nk) (hs : ls.length = s.n) (ht : lp.length = t.n) (hnk : nk ≤ 140737488355328) (hns : s.n ≤ 140737488355328) (hnt : t.n ≤ 140737488355328) (hrk : RS cB w w.heap.size Ak key) (hrs : RS cB w w.heap.size s.A ls) (hrt : RS cB w w.heap.size t.A lp) (hv : xValid k len nk s t ≠ 0) :
  Calls Tryz.prog 3 #[sxV k len Ak nk ck s t, S] w fun r w' => r = .returned (.bool true) ∧ Below w.heap.size w w' := by
 have hmd := fun W (hB : Below w.heap.size w W) => made7_no k len key ls lp Ak nk ck s t W hk hs ht hnk hns hnt ((hrk.below hB).more hB.size) ((hrs.below hB).more hB.size) ((hrt.below hB).more hB.size) hv
 have HMD := Lib.hid hmd
 clear hmd hrk hrs hrt hv
 have haw := fun W => awake7_any W
 have hB0 := bal (b0 w) (.cells #[.int .i64 k, .int .i64 len, .slice Ak nk ck, s.v, t.v] 24)
 have HAW := Lib.hid haw; have HB0 := Lib.hid hB0; have HK := Lib.hid (Blk.new w 24 #[.int .i64 k, .int .i64 len, .slice Ak nk ck, s.v, t.v])
 clear haw hB0
 have hus := Lib.hid Tryz.underlying24
 have HZS := Lib.hid (show (Tryz.prog.info? 24).map (·.size) = some (#[Value.int .i64 k, .int .i64 len, .slice Ak nk ck, s.v, t.v] : Array Value).size from by kernel_rfl)
 unfold sxV
 go_enter Tryz.func3, Tryz.ntmps3
 go_upto_region 1 with fail
 obtain ⟨g, hg⟩ : ∃ g, g = w.heap.size := ⟨_, rfl⟩
 rw [← hg] at HK ⊢
 have HG := Lib.hid hg
 clear hg
 generalize w.alloc (.cells #[.int .i64 k, .int .i64 len, .slice Ak nk ck, s.v, t.v] 24) = u at *
 go_upto_region 3 with (go_at_call 5; refine (HAW.out _).mono ?_; rintro e1 u1 ⟨rfl, hb1⟩)
 have HK1 := Lib.hid (HK.out.below hb1 HK.out.lt); have HB1 := Lib.hid (bcall HB0.out hb1)
 clear hb1
 go_wp2_with (refine wpList_load_row rfl 24 _ rfl g rfl 24 _ (0, 0) _ HK1.out hus.out rfl HZS.out ?_)
 refine (HMD.out _ HB1.out).mono ?_
 rintro e2 u2 ⟨q, rfl, hb2⟩
 go_wp2_with fail
 exact bodyPost_ret (results_tmp rfl _ _ _) rfl ⟨rfl, bcall HB1.out hb2⟩
set_option maxRecDepth 20000 in
set_option maxHeartbeats 8000000 in
theorem xofPlays_ok (m : Xm) (hm : m.Ok) (k len : Int) (hkk : k = kOf m.big) (hlen : len = m.len) (Ak : Option Addr) (nk ck : Nat) (s t : Sl) (As : Option Addr) (ns cs : Nat) (os : List Op7) (w : World) (hk : m.key.length = nk) (hs : m.ls.length = s.n) (ht : m.lp.length = t.n) (hnk : nk ≤ 140737488355328) (hns : s.n ≤ 140737488355328) (hnt : t.n ≤ 140737488355328) (hrk : RS cB w w.heap.size Ak m.key) (hrs : RS cB w w.heap.size s.A m.ls) (hrt : RS cB w w.heap.size t.A m.lp)
  (hos : os.length = ns) (hn : ns ≤ 1048576) (htot : ops7W os ≤ 1048576) (hsc : Scr7 w.heap.size w As os) :
  Calls Tryz.prog 3 #[sxV k len Ak nk ck s t, .slice As ns cs] w fun r w' => r = .returned (.bool true) ∧ Below w.heap.size w w' := by
 have hmd := fun W (hB : Below w.heap.size w W) => made7_ok m hm Ak nk ck s t w.heap.size w W hk hs ht hnk hns hnt hrk hrs hrt hB hB.size
 rw [← hkk, ← hlen] at hmd
 clear hkk hlen
 have hst := fun (W : World) (p q : Nat) (t2 : XSt) (F : List Nat) (Am : Option Addr) (nm cm : Nat) (o : Op7) (h : PS w.heap.size w W p q m t2 t2 F Ak ck s t Am nm cm) (h1 : o.l.length = o.s.n) (h2 : RS cB W w.heap.size o.s.A o.l) (h3 : nm + o.s.n ≤ 140737488355200) (h4 : o.b < 18446744073709551616) => step7_any h hm o.what o.s.A o.s.n o.s.c o.n o.b o.l h1 h2 h3 h4
 have HMD := Lib.hid hmd; have HST := Lib.hid hst; have HOS := Lib.hid hos; have HTO := Lib.hid htot; have HSC := Lib.hid hsc; have HM := Lib.hid hm
 have huo := Lib.hid Tryz.underlying33
 clear hmd hst hos htot hsc hrk hrs hrt hk hs ht hm
 have haw := fun W => awake7_any W
 have hB0 := bal (b0 w) (.cells #[.int .i64 k, .int .i64 len, .slice Ak nk ck, s.v, t.v] 24)
 have HAW := Lib.hid haw; have HB0 := Lib.hid hB0; have HK := Lib.hid (Blk.new w 24 #[.int .i64 k, .int .i64 len, .slice Ak nk ck, s.v, t.v])
 clear haw hB0
 have hus := Lib.hid Tryz.underlying24
 have HZS := Lib.hid (show (Tryz.prog.info? 24).map (·.size) = some (#[Value.int .i64 k, .int .i64 len, .slice Ak nk ck, s.v, t.v] : Array Value).size from by kernel_rfl)
 unfold sxV
 go_enter Tryz.func3, Tryz.ntmps3
 go_upto_region 1 with fail
 obtain ⟨g, hg⟩ : ∃ g, g = w.heap.size := ⟨_, rfl⟩
 rw [← hg] at HK ⊢
 have HG := Lib.hid hg
 clear hg
 generalize w.alloc (.cells #[.int .i64 k, .int .i64 len, .slice Ak nk ck, s.v, t.v] 24) = u at *
 go_upto_region 3 with (go_at_call 5; refine (HAW.out _).mono ?_; rintro e1 u1 ⟨rfl, hb1⟩)
 have HK1 := Lib.hid (HK.out.below hb1 HK.out.lt); have HB1 := Lib.hid (bcall HB0.out hb1)
 clear hb1
 go_wp2_with (refine wpList_load_row rfl 24 _ rfl g rfl 24 _ (0, 0) _ HK1.out hus.out rfl HZS.out ?_)
 refine (HMD.out _ HB1.out).mono ?_
 rintro e2 u2 ⟨p, q, F, rfl, hP⟩
 have HP := Lib.hid hP
 clear hP HK1 HB1 HK HB0
 go_wp2_with fail
 go_loopw [5, 27] (fun x i wr => ∃ (j p : Nat) (t2 : XSt) (F : List Nat) (Am : Option Addr) (nm cm : Nat), j ≤ ns ∧ i = .int .i64 j ∧ x = .pointer (some ⟨p, 0, none⟩) ∧ PS w.heap.size w wr p q m t2 t2 F Ak ck s t Am nm cm ∧ nm ≤ ops7W (os.take j)) (fun _ i _ => ns - (intOf i).toNat)
 case atStart => exact ⟨0, p, _, F, none, 0, 0, Nat.zero_le _, rfl, rfl, HP.out, Nat.zero_le _⟩
 case round =>
  clear HP
  obtain ⟨j, p1, t2, F1, Am, nm, cm, hj, rfl, rfl, hP, hnm⟩ := hrel
  have HP := Lib.hid hP; have HNM := Lib.hid hnm
  clear hP hnm
  by_cases hlt : j < ns
  ·obtain ⟨o, ho⟩ : ∃ o, os[j]? = some o := ⟨_, List.getElem?_eq_getElem (by rw [HOS.out]; exact hlt)⟩
   obtain ⟨gs, fs, hA, hgs, hra, hl, hrl, hob⟩ := (HSC.out.below HP.out.bel) j o ho
   subst hA
   have HTK := Lib.hid (ops7W_take os j o ho); have HLE := Lib.hid (ops7W_le os (j + 1))
   have HRA := Lib.hid hra; have HL := Lib.hid hl; have HRL := Lib.hid hrl; have HOB := Lib.hid hob; have HJ := Lib.hid hlt
   have hkd : decide ((j : Int) < (ns : Int)) = true := by simp; omega
   have hki : (j : Int) < (ns : Int) := by omega
   have e4 : (⟨gs, fs, none⟩ : Addr).add (j * 4) = ⟨gs, fs + j * 4, none⟩ := Addr.add_mid _ _ _
   clear ho hra hl hrl hob
   obtain ⟨C, hC⟩ : ∃ C, C = opC o.what o.s.A o.s.n o.s.c o.n o.b := ⟨_, rfl⟩
   rw [← hC] at HRA
   have HC := Lib.hid hC
   have HSZ := Lib.hid (show (Tryz.prog.info? 33).map (·.size) = some C.size from by rw [hC]; kernel_rfl)
   have HSL := Lib.hid (show (Tryz.prog.info? 33).map (·.size) = some C.toList.length from by rw [hC]; kernel_rfl)
   have HS0 := Lib.hid (show (#[Value.int .i64 0, .slice none 0 0, .int .i64 0, .int .u64 0] : Array Value).size = C.size from by rw [hC]; rfl)
   have HAL := Lib.hid (show C.all (·.oneCell') = true from by rw [hC]; unfold opC; simp [Value.oneCell'])
   have HZ := Lib.hid (Blk.new wr 33 #[Value.int .i64 0, .slice none 0 0, .int .i64 0, .int .u64 0])
   clear hC
   go_upto_region 9 with (first
    | (refine wpList_load_mid rfl 33 _ rfl gs (fs + j * 4) rfl C.toList _ HRA.out huo.out rfl HSL.out ?_)
    | (refine wpList_store_row rfl 33 _ _ rfl wr.heap.size C rfl rfl 33 _ HZ.out HSZ.out HS0.out HAL.out ?_))
   have HB9 := Lib.hid (brow (bal (b0 wr) (.cells #[Value.int .i64 0, .slice none 0 0, .int .i64 0, .int .u64 0] 33)) (Nat.le_refl _) C)
   have HK9 := Lib.hid (HZ.out.row C)
   have HP9 := Lib.hid (HP.out.below HB9.out)
   have HR9 := Lib.hid (HRL.out.below (HB9.out.mono HP.out.hH))
   obtain ⟨g9, hg9⟩ : ∃ g9, g9 = wr.heap.size := ⟨_, rfl⟩
   rw [← hg9] at HK9 HP9 HR9 ⊢
   clear HZ hg9 HB9
   generalize (wr.alloc _).setRow g9 C = v at *
   go_wp2_with (refine wpList_load_row rfl 33 _ rfl g9 rfl 33 C (0, 0) _ HK9.out huo.out rfl HSZ.out ?_)
   rw [HC.out]
   refine (HST.out v p1 q t2 F1 Am nm cm o HP9.out HL.out HR9.out (by have h1 := HNM.out; have h2 := HTK.out; have h3 := HLE.out; have h4 := HTO.out; have h5 := HL.out; omega) HOB.out).mono ?_
   rintro e3 w3 ⟨p3, t3, F3, Am3, nm3, cm3, rfl, hP3, hn3⟩
   have HP3 := Lib.hid hP3
   have HN3 := Lib.hid (show nm3 ≤ ops7W (os.take (j + 1)) from by have h1 := HNM.out; have h2 := HTK.out; have h5 := HL.out; omega)
   clear hP3 hn3
   go_wp2_with fail
   go_roundw
   case rel => exact ⟨j + 1, p3, t3, F3, Am3, nm3, cm3, HJ.out, num7 j, rfl, HP3.out, HN3.out⟩
   case measure => exact meas7 ns j HJ.out
  ·obtain rfl : ns = j := by omega
   have HNB := Lib.hid (show nm ≤ 140737488355200 from by have h1 := HNM.out; have h2 := ops7W_le os ns; have h3 := HTO.out; omega)
   have HAT := Lib.hid (fun W (hb : Below wr.heap.size wr W) => (HP.out.below hb).x.atq)
   have HLX := Lib.hid (fun W (hb : Below wr.heap.size wr W) => (HP.out.below hb).x.leftq HM.out)
   have HLY := Lib.hid (fun W (hb : Below wr.heap.size wr W) => rxLeft_any w.heap.size q m HM.out t2 Ak ck s t Am nm cm W (HP.out.below hb).r HP.out.pos)
   have HRD := Lib.hid (fun W (hb : Below wr.heap.size wr W) => read7_any (HP.out.below hb) HM.out HNB.out 7)
   have q7 : wr.cell? ⟨q, 7, none⟩ = some (.int .u64 t2.pos) := HP.out.r.cell 7
   have ql := HP.out.r.blk.lt
   obtain ⟨d, hd⟩ : ∃ d, d = m.T - t2.pos := ⟨_, rfl⟩
   rw [← hd] at HLX HLY
   have e1 : ((t2.pos : Int) == (t2.pos : Int)) = true := by simp
   have e2 : ((d : Int) == (d : Int)) = true := by simp
   clear hd hlt
   go_wp2_with fail
   refine wp_region_ords (fun _ => True) (fun _ _ h => h) (Ords.of [(0, 0), (0, 2), (0, 3), (0, 4)] (.two 1 5 (Ords.of [(2, 5), (0, 6), (0, 7), (0, 8), (0, 10), (2, 9), (2, 11), (0, 12), (0, 13), (0, 14), (0, 15), (0, 16), (2, 17), (0, 18), (0, 19)] .fin) (Ords.of [(2, 1), (0, 6), (0, 7), (0, 8), (0, 10), (2, 9), (2, 11), (0, 12), (0, 13), (0, 14), (0, 15), (0, 16), (2, 17), (0, 18), (0, 19)] .fin))) (by kernel_rfl) rfl (by kernel_rfl) (by kernel_rfl) (fun c a d v w h => by cases d <;> exact h) trivial ?_
   iterate 4 (refine ords_pure rfl (fun K hK => ?_); go_simp; refine hK _ ?_; clear hK K)
   refine ords_two rfl rfl (fun n1 => ?_) (fun n1 => ?_)
   ·go_wp2_with (go_at_call 8; refine (HAT.out _ (bdr (b0 wr) _)).mono ?_; rintro e1 w1 ⟨rfl, rfl⟩)
    refine ⟨trivial, ?_⟩
    go_simp
    refine ords_loud rfl (fun n2 => ?_)
    go_wp2
    refine ⟨trivial, ?_⟩
    go_simp
    iterate 4 (refine ords_pure rfl (fun K hK => ?_); go_simp; refine hK _ ?_; clear hK K)
    refine ords_loud rfl (fun n3 => ?_)
    go_wp2_with (go_at_call 9; refine (HLX.out _ (bdr (b0 wr) _)).mono ?_; rintro e2 w2 ⟨rfl, hb2⟩)
    have HB2 := Lib.hid (bcall (bdr (b0 wr) _) hb2)
    clear hb2
    refine ⟨trivial, ?_⟩
    go_simp
    refine ords_loud rfl (fun n4 => ?_)
    go_wp2_with (go_at_call 10; refine (HLY.out _ (bdr HB2.out _)).mono ?_; rintro e3 w3 ⟨rfl, n5, rfl⟩)
    refine ⟨trivial, ?_⟩
    go_simp
    iterate 5 (refine ords_pure rfl (fun K hK => ?_); go_simp; refine hK _ ?_; clear hK K)
    refine ords_loud rfl (fun n5 => ?_)
    go_wp2_with (go_at_call 11; refine (HRD.out _ (by first | exact bdr HB2.out _ | exact bdr (bdr HB2.out _) _)).mono ?_; rintro e4 w4 ⟨rfl, t4, F4, hP4⟩)
    have HP4 := Lib.hid hP4
    clear hP4
    refine ⟨trivial, ?_⟩
    go_simp
    iterate 2 (refine ords_pure rfl (fun K hK => ?_); go_simp; refine hK _ ?_; clear hK K)
    refine ords_end (fun n6 => ?_)
    go_wp2_with fail
    exact bodyPost_ret (results_tmp rfl _ _ _) rfl ⟨rfl, bdr HP4.out.bel _⟩
   ·go_wp2
    refine ⟨trivial, ?_⟩
    go_simp
    refine ords_loud rfl (fun n2 => ?_)
    go_wp2_with (go_at_call 8; refine (HAT.out _ (bdr (b0 wr) _)).mono ?_; rintro e1 w1 ⟨rfl, rfl⟩)
    refine ⟨trivial, ?_⟩
    go_simp
    iterate 4 (refine ords_pure rfl (fun K hK => ?_); go_simp; refine hK _ ?_; clear hK K)
    refine ords_loud rfl (fun n3 => ?_)
    go_wp2_with (go_at_call 9; refine (HLX.out _ (bdr (b0 wr) _)).mono ?_; rintro e2 w2 ⟨rfl, hb2⟩)
    have HB2 := Lib.hid (bcall (bdr (b0 wr) _) hb2)
    clear hb2
    refine ⟨trivial, ?_⟩
    go_simp
    refine ords_loud rfl (fun n4 => ?_)
    go_wp2_with (go_at_call 10; refine (HLY.out _ (bdr HB2.out _)).mono ?_; rintro e3 w3 ⟨rfl, n5, rfl⟩)
    refine ⟨trivial, ?_⟩
    go_simp
    iterate 5 (refine ords_pure rfl (fun K hK => ?_); go_simp; refine hK _ ?_; clear hK K)
    refine ords_loud rfl (fun n5 => ?_)
    go_wp2_with (go_at_call 11; refine (HRD.out _ (by first | exact bdr HB2.out _ | exact bdr (bdr HB2.out _) _)).mono ?_; rintro e4 w4 ⟨rfl, t4, F4, hP4⟩)
    have HP4 := Lib.hid hP4
    clear hP4
    refine ⟨trivial, ?_⟩
    go_simp
    iterate 2 (refine ords_pure rfl (fun K hK => ?_); go_simp; refine hK _ ?_; clear hK K)
    refine ords_end (fun n6 => ?_)
    go_wp2_with fail
    exact bodyPost_ret (results_tmp rfl _ _ _) rfl ⟨rfl, bdr HP4.out.bel _⟩
theorem xofPlays_law (k len : Int) (key ls lp : List UInt8) (Ak : Option Addr) (nk ck : Nat) (s t : Sl) (As : Option Addr) (ns cs : Nat) (os : List Op7) (w : World) (hk : key.length = nk) (hs : ls.length = s.n) (ht : lp.length = t.n) (hnk : nk ≤ 140737488355328) (hns : s.n ≤ 140737488355328) (hnt : t.n ≤ 140737488355328) (hrk : RS cB w w.heap.size Ak key) (hrs : RS cB w w.heap.size s.A ls) (hrt : RS cB w w.heap.size t.A lp)
  (hos : os.length = ns) (hn : ns ≤ 1048576) (htot : ops7W os ≤ 1048576) (hsc : Scr7 w.heap.size w As os) :
  Calls Tryz.prog 3 #[sxV k len Ak nk ck s t, .slice As ns cs] w fun r w' => r = .returned (.bool true) ∧ Below w.heap.size w w' := by
 by_cases hv : xValid k len nk s t = 0
 ·obtain ⟨big, hb, hb2, -⟩ := xnums (xOK_of hv)
  subst hb
  exact xofPlays_ok ⟨big, len, key, ls, lp⟩ (Xm.Ok.of (s := s) (p := t) hs.symm ht.symm (by show xValid (kOf big) len key.length s t = 0; rw [hk]; exact hv)) _ _ rfl rfl Ak nk ck s t As ns cs os w hk hs ht hnk hns hnt hrk hrs hrt hos hn htot hsc
 ·exact xofPlays_no k len key ls lp Ak nk ck s t _ w hk hs ht hnk hns hnt hrk hrs hrt hv
end Go.Proofs.YtmapfcdffklopaaGreat

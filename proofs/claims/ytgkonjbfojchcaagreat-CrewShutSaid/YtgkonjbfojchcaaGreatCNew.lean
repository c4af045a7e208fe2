/-
  New of a crew. Contracts alone; no statement is claimed here.
-/
import Derived.Test.YtgkonjbfojchcaaGreatCProg
import Derived.Deep.RegionWith
namespace Go.Proofs.YtgkonjbfojchcaaGreat
open Go.RowKit
attribute [local go_sem] pureUpon Ords.of

set_option maxHeartbeats 1000000 in
theorem own_any (A : Option Addr) (n c : Nat) (l : List UInt8) (w : World) (hl : l.length = n) (hn : n ≤ 140737488351232) (hr : RS cB w w.heap.size A l) :
    Calls Tryz.prog 23 #[.slice A n c] w fun r w' => ∃ (A' : Option Addr) (c' : Nat), r = .returned (.slice A' n c') ∧ OS cB w' w.heap.size A' c' l ∧ Below w.heap.size w w' := by
  have HL := Lib.hid hl; have HR := Lib.hid hr; have HN3 := Lib.hid (OS.nil (cd := cB) w w.heap.size 0 rfl); clear hl hr
  go_enter Tryz.func23, Tryz.ntmps23
  go_wp2_with (at_builtin; refine wpList_appB _ rfl (.const (.slice none 0 0)) (.tmp 3) rfl HN3.out rfl rfl HR.out rfl HL.out (by omega) (Nat.le_refl _) ?_; intro A3 c3 w3 ho3 hg3 hA3; have hb3 := bapp (b0 w) HN3.out hg3; rw [List.nil_append] at ho3)
  exact bodyPost_ret (results_tmp rfl _ _ _) rfl ⟨A3, c3, rfl, ho3, hb3⟩
theorem own_any2 (A : Option Addr) (n c : Nat) (l : List UInt8) (u w : World) (hl : l.length = n) (hn : n ≤ 140737488351232) (hr : RS cB u u.heap.size A l) (hb : Below u.heap.size u w) :
    Calls Tryz.prog 23 #[.slice A n c] w fun r w' => ∃ (A' : Option Addr) (c' : Nat), r = .returned (.slice A' n c') ∧ Below w.heap.size w w' :=
  (own_any A n c l w hl hn ((hr.below hb).more hb.size)).mono fun _ _ ⟨A', c', h1, _, h3⟩ => ⟨A', c', h1, h3⟩
set_option maxRecDepth 20000 in
set_option maxHeartbeats 4000000 in
theorem crewNew_any (t : Tr) (a b : Int) (lk ls lp : List UInt8) (w : World) (h : treeE t = 0) (h2 : poolE a b = 0) (hk : lk.length = t.key.n) (hs : ls.length = t.salt.n) (hp : lp.length = t.pers.n) (nk : t.key.n ≤ 140737488351232) (ns : t.salt.n ≤ 140737488351232) (np : t.pers.n ≤ 140737488351232)
    (rk : RS cB w w.heap.size t.key.A lk) (rs : RS cB w w.heap.size t.salt.A ls) (rp : RS cB w w.heap.size t.pers.A lp) :
    Calls Tryz.prog 14 #[.agg t.cs, .agg #[.int .i64 a, .int .i64 b]] w fun r w' => ∃ g cs, r = .returned (.tuple #[.pointer (some ⟨g, 0, none⟩), .int .i64 0]) ∧ w.heap.size ≤ g ∧ Blk w' g 32 cs ∧ cs[11]? = some (.slice none 0 0) ∧ cs[12]? = some (.bool true) ∧ cs[13]? = some (.bool false) ∧ Below w.heap.size w w' := by
  have hv := fun W => validOk_any t a b h h2 W
  have h1 := fun u W hr hb => own_any2 t.key.A t.key.n t.key.c lk u W hk nk hr hb
  have h3 := fun u W hr hb => own_any2 t.salt.A t.salt.n t.salt.c ls u W hs ns hr hb
  have h4 := fun u W hr hb => own_any2 t.pers.A t.pers.n t.pers.c lp u W hp np hr hb
  have HSZ := Lib.hid (Tr.size t)
  have HV := Lib.hid hv; have H1 := Lib.hid h1; have H3 := Lib.hid h3; have H4 := Lib.hid h4; have RK := Lib.hid rk; have RSS := Lib.hid rs; have RP := Lib.hid rp
  clear hv h1 h3 h4 rk rs rp hk hs hp nk ns np h h2
  have hu := Lib.hid Tryz.underlying28
  have hup := Lib.hid Tryz.underlying30
  have hps : Hid ((Tryz.prog.info? 30).map (·.size) = some (#[Value.int .i64 a, .int .i64 b]).size) := by show _ = _; kernel_rfl
  go_enter Tryz.func14, Tryz.ntmps14
  go_upto_region 1 with fail
  have HK := Lib.hid ((Blk.new w 28 t.cs).alloc (.cells #[.int .i64 a, .int .i64 b] 30))
  have HL := Lib.hid (Blk.new2 w (.cells t.cs 28) 30 #[.int .i64 a, .int .i64 b])
  have HB := Lib.hid (bal (bal (b0 w) (.cells t.cs 28)) (.cells #[.int .i64 a, .int .i64 b] 30))
  generalize (w.alloc (.cells t.cs 28)).alloc (.cells #[.int .i64 a, .int .i64 b] 30) = u at *
  go_upto_region 4 with (first
    | (refine wpList_load_row rfl 28 _ rfl w.heap.size rfl 28 t.cs (0, 0) _ HK.out hu.out rfl HSZ.out ?_)
    | (refine wpList_load_row rfl 30 _ rfl (w.heap.size + 1) rfl 30 _ (0, 0) _ HL.out hup.out rfl hps.out ?_)
    | (go_at_call 22; refine (HV.out _).mono ?_; rintro e1 u ⟨rfl, hb1⟩; replace HK := Lib.hid (HK.out.below hb1 HK.out.lt); replace HL := Lib.hid (HL.out.below hb1 HL.out.lt); replace HB := Lib.hid (bcall HB.out hb1); clear hb1))
  have K1 := Lib.hid (fun W hb => H1.out u W ((RK.out.below HB.out).more HB.out.size) hb)
  have K3 := Lib.hid (fun W hb => H3.out u W ((RSS.out.below HB.out).more HB.out.size) hb)
  have K4 := Lib.hid (fun W hb => H4.out u W ((RP.out.below HB.out).more HB.out.size) hb)
  have C6 := Lib.hid (HK.out.cell 6); have C7 := Lib.hid (HK.out.cell 7); have C8 := Lib.hid (HK.out.cell 8)
  have c6 : u.cell? ⟨w.heap.size, 6, none⟩ = some (.slice t.key.A t.key.n t.key.c) := C6.out
  have c7 : u.cell? ⟨w.heap.size, 7, none⟩ = some (.slice t.salt.A t.salt.n t.salt.c) := C7.out
  have c8 : u.cell? ⟨w.heap.size, 8, none⟩ = some (.slice t.pers.A t.pers.n t.pers.c) := C8.out
  have f6 := HK.out.frozen 6; have f7 := HK.out.frozen 7; have f8 := HK.out.frozen 8
  have hlt := Lib.hid HK.out.lt
  have HS := Lib.hid (b0 u)
  go_region_with (go_at_call 23; first | (refine (K1.out _ ?_).mono ?_; (first | exact HS.out | exact bdr1 HS.out | exact bdr1 (bdr1 HS.out) | exact bdr1 (bdr1 (bdr1 HS.out)) | exact bdr1 (bdr1 (bdr1 (bdr1 HS.out)))); rintro e1 u1 ⟨A1, x1, rfl, hb1⟩; (first | replace HS := Lib.hid (bcall HS.out hb1) | replace HS := Lib.hid (bcall (bdr1 HS.out) hb1) | replace HS := Lib.hid (bcall (bdr1 (bdr1 HS.out)) hb1) | replace HS := Lib.hid (bcall (bdr1 (bdr1 (bdr1 HS.out))) hb1)); have c6 : u1.cell? ⟨w.heap.size, 6, none⟩ = some (.slice t.key.A t.key.n t.key.c) := (HS.out.cell (p := ⟨w.heap.size, 6, none⟩) hlt.out).trans C6.out; have c7 : u1.cell? ⟨w.heap.size, 7, none⟩ = some (.slice t.salt.A t.salt.n t.salt.c) := (HS.out.cell (p := ⟨w.heap.size, 7, none⟩) hlt.out).trans C7.out; have c8 : u1.cell? ⟨w.heap.size, 8, none⟩ = some (.slice t.pers.A t.pers.n t.pers.c) := (HS.out.cell (p := ⟨w.heap.size, 8, none⟩) hlt.out).trans C8.out; have f6 := (HK.out.below HS.out HK.out.lt).frozen 6; have f7 := (HK.out.below HS.out HK.out.lt).frozen 7; have f8 := (HK.out.below HS.out HK.out.lt).frozen 8; have hl1 := (HK.out.below HS.out HK.out.lt).lt) | (refine (K3.out _ ?_).mono ?_; (first | exact HS.out | exact bdr1 HS.out | exact bdr1 (bdr1 HS.out) | exact bdr1 (bdr1 (bdr1 HS.out)) | exact bdr1 (bdr1 (bdr1 (bdr1 HS.out)))); rintro e1 u1 ⟨A2, x2, rfl, hb1⟩; (first | replace HS := Lib.hid (bcall HS.out hb1) | replace HS := Lib.hid (bcall (bdr1 HS.out) hb1) | replace HS := Lib.hid (bcall (bdr1 (bdr1 HS.out)) hb1) | replace HS := Lib.hid (bcall (bdr1 (bdr1 (bdr1 HS.out))) hb1)); have c6 : u1.cell? ⟨w.heap.size, 6, none⟩ = some (.slice t.key.A t.key.n t.key.c) := (HS.out.cell (p := ⟨w.heap.size, 6, none⟩) hlt.out).trans C6.out; have c7 : u1.cell? ⟨w.heap.size, 7, none⟩ = some (.slice t.salt.A t.salt.n t.salt.c) := (HS.out.cell (p := ⟨w.heap.size, 7, none⟩) hlt.out).trans C7.out; have c8 : u1.cell? ⟨w.heap.size, 8, none⟩ = some (.slice t.pers.A t.pers.n t.pers.c) := (HS.out.cell (p := ⟨w.heap.size, 8, none⟩) hlt.out).trans C8.out; have f6 := (HK.out.below HS.out HK.out.lt).frozen 6; have f7 := (HK.out.below HS.out HK.out.lt).frozen 7; have f8 := (HK.out.below HS.out HK.out.lt).frozen 8; have hl1 := (HK.out.below HS.out HK.out.lt).lt) | (refine (K4.out _ ?_).mono ?_; (first | exact HS.out | exact bdr1 HS.out | exact bdr1 (bdr1 HS.out) | exact bdr1 (bdr1 (bdr1 HS.out)) | exact bdr1 (bdr1 (bdr1 (bdr1 HS.out)))); rintro e1 u1 ⟨A3, x3, rfl, hb1⟩; (first | replace HS := Lib.hid (bcall HS.out hb1) | replace HS := Lib.hid (bcall (bdr1 HS.out) hb1) | replace HS := Lib.hid (bcall (bdr1 (bdr1 HS.out)) hb1) | replace HS := Lib.hid (bcall (bdr1 (bdr1 (bdr1 HS.out))) hb1)); have c6 : u1.cell? ⟨w.heap.size, 6, none⟩ = some (.slice t.key.A t.key.n t.key.c) := (HS.out.cell (p := ⟨w.heap.size, 6, none⟩) hlt.out).trans C6.out; have c7 : u1.cell? ⟨w.heap.size, 7, none⟩ = some (.slice t.salt.A t.salt.n t.salt.c) := (HS.out.cell (p := ⟨w.heap.size, 7, none⟩) hlt.out).trans C7.out; have c8 : u1.cell? ⟨w.heap.size, 8, none⟩ = some (.slice t.pers.A t.pers.n t.pers.c) := (HS.out.cell (p := ⟨w.heap.size, 8, none⟩) hlt.out).trans C8.out; have f6 := (HK.out.below HS.out HK.out.lt).frozen 6; have f7 := (HK.out.below HS.out HK.out.lt).frozen 7; have f8 := (HK.out.below HS.out HK.out.lt).frozen 8; have hl1 := (HK.out.below HS.out HK.out.lt).lt))
  all_goals
    have hk2 : Blk (((u1.setCell ⟨w.heap.size, 6, none⟩ (.slice A1 t.key.n x1)).setCell ⟨w.heap.size, 7, none⟩ (.slice A2 t.salt.n x2)).setCell ⟨w.heap.size, 8, none⟩ (.slice A3 t.pers.n x3)) w.heap.size 28 #[Value.int .i64 t.kind, .int .i64 t.digest, .int .i64 t.fanout, .int .i64 t.depth, .int .u32 t.leaf, .int .i64 t.inner, .slice A1 t.key.n x1, .slice A2 t.salt.n x2, .slice A3 t.pers.n x3] := (((HK.out.below HS.out HK.out.lt).set_ 6 (.slice A1 t.key.n x1)).set_ 7 (.slice A2 t.salt.n x2)).set_ 8 (.slice A3 t.pers.n x3)
    have hl2 := (((HL.out.below HS.out HL.out.lt).far (p := ⟨w.heap.size, 6, none⟩) (Nat.succ_ne_self _) (.slice A1 t.key.n x1)).far (p := ⟨w.heap.size, 7, none⟩) (Nat.succ_ne_self _) (.slice A2 t.salt.n x2)).far (p := ⟨w.heap.size, 8, none⟩) (Nat.succ_ne_self _) (.slice A3 t.pers.n x3)
    have hb2 := bput (bput (bput (bcall HB.out HS.out) (p := ⟨w.heap.size, 6, none⟩) (Nat.le_refl _) (.slice A1 t.key.n x1)) (p := ⟨w.heap.size, 7, none⟩) (Nat.le_refl _) (.slice A2 t.salt.n x2)) (p := ⟨w.heap.size, 8, none⟩) (Nat.le_refl _) (.slice A3 t.pers.n x3)
    have HK2 := Lib.hid hk2; have HL2 := Lib.hid hl2; have HB2 := Lib.hid hb2
    have PS : Hid ((Tryz.prog.info? 28).map (·.size) = some (#[Value.int .i64 t.kind, .int .i64 t.digest, .int .i64 t.fanout, .int .i64 t.depth, .int .u32 t.leaf, .int .i64 t.inner, .slice A1 t.key.n x1, .slice A2 t.salt.n x2, .slice A3 t.pers.n x3]).size) := Tr.size ⟨t.kind, t.digest, t.fanout, t.depth, t.leaf, t.inner, ⟨A1, t.key.n, x1⟩, ⟨A2, t.salt.n, x2⟩, ⟨A3, t.pers.n, x3⟩⟩
    clear hk2 hl2 hb2 c6 c7 c8 f6 f7 f8 C6 C7 C8 K1 K3 K4 H1 H3 H4 HK HL HB HS
    generalize ((u1.setCell ⟨w.heap.size, 6, none⟩ (.slice A1 t.key.n x1)).setCell ⟨w.heap.size, 7, none⟩ (.slice A2 t.salt.n x2)).setCell ⟨w.heap.size, 8, none⟩ (.slice A3 t.pers.n x3) = v at *
    go_wp2_with (first
      | (refine wpList_load_row rfl 28 _ rfl w.heap.size rfl 28 #[Value.int .i64 t.kind, .int .i64 t.digest, .int .i64 t.fanout, .int .i64 t.depth, .int .u32 t.leaf, .int .i64 t.inner, .slice A1 t.key.n x1, .slice A2 t.salt.n x2, .slice A3 t.pers.n x3] (0, 0) _ HK2.out hu.out rfl PS.out ?_)
      | (refine wpList_load_row rfl 30 _ rfl (w.heap.size + 1) rfl 30 _ (0, 0) _ HL2.out hup.out rfl hps.out ?_))
    exact bodyPost_ret (results_tmp2 rfl _ _ _) rfl ⟨v.heap.size, _, rfl, HB2.out.size, Blk.new _ _ _, rfl, rfl, rfl, bal HB2.out _⟩
end Go.Proofs.YtgkonjbfojchcaaGreat

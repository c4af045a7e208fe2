/-
  Y15: contracts and lemmas alone; no statement is claimed here.
-/
import Derived.Test.YtboihcigcfmhhaaGreatY12
namespace Go.Proofs.YtboihcigcfmhhaaGreat
open Lib renaming hid -> zH
open Go.RowKit
attribute [local go_sem] pureUpon Ords.of
theorem E64.but {w w' : World} {base g c : Nat} {s : St64} {A : Option Addr} {F : List Nat} (h : E64 w base g s A c) (hb : But F w w') (hg : g ∉ F) (hA : ∀ a, A = some a -> a.block ∉ F) : E64 w' base g s A c :=
 ⟨h.blk.but hb hg, h.own.but hb hA, h.ok, h.far⟩
theorem results_state {P : Program} {fn : Func} {p q r : Tmp} {ty : TypeId} (h : fn.results = #[.tmp r, .cell p ty, .tmp q]) (tmps : Array Value) (w : World) (g : Nat) (t : TypeId) (cs : Array Value) (d : TypeDesc)
  (hp : tmps.getD p undef = .pointer (some ⟨g, 0, none⟩)) (hg : Blk w g t cs) (hu : P.underlying ty = some d) (hd : (match d with | .struct _ | .array _ _ => true | _ => false) = true) (hi : (P.info? ty).map (·.size) = some cs.size) :
  (results fn tmps).run P w = .ok (.tuple #[tmps.getD r undef, .agg cs, tmps.getD q undef]) w := by
 have hl := run_loadVar_row (P := P) w g t ty cs (0, 0) d hg hu hd hi;have hp' : tmps[p]?.getD undef = .pointer (some ⟨g, 0, none⟩) := by simpa using hp
 simp [results, h, hp', asAddr, hl]
set_option maxRecDepth 20000 in
set_option maxHeartbeats 4000000 in
theorem state64_any (g base : Nat) (s : St64) (A : Option Addr) (c : Nat) (w : World) (hE : E64 w base g s A c) :
  Calls Tryz.prog 152 #[.pointer (some ⟨g, 0, none⟩)] w fun e w' => ∃ A1 c1 A2 c2, e = .returned (.tuple #[.slice A1 64 c1, .agg #[.int .u64 (wrd s.lo), .int .u64 (wrd s.hi)], .slice A2 s.held.length c2]) /\ OS cB w' w.heap.size A1 c1 (flat s.H) /\ OS cB w' w.heap.size A2 c2 s.held /\ Below w.heap.size w w' := by
 have hm := hE.ok.held;have hby := fun (W : World) => bytes_any s.H W hE.ok.H
 have hE1 := hE.below (bal (b0 w) (.cells #[.int .u64 0, .int .u64 0] 75));have hB1 := Blk.new w 75 #[.int .u64 0, .int .u64 0];have hgl := hE.blk.lt;have hAl := hE.own.block_lt;have HW1 := zH (bal (b0 w) (.cells #[.int .u64 0, .int .u64 0] 75));have HZ2 : Hid ((Tryz.prog.info? 75).map (·.size) = some #[Value.int .u64 (wrd s.lo), Value.int .u64 (wrd s.hi)].size) := by show _ = _; kernel_rfl
 have HA2 : Hid ((#[Value.int .u64 (wrd s.lo), Value.int .u64 (wrd s.hi)].all (·.oneCell')) = true) := by show _ = _; simp [Value.oneCell']
 have hu := zH Tryz.underlying75; have hu8 := zH Tryz.underlying124;have HE := zH hE; have HE1 := zH hE1; have HBY := zH hby; have HB1 := zH hB1; have HAL := zH hAl; clear hE hE1 hby hB1 hAl;generalize hhl : s.held.length = m at *;have HHL := zH hhl; clear hhl;go_enter Tryz.func152, Tryz.ntmps152;go_wp2_with fail;have HLT0 : Hid (w.heap.size < (w.alloc (.cells #[.int .u64 0, .int .u64 0] 75)).heap.size) := by show _ < _; simp
 generalize w.alloc (.cells #[.int .u64 0, .int .u64 0] 75) = W0 at *;have hgn : g ∉ [w.heap.size] := by simp; omega
 have hAn : ∀ a, A = some a -> a.block ∉ [w.heap.size] := fun a ha => by have := HAL.out a ha; simp; omega
 have HGN := zH hgn; have HAN := zH hAn; clear hgn hAn;obtain ⟨c8, c9, c10, c11, c12, c13⟩ := HE1.cells;rw [HHL.out] at c10;refine wrZ (fun W' => But [w.heap.size] W0 W') (fun _ n h => h.drewN n) (Ords.of [(0, 0), (0, 1), (0, 2), (0, 3), (0, 4), (0, 5), (0, 6), (0, 7), (0, 9), (0, 10), (0, 11), (0, 12), (0, 13), (0, 14), (0, 15), (0, 16), (2, 8), (2, 17), (0, 18), (2, 19), (0, 20)] .fin) (But.refl _ _) ?_
 iterate 3 (refine ords_pure rfl (fun K hK => ?_); go_simp; refine hK _ ?_; clear hK K)
 refine ords_heldK rfl (fun K K2 hK hK2 => ?_); go_simp; refine ⟨hK2 _ (fun w9 hS => ?_), hK _ ?_⟩; (clear hK hK2 K K2; obtain ⟨d8, d9, d10, d11, d12, d13⟩ := (HE1.but hS HGN.out HAN.out).cells; rw [HHL.out] at d10; go_simp); (clear hK hK2 K K2)
 iterate 3 (refine ords_pure rfl (fun K hK => ?_); go_simp; refine hK _ ?_; clear hK K)
 refine ords_held (v := Value.agg (wcs s.H).toList.toArray) rfl rfl (fun w9 hS => pure_load_mid 124 (.tmp 11) rfl g 0 rfl _ _ ((HE1.but hS HGN.out HAN.out).rangeH) hu8.out rfl (by rw [Array.length_toList]; exact sz8w s.H HE1.ok.H)) ?_; go_simp
 iterate 3 (refine ords_pure rfl (fun K hK => ?_); go_simp; refine hK _ ?_; clear hK K)
 refine ords_held (v := Value.agg [.int .u64 (wrd s.lo), .int .u64 (wrd s.hi)].toArray) rfl rfl (fun w9 hS => pure_load_mid 75 (.tmp 16) rfl g 8 rfl _ _ ((HE1.but hS HGN HAN).rangeC) hu.out rfl (by kernel_rfl)) ?_; go_simp
 iterate 3 (refine ords_pure rfl (fun K hK => ?_); go_simp; refine hK _ ?_; clear hK K)
 refine ords_heldK rfl (fun K K2 hK hK2 => ?_); go_simp; refine ⟨hK2 _ (fun w9 hS => ?_), hK _ ?_⟩; (clear hK hK2 K K2; obtain ⟨d8, d9, d10, d11, d12, d13⟩ := (HE1.but hS HGN.out HAN.out).cells; rw [HHL.out] at d10; go_simp); (clear hK hK2 K K2);refine ords_loud rfl (fun n1 => ?_);go_wp2_with (go_at_call 83; refine (HBY _).mono ?_; rintro e5 w5 ⟨A5, c5, rfl, ho5, hb5⟩; have HO5 := zH ho5; have HD5 := zH (bcall (bdr (b0 W0) n1) hb5); have HB5 := zH (But.of HD5 [w.heap.size]); clear ho5 hb5); refine ⟨HB5.out, ?_⟩;refine ords_loud rfl (fun n2 => ?_)
 (refine wpList_appB _ rfl (.const (.slice none 0 0)) (.tmp 21) rfl (OS.nil _ w5.heap.size 0 rfl (cd := cB)) rfl rfl (((HE1.below HD5.out).drewN n2).own.reads) rfl HHL.out (by omega) (Nat.le_refl _) ?_; intro A6 c6 w6 ho6 hg6 hA6; rw [List.nil_append] at ho6; rw [Nat.zero_add]; have HO6 := zH ho6; have HD6 := zH ((bdr HD5.out n2).grown hg6 HD5.size (fun _ h => by cases h)); have HB6 := zH (But.of HD6.out [w.heap.size]); have HO56 := zH ((HO5.drewN n2).kept hg6 (fun _ _ h => by cases h)); clear ho6 hg6 hA6; go_wp2; refine ⟨HB6.out, ?_⟩)
 refine ords_pure rfl (fun K hK => ?_); go_simp; refine hK _ ?_; clear hK K;refine ords_loud rfl (fun n3 => ?_)
 (refine wpList_store_row rfl 75 _ _ rfl w.heap.size #[Value.int .u64 (wrd s.lo), Value.int .u64 (wrd s.hi)] rfl rfl 75 _ ((HB1.below HD6.out HLT0.out).drewN n3) HZ2.out rfl HA2.out ?_; go_wp2; refine ⟨(HB6.drewN n3).trans (But.grown (F := [w.heap.size]) (R := some w.heap.size) ⟨rfl, rfl, rfl, by simp [World.setRow], fun k _ hk => setRow_other _ _ k _ (fun e => hk (by rw [e]))⟩ (fun k hk => .inl (by have h := Option.some.inj hk; simp [h]))) (fun k hk => .inl hk), ?_⟩)
 refine ords_pure rfl (fun K hK => ?_); go_simp; refine hK _ ?_; clear hK K;refine ords_end (fun n4 => ?_);go_wp2_with fail;have hlt := HLT0.out;have h5 := HD5.size;have hw : Below w.heap.size w w6 := HW1.trans (HD6.mono HW1.size);have o5 : OS cB (((w6.drewN n3).setRow w.heap.size #[.int .u64 (wrd s.lo), .int .u64 (wrd s.hi)]).drewN n4) w.heap.size A5 c5 (flat s.H) :=
  ((HO56.mono (show w.heap.size <= _ from HW1.size)).of_block (fun a ha => setRow_other _ _ a.block _ (by have h := (HO56.block_lt a ha).1; have h2 : W0.heap.size <= a.block := h; omega)))
 have o6 : OS cB (((w6.drewN n3).setRow w.heap.size #[.int .u64 (wrd s.lo), .int .u64 (wrd s.hi)]).drewN n4) w.heap.size A6 c6 s.held :=
  ((HO6.mono (show w.heap.size <= w5.heap.size by omega)).of_block (fun a ha => setRow_other _ _ a.block _ (by have h := (HO6.block_lt a ha).1; omega)))
 exact bodyPost_ret (results_state rfl _ _ w.heap.size 75 _ _ rfl ((((HB1.below HD6 hlt).drewN n3).row _).drewN n4) hu.out rfl HZ2) rfl ⟨A5, c5, A6, c6, rfl, o5, o6, bdr (brow (bdr hw n3) (Nat.le_refl _) _) n4⟩
end Go.Proofs.YtboihcigcfmhhaaGreat

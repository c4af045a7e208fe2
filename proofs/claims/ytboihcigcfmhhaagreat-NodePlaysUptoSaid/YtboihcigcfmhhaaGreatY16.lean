/-
  Y16: contracts and lemmas alone; no statement is claimed here.
-/
import Derived.Test.YtboihcigcfmhhaaGreatY13
set_option maxHeartbeats 4000000
set_option maxRecDepth 20000
namespace Go.Proofs.YtboihcigcfmhhaaGreat
open _root_.Nat renaming ne_of_lt → bZJ
open _root_.Option.some renaming inj → aZF
open _root_.Nat renaming le_refl → aZC
open Lib renaming hid -> zH
open Go.RowKit
attribute [local go_sem] pureUpon Ords.of
theorem clone64_any (g base : Nat) (A : Option Addr) (c : Nat) (s : St64) (w : World) (hE : E64 w base g s A c) :
  Calls Tryz.prog 150 #[.pointer (some ⟨g, 0, none⟩)] w fun r w' => ∃ q A' c', r = .returned (.iface 123 (.pointer (some ⟨q, 0, none⟩))) /\ w.heap.size <= q /\ E64 w' w.heap.size q s A' c' /\ Below w.heap.size w w' := by
 have hH := hE.ok.H;have hl := hE.ok.held;have h10 : (hc64 s.H s.lo s.hi A s.held.length c)[10]? = some (.slice A s.held.length c) := (hc64_at s.H s.lo s.hi A s.held.length c hH).2.2.1;have h11 : (hc64 s.H s.lo s.hi A s.held.length c)[11]? = some (.int .i64 128) := (hc64_at s.H s.lo s.hi A s.held.length c hH).2.2.2.1;have hsz0 : (hc64 s.H s.lo s.hi A s.held.length c).size = 14 := hc64_size _ _ _ _ _ _ hH;have hall0 : (hc64 s.H s.lo s.hi A s.held.length c).all (·.oneCell') = true := by unfold hc64; simp [wv, Value.oneCell']
 have hput : ∀ A' n' c', (hc64 s.H s.lo s.hi A s.held.length c).setIfInBounds 10 (.slice A' n' c') = hc64 s.H s.lo s.hi A' n' c' := fun A' n' c' => hc64_held _ _ _ _ _ _ _ _ _ hH
 obtain ⟨cs, hcs⟩ : ∃ cs, cs = hc64 s.H s.lo s.hi A s.held.length c := ⟨_, rfl⟩;have hB := hE.blk;rw [<- hcs] at h10 h11 hsz0 hall0 hput hB;obtain ⟨nl, hnl⟩ : ∃ nl, nl = s.held.length := ⟨_, rfl⟩;rw [<- hnl] at h10 hl;have hmk : ∀ (W : World), (Instr.makeSlice 24 (.int .i64 0) (.int .i64 128)).run Tryz.prog W = .ok (.slice (some ⟨W.heap.size, 0, none⟩) 0 128) (W.alloc (.cells (madeCells #[cB.zero] 128) 5)) := fun (W : World) => run_makeS cB_ok .i64 .i64 0 128 (by omega) (by show 1 * 128 <= _; omega) (by omega) W
 have hsz : (Tryz.prog.info? 128).map (·.size) = some cs.size := by rw [hsz0]; kernel_rfl
 have hu := zH Tryz.underlying128;have HB := zH hB; have HSZ := zH hsz; have HALL := zH hall0; have HPUT := zH hput; have HE := zH hE; have HNL := zH hnl; have H10 := zH h10; have H11 := zH h11; have HS0 := zH hsz0; have HZ := zH (Blk.new w 128 #[.int .u64 0, .int .u64 0, .int .u64 0, .int .u64 0, .int .u64 0, .int .u64 0, .int .u64 0, .int .u64 0, .int .u64 0, .int .u64 0, .slice none 0 0, .int .i64 0, .nilFunc, .nilFunc]);have HCS := zH hcs;clear hB hsz hall0 hput hE hnl h10 h11 hsz0 hcs hH;go_enter Tryz.func150, Tryz.ntmps150;go_upto_region 2 with (first
  | (refine wpList_load_row rfl 128 _ rfl g rfl 128 cs (0, 0) _ HB hu.out rfl HSZ ?_)
  | (refine wpList_store_row rfl 128 _ _ rfl w.heap.size cs rfl rfl 128 _ HZ HSZ HS0.symm HALL ?_))
 have HK := zH (HZ.row cs);have HB1 := zH (((HB.alloc (.cells #[.int .u64 0, .int .u64 0, .int .u64 0, .int .u64 0, .int .u64 0, .int .u64 0, .int .u64 0, .int .u64 0, .int .u64 0, .int .u64 0, .slice none 0 0, .int .i64 0, .nilFunc, .nilFunc] 128)).rowFar (bZJ HB.lt) cs));have HW1 := zH (brow (bal (b0 w) (.cells #[.int .u64 0, .int .u64 0, .int .u64 0, .int .u64 0, .int .u64 0, .int .u64 0, .int .u64 0, .int .u64 0, .int .u64 0, .int .u64 0, .slice none 0 0, .int .i64 0, .nilFunc, .nilFunc] 128)) (aZC _) cs);generalize (w.alloc _).setRow w.heap.size cs = w1 at *;have HR1 := zH ((HE.own.reads.below HW1).more HW1.size);have d11 : w1.cell? ⟨g, 11, none⟩ = some (.int .i64 128) := (HB1.cell 11).trans H11.out;have d10 : w1.cell? ⟨g, 10, none⟩ = some (.slice A nl c) := (HB1.cell 10).trans H10.out;have hql := HK.lt;refine wrZ (fun w' => Blk w' g 128 cs) (fun _ n h => h.drewN n) (Ords.of [(0, 0), (0, 1), (0, 2), (0, 3), (0, 5), (0, 6), (0, 7), (0, 8), (2, 4), (2, 9), (0, 10), (2, 11)] .fin) HB1 ?_
 iterate 2 (refine ords_pure rfl (fun K hK => ?_); go_simp; refine hK _ ?_; clear hK K; refine ords_pure rfl (fun K hK => ?_); go_simp; refine hK _ ?_; clear hK K; refine ords_pure rfl (fun K hK => ?_); go_simp; refine hK _ ?_; clear hK K; refine ords_heldK rfl (fun K K2 hK hK2 => ?_); go_simp; refine ⟨hK2 _ (fun w9 hS => ?_), hK _ ?_⟩; (clear hK hK2 K K2; have q11 : w9.cell? ⟨g, 11, none⟩ = some (.int .i64 128) := (hS.cell 11).trans H11.out; have q10 : w9.cell? ⟨g, 10, none⟩ = some (.slice A nl c) := (hS.cell 10).trans H10.out; clear hS; go_simp); (clear hK hK2 K K2))
 refine ords_loud rfl (fun n1 => ?_);go_wp2_with fail;have HM := zH (OS.madeAt (cd := cB) (base := w.heap.size) (w1.drewN n1) 0 128 0 rfl (by omega) (by unfold maxLen; omega) HW1.size rfl);refine ⟨((HB1.drewN _).alloc _), ?_⟩;refine ords_loud rfl (fun n2 => ?_)
 (refine wpList_appB _ rfl (.tmp 11) (.tmp 15) rfl (HM.drewN n2) rfl rfl ((HR1.drewN _).alloc (aZC _) _) rfl HNL.symm (by omega) (by simp; omega) ?_; intro A3 c3 w3 ho3 hg3 hA3)
 have HB3 := zH ((((HB1.drewN n1).alloc (.cells (madeCells #[cB.zero] 128) 5)).drewN n2).grown hg3 (fun h => bZJ HB1.lt (aZF h)));have HK3 := zH ((((HK.drewN n1).alloc (.cells (madeCells #[cB.zero] 128) 5)).drewN n2).grown hg3 (fun h => bZJ HK.lt (aZF h)));have HW3 := zH (bgr (bdr (bal (bdr HW1 n1) (.cells (madeCells #[cB.zero] 128) 5)) n2) hg3 HW1.size);have HO3 : Hid (OS cB w3 w.heap.size A3 c3 s.held) := ho3;clear hg3 hA3 ho3 d10 d11;change Blk w3 g _ cs /\ _;refine ⟨HB3.out, ?_⟩;have e10 : w3.cell? ⟨w.heap.size, 10, none⟩ = some (.slice A nl c) := (HK3.cell 10).trans H10.out;have f10 := HK3.frozen 10;have hl3 := HK3.lt;refine ords_pure rfl (fun K hK => ?_); go_simp; refine hK _ ?_; clear hK K;refine ords_loud rfl (fun n3 => ?_);go_wp2_with fail;refine ⟨(HB3.drewN _).far (p := ⟨w.heap.size, 10, none⟩) (bZJ HE.blk.lt) _, ?_⟩;refine ords_end (fun n4 => ?_);go_wp2_with fail;have hk5 := HK3.out;rw [HCS.out] at hk5;have hE5 := (E64.put (hk5.drewN n3) HE.ok.H (HO3.drewN n3) HE.ok.held HNL.symm).drewN n4;exact bodyPost_ret (results_tmp rfl _ _ _) rfl ⟨_, A3, c3, rfl, aZC _, hE5, bdr (bput (bdr HW3 n3) (p := ⟨w.heap.size, 10, none⟩) (aZC _) _) n4⟩
theorem clone32_any (g base : Nat) (A : Option Addr) (c : Nat) (s : St32) (w : World) (hE : E32 w base g s A c) :
    Calls Tryz.prog 156 #[.pointer (some ⟨g, 0, none⟩)] w fun r w' => ∃ q A' c', r = .returned (.iface 129 (.pointer (some ⟨q, 0, none⟩))) /\ w.heap.size <= q /\ E32 w' w.heap.size q s A' c' /\ Below w.heap.size w w' := by
  have hH := hE.ok.H;have hl := hE.ok.held;have h10 : (hc32 s.H s.lo s.hi A s.held.length c)[10]? = some (.slice A s.held.length c) := (hc32_at s.H s.lo s.hi A s.held.length c hH).2.2.1;have h11 : (hc32 s.H s.lo s.hi A s.held.length c)[11]? = some (.int .i64 64) := (hc32_at s.H s.lo s.hi A s.held.length c hH).2.2.2.1;have hsz0 : (hc32 s.H s.lo s.hi A s.held.length c).size = 14 := hc32_size _ _ _ _ _ _ hH;have hall0 : (hc32 s.H s.lo s.hi A s.held.length c).all (·.oneCell') = true := by unfold hc32; simp [wv3, Value.oneCell']
  have hput : ∀ A' n' c', (hc32 s.H s.lo s.hi A s.held.length c).setIfInBounds 10 (.slice A' n' c') = hc32 s.H s.lo s.hi A' n' c' := fun A' n' c' => hc32_held _ _ _ _ _ _ _ _ _ hH
  obtain ⟨cs, hcs⟩ : ∃ cs, cs = hc32 s.H s.lo s.hi A s.held.length c := ⟨_, rfl⟩;have hB := hE.blk;rw [<- hcs] at h10 h11 hsz0 hall0 hput hB;obtain ⟨nl, hnl⟩ : ∃ nl, nl = s.held.length := ⟨_, rfl⟩;rw [<- hnl] at h10 hl;have hmk : ∀ (W : World), (Instr.makeSlice 24 (.int .i64 0) (.int .i64 64)).run Tryz.prog W = .ok (.slice (some ⟨W.heap.size, 0, none⟩) 0 64) (W.alloc (.cells (madeCells #[cB.zero] 64) 5)) := fun (W : World) => run_makeS cB_ok .i64 .i64 0 64 (by omega) (by show 1 * 64 <= _; omega) (by omega) W
  have hsz : (Tryz.prog.info? 136).map (·.size) = some cs.size := by rw [hsz0]; kernel_rfl
  have hu := zH Tryz.underlying136;have HB := zH hB; have HSZ := zH hsz; have HALL := zH hall0; have HPUT := zH hput; have HE := zH hE; have HNL := zH hnl; have H10 := zH h10; have H11 := zH h11; have HS0 := zH hsz0; have HZ := zH (Blk.new w 136 #[.int .u32 0, .int .u32 0, .int .u32 0, .int .u32 0, .int .u32 0, .int .u32 0, .int .u32 0, .int .u32 0, .int .u64 0, .int .u64 0, .slice none 0 0, .int .i64 0, .nilFunc, .nilFunc]);have HCS := zH hcs;clear hB hsz hall0 hput hE hnl h10 h11 hsz0 hcs hH;go_enter Tryz.func156, Tryz.ntmps156;go_upto_region 2 with (first
    | (refine wpList_load_row rfl 136 _ rfl g rfl 136 cs (0, 0) _ HB hu.out rfl HSZ ?_)
    | (refine wpList_store_row rfl 136 _ _ rfl w.heap.size cs rfl rfl 136 _ HZ HSZ HS0.symm HALL ?_))
  have HK := zH (HZ.row cs);have HB1 := zH (((HB.alloc (.cells #[.int .u32 0, .int .u32 0, .int .u32 0, .int .u32 0, .int .u32 0, .int .u32 0, .int .u32 0, .int .u32 0, .int .u64 0, .int .u64 0, .slice none 0 0, .int .i64 0, .nilFunc, .nilFunc] 136)).rowFar (bZJ HB.lt) cs));have HW1 := zH (brow (bal (b0 w) (.cells #[.int .u32 0, .int .u32 0, .int .u32 0, .int .u32 0, .int .u32 0, .int .u32 0, .int .u32 0, .int .u32 0, .int .u64 0, .int .u64 0, .slice none 0 0, .int .i64 0, .nilFunc, .nilFunc] 136)) (aZC _) cs);generalize (w.alloc _).setRow w.heap.size cs = w1 at *;have HR1 := zH ((HE.own.reads.below HW1).more HW1.size);have d11 : w1.cell? ⟨g, 11, none⟩ = some (.int .i64 64) := (HB1.cell 11).trans H11.out;have d10 : w1.cell? ⟨g, 10, none⟩ = some (.slice A nl c) := (HB1.cell 10).trans H10.out;have hql := HK.lt;refine wrZ (fun w' => Blk w' g 136 cs) (fun _ n h => h.drewN n) (Ords.of [(0, 0), (0, 1), (0, 2), (0, 3), (0, 5), (0, 6), (0, 7), (0, 8), (2, 4), (2, 9), (0, 10), (2, 11)] .fin) HB1 ?_
  iterate 2 (refine ords_pure rfl (fun K hK => ?_); go_simp; refine hK _ ?_; clear hK K; refine ords_pure rfl (fun K hK => ?_); go_simp; refine hK _ ?_; clear hK K; refine ords_pure rfl (fun K hK => ?_); go_simp; refine hK _ ?_; clear hK K; refine ords_heldK rfl (fun K K2 hK hK2 => ?_); go_simp; refine ⟨hK2 _ (fun w9 hS => ?_), hK _ ?_⟩; (clear hK hK2 K K2; have q11 : w9.cell? ⟨g, 11, none⟩ = some (.int .i64 64) := (hS.cell 11).trans H11.out; have q10 : w9.cell? ⟨g, 10, none⟩ = some (.slice A nl c) := (hS.cell 10).trans H10.out; clear hS; go_simp); (clear hK hK2 K K2))
  refine ords_loud rfl (fun n1 => ?_);go_wp2_with fail;have HM := zH (OS.madeAt (cd := cB) (base := w.heap.size) (w1.drewN n1) 0 64 0 rfl (by omega) (by unfold maxLen; omega) HW1.size rfl);refine ⟨((HB1.drewN _).alloc _), ?_⟩;refine ords_loud rfl (fun n2 => ?_)
  (refine wpList_appB _ rfl (.tmp 11) (.tmp 15) rfl (HM.drewN n2) rfl rfl ((HR1.drewN _).alloc (aZC _) _) rfl HNL.symm (by omega) (by simp; omega) ?_; intro A3 c3 w3 ho3 hg3 hA3)
  have HB3 := zH ((((HB1.drewN n1).alloc (.cells (madeCells #[cB.zero] 64) 5)).drewN n2).grown hg3 (fun h => bZJ HB1.lt (aZF h)));have HK3 := zH ((((HK.drewN n1).alloc (.cells (madeCells #[cB.zero] 64) 5)).drewN n2).grown hg3 (fun h => bZJ HK.lt (aZF h)));have HW3 := zH (bgr (bdr (bal (bdr HW1 n1) (.cells (madeCells #[cB.zero] 64) 5)) n2) hg3 HW1.size);have HO3 : Hid (OS cB w3 w.heap.size A3 c3 s.held) := ho3;clear hg3 hA3 ho3 d10 d11;change Blk w3 g _ cs /\ _;refine ⟨HB3.out, ?_⟩;have e10 : w3.cell? ⟨w.heap.size, 10, none⟩ = some (.slice A nl c) := (HK3.cell 10).trans H10.out;have f10 := HK3.frozen 10;have hl3 := HK3.lt;refine ords_pure rfl (fun K hK => ?_); go_simp; refine hK _ ?_; clear hK K;refine ords_loud rfl (fun n3 => ?_);go_wp2_with fail;refine ⟨(HB3.drewN _).far (p := ⟨w.heap.size, 10, none⟩) (bZJ HE.blk.lt) _, ?_⟩;refine ords_end (fun n4 => ?_);go_wp2_with fail;have hk5 := HK3.out;rw [HCS.out] at hk5;have hE5 := (E32.put (hk5.drewN n3) HE.ok.H (HO3.drewN n3) HE.ok.held HNL.symm).drewN n4;exact bodyPost_ret (results_tmp rfl _ _ _) rfl ⟨_, A3, c3, rfl, aZC _, hE5, bdr (bput (bdr HW3 n3) (p := ⟨w.heap.size, 10, none⟩) (aZC _) _) n4⟩
namespace Eng
def fc : Eng -> FuncId
  | .big _ => 150
  | .small _ => 156
theorem run_clone (e : Eng) (g k : Nat) (hk : 0 < k) (w : World) : Sem.run Tryz.prog (method k e.T (.pointer (some ⟨g, 0, none⟩)) "quern/node.clone") w = .ok (e.fc, .pointer (some ⟨g, 0, none⟩)) w := by
 obtain ⟨k, rfl⟩ : ∃ j, k = j + 1 := ⟨k - 1, by omega⟩
 cases e <;> kernel_rfl
theorem enters_c (e : Eng) (args : Array Value) (w : World) : (callFunc e.fc args).run Tryz.prog w = .ok (.enter e.fc args) w := by
 cases e <;> rfl
end Eng
theorem eng_clone (e : Eng) (g base : Nat) (A : Option Addr) (c : Nat) (w : World) (hE : e.inn w base g A c) :
  Calls Tryz.prog e.fc #[.pointer (some ⟨g, 0, none⟩)] w fun r w' => ∃ q A' c', r = .returned (.iface e.T (.pointer (some ⟨q, 0, none⟩))) /\ w.heap.size <= q /\ e.inn w' w.heap.size q A' c' /\ Below w.heap.size w w' := by
 cases e with
 | big s => exact clone64_any g base A c s w hE
 | small s => exact clone32_any g base A c s w hE
theorem mem_wf {p g k : Nat} {A : Option Addr} : k ∈ p :: g :: obl A ↔ k = p \/ k = g \/ (∃ a, A = some a /\ a.block = k) := by
 simp only [List.mem_cons, mem_obl]
def NdS (w : World) (p : Nat) (big : Bool) (d : Nat) (x key : List UInt8) (last : Bool) (wr : UInt64) (e : Eng) (R F : List Nat) : Prop :=
  ∃ (Ax Ak : Option Addr) (nx nk cx ck g : Nat) (A : Option Addr) (c : Nat), NN w 0 p big d x key last wr e Ax Ak nx nk cx ck g A c /\ R = obl Ax ++ obl Ak /\ F = p :: g :: obl A
section
variable {w w' : World} {p d : Nat} {big last : Bool} {x key : List UInt8} {wr : UInt64} {e : Eng} {R F G : List Nat}
theorem NdS.nd (h : NdS w p big d x key last wr e R F) : ∃ F', Nd w p big d x key last wr e F' /\ ∀ k, k ∈ F' ↔ k ∈ F \/ k ∈ R := by
 obtain ⟨Ax, Ak, nx, nk, cx, ck, g, A, c, hN, rfl, rfl⟩ := h;refine ⟨_, hN.nd, fun k => ?_⟩;rw [mem_foot, mem_wf, List.mem_append, mem_obl, mem_obl]
 constructor
 ·rintro (h | h | h | h | h)
  ·exact .inl (.inl h)
  ·exact .inl (.inr (.inl h))
  ·exact .inr (.inl h)
  ·exact .inr (.inr h)
  ·exact .inl (.inr (.inr h))
 ·rintro ((h | h | h) | (h | h))
  ·exact .inl h
  ·exact .inr (.inl h)
  ·exact .inr (.inr (.inr (.inr h)))
  ·exact .inr (.inr (.inl h))
  ·exact .inr (.inr (.inr (.inl h)))
theorem Nd.s (h : Nd w p big d x key last wr e F) : ∃ R F', NdS w p big d x key last wr e R F' /\ ∀ k, k ∈ F ↔ k ∈ F' \/ k ∈ R := by
 obtain ⟨Ax, Ak, nx, nk, cx, ck, g, A, c, hN, rfl⟩ := h;have h2 : NdS w p big d x key last wr e (obl Ax ++ obl Ak) (p :: g :: obl A) := ⟨Ax, Ak, nx, nk, cx, ck, g, A, c, hN, rfl, rfl⟩;refine ⟨_, _, h2, fun k => ?_⟩;rw [mem_foot, mem_wf, List.mem_append, mem_obl, mem_obl]
 constructor
 ·rintro (h | h | h | h | h)
  ·exact .inl (.inl h)
  ·exact .inl (.inr (.inl h))
  ·exact .inr (.inl h)
  ·exact .inr (.inr h)
  ·exact .inl (.inr (.inr h))
 ·rintro ((h | h | h) | (h | h))
  ·exact .inl h
  ·exact .inr (.inl h)
  ·exact .inr (.inr (.inr (.inr h)))
  ·exact .inr (.inr (.inl h))
  ·exact .inr (.inr (.inr (.inl h)))
theorem NdS.of_ (h : NdS w p big d x key last wr e R F) (hR : ∀ k, k ∈ R -> w'.heap[k]? = w.heap[k]?) (hF : ∀ k, k ∈ F -> w'.heap[k]? = w.heap[k]?) : NdS w' p big d x key last wr e R F := by
 obtain ⟨Ax, Ak, nx, nk, cx, ck, g, A, c, hN, rfl, rfl⟩ := h;refine ⟨Ax, Ak, nx, nk, cx, ck, g, A, c, hN.of_ (fun k hk => ?_), rfl, rfl⟩;rcases mem_foot.1 hk with h | h | h | h | h
 ·exact hF k (mem_wf.2 (.inl h))
 ·exact hF k (mem_wf.2 (.inr (.inl h)))
 ·exact hR k (List.mem_append.2 (.inl (mem_obl.2 h)))
 ·exact hR k (List.mem_append.2 (.inr (mem_obl.2 h)))
 ·exact hF k (mem_wf.2 (.inr (.inr h)))
theorem NdS.ltR (h : NdS w p big d x key last wr e R F) : ∀ k, k ∈ R -> k < w.heap.size := by
 obtain ⟨F', hN, h2⟩ := h.nd;exact fun k hk => hN.lt k ((h2 k).2 (.inr hk))
theorem NdS.lt (h : NdS w p big d x key last wr e R F) : ∀ k, k ∈ F -> k < w.heap.size := by
 obtain ⟨F', hN, h2⟩ := h.nd;exact fun k hk => hN.lt k ((h2 k).2 (.inl hk))
theorem NdS.here (h : NdS w p big d x key last wr e R F) : p ∈ F := by
 obtain ⟨Ax, Ak, nx, nk, cx, ck, g, A, c, hN, rfl, rfl⟩ := h;exact mem_wf.2 (.inl rfl)
theorem NdS.but (h : NdS w p big d x key last wr e R F) (hb : But G w w') (hR : ∀ k, k ∈ R -> k ∉ G) (hF : ∀ k, k ∈ F -> k ∉ G) : NdS w' p big d x key last wr e R F :=
 h.of_ (fun k hk => hb.block k (h.ltR k hk) (hR k hk)) (fun k hk => hb.block k (h.lt k hk) (hF k hk))
theorem NdS.below (h : NdS w p big d x key last wr e R F) (hb : Below w.heap.size w w') : NdS w' p big d x key last wr e R F :=
 h.of_ (fun k hk => hb.block k (h.ltR k hk)) (fun k hk => hb.block k (h.lt k hk))
theorem NdS.apart (h : NdS w p big d x key last wr e R F) : ∀ k, k ∈ R -> k ∉ F := by
 obtain ⟨Ax, Ak, nx, nk, cx, ck, g, A, c, hN, rfl, rfl⟩ := h;have far : ∀ {A' : Option Addr} {c' : Nat} {l : List UInt8}, OS cB w 0 A' c' l -> (∀ a, A' = some a -> some a.block ≠ A.map (·.block)) -> ∀ a, A' = some a -> a.block ∉ p :: g :: obl A := by
  intro A' c' l ho hf a ha hm;rcases mem_wf.1 hm with h1 | h1 | ⟨b, h1, h2⟩
  ·exact ho.ne_blk hN.blk (by decide) a ha h1
  ·exact Eng.row_far hN.eng ho a ha h1
  ·exact hf a ha (by rw [h1, <- h2]; rfl)
 intro k hk;rcases List.mem_append.1 hk with h1 | h1
 ·obtain ⟨a, ha, hb⟩ := mem_obl.1 h1
  rw [<- hb]; exact far hN.ox hN.farx a ha
 ·obtain ⟨a, ha, hb⟩ := mem_obl.1 h1
  rw [<- hb]; exact far hN.ok hN.fark a ha
end
theorem writeS_any (p d : Nat) (big last : Bool) (x key : List UInt8) (wr : UInt64) (e : Eng) (R F : List Nat) (Ab : Option Addr) (nb cb : Nat) (L : List UInt8) (w : World) (hN : NdS w p big d x key last wr e R F) (hL : L.length = nb) (hnb : nb <= cb) (hcb : cb <= 9223372036854775807) (hr : RS cB w w.heap.size Ab L) (hfar : L ≠ [] -> ∀ a, Ab = some a -> a.block ∉ F) :
  Calls Tryz.prog 12 #[.pointer (some ⟨p, 0, none⟩), .slice Ab nb cb] w fun r w' => r = .returned (.int .i64 0) /\ ∃ F', NdS w' p big d x key last (wr + UInt64.ofNat nb) (e.feed L) R F' /\ (∀ k, k ∈ F' -> k ∈ F \/ w.heap.size <= k) /\ But F w w' := by
 obtain ⟨Ax, Ak, nx, nk, cx, ck, g, A, c, hNN, rfl, rfl⟩ := hN;have hb := hNN.blk;have hno := fun (T : TypeId) (v : Value) h6 => noneSame_any p T v _ w hb h6
 have hno2 := hno e.T (.pointer (some ⟨g, 0, none⟩)) rfl;have c5 : w.cell? ⟨p, 5, none⟩ = some (.int .u64 (wrd wr)) := hb.cell 5;have c6 : w.cell? ⟨p, 6, none⟩ = some (.iface e.T (.pointer (some ⟨g, 0, none⟩))) := hb.cell 6;have hf := hb.frozen;have hlt := hb.lt;have hmW : ∀ (g k : Nat) (w : World), 0 < k -> Sem.run Tryz.prog (method k e.T (.pointer (some ⟨g, 0, none⟩)) "quern/node.write") w = .ok (e.fw, .pointer (some ⟨g, 0, none⟩)) w := fun g k w hk => e.run_write g k hk w
 have heL : ∀ args w, (callFunc e.fw args).run Tryz.prog w = .ok (.enter e.fw args) w := fun args w => e.enters_w args w
 have hew := eng_write0 e g 0 A c Ab nb cb L w hNN.eng (Nat.zero_le _) hL hnb hcb hr (fun h0 a ha => ⟨(by intro h; injection h with h; exact hfar h0 a ha (mem_wf.2 (.inr (.inl h)))), (by intro h; cases hA : A with | none => rw [hA] at h; cases h | some a' => rw [hA] at h; injection h with h; exact hfar h0 a ha (mem_wf.2 (.inr (.inr ⟨a', hA, h.symm⟩))))⟩);have hT := e.feed_T L;have hwn : IntKind.u64.wrap (nb : Int) = nb := by rw [wrap_u64]; omega
 have hadd := wrd_addN wr nb;have hnb2 : nb <= 9223372036854775807 := by omega
 have HN := zH hNN; have HNO := zH hno2; have HEW := zH hew; have HT := zH hT; clear hNN hb hno hno2 hew hT hL hr hfar;generalize wr + UInt64.ofNat nb = wr2 at *;generalize he2 : e.feed L = e2 at *;clear he2;go_enter Tryz.func12, Tryz.ntmps12;go_wp2_with (go_at_call 27; refine HNO.mono ?_; rintro e0 w0 ⟨rfl, rfl⟩)
 (refine HEW.mono ?_; rintro e1 w1 ⟨rfl, A1, c1, hW⟩)
 have hN1 := HN.wrote HT hW;have hB1 : But (p :: g :: obl A) w w1 := But.grown2 hW.gr (fun k hk => by injection hk with hk; exact mem_wf.2 (.inr (.inl hk.symm))) (fun k hk => by
  cases hA : A with
  | none => rw [hA] at hk; cases hk
  | some a => rw [hA] at hk; injection hk with hk; exact mem_wf.2 (.inr (.inr ⟨a, rfl, hk⟩)))
 have hrow := hW.row;have HN1 := zH hN1; have HB1 := zH hB1; have HR := zH hrow; clear hN1 hB1 hrow hW;have d5 : w1.cell? ⟨p, 5, none⟩ = some (.int .u64 (wrd wr)) := HN1.blk.cell 5;have hf1 := HN1.blk.frozen;have hl1 := HN1.blk.lt;clear c5 c6 hf;go_wp2_with fail;refine bodyPost_ret (results_tmp rfl _ _ _) rfl ⟨rfl, p :: g :: obl A1, ?_, ?_, ?_⟩
 ·exact ⟨Ax, Ak, nx, nk, cx, ck, g, A1, c1, HN1.put5 wr2, rfl, rfl⟩
 ·intro k hk
  rcases mem_wf.1 hk with h | h | ⟨a, h1, h2⟩
  ·exact .inl (mem_wf.2 (.inl h))
  ·exact .inl (mem_wf.2 (.inr (.inl h)))
  ·rcases HR with h3 | h3
   ·cases hA : A with
    | none => rw [h1, hA] at h3; cases h3
    | some a' => rw [h1, hA] at h3; injection h3 with h3; exact .inl (mem_wf.2 (.inr (.inr ⟨a', rfl, (show a.block = a'.block from h3).symm.trans h2⟩)))
   ·exact .inr (by rw [<- h2]; exact h3 a h1)
 ·exact HB1.setCell (p := ⟨p, 5, none⟩) (.inl (mem_wf.2 (.inl rfl))) _
theorem copyS_any (p d : Nat) (big last : Bool) (x key : List UInt8) (wr : UInt64) (e : Eng) (R F : List Nat) (w : World) (hN : NdS w p big d x key last wr e R F) :
  Calls Tryz.prog 20 #[.pointer (some ⟨p, 0, none⟩)] w fun r w' => ∃ q F', r = .returned (.pointer (some ⟨q, 0, none⟩)) /\ NdS w' q big d x key last wr e R F' /\ (∀ k, k ∈ F' -> w.heap.size <= k) /\ Below w.heap.size w w' := by
 obtain ⟨Ax, Ak, nx, nk, cx, ck, g, A, c, hNN, rfl, rfl⟩ := hN;have hb := hNN.blk;have hno2 := noneSame_any p e.T (.pointer (some ⟨g, 0, none⟩)) _ w hb rfl;have hmW : ∀ (g k : Nat) (w : World), 0 < k -> Sem.run Tryz.prog (method k e.T (.pointer (some ⟨g, 0, none⟩)) "quern/node.clone") w = .ok (e.fc, .pointer (some ⟨g, 0, none⟩)) w := fun g k w hk => e.run_clone g k hk w
 have heL : ∀ args w, (callFunc e.fc args).run Tryz.prog w = .ok (.enter e.fc args) w := fun args w => e.enters_c args w
 have hec := fun W hE => eng_clone e g 0 A c W hE
 obtain ⟨cs, hcs⟩ : ∃ cs, cs = nodeCells big d Ax Ak nx nk cx ck last wr (.iface e.T (.pointer (some ⟨g, 0, none⟩))) := ⟨_, rfl⟩;rw [<- hcs] at hb;have hsz0 : cs.size = 7 := by rw [hcs]; rfl
 have hsz : (Tryz.prog.info? 64).map (·.size) = some cs.size := by rw [hsz0]; kernel_rfl
 have hall : cs.all (·.oneCell') = true := by rw [hcs]; simp [nodeCells, Value.oneCell']
 have hu := zH Tryz.underlying64;have h6 : cs[6]? = some (.iface e.T (.pointer (some ⟨g, 0, none⟩))) := by rw [hcs]; rfl
 have HB := zH hb; have HN := zH hNN; have HNO := zH hno2; have HEC := zH hec; have HSZ := zH hsz; have HS0 := zH hsz0; have HALL := zH hall; have H6 := zH h6; have HCS := zH hcs;have HZ := zH (Blk.new w 64 #[.int .i64 0, .int .i64 0, .slice none 0 0, .slice none 0 0, .bool false, .int .u64 0, .nilIface]);clear hb hNN hno2 hec hsz hsz0 hall h6 hcs;go_enter Tryz.func20, Tryz.ntmps20;go_upto_region 4 with (first
  | (go_at_call 27; refine HNO.mono ?_; rintro e0 w0 ⟨rfl, rfl⟩)
  | (refine wpList_load_row rfl 64 _ rfl p rfl 64 cs (0, 0) _ HB hu.out rfl HSZ ?_)
  | (refine wpList_store_row rfl 64 _ _ rfl w.heap.size cs rfl rfl 64 _ HZ HSZ HS0.symm HALL ?_))
 have HW1 := zH (brow (bal (b0 w) (.cells #[.int .i64 0, .int .i64 0, .slice none 0 0, .slice none 0 0, .bool false, .int .u64 0, .nilIface] 64)) (aZC _) cs);have HK := zH (HZ.row cs);generalize (w.alloc _).setRow w.heap.size cs = w1 at *;have HN1 := zH (HN.below HW1);have d6 : w1.cell? ⟨p, 6, none⟩ = some (.iface e.T (.pointer (some ⟨g, 0, none⟩))) := HN1.blk.cell 6;go_wp2_with fail;refine (HEC _ HN1.eng).mono ?_;rintro e2 w2 ⟨q2, A2, c2, rfl, hq2, hE2, hb2⟩;have HW2 := zH (bcall HW1 hb2); have HK2 := zH (HK.below hb2 HK.lt); have HX2 := zH (HN1.ox.below hb2 (aZC _)); have HY2 := zH (HN1.ok.below hb2 (aZC _)); have HE2 := zH hE2;have HQ2 := zH (Nat.lt_of_lt_of_le HK.lt hq2); have HL1 := zH (Nat.lt_of_lt_of_le HK.lt (aZC w1.heap.size));have e6 : w2.cell? ⟨w.heap.size, 6, none⟩ = some (.iface e.T (.pointer (some ⟨g, 0, none⟩))) := (HK2.cell 6).trans H6.out;have f6 := HK2.frozen 6;have hl6 := HK2.lt;clear hb2 hE2 hq2 d6;go_wp2_with fail;have hbk := HK2.set_ 6 (.iface e.T (.pointer (some ⟨q2, 0, none⟩)));rw [HCS.out] at hbk;have lowx : ∀ a, Ax = some a -> a.block < w.heap.size := fun a ha => (HN.ox.block_lt a ha).2
 have lowk : ∀ a, Ak = some a -> a.block < w.heap.size := fun a ha => (HN.ok.block_lt a ha).2
 have farA : ∀ a, A2 = some a -> w.heap.size < a.block := fun a ha => Nat.lt_of_lt_of_le HL1 (Eng.inn_far HE2 a ha).2.1
 refine bodyPost_ret (results_tmp rfl _ _ _) rfl ⟨_, w.heap.size :: q2 :: obl A2, rfl, ⟨Ax, Ak, nx, nk, cx, ck, q2, A2, c2, ⟨hbk, HN.lx, HN.lk, HX2.setFar (p := ⟨w.heap.size, 6, none⟩) (fun a ha => bZJ (lowx a ha)) _, HY2.setFar (p := ⟨w.heap.size, 6, none⟩) (fun a ha => bZJ (lowk a ha)) _,
  Eng.inn_mono (Eng.inn_set HE2 (Ne.symm (bZJ HQ2)) (fun a ha => Ne.symm (bZJ (farA a ha))) _) (Nat.zero_le _), fun a ha h => ?_, fun a ha h => ?_⟩, rfl, rfl⟩, fun k hk => ?_, bput HW2 (p := ⟨w.heap.size, 6, none⟩) (aZC _) _⟩
 ·cases hA : A2 with
  | none => rw [hA] at h; cases h
  | some b => rw [hA] at h; have h2 := farA b hA; have h3 := lowx a ha; rw [aZF h] at h3; exact Nat.lt_asymm h2 h3
 ·cases hA : A2 with
  | none => rw [hA] at h; cases h
  | some b => rw [hA] at h; have h2 := farA b hA; have h3 := lowk a ha; rw [aZF h] at h3; exact Nat.lt_asymm h2 h3
 ·rcases mem_wf.1 hk with h1 | h1 | ⟨a, h1, h2⟩
  ·rw [h1]; exact aZC _
  ·rw [h1]; exact Nat.le_of_lt HQ2.out
  ·rw [<- h2]; exact Nat.le_of_lt (farA a h1)
theorem lastS_any (p d : Nat) (big last l : Bool) (x key : List UInt8) (wr : UInt64) (e : Eng) (R F : List Nat) (w : World) (hN : NdS w p big d x key last wr e R F) :
  Calls Tryz.prog 18 #[.pointer (some ⟨p, 0, none⟩), .bool l] w fun r w' => r = .returned (.int .i64 0) /\ NdS w' p big d x key l wr e R F /\ But [p] w w' := by
 obtain ⟨Ax, Ak, nx, nk, cx, ck, g, A, c, hNN, rfl, rfl⟩ := hN;have hb := hNN.blk;have hno2 := noneSame_any p e.T (.pointer (some ⟨g, 0, none⟩)) _ w hb rfl;have c4 : w.cell? ⟨p, 4, none⟩ = some (.bool last) := hb.cell 4;have hf := hb.frozen;have hlt := hb.lt;have HN := zH hNN; have HNO := zH hno2; clear hNN hb hno2;go_enter Tryz.func18, Tryz.ntmps18;go_wp2_with (go_at_call 27; refine HNO.mono ?_; rintro e0 w0 ⟨rfl, rfl⟩);exact bodyPost_ret (results_tmp rfl _ _ _) rfl ⟨rfl, ⟨Ax, Ak, nx, nk, cx, ck, g, A, c, HN.put4 l, rfl, rfl⟩, (But.refl _ w).setCell (p := ⟨p, 4, none⟩) (.inl (List.mem_singleton.2 rfl)) _⟩
end Go.Proofs.YtboihcigcfmhhaaGreat

/-
  Y19: contracts and lemmas alone; no statement is claimed here.
-/
import Derived.Test.YtboihcigcfmhhaaGreatY1
import Derived.Laws.IdiomStrings
import Derived.Lib.BufferRead
import Derived.Test.YtboihcigcfmhhaaGreatY13
import Derived.Lib.SlBytesConst
set_option maxHeartbeats 2000000
set_option maxRecDepth 20000
namespace Go.Proofs.YtboihcigcfmhhaaGreat
open _root_.List renaming take_of_length_le → aZQ
open _root_.Nat renaming le_refl → aZC
open Lib renaming hid -> zH
open Go.RowKit
attribute [local go_sem] pureUpon Ords.of
theorem OS.lit {α : Type} {cd : Cod α} (w : World) (l : List α) (cs : Array Value) (n : Nat) (hcs : cs = (l.map cd.enc).toArray) (hn : l.length = n) (hm : n <= maxLen) : OS cd (w.alloc (.cells cs cd.e)) w.heap.size (some ⟨w.heap.size, 0, none⟩) n l := by
 subst hcs; subst hn;exact ⟨by simp, .inr ⟨w.heap.size, l.length, _, rfl, aZC _, heap_alloc_new w _, aZC _, hm, by simp, by rw [Nat.mul_one]; exact aZQ (by simp)⟩⟩
def hexd (n : Nat) : UInt8 := [48, 49, 50, 51, 52, 53, 54, 55, 56, 57, 97, 98, 99, 100, 101, 102].getD n 0
def hexL : List UInt8 -> List UInt8
  | [] => []
  | b :: l => hexd (b.toNat / 16) :: hexd (b.toNat % 16) :: hexL l
theorem hexL_snoc : ∀ (l : List UInt8) (b : UInt8), hexL (l ++ [b]) = hexL l ++ [hexd (b.toNat / 16), hexd (b.toNat % 16)]
 | [], _ => rfl
 | c :: l, b => by
  show hexd _ :: hexd _ :: hexL (l ++ [b]) = _
  rw [hexL_snoc l b]
  rfl
theorem hexL_len : ∀ l : List UInt8, (hexL l).length = 2 * l.length
 | [] => rfl
 | _ :: l => by
  show (hexL l).length + 1 + 1 = 2 * (l.length + 1)
  rw [hexL_len l]; omega
theorem index_hex (n : Nat) (h : n < 16) (k : IntKind) (w : World) : (Instr.index 9 (.string ⟨#[48, 49, 50, 51, 52, 53, 54, 55, 56, 57, 97, 98, 99, 100, 101, 102]⟩) (.int k n)).run Tryz.prog w = .ok (.int .u8 (byt (hexd n))) w := by
 have : n = 0 \/ n = 1 \/ n = 2 \/ n = 3 \/ n = 4 \/ n = 5 \/ n = 6 \/ n = 7 \/ n = 8 \/ n = 9 \/ n = 10 \/ n = 11 \/ n = 12 \/ n = 13 \/ n = 14 \/ n = 15 := by omega
 rcases this with rfl | rfl | rfl | rfl | rfl | rfl | rfl | rfl | rfl | rfl | rfl | rfl | rfl | rfl | rfl | rfl <;> (show _ = _; kernel_rfl)
theorem pure_index_hex {o : Oper} {a : Act} {w : World} (y : Operand) (ho : o.op = .index 9 (.const (.string ⟨#[48, 49, 50, 51, 52, 53, 54, 55, 56, 57, 97, 98, 99, 100, 101, 102]⟩)) y) (n : Nat) (h : n < 16) (k : IntKind) (hy : a.eval y = .int k n) :
  pureUpon w (.int .u8 (byt (hexd n))) ((execOp a.eval o).run Tryz.prog w) := by
 have e : a.eval (.const (.string ⟨#[48, 49, 50, 51, 52, 53, 54, 55, 56, 57, 97, 98, 99, 100, 101, 102]⟩)) = .string ⟨#[48, 49, 50, 51, 52, 53, 54, 55, 56, 57, 97, 98, 99, 100, 101, 102]⟩ := rfl;unfold execOp;simp only [ho, e, hy, Sem.run_bind, Sem.run_pure, index_hex n h k w, Result.andThen_ok];exact ⟨rfl, rfl⟩
theorem take_snocL (l : List UInt8) (k : Nat) (b : UInt8) (h : l[k]? = some b) : l.take (k + 1) = l.take k ++ [b] := by rw [List.take_add_one, h]; rfl
theorem run_string {w : World} {B n c : Nat} {A : Option Addr} {l : List UInt8} (h : RS cB w B A l) (hl : l.length = n) :
  (convert 24 9 (.slice A n c)).run Tryz.prog w = .ok (.string ⟨l.toArray⟩) w := by
 subst hl
 cases A with
 | none =>
  have h0 : l = [] := by
   rcases Nat.eq_zero_or_pos l.length with h0 | h0
   ·exact List.eq_nil_of_length_eq_zero h0
   ·obtain ⟨a, e, _⟩ := h.2 h0; cases e
  subst h0;exact Lib.run_convert_nil_bytes w _ _ 5 c Tryz.underlying24 Tryz.underlying5 Tryz.underlying9
 | some a =>
  refine run_convert_bytes_back w _ _ 5 a c l Tryz.underlying24 Tryz.underlying5 Tryz.underlying9 (fun j hj => ?_);obtain ⟨ad, x, e, _, hx, hcell⟩ := h.at_ hj
  cases e
  rw [hcell];have : l[j]? = some l[j] := List.getElem?_eq_getElem hj;rw [hx] at this
  cases this
  rfl
theorem RS.marked (W : World) (l : List UInt8) (cs : Array Value) (fr : Nat × Nat) (g : Nat) (hcs : cs = (l.map cB.enc).toArray) (hg : W.heap.size = g) : RS cB (W.alloc (.cells cs cB.e fr)) (W.alloc (.cells cs cB.e fr)).heap.size (some ⟨g, 0, none⟩) l := by
 subst hcs; subst hg;refine ⟨by simp, fun _ => ⟨_, rfl, by simp, fun j u hu => ?_⟩⟩;have e : (⟨W.heap.size, 0, none⟩ : Addr).add j = ⟨W.heap.size, j, none⟩ := by unfold Addr.add; split <;> simp_all
 rw [e, cell_of_row _ _ j _ cB.e fr (heap_alloc_new W _)];simpa using hu
theorem hex_any (A : Option Addr) (n c : Nat) (l : List UInt8) (w : World) (hl : l.length = n) (hn : n <= 1048576) (hr : RS cB w w.heap.size A l) :
  Calls Tryz.prog 13 #[.slice A n c] w fun e w' => e = .returned (.string ⟨(hexL l).toArray⟩) /\ Below w.heap.size w w' := by
 have HL := zH hl; have HR := zH hr; clear hl hr;go_enter Tryz.func13, Tryz.ntmps13;go_wp2_with fail;go_loopw [3, 4] (fun v i wr => ∃ (k : Nat) (Ao : Option Addr) (co : Nat), k <= n /\ i = .int .i64 k /\ v = .slice Ao (2 * k) co /\ OS cB wr w.heap.size Ao co (hexL (l.take k)) /\ Below w.heap.size w wr) (fun _ i _ => n - (intOf i).toNat)
 case atStart => exact ⟨0, none, 0, Nat.zero_le _, rfl, rfl, OS.nil _ _ _ rfl, b0 _⟩
 case round =>
  obtain ⟨k, Ao, co, hk, rfl, rfl, hos, hbw⟩ := hrel;have HO := zH hos; have HB := zH hbw; clear hos hbw
  by_cases hlt : k < n
  ·have hkd : decide ((k : Int) < n) = true := by simp; omega
   obtain ⟨ad, b, rfl, hab, hgl, hgc⟩ := (HR.below HB.out).at_ (k := k) (by rw [HL.out]; exact hlt);have hgc2 : wr.cell? (ad.add k) = some (.int .u8 (byt b)) := hgc;have hby := byt_range b;obtain ⟨d1, hd1⟩ : ∃ d1 : Nat, b.toNat / 16 = d1 := ⟨_, rfl⟩;obtain ⟨d2, hd2⟩ : ∃ d2 : Nat, b.toNat % 16 = d2 := ⟨_, rfl⟩;have hb0 : byt b = (b.toNat : Int) := rfl;have hl1 : d1 < 16 := by have := b.toNat_lt; omega
   have hl2 : d2 < 16 := by omega
   have q1 : byt b / 16 = (d1 : Int) := by omega
   have q2 : (byt b).tdiv 16 = (d1 : Int) := by rw [Int.tdiv_eq_ediv_of_nonneg hby.1]; exact q1
   have q3 : byt b % 16 = (d2 : Int) := by omega
   have q4 : (byt b).tmod 16 = (d2 : Int) := by rw [Int.tmod_eq_emod_of_nonneg hby.1]; exact q3
   have q5 : IntKind.u8.wrap (d1 : Int) = d1 := by simp [IntKind.wrap, IntKind.bits, IntKind.signed]; omega
   have q6 : IntKind.u8.wrap (d2 : Int) = d2 := by simp [IntKind.wrap, IntKind.bits, IntKind.signed]; omega
   clear hb0;have HG := zH hgl; clear hgl hgc;have hsnoc := hexL_snoc (l.take k) b;rw [<- take_snocL l k b HG.out, hd1, hd2] at hsnoc;clear hd1 hd2;have HS := zH hsnoc; clear hsnoc;have hrow := (OS.lit (cd := cB) wr [hexd d1, hexd d2] #[.int .u8 (byt (hexd d1)), .int .u8 (byt (hexd d2))] 2 rfl rfl (by decide)).reads;have HRW := zH hrow; clear hrow;have HLN := zH (show (hexL (l.take k)).length = 2 * k by rw [hexL_len, List.length_take, HL.out, Nat.min_eq_left hk]);have HE := zH (show 2 * k + 2 = 2 * (k + 1) by omega);go_wp2;refine wrZ (fun _ => True) (fun _ _ h => h) (Ords.of [(0, 0), (0, 1), (0, 2), (0, 3), (1, 4), (0, 5), (1, 6), (0, 7), (0, 8), (0, 9), (1, 10), (0, 11), (1, 12), (2, 13), (2, 14), (0, 15)] .fin) trivial ?_
   iterate 6 ((first | refine ords_pure rfl (fun K hK => ?_) | refine ords_read rfl (fun K hK => ?_)); go_simp; refine hK _ ?_; clear hK K)
   refine ords_readV (v := Value.int .u8 (byt (hexd d1))) rfl rfl (fun m9 => pure_index_hex (.tmp 16) rfl d1 hl1 .u8 rfl) ?_; go_simp
   iterate 5 ((first | refine ords_pure rfl (fun K hK => ?_) | refine ords_read rfl (fun K hK => ?_)); go_simp; refine hK _ ?_; clear hK K)
   refine ords_readV (v := Value.int .u8 (byt (hexd d2))) rfl rfl (fun m9 => pure_index_hex (.tmp 22) rfl d2 hl2 .u8 rfl) ?_; go_simp;refine ords_loud rfl (fun n1 => ?_);go_wp2
   try (refine ⟨trivial, ?_⟩)
   refine ords_loud rfl (fun n2 => ?_)
   (refine wpList_appB _ rfl (.tmp 11) (.tmp 24) rfl ((HO.alloc _).drewN (n1 + n2)) rfl HLN.out (HRW.drewN (n1 + n2)) rfl rfl (by omega) (by have := HB.size; simp; omega) ?_; intro A2 c2 w2 ho2 hg2 hA2; rw [HE.out]; have HO2 := zH ho2; have HG2 := zH hg2; clear ho2 hg2 hA2; go_wp2)
   try (refine ⟨trivial, ?_⟩)
   refine ords_pure rfl (fun K hK => ?_); go_simp; refine hK _ ?_; clear hK K;refine ords_end (fun n3 => ?_);go_wp2
   case roundEnd =>
    exact ⟨⟨k + 1, A2, c2, by omega, by go_num, rfl, by rw [HS.out]; exact HO2.drewN _, bdr (bapp (bdr (bal (bdr HB.out n1) _) n2) (((HO.drewN n1).alloc _).drewN n2) HG2.out) n3⟩, by simp [intOf]; omega⟩
  ·obtain rfl : k = n := by omega
   have hs := run_string (c := co) HO.reads (by rw [hexL_len, aZQ (by rw [HL.out]; exact aZC _), HL.out]);rw [aZQ (by rw [HL.out]; exact aZC _)] at hs;go_wp2;exact bodyPost_ret (results_tmp rfl _ _ _) rfl ⟨rfl, HB.out⟩
def plainP (n : Int) (k : Int) : Pr := ⟨n, k, 1, 1, 0, 0, 0, 0, 0, Sl.nil, Sl.nil⟩
theorem plainP_fit (n k : Int) : (plainP n k).Fit := by constructor <;> (unfold plainP; simp)
theorem plainP_chk (big : Bool) (n k : Nat) (h : 1 <= n /\ n <= bOf big) (hk : k <= bOf big) : chk (kOf big) (plainP n k) = 0 := by
 have e : mostOf (kOf big) = bOf big := by cases big <;> rfl
 have e0 : 0 < bOf big := by cases big <;> decide
 unfold chk;rw [e];unfold plainP Sl.nil
 dsimp only
 repeat rw [if_neg (by omega)]
def abc : List UInt8 := [97, 98, 99]
theorem known_small : hexL ((hashL false (plainP 32 0) [] [] [] false abc).take 32) = [53, 48, 56, 99, 53, 101, 56, 99, 51, 50, 55, 99, 49, 52, 101, 50, 101, 49, 97, 55, 50, 98, 97, 51, 52, 101, 101, 98, 52, 53, 50, 102, 51, 55, 52, 53, 56, 98, 50, 48, 57, 101, 100, 54, 51, 97, 50, 57, 52, 100, 57, 57, 57, 98, 52, 99, 56, 54, 54, 55, 53, 57, 56, 50] := by decide +kernel
theorem run_literal (w : World) (C : Array Value) (n c g : Nat) (h : w.heap.size = g) : (convert 24 24 (.slice (some ⟨g, 0, none⟩) n c)).run Tryz.prog (w.alloc (.cells C 5)) = .ok (.slice (some ⟨g, 0, none⟩) n c) (w.alloc (.cells C 5 (C.size, C.size + 1))) := by
 subst h;exact Lib.run_convert_bytes_const w 24 5 C n c Tryz.underlying24 Tryz.underlying5
theorem hexAbc_any (big : Bool) (n : Nat) (h : n <= bOf big) (A : Option Addr) (c : Nat) (X : List UInt8) (hX : hexL ((hashL big (plainP n 0) [] [] [] false abc).take n) = X) (W : World) (hr : RS cB W W.heap.size A ((hashL big (plainP n 0) [] [] [] false abc).take n)) :
  Calls Tryz.prog 13 #[.slice A n c] W fun e w' => e = .returned (.string ⟨X.toArray⟩) /\ Below W.heap.size W w' := by
 subst hX;exact hex_any A n c _ W (by rw [List.length_take, hashL_len]; exact Nat.min_eq_left h) (Nat.le_trans h (by cases big <;> decide)) hr
theorem awake5_any (w : World) : Calls Tryz.prog 4 #[] w fun e w' => e = .returned (.bool true) /\ Below w.heap.size w w' := by
 have hnew := fun W => new_any false 32 (plainP 32 0) [] [] [] none 0 0 W (plainP_chk false 32 0 ⟨by decide, by decide⟩ (Nat.zero_le _)) (plainP_fit _ _) rfl rfl rfl (RS.nil _) (RS.nil _) rfl (.inl rfl) (RS.nil _)
 change ∀ W, Calls Tryz.prog _ #[.int .i64 2, .agg #[.int .i64 32, .int .i64 0, .int .i64 1, .int .i64 1, .int .u32 0, .int .u64 0, .int .u32 0, .int .i64 0, .int .i64 0, .slice none 0 0, .slice none 0 0], .slice none 0 0] W _ at hnew;have hfull : (startK false (encL false (plainP 32 0) [] []) []).full = 32 := startK_full _ _ _;have hsum := fun q F W h => sumN_any q 32 false false (encL false (plainP 32 0) [] []) [] (0 + UInt64.ofNat 3) ((startK false (encL false (plainP 32 0) [] []) []).feed abc) F W h (by rw [Eng.feed_full, hfull]; exact aZC _)
 change ∀ q F W h, Calls Tryz.prog _ _ W (fun r w' => ∃ A' c', r = .returned (.slice A' 32 32) /\ OS cB w' W.heap.size A' c' ((hashL false (plainP (32 : Nat) 0) [] [] [] false abc).take 32) /\ _) at hsum;have xs := fun A c W hr => hexAbc_any false 32 (by decide) A c _ known_small W hr
 clear hfull;generalize (hashL false (plainP (32 : Nat) 0) [] [] [] false abc).take 32 = LS at *;generalize startK false (encL false (plainP 32 0) [] []) [] = e0 at *;generalize encL false (plainP 32 0) [] [] = X at *;have HNEW := zH hnew; have HSUM := zH hsum; have XS := zH xs; clear hnew hsum xs;have kc := run_literal;go_enter Tryz.func4, Tryz.ntmps4;go_wp2_with fail;refine (HNEW _).mono ?_;rintro e1 w1 ⟨q, F, rfl, hN1, hF1, hb1⟩;have HN1 := zH hN1; have HF1 := zH hF1; have HB1 := zH hb1; clear hN1 hF1 hb1;go_wp2_with fail;refine (writeN_any q 32 false false X [] 0 e0 F (some ⟨w1.heap.size, 0, none⟩) 3 3 abc _ (HN1.below (bal (b0 w1) _)) rfl (by decide) (by decide) (RS.marked w1 abc _ (3, 4) _ rfl rfl) (fun _ a ha h => by cases ha; exact Nat.lt_irrefl _ (HN1.lt _ h))).mono ?_;rintro e2 w2 ⟨rfl, F2, hN2, hF2, hB2⟩;have hW := bcall HB1 (bal (b0 w1) (.cells #[.int .u8 97, .int .u8 98, .int .u8 99] 5 (3, 4)));have HN2 := zH hN2; have HB2 := zH (hW.trans (hB2.toBelow (B := w.heap.size) hW.size HF1)); clear hN2 hF2 hB2 hW;go_wp2_with fail;refine (HSUM q F2 _ HN2).mono ?_;rintro e3 w3 ⟨A3, c3, rfl, ho3, hb3⟩;have HO3 := zH ho3; have HB3 := zH (bcall HB2 hb3); clear ho3 hb3;go_wp2_with fail;refine (XS _ _ _ HO3.reads).mono ?_;rintro e4 w4 ⟨rfl, hb4⟩;have HB4 := zH (bcall HB3 hb4); clear hb4;go_wp2_with fail;exact bodyPost_ret (results_tmp rfl _ _ _) rfl ⟨rfl, HB4.out⟩
end Go.Proofs.YtboihcigcfmhhaaGreat

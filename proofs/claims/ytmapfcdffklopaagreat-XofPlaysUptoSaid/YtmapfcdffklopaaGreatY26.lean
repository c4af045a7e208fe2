/-
  Y26: contracts and lemmas alone; no statement is claimed here.
-/
import Derived.Test.YtmapfcdffklopaaGreatY24
import Derived.Laws.EntriesVeiled
namespace Go.Proofs.YtmapfcdffklopaaGreat
open Go.RowKit
attribute [local go_sem] pureUpon Ords.of

set_option maxHeartbeats 1000000 in
theorem own_any (A : Option Addr) (c n : Nat) (l : List UInt8) (w : World) (hn : l.length = n) (hm : n ≤ 140737488355328) (hr : RS cB w w.heap.size A l) :
  Calls Tryz.prog 39 #[.slice A n c] w fun e w' => ∃ A' c', e = .returned (.slice A' n c') ∧ OS cB w' w.heap.size A' c' l ∧ Below w.heap.size w w' := by
 have HN := Lib.hid hn; have HR := Lib.hid hr; clear hn hr
 go_enter Tryz.func39, Tryz.ntmps39
 go_wp2_with (at_builtin; refine wpList_appB _ rfl (.const (.slice none 0 0)) (.tmp 3) rfl (OS.nil _ _ _ rfl : OS cB w w.heap.size none 0 []) rfl rfl HR.out rfl HN.out (by omega) (by simp) ?_; intro A3 c3 w3 hown3 hgrow hat; have hw3 := bapp (b0 w) (OS.nil _ _ _ rfl : OS cB w w.heap.size none 0 []) hgrow; have HO3 := Lib.hid hown3; clear hown3 hgrow hat)
 exact bodyPost_ret (results_tmp rfl _ _ _) rfl ⟨A3, c3, rfl, HO3.out, hw3⟩

structure XC (cs : Array Value) (k f c t : Int) (kn : Bool) (kv sv pv nv rv : Value) (pos hv : Int) (wv : Value) (now : List UInt8) : Prop where
  sz : cs.size = 77
  c0 : cs[0]? = some (.int .i64 k)
  c1 : cs[1]? = some (.int .i64 f)
  c2 : cs[2]? = some (.int .u32 c)
  c3 : cs[3]? = some (.int .u64 t)
  c4 : cs[4]? = some (.bool kn)
  c5 : cs[5]? = some kv
  c6 : cs[6]? = some sv
  c7 : cs[7]? = some pv
  c8 : cs[8]? = some nv
  c9 : cs[9]? = some rv
  c10 : cs[10]? = some (.int .u64 pos)
  c75 : cs[75]? = some (.int .i64 hv)
  c76 : cs[76]? = some wv
  now : (cs.extract 11 75).toList = now.map cB.enc
theorem extract_set_far {cs : Array Value} {i a b : Nat} (v : Value) (h : i < a ∨ b ≤ i) : (cs.setIfInBounds i v).extract a b = cs.extract a b := by
 apply Array.ext_getElem?
 intro j
 simp only [Array.getElem?_extract, Array.size_setIfInBounds]
 split
 ·rw [Array.getElem?_setIfInBounds_ne (by omega)]
 ·rfl
section
variable {cs : Array Value} {k f c t : Int} {kn : Bool} {kv sv pv nv rv : Value} {pos hv : Int} {wv : Value} {now : List UInt8}
theorem XC.put8 (h : XC cs k f c t kn kv sv pv nv rv pos hv wv now) (v : Value) : XC (cs.setIfInBounds 8 (v)) k f c t kn kv sv pv v rv pos hv wv now :=
 ⟨by rw [Array.size_setIfInBounds]; exact h.sz, (Array.getElem?_setIfInBounds_ne (by omega)).trans h.c0, (Array.getElem?_setIfInBounds_ne (by omega)).trans h.c1, (Array.getElem?_setIfInBounds_ne (by omega)).trans h.c2, (Array.getElem?_setIfInBounds_ne (by omega)).trans h.c3, (Array.getElem?_setIfInBounds_ne (by omega)).trans h.c4, (Array.getElem?_setIfInBounds_ne (by omega)).trans h.c5, (Array.getElem?_setIfInBounds_ne (by omega)).trans h.c6, (Array.getElem?_setIfInBounds_ne (by omega)).trans h.c7, Array.getElem?_setIfInBounds_self_of_lt (by rw [h.sz]; omega), (Array.getElem?_setIfInBounds_ne (by omega)).trans h.c9, (Array.getElem?_setIfInBounds_ne (by omega)).trans h.c10, (Array.getElem?_setIfInBounds_ne (by omega)).trans h.c75, (Array.getElem?_setIfInBounds_ne (by omega)).trans h.c76, by rw [extract_set_far _ (by omega)]; exact h.now⟩
theorem XC.put9 (h : XC cs k f c t kn kv sv pv nv rv pos hv wv now) (v : Value) : XC (cs.setIfInBounds 9 (v)) k f c t kn kv sv pv nv v pos hv wv now :=
  ⟨by rw [Array.size_setIfInBounds]; exact h.sz, (Array.getElem?_setIfInBounds_ne (by omega)).trans h.c0, (Array.getElem?_setIfInBounds_ne (by omega)).trans h.c1, (Array.getElem?_setIfInBounds_ne (by omega)).trans h.c2, (Array.getElem?_setIfInBounds_ne (by omega)).trans h.c3, (Array.getElem?_setIfInBounds_ne (by omega)).trans h.c4, (Array.getElem?_setIfInBounds_ne (by omega)).trans h.c5, (Array.getElem?_setIfInBounds_ne (by omega)).trans h.c6, (Array.getElem?_setIfInBounds_ne (by omega)).trans h.c7, (Array.getElem?_setIfInBounds_ne (by omega)).trans h.c8, Array.getElem?_setIfInBounds_self_of_lt (by rw [h.sz]; omega), (Array.getElem?_setIfInBounds_ne (by omega)).trans h.c10, (Array.getElem?_setIfInBounds_ne (by omega)).trans h.c75, (Array.getElem?_setIfInBounds_ne (by omega)).trans h.c76, by rw [extract_set_far _ (by omega)]; exact h.now⟩
theorem XC.put10 (h : XC cs k f c t kn kv sv pv nv rv pos hv wv now) (v : Int) : XC (cs.setIfInBounds 10 (.int .u64 v)) k f c t kn kv sv pv nv rv v hv wv now :=
      ⟨by rw [Array.size_setIfInBounds]; exact h.sz, (Array.getElem?_setIfInBounds_ne (by omega)).trans h.c0, (Array.getElem?_setIfInBounds_ne (by omega)).trans h.c1, (Array.getElem?_setIfInBounds_ne (by omega)).trans h.c2, (Array.getElem?_setIfInBounds_ne (by omega)).trans h.c3, (Array.getElem?_setIfInBounds_ne (by omega)).trans h.c4, (Array.getElem?_setIfInBounds_ne (by omega)).trans h.c5, (Array.getElem?_setIfInBounds_ne (by omega)).trans h.c6, (Array.getElem?_setIfInBounds_ne (by omega)).trans h.c7, (Array.getElem?_setIfInBounds_ne (by omega)).trans h.c8, (Array.getElem?_setIfInBounds_ne (by omega)).trans h.c9, Array.getElem?_setIfInBounds_self_of_lt (by rw [h.sz]; omega), (Array.getElem?_setIfInBounds_ne (by omega)).trans h.c75, (Array.getElem?_setIfInBounds_ne (by omega)).trans h.c76, by rw [extract_set_far _ (by omega)]; exact h.now⟩
theorem XC.put75 (h : XC cs k f c t kn kv sv pv nv rv pos hv wv now) (v : Int) : XC (cs.setIfInBounds 75 (.int .i64 v)) k f c t kn kv sv pv nv rv pos v wv now :=
        ⟨by rw [Array.size_setIfInBounds]; exact h.sz, (Array.getElem?_setIfInBounds_ne (by omega)).trans h.c0, (Array.getElem?_setIfInBounds_ne (by omega)).trans h.c1, (Array.getElem?_setIfInBounds_ne (by omega)).trans h.c2, (Array.getElem?_setIfInBounds_ne (by omega)).trans h.c3, (Array.getElem?_setIfInBounds_ne (by omega)).trans h.c4, (Array.getElem?_setIfInBounds_ne (by omega)).trans h.c5, (Array.getElem?_setIfInBounds_ne (by omega)).trans h.c6, (Array.getElem?_setIfInBounds_ne (by omega)).trans h.c7, (Array.getElem?_setIfInBounds_ne (by omega)).trans h.c8, (Array.getElem?_setIfInBounds_ne (by omega)).trans h.c9, (Array.getElem?_setIfInBounds_ne (by omega)).trans h.c10, Array.getElem?_setIfInBounds_self_of_lt (by rw [h.sz]; omega), (Array.getElem?_setIfInBounds_ne (by omega)).trans h.c76, by rw [extract_set_far _ (by omega)]; exact h.now⟩
theorem XC.put76 (h : XC cs k f c t kn kv sv pv nv rv pos hv wv now) (v : Value) : XC (cs.setIfInBounds 76 (v)) k f c t kn kv sv pv nv rv pos hv v now :=
          ⟨by rw [Array.size_setIfInBounds]; exact h.sz, (Array.getElem?_setIfInBounds_ne (by omega)).trans h.c0, (Array.getElem?_setIfInBounds_ne (by omega)).trans h.c1, (Array.getElem?_setIfInBounds_ne (by omega)).trans h.c2, (Array.getElem?_setIfInBounds_ne (by omega)).trans h.c3, (Array.getElem?_setIfInBounds_ne (by omega)).trans h.c4, (Array.getElem?_setIfInBounds_ne (by omega)).trans h.c5, (Array.getElem?_setIfInBounds_ne (by omega)).trans h.c6, (Array.getElem?_setIfInBounds_ne (by omega)).trans h.c7, (Array.getElem?_setIfInBounds_ne (by omega)).trans h.c8, (Array.getElem?_setIfInBounds_ne (by omega)).trans h.c9, (Array.getElem?_setIfInBounds_ne (by omega)).trans h.c10, (Array.getElem?_setIfInBounds_ne (by omega)).trans h.c75, Array.getElem?_setIfInBounds_self_of_lt (by rw [h.sz]; omega), by rw [extract_set_far _ (by omega)]; exact h.now⟩
theorem XC.put0 (h : XC cs k f c t kn kv sv pv nv rv pos hv wv now) (v : Int) : XC (cs.setIfInBounds 0 (.int .i64 v)) v f c t kn kv sv pv nv rv pos hv wv now :=
            ⟨by rw [Array.size_setIfInBounds]; exact h.sz, Array.getElem?_setIfInBounds_self_of_lt (by rw [h.sz]; omega), (Array.getElem?_setIfInBounds_ne (by omega)).trans h.c1, (Array.getElem?_setIfInBounds_ne (by omega)).trans h.c2, (Array.getElem?_setIfInBounds_ne (by omega)).trans h.c3, (Array.getElem?_setIfInBounds_ne (by omega)).trans h.c4, (Array.getElem?_setIfInBounds_ne (by omega)).trans h.c5, (Array.getElem?_setIfInBounds_ne (by omega)).trans h.c6, (Array.getElem?_setIfInBounds_ne (by omega)).trans h.c7, (Array.getElem?_setIfInBounds_ne (by omega)).trans h.c8, (Array.getElem?_setIfInBounds_ne (by omega)).trans h.c9, (Array.getElem?_setIfInBounds_ne (by omega)).trans h.c10, (Array.getElem?_setIfInBounds_ne (by omega)).trans h.c75, (Array.getElem?_setIfInBounds_ne (by omega)).trans h.c76, by rw [extract_set_far _ (by omega)]; exact h.now⟩
theorem XC.put1 (h : XC cs k f c t kn kv sv pv nv rv pos hv wv now) (v : Int) : XC (cs.setIfInBounds 1 (.int .i64 v)) k v c t kn kv sv pv nv rv pos hv wv now :=
              ⟨by rw [Array.size_setIfInBounds]; exact h.sz, (Array.getElem?_setIfInBounds_ne (by omega)).trans h.c0, Array.getElem?_setIfInBounds_self_of_lt (by rw [h.sz]; omega), (Array.getElem?_setIfInBounds_ne (by omega)).trans h.c2, (Array.getElem?_setIfInBounds_ne (by omega)).trans h.c3, (Array.getElem?_setIfInBounds_ne (by omega)).trans h.c4, (Array.getElem?_setIfInBounds_ne (by omega)).trans h.c5, (Array.getElem?_setIfInBounds_ne (by omega)).trans h.c6, (Array.getElem?_setIfInBounds_ne (by omega)).trans h.c7, (Array.getElem?_setIfInBounds_ne (by omega)).trans h.c8, (Array.getElem?_setIfInBounds_ne (by omega)).trans h.c9, (Array.getElem?_setIfInBounds_ne (by omega)).trans h.c10, (Array.getElem?_setIfInBounds_ne (by omega)).trans h.c75, (Array.getElem?_setIfInBounds_ne (by omega)).trans h.c76, by rw [extract_set_far _ (by omega)]; exact h.now⟩
theorem XC.put2 (h : XC cs k f c t kn kv sv pv nv rv pos hv wv now) (v : Int) : XC (cs.setIfInBounds 2 (.int .u32 v)) k f v t kn kv sv pv nv rv pos hv wv now :=
                ⟨by rw [Array.size_setIfInBounds]; exact h.sz, (Array.getElem?_setIfInBounds_ne (by omega)).trans h.c0, (Array.getElem?_setIfInBounds_ne (by omega)).trans h.c1, Array.getElem?_setIfInBounds_self_of_lt (by rw [h.sz]; omega), (Array.getElem?_setIfInBounds_ne (by omega)).trans h.c3, (Array.getElem?_setIfInBounds_ne (by omega)).trans h.c4, (Array.getElem?_setIfInBounds_ne (by omega)).trans h.c5, (Array.getElem?_setIfInBounds_ne (by omega)).trans h.c6, (Array.getElem?_setIfInBounds_ne (by omega)).trans h.c7, (Array.getElem?_setIfInBounds_ne (by omega)).trans h.c8, (Array.getElem?_setIfInBounds_ne (by omega)).trans h.c9, (Array.getElem?_setIfInBounds_ne (by omega)).trans h.c10, (Array.getElem?_setIfInBounds_ne (by omega)).trans h.c75, (Array.getElem?_setIfInBounds_ne (by omega)).trans h.c76, by rw [extract_set_far _ (by omega)]; exact h.now⟩
theorem XC.put3 (h : XC cs k f c t kn kv sv pv nv rv pos hv wv now) (v : Int) : XC (cs.setIfInBounds 3 (.int .u64 v)) k f c v kn kv sv pv nv rv pos hv wv now :=
                  ⟨by rw [Array.size_setIfInBounds]; exact h.sz, (Array.getElem?_setIfInBounds_ne (by omega)).trans h.c0, (Array.getElem?_setIfInBounds_ne (by omega)).trans h.c1, (Array.getElem?_setIfInBounds_ne (by omega)).trans h.c2, Array.getElem?_setIfInBounds_self_of_lt (by rw [h.sz]; omega), (Array.getElem?_setIfInBounds_ne (by omega)).trans h.c4, (Array.getElem?_setIfInBounds_ne (by omega)).trans h.c5, (Array.getElem?_setIfInBounds_ne (by omega)).trans h.c6, (Array.getElem?_setIfInBounds_ne (by omega)).trans h.c7, (Array.getElem?_setIfInBounds_ne (by omega)).trans h.c8, (Array.getElem?_setIfInBounds_ne (by omega)).trans h.c9, (Array.getElem?_setIfInBounds_ne (by omega)).trans h.c10, (Array.getElem?_setIfInBounds_ne (by omega)).trans h.c75, (Array.getElem?_setIfInBounds_ne (by omega)).trans h.c76, by rw [extract_set_far _ (by omega)]; exact h.now⟩
theorem XC.put4 (h : XC cs k f c t kn kv sv pv nv rv pos hv wv now) (v : Bool) : XC (cs.setIfInBounds 4 (.bool v)) k f c t v kv sv pv nv rv pos hv wv now :=
                    ⟨by rw [Array.size_setIfInBounds]; exact h.sz, (Array.getElem?_setIfInBounds_ne (by omega)).trans h.c0, (Array.getElem?_setIfInBounds_ne (by omega)).trans h.c1, (Array.getElem?_setIfInBounds_ne (by omega)).trans h.c2, (Array.getElem?_setIfInBounds_ne (by omega)).trans h.c3, Array.getElem?_setIfInBounds_self_of_lt (by rw [h.sz]; omega), (Array.getElem?_setIfInBounds_ne (by omega)).trans h.c5, (Array.getElem?_setIfInBounds_ne (by omega)).trans h.c6, (Array.getElem?_setIfInBounds_ne (by omega)).trans h.c7, (Array.getElem?_setIfInBounds_ne (by omega)).trans h.c8, (Array.getElem?_setIfInBounds_ne (by omega)).trans h.c9, (Array.getElem?_setIfInBounds_ne (by omega)).trans h.c10, (Array.getElem?_setIfInBounds_ne (by omega)).trans h.c75, (Array.getElem?_setIfInBounds_ne (by omega)).trans h.c76, by rw [extract_set_far _ (by omega)]; exact h.now⟩
theorem XC.put5 (h : XC cs k f c t kn kv sv pv nv rv pos hv wv now) (v : Value) : XC (cs.setIfInBounds 5 (v)) k f c t kn v sv pv nv rv pos hv wv now :=
                      ⟨by rw [Array.size_setIfInBounds]; exact h.sz, (Array.getElem?_setIfInBounds_ne (by omega)).trans h.c0, (Array.getElem?_setIfInBounds_ne (by omega)).trans h.c1, (Array.getElem?_setIfInBounds_ne (by omega)).trans h.c2, (Array.getElem?_setIfInBounds_ne (by omega)).trans h.c3, (Array.getElem?_setIfInBounds_ne (by omega)).trans h.c4, Array.getElem?_setIfInBounds_self_of_lt (by rw [h.sz]; omega), (Array.getElem?_setIfInBounds_ne (by omega)).trans h.c6, (Array.getElem?_setIfInBounds_ne (by omega)).trans h.c7, (Array.getElem?_setIfInBounds_ne (by omega)).trans h.c8, (Array.getElem?_setIfInBounds_ne (by omega)).trans h.c9, (Array.getElem?_setIfInBounds_ne (by omega)).trans h.c10, (Array.getElem?_setIfInBounds_ne (by omega)).trans h.c75, (Array.getElem?_setIfInBounds_ne (by omega)).trans h.c76, by rw [extract_set_far _ (by omega)]; exact h.now⟩
theorem XC.put6 (h : XC cs k f c t kn kv sv pv nv rv pos hv wv now) (v : Value) : XC (cs.setIfInBounds 6 (v)) k f c t kn kv v pv nv rv pos hv wv now :=
                        ⟨by rw [Array.size_setIfInBounds]; exact h.sz, (Array.getElem?_setIfInBounds_ne (by omega)).trans h.c0, (Array.getElem?_setIfInBounds_ne (by omega)).trans h.c1, (Array.getElem?_setIfInBounds_ne (by omega)).trans h.c2, (Array.getElem?_setIfInBounds_ne (by omega)).trans h.c3, (Array.getElem?_setIfInBounds_ne (by omega)).trans h.c4, (Array.getElem?_setIfInBounds_ne (by omega)).trans h.c5, Array.getElem?_setIfInBounds_self_of_lt (by rw [h.sz]; omega), (Array.getElem?_setIfInBounds_ne (by omega)).trans h.c7, (Array.getElem?_setIfInBounds_ne (by omega)).trans h.c8, (Array.getElem?_setIfInBounds_ne (by omega)).trans h.c9, (Array.getElem?_setIfInBounds_ne (by omega)).trans h.c10, (Array.getElem?_setIfInBounds_ne (by omega)).trans h.c75, (Array.getElem?_setIfInBounds_ne (by omega)).trans h.c76, by rw [extract_set_far _ (by omega)]; exact h.now⟩
theorem XC.put7 (h : XC cs k f c t kn kv sv pv nv rv pos hv wv now) (v : Value) : XC (cs.setIfInBounds 7 (v)) k f c t kn kv sv v nv rv pos hv wv now :=
                          ⟨by rw [Array.size_setIfInBounds]; exact h.sz, (Array.getElem?_setIfInBounds_ne (by omega)).trans h.c0, (Array.getElem?_setIfInBounds_ne (by omega)).trans h.c1, (Array.getElem?_setIfInBounds_ne (by omega)).trans h.c2, (Array.getElem?_setIfInBounds_ne (by omega)).trans h.c3, (Array.getElem?_setIfInBounds_ne (by omega)).trans h.c4, (Array.getElem?_setIfInBounds_ne (by omega)).trans h.c5, (Array.getElem?_setIfInBounds_ne (by omega)).trans h.c6, Array.getElem?_setIfInBounds_self_of_lt (by rw [h.sz]; omega), (Array.getElem?_setIfInBounds_ne (by omega)).trans h.c8, (Array.getElem?_setIfInBounds_ne (by omega)).trans h.c9, (Array.getElem?_setIfInBounds_ne (by omega)).trans h.c10, (Array.getElem?_setIfInBounds_ne (by omega)).trans h.c75, (Array.getElem?_setIfInBounds_ne (by omega)).trans h.c76, by rw [extract_set_far _ (by omega)]; exact h.now⟩
end
theorem XC.zero : XC Tryz.zeroCells71 0 0 0 0 false (.slice none 0 0) (.slice none 0 0) (.slice none 0 0) (.pointer none) (.slice none 0 0) 0 0 .nilFunc (List.replicate 64 0) := by
 exact ⟨by kernel_rfl, by kernel_rfl, by kernel_rfl, by kernel_rfl, by kernel_rfl, by kernel_rfl, by kernel_rfl, by kernel_rfl, by kernel_rfl, by kernel_rfl, by kernel_rfl, by kernel_rfl, by kernel_rfl, by kernel_rfl, by kernel_rfl⟩
def takesV (p : Nat) : Value := .func (.func 61) #[.pointer (some ⟨p, 0, none⟩)] #[]
set_option maxRecDepth 20000 in
set_option maxHeartbeats 2000000 in
theorem xbegin_any (p d : Nat) (big : Bool) (f c t : Int) (kn : Bool) (Ak : Option Addr) (nk ck : Nat) (s pp : Sl) (nv rv : Value) (pos hv : Int) (wv : Value) (now : List UInt8) (ls lp key : List UInt8) (cs : Array Value) (w : World)
  (hb : Blk w p 71 cs) (hx : XC cs (kOf big) f c t kn (.slice Ak nk ck) s.v pp.v nv rv pos hv wv now) (hd : f = d)
  (hc : chk (kOf big) ⟨f, nk, 1, 1, 0, 0, c, 0, 0, s, pp⟩ = 0) (hf : Pr.Fit ⟨f, nk, 1, 1, 0, 0, c, 0, 0, s, pp⟩) (hls : ls.length = s.n) (hlp : lp.length = pp.n) (hrs : RS cB w w.heap.size s.A ls) (hrp : RS cB w w.heap.size pp.A lp)
  (hk : key.length = nk) (hrk : RS cB w w.heap.size Ak key) :
  Calls Tryz.prog 40 #[.pointer (some ⟨p, 0, none⟩)] w fun r w' => r = .returned (.tuple #[]) ∧ ∃ cs' q F, Blk w' p 71 cs' ∧ XC cs' (kOf big) f c t kn (.slice Ak nk ck) s.v pp.v (.pointer (some ⟨q, 0, none⟩)) (.slice none 0 0) 0 (-1) (takesV p) now ∧
   Nd w' q big d (encL big ⟨f, nk, 1, 1, 0, 0, c, 0, 0, s, pp⟩ ls lp) key false 0 (startK big (encL big ⟨f, nk, 1, 1, 0, 0, c, 0, 0, s, pp⟩ ls lp) key) F ∧ (∀ k, k ∈ F → w.heap.size ≤ k) ∧ But [p] w w' := by
 have hnw := fun W hrs hrp hrk => new_any big d ⟨f, nk, 1, 1, 0, 0, c, 0, 0, s, pp⟩ ls lp key Ak nk ck W hc hf hd hls hlp hrs hrp hk (.inr rfl) hrk
 have hpa := fun W => pars_any (kOf big) f c t kn Ak nk ck s pp W
 generalize encL big ⟨f, nk, 1, 1, 0, 0, c, 0, 0, s, pp⟩ ls lp = X at *
 generalize startK big X key = E at *
 generalize hkq : kOf big = kk at *
 unfold Pr.v Pr.cs Sl.v at *
 dsimp only at hnw hpa
 have d0 : w.cell? ⟨p, 0, none⟩ = some (.int .i64 kk) := (hb.cell 0).trans hx.c0
 have d1 : w.cell? ⟨p, 1, none⟩ = some (.int .i64 f) := (hb.cell 1).trans hx.c1
 have d2 : w.cell? ⟨p, 2, none⟩ = some (.int .u32 c) := (hb.cell 2).trans hx.c2
 have d3 : w.cell? ⟨p, 3, none⟩ = some (.int .u64 t) := (hb.cell 3).trans hx.c3
 have d4 : w.cell? ⟨p, 4, none⟩ = some (.bool kn) := (hb.cell 4).trans hx.c4
 have d5 : w.cell? ⟨p, 5, none⟩ = some (.slice Ak nk ck) := (hb.cell 5).trans hx.c5
 have d6 : w.cell? ⟨p, 6, none⟩ = some (.slice s.A s.n s.c) := (hb.cell 6).trans hx.c6
 have d7 : w.cell? ⟨p, 7, none⟩ = some (.slice pp.A pp.n pp.c) := (hb.cell 7).trans hx.c7
 have hS : ∀ i, i ≤ 7 → w.cell? ⟨p, i, none⟩ = cs[i]? := fun i _ => hb.cell i
 have HX := Lib.hid hx; have HB := Lib.hid hb; have HS0 := Lib.hid hS; have HNW := Lib.hid hnw; have HPA := Lib.hid hpa; have HRS := Lib.hid hrs; have HRP := Lib.hid hrp; have HRK := Lib.hid hrk
 clear hx hb hS hnw hpa hrs hrp hrk hls hlp hk hc hf hd hkq
 have hmf : ∀ (fn : Fn) (first cap : Array Value) (w : World), (Instr.makeFunc fn first cap).run Tryz.prog w = .ok (.func fn first cap) w := fun _ _ _ _ => rfl
 go_enter Tryz.func40, Tryz.ntmps40
 go_upto_region 0 with fail
 refine wp_region_ords (fun w' => ∀ i, i ≤ 7 → w'.cell? ⟨p, i, none⟩ = cs[i]?) (fun _ n h => h) (Ords.of [(0, 0), (0, 1), (0, 2), (0, 3), (0, 4), (0, 5), (0, 6), (0, 7), (0, 8), (0, 9), (0, 10), (0, 11), (0, 12), (0, 13), (0, 14), (0, 15), (0, 16), (0, 17), (0, 18), (0, 19), (0, 20), (0, 21), (0, 23), (0, 24), (0, 25), (0, 26), (2, 22), (2, 27), (0, 28), (0, 29), (0, 30), (0, 31), (0, 32), (2, 33)] .fin) (by kernel_rfl) rfl (by kernel_rfl) (by kernel_rfl) (fun c a d v w h => by cases d <;> exact h) HS0.out ?_
 iterate 5 (refine ords_pure rfl (fun K hK => ?_); go_simp; refine hK _ ?_; clear hK K)
 iterate 5 (refine ords_heldK rfl (fun K K2 hK hK2 => ?_); go_simp; refine ⟨hK2 _ (fun w9 hS => ?_), hK _ ?_⟩; (clear hK hK2 K K2; have q0 : w9.cell? ⟨p, 0, none⟩ = some (.int .i64 kk) := (hS 0 (by omega)).trans HX.out.c0; have q1 : w9.cell? ⟨p, 1, none⟩ = some (.int .i64 f) := (hS 1 (by omega)).trans HX.out.c1; have q2 : w9.cell? ⟨p, 2, none⟩ = some (.int .u32 c) := (hS 2 (by omega)).trans HX.out.c2; have q3 : w9.cell? ⟨p, 3, none⟩ = some (.int .u64 t) := (hS 3 (by omega)).trans HX.out.c3; have q4 : w9.cell? ⟨p, 4, none⟩ = some (.bool kn) := (hS 4 (by omega)).trans HX.out.c4; have q5 : w9.cell? ⟨p, 5, none⟩ = some (.slice Ak nk ck) := (hS 5 (by omega)).trans HX.out.c5; have q6 : w9.cell? ⟨p, 6, none⟩ = some (.slice s.A s.n s.c) := (hS 6 (by omega)).trans HX.out.c6; have q7 : w9.cell? ⟨p, 7, none⟩ = some (.slice pp.A pp.n pp.c) := (hS 7 (by omega)).trans HX.out.c7; clear hS; go_simp); (clear hK hK2 K K2); refine ords_pure rfl (fun K hK => ?_); go_simp; refine hK _ ?_; clear hK K; refine ords_pure rfl (fun K hK => ?_); go_simp; refine hK _ ?_; clear hK K; refine ords_pure rfl (fun K hK => ?_); go_simp; refine hK _ ?_; clear hK K)
 refine ords_heldK rfl (fun K K2 hK hK2 => ?_); go_simp; refine ⟨hK2 _ (fun w9 hS => ?_), hK _ ?_⟩; (clear hK hK2 K K2; have q0 : w9.cell? ⟨p, 0, none⟩ = some (.int .i64 kk) := (hS 0 (by omega)).trans HX.out.c0; have q1 : w9.cell? ⟨p, 1, none⟩ = some (.int .i64 f) := (hS 1 (by omega)).trans HX.out.c1; have q2 : w9.cell? ⟨p, 2, none⟩ = some (.int .u32 c) := (hS 2 (by omega)).trans HX.out.c2; have q3 : w9.cell? ⟨p, 3, none⟩ = some (.int .u64 t) := (hS 3 (by omega)).trans HX.out.c3; have q4 : w9.cell? ⟨p, 4, none⟩ = some (.bool kn) := (hS 4 (by omega)).trans HX.out.c4; have q5 : w9.cell? ⟨p, 5, none⟩ = some (.slice Ak nk ck) := (hS 5 (by omega)).trans HX.out.c5; have q6 : w9.cell? ⟨p, 6, none⟩ = some (.slice s.A s.n s.c) := (hS 6 (by omega)).trans HX.out.c6; have q7 : w9.cell? ⟨p, 7, none⟩ = some (.slice pp.A pp.n pp.c) := (hS 7 (by omega)).trans HX.out.c7; clear hS; go_simp); (clear hK hK2 K K2)
 refine ords_loud rfl (fun n1 => ?_)
 go_wp2_with (go_at_call 59; refine (HPA.out _).mono ?_; rintro e3 w3 ⟨rfl, hb3⟩)
 have B3 := Lib.hid (bcall (bdr (b0 w) _) hb3); have K3 := Lib.hid ((HB.out.drewN _).below hb3 (HB.out.drewN _).lt); clear hb3
 refine ⟨fun i _ => K3.out.cell i, ?_⟩
 have e5 : w3.cell? ⟨p, 5, none⟩ = some (.slice Ak nk ck) := (K3.out.cell 5).trans HX.out.c5
 refine ords_loud rfl (fun n2 => ?_)
 go_wp2_with (go_at_call 60; refine (HNW.out _ (((HRS.out.below B3.out).more B3.out.size).drewN _) (((HRP.out.below B3.out).more B3.out.size).drewN _) (((HRK.out.below B3.out).more B3.out.size).drewN _)).mono ?_; rintro e4 w4 ⟨q, F, rfl, hN4, hF4, hb4⟩)
 have B4 := Lib.hid (bcall (bdr B3.out _) hb4); have K4 := Lib.hid ((K3.out.drewN _).below hb4 (K3.out.drewN _).lt); have N4 := Lib.hid hN4; have F4 := Lib.hid (fun k hk => Nat.le_trans B3.out.size (hF4 k hk)); clear hb4 hN4 hF4 e5
 refine ⟨fun i _ => K4.out.cell i, ?_⟩
 have e8 : w4.cell? ⟨p, 8, none⟩ = some nv := (K4.out.cell 8).trans HX.out.c8
 have e9 : w4.cell? ⟨p, 9, none⟩ = some rv := (K4.out.cell 9).trans HX.out.c9
 have e10 : w4.cell? ⟨p, 10, none⟩ = some (.int .u64 pos) := (K4.out.cell 10).trans HX.out.c10
 have e75 : w4.cell? ⟨p, 75, none⟩ = some (.int .i64 hv) := (K4.out.cell 75).trans HX.out.c75
 have e76 : w4.cell? ⟨p, 76, none⟩ = some wv := (K4.out.cell 76).trans HX.out.c76
 have f8 := K4.out.frozen 8
 have f9 := K4.out.frozen 9
 have f10 := K4.out.frozen 10
 have f75 := K4.out.frozen 75
 have f76 := K4.out.frozen 76
 iterate 5 (refine ords_pure rfl (fun K hK => ?_); go_simp; refine hK _ ?_; clear hK K)
 refine ords_loud rfl (fun n3 => ?_)
 go_wp2_with fail
 refine ⟨fun i hi => (((K4.out.drewN _).set_ 8 _).cell i).trans (Array.getElem?_setIfInBounds_ne (by omega)), ?_⟩
 refine ords_end (fun n4 => ?_)
 go_wp2_with fail
 go_end0
 have B5 := But.setCell (p := ⟨p, 76, none⟩) (But.setCell (p := ⟨p, 75, none⟩) (But.setCell (p := ⟨p, 10, none⟩) (But.setCell (p := ⟨p, 9, none⟩) ((But.setCell (p := ⟨p, 8, none⟩) ((But.refl [p] w4).drewN n3) (.inl (List.mem_singleton.2 rfl)) (.pointer (some ⟨q, 0, none⟩))).drewN n4) (.inl (List.mem_singleton.2 rfl)) (.slice none 0 0)) (.inl (List.mem_singleton.2 rfl)) (.int .u64 0)) (.inl (List.mem_singleton.2 rfl)) (.int .i64 (-1))) (.inl (List.mem_singleton.2 rfl)) (takesV p)
 exact ⟨rfl, _, q, F, ((((((K4.out.drewN n3).set_ 8 _).drewN n4).set_ 9 _).set_ 10 _).set_ 75 _).set_ 76 _, ((((HX.out.put8 _).put9 _).put10 _).put75 _).put76 _, N4.out.but B5 (fun k hk hp => by have h1 := F4.out k hk; rw [List.mem_singleton.1 hp] at h1; have h2 := HB.out.lt; omega), F4.out, (But.of B4.out [p]).trans B5 (fun k hk => .inl hk)⟩

structure XT (w : World) (base p : Nat) (big : Bool) (len : Int) (key ls lp : List UInt8) (wr : UInt64) (e : Eng) (cs : Array Value) (Ak : Option Addr) (ck : Nat) (s pp : Sl) (q : Nat) (F : List Nat) : Prop where
  blk : Blk w p 71 cs
  xc : ∃ now, now.length = 64 ∧ XC cs (kOf big) (mostOf (kOf big)) (xCode (kOf big) len) (xTotal (kOf big) len) (decide (len ≠ -1)) (.slice Ak key.length ck) s.v pp.v (.pointer (some ⟨q, 0, none⟩)) (.slice none 0 0) 0 (-1) (takesV p) now
  hls : ls.length = s.n
  hlp : lp.length = pp.n
  ok : OS cB w base Ak ck key
  os : OS cB w base s.A s.c ls
  op : OS cB w base pp.A pp.c lp
  fk : ∀ a, Ak = some a → a.block ∉ p :: F
  fs : ∀ a, s.A = some a → a.block ∉ p :: F
  fp : ∀ a, pp.A = some a → a.block ∉ p :: F
  nd : Nd w q big (bOf big) (encL big (rootP (kOf big) len key.length s pp) ls lp) key false wr e F
  hp : base ≤ p
  hF : ∀ k, k ∈ F → base ≤ k
  pF : p ∉ F
theorem kOf_most (big : Bool) : mostOf (kOf big) = bOf big := by cases big <;> rfl
set_option maxRecDepth 20000 in
set_option maxHeartbeats 2000000 in
theorem xnew_any (big : Bool) (len : Int) (ls lp key : List UInt8) (Ak : Option Addr) (nk ck : Nat) (s p : Sl) (w : World) (hv : xValid (kOf big) len nk s p = 0) (hls : ls.length = s.n) (hlp : lp.length = p.n) (hrs : RS cB w w.heap.size s.A ls) (hrp : RS cB w w.heap.size p.A lp)
  (hk : key.length = nk) (hrk : RS cB w w.heap.size Ak key) :
  Calls Tryz.prog 17 #[.int .i64 (kOf big), .int .i64 len, .slice Ak nk ck, s.v, p.v] w fun r w' => ∃ g cs Ak2 ck2 s2 p2 q F, r = .returned (.tuple #[.pointer (some ⟨g, 0, none⟩), .int .i64 0]) ∧ 
   XT w' w.heap.size g big len key ls lp 0 (startK big (encL big (rootP (kOf big) len nk s2 p2) ls lp) key) cs Ak2 ck2 s2 p2 q F ∧ Below w.heap.size w w' := by
 have hva := fun W => xvalid_any (kOf big) len Ak nk ck s p W
 have ho := xOK_of hv
 have hk0 : ¬ mostOf (kOf big) < nk := fun h => by rw [xValid_key ho h] at hv; exact absurd hv (by decide)
 have hfit := fun s2 p2 => rootP_fit (nk := nk) (s := s2) (t := p2) ho
 have hchk : ∀ s2 p2 : Sl, s2.n = s.n → p2.n = p.n → chk (kOf big) (rootP (kOf big) len nk s2 p2) = 0 := by
  intro s2 p2 h1 h2
  rw [xValid_chk ho hk0] at hv
  rw [← hv]
  unfold chk rootP
  dsimp only
  rw [h1, h2]
 have hsl : s.n ≤ 16 ∧ p.n ≤ 16 := by
  have h := chk_range (hchk s p rfl rfl)
  obtain ⟨-, -, -, -, -, -, h1, h2⟩ := h
  have h3 : bOf big ≤ 64 := by cases big <;> decide
  exact ⟨by have h4 : 4 * s.n ≤ bOf big := h1; omega, by have h4 : 4 * p.n ≤ bOf big := h2; omega⟩
 have hkl : nk ≤ 64 := by
  have : mostOf (kOf big) ≤ 64 := by cases big <;> decide
  omega
 have how := fun W h => own_any Ak ck nk key W hk (by omega) h
 have hos := fun W h => own_any s.A s.c s.n ls W hls (by omega) h
 have hop := fun W h => own_any p.A p.c p.n lp W hlp (by omega) h
 have HVA := Lib.hid hva; have HRS := Lib.hid hrs; have HRP := Lib.hid hrp; have HRK := Lib.hid hrk; have HV := Lib.hid hv; have HCH := Lib.hid hchk; have HFI := Lib.hid hfit; have HLS := Lib.hid hls; have HLP := Lib.hid hlp; have HK := Lib.hid hk; have HOW := Lib.hid how; have HOS := Lib.hid hos; have HOP := Lib.hid hop
 clear hva hrs hrp hrk hv hchk hfit hls hlp hk how hos hop ho hk0 hsl hkl
 obtain ⟨kk, hkk⟩ : ∃ kk, kk = kOf big := ⟨_, rfl⟩
 rw [← hkk]
 obtain ⟨f, hmo⟩ : ∃ f, mostOf kk = f := ⟨_, rfl⟩
 unfold shCells at HVA
 rw [← hkk, hmo] at HVA
 obtain ⟨x, hx⟩ : ∃ x, x = xValid (kOf big) len nk s p := ⟨_, rfl⟩
 have hx0 : x = 0 := hx.trans HV.out
 rw [← hkk] at hx
 rw [← hx] at HVA
 subst hx0
 clear hx HV
 obtain ⟨cx, hcx⟩ : ∃ c, c = xCode kk len := ⟨_, rfl⟩
 obtain ⟨tx, htx⟩ : ∃ c, c = xTotal kk len := ⟨_, rfl⟩
 rw [← hcx, ← htx] at HVA
 have HKK := Lib.hid hkk; have HMO := Lib.hid hmo; have HCX := Lib.hid hcx; have HTX := Lib.hid htx; clear hkk hmo hcx htx
 unfold Sl.v at *
 go_enter Tryz.func17, Tryz.ntmps17
 go_wp2_with fail
 refine (HVA.out _).mono ?_
 rintro e1 w1 ⟨c, t, kn, rfl, hcs, hb1⟩
 obtain ⟨rfl, rfl, hkn⟩ := hcs (by trivial)
 have HKN := Lib.hid hkn; clear hkn
 have hB1 := bal hb1 (.cells #[.int .i64 kk, .int .i64 f, .int .u32 c, .int .u64 t, .bool kn] 67)
 have hn := Blk.new w1 67 #[.int .i64 kk, .int .i64 f, .int .u32 c, .int .u64 t, .bool kn]
 have HN := Lib.hid hn; have HB1 := Lib.hid hB1; clear hb1 hcs hn hB1
 go_wp2_with fail
 obtain ⟨g, hg⟩ : ∃ g, g = w1.heap.size := ⟨_, rfl⟩
 have hn := HN.out; have hB1 := HB1.out
 rw [← hg] at hn ⊢
 clear HN HB1 hg
 generalize w1.alloc _ = w2 at *
 have d0 : w2.cell? ⟨g, 0, none⟩ = some (.int .i64 kk) := hn.cell 0
 have d1 : w2.cell? ⟨g, 1, none⟩ = some (.int .i64 f) := hn.cell 1
 have d2 : w2.cell? ⟨g, 2, none⟩ = some (.int .u32 c) := hn.cell 2
 have d3 : w2.cell? ⟨g, 3, none⟩ = some (.int .u64 t) := hn.cell 3
 have d4 : w2.cell? ⟨g, 4, none⟩ = some (.bool kn) := hn.cell 4
 have HN := Lib.hid hn; have HB := Lib.hid hB1; clear hn hB1
 go_upto_region 4 with fail
 refine wp_region_ords (fun w' => Blk w' g 67 #[.int .i64 kk, .int .i64 f, .int .u32 c, .int .u64 t, .bool kn]) (fun _ n h => h.drewN n) (Ords.of [(0, 0), (0, 1), (0, 3), (0, 5), (2, 2), (2, 4), (2, 6), (0, 7), (2, 8), (0, 9)] .fin) (by kernel_rfl) rfl (by kernel_rfl) (by kernel_rfl) (fun c a d v w h => by cases d <;> exact h) HN.out ?_
 refine ords_heldK rfl (fun K K2 hK hK2 => ?_); go_simp; refine ⟨hK2 _ (fun w9 hS => ?_), hK _ ?_⟩; (clear hK hK2 K K2; have q0 : w9.cell? ⟨g, 0, none⟩ = some (.int .i64 kk) := hS.cell 0; have q1 : w9.cell? ⟨g, 1, none⟩ = some (.int .i64 f) := hS.cell 1; have q2 : w9.cell? ⟨g, 2, none⟩ = some (.int .u32 c) := hS.cell 2; have q3 : w9.cell? ⟨g, 3, none⟩ = some (.int .u64 t) := hS.cell 3; have q4 : w9.cell? ⟨g, 4, none⟩ = some (.bool kn) := hS.cell 4; go_simp); (clear hK hK2 K K2)
 iterate 3 (refine ords_pure rfl (fun K hK => ?_); go_simp; refine hK _ ?_; clear hK K)
 refine ords_loud rfl (fun n1 => ?_)
 go_wp2_with (go_at_call 39; refine (HOW.out _ (((HRK.out.below HB.out).more HB.out.size).drewN _)).mono ?_; rintro e3 w3 ⟨A3, c3, rfl, ho3, hb3⟩)
 have M1 := Lib.hid ((HN.out.drewN _).below hb3 (HN.out.drewN _).lt); have MB := Lib.hid (bcall (bdr HB.out _) hb3); have O3 := Lib.hid (ho3.mono (show w.heap.size ≤ _ from HB.out.size)); clear hb3 ho3
 refine ⟨M1.out, ?_⟩
 refine ords_loud rfl (fun n2 => ?_)
 go_wp2_with (go_at_call 39; refine (HOS.out _ (((HRS.out.below MB.out).more MB.out.size).drewN _)).mono ?_; rintro e4 w4 ⟨A4, c4, rfl, ho4, hb4⟩)
 have K1 := Lib.hid ((M1.out.drewN _).below hb4 (M1.out.drewN _).lt); have KB := Lib.hid (bcall (bdr MB.out _) hb4); have O4 := Lib.hid (ho4.mono (show w.heap.size ≤ _ from MB.out.size)); have P3 := Lib.hid ((O3.out.drewN _).below hb4 (Nat.le_refl _)); clear hb4 ho4
 refine ⟨K1.out, ?_⟩
 refine ords_loud rfl (fun n3 => ?_)
 go_wp2_with (go_at_call 39; refine (HOP.out _ (((HRP.out.below KB.out).more KB.out.size).drewN _)).mono ?_; rintro e5 w5 ⟨A5, c5, rfl, ho5, hb5⟩)
 have J1 := Lib.hid ((K1.out.drewN _).below hb5 (K1.out.drewN _).lt); have JB := Lib.hid (bcall (bdr KB.out _) hb5); have O5 := Lib.hid (ho5.mono (show w.heap.size ≤ _ from KB.out.size)); have P4 := Lib.hid ((O4.out.drewN _).below hb5 (Nat.le_refl _)); have Q3 := Lib.hid ((P3.out.drewN _).below hb5 (Nat.le_refl _)); clear hb5 ho5
 refine ⟨J1.out, ?_⟩
 refine ords_pure rfl (fun K hK => ?_); go_simp; refine hK _ ?_; clear hK K
 refine ords_loud rfl (fun n4 => ?_)
 go_wp2_with fail
 refine ⟨(J1.out.drewN _).alloc _, ?_⟩
 refine ords_pure rfl (fun K hK => ?_); go_simp; refine hK _ ?_; clear hK K
 refine ords_end (fun n5 => ?_)
 go_wp2_with fail
 have hZ := Lib.hid (Blk.new (w5.drewN n4) 71 ((((((((Tryz.zeroCells71.setIfInBounds 0 (Value.int IntKind.i64 kk)).setIfInBounds 1 (Value.int IntKind.i64 f)).setIfInBounds 2 (Value.int IntKind.u32 c)).setIfInBounds 3 (Value.int IntKind.u64 t)).setIfInBounds 4 (Value.bool kn)).setIfInBounds 5 (Value.slice A3 nk c3)).setIfInBounds 6 (Value.slice A4 s.n c4)).setIfInBounds 7 (Value.slice A5 p.n c5)))
 have hX := Lib.hid ((((((((XC.zero.put0 kk).put1 f).put2 c).put3 t).put4 kn).put5 (.slice A3 nk c3)).put6 (.slice A4 s.n c4)).put7 (.slice A5 p.n c5))
 have hW := Lib.hid (bal (bdr JB.out n4) (Obj.cells ((((((((Tryz.zeroCells71.setIfInBounds 0 (Value.int IntKind.i64 kk)).setIfInBounds 1 (Value.int IntKind.i64 f)).setIfInBounds 2 (Value.int IntKind.u32 c)).setIfInBounds 3 (Value.int IntKind.u64 t)).setIfInBounds 4 (Value.bool kn)).setIfInBounds 5 (Value.slice A3 nk c3)).setIfInBounds 6 (Value.slice A4 s.n c4)).setIfInBounds 7 (Value.slice A5 p.n c5)) 71))
 have R3 := Lib.hid ((Q3.out.drewN n4).alloc (Obj.cells ((((((((Tryz.zeroCells71.setIfInBounds 0 (Value.int IntKind.i64 kk)).setIfInBounds 1 (Value.int IntKind.i64 f)).setIfInBounds 2 (Value.int IntKind.u32 c)).setIfInBounds 3 (Value.int IntKind.u64 t)).setIfInBounds 4 (Value.bool kn)).setIfInBounds 5 (Value.slice A3 nk c3)).setIfInBounds 6 (Value.slice A4 s.n c4)).setIfInBounds 7 (Value.slice A5 p.n c5)) 71))
 have R4 := Lib.hid ((P4.out.drewN n4).alloc (Obj.cells ((((((((Tryz.zeroCells71.setIfInBounds 0 (Value.int IntKind.i64 kk)).setIfInBounds 1 (Value.int IntKind.i64 f)).setIfInBounds 2 (Value.int IntKind.u32 c)).setIfInBounds 3 (Value.int IntKind.u64 t)).setIfInBounds 4 (Value.bool kn)).setIfInBounds 5 (Value.slice A3 nk c3)).setIfInBounds 6 (Value.slice A4 s.n c4)).setIfInBounds 7 (Value.slice A5 p.n c5)) 71))
 have R5 := Lib.hid ((O5.out.drewN n4).alloc (Obj.cells ((((((((Tryz.zeroCells71.setIfInBounds 0 (Value.int IntKind.i64 kk)).setIfInBounds 1 (Value.int IntKind.i64 f)).setIfInBounds 2 (Value.int IntKind.u32 c)).setIfInBounds 3 (Value.int IntKind.u64 t)).setIfInBounds 4 (Value.bool kn)).setIfInBounds 5 (Value.slice A3 nk c3)).setIfInBounds 6 (Value.slice A4 s.n c4)).setIfInBounds 7 (Value.slice A5 p.n c5)) 71))
 obtain ⟨CS, hCS⟩ : ∃ CS, CS = ((((((((Tryz.zeroCells71.setIfInBounds 0 (Value.int IntKind.i64 kk)).setIfInBounds 1 (Value.int IntKind.i64 f)).setIfInBounds 2 (Value.int IntKind.u32 c)).setIfInBounds 3 (Value.int IntKind.u64 t)).setIfInBounds 4 (Value.bool kn)).setIfInBounds 5 (Value.slice A3 nk c3)).setIfInBounds 6 (Value.slice A4 s.n c4)).setIfInBounds 7 (Value.slice A5 p.n c5)) := ⟨_, rfl⟩
 rw [← hCS] at hZ hX hW R3 R4 R5 ⊢
 have hgs : w.heap.size ≤ w5.heap.size := JB.out.size
 have h3l := fun a ha => (Q3.out.block_lt a ha).2
 have h4l := fun a ha => (P4.out.block_lt a ha).2
 have h5l := fun a ha => (O5.out.block_lt a ha).2
 obtain ⟨G, hG⟩ : ∃ G, G = w5.heap.size := ⟨_, rfl⟩
 have hZ' : Blk ((w5.drewN n4).alloc (.cells CS 71)) w5.heap.size 71 CS := hZ.out
 have hsz : ((w5.drewN n4).alloc (.cells CS 71)).heap.size = w5.heap.size + 1 := by simp
 change ∀ a : Addr, _ → a.block < w5.heap.size at h3l h4l h5l
 rw [← hG] at hgs h3l h4l h5l hZ' hsz ⊢
 have HGS := Lib.hid hgs; have H3L := Lib.hid h3l; have H4L := Lib.hid h4l; have H5L := Lib.hid h5l; have HSZ := Lib.hid hsz
 clear hZ hCS hG hgs h3l h4l h5l hsz
 generalize (w5.drewN n4).alloc _ = w6 at *
 refine (xbegin_any G (bOf big) big f c t kn A3 nk c3 ⟨A4, s.n, c4⟩ ⟨A5, p.n, c5⟩ _ _ _ _ _ _ ls lp key CS (w6.drewN n5) (hZ'.drewN n5) (by rw [← HKK.out]; exact hX.out) (by rw [← HMO.out, HKK.out]; exact kOf_most big) ?_ ?_ HLS.out HLP.out (R4.out.drewN n5).reads (R5.out.drewN n5).reads HK.out (R3.out.drewN n5).reads).mono ?_
 ·have h := HCH.out ⟨A4, s.n, c4⟩ ⟨A5, p.n, c5⟩ rfl rfl
  unfold rootP at h
  rw [← HKK.out, HMO.out, ← HCX.out] at h
  rw [← HKK.out]
  exact h
 ·have h := HFI.out ⟨A4, s.n, c4⟩ ⟨A5, p.n, c5⟩
  unfold rootP at h
  rw [← HKK.out, HMO.out, ← HCX.out] at h
  exact h
 rintro e7 w7 ⟨rfl, cs', q, F, hb7, hx7, hn7, hf7, hbut7⟩
 have B7 := Lib.hid hb7; have X7 := Lib.hid hx7; have N7 := Lib.hid hn7; have F7 := Lib.hid hf7; have U7 := Lib.hid hbut7; clear hb7 hx7 hn7 hf7 hbut7
 go_wp2_with fail
 have a3 : ∀ a, A3 = some a → a.block ∉ G :: F := fun a ha h => by
  have h1 := H3L.out a ha
  rcases List.mem_cons.1 h with h | h
  ·omega
  ·have h2 := F7.out _ h; have h3 := HSZ.out; have h4 : w6.heap.size ≤ a.block := h2; omega
 have a4 : ∀ a, A4 = some a → a.block ∉ G :: F := fun a ha h => by
  have h1 := H4L.out a ha
  rcases List.mem_cons.1 h with h | h
  ·omega
  ·have h2 := F7.out _ h; have h3 := HSZ.out; have h4 : w6.heap.size ≤ a.block := h2; omega
 have a5 : ∀ a, A5 = some a → a.block ∉ G :: F := fun a ha h => by
  have h1 := H5L.out a ha
  rcases List.mem_cons.1 h with h | h
  ·omega
  ·have h2 := F7.out _ h; have h3 := HSZ.out; have h4 : w6.heap.size ≤ a.block := h2; omega
 have hlen : key.length = nk := HK.out
 refine bodyPost_ret (results_tmp2 rfl _ _ _) rfl ⟨G, cs', A3, c3, ⟨A4, s.n, c4⟩, ⟨A5, p.n, c5⟩, q, F, rfl, ⟨B7.out, ⟨List.replicate 64 0, List.length_replicate, ?_⟩, HLS.out, HLP.out,
  (R3.out.drewN n5).but U7.out (fun a ha h => a3 a ha (by rw [List.mem_singleton.1 h]; exact List.mem_cons_self)), (R4.out.drewN n5).but U7.out (fun a ha h => a4 a ha (by rw [List.mem_singleton.1 h]; exact List.mem_cons_self)), (R5.out.drewN n5).but U7.out (fun a ha h => a5 a ha (by rw [List.mem_singleton.1 h]; exact List.mem_cons_self)), a3, a4, a5, ?_, HGS.out,
  fun k hk => by have h2 : w6.heap.size ≤ k := F7.out k hk; have h3 := HSZ.out; have h4 := HGS.out; omega, fun h => by have h2 : w6.heap.size ≤ G := F7.out G h; have h3 := HSZ.out; omega⟩, hW.out.trans (U7.out.inN.toBelow hW.out.size (fun k hk => by rw [List.mem_singleton.1 hk]; exact HGS.out))⟩
 ·have h := X7.out
  rw [hlen]
  rw [HMO.out.symm, HCX.out, HTX.out, HKN.out, HKK.out] at h
  exact h
 ·have h := N7.out
  rw [hlen]
  unfold rootP
  rw [← HKK.out, HMO.out, ← HCX.out]
  exact h
end Go.Proofs.YtmapfcdffklopaaGreat

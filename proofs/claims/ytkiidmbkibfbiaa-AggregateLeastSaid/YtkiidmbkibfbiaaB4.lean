/-
  Part 4 of the texts that the proofs of this seat share: rules of a walk, contracts of functions, plain facts. Each piece says below what it proves.
  No conditions beyond those that each lemma states.
-/
import Derived.Test.YtkiidmbkibfbiaaB3
import Derived.Maps.RangeRun

/-
  Tables (layer 7): Differ and Same, of the program and of the reference.
  Conditions: the lists are not too long for a machine.
-/
namespace Go.Proofs.Ytkiidmbkibfbiaa
open Go.RowKit

theorem lookO_eq {L : List En} (a : Nat) (h : Tb L) : lookO (ofS L).1 a = lk L a := by
  rw [lookO, look_best h.allOk, lk_eq a h]
  cases bestL a L <;> rfl
def difV : Option Int → Value
  | none => .tuple #[.int .u32 0, .bool false]
  | some n => .tuple #[.int .u32 n, .bool true]
theorem difT_none {A B : List En} (h : ¬chk A = 0 ∨ ¬chk B = 0) : difT A B = none := by
  rw [difT, if_neg (fun h2 => h.elim (fun h => h h2.1) (fun h => h h2.2))]
theorem find_step {D : List Int} {k : Nat} {n : Int} (p : Int → Bool) (h : D[k]? = some n) : (D.drop k).find? p = if p n = true then some n else (D.drop (k + 1)).find? p := by
  obtain ⟨hk, e⟩ := List.getElem?_eq_some_iff.1 h
  rw [List.drop_eq_getElem_cons hk, List.find?_cons, e]
  cases p n <;> rfl
theorem asc_idx {D : List Int} (h : D.Pairwise (· < ·)) (h0 : ∀ x ∈ D, 0 ≤ x) : ∀ (i : Nat) (hi : i < D.length), (i : Int) ≤ D[i]
  | 0, hi => by have := h0 _ (List.getElem_mem hi); omega
  | i + 1, hi => by
    have h1 := asc_idx h h0 i (by omega)
    have h2 := List.pairwise_iff_getElem.1 h i (i + 1) (by omega) hi (by omega)
    omega
theorem asc_len {D : List Int} (h : D.Pairwise (· < ·)) (h0 : ∀ n ∈ D, 0 ≤ n ∧ n < 4294967296) : D.length ≤ 4294967296 := by
  rcases Nat.eq_zero_or_pos D.length with c | c
  · omega
  · have h1 := asc_idx h (fun x hx => (h0 x hx).1) (D.length - 1) (by omega)
    have h2 := (h0 _ (List.getElem_mem (show D.length - 1 < D.length by omega))).2
    omega
set_option maxHeartbeats 2000000 in
theorem differ_v (ao bo : Option Addr) (L M : List En) (c d : Nat) (w : World) (hL : Ens w ao L) (hLa : ∀ e ∈ L, e.p.a < 4294967296) (hn : L.length ≤ 1000000) (hM : Ens w bo M) (hMa : ∀ e ∈ M, e.p.a < 4294967296) (hn2 : M.length ≤ 1000000) :
    Calls Try.prog 15 #[.slice ao L.length c, .slice bo M.length d] w (Ret (difV (difT L M)) w) := by
  refine V_enter (vs := [_, _]) Try.func15 rfl Try.ntmps15 (Nat.le_of_ble_eq_true rfl) ?_
  repeat (first | refine Vx ?_ | (apply Ops_q; (case hon => exact Va); (case hd => rfl); (case hq => exact YlA)) | refine Vr ?_ | refine Vt ?_ | refine Vf ?_ | refine Vm ?_ | refine Ve ?_ | refine Vo ?_ | refine Vz ?_)
  (apply Ops_q; (case hon => (exact Va)); (case hd => rfl); (case hq => exact Yl_call rfl (fun w_ e_ => check_v ao L c w_ (hL.ext e_) hLa hn)))
  repeat (first | refine Vx ?_ | (apply Ops_q; (case hon => exact Va); (case hd => rfl); (case hq => exact YlA)) | refine Vr ?_ | refine Vt ?_ | refine Vf ?_ | refine Vm ?_ | refine Ve ?_ | refine Vo ?_ | refine Vz ?_)
  refine Ops_split rfl rfl (fun h1 => ?_) (fun h1 => ?_)
  · have h0 : ¬chk L = 0 := by simpa using h1
    repeat (first | refine Vx ?_ | (apply Ops_q; (case hon => exact Va); (case hd => rfl); (case hq => exact YlA)) | refine Vr ?_ | refine Vt ?_ | refine Vf ?_ | refine Vm ?_ | refine Ve ?_ | refine Vo ?_ | refine Vz ?_)
    refine ret2 (by first | exact .inl rfl | exact .inr rfl) rfl rfl rfl ?_
    exact Ret_mk (by rw [difT_none (.inl h0)]; rfl) (Ext.refl _)
  have hl0 : chk L = 0 := by simpa using h1
  clear h1
  repeat (first | refine Vx ?_ | (apply Ops_q; (case hon => exact Va); (case hd => rfl); (case hq => exact YlA)) | refine Vr ?_ | refine Vt ?_ | refine Vf ?_ | refine Vm ?_ | refine Ve ?_ | refine Vo ?_ | refine Vz ?_)
  (apply Ops_q; (case hon => (exact Va)); (case hd => rfl); (case hq => exact Yl_call rfl (fun w_ e_ => check_v bo M d w_ (hM.ext e_) hMa hn2)))
  repeat (first | refine Vx ?_ | (apply Ops_q; (case hon => exact Va); (case hd => rfl); (case hq => exact YlA)) | refine Vr ?_ | refine Vt ?_ | refine Vf ?_ | refine Vm ?_ | refine Ve ?_ | refine Vo ?_ | refine Vz ?_)
  refine V_cond rfl (fun h1 => ?_) (fun h1 => ?_)
  · have h0 : ¬chk M = 0 := by simpa using h1
    repeat (first | refine Vx ?_ | (apply Ops_q; (case hon => exact Va); (case hd => rfl); (case hq => exact YlA)) | refine Vr ?_ | refine Vt ?_ | refine Vf ?_ | refine Vm ?_ | refine Ve ?_ | refine Vo ?_ | refine Vz ?_)
    refine ret2 (by first | exact .inl rfl | exact .inr rfl) rfl rfl rfl ?_
    exact Ret_mk (by rw [difT_none (.inr h0)]; rfl) (Ext.refl _)
  have hm0 : chk M = 0 := by simpa using h1
  clear h1
  have hTL := (chk_iff.1 hl0).2
  have hTM := (chk_iff.1 hm0).2
  have hdT : difT L M = difO L M := by rw [difT, if_pos ⟨hl0, hm0⟩]
  rw [hdT]
  repeat (first | refine Vx ?_ | (apply Ops_q; (case hon => exact Va); (case hd => rfl); (case hq => exact YlA)) | refine Vr ?_ | refine Vt ?_ | refine Vf ?_ | refine Vm ?_ | refine Ve ?_ | refine Vo ?_ | refine Vz ?_)
  (refine Ops_callR (by exact Va) rfl rfl (fun w_ e_ => of_entries_v ao L c w_ (hL.ext e_) hLa hn) ?_; intro v w1 w0_ e0_ e1_ r_v; have e_w1 := e0_.trans e1_; have b_v := e0_.size; clear e0_ e1_)
  unfold OfR at r_v
  rw [if_pos hTL.allOk] at r_v
  obtain ⟨bx, Nx, rfl, hx⟩ := r_v
  clear b_v
  repeat (first | refine Vx ?_ | (apply Ops_q; (case hon => exact Va); (case hd => rfl); (case hq => exact YlA)) | refine Vr ?_ | refine Vt ?_ | refine Vf ?_ | refine Vm ?_ | refine Ve ?_ | refine Vo ?_ | refine Vz ?_)
  (refine Ops_callR (by exact Va) rfl rfl (fun w_ e_ => of_entries_v bo M d w_ (hM.ext (e_w1.trans e_)) hMa hn2) ?_; intro v w2 w0_ e0_ e1_ r_v; have e_w2 := e0_.trans e1_; have b_v := e0_.size; clear e0_ e1_)
  unfold OfR at r_v
  rw [if_pos hTM.allOk] at r_v
  obtain ⟨by_, Ny, rfl, hy⟩ := r_v
  clear b_v
  repeat (first | refine Vx ?_ | (apply Ops_q; (case hon => exact Va); (case hd => rfl); (case hq => exact YlA)) | refine Vr ?_ | refine Vt ?_ | refine Vf ?_ | refine Vm ?_ | refine Ve ?_ | refine Vo ?_ | refine Vz ?_)
  (refine Ops_lit (by exact Va) rfl rfl rfl ?_; intro w3 b3 n_b3; have k_b3 := n_b3.blk)
  have x3 := (e_w1.trans e_w2).trans n_b3.ext
  have hT : Tabs w3 ⟨b3, 0, none⟩ [⟨ao, c, L⟩, ⟨bo, d, M⟩] := ⟨fun k x hk => ⟨_, rfl, by
    rcases k with _ | _ | k
    · cases hk; exact k_b3.part 0 1
    · cases hk; exact k_b3.part 1 1
    · simp at hk⟩, fun t ht => by
    rcases List.mem_cons.1 ht with rfl | ht
    · exact hL.ext x3
    · rcases List.mem_cons.1 ht with rfl | ht
      · exact hM.ext x3
      · cases ht⟩
  have hx3 := hx.ext (e_w2.trans n_b3.ext)
  have hy3 := hy.ext n_b3.ext
  have hTn : ∀ t ∈ [(⟨ao, c, L⟩ : Tab), ⟨bo, d, M⟩], t.L.length ≤ 1000000 ∧ ∀ e ∈ t.L, e.p.a < 4294967296 := fun t ht => by
    rcases List.mem_cons.1 ht with rfl | ht
    · exact ⟨hn, hLa⟩
    · rcases List.mem_cons.1 ht with rfl | ht
      · exact ⟨hn2, hMa⟩
      · cases ht
  clear k_b3 n_b3 hx hy e_w1 e_w2
  repeat (first | refine Vx ?_ | (apply Ops_q; (case hon => exact Va); (case hd => rfl); (case hq => exact YlA)) | refine Vr ?_ | refine Vt ?_ | refine Vf ?_ | refine Vm ?_ | refine Ve ?_ | refine Vo ?_ | refine Vz ?_)
  (refine Ops_callR (by exact Va) rfl rfl (fun w_ e_ => bounds_v ⟨b3, 0, none⟩ [⟨ao, c, L⟩, ⟨bo, d, M⟩] 2 w_ (hT.ext e_) (Nat.le_refl 2) hTn) ?_; intro v w4 w0_ e0_ e1_ r_v; have e_w4 := e0_.trans e1_; have b_v := e0_.size; clear e0_ e1_)
  obtain ⟨g, cap, D, rfl, hg, hR, hDa, hDm⟩ := r_v
  have hDe : D = bndW (words L ++ words M) := bndW_eq hDa fun x => by rw [hDm]; simp [wordsT]
  have x4 := x3.trans e_w4
  replace hx3 := hx3.ext e_w4
  replace hy3 := hy3.ext e_w4
  clear hT hTn x3 e_w4 b_v hDm hg
  have hdO : difO L M = (D.drop 0).find? fun n => decide (lk L n.toNat ≠ lk M n.toNat) := by rw [difO, ← hDe]; rfl
  rw [hdO]
  have hrg : ∀ n ∈ D, 0 ≤ n ∧ n < 4294967296 := fun n hn => by
    rw [hDe] at hn
    exact bndW_range (fun x hx => (List.mem_append.1 hx).elim (words_range hLa) (words_range hMa)) hn
  have hDl : D.length ≤ 4294967296 := asc_len hDa hrg
  clear hdO hdT hDa
  generalize hp : (fun n : Int => decide (lk L n.toNat ≠ lk M n.toNat)) = p
  repeat (first | refine Vx ?_ | (apply Ops_q; (case hon => exact Va); (case hd => rfl); (case hq => exact YlA)) | refine Vr ?_ | refine Vt ?_ | refine Vf ?_ | refine Vm ?_ | refine Ve ?_ | refine Vo ?_ | refine Vz ?_)
  refine V_loop (fun k : Nat => [(35, .int .i64 k), (34, .int .i64 D.length), (33, .slice (some ⟨g, 0, none⟩) D.length cap), (6, .pointer (some ⟨bx, 0, none⟩)), (8, .pointer (some ⟨by_, 0, none⟩))])
    (fun k w' => Ext w4 w' ∧ k ≤ D.length ∧ (D.drop 0).find? p = (D.drop k).find? p) (fun k => D.length - k) 0 (by repeat (first | exact trivial | refine ⟨rfl, ?_⟩)) ⟨Ext.refl _, Nat.zero_le _, rfl⟩ ?_
  rintro k w5 ⟨x5, hk, hf⟩
  have x6 := x4.trans x5
  repeat (first | refine Vx ?_ | (apply Ops_q; (case hon => exact Va); (case hd => rfl); (case hq => exact YlA)) | refine Vr ?_ | refine Vt ?_ | refine Vf ?_ | refine Vm ?_ | refine Ve ?_ | refine Vo ?_ | refine Vz ?_)
  refine V_cond rfl (fun hg => ?_) (fun hg => ?_)
  · replace hg := of_decide_eq_true hg
    have hkl : k < D.length := by omega
    obtain ⟨n, hnk⟩ : ∃ n, D[k]? = some n := ⟨_, List.getElem?_eq_getElem hkl⟩
    have hcell := (hR.ext x5) k n hnk
    obtain ⟨n0, n1⟩ := hrg n (List.mem_of_getElem? hnk)
    rw [find_step p hnk] at hf
    obtain ⟨a, rfl⟩ : ∃ a : Nat, n = (a : Int) := ⟨n.toNat, by omega⟩
    have ha : a < 4294967296 := by omega
    have hin : InK .u32 (a : Int) := by simp only [InK]; omega
    clear n0 n1
    repeat (first | refine Vx ?_ | (apply Ops_q; (case hon => exact Va); (case hd => rfl); (case hq => exact YlA)) | refine Vr ?_ | refine Vt ?_ | refine Vf ?_ | refine Vm ?_ | refine Ve ?_ | refine Vo ?_ | refine Vz ?_)
    (apply Ops_q; (case hon => (exact Va)); (case hd => rfl); (case hq => exact Yl_indexS (j := k) rfl rfl (by omega)))
    repeat (first | refine Vx ?_ | (apply Ops_q; (case hon => exact Va); (case hd => rfl); (case hq => exact YlA)) | refine Vr ?_ | refine Vt ?_ | refine Vf ?_ | refine Vm ?_ | refine Ve ?_ | refine Vo ?_ | refine Vz ?_)
    (apply Ops_q; (case hon => (exact Va)); (case hd => rfl); (case hq => exact Yl_call rfl (fun w_ e_ => look_v a w_ ((hx3.ext x5).ext e_) ha)))
    repeat (first | refine Vx ?_ | (apply Ops_q; (case hon => exact Va); (case hd => rfl); (case hq => exact YlA)) | refine Vr ?_ | refine Vt ?_ | refine Vf ?_ | refine Vm ?_ | refine Ve ?_ | refine Vo ?_ | refine Vz ?_)
    (apply Ops_q; (case hon => (exact Va)); (case hd => rfl); (case hq => exact Yl_call rfl (fun w_ e_ => look_v a w_ ((hy3.ext x5).ext e_) ha)))
    rw [lookO_eq a hTL, lookO_eq a hTM]
    have hpa : p (a : Int) = decide (lk L a ≠ lk M a) := by rw [← hp]; rfl
    repeat (first | refine Vx ?_ | (apply Ops_q; (case hon => exact Va); (case hd => rfl); (case hq => exact YlA)) | refine Vr ?_ | refine Vt ?_ | refine Vf ?_ | refine Vm ?_ | refine Ve ?_ | refine Vo ?_ | refine Vz ?_)
    refine V_cond rfl (fun hc => ?_) (fun hc => ?_)
    · have hne : lk L a ≠ lk M a := by simpa using hc
      rw [if_pos (hpa.trans (decide_eq_true hne))] at hf
      repeat (first | refine Vx ?_ | (apply Ops_q; (case hon => exact Va); (case hd => rfl); (case hq => exact YlA)) | refine Vr ?_ | refine Vt ?_ | refine Vf ?_ | refine Vm ?_ | refine Ve ?_ | refine Vo ?_ | refine Vz ?_)
      refine ret2 (by first | exact .inl rfl | exact .inr rfl) rfl rfl rfl ?_
      exact Ret_mk (by rw [hf]; rfl) x6
    · have he : lk L a = lk M a := by simpa using hc
      rw [if_neg (by rw [hpa, decide_eq_false (fun h => h he)]; decide)] at hf
      repeat (first | refine Vx ?_ | (apply Ops_q; (case hon => exact Va); (case hd => rfl); (case hq => exact YlA)) | refine Vr ?_ | refine Vt ?_ | refine Vf ?_ | refine Vm ?_ | refine Ve ?_ | refine Vo ?_ | refine Vz ?_)
      exact ⟨k + 1, (by repeat (first | exact trivial | refine ⟨rfl, ?_⟩)), ⟨x5, hkl, hf⟩, by omega⟩
  · replace hg := of_decide_eq_false hg
    obtain rfl : k = D.length := by omega
    rw [List.drop_length] at hf
    repeat (first | refine Vx ?_ | (apply Ops_q; (case hon => exact Va); (case hd => rfl); (case hq => exact YlA)) | refine Vr ?_ | refine Vt ?_ | refine Vf ?_ | refine Vm ?_ | refine Ve ?_ | refine Vo ?_ | refine Vz ?_)
    refine ret2 (by first | exact .inl rfl | exact .inr rfl) rfl rfl rfl ?_
    exact Ret_mk (by rw [hf]; rfl) x6
set_option maxHeartbeats 2000000 in
theorem differR_v (ao bo : Option Addr) (L M : List En) (c d : Nat) (w : World) (hL : Ens w ao L) (hLa : ∀ e ∈ L, e.p.a < 4294967296) (hn : L.length ≤ 1000000) (hz : ao = none → c = 0) (hM : Ens w bo M) (hMa : ∀ e ∈ M, e.p.a < 4294967296) (hn2 : M.length ≤ 1000000) (hz2 : bo = none → d = 0) :
    Calls Try.prog 16 #[.slice ao L.length c, .slice bo M.length d] w (Ret (difV (difT L M)) w) := by
  have one : ∀ (K : List En), (∀ u ∈ K.map En.cells, u.length = 3) ∧ ∀ u ∈ K.map En.cells, u.all (fun u => u.oneCell') = true := fun K => ⟨fun u hu => by
    obtain ⟨x, _, rfl⟩ := List.mem_map.1 hu
    rfl, fun u hu => by
    obtain ⟨x, _, rfl⟩ := List.mem_map.1 hu
    rfl⟩
  refine V_enter (vs := [_, _]) Try.func16 rfl Try.ntmps16 (Nat.le_of_ble_eq_true rfl) ?_
  repeat (first | refine Vx ?_ | (apply Ops_q; (case hon => exact Va); (case hd => rfl); (case hq => exact YlA)) | refine Vr ?_ | refine Vt ?_ | refine Vf ?_ | refine Vm ?_ | refine Ve ?_ | refine Vo ?_ | refine Vz ?_)
  (apply Ops_q; (case hon => (exact Va)); (case hd => rfl); (case hq => exact Yl_call rfl (fun w_ e_ => checkR_v ao L c w_ (hL.ext e_) hLa hn)))
  repeat (first | refine Vx ?_ | (apply Ops_q; (case hon => exact Va); (case hd => rfl); (case hq => exact YlA)) | refine Vr ?_ | refine Vt ?_ | refine Vf ?_ | refine Vm ?_ | refine Ve ?_ | refine Vo ?_ | refine Vz ?_)
  refine Ops_split rfl rfl (fun h1 => ?_) (fun h1 => ?_)
  · have h0 : ¬chk L = 0 := by simpa using h1
    repeat (first | refine Vx ?_ | (apply Ops_q; (case hon => exact Va); (case hd => rfl); (case hq => exact YlA)) | refine Vr ?_ | refine Vt ?_ | refine Vf ?_ | refine Vm ?_ | refine Ve ?_ | refine Vo ?_ | refine Vz ?_)
    refine ret2 (by first | exact .inl rfl | exact .inr rfl) rfl rfl rfl ?_
    exact Ret_mk (by rw [difT_none (.inl h0)]; rfl) (Ext.refl _)
  have hl0 : chk L = 0 := by simpa using h1
  clear h1
  repeat (first | refine Vx ?_ | (apply Ops_q; (case hon => exact Va); (case hd => rfl); (case hq => exact YlA)) | refine Vr ?_ | refine Vt ?_ | refine Vf ?_ | refine Vm ?_ | refine Ve ?_ | refine Vo ?_ | refine Vz ?_)
  (apply Ops_q; (case hon => (exact Va)); (case hd => rfl); (case hq => exact Yl_call rfl (fun w_ e_ => checkR_v bo M d w_ (hM.ext e_) hMa hn2)))
  repeat (first | refine Vx ?_ | (apply Ops_q; (case hon => exact Va); (case hd => rfl); (case hq => exact YlA)) | refine Vr ?_ | refine Vt ?_ | refine Vf ?_ | refine Vm ?_ | refine Ve ?_ | refine Vo ?_ | refine Vz ?_)
  refine V_cond rfl (fun h1 => ?_) (fun h1 => ?_)
  · have h0 : ¬chk M = 0 := by simpa using h1
    repeat (first | refine Vx ?_ | (apply Ops_q; (case hon => exact Va); (case hd => rfl); (case hq => exact YlA)) | refine Vr ?_ | refine Vt ?_ | refine Vf ?_ | refine Vm ?_ | refine Ve ?_ | refine Vo ?_ | refine Vz ?_)
    refine ret2 (by first | exact .inl rfl | exact .inr rfl) rfl rfl rfl ?_
    exact Ret_mk (by rw [difT_none (.inr h0)]; rfl) (Ext.refl _)
  have hm0 : chk M = 0 := by simpa using h1
  clear h1
  have hTL := (chk_iff.1 hl0).2
  have hTM := (chk_iff.1 hm0).2
  have hdT : difT L M = difO L M := by rw [difT, if_pos ⟨hl0, hm0⟩]
  rw [hdT]
  repeat (first | refine Vx ?_ | (apply Ops_q; (case hon => exact Va); (case hd => rfl); (case hq => exact YlA)) | refine Vr ?_ | refine Vt ?_ | refine Vf ?_ | refine Vm ?_ | refine Ve ?_ | refine Vo ?_ | refine Vz ?_)
  have o0 : Own w w.heap.size 40 3 (.slice none 0 0) [] := Own.nil
  refine Ops_appendA (M := L.map En.cells) (by exact Va) rfl rfl rfl rfl (List.length_map ..).symm o0 hL hz (one L).1 (one L).2 (by rw [List.length_map, List.length_nil]; omega) rfl (Nat.le_refl _) ?_
  intro v1 w1 o1 g1 d1
  have x1 : Ext w w1 := Mod.ext_of (Ext.refl w) ((Mod.of_ext (S := fun _ => False) (Ext.refl w)).grow g1 (fun b hb => by cases hb)) (fun c hc => hc.elim)
  rw [List.nil_append] at o1
  repeat (first | refine Vx ?_ | (apply Ops_q; (case hon => exact Va); (case hd => rfl); (case hq => exact YlA)) | refine Vr ?_ | refine Vt ?_ | refine Vf ?_ | refine Vm ?_ | refine Ve ?_ | refine Vo ?_ | refine Vz ?_)
  refine Ops_appendA (M := M.map En.cells) (by exact Va) rfl rfl rfl rfl (List.length_map ..).symm o1 (hM.ext x1) hz2 (one M).1 (one M).2 (by rw [List.length_map, List.length_map]; omega) rfl x1.size ?_
  intro v2 w2 o2 g2 d2
  have x2 : Ext w w2 := Mod.ext_of x1 ((Mod.of_ext (S := fun c => v1.ownBlock = some c) (Ext.refl w1)).grow g2 (fun b hb => .inl hb)) (fun c hc => o1.ge hc)
  rw [← List.map_append] at o2
  obtain ⟨ao2, c2, rfl, hA2⟩ := o2.slice
  rw [List.length_map]
  have hE2 : Ens w2 ao2 (L ++ M) := hA2
  have hEa : ∀ e ∈ L ++ M, e.p.a < 4294967296 := fun e he => (List.mem_append.1 he).elim (hLa e) (hMa e)
  have hEv : ∀ e ∈ L ++ M, e.p.valid = true := fun e he => (List.mem_append.1 he).elim (fun h => (hTL.ok e h).1) (fun h => (hTM.ok e h).1)
  have hEn : (L ++ M).length ≤ 2000000 := by rw [List.length_append]; omega
  have hw : words (L ++ M) = words L ++ words M := by unfold words; rw [List.flatMap_append]
  clear g1 g2 d1 d2 o1 o2 hA2 x1 o0 one
  repeat (first | refine Vx ?_ | (apply Ops_q; (case hon => exact Va); (case hd => rfl); (case hq => exact YlA)) | refine Vr ?_ | refine Vt ?_ | refine Vf ?_ | refine Vm ?_ | refine Ve ?_ | refine Vo ?_ | refine Vz ?_)
  (refine Ops_callR (by exact Va) rfl rfl (fun w_ e_ => boundsR_v ao2 (L ++ M) c2 w_ (hE2.ext e_) hEa hEv hEn) ?_; intro v w4 w0_ e0_ e1_ r_v; have e_w4 := e0_.trans e1_; have b_v := e0_.size; clear e0_ e1_)
  obtain ⟨D, hOD, hDne, hDa, hDl0, hDm⟩ := r_v
  obtain ⟨ag, cap, rfl, hAr⟩ := hOD.slice
  rw [List.length_map]
  have hDe : D = bndW (words L ++ words M) := bndW_eq hDa fun x => by rw [hDm, hw]
  have x4 := x2.trans e_w4
  clear hE2 hEa hEv hEn hw x2 e_w4 b_v hDm hDne hDl0 hOD
  have hdO : difO L M = (D.drop 0).find? fun n => decide (lk L n.toNat ≠ lk M n.toNat) := by rw [difO, ← hDe]; rfl
  rw [hdO]
  have hrg : ∀ n ∈ D, 0 ≤ n ∧ n < 4294967296 := fun n hn => by
    rw [hDe] at hn
    exact bndW_range (fun x hx => (List.mem_append.1 hx).elim (words_range hLa) (words_range hMa)) hn
  have hDl : D.length ≤ 4294967296 := asc_len hDa hrg
  clear hdO hdT hDa
  generalize hp : (fun n : Int => decide (lk L n.toNat ≠ lk M n.toNat)) = p
  repeat (first | refine Vx ?_ | (apply Ops_q; (case hon => exact Va); (case hd => rfl); (case hq => exact YlA)) | refine Vr ?_ | refine Vt ?_ | refine Vf ?_ | refine Vm ?_ | refine Ve ?_ | refine Vo ?_ | refine Vz ?_)
  refine V_loop (fun k : Nat => [(26, .int .i64 k), (25, .int .i64 D.length), (24, .slice ag D.length cap), (0, .slice ao L.length c), (1, .slice bo M.length d)])
    (fun k w' => Ext w4 w' ∧ k ≤ D.length ∧ (D.drop 0).find? p = (D.drop k).find? p) (fun k => D.length - k) 0 (by repeat (first | exact trivial | refine ⟨rfl, ?_⟩)) ⟨Ext.refl _, Nat.zero_le _, rfl⟩ ?_
  rintro k w5 ⟨x5, hk, hf⟩
  have x6 := x4.trans x5
  repeat (first | refine Vx ?_ | (apply Ops_q; (case hon => exact Va); (case hd => rfl); (case hq => exact YlA)) | refine Vr ?_ | refine Vt ?_ | refine Vf ?_ | refine Vm ?_ | refine Ve ?_ | refine Vo ?_ | refine Vz ?_)
  refine V_cond rfl (fun hg => ?_) (fun hg => ?_)
  · replace hg := of_decide_eq_true hg
    have hkl : k < D.length := by omega
    obtain ⟨n, hnk⟩ : ∃ n, D[k]? = some n := ⟨_, List.getElem?_eq_getElem hkl⟩
    obtain ⟨ad, rfl, hc0⟩ := (hAr.ext x5) k (uc n) (by rw [List.getElem?_map, hnk]; rfl)
    obtain ⟨n0, n1⟩ := hrg n (List.mem_of_getElem? hnk)
    rw [find_step p hnk] at hf
    obtain ⟨a, rfl⟩ : ∃ a : Nat, n = (a : Int) := ⟨n.toNat, by omega⟩
    have ha : a < 4294967296 := by omega
    have hin : InK .u32 (a : Int) := by simp only [InK]; omega
    have hcell : w5.cell? (ad.add (k * 1)) = some (.int .u64 (a : Int)) := by
      have := hc0 0 _ rfl
      rw [add_add, Nat.add_zero] at this; exact this
    clear n0 n1
    repeat (first | refine Vx ?_ | (apply Ops_q; (case hon => exact Va); (case hd => rfl); (case hq => exact YlA)) | refine Vr ?_ | refine Vt ?_ | refine Vf ?_ | refine Vm ?_ | refine Ve ?_ | refine Vo ?_ | refine Vz ?_)
    (apply Ops_q; (case hon => (exact Va)); (case hd => rfl); (case hq => exact Yl_indexS (j := k) rfl rfl (by omega)))
    repeat (first | refine Vx ?_ | (apply Ops_q; (case hon => exact Va); (case hd => rfl); (case hq => exact YlA)) | refine Vr ?_ | refine Vt ?_ | refine Vf ?_ | refine Vm ?_ | refine Ve ?_ | refine Vo ?_ | refine Vz ?_)
    (apply Ops_q; (case hon => (exact Va)); (case hd => rfl); (case hq => exact Yl_call rfl (fun w_ e_ => lookIn_v ao L c a w_ ((hL.ext x6).ext e_) hLa hn ha)))
    repeat (first | refine Vx ?_ | (apply Ops_q; (case hon => exact Va); (case hd => rfl); (case hq => exact YlA)) | refine Vr ?_ | refine Vt ?_ | refine Vf ?_ | refine Vm ?_ | refine Ve ?_ | refine Vo ?_ | refine Vz ?_)
    (apply Ops_q; (case hon => (exact Va)); (case hd => rfl); (case hq => exact Yl_call rfl (fun w_ e_ => lookIn_v bo M d a w_ ((hM.ext x6).ext e_) hMa hn2 ha)))
    have hpa : p (a : Int) = decide (lk L a ≠ lk M a) := by rw [← hp]; rfl
    repeat (first | refine Vx ?_ | (apply Ops_q; (case hon => exact Va); (case hd => rfl); (case hq => exact YlA)) | refine Vr ?_ | refine Vt ?_ | refine Vf ?_ | refine Vm ?_ | refine Ve ?_ | refine Vo ?_ | refine Vz ?_)
    refine V_cond rfl (fun hc => ?_) (fun hc => ?_)
    · have hne : lk L a ≠ lk M a := by simpa using hc
      rw [if_pos (hpa.trans (decide_eq_true hne))] at hf
      repeat (first | refine Vx ?_ | (apply Ops_q; (case hon => exact Va); (case hd => rfl); (case hq => exact YlA)) | refine Vr ?_ | refine Vt ?_ | refine Vf ?_ | refine Vm ?_ | refine Ve ?_ | refine Vo ?_ | refine Vz ?_)
      refine ret2 (by first | exact .inl rfl | exact .inr rfl) rfl rfl rfl ?_
      exact Ret_mk (by rw [hf]; rfl) x6
    · have he : lk L a = lk M a := by simpa using hc
      rw [if_neg (by rw [hpa, decide_eq_false (fun h => h he)]; decide)] at hf
      repeat (first | refine Vx ?_ | (apply Ops_q; (case hon => exact Va); (case hd => rfl); (case hq => exact YlA)) | refine Vr ?_ | refine Vt ?_ | refine Vf ?_ | refine Vm ?_ | refine Ve ?_ | refine Vo ?_ | refine Vz ?_)
      exact ⟨k + 1, (by repeat (first | exact trivial | refine ⟨rfl, ?_⟩)), ⟨x5, hkl, hf⟩, by omega⟩
  · replace hg := of_decide_eq_false hg
    obtain rfl : k = D.length := by omega
    rw [List.drop_length] at hf
    repeat (first | refine Vx ?_ | (apply Ops_q; (case hon => exact Va); (case hd => rfl); (case hq => exact YlA)) | refine Vr ?_ | refine Vt ?_ | refine Vf ?_ | refine Vm ?_ | refine Ve ?_ | refine Vo ?_ | refine Vz ?_)
    refine ret2 (by first | exact .inl rfl | exact .inr rfl) rfl rfl rfl ?_
    exact Ret_mk (by rw [hf]; rfl) x6
/-- What Same returns. -/
def samT (A B : List En) : Bool := decide (chk A = 0 ∧ chk B = 0 ∧ difO A B = none)
theorem dif_cases (o : Option Int) : (∃ z b, difV o = .tuple #[.int .u32 z, .bool b] ∧ b = o.isSome) := by
  cases o with
  | none => exact ⟨_, _, rfl, rfl⟩
  | some n => exact ⟨_, _, rfl, rfl⟩
theorem samT_eq (A B : List En) : samT A B = if chk A = 0 then if chk B = 0 then !(difT A B).isSome else false else false := by
  rw [samT, difT]
  by_cases h1 : chk A = 0
  · by_cases h2 : chk B = 0
    · rw [if_pos h1, if_pos h2, if_pos (show chk A = 0 ∧ chk B = 0 from ⟨h1, h2⟩)]
      cases difO A B <;> simp [h1, h2]
    · rw [if_pos h1, if_neg h2, decide_eq_false (fun h => h2 h.2.1)]
  · rw [if_neg h1, decide_eq_false (fun h => h1 h.1)]
theorem same_v (ao bo : Option Addr) (L M : List En) (c d : Nat) (w : World) (hL : Ens w ao L) (hLa : ∀ e ∈ L, e.p.a < 4294967296) (hn : L.length ≤ 1000000) (hM : Ens w bo M) (hMa : ∀ e ∈ M, e.p.a < 4294967296) (hn2 : M.length ≤ 1000000) :
    Calls Try.prog 17 #[.slice ao L.length c, .slice bo M.length d] w (Ret (.bool (samT L M)) w) := by
  refine V_enter (vs := [_, _]) Try.func17 rfl Try.ntmps17 (Nat.le_of_ble_eq_true rfl) ?_
  obtain ⟨z, b, e1, e2⟩ := dif_cases (difT L M)
  have hsm := samT_eq L M
  rw [← e2] at hsm
  repeat (first | refine Vx ?_ | (apply Ops_q; (case hon => exact Va); (case hd => rfl); (case hq => exact YlA)) | refine Vr ?_ | refine Vt ?_ | refine Vf ?_ | refine Vm ?_ | refine Ve ?_ | refine Vo ?_ | refine Vz ?_)
  have hdf := fun w_ h => differ_v ao bo L M c d w_ (hL.ext h) hLa hn (hM.ext h) hMa hn2
  rw [e1] at hdf
  (apply Ops_q; (case hon => (exact Va)); (case hd => rfl); (case hq => exact Yl_call rfl (fun w_ e_ => hdf w_ e_)))
  repeat (first | refine Vx ?_ | (apply Ops_q; (case hon => exact Va); (case hd => rfl); (case hq => exact YlA)) | refine Vr ?_ | refine Vt ?_ | refine Vf ?_ | refine Vm ?_ | refine Ve ?_ | refine Vo ?_ | refine Vz ?_)
  (apply Ops_q; (case hon => (exact Va)); (case hd => rfl); (case hq => exact Yl_call rfl (fun w_ e_ => check_v ao L c w_ (hL.ext e_) hLa hn)))
  repeat (first | refine Vx ?_ | (apply Ops_q; (case hon => exact Va); (case hd => rfl); (case hq => exact YlA)) | refine Vr ?_ | refine Vt ?_ | refine Vf ?_ | refine Vm ?_ | refine Ve ?_ | refine Vo ?_ | refine Vz ?_)
  refine Ops_split rfl rfl (fun h1 => ?_) (fun h1 => ?_)
  · have h0 : chk L = 0 := by simpa using h1
    rw [if_pos h0] at hsm
    repeat (first | refine Vx ?_ | (apply Ops_q; (case hon => exact Va); (case hd => rfl); (case hq => exact YlA)) | refine Vr ?_ | refine Vt ?_ | refine Vf ?_ | refine Vm ?_ | refine Ve ?_ | refine Vo ?_ | refine Vz ?_)
    (apply Ops_q; (case hon => (exact Va)); (case hd => rfl); (case hq => exact Yl_call rfl (fun w_ e_ => check_v bo M d w_ (hM.ext e_) hMa hn2)))
    repeat (first | refine Vx ?_ | (apply Ops_q; (case hon => exact Va); (case hd => rfl); (case hq => exact YlA)) | refine Vr ?_ | refine Vt ?_ | refine Vf ?_ | refine Vm ?_ | refine Ve ?_ | refine Vo ?_ | refine Vz ?_)
    refine Ops_split rfl rfl (fun h2 => ?_) (fun h2 => ?_)
    · have h3 : chk M = 0 := by simpa using h2
      rw [if_pos h3] at hsm
      repeat (first | refine Vx ?_ | (apply Ops_q; (case hon => exact Va); (case hd => rfl); (case hq => exact YlA)) | refine Vr ?_ | refine Vt ?_ | refine Vf ?_ | refine Vm ?_ | refine Ve ?_ | refine Vo ?_ | refine Vz ?_)
      refine ret1 (by first | exact .inl rfl | exact .inr rfl) rfl rfl ?_
      exact Ret_mk (by rw [hsm]) (Ext.refl _)
    · have h3 : ¬chk M = 0 := by simpa using h2
      rw [if_neg h3] at hsm
      repeat (first | refine Vx ?_ | (apply Ops_q; (case hon => exact Va); (case hd => rfl); (case hq => exact YlA)) | refine Vr ?_ | refine Vt ?_ | refine Vf ?_ | refine Vm ?_ | refine Ve ?_ | refine Vo ?_ | refine Vz ?_)
      refine ret1 (by first | exact .inl rfl | exact .inr rfl) rfl rfl ?_
      exact Ret_mk (by rw [hsm]) (Ext.refl _)
  · have h0 : ¬chk L = 0 := by simpa using h1
    rw [if_neg h0] at hsm
    repeat (first | refine Vx ?_ | (apply Ops_q; (case hon => exact Va); (case hd => rfl); (case hq => exact YlA)) | refine Vr ?_ | refine Vt ?_ | refine Vf ?_ | refine Vm ?_ | refine Ve ?_ | refine Vo ?_ | refine Vz ?_)
    refine ret1 (by first | exact .inl rfl | exact .inr rfl) rfl rfl ?_
    exact Ret_mk (by rw [hsm]) (Ext.refl _)
theorem sameR_v (ao bo : Option Addr) (L M : List En) (c d : Nat) (w : World) (hL : Ens w ao L) (hLa : ∀ e ∈ L, e.p.a < 4294967296) (hn : L.length ≤ 1000000) (hz : ao = none → c = 0) (hM : Ens w bo M) (hMa : ∀ e ∈ M, e.p.a < 4294967296) (hn2 : M.length ≤ 1000000) (hz2 : bo = none → d = 0) :
    Calls Try.prog 18 #[.slice ao L.length c, .slice bo M.length d] w (Ret (.bool (samT L M)) w) := by
  refine V_enter (vs := [_, _]) Try.func18 rfl Try.ntmps18 (Nat.le_of_ble_eq_true rfl) ?_
  obtain ⟨z, b, e1, e2⟩ := dif_cases (difT L M)
  have hsm := samT_eq L M
  rw [← e2] at hsm
  repeat (first | refine Vx ?_ | (apply Ops_q; (case hon => exact Va); (case hd => rfl); (case hq => exact YlA)) | refine Vr ?_ | refine Vt ?_ | refine Vf ?_ | refine Vm ?_ | refine Ve ?_ | refine Vo ?_ | refine Vz ?_)
  have hdf := fun w_ h => differR_v ao bo L M c d w_ (hL.ext h) hLa hn hz (hM.ext h) hMa hn2 hz2
  rw [e1] at hdf
  (apply Ops_q; (case hon => (exact Va)); (case hd => rfl); (case hq => exact Yl_call rfl (fun w_ e_ => hdf w_ e_)))
  repeat (first | refine Vx ?_ | (apply Ops_q; (case hon => exact Va); (case hd => rfl); (case hq => exact YlA)) | refine Vr ?_ | refine Vt ?_ | refine Vf ?_ | refine Vm ?_ | refine Ve ?_ | refine Vo ?_ | refine Vz ?_)
  (apply Ops_q; (case hon => (exact Va)); (case hd => rfl); (case hq => exact Yl_call rfl (fun w_ e_ => checkR_v ao L c w_ (hL.ext e_) hLa hn)))
  repeat (first | refine Vx ?_ | (apply Ops_q; (case hon => exact Va); (case hd => rfl); (case hq => exact YlA)) | refine Vr ?_ | refine Vt ?_ | refine Vf ?_ | refine Vm ?_ | refine Ve ?_ | refine Vo ?_ | refine Vz ?_)
  refine Ops_split rfl rfl (fun h1 => ?_) (fun h1 => ?_)
  · have h0 : chk L = 0 := by simpa using h1
    rw [if_pos h0] at hsm
    repeat (first | refine Vx ?_ | (apply Ops_q; (case hon => exact Va); (case hd => rfl); (case hq => exact YlA)) | refine Vr ?_ | refine Vt ?_ | refine Vf ?_ | refine Vm ?_ | refine Ve ?_ | refine Vo ?_ | refine Vz ?_)
    (apply Ops_q; (case hon => (exact Va)); (case hd => rfl); (case hq => exact Yl_call rfl (fun w_ e_ => checkR_v bo M d w_ (hM.ext e_) hMa hn2)))
    repeat (first | refine Vx ?_ | (apply Ops_q; (case hon => exact Va); (case hd => rfl); (case hq => exact YlA)) | refine Vr ?_ | refine Vt ?_ | refine Vf ?_ | refine Vm ?_ | refine Ve ?_ | refine Vo ?_ | refine Vz ?_)
    refine Ops_split rfl rfl (fun h2 => ?_) (fun h2 => ?_)
    · have h3 : chk M = 0 := by simpa using h2
      rw [if_pos h3] at hsm
      repeat (first | refine Vx ?_ | (apply Ops_q; (case hon => exact Va); (case hd => rfl); (case hq => exact YlA)) | refine Vr ?_ | refine Vt ?_ | refine Vf ?_ | refine Vm ?_ | refine Ve ?_ | refine Vo ?_ | refine Vz ?_)
      refine ret1 (by first | exact .inl rfl | exact .inr rfl) rfl rfl ?_
      exact Ret_mk (by rw [hsm]) (Ext.refl _)
    · have h3 : ¬chk M = 0 := by simpa using h2
      rw [if_neg h3] at hsm
      repeat (first | refine Vx ?_ | (apply Ops_q; (case hon => exact Va); (case hd => rfl); (case hq => exact YlA)) | refine Vr ?_ | refine Vt ?_ | refine Vf ?_ | refine Vm ?_ | refine Ve ?_ | refine Vo ?_ | refine Vz ?_)
      refine ret1 (by first | exact .inl rfl | exact .inr rfl) rfl rfl ?_
      exact Ret_mk (by rw [hsm]) (Ext.refl _)
  · have h0 : ¬chk L = 0 := by simpa using h1
    rw [if_neg h0] at hsm
    repeat (first | refine Vx ?_ | (apply Ops_q; (case hon => exact Va); (case hd => rfl); (case hq => exact YlA)) | refine Vr ?_ | refine Vt ?_ | refine Vf ?_ | refine Vm ?_ | refine Ve ?_ | refine Vo ?_ | refine Vz ?_)
    refine ret1 (by first | exact .inl rfl | exact .inr rfl) rfl rfl ?_
    exact Ret_mk (by rw [hsm]) (Ext.refl _)
end Go.Proofs.Ytkiidmbkibfbiaa

/-
  Tables (layer 7), in plain lists: the tree of Minimal, what it chooses, and that no table with the same lookups is shorter.
  Conditions: addresses are below 2^32.
-/
namespace Go.Proofs.Ytkiidmbkibfbiaa
open Go.RowKit

/-! ### Lookups within a prefix -/
/-- The lookup in a list, v being what holds without it. -/
def lkD (L : List En) (v : Int) (a : Nat) : Int := (L.foldl (lkS a) (v, -1)).1
theorem lkD_lk (L : List En) (a : Nat) : lkD L (-1) a = lk L a := rfl
theorem has_top {p : Pf} {a k : Nat} (h : p.has a = true) (hk : (k : Int) ≤ p.n) : top a k = top p.a k := by
  obtain ⟨v1, v2, v3⟩ := Pf.valid_iff.1 (has_valid h)
  rw [Pf.has, Bool.and_eq_true, decide_eq_true_eq] at h
  rw [← h.2, top_top a (by omega) (by omega)]
theorem fold_skip {a : Nat} : ∀ (l : List En) (s : Int × Int), (∀ e ∈ l, e.p.has a = false) → l.foldl (lkS a) s = s
  | [], _, _ => rfl
  | e :: l, s, h => by
    rw [List.foldl_cons, lkS, h e (List.mem_cons_self ..), Bool.and_false]
    exact fold_skip l s fun x hx => h x (List.mem_cons_of_mem _ hx)
theorem fold_filter {a : Nat} (q : En → Bool) : ∀ (l : List En) (s : Int × Int), (∀ e ∈ l, q e = false → e.p.has a = false) → l.foldl (lkS a) s = (l.filter q).foldl (lkS a) s
  | [], _, _ => rfl
  | e :: l, s, h => by
    have ih := fun s => fold_filter q l s fun x hx => h x (List.mem_cons_of_mem _ hx)
    cases hq : q e with
    | true => rw [List.filter_cons_of_pos hq, List.foldl_cons, List.foldl_cons, ih]
    | false => rw [List.filter_cons_of_neg (by rw [hq]; decide), List.foldl_cons, lkS, h e (List.mem_cons_self ..) hq, Bool.and_false]; exact ih s
/-- From where the search starts does not matter, if all entries are longer. -/
theorem fold_start {a : Nat} (v n m : Int) : ∀ (l : List En), (∀ e ∈ l, n < e.p.n ∧ m < e.p.n) → (l.foldl (lkS a) (v, n)).1 = (l.foldl (lkS a) (v, m)).1
  | [], _ => rfl
  | e :: l, h => by
    obtain ⟨h1, h2⟩ := h e (List.mem_cons_self ..)
    rw [List.foldl_cons, List.foldl_cons, lkS, lkS, decide_eq_true h1, decide_eq_true h2]
    cases hh : e.p.has a with
    | true => rfl
    | false => exact fold_start v n m l fun x hx => h x (List.mem_cons_of_mem _ hx)

/-! ### A list within a prefix -/
/-- Entries in order, all within the prefix x/k. -/
structure Wi (x k : Nat) (l : List En) : Prop where
  ok : ∀ e ∈ l, e.p.valid = true ∧ top e.p.a k = x ∧ (k : Int) ≤ e.p.n
  srt : Srt l
def popL (x k : Nat) : List En → List En
  | [] => []
  | e :: r => if e.p = ⟨x, k⟩ then r else e :: r
def popV (x k : Nat) (v : Int) : List En → Int
  | [] => v
  | e :: _ => if e.p = ⟨x, k⟩ then e.v else v
theorem Wi.longer {x k : Nat} {e : En} (hv : e.p.valid = true) (ht : top e.p.a k = x) (hk : (k : Int) ≤ e.p.n) (hne : e.p ≠ ⟨x, k⟩) : ((k + 1 : Nat) : Int) ≤ e.p.n := by
  obtain ⟨v1, v2, v3⟩ := Pf.valid_iff.1 hv
  rcases Int.lt_or_eq_of_le hk with h | h
  · omega
  · exfalso
    refine hne (pf_eq ?_ h.symm)
    have : e.p.n.toNat = k := by omega
    rw [this] at v3
    rw [← v3, ht]
theorem pop_mem {x k : Nat} {l : List En} (h : Wi x k l) : ∀ e ∈ popL x k l, e ∈ l ∧ ((k + 1 : Nat) : Int) ≤ e.p.n := by
  intro e he
  cases l with
  | nil => cases he
  | cons d r =>
    obtain ⟨h1, h2⟩ := List.pairwise_cons.1 h.srt
    rw [popL] at he
    split at he
    · rename_i hd
      have hm : e ∈ d :: r := List.mem_cons_of_mem _ he
      obtain ⟨o1, o2, o3⟩ := h.ok e hm
      exact ⟨hm, Wi.longer o1 o2 o3 fun q => by have := h1 e he; rw [hd, q] at this; exact pLt_irrefl _ this⟩
    · rename_i hd
      obtain ⟨o1, o2, o3⟩ := h.ok e he
      refine ⟨he, Wi.longer o1 o2 o3 fun q => ?_⟩
      rcases List.mem_cons.1 he with rfl | he2
      · exact hd q
      · have h3 := h1 e he2
        obtain ⟨d1, d2, d3⟩ := h.ok d (List.mem_cons_self ..)
        rw [q] at h3
        rcases h3 with h3 | ⟨h3, h4⟩
        · have := top_le d.p.a k
          rw [d2] at this
          simp only at h3; omega
        · simp only at h4; omega
theorem pop_srt {x k : Nat} {l : List En} (h : Wi x k l) : Srt (popL x k l) := by
  cases l with
  | nil => exact List.Pairwise.nil
  | cons d r =>
    rw [popL]
    split
    · exact (List.pairwise_cons.1 h.srt).2
    · exact h.srt
theorem pop_wi {x k : Nat} {l : List En} (h : Wi x k l) : Wi x k (popL x k l) := ⟨fun e he => h.ok e (pop_mem h e he).1, pop_srt h⟩
theorem pop_at {x k : Nat} {l : List En} (h : Wi x k l) {a : Nat} (ha : top a k = x) (hk : k ≤ 32) (v : Int) : lkD l v a = lkD (popL x k l) (popV x k v l) a := by
  cases l with
  | nil => rfl
  | cons d r =>
    have hp := pop_mem h
    rw [popL] at hp
    rw [popL, popV]
    split
    · rename_i hd
      rw [if_pos hd] at hp
      have hv := (h.ok d (List.mem_cons_self ..)).1
      have hh : d.p.has a = true := by
        rw [Pf.has, hv, Bool.true_and, decide_eq_true_eq, hd]; exact ha
      unfold lkD
      have hn : d.p.n = k := by rw [hd]
      rw [List.foldl_cons, lkS, hh, Bool.and_true, decide_eq_true (show ((v, -1) : Int × Int).2 < d.p.n by show (-1 : Int) < d.p.n; omega), if_pos rfl]
      exact fold_start _ _ _ r fun e he => by have := (hp e he).2; omega
    · rfl
def halfL (x k bit : Nat) (l : List En) : List En := l.filter (underB (kidA x k bit) (k + 1))
theorem half_wi {x k bit : Nat} {l : List En} (hs : Srt l) (hv : ∀ e ∈ l, e.p.valid = true) : Wi (kidA x k bit) (k + 1) (halfL x k bit l) :=
  ⟨fun e he => by
    obtain ⟨h1, h2⟩ := List.mem_filter.1 he
    rw [underB, Bool.and_eq_true, decide_eq_true_eq, decide_eq_true_eq] at h2
    exact ⟨hv e h1, h2⟩, hs.sublist List.filter_sublist⟩
theorem kid_ne {x k : Nat} : kidA x k 0 ≠ kidA x k 1 := by
  have : 0 < 2 ^ (31 - k) := Nat.two_pow_pos _
  unfold kidA; omega
theorem half_not {x k : Nat} (hk : k < 32) {e : En} (ht : top e.p.a k = x) (hn : ((k + 1 : Nat) : Int) ≤ e.p.n) : underB (kidA x k 1) (k + 1) e = !underB (kidA x k 0) (k + 1) e := by
  unfold underB
  rw [decide_eq_true hn, Bool.and_true, Bool.and_true]
  rcases top_split hk ht with h | h
  · rw [h, decide_eq_true rfl, decide_eq_false kid_ne]; rfl
  · rw [h, decide_eq_true rfl, decide_eq_false (Ne.symm kid_ne)]; rfl
theorem half_len {x k : Nat} (hk : k < 32) {l : List En} (h : ∀ e ∈ l, top e.p.a k = x ∧ ((k + 1 : Nat) : Int) ≤ e.p.n) : l.length = (halfL x k 0 l).length + (halfL x k 1 l).length := by
  unfold halfL
  induction l with
  | nil => rfl
  | cons e r ih =>
    obtain ⟨h1, h2⟩ := h e (List.mem_cons_self ..)
    have ih := ih fun y hy => h y (List.mem_cons_of_mem _ hy)
    have hn := half_not hk h1 h2
    cases hu : underB (kidA x k 0) (k + 1) e with
    | true =>
      rw [hu] at hn
      rw [List.filter_cons_of_pos hu, List.filter_cons_of_neg (by rw [hn]; decide), List.length_cons, List.length_cons]; omega
    | false =>
      rw [hu] at hn
      rw [List.filter_cons_of_neg (by rw [hu]; decide), List.filter_cons_of_pos hn, List.length_cons, List.length_cons]; omega
theorem half_at {x k bit : Nat} {l : List En} (h : ∀ e ∈ l, ((k + 1 : Nat) : Int) ≤ e.p.n) {a : Nat} (ha : top a (k + 1) = kidA x k bit) (v : Int) : lkD l v a = lkD (halfL x k bit l) v a := by
  unfold lkD halfL
  rw [fold_filter]
  intro e he hq
  cases hh : e.p.has a with
  | false => rfl
  | true =>
    have hn := h e he
    have := has_top hh hn
    rw [ha] at this
    rw [underB, decide_eq_true this.symm, decide_eq_true hn] at hq
    cases hq

/-! ### The tree -/
inductive Tr where
  | leaf (v : Int)
  | node (a b : Tr)
def bothL (A B : List Int) : List Int := A.filter fun v => decide (v ∈ B)
def joinL (A B : List Int) : List Int := if bothL A B = [] then A ++ B else bothL A B
def Tr.set : Tr → List Int
  | .leaf v => [v]
  | .node a b => joinL a.set b.set
def Tr.at : Tr → Nat → Nat → Int
  | .leaf v, _, _ => v
  | .node a b, k, x => if bitAt x k = 0 then a.at (k + 1) x else b.at (k + 1) x
def Tr.cost : Tr → Nat
  | .leaf _ => 0
  | .node a b => a.cost + b.cost + if bothL a.set b.set = [] then 1 else 0
def Tr.fits : Tr → Nat → Prop
  | .leaf _, _ => True
  | .node a b, k => k < 32 ∧ a.fits (k + 1) ∧ b.fits (k + 1)
def grow : Nat → Nat → Nat → List En → Int → Tr
  | 0, x, k, l, v => .leaf (popV x k v l)
  | f + 1, x, k, l, v => if (popL x k l).isEmpty then .leaf (popV x k v l) else .node (grow f (kidA x k 0) (k + 1) (halfL x k 0 (popL x k l)) (popV x k v l)) (grow f (kidA x k 1) (k + 1) (halfL x k 1 (popL x k l)) (popV x k v l))
theorem join_mem {A B : List Int} {y : Int} : y ∈ joinL A B ↔ if bothL A B = [] then y ∈ A ∨ y ∈ B else y ∈ A ∧ y ∈ B := by
  unfold joinL
  split
  · rw [List.mem_append]
  · rw [bothL, List.mem_filter, decide_eq_true_eq]
theorem both_nil {A B : List Int} : bothL A B = [] ↔ ∀ y ∈ A, y ∉ B := by
  unfold bothL
  rw [List.filter_eq_nil_iff]
  simp
theorem join_ne {A B : List Int} (h : A ≠ []) : joinL A B ≠ [] := by
  unfold joinL
  split
  · intro e; exact h (List.append_eq_nil_iff.1 e).1
  · rename_i h; exact h
theorem Tr.set_ne : ∀ t : Tr, t.set ≠ []
  | .leaf v => by simp [Tr.set]
  | .node a b => join_ne a.set_ne
theorem bit_of {x k a bit : Nat} (hk : k < 32) (ha : top a (k + 1) = kidA x k bit) (hx : top x k = x) (hb : bit < 2) : bitAt a k = bit := by
  have h1 := top_kid a hk
  have h2 := kid_top hk hx hb
  have h3 : top a k = x := by rw [← top_top a (j := k) (k := k + 1) (by omega) (by omega), ha, h2.2]
  rw [h3, ha] at h1
  exact (kid_inj hk hx hx hb (bit_lt a k) h1).2.symm
theorem kid_of {x k a : Nat} (hk : k < 32) (ha : top a k = x) : (bitAt a k = 0 → top a (k + 1) = kidA x k 0) ∧ (bitAt a k ≠ 0 → top a (k + 1) = kidA x k 1) := by
  have h1 := top_kid a hk
  have h2 := bit_lt a k
  rw [ha] at h1
  refine ⟨fun h => by rw [h1, h], fun h => ?_⟩
  rw [h1, show bitAt a k = 1 by omega]
theorem wi_full {x : Nat} {l : List En} (h : Wi x 32 l) : popL x 32 l = [] := by
  refine List.eq_nil_iff_forall_not_mem.2 fun e he => ?_
  obtain ⟨h1, h2⟩ := pop_mem h e he
  obtain ⟨v1, v2, v3⟩ := Pf.valid_iff.1 (h.ok e h1).1
  omega
/-- The tree's value at an address is the lookup. -/
theorem grow_at : ∀ (f x k : Nat) (l : List En) (v : Int), k + f = 32 → Wi x k l → ∀ a, top a k = x → (grow f x k l v).at k a = lkD l v a
  | 0, x, k, l, v, hk, h, a, ha => by
    obtain rfl : k = 32 := by omega
    rw [grow, pop_at h ha (by omega), wi_full h]; rfl
  | f + 1, x, k, l, v, hk, h, a, ha => by
    have hk32 : k < 32 := by omega
    have hw := pop_wi h
    have hm := fun e he => (pop_mem h e he).2
    rw [grow, pop_at h ha (by omega)]
    split
    · rename_i he
      rw [List.isEmpty_iff.1 he]; rfl
    · rw [Tr.at]
      obtain ⟨k0, k1⟩ := kid_of hk32 ha
      split
      · rename_i hb
        rw [half_at hm (k0 hb), grow_at f _ _ _ _ (by omega) (half_wi hw.srt fun e he => (hw.ok e he).1) a (k0 hb)]
      · rename_i hb
        rw [half_at hm (k1 hb), grow_at f _ _ _ _ (by omega) (half_wi hw.srt fun e he => (hw.ok e he).1) a (k1 hb)]
theorem grow_fits : ∀ (f x k : Nat) (l : List En) (v : Int), k + f = 32 → (grow f x k l v).fits k
  | 0, x, k, l, v, hk => trivial
  | f + 1, x, k, l, v, hk => by
    rw [grow]
    split
    · trivial
    · exact ⟨by omega, grow_fits f _ _ _ _ (by omega), grow_fits f _ _ _ _ (by omega)⟩

/-! ### What is chosen -/
def leastL : List Int → Int
  | [] => 0
  | v :: r => r.foldl min v
theorem foldmin_mem : ∀ (r : List Int) (v : Int), r.foldl min v ∈ v :: r
  | [], v => List.mem_cons_self ..
  | x :: r, v => by
    rw [List.foldl_cons]
    have := foldmin_mem r (min v x)
    rcases List.mem_cons.1 this with h | h
    · rw [h]
      rcases Int.le_total v x with c | c
      · rw [Int.min_eq_left c]; exact List.mem_cons_self ..
      · rw [Int.min_eq_right c]; exact List.mem_cons_of_mem _ (List.mem_cons_self ..)
    · exact List.mem_cons_of_mem _ (List.mem_cons_of_mem _ h)
theorem least_mem {L : List Int} (h : L ≠ []) : leastL L ∈ L := by
  cases L with
  | nil => exact absurd rfl h
  | cons v r => exact foldmin_mem r v
theorem foldmin_le : ∀ (r : List Int) (v : Int), ∀ y ∈ v :: r, r.foldl min v ≤ y
  | [], v, y, hy => by
    obtain rfl := List.mem_singleton.1 hy
    exact Int.le_refl _
  | x :: r, v, y, hy => by
    rw [List.foldl_cons]
    have h0 := foldmin_le r (min v x) _ (List.mem_cons_self ..)
    rcases List.mem_cons.1 hy with e | hy
    · omega
    · rcases List.mem_cons.1 hy with e | hy
      · omega
      · exact foldmin_le r (min v x) y (List.mem_cons_of_mem _ hy)
theorem least_le {L : List Int} {y : Int} (h : y ∈ L) : leastL L ≤ y := by
  cases L with
  | nil => cases h
  | cons v r => exact foldmin_le r v y h
/-- What holds inside: v if it is among the best, otherwise the least of these. -/
def pick (S : List Int) (v : Int) : Int := if v ∈ S then v else leastL S
def choose1 (S : List Int) (x k : Nat) (v : Int) : List En := if v ∈ S then [] else [⟨⟨x, k⟩, leastL S⟩]
def choose : Tr → Nat → Nat → Int → List En
  | .leaf u, x, k, v => choose1 [u] x k v
  | .node a b, x, k, v => choose1 (joinL a.set b.set) x k v ++ (choose a (kidA x k 0) (k + 1) (pick (joinL a.set b.set) v) ++ choose b (kidA x k 1) (k + 1) (pick (joinL a.set b.set) v))
def out1 (S : List Int) (v : Int) : Nat := if v ∈ S then 0 else 1
theorem pick_mem {S : List Int} (h : S ≠ []) (v : Int) : pick S v ∈ S := by
  unfold pick
  split
  · assumption
  · exact least_mem h
theorem choose1_len (S : List Int) (x k : Nat) (v : Int) : (choose1 S x k v).length = out1 S v := by
  unfold choose1 out1; split <;> rfl
theorem join_out {A B : List Int} (v : Int) (hv : v ∈ joinL A B) : out1 A v + out1 B v = if bothL A B = [] then 1 else 0 := by
  rw [join_mem] at hv
  unfold out1
  by_cases h : bothL A B = []
  · rw [if_pos h] at hv ⊢
    have hb := both_nil.1 h
    rcases hv with h1 | h1
    · rw [if_pos h1, if_neg (hb v h1)]
    · rw [if_pos h1, if_neg (fun h2 => hb v h2 h1)]
  · rw [if_neg h] at hv ⊢
    rw [if_pos hv.1, if_pos hv.2]
theorem join_le {A B : List Int} (v : Int) : (if bothL A B = [] then 1 else 0) + out1 (joinL A B) v ≤ out1 A v + out1 B v := by
  have hm := join_mem (A := A) (B := B) (y := v)
  unfold out1
  by_cases h : bothL A B = []
  · rw [if_pos h] at hm ⊢
    have hb := both_nil.1 h
    by_cases h1 : v ∈ A
    · rw [if_pos (hm.2 (.inl h1)), if_pos h1, if_neg (hb v h1)]; decide
    · by_cases h2 : v ∈ B
      · rw [if_pos (hm.2 (.inr h2)), if_neg h1, if_pos h2]; decide
      · rw [if_neg (fun h => (hm.1 h).elim h1 h2), if_neg h1, if_neg h2]; decide
  · rw [if_neg h] at hm ⊢
    by_cases h1 : v ∈ A
    · by_cases h2 : v ∈ B
      · rw [if_pos (hm.2 ⟨h1, h2⟩), if_pos h1, if_pos h2]; decide
      · rw [if_neg (fun h => h2 (hm.1 h).2), if_pos h1, if_neg h2]; decide
    · rw [if_neg (fun h => h1 (hm.1 h).1), if_neg h1]; split <;> decide
theorem out1_le (S : List Int) (v : Int) : out1 S v ≤ 1 := by unfold out1; split <;> decide
theorem choose_len : ∀ (t : Tr) (x k : Nat) (v : Int), (choose t x k v).length = t.cost + out1 t.set v
  | .leaf u, x, k, v => by rw [choose, choose1_len, Tr.cost, Tr.set, Nat.zero_add]
  | .node a b, x, k, v => by
    rw [choose, List.length_append, List.length_append, choose1_len, choose_len a, choose_len b, Tr.cost, Tr.set]
    have := join_out _ (pick_mem (join_ne (B := b.set) a.set_ne) v)
    omega
theorem choose1_mem {S : List Int} {x k : Nat} {v : Int} {e : En} (he : e ∈ choose1 S x k v) : e = ⟨⟨x, k⟩, leastL S⟩ := by
  unfold choose1 at he
  split at he
  · cases he
  · exact List.mem_singleton.1 he
theorem choose_wi : ∀ (t : Tr) (x k : Nat) (v : Int), t.fits k → top x k = x → x < 4294967296 → k ≤ 32 → Wi x k (choose t x k v) ∧ ∀ e ∈ choose t x k v, e.p.a < 4294967296
  | .leaf u, x, k, v, _, hx, hl, hk => by
    have key : ∀ e ∈ choose1 [u] x k v, e.p = ⟨x, k⟩ := fun e he => by rw [choose1_mem he]
    refine ⟨⟨fun e he => ?_, ?_⟩, fun e he => by rw [key e he]; exact hl⟩
    · rw [key e he]; exact ⟨Pf.valid_iff.2 ⟨by simp, by simp; omega, by simpa using hx⟩, hx, Int.le_refl _⟩
    · rw [choose]; unfold choose1; split
      · exact List.Pairwise.nil
      · exact List.pairwise_singleton ..
  | .node a b, x, k, v, hf, hx, hl, hk => by
    obtain ⟨hk32, fa, fb⟩ := hf
    obtain ⟨a1, a2⟩ := kid_top hk32 hx (bit := 0) (by omega)
    obtain ⟨b1, b2⟩ := kid_top hk32 hx (bit := 1) (by omega)
    have la := kid_lt hk32 hx (bit := 0) (by omega) hl
    have lb := kid_lt hk32 hx (bit := 1) (by omega) hl
    have hp : 0 < 2 ^ (31 - k) := Nat.two_pow_pos _
    have hab : kidA x k 0 < kidA x k 1 ∧ x ≤ kidA x k 0 := by unfold kidA; omega
    rw [choose]
    generalize hS : joinL a.set b.set = S
    obtain ⟨wa, na⟩ := choose_wi a (kidA x k 0) (k + 1) (pick S v) fa a1 la (by omega)
    obtain ⟨wb, nb⟩ := choose_wi b (kidA x k 1) (k + 1) (pick S v) fb b1 lb (by omega)
    have key : ∀ e ∈ choose1 S x k v, e.p = ⟨x, k⟩ := fun e he => by rw [choose1_mem he]
    have up : ∀ bit, bit < 2 → ∀ e : En, top e.p.a (k + 1) = kidA x k bit → top e.p.a k = x := fun bit hb e he => by
      rw [← top_top e.p.a (j := k) (k := k + 1) (by omega) (by omega), he, (kid_top hk32 hx hb).2]
    refine ⟨⟨fun e he => ?_, ?_⟩, fun e he => ?_⟩
    · rcases List.mem_append.1 he with he | he
      · rw [key e he]; exact ⟨Pf.valid_iff.2 ⟨by simp, by simp; omega, by simpa using hx⟩, hx, Int.le_refl _⟩
      · rcases List.mem_append.1 he with he | he
        · obtain ⟨o1, o2, o3⟩ := wa.ok e he
          exact ⟨o1, up 0 (by omega) e o2, by omega⟩
        · obtain ⟨o1, o2, o3⟩ := wb.ok e he
          exact ⟨o1, up 1 (by omega) e o2, by omega⟩
    · refine List.pairwise_append.2 ⟨?_, List.pairwise_append.2 ⟨wa.srt, wb.srt, fun d hd e he => ?_⟩, fun d hd e he => ?_⟩
      · unfold choose1; split
        · exact List.Pairwise.nil
        · exact List.pairwise_singleton ..
      · obtain ⟨_, d2, d3⟩ := wa.ok d hd
        obtain ⟨_, e2, _⟩ := wb.ok e he
        refine .inl (Nat.lt_of_not_le fun h => ?_)
        have := top_mono (c := k + 1) h
        rw [d2, e2] at this
        omega
      · rw [key d hd]
        rcases List.mem_append.1 he with he | he
        · obtain ⟨_, e2, e3⟩ := wa.ok e he
          have := top_le e.p.a (k + 1)
          rw [e2] at this
          rcases Nat.lt_or_eq_of_le (Nat.le_trans hab.2 this) with h | h
          · exact .inl h
          · exact .inr ⟨h, show (k : Int) < e.p.n by omega⟩
        · obtain ⟨_, e2, e3⟩ := wb.ok e he
          have := top_le e.p.a (k + 1)
          rw [e2] at this
          exact .inl (show x < e.p.a by omega)
    · rcases List.mem_append.1 he with he | he
      · rw [key e he]; exact hl
      · rcases List.mem_append.1 he with he | he
        · exact na e he
        · exact nb e he
/-- The lookups of what is chosen are the tree's values. -/
theorem choose_at : ∀ (t : Tr) (x k : Nat) (v : Int), t.fits k → top x k = x → x < 4294967296 → k ≤ 32 → ∀ a, top a k = x → lkD (choose t x k v) v a = t.at k a
  | .leaf u, x, k, v, _, hx, hl, hk, a, ha => by
    rw [choose, Tr.at, choose1]
    split
    · rename_i h
      rw [List.mem_singleton.1 h]; rfl
    · have hh : (⟨x, k⟩ : Pf).has a = true := by
        rw [Pf.has, Pf.valid_iff.2 ⟨by simp, by simp; omega, by simpa using hx⟩, Bool.true_and, decide_eq_true_eq]; exact ha
      unfold lkD
      rw [List.foldl_cons, lkS, hh, Bool.and_true, if_pos (decide_eq_true (show (-1 : Int) < (k : Int) by omega))]
      rfl
  | .node t1 t2, x, k, v, hf, hx, hl, hk, a, ha => by
    have hwi := choose_wi (.node t1 t2) x k v hf hx hl hk
    obtain ⟨hk32, fa, fb⟩ := hf
    obtain ⟨a1, a2⟩ := kid_top hk32 hx (bit := 0) (by omega)
    obtain ⟨b1, b2⟩ := kid_top hk32 hx (bit := 1) (by omega)
    have la := kid_lt hk32 hx (bit := 0) (by omega) hl
    have lb := kid_lt hk32 hx (bit := 1) (by omega) hl
    rw [pop_at hwi.1 ha hk, choose, Tr.at]
    generalize hS : joinL t1.set t2.set = S
    obtain ⟨wa, na⟩ := choose_wi t1 (kidA x k 0) (k + 1) (pick S v) fa a1 la (by omega)
    obtain ⟨wb, nb⟩ := choose_wi t2 (kidA x k 1) (k + 1) (pick S v) fb b1 lb (by omega)
    have ia := choose_at t1 (kidA x k 0) (k + 1) (pick S v) fa a1 la (by omega) a
    have ib := choose_at t2 (kidA x k 1) (k + 1) (pick S v) fb b1 lb (by omega) a
    generalize choose t1 (kidA x k 0) (k + 1) (pick S v) = A at *
    generalize choose t2 (kidA x k 1) (k + 1) (pick S v) = B at *
    have hne : ∀ e ∈ A ++ B, e.p ≠ ⟨x, k⟩ := fun e he q => by
      have : ((k + 1 : Nat) : Int) ≤ e.p.n := (List.mem_append.1 he).elim (fun h => (wa.ok e h).2.2) (fun h => (wb.ok e h).2.2)
      rw [q] at this
      simp only at this; omega
    have hpop : popL x k (choose1 S x k v ++ (A ++ B)) = A ++ B ∧ popV x k v (choose1 S x k v ++ (A ++ B)) = pick S v := by
      unfold choose1 pick
      split
      · rw [List.nil_append]
        cases hAB : A ++ B with
        | nil => exact ⟨rfl, rfl⟩
        | cons e r =>
          have := hne e (by rw [hAB]; exact List.mem_cons_self ..)
          rw [popL, popV, if_neg this, if_neg this]; exact ⟨rfl, rfl⟩
      · rw [List.singleton_append, popL, popV, if_pos rfl, if_pos rfl]; exact ⟨rfl, rfl⟩
    rw [hpop.1, hpop.2]
    have hlen : ∀ e ∈ A ++ B, ((k + 1 : Nat) : Int) ≤ e.p.n := fun e he => (List.mem_append.1 he).elim (fun h => (wa.ok e h).2.2) (fun h => (wb.ok e h).2.2)
    have hall : ∀ (M : List En) (q : En → Bool), (∀ e ∈ M, q e = true) → M.filter q = M := fun M q h => List.filter_eq_self.2 h
    have hnone : ∀ (M : List En) (q : En → Bool), (∀ e ∈ M, q e = false) → M.filter q = [] := fun M q h => List.filter_eq_nil_iff.2 fun e he => by rw [h e he]; decide
    obtain ⟨k0, k1⟩ := kid_of hk32 ha
    have uA : ∀ e ∈ A, top e.p.a (k + 1) = kidA x k 0 ∧ ((k + 1 : Nat) : Int) ≤ e.p.n := fun e he => (wa.ok e he).2
    have uB : ∀ e ∈ B, top e.p.a (k + 1) = kidA x k 1 ∧ ((k + 1 : Nat) : Int) ≤ e.p.n := fun e he => (wb.ok e he).2
    split
    · rename_i hb
      rw [half_at hlen (k0 hb), halfL, List.filter_append, hall A (underB (kidA x k 0) (k + 1)) (fun e he => by rw [underB, (uA e he).1, decide_eq_true rfl, decide_eq_true (uA e he).2]; rfl), hnone B (underB (kidA x k 0) (k + 1)) (fun e he => by rw [underB, (uB e he).1, decide_eq_false (Ne.symm kid_ne)]; rfl), List.append_nil]
      exact ia (k0 hb)
    · rename_i hb
      rw [half_at hlen (k1 hb), halfL, List.filter_append, hnone A (underB (kidA x k 1) (k + 1)) (fun e he => by rw [underB, (uA e he).1, decide_eq_false kid_ne]; rfl), hall B (underB (kidA x k 1) (k + 1)) (fun e he => by rw [underB, (uB e he).1, decide_eq_true rfl, decide_eq_true (uB e he).2]; rfl), List.nil_append]
      exact ib (k1 hb)
/-- No list with these lookups is shorter. -/
theorem lower : ∀ (t : Tr) (x k : Nat) (O : List En) (v : Int), t.fits k → top x k = x → x < 4294967296 → k ≤ 32 → Wi x k O → (∀ a, a < 4294967296 → top a k = x → lkD O v a = t.at k a) → t.cost + out1 t.set v ≤ O.length
  | .leaf u, x, k, O, v, _, hx, hl, hk, hw, ha => by
    rw [Tr.cost, Tr.set, Nat.zero_add]
    cases O with
    | nil =>
      have := ha x hl hx
      rw [Tr.at] at this
      have hv : v = u := this
      rw [out1, if_pos (List.mem_singleton.2 hv)]; exact Nat.zero_le _
    | cons e r => have := out1_le [u] v; simp; omega
  | .node t1 t2, x, k, O, v, hf, hx, hl, hk, hw, ha => by
    obtain ⟨hk32, fa, fb⟩ := hf
    obtain ⟨a1, a2⟩ := kid_top hk32 hx (bit := 0) (by omega)
    obtain ⟨b1, b2⟩ := kid_top hk32 hx (bit := 1) (by omega)
    have la := kid_lt hk32 hx (bit := 0) (by omega) hl
    have lb := kid_lt hk32 hx (bit := 1) (by omega) hl
    have hpw := pop_wi hw
    have hpm := pop_mem hw
    have hv' : ∀ e ∈ popL x k O, e.p.valid = true := fun e he => (hpw.ok e he).1
    have la' := lower t1 (kidA x k 0) (k + 1) (halfL x k 0 (popL x k O)) (popV x k v O) fa a1 la (by omega) (half_wi hpw.srt hv') fun a h32 hta => by
      have htop : top a k = x := by rw [← top_top a (j := k) (k := k + 1) (by omega) (by omega), hta, a2]
      have h := ha a h32 htop
      rw [pop_at hw htop hk, half_at (fun e he => (hpm e he).2) hta, Tr.at, if_pos (bit_of hk32 hta hx (by omega))] at h
      exact h
    have lb' := lower t2 (kidA x k 1) (k + 1) (halfL x k 1 (popL x k O)) (popV x k v O) fb b1 lb (by omega) (half_wi hpw.srt hv') fun a h32 hta => by
      have htop : top a k = x := by rw [← top_top a (j := k) (k := k + 1) (by omega) (by omega), hta, b2]
      have h := ha a h32 htop
      rw [pop_at hw htop hk, half_at (fun e he => (hpm e he).2) hta, Tr.at, if_neg (by rw [bit_of hk32 hta hx (by omega)]; decide)] at h
      exact h
    have hlen := half_len hk32 (l := popL x k O) fun e he => ⟨(hpw.ok e he).2.1, (hpm e he).2⟩
    have hj := join_le (A := t1.set) (B := t2.set) (popV x k v O)
    have hO : (popL x k O).length + (out1 (joinL t1.set t2.set) v - out1 (joinL t1.set t2.set) (popV x k v O)) ≤ O.length := by
      cases O with
      | nil => rw [popV]; simp [popL]
      | cons e r =>
        rw [popL, popV]
        have := out1_le (joinL t1.set t2.set) v
        split
        · rw [List.length_cons]; omega
        · simp
    rw [Tr.cost, Tr.set]
    omega
/-- What Minimal returns for a table. -/
def minL (L : List En) : List En := choose (grow 32 0 0 L (-1)) 0 0 (-1)
theorem Tb.wi {L : List En} (h : Tb L) (ha : ∀ e ∈ L, e.p.a < 4294967296) : Wi 0 0 L :=
  ⟨fun e he => ⟨(h.ok e he).1, top_zero _ (ha e he), by obtain ⟨v1, _⟩ := Pf.valid_iff.1 (h.ok e he).1; omega⟩, h.srt⟩
theorem min_lk {L : List En} (h : Tb L) (ha : ∀ e ∈ L, e.p.a < 4294967296) {a : Nat} (h32 : a < 4294967296) : lk (minL L) a = lk L a := by
  have ht := top_zero a h32
  rw [← lkD_lk, ← lkD_lk, minL, choose_at _ 0 0 (-1) (grow_fits 32 0 0 L (-1) rfl) (by decide) (by decide) (by decide) a ht, grow_at 32 0 0 L (-1) rfl (h.wi ha) a ht]
/-- Minimal is the shortest of all tables with its lookups. -/
theorem min_le {L O : List En} (h : Tb L) (ha : ∀ e ∈ L, e.p.a < 4294967296) (hO : Tb O) (hOa : ∀ e ∈ O, e.p.a < 4294967296) (hs : ∀ a, a < 4294967296 → lk O a = lk L a) : (minL L).length ≤ O.length := by
  rw [minL, choose_len]
  refine lower _ 0 0 O (-1) (grow_fits 32 0 0 L (-1) rfl) (by decide) (by decide) (by decide) (hO.wi hOa) fun a h32 ht => ?_
  rw [grow_at 32 0 0 L (-1) rfl (h.wi ha) a ht]
  exact hs a h32
/-! ### The values of the tree are the table's -/
theorem half_sub {x k bit : Nat} {l : List En} {e : En} (h : e ∈ halfL x k bit l) : e ∈ l := (List.mem_filter.1 h).1
theorem pop_sub {x k : Nat} {l : List En} {e : En} (h : e ∈ popL x k l) : e ∈ l := by
  cases l with
  | nil => cases h
  | cons d r =>
    rw [popL] at h
    split at h
    · exact List.mem_cons_of_mem _ h
    · exact h
theorem popV_in (x k : Nat) (v : Int) (l : List En) : popV x k v l = v ∨ ∃ e ∈ l, popV x k v l = e.v := by
  cases l with
  | nil => exact .inl rfl
  | cons d r =>
    rw [popV]
    split
    · exact .inr ⟨d, List.mem_cons_self .., rfl⟩
    · exact .inl rfl
theorem grow_set : ∀ (f x k : Nat) (l : List En) (v : Int), ∀ y ∈ (grow f x k l v).set, y = v ∨ ∃ e ∈ l, y = e.v
  | 0, x, k, l, v, y, hy => by
    rw [grow, Tr.set, List.mem_singleton] at hy
    rw [hy]; exact popV_in x k v l
  | f + 1, x, k, l, v, y, hy => by
    rw [grow] at hy
    split at hy
    · rw [Tr.set, List.mem_singleton] at hy
      rw [hy]; exact popV_in x k v l
    · rw [Tr.set, join_mem] at hy
      have hor : y ∈ (grow f (kidA x k 0) (k + 1) (halfL x k 0 (popL x k l)) (popV x k v l)).set ∨ y ∈ (grow f (kidA x k 1) (k + 1) (halfL x k 1 (popL x k l)) (popV x k v l)).set := by
        split at hy
        · exact hy
        · exact .inl hy.1
      have fin : ∀ bit, (y = popV x k v l ∨ ∃ e ∈ halfL x k bit (popL x k l), y = e.v) → y = v ∨ ∃ e ∈ l, y = e.v := fun bit h => by
        rcases h with h | ⟨e, he, h⟩
        · rw [h]; exact popV_in x k v l
        · exact .inr ⟨e, pop_sub (half_sub he), h⟩
      rcases hor with h | h
      · exact fin 0 (grow_set f _ _ _ _ y h)
      · exact fin 1 (grow_set f _ _ _ _ y h)
theorem choose1_val {S : List Int} (hS : S ≠ []) {x k : Nat} {v : Int} {e : En} (he : e ∈ choose1 S x k v) : e.v ∈ S := by
  rw [choose1_mem he]; exact least_mem hS
def Tr.vals : Tr → List Int
  | .leaf v => [v]
  | .node a b => a.vals ++ b.vals
theorem Tr.set_vals : ∀ (t : Tr) (y : Int), y ∈ t.set → y ∈ t.vals
  | .leaf v, y, h => h
  | .node a b, y, h => by
    rw [Tr.set, join_mem] at h
    rw [Tr.vals, List.mem_append]
    split at h
    · exact h.imp (a.set_vals y) (b.set_vals y)
    · exact .inl (a.set_vals y h.1)
theorem choose_vals : ∀ (t : Tr) (x k : Nat) (v : Int), ∀ e ∈ choose t x k v, e.v ∈ t.vals
  | .leaf u, x, k, v, e, he => choose1_val (S := [u]) (fun h => nomatch h) he
  | .node a b, x, k, v, e, he => by
    rw [choose] at he
    rcases List.mem_append.1 he with he | he
    · exact Tr.set_vals (.node a b) _ (choose1_val (join_ne a.set_ne) he)
    · rw [Tr.vals, List.mem_append]
      rcases List.mem_append.1 he with he | he
      · exact .inl (choose_vals a _ _ _ e he)
      · exact .inr (choose_vals b _ _ _ e he)
theorem grow_vals : ∀ (f x k : Nat) (l : List En) (v : Int), ∀ y ∈ (grow f x k l v).vals, y = v ∨ ∃ e ∈ l, y = e.v
  | 0, x, k, l, v, y, hy => by
    rw [grow, Tr.vals, List.mem_singleton] at hy
    rw [hy]; exact popV_in x k v l
  | f + 1, x, k, l, v, y, hy => by
    rw [grow] at hy
    split at hy
    · rw [Tr.vals, List.mem_singleton] at hy
      rw [hy]; exact popV_in x k v l
    · rw [Tr.vals, List.mem_append] at hy
      have fin : ∀ bit, (y = popV x k v l ∨ ∃ e ∈ halfL x k bit (popL x k l), y = e.v) → y = v ∨ ∃ e ∈ l, y = e.v := fun bit h => by
        rcases h with h | ⟨e, he, h⟩
        · rw [h]; exact popV_in x k v l
        · exact .inr ⟨e, pop_sub (half_sub he), h⟩
      rcases hy with h | h
      · exact fin 0 (grow_vals f _ _ _ _ y h)
      · exact fin 1 (grow_vals f _ _ _ _ y h)
theorem min_tb {L : List En} (h : Tb L) (ha : ∀ e ∈ L, e.p.a < 4294967296) : Tb (minL L) ∧ (∀ e ∈ minL L, e.p.a < 4294967296) ∧ (minL L).length ≤ L.length := by
  obtain ⟨hw, h32⟩ := choose_wi (grow 32 0 0 L (-1)) 0 0 (-1) (grow_fits 32 0 0 L (-1) rfl) (by decide) (by decide) (by decide)
  refine ⟨⟨fun e he => ⟨(hw.ok e he).1, ?_⟩, hw.srt⟩, h32, min_le h ha h ha fun _ _ => rfl⟩
  rcases grow_vals 32 0 0 L (-1) _ (choose_vals _ 0 0 (-1) e he) with h1 | ⟨d, hd, h1⟩
  · omega
  · have := (h.ok d hd).2; omega
end Go.Proofs.Ytkiidmbkibfbiaa

/-
  Rules of the walk for maps of one's own with integer keys that are ranged over: making, looking up, setting, len, range, next, entry.
  No conditions beyond those that each rule states.
-/
namespace Go.Proofs.Ytkiidmbkibfbiaa
open Go.RowKit Go.MapKept
open Go.ChangeMaps (setBlock)

/-- What block b's entries are: F is what the map has for each key. -/
structure EntJ (es : Array MapEntry) (clock : Nat) (k : IntKind) (F : Int → Option Value) : Prop where
  keys : ∀ x ∈ es.toList, IsKey (.int k) x.key
  apart : es.toList.Pairwise (fun x y => x.key ≠ y.key)
  has : ∀ y v, F y = some v ↔ ∃ e ∈ es.toList, e.key = .int k y ∧ e.val = v
  old : ∀ x ∈ es.toList, x.born < clock
  born : (es.toList.map (·.born)).Nodup
def MapJ (w : World) (b : Nat) (k : IntKind) (F : Int → Option Value) : Prop := ∃ es clock, w.heap[b]? = some (.map es clock) ∧ EntJ es clock k F
section
variable {w w' w1 : World} {b r : Nat} {k : IntKind} {F : Int → Option Value} {row : Option Nat} {S : Nat → Prop}
theorem MapJ.toI (h : MapJ w b k F) : MapI w b k F := by
  obtain ⟨es, clock, hb, hE⟩ := h
  exact ⟨es, clock, hb, hE.keys, hE.apart, hE.has⟩
theorem MapJ.lt (h : MapJ w b k F) : b < w.heap.size := h.toI.lt
theorem MapJ.same (h : MapJ w b k F) (he : w'.heap[b]? = w.heap[b]?) : MapJ w' b k F := by
  obtain ⟨es, clock, hb, hE⟩ := h
  exact ⟨es, clock, he.trans hb, hE⟩
theorem MapJ.ext (h : MapJ w b k F) (he : Ext w w') : MapJ w' b k F := h.same (he.block b h.lt)
theorem MapJ.grow (h : MapJ w b k F) (hg : w.grownBy w1 row) (hne : some b ≠ row) : MapJ w1 b k F := h.same (hg.block b h.lt hne)
theorem MapJ.mod (h : MapJ w b k F) (hm : Mod S w w1) (hne : ¬S b) : MapJ w1 b k F := h.same (hm.other b h.lt hne)
/-- A key that no entry bears is laid in. -/
theorem EntJ.push {es : Array MapEntry} {clock : Nat} (h : EntJ es clock k F) {y : Int} {v : Value} (hno : ∀ x ∈ es.toList, x.key ≠ .int k y) : EntJ (es.push { key := .int k y, val := v, born := clock }) (clock + 1) k (fun y' => if y' = y then some v else F y') := by
  refine ⟨?_, ?_, ?_, ?_, ?_⟩
  · intro x hx
    simp only [Array.toList_push, List.mem_append, List.mem_singleton] at hx
    rcases hx with hx | rfl
    · exact h.keys x hx
    · exact rfl
  · rw [Array.toList_push, List.pairwise_append]
    exact ⟨h.apart, List.pairwise_singleton _ _, fun x hx z hz => by rw [List.mem_singleton.1 hz]; exact hno x hx⟩
  · intro y' v'
    simp only [Array.toList_push, List.mem_append, List.mem_singleton]
    by_cases e : y' = y
    · subst e
      simp only [if_true, Option.some.injEq]
      constructor
      · rintro rfl; exact ⟨_, .inr rfl, rfl, rfl⟩
      · rintro ⟨x, hx | rfl, q1, q2⟩
        · exact absurd q1 (hno x hx)
        · exact q2
    · simp only [e, if_false]
      rw [h.has]
      constructor
      · rintro ⟨x, hx, q⟩; exact ⟨x, .inl hx, q⟩
      · rintro ⟨x, hx | rfl, q1, q2⟩
        · exact ⟨x, hx, q1, q2⟩
        · simp only [Value.int.injEq, true_and] at q1; exact absurd q1.symm e
  · intro x hx
    simp only [Array.toList_push, List.mem_append, List.mem_singleton] at hx
    rcases hx with hx | rfl
    · exact Nat.lt_succ_of_lt (h.old x hx)
    · exact Nat.lt_succ_self _
  · rw [Array.toList_push, List.map_append, List.nodup_append]
    refine ⟨h.born, by simp, fun a ha b hb e => ?_⟩
    simp only [List.map_cons, List.map_nil, List.mem_singleton] at hb
    obtain ⟨x, hx, rfl⟩ := List.mem_map.1 ha
    have := h.old x hx
    omega
/-- The entry that bears the key gets another value. -/
theorem EntJ.modify {es : Array MapEntry} {clock : Nat} (h : EntJ es clock k F) {y : Int} {v : Value} {j : Nat} {e : MapEntry} (hj : es[j]? = some e) (hk : e.key = .int k y) : EntJ (es.modify j fun e => { e with key := .int k y, val := v }) clock k (fun y' => if y' = y then some v else F y') := by
  have hkey : ∀ e', es[j]? = some e' → ({ e' with key := .int k y, val := v } : MapEntry).key = e'.key := fun e' he' => by rw [hj] at he'; cases he'; exact hk.symm
  have hkeys := modify_keys (es := es) j (fun e => { e with key := .int k y, val := v }) hkey
  have hget : ∀ i, (es.modify j fun e => { e with key := .int k y, val := v })[i]? = if j = i then (es[i]?).map (fun e => { e with key := .int k y, val := v }) else es[i]? := fun i => by rw [Array.getElem?_modify]
  have mem : ∀ x, x ∈ (es.modify j fun e => { e with key := .int k y, val := v }).toList ↔ ∃ i, (if j = i then (es[i]?).map (fun e => { e with key := .int k y, val := v }) else es[i]?) = some x := fun x => by
    rw [List.mem_iff_getElem?]
    constructor
    · rintro ⟨i, hi⟩; exact ⟨i, by rw [← hget, ← Array.getElem?_toList]; exact hi⟩
    · rintro ⟨i, hi⟩; exact ⟨i, by rw [← hget, ← Array.getElem?_toList] at hi; exact hi⟩
  have hborn : (es.modify j fun e => { e with key := .int k y, val := v }).toList.map (·.born) = es.toList.map (·.born) := by
    refine List.ext_getElem? fun i => ?_
    rw [List.getElem?_map, List.getElem?_map, Array.getElem?_toList, Array.getElem?_toList, hget]
    split
    · cases es[i]? <;> rfl
    · rfl
  have uniq : ∀ x, x ∈ es.toList → x.key = .int k y → ∀ i, es[i]? = some x → i = j := fun x _ hxk i hi => by
    have hpw := h.apart
    rcases Nat.lt_trichotomy i j with q | q | q
    · have h5 := List.pairwise_iff_getElem.1 hpw i j (by have := (Array.getElem?_eq_some_iff.1 hi).1; simpa using this) (by have := (Array.getElem?_eq_some_iff.1 hj).1; simpa using this) q
      obtain ⟨p1, p2⟩ := Array.getElem?_eq_some_iff.1 hi
      obtain ⟨p3, p4⟩ := Array.getElem?_eq_some_iff.1 hj
      simp only [Array.getElem_toList] at h5
      rw [p2, p4, hxk, hk] at h5; exact absurd rfl h5
    · exact q
    · have h5 := List.pairwise_iff_getElem.1 hpw j i (by have := (Array.getElem?_eq_some_iff.1 hj).1; simpa using this) (by have := (Array.getElem?_eq_some_iff.1 hi).1; simpa using this) q
      obtain ⟨p1, p2⟩ := Array.getElem?_eq_some_iff.1 hi
      obtain ⟨p3, p4⟩ := Array.getElem?_eq_some_iff.1 hj
      simp only [Array.getElem_toList] at h5
      rw [p2, p4, hxk, hk] at h5; exact absurd rfl h5
  refine ⟨isKey_modify h.keys _ _ hkey, ?_, ?_, ?_, by rw [hborn]; exact h.born⟩
  · have := List.pairwise_map (f := (·.key)) (R := fun a b => a ≠ b) (l := (es.modify j fun e => { e with key := .int k y, val := v }).toList)
    rw [hkeys] at this
    exact this.1 (List.pairwise_map.2 h.apart)
  · intro y' v'
    by_cases e9 : y' = y
    · subst e9
      simp only [if_true, Option.some.injEq]
      constructor
      · rintro rfl
        exact ⟨{ e with key := .int k y', val := v }, (mem _).2 ⟨j, by rw [if_pos rfl, hj]; rfl⟩, rfl, rfl⟩
      · rintro ⟨x, hx, q1, q2⟩
        obtain ⟨i, hi⟩ := (mem x).1 hx
        by_cases e8 : j = i
        · subst e8
          rw [if_pos rfl, hj] at hi
          simp only [Option.map_some, Option.some.injEq] at hi
          subst hi; exact q2
        · rw [if_neg e8] at hi
          exact absurd (uniq x (List.mem_iff_getElem?.2 ⟨i, by simpa using hi⟩) q1 i hi).symm e8
    · simp only [e9, if_false]
      rw [h.has]
      constructor
      · rintro ⟨x, hx, q1, q2⟩
        obtain ⟨i, hi⟩ := List.mem_iff_getElem?.1 hx
        refine ⟨x, (mem x).2 ⟨i, ?_⟩, q1, q2⟩
        have hi' : es[i]? = some x := by simpa using hi
        rw [if_neg (fun e8 => by
          subst e8
          rw [hj] at hi'; cases hi'
          rw [hk] at q1
          simp only [Value.int.injEq, true_and] at q1
          exact e9 q1.symm)]
        exact hi'
      · rintro ⟨x, hx, q1, q2⟩
        obtain ⟨i, hi⟩ := (mem x).1 hx
        by_cases e8 : j = i
        · subst e8
          rw [if_pos rfl, hj] at hi
          simp only [Option.map_some, Option.some.injEq] at hi
          subst hi
          simp only [Value.int.injEq, true_and] at q1
          exact absurd q1.symm e9
        · rw [if_neg e8] at hi
          exact ⟨x, List.mem_iff_getElem?.2 ⟨i, by simpa using hi⟩, q1, q2⟩
  · intro x hx
    have : x.born ∈ (es.modify j fun e => { e with key := .int k y, val := v }).toList.map (·.born) := List.mem_map.2 ⟨x, hx, rfl⟩
    rw [hborn] at this
    obtain ⟨z, hz, e⟩ := List.mem_map.1 this
    rw [← e]; exact h.old z hz
theorem MapJ.update {P : Program} {t kt et : TypeId} [ht : TMap P t kt et] [hk : TInt P kt k] (hM : MapJ w b k F) (y : Int) (v : Value) :
    ∃ w1, (Instr.mapUpdate t (.map (some b)) (.int k y) v).run P w = .ok () w1 ∧ w.grownBy w1 (some b) ∧ MapJ w1 b k (fun y' => if y' = y then some v else F y') := by
  obtain ⟨es, clock, hb, hE⟩ := hM
  have hck := MapKept.run_checkKey (P := P) (w := w) (k := .int k y) hk.h rfl false 9999
  have grow : ∀ o, w.grownBy { w with heap := w.heap.setIfInBounds b o } (some b) := fun o => ⟨rfl, rfl, rfl, by simp, fun k hk hne => by
    have : b ≠ k := fun e => hne (by rw [e])
    simp [this]⟩
  have heap : ∀ o, (w.heap.setIfInBounds b o)[b]? = some o := fun o => (heap_set hb).1
  rcases findNow_spec (d := .int k) (k := .int k y) rfl es.toList 0 hE.keys with ⟨h1, h2⟩ | ⟨j, e, h1, h2, h3⟩
  · refine ⟨{ w with heap := w.heap.setIfInBounds b (.map (es.push { key := .int k y, val := v, born := clock }) (clock + 1)) }, ?_, grow _, _, _, heap _, hE.push h2⟩
    simp [Instr.mapUpdate, run_underlying ht.h, MapKept.run_getObj_map hb, hck, MapKept.run_findKey hk.h h1, MapKept.run_setObj_map _ hb]
  · have hj : es[j]? = some e := by simpa using h2
    refine ⟨{ w with heap := w.heap.setIfInBounds b (.map (es.modify j fun e => { e with key := .int k y, val := v }) clock) }, ?_, grow _, _, _, heap _, hE.modify hj h3⟩
    simp [Instr.mapUpdate, run_underlying ht.h, MapKept.run_getObj_map hb, hck, MapKept.run_findKey hk.h h1, hj, h3, run_keyThatStays (d := .int k) (k := .int k y) rfl, MapKept.run_setObj_map _ hb]

/-! ### Iterators -/
/-- Block r is an iterator over the map of block b; T: the keys that have come; cnt: how many entries are still to come. -/
def IterJ (w : World) (b r : Nat) (k : IntKind) (F : Int → Option Value) (T : List Int) (cnt : Nat) : Prop :=
  ∃ (es : Array MapEntry) (clock since : Nat) (seen : Array Nat) (c0 : Nat), w.heap[b]? = some (.map es clock) ∧ EntJ es clock k F ∧ w.heap[r]? = some (.mapIter (some b) since seen c0) ∧ (∀ x ∈ es.toList, x.born < since) ∧ since ≤ c0 ∧ since ≤ clock ∧ (leftOf es seen).size = cnt ∧
    ∀ x ∈ es.toList, ∀ y, x.key = .int k y → (y ∈ T ↔ seen.contains x.born = true)
/-- What the last step has handed out. -/
def EntryAt (w : World) (b r : Nat) (k : IntKind) (y : Int) (v : Value) : Prop :=
  ∃ (es : Array MapEntry) (clock since : Nat) (seen : Array Nat) (e : MapEntry), w.heap[r]? = some (.mapIter (some b) since (seen.push e.born) clock) ∧ w.heap[b]? = some (.map es clock) ∧ e ∈ es.toList ∧ (es.toList.map (·.born)).Nodup ∧ e.key = .int k y ∧ e.val = v
theorem lt_of_heap {o : Obj} (h : w.heap[b]? = some o) : b < w.heap.size := (Array.getElem?_eq_some_iff.1 h).1
theorem IterJ.map {T : List Int} {cnt : Nat} (h : IterJ w b r k F T cnt) : MapJ w b k F := by
  obtain ⟨es, clock, _, _, _, hb, hE, _⟩ := h
  exact ⟨es, clock, hb, hE⟩
theorem IterJ.ne {T : List Int} {cnt : Nat} (h : IterJ w b r k F T cnt) : r ≠ b := by
  obtain ⟨es, clock, _, _, _, hb, _, hr, _⟩ := h
  intro e
  rw [e, hb] at hr; cases hr
theorem IterJ.rlt {T : List Int} {cnt : Nat} (h : IterJ w b r k F T cnt) : r < w.heap.size := by
  obtain ⟨es, clock, _, _, _, hb, _, hr, _⟩ := h
  exact lt_of_heap hr
theorem IterJ.same {T : List Int} {cnt : Nat} (h : IterJ w b r k F T cnt) (h1 : w'.heap[b]? = w.heap[b]?) (h2 : w'.heap[r]? = w.heap[r]?) : IterJ w' b r k F T cnt := by
  obtain ⟨es, clock, since, seen, c0, hb, hE, hr, rest⟩ := h
  exact ⟨es, clock, since, seen, c0, h1.trans hb, hE, h2.trans hr, rest⟩
theorem IterJ.ext {T : List Int} {cnt : Nat} (h : IterJ w b r k F T cnt) (he : Ext w w') : IterJ w' b r k F T cnt := h.same (he.block b h.map.lt) (he.block r h.rlt)
theorem IterJ.grow {T : List Int} {cnt : Nat} (h : IterJ w b r k F T cnt) (hg : w.grownBy w1 row) (h1 : some b ≠ row) (h2 : some r ≠ row) : IterJ w1 b r k F T cnt := h.same (hg.block b h.map.lt h1) (hg.block r h.rlt h2)
theorem EntryAt.same {y : Int} {v : Value} (h : EntryAt w b r k y v) (h1 : w'.heap[b]? = w.heap[b]?) (h2 : w'.heap[r]? = w.heap[r]?) : EntryAt w' b r k y v := by
  obtain ⟨es, clock, since, seen, e, hr, hb, rest⟩ := h
  exact ⟨es, clock, since, seen, e, h2.trans hr, h1.trans hb, rest⟩
theorem EntryAt.ext {y : Int} {v : Value} (h : EntryAt w b r k y v) (he : Ext w w') : EntryAt w' b r k y v := by
  obtain ⟨es, clock, since, seen, e, hr, hb, rest⟩ := h
  exact ⟨es, clock, since, seen, e, (he.block r (lt_of_heap hr)).trans hr, (he.block b (lt_of_heap hb)).trans hb, rest⟩
theorem born_key {es : Array MapEntry} (hn : (es.toList.map (·.born)).Nodup) {x e : MapEntry} (hx : x ∈ es.toList) (he : e ∈ es.toList) (h : x.born = e.born) : x = e := by
  have h1 := find_born x es.toList hn hx
  have h2 := find_born e es.toList hn he
  rw [h] at h1
  rw [h1] at h2
  exact Option.some.inj h2
/-- The step. -/
theorem IterJ.next {P : Program} {T : List Int} {cnt : Nat} (h : IterJ w b r k F T cnt) (ty : TypeId) :
    ((∀ y v, F y = some v → y ∈ T) ∧ (Instr.next (.pointer (some ⟨r, 0, none⟩)) false ty).run P w = .ok (.tuple #[.bool false]) w) ∨
    ∃ y v w1 cnt', F y = some v ∧ y ∉ T ∧ (Instr.next (.pointer (some ⟨r, 0, none⟩)) false ty).run P w = .ok (.tuple #[.bool true, .int k y, v]) w1 ∧ IterJ w1 b r k F (T ++ [y]) cnt' ∧ cnt' < cnt ∧ w.grownBy w1 (some r) ∧ EntryAt w1 b r k y v := by
  have hne := h.ne
  obtain ⟨es, clock, since, seen, c0, hb, hE, hr, hold, hsc, hsk, hcnt, hT⟩ := h
  rcases run_next_at (P := P) w ty r b since c0 seen es clock hr hb hold hsc with ⟨h0, hrun⟩ | ⟨e, he, w1, hal, hrun⟩
  · refine .inl ⟨fun y v hy => ?_, hrun⟩
    obtain ⟨x, hx, hk, _⟩ := (hE.has y v).1 hy
    refine (hT x hx y hk).2 ?_
    cases hc : seen.contains x.born with
    | true => rfl
    | false =>
      have : x ∈ leftOf es seen := Array.mem_filter.2 ⟨by simpa using hx, by rw [hc]; rfl⟩
      have h1 := Array.size_pos_of_mem this
      omega
  · obtain ⟨hem, hes⟩ := mem_left he
    obtain ⟨y, hy⟩ : ∃ y, e.key = .int k y := by
      have := hE.keys e hem
      cases hk : e.key <;> rw [hk] at this <;> simp [IsKey] at this
      subst this
      exact ⟨_, rfl⟩
    have hr1 : w1.heap[r]? = some (.mapIter (some b) since seen c0) := by rcases hal with rfl | rfl <;> exact hr
    have hb1 : w1.heap[b]? = some (.map es clock) := by rcases hal with rfl | rfl <;> exact hb
    have hset := heap_set (o' := .mapIter (some b) since (seen.push e.born) clock) hr1
    have hb' : (setBlock w1 r (.mapIter (some b) since (seen.push e.born) clock)).heap[b]? = some (.map es clock) := (hset.2 b (fun e1 => hne e1.symm)).trans hb1
    refine .inr ⟨y, e.val, _, _, (hE.has y e.val).2 ⟨e, hem, hy, rfl⟩, fun hyT => ?_, by rw [← hy]; exact hrun, ⟨es, clock, since, seen.push e.born, clock, hb', hE, hset.1, hold, hsk, hsk, rfl, fun x hx z hz => ?_⟩, by rw [← hcnt]; exact left_shrinks es seen e he, ?_, ⟨es, clock, since, seen, e, hset.1, hb', hem, hE.born, hy, rfl⟩⟩
    · rw [(hT e hem y hy).1 hyT] at hes; cases hes
    · rw [List.mem_append, hT x hx z hz, contains_push, Bool.or_eq_true, beq_iff_eq, List.mem_singleton]
      refine or_congr Iff.rfl ⟨fun h1 => ?_, fun h1 => ?_⟩
      · subst h1
        have : x = e := by
          refine Classical.byContradiction fun hxe => ?_
          obtain ⟨i, hi, h2⟩ := List.mem_iff_getElem.1 hx
          obtain ⟨j, hj, h3⟩ := List.mem_iff_getElem.1 hem
          rcases Nat.lt_trichotomy i j with q | q | q
          · have := List.pairwise_iff_getElem.1 hE.apart i j hi hj q
            rw [h2, h3, hz, hy] at this; exact this rfl
          · subst q; rw [h2] at h3; exact hxe h3
          · have := List.pairwise_iff_getElem.1 hE.apart j i hj hi q
            rw [h2, h3, hz, hy] at this; exact this rfl
        rw [this]
      · have := born_key hE.born hx hem h1
        rw [this, hy] at hz
        simp only [Value.int.injEq, true_and] at hz
        exact hz.symm
    · rcases hal with rfl | rfl <;> exact ⟨rfl, rfl, rfl, by simp [setBlock], fun i _ hi => hset.2 i (fun e1 => hi (by rw [e1]))⟩
end

/-! ### At the operations -/
section
variable {P : Program} {N : Nat} {ops : Array Oper} {K : Env → World → Prop} {m : Env} {w : World} {rest : List Oper} {ty : TypeId} {pos : String} {after : Array Edge} {g : Option (Nat × Bool)} {b r : Nat} {k : IntKind} {F : Int → Option Value}
theorem grow_back {w w' w1 : World} {row : Option Nat} (hw : Ext w w') (h : w'.grownBy w1 row) : w.grownBy w1 row := grow_ext hw h
theorem Ops_makeMapJ {dst : Nat} {t kt et : TypeId} [TMap P t kt et] [TInt P kt k] (hon : On N ops m ⟨some dst, .makeMap t none, ty, pos, after, g⟩) (hd : Nat.ble (dst + 1) N = true)
    (h : ∀ w1 b, Ext w w1 → w.heap.size ≤ b → MapJ w1 b k (fun _ => none) → Ops P N ops false K rest ((dst, .map (some b)) :: m) w1) : Ops P N ops false K (⟨some dst, .makeMap t none, ty, pos, after, g⟩ :: rest) m w := by
  refine ⟨fun a w' ha hw => ?_⟩
  unfold wpList
  rw [if_pos (hon.out a ha)]
  refine .inl ?_
  have hr : (execOp a.eval ⟨some dst, .makeMap t none, ty, pos, after, g⟩).run P w' = .ok (.value (.map (some w'.heap.size))) (w'.alloc (.map #[] 0)) := by
    simp only [execOp, Option.map_none, Sem.run_bind, run_makeMap, Result.andThen_ok]
    first | rfl | simp [run_makeMap]
  unfold Oper.wp
  rw [hr]
  exact (h _ _ (hw.alloc _) hw.size ⟨#[], 0, alloc_heap _ _, by simp, by simp, by simp, by simp, by simp⟩).out _ _ (ha.put (Nat.le_of_ble_eq_true hd) _) (Ext.refl _)
theorem Ops_updateJ {t kt et : TypeId} {x i u : Operand} {y : Int} {v : Value} [ht : TMap P t kt et] [hk : TInt P kt k] (hon : On N ops m ⟨none, .mapUpdate t x i u, ty, pos, after, g⟩)
    (hx : ev m x = some (.map (some b))) (hi : ev m i = some (.int k y)) (hu : ev m u = some v) (hM : MapJ w b k F)
    (h : ∀ w1, w.grownBy w1 (some b) → MapJ w1 b k (fun y' => if y' = y then some v else F y') → Ops P N ops false K rest m w1) : Ops P N ops false K (⟨none, .mapUpdate t x i u, ty, pos, after, g⟩ :: rest) m w := by
  refine ⟨fun a w' ha hw => ?_⟩
  unfold wpList
  rw [if_pos (hon.out a ha)]
  refine .inl ?_
  obtain ⟨w1, hrun, hg, hM1⟩ := (hM.ext hw).update (P := P) (t := t) (kt := kt) (et := et) y v
  have hr : (execOp a.eval ⟨none, .mapUpdate t x i u, ty, pos, after, g⟩).run P w' = .ok .skip w1 := by
    simp [execOp, ha.ev hx, ha.ev hi, ha.ev hu, hrun]
  unfold Oper.wp
  rw [hr]
  exact (h _ (grow_back hw hg) hM1).out _ _ (ha.put_none _) (Ext.refl _)
theorem Ops_insertJ {t kt et : TypeId} {x i u : Operand} {y : Int} {v : Value} [ht : TMap P t kt et] [hk : TInt P kt k] (hon : On N ops m ⟨none, .insert t x i u, ty, pos, after, g⟩)
    (hx : ev m x = some (.map (some b))) (hi : ev m i = some (.int k y)) (hu : ev m u = some v) (hM : MapJ w b k F)
    (h : ∀ w1, w.grownBy w1 (some b) → MapJ w1 b k (fun y' => if y' = y then some v else F y') → Ops P N ops false K rest m w1) : Ops P N ops false K (⟨none, .insert t x i u, ty, pos, after, g⟩ :: rest) m w := by
  refine ⟨fun a w' ha hw => ?_⟩
  unfold wpList
  rw [if_pos (hon.out a ha)]
  refine .inl ?_
  obtain ⟨w1, hrun, hg, hM1⟩ := (hM.ext hw).update (P := P) (t := t) (kt := kt) (et := et) y v
  have hr : (execOp a.eval ⟨none, .insert t x i u, ty, pos, after, g⟩).run P w' = .ok .skip w1 := by
    simp [execOp, ha.ev hx, ha.ev hi, ha.ev hu, hrun]
  unfold Oper.wp
  rw [hr]
  exact (h _ (grow_back hw hg) hM1).out _ _ (ha.put_none _) (Ext.refl _)
theorem Ops_rangeJ {dst : Nat} {t kt et : TypeId} {x : Operand} [ht : TMap P t kt et] (hon : On N ops m ⟨some dst, .range t x, ty, pos, after, g⟩) (hd : Nat.ble (dst + 1) N = true)
    (hx : ev m x = some (.map (some b))) (hM : MapJ w b k F)
    (h : ∀ w1 r cnt, Ext w w1 → w.heap.size ≤ r → IterJ w1 b r k F [] cnt → Ops P N ops false K rest ((dst, .pointer (some ⟨r, 0, none⟩)) :: m) w1) : Ops P N ops false K (⟨some dst, .range t x, ty, pos, after, g⟩ :: rest) m w := by
  refine ⟨fun a w' ha hw => ?_⟩
  unfold wpList
  rw [if_pos (hon.out a ha)]
  refine .inl ?_
  obtain ⟨es, clock, hb, hE⟩ := hM.ext hw
  have hr : (execOp a.eval ⟨some dst, .range t x, ty, pos, after, g⟩).run P w' = .ok (.value (.pointer (some ⟨w'.heap.size, 0, none⟩))) (w'.alloc (.mapIter (some b) clock #[] clock)) := by
    simp [execOp, ha.ev hx, run_range_map w' t kt et b es clock ht.h hb]
  unfold Oper.wp
  rw [hr]
  refine (h _ _ _ (hw.alloc _) hw.size ⟨es, clock, clock, #[], clock, ?_, hE, heap_alloc_new w' _, hE.old, Nat.le_refl _, Nat.le_refl _, rfl, fun x _ y _ => by simp⟩).out _ _ (ha.put (Nat.le_of_ble_eq_true hd) _) (Ext.refl _)
  rw [heap_alloc_old w' _ (lt_of_heap hb)]; exact hb
theorem Ops_nextJ {dst : Nat} {it : Operand} {T : List Int} {cnt : Nat} (hon : On N ops m ⟨some dst, .next it false, ty, pos, after, g⟩) (hd : Nat.ble (dst + 1) N = true)
    (hx : ev m it = some (.pointer (some ⟨r, 0, none⟩))) (hI : IterJ w b r k F T cnt)
    (hDone : (∀ y v, F y = some v → y ∈ T) → Ops P N ops false K rest ((dst, .tuple #[.bool false]) :: m) w)
    (hMore : ∀ y v w1 cnt', F y = some v → y ∉ T → IterJ w1 b r k F (T ++ [y]) cnt' → cnt' < cnt → w.grownBy w1 (some r) → EntryAt w1 b r k y v → Ops P N ops false K rest ((dst, .tuple #[.bool true, .int k y, v]) :: m) w1) :
    Ops P N ops false K (⟨some dst, .next it false, ty, pos, after, g⟩ :: rest) m w := by
  refine ⟨fun a w' ha hw => ?_⟩
  unfold wpList
  rw [if_pos (hon.out a ha)]
  refine .inl ?_
  rcases (hI.ext hw).next (P := P) ty with ⟨hall, hrun⟩ | ⟨y, v, w1, cnt', hF, hy, hrun, hI1, hlt, hg, hE⟩
  · have hr : (execOp a.eval ⟨some dst, .next it false, ty, pos, after, g⟩).run P w' = .ok (.value (.tuple #[.bool false])) w' := by
      simp [execOp, ha.ev hx, hrun]
    unfold Oper.wp
    rw [hr]
    exact (hDone hall).out _ _ (ha.put (Nat.le_of_ble_eq_true hd) _) hw
  · have hr : (execOp a.eval ⟨some dst, .next it false, ty, pos, after, g⟩).run P w' = .ok (.value (.tuple #[.bool true, .int k y, v])) w1 := by
      simp [execOp, ha.ev hx, hrun]
    unfold Oper.wp
    rw [hr]
    exact (hMore y v w1 cnt' hF hy hI1 hlt (grow_back hw hg) hE).out _ _ (ha.put (Nat.le_of_ble_eq_true hd) _) (Ext.refl _)
theorem Yl_entryJ {dst : Option Tmp} {it : Operand} {y : Int} {v : Value} (hx : ev m it = some (.pointer (some ⟨r, 0, none⟩))) (hE : EntryAt w b r k y v) : Yl P N m w ⟨dst, .entry it, ty, pos, after, g⟩ (.tuple #[.int k y, v]) :=
  Yl_of_run fun ac w' ha hw => by
    obtain ⟨es, clock, since, seen, e, hr, hb, hem, hn, h1, h2⟩ := hE.ext hw
    have := run_entry_at (P := P) w' r b since seen es clock e hr hb hem hn
    rw [h1, h2] at this
    simp [execOp, ha.ev hx, this]
theorem Ops_lenJ {dst : Nat} {t kt et : TypeId} {x : Operand} [ht : TMap P t kt et] (hon : On N ops m ⟨some dst, .call { callee := .builtin .len, args := #[x], argTypes := #[t] }, ty, pos, after, g⟩) (hd : Nat.ble (dst + 1) N = true)
    (hx : ev m x = some (.map (some b))) (hM : MapJ w b k F)
    (h : ∀ n : Nat, (n = 0 ↔ ∀ y, F y = none) → Ops P N ops false K rest ((dst, .int .i64 n) :: m) w) :
    Ops P N ops false K (⟨some dst, .call { callee := .builtin .len, args := #[x], argTypes := #[t] }, ty, pos, after, g⟩ :: rest) m w := by
  obtain ⟨es, clock, hb, hE⟩ := hM
  have hlt := lt_of_heap hb
  refine Ops_q hon hd (v := .int .i64 es.size) (Yl_of_run fun ac w' ha hw => ?_) (h es.size ?_)
  · have hb' : w'.heap[b]? = some (.map es clock) := (hw.block b hlt).trans hb
    simp [execOp, ha.ev hx, resolve, invoke, builtin, Builtin.len_, run_underlying ht.h, MapKept.run_getObj_map hb']
    rfl
  · constructor
    · intro h0 y
      cases hF : F y with
      | none => rfl
      | some v =>
        obtain ⟨e, he, _⟩ := (hE.has y v).1 hF
        have : 0 < es.toList.length := List.length_pos_of_mem he
        rw [Array.length_toList] at this; omega
    · intro hno
      refine Nat.eq_zero_of_not_pos fun hpos => ?_
      have hmem : es[0] ∈ es.toList := by simp
      have hk := hE.keys _ hmem
      cases hkk : es[0].key <;> rw [hkk] at hk <;> simp [IsKey] at hk
      subst hk
      have := (hE.has _ es[0].val).2 ⟨_, hmem, hkk, rfl⟩
      rw [hno] at this; cases this
end
end Go.Proofs.Ytkiidmbkibfbiaa

/-
  Regions that draw their order and hold one call among the first operations that may change what is there: what the others yield does not hang on it.
  No conditions beyond those that each rule states.
-/
namespace Go.Proofs.Ytkiidmbkibfbiaa
open Go.RowKit

section
variable {P : Program} {md : Region.Mode} {ops : Array Oper}
/-- In every world that has grown from w0 the operation is a call that leaves a value of which R is known, in a world of C. -/
def LateC (P : Program) (w0 : World) (C : World → Prop) (R : Value → World → Prop) (o : Oper) (a : Act) : Prop :=
  ∀ w', Ext w0 w' → ∃ f vs, (execOp a.eval o).run P w' = .ok (.enter f vs) w' ∧ Calls P f vs w' (fun e w'' => ∃ x, e = .returned x ∧ C w'' ∧ R x w'')
def yC (P : Program) (C : World → Prop) (o : Oper) (a : Act) (v : Value) : Prop := ∀ w', C w' → o.quietAt P a (Ext w') w' v
def callY (P : Program) (w0 : World) (C : World → Prop) (R : Value → World → Prop) (d : Nat) (o : Oper) (a : Act) (v : Value) : Prop :=
  if o.dst = some d then v = undef ∧ LateC P w0 C R o a else yC P C o a v
theorem same_callY (P : Program) (w0 : World) (C : World → Prop) (R : Value → World → Prop) (d : Nat) : Same (callY P w0 C R d) := fun o a a' v he h => by
  unfold callY at *
  split at h
  · rename_i hd
    rw [if_pos hd]
    refine ⟨h.1, fun w' hw' => ?_⟩
    rw [he]; exact h.2 w' hw'
  · rename_i hd
    rw [if_neg hd]
    intro w' hw'
    have := h w' hw'
    unfold Oper.quietAt at *
    rwa [he]

theorem call_any {n s d : Nat} (early : Nat → Bool) {Q1 : Act → Prop} {Q : Exit → Act → World → Prop} {w0 : World} {C : World → Prop} {R : Value → World → Prop} {pre : Array Oper} (hCe : ∀ w w', C w → Ext w w' → C w') (hR : ∀ x w w', Ext w w' → R x w → R x w') (hn : n ≤ ops.size) (hP : ∀ i o, i < n → ops[i]? = some o → pre[i]? = some o)
    (hA : ∀ i, n ≤ i → i < ops.size → ∀ j, j < n → early j = true ∨ reach ops md 9 i j = true)
    (hE : ∀ i o, ops[i]? = some o → i < n → ∀ e ∈ o.after, e.on < i)
    (hG : ∀ i o, ops[i]? = some o → i < n → ∀ g, o.guard = some g → g.1 < n ∧ ∀ o', ops[g.1]? = some o' → o'.dst ≠ some d)
    (hsel : ∀ (j : Nat) (o : Oper) cs b, ops[j]? = some o → j < n → o.op ≠ .select cs b)
    (hD : ∀ i o, ops[i]? = some o → i < n → d ∉ o.looksAt ops)
    (hg0 : ∀ i o, ops[i]? = some o → i < n → o.dst = some d → o.guard = none)
    (hin : ∃ i o, i < n ∧ ops[i]? = some o ∧ o.dst = some d)
    (huniq : ∀ i o i' o', ops[i]? = some o → i < n → o.dst = some d → ops[i']? = some o' → i' < n → o'.dst = some d → i = i')
    (last : ∀ a' a w, C w → Q1 a' → But [d] a' a → (∃ x, a.tmps[d]? = some x ∧ R x w) → wpAny P md ops Q s (upto ops.size n) a w) :
    ∀ (f : Nat) (L L' : Array Bool) (a' a : Act) (w : World), C w → L'.size = n → L.size = ops.size → (∀ j, j < n → L[j]? = L'[j]?) → (∀ j, n ≤ j → j < ops.size → L[j]? = some false) → cnt n L' = f →
      (∀ j, j < n → early j = true → L[j]? = some true) → Closed ops md L → But [d] a' a → d < a.tmps.size → ((∀ i o, L[i]? = some true → i < n → ops[i]? = some o → o.dst ≠ some d) → Ext w0 w) → ((∃ i o, L[i]? = some true ∧ i < n ∧ ops[i]? = some o ∧ o.dst = some d) → ∃ x, a.tmps[d]? = some x ∧ R x w) →
      anyY md pre (callY P w0 C R d) Q1 f L' a' → wpAny P md ops Q (f + s) L a w := by
  intro f
  induction f with
  | zero =>
    intro L L' a' a w hC hs' hs h1 h2 hc hea hcl hbut hDs hX hm h
    have hlist : ∀ j, j < n → L[j]? = some true := fun j hj => by
      rw [h1 j hj]
      have := List.countP_eq_zero.1 hc j (List.mem_range.2 hj)
      have hlt : j < L'.size := by omega
      simp [hlt] at this
      simp [hlt, this]
    have hL : L = upto ops.size n := by
      refine Array.ext_getElem? fun j => ?_
      rcases Nat.lt_or_ge j ops.size with hj | hj
      · rw [upto_get _ _ _ hj]
        rcases Nat.lt_or_ge j n with hjn | hjn
        · rw [hlist j hjn]; simp [hjn]
        · rw [h2 j hjn hj]; simp; omega
      · rw [Array.getElem?_eq_none (by omega), Array.getElem?_eq_none (by rw [upto_size]; omega)]
    rw [Nat.zero_add]
    obtain ⟨i, o, hi, ho, hd⟩ := hin
    have hm' := hm ⟨i, o, hlist i hi, hi, ho, hd⟩
    rw [hL]
    exact last a' a w hC h.2 hbut hm'
  | succ f ih =>
    intro L L' a' a w hC hs' hs h1 h2 hc hea hcl hbut hDs hX hm h
    rw [Nat.succ_add]
    have un : ∃ j, j < n ∧ L'[j]? = some false ∧ ∀ k, k < j → L'[k]? = some true := by
      have hpos : 0 < cnt n L' := by omega
      obtain ⟨j, hj, hjf⟩ := List.countP_pos_iff.1 hpos
      have hjn := List.mem_range.1 hj
      have hjl : j < L'.size := by omega
      have hjf' : L'[j]? = some false := by simp [hjl] at hjf ⊢; exact hjf
      clear hj hjf hjl
      induction j using Nat.strongRecOn with
      | ind j ihj =>
        by_cases hall : ∀ k, k < j → L'[k]? = some true
        · exact ⟨j, hjn, hjf', hall⟩
        · obtain ⟨k, hk⟩ := Classical.not_forall.1 hall
          obtain ⟨hkj, hk⟩ := Classical.not_imp.1 hk
          have hkl : k < L'.size := by omega
          refine ihj k hkj (by omega) ?_
          rw [Array.getElem?_eq_getElem hkl] at hk ⊢
          cases hb : L'[k] with
          | true => rw [hb] at hk; exact absurd rfl hk
          | false => rfl
    obtain ⟨j0, hj0, hjf, hbelow⟩ := un
    have on_lt : ∀ {i : Nat} {o : Oper} {e : Edge}, ops[i]? = some o → i < n → e ∈ o.after → L.getD e.on false = L'.getD e.on false := fun ho hi he => by
      have h4 := hE _ _ ho hi _ he
      rename_i i0 o0 e0
      have h3 := h1 e0.on (by omega)
      rw [Array.getD_eq_getD_getElem?, Array.getD_eq_getD_getElem?, h3]
    have lt_n : ∀ i, i ∈ Region.ready md ops L → i < n := fun i hi => by
      obtain ⟨_, o, ho, hall⟩ := mem_ready.1 hi
      rcases Nat.lt_or_ge i n with h3 | h3
      · exact h3
      · have hlt : i < ops.size := by
          rcases Nat.lt_or_ge i ops.size with h' | h'
          · exact h'
          · rw [Array.getElem?_eq_none h'] at ho; cases ho
        rcases hA i h3 hlt j0 hj0 with h4 | h4
        · have := hea j0 hj0 h4
          rw [h1 j0 hj0, hjf] at this; cases this
        · have := reach_listed hcl 9 i j0 (fun o' ho' => by obtain rfl := Option.some.inj (ho.symm.trans ho'); exact hall) h4
          rw [getD_of ((h1 j0 hj0).trans hjf)] at this
          cases this
    refine ⟨fun hr => ?_, fun i hi => ?_⟩
    · exfalso
      have hmem : j0 ∈ Region.ready md ops L := by
        have hlt : j0 < ops.size := by omega
        refine mem_ready.2 ⟨getD_of ((h1 j0 hj0).trans hjf) _, ops[j0], Array.getElem?_eq_getElem hlt, fun e he _ => ?_⟩
        have hlt' := hE j0 _ (Array.getElem?_eq_getElem hlt) hj0 e he
        exact getD_of ((h1 _ (by omega)).trans (hbelow _ hlt')) _
      rw [hr] at hmem; cases hmem
    · have hin' := lt_n i hi
      have hcl' := hcl.set hi
      obtain ⟨hun, o, ho, hall⟩ := mem_ready.1 hi
      have hpo : pre[i]? = some o := hP i o hin' ho
      have hun' : L'.getD i true = false := by
        have := h1 i hin'
        simp only [Array.getD_eq_getD_getElem?, ← this] at hun ⊢; exact hun
      have hi' : i ∈ Region.ready md pre L' := mem_ready.2 ⟨hun', o, hpo, fun e he hb => by rw [← on_lt ho hin' he]; exact hall e he hb⟩
      have hq := (stepY_iff hpo).1 (h.2 i hi')
      obtain ⟨v, hv, hK⟩ := hq
      have hset : ∀ j, j < n → (L.setIfInBounds i true)[j]? = (L'.setIfInBounds i true)[j]? := fun j hj => by
        by_cases e : i = j
        · subst e
          have hl1 : i < L.size := by omega
          have hl2 : i < L'.size := by omega
          simp [hl1, hl2]
        · rw [Array.getElem?_setIfInBounds_ne e, Array.getElem?_setIfInBounds_ne e]; exact h1 j hj
      have hset2 : ∀ j, n ≤ j → j < ops.size → (L.setIfInBounds i true)[j]? = some false := fun j hj hjs => by
        rw [Array.getElem?_setIfInBounds_ne (by omega)]; exact h2 j hj hjs
      have hea' : ∀ j, j < n → early j = true → (L.setIfInBounds i true)[j]? = some true := fun j hj he => by
        by_cases e : i = j
        · subst e
          have hl1 : i < L.size := by omega
          simp [hl1]
        · rw [Array.getElem?_setIfInBounds_ne e]; exact hea j hj he
      have hc' : cnt n (L'.setIfInBounds i true) = f := by have := cnt_set n L' i hin' hun'; omega
      have old : ∀ k, (L.setIfInBounds i true)[k]? = some true → k ≠ i → L[k]? = some true := fun k hk hki => by
        rwa [Array.getElem?_setIfInBounds_ne (Ne.symm hki)] at hk
      have newi : (L.setIfInBounds i true)[i]? = some true := by
        have hl1 : i < L.size := by omega
        simp [hl1]
      have keepi : ∀ k, L[k]? = some true → (L.setIfInBounds i true)[k]? = some true := fun k hk => by
        by_cases e : i = k
        · subst e; exact newi
        · rw [Array.getElem?_setIfInBounds_ne e]; exact hk
      have hex : execOp a.eval o = execOp a'.eval o := hbut.exec o (fun cs b => hsel i o cs b ho hin') (fun x hx => by rw [List.mem_singleton.1 hx]; exact hD i o ho hin')
      unfold wpOp
      simp only [ho]
      by_cases hdo : o.dst = some d
      · have hgn := hg0 i o ho hin' hdo
        have hwt : ∀ y, Region.wanted o y = true := fun y => by unfold Region.wanted; rw [hgn]
        rw [if_pos (hwt _)]
        rcases hv with ⟨_, hy⟩ | ⟨hwn, _⟩
        · unfold callY at hy
          rw [if_pos hdo] at hy
          obtain ⟨rfl, hl⟩ := hy
          have hX' : Ext w0 w := hX (fun k ok hk hkn hok hkd => by
            obtain rfl := huniq i o k ok ho hin' hdo hok hkn hkd
            rw [getD_of hk] at hun; cases hun)
          obtain ⟨f', vs, hrun, hcall⟩ := hl w hX'
          rw [← hex] at hrun
          refine .inl ?_
          unfold Oper.wp
          rw [hrun]
          refine Calls.mono hcall fun e w'' hg => ?_
          obtain ⟨x, rfl, hCw, hRx⟩ := hg
          show wpAny P md ops Q (f + s) (L.setIfInBounds i true) (a.put o.dst x) w''
          rw [hdo] at hK ⊢
          have hb2 : But [d] (a'.put (some d) undef) (a.put (some d) x) := by
            refine ⟨hbut.defers, by simp [Act.put, hbut.size], fun k hk => ?_⟩
            have hne : d ≠ k := fun e => hk (by rw [e]; exact List.mem_singleton.2 rfl)
            simp only [Act.put]
            rw [Array.getElem?_setIfInBounds_ne hne, Array.getElem?_setIfInBounds_ne hne]
            exact hbut.slot k hk
          exact ih _ _ _ _ w'' hCw (by simpa using hs') (by simpa using hs) hset hset2 hc' hea' hcl' hb2 (by simp [Act.put, hDs]) (fun hno => absurd hdo (hno i o newi hin' ho)) (fun _ => ⟨x, by simp [Act.put, hDs], hRx⟩) hK
        · rw [hwt] at hwn; cases hwn
      · have hw : Region.wanted o (yielded pre a'.tmps) = Region.wanted o (yielded ops a.tmps) := by
          unfold Region.wanted
          cases hg : o.guard with
          | none => rfl
          | some gd =>
            obtain ⟨hg1, hg2⟩ := hG i o ho hin' gd hg
            have hlt : gd.1 < ops.size := by omega
            have hog := Array.getElem?_eq_getElem hlt
            have hpg := hP _ _ hg1 hog
            have hy : yielded pre a'.tmps gd.1 = yielded ops a.tmps gd.1 := by
              simp only [yielded, hpg, hog, Option.bind_some]
              cases hd : (ops[gd.1]'hlt).dst with
              | none => rfl
              | some d' =>
                have hdD : d' ∉ [d] := fun hdD => hg2 _ hog (by rw [hd, List.mem_singleton.1 hdD])
                simp only [Option.bind_some, hbut.slot d' hdD]
            simp only [hy]
        have made : ∀ u w'', Ext w w'' → (∃ k o, (L.setIfInBounds i true)[k]? = some true ∧ k < n ∧ ops[k]? = some o ∧ o.dst = some d) → ∃ x, (a.put o.dst u).tmps[d]? = some x ∧ R x w'' := fun u w'' hw'' ⟨k, ok, hk, hkn, hok, hkd⟩ => by
          have hki : k ≠ i := fun e => by subst e; obtain rfl := Option.some.inj (ho.symm.trans hok); exact hdo hkd
          obtain ⟨x, m1, m2⟩ := hm ⟨k, ok, old k hk hki, hkn, hok, hkd⟩
          refine ⟨x, ?_, hR x _ _ hw'' m2⟩
          cases hdst : o.dst with
          | none => exact m1
          | some y =>
            have : y ≠ d := fun e => hdo (by rw [hdst, e])
            simp only [Act.put]
            rw [Array.getElem?_setIfInBounds_ne this]; exact m1
        have szP : ∀ u, d < (a.put o.dst u).tmps.size := fun u => by cases o.dst <;> simp [Act.put, hDs]
        rcases hv with ⟨hwn, hy⟩ | ⟨hwn, hvu⟩
        · unfold callY at hy
          rw [if_neg hdo] at hy
          rw [hw] at hwn
          rw [if_pos hwn]
          refine .inl (Oper.wp_of_quiet (C := fun w'' => Ext w w'') (K := fun x => x = a.put o.dst v) (Ext.refl w) (fun a1 w1 hw1 e => ?_) ?_)
          · subst e
            exact ih _ _ (a'.put o.dst v) _ w1 (hCe _ _ hC hw1) (by simpa using hs') (by simpa using hs) hset hset2 hc' hea' hcl' (hbut.put _ _) (szP v) (fun hno => (hX (fun k ok hk hkn hok => hno k ok (keepi k hk) hkn hok)).trans hw1) (made v w1 hw1) hK
          · refine ⟨v, fun w1 hw1 => ?_, rfl⟩
            have hq1 := hy w1 (hCe _ _ hC hw1)
            unfold Oper.quietAt at hq1 ⊢
            rw [← hex] at hq1
            generalize (execOp a.eval o).run P w1 = r at *
            cases r with
            | ok nx w2 =>
              cases nx <;> simp only [Oper.quietUpon] at hq1 ⊢ <;> first | exact hq1 | exact ⟨hq1.1, hq1.2.mono fun e w3 h3 => ⟨h3.1, hw1.trans h3.2⟩⟩
            | halt x w2 => simp only [Oper.quietUpon] at hq1
        · rw [hw] at hwn
          rw [if_neg (by rw [hwn]; exact Bool.false_ne_true)]
          subst hvu
          exact ih _ _ (a'.put o.dst undef) _ w hC (by simpa using hs') (by simpa using hs) hset hset2 hc' hea' hcl' (hbut.put _ _) (szP _) (fun hno => hX (fun k ok hk hkn hok => hno k ok (keepi k hk) hkn hok)) (made undef w (Ext.refl w)) hK

theorem wp_call {l : List Oper} {n d id : Nat} {Q1 : Act → Prop} {Q : Exit → Act → World → Prop} {w0 w : World} {a : Act} {C : World → Prop} {R : Value → World → Prop} (hCe : ∀ w w', C w → Ext w w' → C w') (hC0 : ∀ w, Ext w0 w → C w) (hR : ∀ x w w', Ext w w' → R x w → R x w') (hm : P.follows .mixedOrders = true) (hB : lateB l.toArray n d false = true)
    (hd : d < a.tmps.size) (hw : Ext w0 w)
    (h : listY (l.take n).toArray (callY P w0 C R d) Q1 (l.take n) a)
    (last : ∀ a' a w, C w → Q1 a' → But [d] a' a → (∃ x, a.tmps[d]? = some x ∧ R x w) → wpList P l.toArray Q (l.drop n) a w) :
    (Code.region id l.toArray true).wp P Q a w := by
  simp only [lateB, Bool.and_eq_true] at hB
  obtain ⟨⟨⟨⟨⟨⟨b1, b0⟩, b2⟩, b3⟩, b4⟩, b5⟩, b6⟩ := hB
  have hn : n ≤ l.toArray.size := Nat.le_of_ble_eq_true b1
  have hnl : n ≤ l.length := by simpa using hn
  have at3 : ∀ i o, l.toArray[i]? = some o → _ := fun i o ho => by
    have hlt : i < l.toArray.size := by
      rcases Nat.lt_or_ge i l.toArray.size with h' | h'
      · exact h'
      · rw [Array.getElem?_eq_none h'] at ho; cases ho
    have := List.all_eq_true.1 b3 i (List.mem_range.2 hlt)
    simp only [ho] at this
    exact this
  have pre3 : ∀ i o, l.toArray[i]? = some o → i < n → _ := fun i o ho hi => by
    have := at3 i o ho
    rw [if_pos (Nat.ble_eq_true_of_le hi)] at this
    simp only [Bool.and_eq_true] at this
    exact this
  have hP : ∀ i o, i < n → l.toArray[i]? = some o → (l.take n).toArray[i]? = some o := fun i o hi ho => by
    have : l[i]? = some o := by simpa using ho
    simp [hi, this]
  have hE : ∀ i o, l.toArray[i]? = some o → i < n → ∀ e ∈ o.after, e.on < i := fun i o ho hi e he =>
    Nat.le_of_ble_eq_true (Array.all_eq_true_iff_forall_mem.1 (pre3 i o ho hi).1.1.1 e he)
  have hG : ∀ i o, l.toArray[i]? = some o → i < n → ∀ g, o.guard = some g → g.1 < n ∧ ∀ o', l.toArray[g.1]? = some o' → o'.dst ≠ some d := fun i o ho hi g hg => by
    have h2 := (pre3 i o ho hi).1.1.2
    rw [hg] at h2
    simp only [Bool.and_eq_true] at h2
    refine ⟨Nat.le_of_ble_eq_true h2.1, fun o' ho' => ?_⟩
    have h3 := h2.2
    rw [ho'] at h3
    simpa using h3
  have hD : ∀ i o, l.toArray[i]? = some o → i < n → d ∉ o.looksAt l.toArray := fun i o ho hi => by
    have h2 := (pre3 i o ho hi).1.2
    simpa using h2
  have hlate : ∀ i o, l.toArray[i]? = some o → i < n → o.dst = some d → o.guard = none ∧ ∀ i' o', l.toArray[i']? = some o' → i' < n → o'.dst = some d → i = i' := fun i o ho hi hdo => by
    have h2 := (pre3 i o ho hi).2
    rw [if_pos (by rw [hdo]; simp)] at h2
    simp only [Bool.and_eq_true] at h2
    refine ⟨by simpa using h2.1, fun i' o' ho' hi' hdo' => ?_⟩
    have h3 := List.all_eq_true.1 h2.2 i' (List.mem_range.2 hi')
    simp only [Bool.or_eq_true] at h3
    rcases h3 with h3 | h3
    · exact Nat.eq_of_beq_eq_true h3
    · rw [ho'] at h3
      simp [hdo'] at h3
  have hA : ∀ i, n ≤ i → i < l.toArray.size → ∀ j, j < n → (fun j => false && Nat.beq j 0) j = true ∨ reach l.toArray .any 9 i j = true := fun i hi his j hj => by
    have := at3 i _ (Array.getElem?_eq_getElem his)
    rw [if_neg (fun hb => by have := Nat.le_of_ble_eq_true hb; omega)] at this
    exact Bool.or_eq_true_iff.1 (List.all_eq_true.1 this j (List.mem_range.2 hj))
  have hr : ∀ k, n ≤ k → k < l.toArray.size → Region.ready .any l.toArray (upto l.toArray.size k) = [k] := fun k hk hks => by
    have := List.all_eq_true.1 b4 k (List.mem_range.2 hks)
    simp only [Bool.or_eq_true] at this
    rcases this with h' | h'
    · have := Nat.le_of_ble_eq_true h'; omega
    · split at h'
      · rename_i k' he
        rw [he, Nat.eq_of_beq_eq_true h']
      · cases h'
  have he : Region.ready .any l.toArray (upto l.toArray.size l.toArray.size) = [] := by simpa using b5
  have hex : ∃ i o, i < n ∧ l.toArray[i]? = some o ∧ o.dst = some d := by
    obtain ⟨i, hi, h2⟩ := List.any_eq_true.1 b6
    have hi' := List.mem_range.1 hi
    have hlt : i < l.toArray.size := by omega
    rw [Array.getElem?_eq_getElem hlt] at h2
    exact ⟨i, _, hi', Array.getElem?_eq_getElem hlt, by simpa using h2⟩
  simp only [Region.lexB, Bool.and_eq_true] at b2
  have hdl : (l.drop n).length = l.toArray.size - n := by simp
  have hlen : (l.take n).length = n := by simp; omega
  refine wp_region_any hm ?_
  have quiet := anyY_lex (md := .any) (same_callY P w0 C R d) b2.1 (l.take n) 0 (Array.replicate (l.take n).toArray.size false) a (by simp) (by simpa using b2.2) h
  have key := call_any (P := P) (md := .any) (ops := l.toArray) (pre := (l.take n).toArray) (n := n) (s := (l.drop n).length) (d := d) (fun j => false && Nat.beq j 0) (Q := Q) (Q1 := Q1) (w0 := w0) (R := R)
    hCe hR hn hP hA hE hG (fun j o cs b ho _ => Region.noSelect_spec b0 j o cs b ho) hD (fun i o ho hi hdo => (hlate i o ho hi hdo).1) hex (fun i o i' o' ho hi hd ho' hi' hd' => (hlate i o ho hi hd).2 i' o' ho' hi' hd')
    (fun a' a1 w1 hw1 q1 hb hmd => one_any hr he (l.drop n) n (Nat.le_refl _) (by rw [hdl]; omega) (fun j => by simp) a1 w1
      (last a' a1 w1 hw1 q1 hb hmd))
  have hall : ∀ k : Nat, (Array.replicate l.toArray.size false)[k]? ≠ some true := fun k hk => by
    simp only [Array.getElem?_replicate] at hk
    split at hk <;> simp at hk
  have hcnt : cnt n (Array.replicate (l.take n).toArray.size false) = (l.take n).length := by
    unfold cnt
    rw [List.countP_eq_length.2]
    · rw [hlen]; simp
    · intro j hj
      have := List.mem_range.1 hj
      have h2 : j < (l.take n).toArray.size := by simp; omega
      simp only [Array.getD_eq_getD_getElem?, Array.getElem?_replicate]
      rw [if_pos h2]; rfl
  have hsame : ∀ j, j < n → (Array.replicate l.toArray.size false)[j]? = (Array.replicate (l.take n).toArray.size false)[j]? := fun j hj => by
    have h1 : j < l.length := by omega
    have h2 : j < (l.take n).length := by omega
    simp only [Array.getElem?_replicate]
    rw [if_pos (by simpa using h1), if_pos (by simpa using h2)]
  have hclosed : Closed l.toArray .any (Array.replicate l.toArray.size false) := fun (k : Nat) o hk => by
    simp only [Array.getD_eq_getD_getElem?, Array.getElem?_replicate] at hk
    split at hk <;> simp at hk
  have e : (l.take n).length + (l.drop n).length = l.toArray.size := by rw [hlen, hdl]; omega
  have := key (l.take n).length (Array.replicate l.toArray.size false) (Array.replicate (l.take n).toArray.size false) a a { w with drawn := w.drawn + 1 } (hC0 _ hw.draw) (by simp; omega) (by simp)
    hsame (fun j _ hj => by simp only [Array.getElem?_replicate]; rw [if_pos hj]) hcnt (fun j _ h => by cases h) hclosed ⟨rfl, rfl, fun _ _ => rfl⟩ hd (fun _ => hw.draw) (fun ⟨i, o, hi, _⟩ => absurd hi (hall i)) quiet
  rwa [e] at this

end

section
variable {P : Program} {N : Nat} {m : Env} {w : World} {C : World → Prop}
/-- Operations without guards that yield the same values in every world of C; K is known of the frame behind them. -/
def YsC (P : Program) (N : Nat) (C : World → Prop) (d : Nat) (K : Env → Prop) : List Oper → Env → Prop
  | [], m => K m
  | o :: r, m => ∃ d' v, o.dst = some d' ∧ Nat.ble (d' + 1) N = true ∧ Nat.beq d' d = false ∧ o.guard = none ∧ (∀ w, C w → Yl P N m w o v) ∧ YsC P N C d K r ((d', v) :: m)
theorem YsC.nil {d : Nat} {K : Env → Prop} {l : List Oper} (hl : l = []) (h : K m) : YsC P N C d K l m := by subst hl; exact h
theorem YsC.cons {d d' : Nat} {o : Oper} {r : List Oper} {v : Value} {K : Env → Prop} (h1 : o.dst = some d') (h2 : Nat.ble (d' + 1) N = true) (h3 : Nat.beq d' d = false) (h4 : o.guard = none) (h5 : ∀ w, C w → Yl P N m w o v) (h6 : YsC P N C d K r ((d', v) :: m)) : YsC P N C d K (o :: r) m :=
  ⟨d', v, h1, h2, h3, h4, h5, h6⟩
theorem listY_ys {ops : Array Oper} {Q : Act → Prop} {w0 : World} {R : Value → World → Prop} {d : Nat} {K : Env → Prop} (hQ : ∀ M a, K M → Agree N M a → Q a) : ∀ (l : List Oper) (m : Env) (a : Act), YsC P N C d K l m → Agree N m a → listY ops (callY P w0 C R d) Q l a
  | [], m, a, h, ha => hQ m a h ha
  | o :: r, m, a, h, ha => by
    obtain ⟨d', v, h1, h2, h3, h4, h5, h6⟩ := h
    unfold listY
    rw [if_pos (by unfold Region.wanted; rw [h4])]
    refine ⟨v, ?_, ?_⟩
    · unfold callY
      rw [if_neg (fun e => by rw [h1] at e; cases e; rw [Nat.beq_refl] at h3; cases h3)]
      exact fun w' hw' => (h5 w' hw').out a w' ha (Ext.refl _)
    · rw [h1]
      exact listY_ys hQ r _ _ h6 (ha.put (Nat.le_of_ble_eq_true h2) v)
/-- A region that draws its order, with a call at place i0 among its first n operations. -/
theorem V_callC (n i0 : Nat) {Q : Exit → Env → World → Prop} {id : Nat} {l : List Oper} {d : Nat} {f : FuncId} {xs : Array Operand} {ats : Array TypeId} {ty : TypeId} {pos : String} {after : Array Edge} {R : Value → World → Prop} [hf : TFun P f]
    (hCe : ∀ w w', C w → Ext w w' → C w') (hC0 : ∀ w', Ext w w' → C w') (hR : ∀ x w w', Ext w w' → R x w → R x w')
    (hm : P.follows .mixedOrders = true) (ho : l.take n = l.take i0 ++ ⟨some d, .call { callee := .value (.func f), args := xs, argTypes := ats }, ty, pos, after, none⟩ :: (l.take n).drop (i0 + 1)) (hB : lateB l.toArray n d false = true) (hd : Nat.ble (d + 1) N = true)
    (h : YsC P N C d (fun M1 => ∃ vs, evs M1 xs.toList = some vs ∧ (∀ w', Ext w w' → Calls P f vs.toArray w' (fun e w'' => ∃ x, e = .returned x ∧ C w'' ∧ R x w'')) ∧
      YsC P N C d (fun M2 => ∀ x w2, C w2 → R x w2 → Ops P N l.toArray false (fun m w => Q .normal m w) (l.drop n) ((d, x) :: M2) w2) ((l.take n).drop (i0 + 1)) ((d, undef) :: M1)) (l.take i0) m) :
    V P N (.region id l.toArray true) Q m w := by
  have hlt : d < N := Nat.le_of_ble_eq_true hd
  refine ⟨fun a w' ha hw => Code.wp_mono (Q := fun e a w => e = .normal ∧ lift N Q .normal a w) (fun e a w ⟨h1, h2⟩ => by rw [h1]; exact h2) ?_⟩
  refine wp_call (w0 := w) (C := C) (R := R) hCe hC0 hR hm hB (by rw [ha.size]; exact hlt) hw (Q1 := fun a' => ∃ M2, (∀ x w2, C w2 → R x w2 → Ops P N l.toArray false (fun m w => Q .normal m w) (l.drop n) ((d, x) :: M2) w2) ∧ Agree N M2 a') ?_ ?_
  · generalize hL : (l.take n).toArray = A
    rw [ho]
    refine listY_append _ _ _ (listY_ys (fun M1 a1 ⟨vs, hx, hc, h2⟩ ag1 => ?_) _ _ _ h ha)
    unfold listY
    rw [if_pos (by unfold Region.wanted; rfl)]
    refine ⟨undef, ?_, ?_⟩
    · unfold callY
      rw [if_pos rfl]
      refine ⟨rfl, fun w1 hw1 => ⟨f, vs.toArray, ?_, hc w1 hw1⟩⟩
      have e1 : xs.map a1.eval = vs.toArray := map_evs ag1 hx
      rw [execOp_call_go, e1]
      simpa using hf.h vs.toArray w1
    · exact listY_ys (fun M2 _ h3 ag2 => ⟨M2, h3, ag2⟩) _ _ _ h2 (ag1.put hlt undef)
  · rintro a' a1 w1 hw1 ⟨M2, h, ag⟩ hb ⟨x, hx, hR1⟩
    have ag1 : Agree N ((d, x) :: M2) a1 := by
      refine ⟨by rw [hb.defers]; exact ag.defers, by rw [hb.size]; exact ag.size, fun i v hi => ?_⟩
      by_cases e : d = i
      · subst e
        rw [look_same] at hi; cases hi; exact hx
      · rw [look_other _ _ e] at hi
        rw [hb.slot i (fun h => e (List.mem_singleton.1 h).symm)]
        exact ag.slot i v hi
    have h5 := (h x w1 hw1 hR1).out a1 w1 ag1 (Ext.refl _)
    have mono : ∀ (l' : List Oper) (a : Act) (w0 : World), wpList P l.toArray (fun e a' w'' => e = .normal ∧ ∃ m' w1, Q .normal m' w1 ∧ Agree N m' a' ∧ Ext w1 w'') l' a w0 → wpList P l.toArray (fun e a w => e = .normal ∧ lift N Q .normal a w) l' a w0 := by
      intro l'
      induction l' with
      | nil => exact fun a w0 ⟨_, m', w1, q, ag, ex⟩ => ⟨rfl, m', w1, q, ag, ex⟩
      | cons o r ih =>
        intro a w0 h6
        unfold wpList at h6 ⊢
        split
        · rename_i hwn
          rw [if_pos hwn] at h6
          rcases h6 with h6 | h6
          · exact .inl (wp_normal (fun a1 w1 hh => ih a1 w1 hh) h6)
          · obtain ⟨_, _, _, h7, _⟩ := h6; cases h7
        · rename_i hwn
          rw [if_neg hwn] at h6
          exact ih _ _ h6
    exact mono _ _ _ h5
end
end Go.Proofs.Ytkiidmbkibfbiaa

/-
  Regions that draw their order and hold, among the first operations, several that each give a value in new memory (calls, allocations, literals): what the others yield does not hang on them.
  No conditions beyond those that each rule states.
-/
namespace Go.Proofs.Ytkiidmbkibfbiaa
open Go.RowKit

section
variable {P : Program} {md : Region.Mode} {ops : Array Oper}
/-- The operation leaves a value of which R is known, in a world that has grown. -/
def Giver (P : Program) (s : Sem Next) (w' : World) (R : Value → World → Prop) : Prop :=
  (∃ x w'', s.run P w' = .ok (.value x) w'' ∧ Ext w' w'' ∧ R x w'') ∨ ∃ f vs, s.run P w' = .ok (.enter f vs) w' ∧ Calls P f vs w' (fun e w'' => ∃ x, e = .returned x ∧ Ext w' w'' ∧ R x w'')
def LateG (P : Program) (w0 : World) (R : Value → World → Prop) (o : Oper) (a : Act) : Prop := ∀ w', Ext w0 w' → Giver P (execOp a.eval o) w' R
def giveY (P : Program) (w0 : World) (D : List Nat) (R : Nat → Value → World → Prop) (o : Oper) (a : Act) (v : Value) : Prop :=
  match o.dst with
  | some d => if D.contains d = true then v = undef ∧ LateG P w0 (R d) o a else yC P (Ext w0) o a v
  | none => yC P (Ext w0) o a v
theorem giveY_in {P : Program} {w0 : World} {D : List Nat} {R : Nat → Value → World → Prop} {o : Oper} {a : Act} {v : Value} {d : Nat} (hd : o.dst = some d) (hD : D.contains d = true) : giveY P w0 D R o a v = (v = undef ∧ LateG P w0 (R d) o a) := by
  unfold giveY; rw [hd]; simp only; rw [if_pos hD]
theorem giveY_out {P : Program} {w0 : World} {D : List Nat} {R : Nat → Value → World → Prop} {o : Oper} {a : Act} {v : Value} (hd : ∀ d, o.dst = some d → D.contains d = false) : giveY P w0 D R o a v = yC P (Ext w0) o a v := by
  unfold giveY
  cases hdst : o.dst with
  | none => rfl
  | some d => simp only; rw [if_neg (by rw [hd d hdst]; decide)]
theorem same_giveY (P : Program) (w0 : World) (D : List Nat) (R : Nat → Value → World → Prop) : Same (giveY P w0 D R) := fun o a a' v he h => by
  by_cases hd : ∃ d, o.dst = some d ∧ D.contains d = true
  · obtain ⟨d, h1, h2⟩ := hd
    rw [giveY_in h1 h2] at h ⊢
    refine ⟨h.1, fun w' hw' => ?_⟩
    rw [he]; exact h.2 w' hw'
  · have h1 : ∀ d, o.dst = some d → D.contains d = false := fun d h2 => by
      cases hc : D.contains d with
      | false => rfl
      | true => exact absurd ⟨d, h2, hc⟩ hd
    rw [giveY_out h1] at h ⊢
    intro w' hw'
    have := h w' hw'
    unfold Oper.quietAt at *
    rwa [he]

theorem give_any {n s : Nat} {D : List Nat} (early : Nat → Bool) {Q1 : Act → Prop} {Q : Exit → Act → World → Prop} {w0 : World} {R : Nat → Value → World → Prop} {pre : Array Oper} (hR : ∀ d x w w', Ext w w' → R d x w → R d x w') (hn : n ≤ ops.size) (hP : ∀ i o, i < n → ops[i]? = some o → pre[i]? = some o)
    (hA : ∀ i, n ≤ i → i < ops.size → ∀ j, j < n → early j = true ∨ reach ops md 9 i j = true)
    (hE : ∀ i o, ops[i]? = some o → i < n → ∀ e ∈ o.after, e.on < i)
    (hG : ∀ i o, ops[i]? = some o → i < n → ∀ g, o.guard = some g → g.1 < n ∧ ∀ o', ops[g.1]? = some o' → ∀ d ∈ D, o'.dst ≠ some d)
    (hsel : ∀ (j : Nat) (o : Oper) cs b, ops[j]? = some o → j < n → o.op ≠ .select cs b)
    (hD : ∀ i o, ops[i]? = some o → i < n → ∀ d ∈ D, d ∉ o.looksAt ops)
    (hg0 : ∀ i o, ops[i]? = some o → i < n → ∀ d ∈ D, o.dst = some d → o.guard = none)
    (hin : ∀ d ∈ D, ∃ i o, i < n ∧ ops[i]? = some o ∧ o.dst = some d)
    (last : ∀ a' a w, Ext w0 w → Q1 a' → But D a' a → (∀ d ∈ D, ∃ x, a.tmps[d]? = some x ∧ R d x w) → wpAny P md ops Q s (upto ops.size n) a w) :
    ∀ (f : Nat) (L L' : Array Bool) (a' a : Act) (w : World), Ext w0 w → L'.size = n → L.size = ops.size → (∀ j, j < n → L[j]? = L'[j]?) → (∀ j, n ≤ j → j < ops.size → L[j]? = some false) → cnt n L' = f →
      (∀ j, j < n → early j = true → L[j]? = some true) → Closed ops md L → But D a' a → (∀ d ∈ D, d < a.tmps.size) → (∀ d ∈ D, (∃ i o, L[i]? = some true ∧ i < n ∧ ops[i]? = some o ∧ o.dst = some d) → ∃ x, a.tmps[d]? = some x ∧ R d x w) →
      anyY md pre (giveY P w0 D R) Q1 f L' a' → wpAny P md ops Q (f + s) L a w := by
  intro f
  induction f with
  | zero =>
    intro L L' a' a w hC hs' hs h1 h2 hc hea hcl hbut hDs hm h
    have hlist : ∀ j, j < n → L[j]? = some true := fun j hj => by
      rw [h1 j hj]
      have := List.countP_eq_zero.1 hc j (List.mem_range.2 hj)
      have hlt : j < L'.size := by omega
      simp [hlt] at this
      simp [hlt, this]
    have hL : L = upto ops.size n := by
      refine Array.ext_getElem? fun j => ?_
      rcases Nat.lt_or_ge j ops.size with hj | hj
      · rw [upto_get _ _ _ hj]
        rcases Nat.lt_or_ge j n with hjn | hjn
        · rw [hlist j hjn]; simp [hjn]
        · rw [h2 j hjn hj]; simp; omega
      · rw [Array.getElem?_eq_none (by omega), Array.getElem?_eq_none (by rw [upto_size]; omega)]
    rw [Nat.zero_add]
    rw [hL]
    refine last a' a w hC h.2 hbut fun d hd => ?_
    obtain ⟨i, o, hi, ho, hd2⟩ := hin d hd
    exact hm d hd ⟨i, o, hlist i hi, hi, ho, hd2⟩
  | succ f ih =>
    intro L L' a' a w hC hs' hs h1 h2 hc hea hcl hbut hDs hm h
    rw [Nat.succ_add]
    have un : ∃ j, j < n ∧ L'[j]? = some false ∧ ∀ k, k < j → L'[k]? = some true := by
      have hpos : 0 < cnt n L' := by omega
      obtain ⟨j, hj, hjf⟩ := List.countP_pos_iff.1 hpos
      have hjn := List.mem_range.1 hj
      have hjl : j < L'.size := by omega
      have hjf' : L'[j]? = some false := by simp [hjl] at hjf ⊢; exact hjf
      clear hj hjf hjl
      induction j using Nat.strongRecOn with
      | ind j ihj =>
        by_cases hall : ∀ k, k < j → L'[k]? = some true
        · exact ⟨j, hjn, hjf', hall⟩
        · obtain ⟨k, hk⟩ := Classical.not_forall.1 hall
          obtain ⟨hkj, hk⟩ := Classical.not_imp.1 hk
          have hkl : k < L'.size := by omega
          refine ihj k hkj (by omega) ?_
          rw [Array.getElem?_eq_getElem hkl] at hk ⊢
          cases hb : L'[k] with
          | true => rw [hb] at hk; exact absurd rfl hk
          | false => rfl
    obtain ⟨j0, hj0, hjf, hbelow⟩ := un
    have on_lt : ∀ {i : Nat} {o : Oper} {e : Edge}, ops[i]? = some o → i < n → e ∈ o.after → L.getD e.on false = L'.getD e.on false := fun ho hi he => by
      have h4 := hE _ _ ho hi _ he
      rename_i i0 o0 e0
      have h3 := h1 e0.on (by omega)
      rw [Array.getD_eq_getD_getElem?, Array.getD_eq_getD_getElem?, h3]
    have lt_n : ∀ i, i ∈ Region.ready md ops L → i < n := fun i hi => by
      obtain ⟨_, o, ho, hall⟩ := mem_ready.1 hi
      rcases Nat.lt_or_ge i n with h3 | h3
      · exact h3
      · have hlt : i < ops.size := by
          rcases Nat.lt_or_ge i ops.size with h' | h'
          · exact h'
          · rw [Array.getElem?_eq_none h'] at ho; cases ho
        rcases hA i h3 hlt j0 hj0 with h4 | h4
        · have := hea j0 hj0 h4
          rw [h1 j0 hj0, hjf] at this; cases this
        · have := reach_listed hcl 9 i j0 (fun o' ho' => by obtain rfl := Option.some.inj (ho.symm.trans ho'); exact hall) h4
          rw [getD_of ((h1 j0 hj0).trans hjf)] at this
          cases this
    refine ⟨fun hr => ?_, fun i hi => ?_⟩
    · exfalso
      have hmem : j0 ∈ Region.ready md ops L := by
        have hlt : j0 < ops.size := by omega
        refine mem_ready.2 ⟨getD_of ((h1 j0 hj0).trans hjf) _, ops[j0], Array.getElem?_eq_getElem hlt, fun e he _ => ?_⟩
        have hlt' := hE j0 _ (Array.getElem?_eq_getElem hlt) hj0 e he
        exact getD_of ((h1 _ (by omega)).trans (hbelow _ hlt')) _
      rw [hr] at hmem; cases hmem
    · have hin' := lt_n i hi
      have hcl' := hcl.set hi
      obtain ⟨hun, o, ho, hall⟩ := mem_ready.1 hi
      have hpo : pre[i]? = some o := hP i o hin' ho
      have hun' : L'.getD i true = false := by
        have := h1 i hin'
        simp only [Array.getD_eq_getD_getElem?, ← this] at hun ⊢; exact hun
      have hi' : i ∈ Region.ready md pre L' := mem_ready.2 ⟨hun', o, hpo, fun e he hb => by rw [← on_lt ho hin' he]; exact hall e he hb⟩
      have hq := (stepY_iff hpo).1 (h.2 i hi')
      obtain ⟨v, hv, hK⟩ := hq
      have hset : ∀ j, j < n → (L.setIfInBounds i true)[j]? = (L'.setIfInBounds i true)[j]? := fun j hj => by
        by_cases e : i = j
        · subst e
          have hl1 : i < L.size := by omega
          have hl2 : i < L'.size := by omega
          simp [hl1, hl2]
        · rw [Array.getElem?_setIfInBounds_ne e, Array.getElem?_setIfInBounds_ne e]; exact h1 j hj
      have hset2 : ∀ j, n ≤ j → j < ops.size → (L.setIfInBounds i true)[j]? = some false := fun j hj hjs => by
        rw [Array.getElem?_setIfInBounds_ne (by omega)]; exact h2 j hj hjs
      have hea' : ∀ j, j < n → early j = true → (L.setIfInBounds i true)[j]? = some true := fun j hj he => by
        by_cases e : i = j
        · subst e
          have hl1 : i < L.size := by omega
          simp [hl1]
        · rw [Array.getElem?_setIfInBounds_ne e]; exact hea j hj he
      have hc' : cnt n (L'.setIfInBounds i true) = f := by have := cnt_set n L' i hin' hun'; omega
      have old : ∀ k, (L.setIfInBounds i true)[k]? = some true → k ≠ i → L[k]? = some true := fun k hk hki => by
        rwa [Array.getElem?_setIfInBounds_ne (Ne.symm hki)] at hk
      have hex : execOp a.eval o = execOp a'.eval o := hbut.exec o (fun cs b => hsel i o cs b ho hin') (fun x hx => hD i o ho hin' x hx)
      unfold wpOp
      simp only [ho]
      by_cases hdo : ∃ d, o.dst = some d ∧ D.contains d = true
      · obtain ⟨d, hdo, hdc⟩ := hdo
        have hdD : d ∈ D := by simpa using hdc
        have hgn := hg0 i o ho hin' d hdD hdo
        have hwt : ∀ y, Region.wanted o y = true := fun y => by unfold Region.wanted; rw [hgn]
        rw [if_pos (hwt _)]
        rcases hv with ⟨_, hy⟩ | ⟨hwn, _⟩
        · rw [giveY_in hdo hdc] at hy
          obtain ⟨rfl, hl⟩ := hy
          have cont : ∀ x w'', Ext w w'' → R d x w'' → wpAny P md ops Q (f + s) (L.setIfInBounds i true) (a.put o.dst x) w'' := fun x w'' hCw hRx => by
            rw [hdo] at hK ⊢
            have hb2 : But D (a'.put (some d) undef) (a.put (some d) x) := by
              refine ⟨hbut.defers, by simp [Act.put, hbut.size], fun k hk => ?_⟩
              have hne : d ≠ k := fun e => hk (by rw [← e]; exact hdD)
              simp only [Act.put]
              rw [Array.getElem?_setIfInBounds_ne hne, Array.getElem?_setIfInBounds_ne hne]
              exact hbut.slot k hk
            refine ih _ _ _ _ w'' (hC.trans hCw) (by simpa using hs') (by simpa using hs) hset hset2 hc' hea' hcl' hb2 (fun d2 hd2 => by simp [Act.put, hDs d2 hd2]) (fun d2 hd2 ⟨k, ok, hk, hkn, hok, hkd⟩ => ?_) hK
            by_cases e : d2 = d
            · subst e; exact ⟨x, by simp [Act.put, hDs d2 hd2], hRx⟩
            · have hki : k ≠ i := fun e2 => by subst e2; obtain rfl := Option.some.inj (ho.symm.trans hok); rw [hdo] at hkd; cases hkd; exact e rfl
              obtain ⟨z, m1, m2⟩ := hm d2 hd2 ⟨k, ok, old k hk hki, hkn, hok, hkd⟩
              refine ⟨z, ?_, hR d2 z _ _ hCw m2⟩
              simp only [Act.put]
              rw [Array.getElem?_setIfInBounds_ne (fun e2 => e e2.symm)]; exact m1
          refine .inl ?_
          unfold Oper.wp
          rcases hl w hC with ⟨x, w'', hrun, hCw, hRx⟩ | ⟨f', vs, hrun, hcall⟩
          · rw [← hex] at hrun
            rw [hrun]
            exact cont x w'' hCw hRx
          · rw [← hex] at hrun
            rw [hrun]
            refine Calls.mono hcall fun e w'' hg => ?_
            obtain ⟨x, rfl, hCw, hRx⟩ := hg
            exact cont x w'' hCw hRx
        · rw [hwt] at hwn; cases hwn
      · have hdn : ∀ d, o.dst = some d → D.contains d = false := fun d h2 => by
          cases hc : D.contains d with
          | false => rfl
          | true => exact absurd ⟨d, h2, hc⟩ hdo
        have hdn2 : ∀ d ∈ D, o.dst ≠ some d := fun d hd e => by
          have := hdn d e
          rw [List.contains_iff_mem.2 hd] at this; cases this
        have hw : Region.wanted o (yielded pre a'.tmps) = Region.wanted o (yielded ops a.tmps) := by
          unfold Region.wanted
          cases hg : o.guard with
          | none => rfl
          | some gd =>
            obtain ⟨hg1, hg2⟩ := hG i o ho hin' gd hg
            have hlt : gd.1 < ops.size := by omega
            have hog := Array.getElem?_eq_getElem hlt
            have hpg := hP _ _ hg1 hog
            have hy : yielded pre a'.tmps gd.1 = yielded ops a.tmps gd.1 := by
              simp only [yielded, hpg, hog, Option.bind_some]
              cases hd : (ops[gd.1]'hlt).dst with
              | none => rfl
              | some d' =>
                have hdD : d' ∉ D := fun hdD => hg2 _ hog d' hdD hd
                simp only [Option.bind_some, hbut.slot d' hdD]
            simp only [hy]
        have made : ∀ u w'', Ext w w'' → ∀ d ∈ D, (∃ k o, (L.setIfInBounds i true)[k]? = some true ∧ k < n ∧ ops[k]? = some o ∧ o.dst = some d) → ∃ x, (a.put o.dst u).tmps[d]? = some x ∧ R d x w'' := fun u w'' hw'' d hd ⟨k, ok, hk, hkn, hok, hkd⟩ => by
          have hki : k ≠ i := fun e => by subst e; obtain rfl := Option.some.inj (ho.symm.trans hok); exact hdn2 d hd hkd
          obtain ⟨x, m1, m2⟩ := hm d hd ⟨k, ok, old k hk hki, hkn, hok, hkd⟩
          refine ⟨x, ?_, hR d x _ _ hw'' m2⟩
          cases hdst : o.dst with
          | none => exact m1
          | some y =>
            have : y ≠ d := fun e => hdn2 d hd (by rw [hdst, e])
            simp only [Act.put]
            rw [Array.getElem?_setIfInBounds_ne this]; exact m1
        have szP : ∀ u, ∀ d ∈ D, d < (a.put o.dst u).tmps.size := fun u d hd => by cases o.dst <;> simp [Act.put, hDs d hd]
        rcases hv with ⟨hwn, hy⟩ | ⟨hwn, hvu⟩
        · rw [giveY_out hdn] at hy
          rw [hw] at hwn
          rw [if_pos hwn]
          refine .inl (Oper.wp_of_quiet (C := fun w'' => Ext w w'') (K := fun x => x = a.put o.dst v) (Ext.refl w) (fun a1 w1 hw1 e => ?_) ?_)
          · subst e
            exact ih _ _ (a'.put o.dst v) _ w1 (hC.trans hw1) (by simpa using hs') (by simpa using hs) hset hset2 hc' hea' hcl' (hbut.put _ _) (szP v) (made v w1 hw1) hK
          · refine ⟨v, fun w1 hw1 => ?_, rfl⟩
            have hq1 := hy w1 (hC.trans hw1)
            unfold Oper.quietAt at hq1 ⊢
            rw [← hex] at hq1
            generalize (execOp a.eval o).run P w1 = r at *
            cases r with
            | ok nx w2 =>
              cases nx <;> simp only [Oper.quietUpon] at hq1 ⊢ <;> first | exact hq1 | exact ⟨hq1.1, hq1.2.mono fun e w3 h3 => ⟨h3.1, hw1.trans h3.2⟩⟩
            | halt x w2 => simp only [Oper.quietUpon] at hq1
        · rw [hw] at hwn
          rw [if_neg (by rw [hwn]; exact Bool.false_ne_true)]
          subst hvu
          exact ih _ _ (a'.put o.dst undef) _ w hC (by simpa using hs') (by simpa using hs) hset hset2 hc' hea' hcl' (hbut.put _ _) (szP _) (made undef w (Ext.refl w)) hK

/-- lateB, for several slots. -/
def giveB (ops : Array Oper) (n : Nat) (D : List Nat) : Bool :=
  Nat.ble n ops.size && Region.noSelect ops && Region.lexB .any (ops.toList.take n).toArray &&
  (List.range ops.size).all (fun i => match ops[i]? with
    | none => true
    | some o => if Nat.ble (i + 1) n then (o.after.all fun e => Nat.ble (e.on + 1) i) &&
        (match o.guard with
          | none => true
          | some g => Nat.ble (g.1 + 1) n && (match ops[g.1]? with
            | none => true
            | some o' => D.all fun d => !(o'.dst == some d))) &&
        (D.all fun d => !(o.looksAt ops).contains d) &&
        (D.all fun d => if o.dst == some d then o.guard.isNone else true)
      else (List.range n).all fun j => reach ops .any 9 i j) &&
  (List.range ops.size).all (fun k => Nat.ble (k + 1) n || (match Region.ready .any ops (upto ops.size k) with
    | [k'] => Nat.beq k' k
    | _ => false)) &&
  (Region.ready .any ops (upto ops.size ops.size)).isEmpty &&
  D.all fun d => (List.range n).any (fun i => match ops[i]? with
    | some o => o.dst == some d
    | none => false)
theorem wp_give {l : List Oper} {n id : Nat} {D : List Nat} {Q1 : Act → Prop} {Q : Exit → Act → World → Prop} {w0 w : World} {a : Act} {R : Nat → Value → World → Prop} (hR : ∀ d x w w', Ext w w' → R d x w → R d x w') (hm : P.follows .mixedOrders = true) (hB : giveB l.toArray n D = true)
    (hd : ∀ d ∈ D, d < a.tmps.size) (hw : Ext w0 w)
    (h : listY (l.take n).toArray (giveY P w0 D R) Q1 (l.take n) a)
    (last : ∀ a' a w, Ext w0 w → Q1 a' → But D a' a → (∀ d ∈ D, ∃ x, a.tmps[d]? = some x ∧ R d x w) → wpList P l.toArray Q (l.drop n) a w) :
    (Code.region id l.toArray true).wp P Q a w := by
  simp only [giveB, Bool.and_eq_true] at hB
  obtain ⟨⟨⟨⟨⟨⟨b1, b0⟩, b2⟩, b3⟩, b4⟩, b5⟩, b6⟩ := hB
  have hn : n ≤ l.toArray.size := Nat.le_of_ble_eq_true b1
  have hnl : n ≤ l.length := by simpa using hn
  have at3 : ∀ i o, l.toArray[i]? = some o → _ := fun i o ho => by
    have hlt : i < l.toArray.size := by
      rcases Nat.lt_or_ge i l.toArray.size with h' | h'
      · exact h'
      · rw [Array.getElem?_eq_none h'] at ho; cases ho
    have := List.all_eq_true.1 b3 i (List.mem_range.2 hlt)
    simp only [ho] at this
    exact this
  have pre3 : ∀ i o, l.toArray[i]? = some o → i < n → _ := fun i o ho hi => by
    have := at3 i o ho
    rw [if_pos (Nat.ble_eq_true_of_le hi)] at this
    simp only [Bool.and_eq_true] at this
    exact this
  have hP : ∀ i o, i < n → l.toArray[i]? = some o → (l.take n).toArray[i]? = some o := fun i o hi ho => by
    have : l[i]? = some o := by simpa using ho
    simp [hi, this]
  have hE : ∀ i o, l.toArray[i]? = some o → i < n → ∀ e ∈ o.after, e.on < i := fun i o ho hi e he =>
    Nat.le_of_ble_eq_true (Array.all_eq_true_iff_forall_mem.1 (pre3 i o ho hi).1.1.1 e he)
  have hG : ∀ i o, l.toArray[i]? = some o → i < n → ∀ g, o.guard = some g → g.1 < n ∧ ∀ o', l.toArray[g.1]? = some o' → ∀ d ∈ D, o'.dst ≠ some d := fun i o ho hi g hg => by
    have h2 := (pre3 i o ho hi).1.1.2
    rw [hg] at h2
    simp only [Bool.and_eq_true] at h2
    refine ⟨Nat.le_of_ble_eq_true h2.1, fun o' ho' d hd => ?_⟩
    have h3 := h2.2
    rw [ho'] at h3
    have h4 := List.all_eq_true.1 h3 d hd
    simpa using h4
  have hD : ∀ i o, l.toArray[i]? = some o → i < n → ∀ d ∈ D, d ∉ o.looksAt l.toArray := fun i o ho hi d hd => by
    have h2 := List.all_eq_true.1 (pre3 i o ho hi).1.2 d hd
    simpa using h2
  have hlate : ∀ i o, l.toArray[i]? = some o → i < n → ∀ d ∈ D, o.dst = some d → o.guard = none := fun i o ho hi d hd hdo => by
    have h2 := List.all_eq_true.1 (pre3 i o ho hi).2 d hd
    rw [if_pos (by rw [hdo]; simp)] at h2
    simpa using h2
  have hA : ∀ i, n ≤ i → i < l.toArray.size → ∀ j, j < n → (fun _ => false) j = true ∨ reach l.toArray .any 9 i j = true := fun i hi his j hj => by
    have := at3 i _ (Array.getElem?_eq_getElem his)
    rw [if_neg (fun hb => by have := Nat.le_of_ble_eq_true hb; omega)] at this
    exact .inr (List.all_eq_true.1 this j (List.mem_range.2 hj))
  have hr : ∀ k, n ≤ k → k < l.toArray.size → Region.ready .any l.toArray (upto l.toArray.size k) = [k] := fun k hk hks => by
    have := List.all_eq_true.1 b4 k (List.mem_range.2 hks)
    simp only [Bool.or_eq_true] at this
    rcases this with h' | h'
    · have := Nat.le_of_ble_eq_true h'; omega
    · split at h'
      · rename_i k' he
        rw [he, Nat.eq_of_beq_eq_true h']
      · cases h'
  have he : Region.ready .any l.toArray (upto l.toArray.size l.toArray.size) = [] := by simpa using b5
  have hex : ∀ d ∈ D, ∃ i o, i < n ∧ l.toArray[i]? = some o ∧ o.dst = some d := fun d hd => by
    obtain ⟨i, hi, h2⟩ := List.any_eq_true.1 (List.all_eq_true.1 b6 d hd)
    have hi' := List.mem_range.1 hi
    have hlt : i < l.toArray.size := by omega
    rw [Array.getElem?_eq_getElem hlt] at h2
    exact ⟨i, _, hi', Array.getElem?_eq_getElem hlt, by simpa using h2⟩
  simp only [Region.lexB, Bool.and_eq_true] at b2
  have hdl : (l.drop n).length = l.toArray.size - n := by simp
  have hlen : (l.take n).length = n := by simp; omega
  refine wp_region_any hm ?_
  have quiet := anyY_lex (md := .any) (same_giveY P w0 D R) b2.1 (l.take n) 0 (Array.replicate (l.take n).toArray.size false) a (by simp) (by simpa using b2.2) h
  have key := give_any (P := P) (md := .any) (ops := l.toArray) (pre := (l.take n).toArray) (n := n) (s := (l.drop n).length) (D := D) (fun _ => false) (Q := Q) (Q1 := Q1) (w0 := w0) (R := R)
    hR hn hP hA hE hG (fun j o cs b ho _ => Region.noSelect_spec b0 j o cs b ho) hD (fun i o ho hi d hd hdo => hlate i o ho hi d hd hdo) hex
    (fun a' a1 w1 hw1 q1 hb hmd => one_any hr he (l.drop n) n (Nat.le_refl _) (by rw [hdl]; omega) (fun j => by simp) a1 w1
      (last a' a1 w1 hw1 q1 hb hmd))
  have hall : ∀ k : Nat, (Array.replicate l.toArray.size false)[k]? ≠ some true := fun k hk => by
    simp only [Array.getElem?_replicate] at hk
    split at hk <;> simp at hk
  have hcnt : cnt n (Array.replicate (l.take n).toArray.size false) = (l.take n).length := by
    unfold cnt
    rw [List.countP_eq_length.2]
    · rw [hlen]; simp
    · intro j hj
      have := List.mem_range.1 hj
      have h2 : j < (l.take n).toArray.size := by simp; omega
      simp only [Array.getD_eq_getD_getElem?, Array.getElem?_replicate]
      rw [if_pos h2]; rfl
  have hsame : ∀ j, j < n → (Array.replicate l.toArray.size false)[j]? = (Array.replicate (l.take n).toArray.size false)[j]? := fun j hj => by
    have h1 : j < l.length := by omega
    have h2 : j < (l.take n).length := by omega
    simp only [Array.getElem?_replicate]
    rw [if_pos (by simpa using h1), if_pos (by simpa using h2)]
  have hclosed : Closed l.toArray .any (Array.replicate l.toArray.size false) := fun (k : Nat) o hk => by
    simp only [Array.getD_eq_getD_getElem?, Array.getElem?_replicate] at hk
    split at hk <;> simp at hk
  have e : (l.take n).length + (l.drop n).length = l.toArray.size := by rw [hlen, hdl]; omega
  have := key (l.take n).length (Array.replicate l.toArray.size false) (Array.replicate (l.take n).toArray.size false) a a { w with drawn := w.drawn + 1 } hw.draw (by simp; omega) (by simp)
    hsame (fun j _ hj => by simp only [Array.getElem?_replicate]; rw [if_pos hj]) hcnt (fun j _ h => by cases h) hclosed ⟨rfl, rfl, fun _ _ => rfl⟩ hd (fun d _ ⟨i, o, hi, _⟩ => absurd hi (hall i)) quiet
  rwa [e] at this

end


section
variable {P : Program} {N : Nat} {m : Env} {w : World}
/-- The operation gives R in every frame that agrees and every world that has grown from w. -/
structure Gvs (P : Program) (N : Nat) (m : Env) (w : World) (o : Oper) (R : Value → World → Prop) : Prop where
  out : ∀ a w', Agree N m a → Ext w w' → Giver P (execOp a.eval o) w' R
theorem Gvs_call {dst : Option Tmp} {f : FuncId} {xs : Array Operand} {ats : Array TypeId} {ty : TypeId} {pos : String} {after : Array Edge} {g : Option (Nat × Bool)} {vs : List Value} {R : Value → World → Prop} [hf : TFun P f] (hx : evs m xs.toList = some vs)
    (hc : ∀ w', Ext w w' → Calls P f vs.toArray w' (Gives R w')) : Gvs P N m w ⟨dst, .call { callee := .value (.func f), args := xs, argTypes := ats }, ty, pos, after, g⟩ R := ⟨fun a w' ha hw => .inr ⟨f, vs.toArray, by
  have e1 : xs.map a.eval = vs.toArray := map_evs ha hx
  rw [execOp_call_go, e1]
  simpa using hf.h vs.toArray w', hc w' hw⟩⟩
/-- Operations without guards that yield the same values in every grown world; K is known of the frame behind them. -/
def YsG (P : Program) (N : Nat) (w0 : World) (D : List Nat) (K : Env → Prop) : List Oper → Env → Prop
  | [], m => K m
  | o :: r, m => ∃ d' v, o.dst = some d' ∧ Nat.ble (d' + 1) N = true ∧ D.contains d' = false ∧ o.guard = none ∧ (∀ w, Ext w0 w → Yl P N m w o v) ∧ YsG P N w0 D K r ((d', v) :: m)
theorem YsG.nil {D : List Nat} {K : Env → Prop} {l : List Oper} (hl : l = []) (h : K m) : YsG P N w D K l m := by subst hl; exact h
theorem YsG.cons {D : List Nat} {d' : Nat} {o : Oper} {r : List Oper} {v : Value} {K : Env → Prop} (h1 : o.dst = some d') (h2 : Nat.ble (d' + 1) N = true) (h3 : D.contains d' = false) (h4 : o.guard = none) (h5 : ∀ w', Ext w w' → Yl P N m w' o v) (h6 : YsG P N w D K r ((d', v) :: m)) : YsG P N w D K (o :: r) m :=
  ⟨d', v, h1, h2, h3, h4, h5, h6⟩
theorem Yl.up {w w' : World} {o : Oper} {v : Value} (h : Yl P N m w o v) (he : Ext w w') : Yl P N m w' o v := ⟨fun a w1 ha hw => h.out a w1 ha (he.trans hw)⟩
theorem YsG.q {D : List Nat} {d' : Nat} {op : Op} {ty : TypeId} {pos : String} {after : Array Edge} {r : List Oper} {v : Value} {K : Env → Prop} (h2 : Nat.ble (d' + 1) N = true) (h3 : D.contains d' = false) (hq : Yl P N m w ⟨some d', op, ty, pos, after, none⟩ v)
    (h6 : YsG P N w D K r ((d', v) :: m)) : YsG P N w D K (⟨some d', op, ty, pos, after, none⟩ :: r) m := ⟨d', v, rfl, h2, h3, rfl, fun _ he => hq.up he, h6⟩
theorem listY_ysG {ops : Array Oper} {Q : Act → Prop} {w0 : World} {R : Nat → Value → World → Prop} {D : List Nat} {K : Env → Prop} (hQ : ∀ M a, K M → Agree N M a → Q a) : ∀ (l : List Oper) (m : Env) (a : Act), YsG P N w0 D K l m → Agree N m a → listY ops (giveY P w0 D R) Q l a
  | [], m, a, h, ha => hQ m a h ha
  | o :: r, m, a, h, ha => by
    obtain ⟨d', v, h1, h2, h3, h4, h5, h6⟩ := h
    unfold listY
    rw [if_pos (by unfold Region.wanted; rw [h4])]
    refine ⟨v, ?_, ?_⟩
    · rw [giveY_out (fun d hd => by rw [h1] at hd; cases hd; exact h3)]
      exact fun w' hw' => (h5 w' hw').out a w' ha (Ext.refl _)
    · rw [h1]
      exact listY_ysG hQ r _ _ h6 (ha.put (Nat.le_of_ble_eq_true h2) v)
theorem wpList_lift {ops : Array Oper} {Q : Exit → Env → World → Prop} : ∀ (l' : List Oper) (a : Act) (w0 : World), wpList P ops (fun e a' w'' => e = .normal ∧ ∃ m' w1, Q .normal m' w1 ∧ Agree N m' a' ∧ Ext w1 w'') l' a w0 → wpList P ops (fun e a w => e = .normal ∧ lift N Q .normal a w) l' a w0 := by
  intro l'
  induction l' with
  | nil => exact fun a w0 ⟨_, m', w1, q, ag, ex⟩ => ⟨rfl, m', w1, q, ag, ex⟩
  | cons o r ih =>
    intro a w0 h6
    unfold wpList at h6 ⊢
    split
    · rename_i hwn
      rw [if_pos hwn] at h6
      rcases h6 with h6 | h6
      · exact .inl (wp_normal (fun a1 w1 hh => ih a1 w1 hh) h6)
      · obtain ⟨_, _, _, h7, _⟩ := h6; cases h7
    · rename_i hwn
      rw [if_neg hwn] at h6
      exact ih _ _ h6
/-- A region that draws its order, with an operation that gives (at the place i1) among its first n. -/
theorem V_give1 (n i1 : Nat) {Q : Exit → Env → World → Prop} {id : Nat} {l : List Oper} {o1 : Oper} {d1 : Nat} (R1 : Value → World → Prop)
    (hR1 : ∀ x w w', Ext w w' → R1 x w → R1 x w')
    (hm : P.follows .mixedOrders = true) (ho : l.take n = l.take i1 ++ o1 :: (l.take n).drop (i1 + 1)) (h1 : o1.dst = some d1) (g1 : o1.guard = none) (hB : giveB l.toArray n [d1] = true)
    (hd1 : Nat.ble (d1 + 1) N = true)
    (h : YsG P N w [d1] (fun M1 => Gvs P N M1 w o1 R1 ∧ YsG P N w [d1] (fun M3 => ∀ x1 w2, Ext w w2 → R1 x1 w2 → Ops P N l.toArray false (fun m w => Q .normal m w) (l.drop n) ((d1, x1) :: M3) w2)
      ((l.take n).drop (i1 + 1)) ((d1, undef) :: M1)) (l.take i1) m) :
    V P N (.region id l.toArray true) Q m w := by
  have lt1 : d1 < N := Nat.le_of_ble_eq_true hd1
  refine ⟨fun a w' ha hw => Code.wp_mono (Q := fun e a w => e = .normal ∧ lift N Q .normal a w) (fun e a w ⟨h1, h2⟩ => by rw [h1]; exact h2) ?_⟩
  refine wp_give (w0 := w) (D := [d1]) (R := fun _ => R1) (fun d x w w' he hx => hR1 x w w' he hx) hm hB (fun d hd => by
    rw [ha.size, List.mem_singleton.1 hd]; exact lt1) hw (Q1 := fun a' => ∃ M3, (∀ x1 w2, Ext w w2 → R1 x1 w2 → Ops P N l.toArray false (fun m w => Q .normal m w) (l.drop n) ((d1, x1) :: M3) w2) ∧ Agree N M3 a') ?_ ?_
  · generalize hL : (l.take n).toArray = A
    rw [ho]
    refine listY_append _ _ _ (listY_ysG (fun M1 a1 ⟨hg1, h2'⟩ ag1 => ?_) _ _ _ h ha)
    unfold listY
    rw [if_pos (by unfold Region.wanted; rw [g1])]
    refine ⟨undef, ?_, ?_⟩
    · rw [giveY_in h1 (by simp)]
      exact ⟨rfl, fun w1 hw1 => hg1.out a1 w1 ag1 hw1⟩
    · rw [h1]
      exact listY_ysG (fun M3 _ h3 ag3 => ⟨M3, h3, ag3⟩) _ _ _ h2' (ag1.put lt1 undef)
  · rintro a' a1 w1 hw1 ⟨M3, h, ag⟩ hb hx
    obtain ⟨x1, hx1, hr1⟩ := hx d1 (by simp)
    have ag1 : Agree N ((d1, x1) :: M3) a1 := by
      refine ⟨by rw [hb.defers]; exact ag.defers, by rw [hb.size]; exact ag.size, fun i v hi => ?_⟩
      by_cases e : d1 = i
      · subst e
        rw [look_same] at hi; cases hi; exact hx1
      · rw [look_other _ _ e] at hi
        rw [hb.slot i (fun h => e (List.mem_singleton.1 h).symm)]
        exact ag.slot i v hi
    exact wpList_lift _ _ _ ((h x1 w1 hw1 hr1).out a1 w1 ag1 (Ext.refl _))
/-- A region that draws its order, with two operations that give (at the places i1 and i2) among its first n. -/
theorem V_give2 (n i1 i2 : Nat) {Q : Exit → Env → World → Prop} {id : Nat} {l : List Oper} {o1 o2 : Oper} {d1 d2 : Nat} (R1 R2 : Value → World → Prop)
    (hR1 : ∀ x w w', Ext w w' → R1 x w → R1 x w') (hR2 : ∀ x w w', Ext w w' → R2 x w → R2 x w')
    (hm : P.follows .mixedOrders = true) (ho : l.take n = l.take i1 ++ o1 :: ((l.take i2).drop (i1 + 1) ++ o2 :: (l.take n).drop (i2 + 1))) (h1 : o1.dst = some d1) (h2 : o2.dst = some d2) (g1 : o1.guard = none) (g2 : o2.guard = none) (hB : giveB l.toArray n [d1, d2] = true)
    (hd1 : Nat.ble (d1 + 1) N = true) (hd2 : Nat.ble (d2 + 1) N = true) (hne : Nat.beq d1 d2 = false)
    (h : YsG P N w [d1, d2] (fun M1 => Gvs P N M1 w o1 R1 ∧ YsG P N w [d1, d2] (fun M2 => Gvs P N M2 w o2 R2 ∧ YsG P N w [d1, d2] (fun M3 => ∀ x1 x2 w2, Ext w w2 → R1 x1 w2 → R2 x2 w2 → Ops P N l.toArray false (fun m w => Q .normal m w) (l.drop n) ((d2, x2) :: (d1, x1) :: M3) w2)
      ((l.take n).drop (i2 + 1)) ((d2, undef) :: M2)) ((l.take i2).drop (i1 + 1)) ((d1, undef) :: M1)) (l.take i1) m) :
    V P N (.region id l.toArray true) Q m w := by
  have lt1 : d1 < N := Nat.le_of_ble_eq_true hd1
  have lt2 : d2 < N := Nat.le_of_ble_eq_true hd2
  have hne' : d1 ≠ d2 := fun e => by subst e; rw [Nat.beq_refl] at hne; cases hne
  refine ⟨fun a w' ha hw => Code.wp_mono (Q := fun e a w => e = .normal ∧ lift N Q .normal a w) (fun e a w ⟨h1, h2⟩ => by rw [h1]; exact h2) ?_⟩
  refine wp_give (w0 := w) (D := [d1, d2]) (R := fun d => if d = d1 then R1 else R2) (fun d x w w' he hx => by split at hx <;> rename_i e <;> simp only [e, if_true, if_false] <;> first | exact hR1 x w w' he hx | exact hR2 x w w' he hx) hm hB (fun d hd => by
    rw [ha.size]
    rcases List.mem_cons.1 hd with rfl | hd
    · exact lt1
    · rw [List.mem_singleton.1 hd]; exact lt2) hw (Q1 := fun a' => ∃ M3, (∀ x1 x2 w2, Ext w w2 → R1 x1 w2 → R2 x2 w2 → Ops P N l.toArray false (fun m w => Q .normal m w) (l.drop n) ((d2, x2) :: (d1, x1) :: M3) w2) ∧ Agree N M3 a') ?_ ?_
  · generalize hL : (l.take n).toArray = A
    rw [ho]
    refine listY_append _ _ _ (listY_ysG (fun M1 a1 ⟨hg1, h2'⟩ ag1 => ?_) _ _ _ h ha)
    unfold listY
    rw [if_pos (by unfold Region.wanted; rw [g1])]
    refine ⟨undef, ?_, ?_⟩
    · rw [giveY_in h1 (by simp)]
      refine ⟨rfl, fun w1 hw1 => ?_⟩
      rw [if_pos rfl]; exact hg1.out a1 w1 ag1 hw1
    · rw [h1]
      refine listY_append _ _ _ (listY_ysG (fun M2 a2 ⟨hg2, h3'⟩ ag2 => ?_) _ _ _ h2' (ag1.put lt1 undef))
      unfold listY
      rw [if_pos (by unfold Region.wanted; rw [g2])]
      refine ⟨undef, ?_, ?_⟩
      · rw [giveY_in h2 (by simp)]
        refine ⟨rfl, fun w1 hw1 => ?_⟩
        rw [if_neg (Ne.symm hne')]; exact hg2.out a2 w1 ag2 hw1
      · rw [h2]
        exact listY_ysG (fun M3 _ h3 ag3 => ⟨M3, h3, ag3⟩) _ _ _ h3' (ag2.put lt2 undef)
  · rintro a' a1 w1 hw1 ⟨M3, h, ag⟩ hb hx
    obtain ⟨x1, hx1, hr1⟩ := hx d1 (by simp)
    obtain ⟨x2, hx2, hr2⟩ := hx d2 (by simp)
    rw [if_pos rfl] at hr1
    rw [if_neg (Ne.symm hne')] at hr2
    have ag1 : Agree N ((d2, x2) :: (d1, x1) :: M3) a1 := by
      refine ⟨by rw [hb.defers]; exact ag.defers, by rw [hb.size]; exact ag.size, fun i v hi => ?_⟩
      by_cases e2 : d2 = i
      · subst e2
        rw [look_same] at hi; cases hi; exact hx2
      · rw [look_other _ _ e2] at hi
        by_cases e : d1 = i
        · subst e
          rw [look_same] at hi; cases hi; exact hx1
        · rw [look_other _ _ e] at hi
          rw [hb.slot i (fun h => by
            rcases List.mem_cons.1 h with h | h
            · exact e h.symm
            · exact e2 (List.mem_singleton.1 h).symm)]
          exact ag.slot i v hi
    have h5 := (h x1 x2 w1 hw1 hr1 hr2).out a1 w1 ag1 (Ext.refl _)
    have mono : ∀ (l' : List Oper) (a : Act) (w0 : World), wpList P l.toArray (fun e a' w'' => e = .normal ∧ ∃ m' w1, Q .normal m' w1 ∧ Agree N m' a' ∧ Ext w1 w'') l' a w0 → wpList P l.toArray (fun e a w => e = .normal ∧ lift N Q .normal a w) l' a w0 := by
      intro l'
      induction l' with
      | nil => exact fun a w0 ⟨_, m', w1, q, ag, ex⟩ => ⟨rfl, m', w1, q, ag, ex⟩
      | cons o r ih =>
        intro a w0 h6
        unfold wpList at h6 ⊢
        split
        · rename_i hwn
          rw [if_pos hwn] at h6
          rcases h6 with h6 | h6
          · exact .inl (wp_normal (fun a1 w1 hh => ih a1 w1 hh) h6)
          · obtain ⟨_, _, _, h7, _⟩ := h6; cases h7
        · rename_i hwn
          rw [if_neg hwn] at h6
          exact ih _ _ h6
    exact mono _ _ _ h5
end
end Go.Proofs.Ytkiidmbkibfbiaa

/-
  Tables (layer 7): the search for the second half of a list; sets of values: joined, least.
  Conditions: the lists are not too long for a machine.
-/
namespace Go.Proofs.Ytkiidmbkibfbiaa
open Go.RowKit

/-! ### BinarySearchFunc -/
theorem growCmp_v (e : En) (q : Pf) (w : World) : Calls Try.prog 62 #[e.val, q.val] w (Ret (.int .i64 (if e.p.a < q.a then -1 else 1)) w) := by
  refine V_enter (vs := [_, _]) Try.func62 rfl Try.ntmps62 (Nat.le_of_ble_eq_true rfl) ?_
  repeat (first | refine Vx ?_ | (apply Ops_q; (case hon => exact Va); (case hd => rfl); (case hq => exact YlA)) | refine Vr ?_ | refine Vt ?_ | refine Vf ?_ | refine Vm ?_ | refine Ve ?_ | refine Vo ?_ | refine Vz ?_)
  (refine Ops_box (by exact Va) rfl rfl rfl ?_; intro w1 b2 n_b2; have k_b2 := n_b2.blk)
  repeat (first | refine Vx ?_ | (apply Ops_q; (case hon => exact Va); (case hd => rfl); (case hq => exact YlA)) | refine Vr ?_ | refine Vt ?_ | refine Vf ?_ | refine Vm ?_ | refine Ve ?_ | refine Vo ?_ | refine Vz ?_)
  (refine Ops_box (by exact Va) rfl rfl rfl ?_; intro w2 b3 n_b3; have k_b3 := n_b3.blk)
  replace k_b2 := k_b2.ext n_b3.ext
  have e2 := n_b2.ext.trans n_b3.ext
  repeat (first | refine Vx ?_ | (apply Ops_q; (case hon => exact Va); (case hd => rfl); (case hq => exact YlA)) | refine Vr ?_ | refine Vt ?_ | refine Vf ?_ | refine Vm ?_ | refine Ve ?_ | refine Vo ?_ | refine Vz ?_)
  refine V_cond rfl (fun h => ?_) (fun h => ?_)
  · have h' : e.p.a < q.a := by have := of_decide_eq_true h; omega
    repeat (first | refine Vx ?_ | (apply Ops_q; (case hon => exact Va); (case hd => rfl); (case hq => exact YlA)) | refine Vr ?_ | refine Vt ?_ | refine Vf ?_ | refine Vm ?_ | refine Ve ?_ | refine Vo ?_ | refine Vz ?_)
    refine ret1 (by first | exact .inl rfl | exact .inr rfl) rfl rfl ?_
    exact Ret_mk (by rw [if_pos h']) e2
  · have h' : ¬e.p.a < q.a := by have := of_decide_eq_false h; omega
    repeat (first | refine Vx ?_ | (apply Ops_q; (case hon => exact Va); (case hd => rfl); (case hq => exact YlA)) | refine Vr ?_ | refine Vt ?_ | refine Vf ?_ | refine Vm ?_ | refine Ve ?_ | refine Vo ?_ | refine Vz ?_)
    refine ret1 (by first | exact .inl rfl | exact .inr rfl) rfl rfl ?_
    exact Ret_mk (by rw [if_neg h']) e2
theorem split_at {A B : List En} {q : Pf} (hA : ∀ e ∈ A, e.p.a < q.a) (hB : ∀ e ∈ B, q.a ≤ e.p.a) {h : Nat} {x : En} (hx : (A ++ B)[h]? = some x) : x.p.a < q.a ↔ h < A.length := by
  rw [List.getElem?_append] at hx
  split at hx
  · rename_i hl
    exact ⟨fun _ => hl, fun _ => hA x (List.mem_of_getElem? hx)⟩
  · rename_i hl
    have := hB x (List.mem_of_getElem? hx)
    exact ⟨fun h => by omega, fun h => absurd h hl⟩
set_option maxHeartbeats 1000000 in
theorem bsearch_v (ao : Option Addr) (A B : List En) (c : Nat) (q : Pf) (w : World) (hL : Ens w ao (A ++ B)) (hA : ∀ e ∈ A, e.p.a < q.a) (hB : ∀ e ∈ B, q.a ≤ e.p.a) (hn : (A ++ B).length ≤ 1000000) :
    Calls Try.prog 61 #[.slice ao (A ++ B).length c, q.val, .func (.func 62) #[] #[]] w (Ret (.tuple #[.int .i64 A.length, .bool false]) w) := by
  have hsp := @split_at A B q hA hB
  have hAl : A.length ≤ (A ++ B).length := by rw [List.length_append]; omega
  generalize hLL : A ++ B = L at *
  refine V_enter (vs := [_, _, _]) Try.func61 rfl Try.ntmps61 (Nat.le_of_ble_eq_true rfl) ?_
  repeat (first | refine Vx ?_ | (apply Ops_q; (case hon => exact Va); (case hd => rfl); (case hq => exact YlA)) | refine Vr ?_ | refine Vt ?_ | refine Vf ?_ | refine Vm ?_ | refine Ve ?_ | refine Vo ?_ | refine Vz ?_)
  (refine Ops_box (by exact Va) rfl rfl rfl ?_; intro w1 b4 n_b4; have k_b4 := n_b4.blk)
  have x1 := n_b4.ext
  clear n_b4
  repeat (first | refine Vx ?_ | (apply Ops_q; (case hon => exact Va); (case hd => rfl); (case hq => exact YlA)) | refine Vr ?_ | refine Vt ?_ | refine Vf ?_ | refine Vm ?_ | refine Ve ?_ | refine Vo ?_ | refine Vz ?_)
  refine V_loop (fun s : Nat × Nat => [(9, .int .i64 s.1), (10, .int .i64 s.2), (8, .int .i64 L.length), (0, .slice ao L.length c), (2, .func (.func 62) #[] #[]), (4, .pointer (some ⟨b4, 0, none⟩))])
    (fun s w' => Ext w1 w' ∧ s.1 ≤ A.length ∧ A.length ≤ s.2 ∧ s.2 ≤ L.length) (fun s => s.2 - s.1) (0, L.length) (by repeat (first | exact trivial | refine ⟨rfl, ?_⟩)) ⟨Ext.refl _, Nat.zero_le _, hAl, Nat.le_refl _⟩ ?_
  rintro ⟨i, j⟩ w2 ⟨x2, hi, hj, hjl⟩
  dsimp only at hi hj hjl ⊢
  have kq := k_b4.ext x2
  repeat (first | refine Vx ?_ | (apply Ops_q; (case hon => exact Va); (case hd => rfl); (case hq => exact YlA)) | refine Vr ?_ | refine Vt ?_ | refine Vf ?_ | refine Vm ?_ | refine Ve ?_ | refine Vo ?_ | refine Vz ?_)
  refine V_cond rfl (fun hg => ?_) (fun hg => ?_)
  · replace hg := of_decide_eq_true hg
    obtain ⟨h, hh⟩ : ∃ h : Nat, h = (i + j) / 2 := ⟨_, rfl⟩
    have hhl : h < L.length := by omega
    have eh : ((i : Int) + (j : Int)) / 2 = (h : Int) := by rw [hh]; omega
    obtain ⟨x, hx⟩ : ∃ x, L[h]? = some x := ⟨_, List.getElem?_eq_getElem hhl⟩
    obtain ⟨ad, rfl, hc⟩ := hL.at hx
    have hc1 : Cells w2 (ad.add (h * 3)) [.int .u32 x.p.a, .int .i64 x.p.n, .int .i64 x.v] := (hc.ext x1).ext x2
    have hxa := hsp hx
    repeat (first | refine Vx ?_ | (apply Ops_q; (case hon => exact Va); (case hd => rfl); (case hq => exact YlA)) | refine Vr ?_ | refine Vt ?_ | refine Vf ?_ | refine Vm ?_ | refine Ve ?_ | refine Vo ?_ | refine Vz ?_)
    rw [eh]
    (apply Ops_q; (case hon => (exact Va)); (case hd => rfl); (case hq => exact Yl_indexS (j := h) rfl rfl (by omega)))
    repeat (first | refine Vx ?_ | (apply Ops_q; (case hon => exact Va); (case hd => rfl); (case hq => exact YlA)) | refine Vr ?_ | refine Vt ?_ | refine Vf ?_ | refine Vm ?_ | refine Ve ?_ | refine Vo ?_ | refine Vz ?_)
    (apply Ops_q; (case hon => (exact Va)); (case hd => rfl); (case hq => exact Yl_callv rfl rfl (fun w_ e_ => growCmp_v x q w_)))
    repeat (first | refine Vx ?_ | (apply Ops_q; (case hon => exact Va); (case hd => rfl); (case hq => exact YlA)) | refine Vr ?_ | refine Vt ?_ | refine Vf ?_ | refine Vm ?_ | refine Ve ?_ | refine Vo ?_ | refine Vz ?_)
    by_cases hlt : x.p.a < q.a
    · have hd : decide ((if x.p.a < q.a then (-1 : Int) else 1) < 0) = true := by rw [if_pos hlt]; rfl
      have hhA := hxa.1 hlt
      refine V_yes rfl hd ?_
      repeat (first | refine Vx ?_ | (apply Ops_q; (case hon => exact Va); (case hd => rfl); (case hq => exact YlA)) | refine Vr ?_ | refine Vt ?_ | refine Vf ?_ | refine Vm ?_ | refine Ve ?_ | refine Vo ?_ | refine Vz ?_)
      refine ⟨(h + 1, j), (by repeat (first | exact trivial | refine ⟨rfl, ?_⟩)), ⟨x2, hhA, hj, hjl⟩, by simp only; omega⟩
    · have hd : decide ((if x.p.a < q.a then (-1 : Int) else 1) < 0) = false := by rw [if_neg hlt]; rfl
      have hhA : ¬h < A.length := fun hc => hlt (hxa.2 hc)
      refine V_no rfl hd ?_
      repeat (first | refine Vx ?_ | (apply Ops_q; (case hon => exact Va); (case hd => rfl); (case hq => exact YlA)) | refine Vr ?_ | refine Vt ?_ | refine Vf ?_ | refine Vm ?_ | refine Ve ?_ | refine Vo ?_ | refine Vz ?_)
      refine ⟨(i, h), (by repeat (first | exact trivial | refine ⟨rfl, ?_⟩)), ⟨x2, hi, by dsimp only; omega, by dsimp only; omega⟩, by simp only; omega⟩
  · replace hg := of_decide_eq_false hg
    obtain rfl : i = A.length := by omega
    repeat (first | refine Vx ?_ | (apply Ops_q; (case hon => exact Va); (case hd => rfl); (case hq => exact YlA)) | refine Vr ?_ | refine Vt ?_ | refine Vf ?_ | refine Vm ?_ | refine Ve ?_ | refine Vo ?_ | refine Vz ?_)
    refine Ops_split rfl rfl (fun h2 => ?_) (fun h2 => ?_)
    · have hil : A.length < L.length := by have := of_decide_eq_true h2; omega
      clear h2
      obtain ⟨x, hx⟩ : ∃ x, L[A.length]? = some x := ⟨_, List.getElem?_eq_getElem hil⟩
      obtain ⟨ad, rfl, hc⟩ := hL.at hx
      have hc1 : Cells w2 (ad.add (A.length * 3)) [.int .u32 x.p.a, .int .i64 x.p.n, .int .i64 x.v] := (hc.ext x1).ext x2
      have hnot : ¬x.p.a < q.a := fun h => by have := (hsp hx).1 h; omega
      repeat (first | refine Vx ?_ | (apply Ops_q; (case hon => exact Va); (case hd => rfl); (case hq => exact YlA)) | refine Vr ?_ | refine Vt ?_ | refine Vf ?_ | refine Vm ?_ | refine Ve ?_ | refine Vo ?_ | refine Vz ?_)
      (apply Ops_q; (case hon => (exact Va)); (case hd => rfl); (case hq => exact Yl_indexS (j := A.length) rfl rfl (by omega)))
      repeat (first | refine Vx ?_ | (apply Ops_q; (case hon => exact Va); (case hd => rfl); (case hq => exact YlA)) | refine Vr ?_ | refine Vt ?_ | refine Vf ?_ | refine Vm ?_ | refine Ve ?_ | refine Vo ?_ | refine Vz ?_)
      (apply Ops_q; (case hon => (exact Va)); (case hd => rfl); (case hq => exact Yl_callv rfl rfl (fun w_ e_ => growCmp_v x q w_)))
      rw [if_neg hnot]
      repeat (first | refine Vx ?_ | (apply Ops_q; (case hon => exact Va); (case hd => rfl); (case hq => exact YlA)) | refine Vr ?_ | refine Vt ?_ | refine Vf ?_ | refine Vm ?_ | refine Ve ?_ | refine Vo ?_ | refine Vz ?_)
      refine ret2 (by first | exact .inl rfl | exact .inr rfl) rfl rfl rfl ?_
      exact Ret_mk rfl (x1.trans x2)
    · repeat (first | refine Vx ?_ | (apply Ops_q; (case hon => exact Va); (case hd => rfl); (case hq => exact YlA)) | refine Vr ?_ | refine Vt ?_ | refine Vf ?_ | refine Vm ?_ | refine Ve ?_ | refine Vo ?_ | refine Vz ?_)
      refine ret2 (by first | exact .inl rfl | exact .inr rfl) rfl rfl rfl ?_
      exact Ret_mk rfl (x1.trans x2)
/-! ### Sets -/
def setF (S : List Int) : Int → Option Value := fun y => if y ∈ S then some (.bool true) else none
theorem setF_nil : setF [] = fun _ => none := by funext y; unfold setF; rw [if_neg (fun h => nomatch h)]
theorem setF_add (S : List Int) (y : Int) : (fun y' => if y' = y then some (Value.bool true) else setF S y') = setF (S ++ [y]) := by
  funext y'
  unfold setF
  by_cases h : y' = y
  · rw [if_pos h, if_pos (by rw [h]; simp)]
  · rw [if_neg h]
    by_cases h2 : y' ∈ S
    · rw [if_pos h2, if_pos (by simp [h2])]
    · rw [if_neg h2, if_neg (by simp [h, h2])]
theorem setF_congr {S T : List Int} (h : ∀ y, y ∈ S ↔ y ∈ T) : setF S = setF T := by
  funext y
  unfold setF
  by_cases h2 : y ∈ S
  · rw [if_pos h2, if_pos ((h y).1 h2)]
  · rw [if_neg h2, if_neg (fun h3 => h2 ((h y).2 h3))]
/-- Block b is the set S. -/
def SetJ (w : World) (b : Nat) (S : List Int) : Prop := MapJ w b .i64 (setF S)
theorem SetJ.ext {w w' : World} {b : Nat} {S : List Int} (h : SetJ w b S) (he : Ext w w') : SetJ w' b S := MapJ.ext h he
theorem lookS {y : Int} {S : List Int} : (setF S y).getD (.bool false) = .bool (decide (y ∈ S)) := by
  unfold setF
  by_cases h : y ∈ S
  · rw [if_pos h, decide_eq_true h]; rfl
  · rw [if_neg h, decide_eq_false h]; rfl
section
variable {P : Program} {N : Nat} {m : Env} {w : World} {dst : Option Tmp} {ty : TypeId} {pos : String} {after : Array Edge} {g : Option (Nat × Bool)}
theorem Yl_inSet {t kt et : TypeId} {x i : Operand} {b : Nat} {y : Int} {S : List Int} {zs : List Value} [ht : TMap P t kt et] [hk : TInt P kt .i64] [hz : TZero P et (.bool false) zs]
    (hx : ev m x = some (.map (some b))) (hi : ev m i = some (.int .i64 y)) (hM : SetJ w b S) : Yl P N m w ⟨dst, .lookup t x i false, ty, pos, after, g⟩ (.bool (decide (y ∈ S))) := by
  have := Yl_lookup (P := P) (N := N) (dst := dst) (ty := ty) (pos := pos) (after := after) (g := g) (t := t) (kt := kt) (et := et) (z := .bool false) (zs := zs) hx hi hM.toI
  rw [lookS] at this; exact this
end
theorem leastL_of {S T : List Int} (h : ∀ y, y ∈ S ↔ y ∈ T) : leastL S = leastL T := by
  have hST : ∀ {A B : List Int}, (∀ y, y ∈ A ↔ y ∈ B) → A = [] → B = [] := fun h e => List.eq_nil_iff_forall_not_mem.2 fun y hy => by have := (h y).2 hy; rw [e] at this; cases this
  by_cases e : S = []
  · rw [e, hST h e]
  · have e2 : T ≠ [] := fun e2 => e (hST (fun y => (h y).symm) e2)
    have h1 := least_le ((h _).1 (least_mem e))
    have h2 := least_le ((h _).2 (least_mem e2))
    omega
theorem leastL_snoc (T : List Int) (y : Int) : leastL (T ++ [y]) = if T = [] then y else min (leastL T) y := by
  cases T with
  | nil => rfl
  | cons a r => rw [if_neg (by simp), List.cons_append, leastL, List.foldl_append]; rfl
theorem setF_some {S : List Int} {y : Int} {v : Value} (h : setF S y = some v) : y ∈ S ∧ v = .bool true := by
  unfold setF at h
  split at h
  · rename_i h2
    cases h; exact ⟨h2, rfl⟩
  · cases h
theorem setF_mem {S : List Int} {y : Int} (h : y ∈ S) : setF S y = some (.bool true) := by unfold setF; rw [if_pos h]
set_option maxHeartbeats 1000000 in
theorem least_v (b : Nat) (S : List Int) (w : World) (hS : SetJ w b S) : Calls Try.prog 59 #[.map (some b)] w (Ret (.int .i64 (leastL S)) w) := by
  refine V_enter (vs := [_]) Try.func59 rfl Try.ntmps59 (Nat.le_of_ble_eq_true rfl) ?_
  repeat (first | refine Vx ?_ | (apply Ops_q; (case hon => exact Va); (case hd => rfl); (case hq => exact YlA)) | refine Vr ?_ | refine Vt ?_ | refine Vf ?_ | refine Vm ?_ | refine Ve ?_ | refine Vo ?_ | refine Vz ?_)
  refine Ops_rangeJ (by exact Va) rfl rfl hS ?_
  intro w1 r cnt x1 hr hI
  repeat (first | refine Vx ?_ | (apply Ops_q; (case hon => exact Va); (case hd => rfl); (case hq => exact YlA)) | refine Vr ?_ | refine Vt ?_ | refine Vf ?_ | refine Vm ?_ | refine Ve ?_ | refine Vo ?_ | refine Vz ?_)
  refine V_loop (fun s : List Int × Nat => [(7, .pointer (some ⟨r, 0, none⟩)), (3, .bool (decide (s.1 = []))), (4, .int .i64 (leastL s.1))])
    (fun s w' => Ext w w' ∧ IterJ w' b r .i64 (setF S) s.1 s.2 ∧ ∀ y ∈ s.1, y ∈ S) (fun s => s.2) ([], cnt) (by repeat (first | exact trivial | refine ⟨rfl, ?_⟩)) ⟨x1, hI, fun y hy => nomatch hy⟩ ?_
  clear hI x1
  rintro ⟨T, cnt⟩ w2 ⟨x2, hI, hT⟩
  dsimp only at hI hT ⊢
  repeat (first | refine Vx ?_ | (apply Ops_q; (case hon => exact Va); (case hd => rfl); (case hq => exact YlA)) | refine Vr ?_ | refine Vt ?_ | refine Vf ?_ | refine Vm ?_ | refine Ve ?_ | refine Vo ?_ | refine Vz ?_)
  refine Ops_nextJ (by exact Va) rfl rfl hI (fun hall => ?_) (fun y v w3 cnt' hF hy hI3 hlt hg3 hE3 => ?_)
  · have hl : leastL T = leastL S := leastL_of fun y => ⟨hT y, fun h => hall y _ (setF_mem h)⟩
    repeat (first | refine Vx ?_ | (apply Ops_q; (case hon => exact Va); (case hd => rfl); (case hq => exact YlA)) | refine Vr ?_ | refine Vt ?_ | refine Vf ?_ | refine Vm ?_ | refine Ve ?_ | refine Vo ?_ | refine Vz ?_)
    refine ret1 (by first | exact .inl rfl | exact .inr rfl) rfl rfl ?_
    exact Ret_mk (by rw [hl]) x2
  · have x3 : Ext w w3 := Mod.ext_of x2 ((Mod.of_ext (S := fun c => c = r) (Ext.refl w2)).grow hg3 (fun b hb => .inl (by cases hb; rfl))) (fun c hc => by rw [hc]; exact hr)
    have hyS := (setF_some hF).1
    have hTy : ∀ z ∈ T ++ [y], z ∈ S := fun z hz => by
      rcases List.mem_append.1 hz with h | h
      · exact hT z h
      · rw [List.mem_singleton.1 h]; exact hyS
    have hsn := leastL_snoc T y
    have hne : decide (T ++ [y] = []) = false := decide_eq_false (by simp)
    repeat (first | refine Vx ?_ | (apply Ops_q; (case hon => exact Va); (case hd => rfl); (case hq => exact YlA)) | refine Vr ?_ | refine Vt ?_ | refine Vf ?_ | refine Vm ?_ | refine Ve ?_ | refine Vo ?_ | refine Vz ?_)
    (apply Ops_q; (case hon => (exact Va)); (case hd => rfl); (case hq => exact Yl_entryJ rfl (hE3)))
    repeat (first | refine Vx ?_ | (apply Ops_q; (case hon => exact Va); (case hd => rfl); (case hq => exact YlA)) | refine Vr ?_ | refine Vt ?_ | refine Vf ?_ | refine Vm ?_ | refine Ve ?_ | refine Vo ?_ | refine Vz ?_)
    refine Ops_meet [(17, .bool (decide (T = [] ∨ y < leastL T))), (5, .int .i64 y), (7, .pointer (some ⟨r, 0, none⟩)), (3, .bool (decide (T = []))), (4, .int .i64 (leastL T))] ?_ ?_
    · refine Ops_split rfl rfl (fun h1 => ?_) (fun h1 => ?_)
      · have h1' := of_decide_eq_true h1
        repeat (first | refine Vx ?_ | (apply Ops_q; (case hon => exact Va); (case hd => rfl); (case hq => exact YlA)) | refine Vr ?_ | refine Vt ?_ | refine Vf ?_ | refine Vm ?_ | refine Ve ?_ | refine Vo ?_ | refine Vz ?_)
        refine ⟨⟨?_, (by repeat (first | exact trivial | refine ⟨rfl, ?_⟩))⟩, rfl⟩
        exact congrArg (fun b => some (Value.bool b)) (decide_eq_true (.inl h1')).symm
      · have h1' := of_decide_eq_false h1
        repeat (first | refine Vx ?_ | (apply Ops_q; (case hon => exact Va); (case hd => rfl); (case hq => exact YlA)) | refine Vr ?_ | refine Vt ?_ | refine Vf ?_ | refine Vm ?_ | refine Ve ?_ | refine Vo ?_ | refine Vz ?_)
        refine ⟨⟨?_, (by repeat (first | exact trivial | refine ⟨rfl, ?_⟩))⟩, rfl⟩
        refine congrArg (fun b => some (Value.bool b)) (decide_eq_decide.2 ⟨.inr, fun h => h.elim (fun h => absurd h h1') id⟩)
    repeat (first | refine Vx ?_ | (apply Ops_q; (case hon => exact Va); (case hd => rfl); (case hq => exact YlA)) | refine Vr ?_ | refine Vt ?_ | refine Vf ?_ | refine Vm ?_ | refine Ve ?_ | refine Vo ?_ | refine Vz ?_)
    refine V_cond rfl (fun h2 => ?_) (fun h2 => ?_)
    · have h2' := of_decide_eq_true h2
      have hv : leastL (T ++ [y]) = y := by
        rw [hsn]; split
        · rfl
        · have := h2'.elim (fun h => absurd h (by assumption)) id
          omega
      repeat (first | refine Vx ?_ | (apply Ops_q; (case hon => exact Va); (case hd => rfl); (case hq => exact YlA)) | refine Vr ?_ | refine Vt ?_ | refine Vf ?_ | refine Vm ?_ | refine Ve ?_ | refine Vo ?_ | refine Vz ?_)
      refine ⟨(T ++ [y], cnt'), ?_, ⟨x3, hI3, hTy⟩, hlt⟩
      dsimp only
      rw [hne, hv]
      exact (by repeat (first | exact trivial | refine ⟨rfl, ?_⟩))
    · have h2' := of_decide_eq_false h2
      have hT0 : T ≠ [] := fun h => h2' (.inl h)
      have hv : leastL (T ++ [y]) = leastL T := by
        rw [hsn, if_neg hT0]
        have : ¬y < leastL T := fun h => h2' (.inr h)
        omega
      have hd : decide (T = []) = false := decide_eq_false hT0
      repeat (first | refine Vx ?_ | (apply Ops_q; (case hon => exact Va); (case hd => rfl); (case hq => exact YlA)) | refine Vr ?_ | refine Vt ?_ | refine Vf ?_ | refine Vm ?_ | refine Ve ?_ | refine Vo ?_ | refine Vz ?_)
      refine ⟨(T ++ [y], cnt'), ?_, ⟨x3, hI3, hTy⟩, hlt⟩
      dsimp only
      rw [hne, hv, ← hd]
      exact (by repeat (first | exact trivial | refine ⟨rfl, ?_⟩))
/-- What joined returns. -/
def JoinR (w : World) (S : List Int) (r : Value) (w' : World) : Prop := ∃ b, r = .map (some b) ∧ SetJ w' b S ∧ w.heap.size ≤ b
set_option maxHeartbeats 2000000 in
theorem joined_v (a b : Nat) (A B : List Int) (w : World) (hA : SetJ w a A) (hB : SetJ w b B) : Calls Try.prog 63 #[.map (some a), .map (some b)] w (Gives (JoinR w (joinL A B)) w) := by
  have hal := hA.lt
  have hbl := hB.lt
  refine V_enter (vs := [_, _]) Try.func63 rfl Try.ntmps63 (Nat.le_of_ble_eq_true rfl) ?_
  repeat (first | refine Vx ?_ | (apply Ops_q; (case hon => exact Va); (case hd => rfl); (case hq => exact YlA)) | refine Vr ?_ | refine Vt ?_ | refine Vf ?_ | refine Vm ?_ | refine Ve ?_ | refine Vo ?_ | refine Vz ?_)
  refine Ops_makeMapJ (k := .i64) (by exact Va) rfl ?_
  intro w1 bo x1 hbo hbo1
  repeat (first | refine Vx ?_ | (apply Ops_q; (case hon => exact Va); (case hd => rfl); (case hq => exact YlA)) | refine Vr ?_ | refine Vt ?_ | refine Vf ?_ | refine Vm ?_ | refine Ve ?_ | refine Vo ?_ | refine Vz ?_)
  refine Ops_makeMapJ (k := .i64) (by exact Va) rfl ?_
  intro w2 al x2 hal2 hal1
  have hne : al ≠ bo := fun e => by have := hbo1.lt; omega
  replace hbo1 := hbo1.ext x2
  rw [← setF_nil] at hbo1 hal1
  have x12 := x1.trans x2
  have hge : w.heap.size ≤ al := Nat.le_trans x1.size hal2
  repeat (first | refine Vx ?_ | (apply Ops_q; (case hon => exact Va); (case hd => rfl); (case hq => exact YlA)) | refine Vr ?_ | refine Vt ?_ | refine Vf ?_ | refine Vm ?_ | refine Ve ?_ | refine Vo ?_ | refine Vz ?_)
  refine Ops_rangeJ (by exact Va) rfl rfl (hA.ext x12) ?_
  intro w3 r cnt x3 hr hI
  have hrw : w.heap.size ≤ r := Nat.le_trans x12.size hr
  have hrbo : r ≠ bo := fun e => by have := hbo1.lt; omega
  have hral : r ≠ al := fun e => by have := hal1.lt; omega
  have hano : a ≠ bo ∧ a ≠ al := ⟨by omega, by omega⟩
  have hbno : b ≠ bo ∧ b ≠ al := ⟨by omega, by omega⟩
  replace hbo1 := hbo1.ext x3
  replace hal1 := hal1.ext x3
  replace x3 := x12.trans x3
  clear x12 x1 x2 hr hal2
  repeat (first | refine Vx ?_ | (apply Ops_q; (case hon => exact Va); (case hd => rfl); (case hq => exact YlA)) | refine Vr ?_ | refine Vt ?_ | refine Vf ?_ | refine Vm ?_ | refine Ve ?_ | refine Vo ?_ | refine Vz ?_)
  refine V_loop (fun s : List Int × Nat => [(12, .pointer (some ⟨r, 0, none⟩)), (5, .map (some bo)), (6, .map (some al)), (1, .map (some b))])
    (fun s w' => Ext w w' ∧ IterJ w' a r .i64 (setF A) s.1 s.2 ∧ SetJ w' al s.1 ∧ SetJ w' bo (bothL s.1 B) ∧ ∀ y ∈ s.1, y ∈ A) (fun s => s.2) ([], cnt) (by repeat (first | exact trivial | refine ⟨rfl, ?_⟩)) ⟨x3, hI, hal1, hbo1, fun y hy => nomatch hy⟩ ?_
  clear hI hal1 hbo1 x3
  rintro ⟨T, cnt⟩ w4 ⟨x4, hI, hal1, hbo1, hT⟩
  dsimp only at hI hT hal1 hbo1 ⊢
  repeat (first | refine Vx ?_ | (apply Ops_q; (case hon => exact Va); (case hd => rfl); (case hq => exact YlA)) | refine Vr ?_ | refine Vt ?_ | refine Vf ?_ | refine Vm ?_ | refine Ve ?_ | refine Vo ?_ | refine Vz ?_)
  refine Ops_nextJ (by exact Va) rfl rfl hI (fun hall => ?_) (fun y v w5 cnt' hF hy hI5 hlt hg5 hE5 => ?_)
  · have hTA : ∀ y, y ∈ T ↔ y ∈ A := fun y => ⟨hT y, fun h => hall y _ (setF_mem h)⟩
    have hbm : ∀ y, y ∈ bothL T B ↔ y ∈ bothL A B := fun y => by unfold bothL; rw [List.mem_filter, List.mem_filter, hTA]
    have hbo2 : SetJ w4 bo (bothL A B) := by unfold SetJ; rw [← setF_congr hbm]; exact hbo1
    clear hI hall
    repeat (first | refine Vx ?_ | (apply Ops_q; (case hon => exact Va); (case hd => rfl); (case hq => exact YlA)) | refine Vr ?_ | refine Vt ?_ | refine Vf ?_ | refine Vm ?_ | refine Ve ?_ | refine Vo ?_ | refine Vz ?_)
    refine Ops_lenJ (by exact Va) rfl rfl hbo2 fun n hn => ?_
    have hn' : n = 0 ↔ bothL A B = [] := hn.trans ⟨(fun h => List.eq_nil_iff_forall_not_mem.2 fun y hy => by have := h y; rw [setF_mem hy] at this; cases this), (fun h y => by rw [h, setF_nil])⟩
    repeat (first | refine Vx ?_ | (apply Ops_q; (case hon => exact Va); (case hd => rfl); (case hq => exact YlA)) | refine Vr ?_ | refine Vt ?_ | refine Vf ?_ | refine Vm ?_ | refine Ve ?_ | refine Vo ?_ | refine Vz ?_)
    refine V_cond rfl (fun hc => ?_) (fun hc => ?_)
    · have hc' : bothL A B ≠ [] := fun e => by have := of_decide_eq_true hc; have := hn'.2 e; omega
      clear hc
      repeat (first | refine Vx ?_ | (apply Ops_q; (case hon => exact Va); (case hd => rfl); (case hq => exact YlA)) | refine Vr ?_ | refine Vt ?_ | refine Vf ?_ | refine Vm ?_ | refine Ve ?_ | refine Vo ?_ | refine Vz ?_)
      refine ret1 (by first | exact .inl rfl | exact .inr rfl) rfl rfl ?_
      exact Gives_mk (fun w' he => ⟨bo, rfl, by rw [joinL, if_neg hc']; exact hbo2.ext he, hbo⟩) x4
    · have hc' : bothL A B = [] := hn'.1 (by have := of_decide_eq_false hc; omega)
      clear hc hn hn'
      repeat (first | refine Vx ?_ | (apply Ops_q; (case hon => exact Va); (case hd => rfl); (case hq => exact YlA)) | refine Vr ?_ | refine Vt ?_ | refine Vf ?_ | refine Vm ?_ | refine Ve ?_ | refine Vo ?_ | refine Vz ?_)
      refine Ops_rangeJ (by exact Va) rfl rfl (hB.ext x4) ?_
      intro w5 r2 cnt2 x5 hr2 hI2
      have hr2w : w.heap.size ≤ r2 := Nat.le_trans x4.size hr2
      have hr2al : r2 ≠ al := fun e => by have := hal1.lt; omega
      have hal5 : SetJ w5 al (A ++ []) := by
        rw [List.append_nil]
        unfold SetJ; rw [← setF_congr hTA]; exact hal1.ext x5
      replace x5 := x4.trans x5
      clear hal1 hr2 hTA hbm hbo1 hT
      repeat (first | refine Vx ?_ | (apply Ops_q; (case hon => exact Va); (case hd => rfl); (case hq => exact YlA)) | refine Vr ?_ | refine Vt ?_ | refine Vf ?_ | refine Vm ?_ | refine Ve ?_ | refine Vo ?_ | refine Vz ?_)
      refine V_loop (fun s : List Int × Nat => [(29, .pointer (some ⟨r2, 0, none⟩)), (6, .map (some al))])
        (fun s w' => Ext w w' ∧ IterJ w' b r2 .i64 (setF B) s.1 s.2 ∧ SetJ w' al (A ++ s.1) ∧ ∀ y ∈ s.1, y ∈ B) (fun s => s.2) ([], cnt2) (by repeat (first | exact trivial | refine ⟨rfl, ?_⟩)) ⟨x5, hI2, hal5, fun y hy => nomatch hy⟩ ?_
      clear hI2 hal5 x5
      rintro ⟨T, cnt⟩ w6 ⟨x6, hI, hal1, hT⟩
      dsimp only at hI hT hal1 ⊢
      repeat (first | refine Vx ?_ | (apply Ops_q; (case hon => exact Va); (case hd => rfl); (case hq => exact YlA)) | refine Vr ?_ | refine Vt ?_ | refine Vf ?_ | refine Vm ?_ | refine Ve ?_ | refine Vo ?_ | refine Vz ?_)
      refine Ops_nextJ (by exact Va) rfl rfl hI (fun hall => ?_) (fun y v w7 cnt' hF hy hI7 hlt hg7 hE7 => ?_)
      · have hall2 : ∀ y, y ∈ A ++ T ↔ y ∈ A ++ B := fun y => by
          rw [List.mem_append, List.mem_append]
          exact or_congr Iff.rfl ⟨hT y, fun h => hall y _ (setF_mem h)⟩
        have hal2 : SetJ w6 al (joinL A B) := by rw [joinL, if_pos hc']; unfold SetJ; rw [← setF_congr hall2]; exact hal1
        repeat (first | refine Vx ?_ | (apply Ops_q; (case hon => exact Va); (case hd => rfl); (case hq => exact YlA)) | refine Vr ?_ | refine Vt ?_ | refine Vf ?_ | refine Vm ?_ | refine Ve ?_ | refine Vo ?_ | refine Vz ?_)
        refine ret1 (by first | exact .inl rfl | exact .inr rfl) rfl rfl ?_
        exact Gives_mk (fun w' he => ⟨al, rfl, hal2.ext he, hge⟩) x6
      · have x7 : Ext w w7 := Mod.ext_of x6 ((Mod.of_ext (S := fun c => c = r2) (Ext.refl w6)).grow hg7 (fun b hb => .inl (by cases hb; rfl))) (fun c hc => by rw [hc]; exact hr2w)
        have hyB := (setF_some hF).1
        have hal7 := hal1.grow hg7 (fun e => hr2al (by cases e; rfl))
        have hTy : ∀ z ∈ T ++ [y], z ∈ B := fun z hz => by
          rcases List.mem_append.1 hz with h | h
          · exact hT z h
          · rw [List.mem_singleton.1 h]; exact hyB
        clear hF hI hal1 hT
        repeat (first | refine Vx ?_ | (apply Ops_q; (case hon => exact Va); (case hd => rfl); (case hq => exact YlA)) | refine Vr ?_ | refine Vt ?_ | refine Vf ?_ | refine Vm ?_ | refine Ve ?_ | refine Vo ?_ | refine Vz ?_)
        (apply Ops_q; (case hon => (exact Va)); (case hd => rfl); (case hq => exact Yl_entryJ rfl (hE7)))
        repeat (first | refine Vx ?_ | (apply Ops_q; (case hon => exact Va); (case hd => rfl); (case hq => exact YlA)) | refine Vr ?_ | refine Vt ?_ | refine Vf ?_ | refine Vm ?_ | refine Ve ?_ | refine Vo ?_ | refine Vz ?_)
        refine Ops_updateJ (v := .bool true) (by exact Va) rfl rfl rfl hal7 ?_
        intro w8 g8 hal8
        rw [setF_add, List.append_assoc] at hal8
        have hI8 := hI7.grow g8 (fun e => hbno.2 (by cases e; rfl)) (fun e => hr2al (by cases e; rfl))
        have x8 : Ext w w8 := Mod.ext_of x7 ((Mod.of_ext (S := fun c => c = al) (Ext.refl w7)).grow g8 (fun b hb => .inl (by cases hb; rfl))) (fun c hc => by rw [hc]; exact hge)
        repeat (first | refine Vx ?_ | (apply Ops_q; (case hon => exact Va); (case hd => rfl); (case hq => exact YlA)) | refine Vr ?_ | refine Vt ?_ | refine Vf ?_ | refine Vm ?_ | refine Ve ?_ | refine Vo ?_ | refine Vz ?_)
        exact ⟨(T ++ [y], cnt'), (by repeat (first | exact trivial | refine ⟨rfl, ?_⟩)), ⟨x8, hI8, hal8, hTy⟩, hlt⟩
  · have x5 : Ext w w5 := Mod.ext_of x4 ((Mod.of_ext (S := fun c => c = r) (Ext.refl w4)).grow hg5 (fun b hb => .inl (by cases hb; rfl))) (fun c hc => by rw [hc]; exact hrw)
    have hyA := (setF_some hF).1
    have hal5 := hal1.grow hg5 (fun e => hral (by cases e; rfl))
    have hbo5 := hbo1.grow hg5 (fun e => hrbo (by cases e; rfl))
    have hTy : ∀ z ∈ T ++ [y], z ∈ A := fun z hz => by
      rcases List.mem_append.1 hz with h | h
      · exact hT z h
      · rw [List.mem_singleton.1 h]; exact hyA
    have hbsn : bothL (T ++ [y]) B = bothL T B ++ if y ∈ B then [y] else [] := by
      unfold bothL
      rw [List.filter_append]
      congr 1
      by_cases h : y ∈ B
      · rw [if_pos h, List.filter_cons_of_pos (by simpa using h)]; rfl
      · rw [if_neg h, List.filter_cons_of_neg (by simpa using h)]; rfl
    clear hF hI hal1 hbo1 hT
    repeat (first | refine Vx ?_ | (apply Ops_q; (case hon => exact Va); (case hd => rfl); (case hq => exact YlA)) | refine Vr ?_ | refine Vt ?_ | refine Vf ?_ | refine Vm ?_ | refine Ve ?_ | refine Vo ?_ | refine Vz ?_)
    (apply Ops_q; (case hon => (exact Va)); (case hd => rfl); (case hq => exact Yl_entryJ rfl (hE5)))
    repeat (first | refine Vx ?_ | (apply Ops_q; (case hon => exact Va); (case hd => rfl); (case hq => exact YlA)) | refine Vr ?_ | refine Vt ?_ | refine Vf ?_ | refine Vm ?_ | refine Ve ?_ | refine Vo ?_ | refine Vz ?_)
    refine Ops_updateJ (v := .bool true) (by exact Va) rfl rfl rfl hal5 ?_
    intro w6 g6 hal6
    rw [setF_add] at hal6
    have hI6 := hI5.grow g6 (fun e => hano.2 (by cases e; rfl)) (fun e => hral (by cases e; rfl))
    have hbo6 := hbo5.grow g6 (fun e => hne (by cases e; rfl))
    have x6 : Ext w w6 := Mod.ext_of x5 ((Mod.of_ext (S := fun c => c = al) (Ext.refl w5)).grow g6 (fun b hb => .inl (by cases hb; rfl))) (fun c hc => by rw [hc]; exact hge)
    have hB6 := hB.ext x6
    clear hI5 hbo5 hal5 hE5
    repeat (first | refine Vx ?_ | (apply Ops_q; (case hon => exact Va); (case hd => rfl); (case hq => exact YlA)) | refine Vr ?_ | refine Vt ?_ | refine Vf ?_ | refine Vm ?_ | refine Ve ?_ | refine Vo ?_ | refine Vz ?_)
    (apply Ops_q; (case hon => (exact Va)); (case hd => rfl); (case hq => exact Yl_inSet rfl rfl (hB6)))
    repeat (first | refine Vx ?_ | (apply Ops_q; (case hon => exact Va); (case hd => rfl); (case hq => exact YlA)) | refine Vr ?_ | refine Vt ?_ | refine Vf ?_ | refine Vm ?_ | refine Ve ?_ | refine Vo ?_ | refine Vz ?_)
    refine V_cond rfl (fun hc => ?_) (fun hc => ?_)
    · have hyB := of_decide_eq_true hc
      rw [if_pos hyB] at hbsn
      repeat (first | refine Vx ?_ | (apply Ops_q; (case hon => exact Va); (case hd => rfl); (case hq => exact YlA)) | refine Vr ?_ | refine Vt ?_ | refine Vf ?_ | refine Vm ?_ | refine Ve ?_ | refine Vo ?_ | refine Vz ?_)
      refine Ops_updateJ (v := .bool true) (by exact Va) rfl rfl rfl hbo6 ?_
      intro w7 g7 hbo7
      rw [setF_add, ← hbsn] at hbo7
      have hI7 := hI6.grow g7 (fun e => hano.1 (by cases e; rfl)) (fun e => hrbo (by cases e; rfl))
      have hal7 := MapJ.grow hal6 g7 (fun e => hne (by cases e; rfl))
      have x7 : Ext w w7 := Mod.ext_of x6 ((Mod.of_ext (S := fun c => c = bo) (Ext.refl w6)).grow g7 (fun b hb => .inl (by cases hb; rfl))) (fun c hc => by rw [hc]; exact hbo)
      repeat (first | refine Vx ?_ | (apply Ops_q; (case hon => exact Va); (case hd => rfl); (case hq => exact YlA)) | refine Vr ?_ | refine Vt ?_ | refine Vf ?_ | refine Vm ?_ | refine Ve ?_ | refine Vo ?_ | refine Vz ?_)
      exact ⟨(T ++ [y], cnt'), (by repeat (first | exact trivial | refine ⟨rfl, ?_⟩)), ⟨x7, hI7, hal7, hbo7, hTy⟩, hlt⟩
    · have hyB := of_decide_eq_false hc
      rw [if_neg hyB, List.append_nil] at hbsn
      repeat (first | refine Vx ?_ | (apply Ops_q; (case hon => exact Va); (case hd => rfl); (case hq => exact YlA)) | refine Vr ?_ | refine Vt ?_ | refine Vf ?_ | refine Vm ?_ | refine Ve ?_ | refine Vo ?_ | refine Vz ?_)
      exact ⟨(T ++ [y], cnt'), (by repeat (first | exact trivial | refine ⟨rfl, ?_⟩)), ⟨x6, hI6, hal6, by dsimp only; rw [hbsn]; exact hbo6, hTy⟩, hlt⟩
end Go.Proofs.Ytkiidmbkibfbiaa

/-
  Sets of addresses as intervals (the reference of layer 5): merged.
  Conditions: the lists are not too long for a machine.
-/
namespace Go.Proofs.Ytkiidmbkibfbiaa
open Go.RowKit

/-! ### Intervals -/
abbrev Sp := Nat × Nat
def spC (s : Sp) : List Value := [.int .u64 s.1, .int .u64 s.2]
def hasS (S : List Sp) (x : Nat) : Prop := ∃ s ∈ S, s.1 ≤ x ∧ x < s.2
/-- Ascending intervals that are not empty and do not touch. -/
structure Nrm (S : List Sp) : Prop where
  ne : ∀ s ∈ S, s.1 < s.2 ∧ s.2 ≤ 4294967296
  asc : S.Pairwise (fun s t => s.2 < t.1)
theorem Nrm.nil : Nrm [] := ⟨(fun _ h => nomatch h), List.Pairwise.nil⟩
theorem hasS_nil {x : Nat} : ¬hasS [] x := fun ⟨_, h, _⟩ => nomatch h
theorem hasS_cons {s : Sp} {S : List Sp} {x : Nat} : hasS (s :: S) x ↔ (s.1 ≤ x ∧ x < s.2) ∨ hasS S x := by
  unfold hasS
  simp
theorem hasS_append {S T : List Sp} {x : Nat} : hasS (S ++ T) x ↔ hasS S x ∨ hasS T x := by
  unfold hasS
  constructor
  · rintro ⟨s, h, h2⟩
    exact (List.mem_append.1 h).imp (fun h => ⟨s, h, h2⟩) fun h => ⟨s, h, h2⟩
  · rintro (⟨s, h, h2⟩ | ⟨s, h, h2⟩)
    · exact ⟨s, List.mem_append.2 (.inl h), h2⟩
    · exact ⟨s, List.mem_append.2 (.inr h), h2⟩
/-- One step of merging: s begins behind all that begin in O. -/
theorem merge_join {O : List Sp} {o s : Sp} (h : Nrm (O ++ [o])) (hs : s.2 ≤ 4294967296) (h1 : o.1 ≤ s.1) (h2 : s.1 ≤ o.2) : Nrm (O ++ [(o.1, max o.2 s.2)]) ∧ ∀ x, hasS (O ++ [(o.1, max o.2 s.2)]) x ↔ hasS (O ++ [o]) x ∨ (s.1 ≤ x ∧ x < s.2) := by
  obtain ⟨p1, p2, p3⟩ := List.pairwise_append.1 h.asc
  have ho := h.ne o (by simp)
  refine ⟨⟨fun t ht => ?_, List.pairwise_append.2 ⟨p1, List.pairwise_singleton .., fun a ha b hb => ?_⟩⟩, fun x => ?_⟩
  · rcases List.mem_append.1 ht with ht | ht
    · exact h.ne t (List.mem_append.2 (.inl ht))
    · rw [List.mem_singleton.1 ht]; dsimp only; omega
  · rw [List.mem_singleton.1 hb]
    exact p3 a ha o (List.mem_singleton.2 rfl)
  · rw [hasS_append, hasS_append, hasS_cons, hasS_cons]
    dsimp only
    have hn := @hasS_nil x
    constructor
    · rintro (h3 | h3 | h3)
      · exact .inl (.inl h3)
      · rcases Nat.lt_or_ge x o.2 with c | c
        · exact .inl (.inr (.inl ⟨h3.1, c⟩))
        · exact .inr (by omega)
      · exact absurd h3 hn
    · rintro ((h3 | h3 | h3) | h3)
      · exact .inl h3
      · exact .inr (.inl (by omega))
      · exact absurd h3 hn
      · exact .inr (.inl (by omega))
theorem merge_add {O : List Sp} {s : Sp} (h : Nrm O) (hs : s.1 < s.2 ∧ s.2 ≤ 4294967296) (hl : ∀ O' o, O = O' ++ [o] → o.2 < s.1) : Nrm (O ++ [s]) := by
  refine ⟨fun t ht => ?_, List.pairwise_append.2 ⟨h.asc, List.pairwise_singleton .., fun a ha b hb => ?_⟩⟩
  · rcases List.mem_append.1 ht with ht | ht
    · exact h.ne t ht
    · rw [List.mem_singleton.1 ht]; exact hs
  · rw [List.mem_singleton.1 hb]
    rcases List.eq_nil_or_concat O with rfl | ⟨O', o, rfl⟩
    · cases ha
    · rw [List.concat_eq_append] at *
      have ho := hl O' o rfl
      rcases List.mem_append.1 ha with ha | ha
      · have h1 := (List.pairwise_append.1 h.asc).2.2 a ha o (List.mem_singleton.2 rfl)
        have h2 := h.ne o (by simp)
        omega
      · rw [List.mem_singleton.1 ha]; exact ho

/-! ### merged -/
/-- What merged returns. -/
def MrgR (w : World) (L : List Sp) (r : Value) (w' : World) : Prop := ∃ O : List Sp, Own w' w.heap.size 126 2 r (O.map spC) ∧ Nrm O ∧ (∀ x, hasS O x ↔ hasS L x) ∧ O.length ≤ L.length
def skipL (l : List Sp) (b i : Nat) (R : List Sp) : Prop := R.length + (if b < i then 1 else 0) = i ∧ ∀ t, t ∈ R ↔ ∃ j, j < i ∧ j ≠ b ∧ l[j]? = some t
theorem skip_step {l : List Sp} {b i : Nat} {R : List Sp} {x : Sp} (h : skipL l b i R) (hx : l[i]? = some x) : skipL l b (i + 1) (if i = b then R else R ++ [x]) := by
  obtain ⟨h1, h2⟩ := h
  by_cases e : i = b
  · subst e
    rw [if_pos rfl]
    refine ⟨by rw [if_pos (by omega)]; rw [if_neg (by omega)] at h1; omega, fun t => (h2 t).trans ⟨fun ⟨j, j1, j2, j3⟩ => ⟨j, by omega, j2, j3⟩, fun ⟨j, j1, j2, j3⟩ => ⟨j, by omega, j2, j3⟩⟩⟩
  · rw [if_neg e]
    refine ⟨?_, fun t => ?_⟩
    · rw [List.length_append, List.length_singleton]
      by_cases c : b < i
      · rw [if_pos c] at h1; rw [if_pos (by omega)]; omega
      · rw [if_neg c] at h1; rw [if_neg (by omega)]; omega
    · rw [List.mem_append, List.mem_singleton, h2]
      constructor
      · rintro (⟨j, j1, j2, j3⟩ | rfl)
        · exact ⟨j, by omega, j2, j3⟩
        · exact ⟨i, by omega, e, hx⟩
      · rintro ⟨j, j1, j2, j3⟩
        rcases Nat.lt_or_eq_of_le (Nat.le_of_lt_succ j1) with c | c
        · exact .inl ⟨j, c, j2, j3⟩
        · subst c; rw [hx] at j3; cases j3; exact .inr rfl
theorem skip_all {l : List Sp} {b : Nat} {R : List Sp} {s : Sp} (h : skipL l b l.length R) (hs : l[b]? = some s) : R.length + 1 = l.length ∧ (∀ t ∈ R, t ∈ l) ∧ ∀ x, hasS l x ↔ hasS R x ∨ (s.1 ≤ x ∧ x < s.2) := by
  obtain ⟨h1, h2⟩ := h
  have hb := (List.getElem?_eq_some_iff.1 hs).1
  rw [if_pos hb] at h1
  refine ⟨h1, fun t ht => ?_, fun x => ?_⟩
  · obtain ⟨j, _, _, hj⟩ := (h2 t).1 ht
    exact List.mem_of_getElem? hj
  · constructor
    · rintro ⟨t, ht, hx⟩
      obtain ⟨j, hj, rfl⟩ := List.mem_iff_getElem.1 ht
      by_cases e : j = b
      · subst e
        rw [List.getElem?_eq_getElem hj] at hs; cases hs
        exact .inr hx
      · exact .inl ⟨_, (h2 _).2 ⟨j, hj, e, List.getElem?_eq_getElem hj⟩, hx⟩
    · rintro (⟨t, ht, hx⟩ | hx)
      · obtain ⟨j, j1, j2, j3⟩ := (h2 t).1 ht
        exact ⟨t, List.mem_of_getElem? j3, hx⟩
      · exact ⟨s, List.mem_of_getElem? hs, hx⟩
set_option maxHeartbeats 4000000 in
theorem merged_v (ao : Option Addr) (L : List Sp) (c : Nat) (w : World) (hL : Arr w 2 ao (L.map spC)) (hB : ∀ s ∈ L, s.2 ≤ 4294967296) (hn : L.length ≤ 1000000) (hlt : ∀ a, ao = some a → a.block < w.heap.size) :
    Calls Try.prog 94 #[.slice ao L.length c] w (Gives (MrgR w L) w) := by
  refine V_enter (vs := [_]) Try.func94 rfl Try.ntmps94 (Nat.le_of_ble_eq_true rfl) ?_
  repeat (first | refine Vx ?_ | (apply Ops_q; (case hon => exact Va); (case hd => rfl); (case hq => exact YlA)) | refine Vr ?_ | refine Vt ?_ | refine Vf ?_ | refine Vm ?_ | refine Ve ?_ | refine Vo ?_ | refine Vz ?_)
  refine V_loop (fun s : Option Addr × Nat × List Sp × Value × List Sp => [(0, .slice s.1 s.2.2.1.length s.2.1), (3, s.2.2.2.1)])
    (fun s w' => Ext w w' ∧ Arr w' 2 s.1 (s.2.2.1.map spC) ∧ (∀ a, s.1 = some a → a.block < w'.heap.size ∧ s.2.2.2.1.ownBlock ≠ some a.block) ∧ Own w' w.heap.size 126 2 s.2.2.2.1 (s.2.2.2.2.map spC) ∧ Nrm s.2.2.2.2 ∧ (∀ t ∈ s.2.2.1, t.2 ≤ 4294967296 ∧ ∀ o ∈ s.2.2.2.2, o.1 ≤ t.1) ∧ (∀ x, hasS s.2.2.2.2 x ∨ hasS s.2.2.1 x ↔ hasS L x) ∧ s.2.2.2.2.length + s.2.2.1.length ≤ L.length)
    (fun s => s.2.2.1.length) (ao, c, L, .slice none 0 0, []) (by repeat (first | exact trivial | refine ⟨rfl, ?_⟩)) ⟨Ext.refl _, hL, fun a ha => ⟨hlt a ha, by simp [Value.ownBlock]⟩, Own.nil, Nrm.nil, fun t ht => ⟨hB t ht, fun o ho => nomatch ho⟩, fun x => ⟨fun h => h.elim (fun h => absurd h hasS_nil) id, .inr⟩, by simp⟩ ?_
  rintro ⟨al, cl, l, v, O⟩ w1 ⟨x1, hA, hne, hO, hN, hmin, hset, hlen⟩
  dsimp only at hA hne hO hN hmin hset hlen ⊢
  repeat (first | refine Vx ?_ | (apply Ops_q; (case hon => exact Va); (case hd => rfl); (case hq => exact YlA)) | refine Vr ?_ | refine Vt ?_ | refine Vf ?_ | refine Vm ?_ | refine Ve ?_ | refine Vo ?_ | refine Vz ?_)
  refine V_cond rfl (fun hg => ?_) (fun hg => ?_)
  · replace hg := of_decide_eq_true hg
    have hl0 : 0 < l.length := by omega
    repeat (first | refine Vx ?_ | (apply Ops_q; (case hon => exact Va); (case hd => rfl); (case hq => exact YlA)) | refine Vr ?_ | refine Vt ?_ | refine Vf ?_ | refine Vm ?_ | refine Ve ?_ | refine Vo ?_ | refine Vz ?_)
    refine V_loop (fun s : Nat × Nat => [(17, .int .i64 s.1), (16, .int .i64 l.length), (15, .slice al l.length cl), (0, .slice al l.length cl), (4, .int .i64 s.2), (3, v)])
      (fun s w' => Ext w1 w' ∧ s.1 ≤ l.length ∧ ∃ b, l[s.2]? = some b ∧ ∀ j t, j < s.1 → l[j]? = some t → b.1 ≤ t.1) (fun s => l.length - s.1) (0, 0) (by repeat (first | exact trivial | refine ⟨rfl, ?_⟩)) ⟨Ext.refl _, Nat.zero_le _, _, List.getElem?_eq_getElem hl0, fun j t hj => absurd hj (Nat.not_lt_zero _)⟩ ?_
    rintro ⟨i, b⟩ w2 ⟨x2, hi, bs, hb, hbm⟩
    dsimp only at hi hb hbm ⊢
    have hA2 := hA.ext x2
    have hbl := (List.getElem?_eq_some_iff.1 hb).1
    repeat (first | refine Vx ?_ | (apply Ops_q; (case hon => exact Va); (case hd => rfl); (case hq => exact YlA)) | refine Vr ?_ | refine Vt ?_ | refine Vf ?_ | refine Vm ?_ | refine Ve ?_ | refine Vo ?_ | refine Vz ?_)
    refine V_cond rfl (fun hg1 => ?_) (fun hg1 => ?_)
    · replace hg1 := of_decide_eq_true hg1
      have hil : i < l.length := by omega
      obtain ⟨t, ht⟩ : ∃ t, l[i]? = some t := ⟨_, List.getElem?_eq_getElem hil⟩
      obtain ⟨ad, rfl, hc⟩ := hA2 i (spC t) (by rw [List.getElem?_map, ht]; rfl)
      obtain ⟨_, e', hcb⟩ := hA2 b (spC bs) (by rw [List.getElem?_map, hb]; rfl)
      cases e'
      have hc1 : Cells w2 (ad.add (i * 2)) [.int .u64 t.1, .int .u64 t.2] := hc
      repeat (first | refine Vx ?_ | (apply Ops_q; (case hon => exact Va); (case hd => rfl); (case hq => exact YlA)) | refine Vr ?_ | refine Vt ?_ | refine Vf ?_ | refine Vm ?_ | refine Ve ?_ | refine Vo ?_ | refine Vz ?_)
      (apply Ops_q; (case hon => (exact Va)); (case hd => rfl); (case hq => exact Yl_indexS (j := i) rfl rfl (by omega)))
      repeat (first | refine Vx ?_ | (apply Ops_q; (case hon => exact Va); (case hd => rfl); (case hq => exact YlA)) | refine Vr ?_ | refine Vt ?_ | refine Vf ?_ | refine Vm ?_ | refine Ve ?_ | refine Vo ?_ | refine Vz ?_)
      (refine Ops_alloc (by exact Va) rfl ?_; intro w3 b3 n_b3; have k_b3 := n_b3.blk)
      repeat (first | refine Vx ?_ | (apply Ops_q; (case hon => exact Va); (case hd => rfl); (case hq => exact YlA)) | refine Vr ?_ | refine Vt ?_ | refine Vf ?_ | refine Vm ?_ | refine Ve ?_ | refine Vo ?_ | refine Vz ?_)
      (refine Ops_store (by exact Va) rfl rfl (by assumption) (by first | rfl | exact OneAll.h) ?_; intro w4 u_w4; have k_b3 := u_w4.blk)
      have x4 := u_w4.below n_b3.ext n_b3.ge
      have hcb4 : w4.cell? (ad.add (b * 2)) = some (.int .u64 bs.1) := by
        have := (hcb.ext x4) 0 _ rfl
        rw [add_add, Nat.add_zero] at this; exact this
      repeat (first | refine Vx ?_ | (apply Ops_q; (case hon => exact Va); (case hd => rfl); (case hq => exact YlA)) | refine Vr ?_ | refine Vt ?_ | refine Vf ?_ | refine Vm ?_ | refine Ve ?_ | refine Vo ?_ | refine Vz ?_)
      (apply Ops_q; (case hon => (exact Va)); (case hd => rfl); (case hq => exact Yl_indexS (j := b) rfl rfl (by omega)))
      repeat (first | refine Vx ?_ | (apply Ops_q; (case hon => exact Va); (case hd => rfl); (case hq => exact YlA)) | refine Vr ?_ | refine Vt ?_ | refine Vf ?_ | refine Vm ?_ | refine Ve ?_ | refine Vo ?_ | refine Vz ?_)
      refine V_cond rfl (fun h2 => ?_) (fun h2 => ?_)
      · replace h2 := of_decide_eq_true h2
        repeat (first | refine Vx ?_ | (apply Ops_q; (case hon => exact Va); (case hd => rfl); (case hq => exact YlA)) | refine Vr ?_ | refine Vt ?_ | refine Vf ?_ | refine Vm ?_ | refine Ve ?_ | refine Vo ?_ | refine Vz ?_)
        refine ⟨(i + 1, i), (by repeat (first | exact trivial | refine ⟨rfl, ?_⟩)), ⟨x2.trans x4, hil, t, ht, fun j u hj hu => ?_⟩, by simp only; omega⟩
        rcases Nat.lt_or_eq_of_le (Nat.le_of_lt_succ hj) with c' | c'
        · have := hbm j u c' hu; omega
        · subst c'; rw [ht] at hu; cases hu; exact Nat.le_refl _
      · replace h2 := of_decide_eq_false h2
        repeat (first | refine Vx ?_ | (apply Ops_q; (case hon => exact Va); (case hd => rfl); (case hq => exact YlA)) | refine Vr ?_ | refine Vt ?_ | refine Vf ?_ | refine Vm ?_ | refine Ve ?_ | refine Vo ?_ | refine Vz ?_)
        refine ⟨(i + 1, b), (by repeat (first | exact trivial | refine ⟨rfl, ?_⟩)), ⟨x2.trans x4, hil, bs, hb, fun j u hj hu => ?_⟩, by simp only; omega⟩
        rcases Nat.lt_or_eq_of_le (Nat.le_of_lt_succ hj) with c' | c'
        · exact hbm j u c' hu
        · subst c'; rw [ht] at hu; cases hu; omega
    replace hg1 := of_decide_eq_false hg1
    obtain rfl : i = l.length := by omega
    have hbmin : ∀ t ∈ l, bs.1 ≤ t.1 := fun t ht => by
      obtain ⟨j, hj, rfl⟩ := List.mem_iff_getElem.1 ht
      exact hbm j _ hj (List.getElem?_eq_getElem hj)
    clear hbm
    obtain ⟨ad, rfl, hc⟩ := hA2 b (spC bs) (by rw [List.getElem?_map, hb]; rfl)
    have hc1 : Cells w2 (ad.add (b * 2)) [.int .u64 bs.1, .int .u64 bs.2] := hc
    repeat (first | refine Vx ?_ | (apply Ops_q; (case hon => exact Va); (case hd => rfl); (case hq => exact YlA)) | refine Vr ?_ | refine Vt ?_ | refine Vf ?_ | refine Vm ?_ | refine Ve ?_ | refine Vo ?_ | refine Vz ?_)
    (apply Ops_q; (case hon => (exact Va)); (case hd => rfl); (case hq => exact Yl_indexS (j := b) rfl rfl (by omega)))
    repeat (first | refine Vx ?_ | (apply Ops_q; (case hon => exact Va); (case hd => rfl); (case hq => exact YlA)) | refine Vr ?_ | refine Vt ?_ | refine Vf ?_ | refine Vm ?_ | refine Ve ?_ | refine Vo ?_ | refine Vz ?_)
    (refine Ops_alloc (by exact Va) rfl ?_; intro w3 b7 n_b7; have k_b7 := n_b7.blk)
    repeat (first | refine Vx ?_ | (apply Ops_q; (case hon => exact Va); (case hd => rfl); (case hq => exact YlA)) | refine Vr ?_ | refine Vt ?_ | refine Vf ?_ | refine Vm ?_ | refine Ve ?_ | refine Vo ?_ | refine Vz ?_)
    (refine Ops_store (by exact Va) rfl rfl (by assumption) (by first | rfl | exact OneAll.h) ?_; intro w4 u_w4; have k_b7 := u_w4.blk)
    have x4 := x1.trans (x2.trans (u_w4.below n_b7.ext n_b7.ge))
    have hO4 := hO.ext (x2.trans (u_w4.below n_b7.ext n_b7.ge))
    have hA4 := hA2.ext (u_w4.below n_b7.ext n_b7.ge)
    obtain ⟨hne1, hne2⟩ := hne ad rfl
    have hb7v : v.ownBlock ≠ some b7 := fun e => by have := hO.lt e; have := n_b7.ge; have := x2.size; omega
    have hadl : ad.block < w4.heap.size := by have := x2.size; have := (u_w4.below n_b7.ext n_b7.ge).size; omega
    clear hA hO u_w4 n_b7 hc hc1 x1
    repeat (first | refine Vx ?_ | (apply Ops_q; (case hon => exact Va); (case hd => rfl); (case hq => exact YlA)) | refine Vr ?_ | refine Vt ?_ | refine Vf ?_ | refine Vm ?_ | refine Ve ?_ | refine Vo ?_ | refine Vz ?_)
    refine V_loop (fun s : Nat × Value × List Sp => [(38, .int .i64 s.1), (37, .int .i64 l.length), (36, .slice (some ad) l.length cl), (4, .int .i64 b), (8, s.2.1), (3, v), (7, .pointer (some ⟨b7, 0, none⟩))])
      (fun s w' => Ext w4 w' ∧ s.1 ≤ l.length ∧ Own w' w4.heap.size 126 2 s.2.1 (s.2.2.map spC) ∧ skipL l b s.1 s.2.2) (fun s => l.length - s.1) (0, .slice none 0 0, []) (by repeat (first | exact trivial | refine ⟨rfl, ?_⟩)) ⟨Ext.refl _, Nat.zero_le _, Own.nil, by simp, fun t => by simp⟩ ?_
    rintro ⟨i, u, R⟩ w5 ⟨x5, hi, hR, hsk⟩
    dsimp only at hi hR hsk ⊢
    have hA5 := hA4.ext x5
    repeat (first | refine Vx ?_ | (apply Ops_q; (case hon => exact Va); (case hd => rfl); (case hq => exact YlA)) | refine Vr ?_ | refine Vt ?_ | refine Vf ?_ | refine Vm ?_ | refine Ve ?_ | refine Vo ?_ | refine Vz ?_)
    refine V_cond rfl (fun hg2 => ?_) (fun hg2 => ?_)
    · replace hg2 := of_decide_eq_true hg2
      have hil : i < l.length := by omega
      obtain ⟨t, ht⟩ : ∃ t, l[i]? = some t := ⟨_, List.getElem?_eq_getElem hil⟩
      obtain ⟨_, e', hc⟩ := hA5 i (spC t) (by rw [List.getElem?_map, ht]; rfl)
      cases e'
      have hc1 : Cells w5 (ad.add (i * 2)) [.int .u64 t.1, .int .u64 t.2] := hc
      have hstep := skip_step hsk ht
      repeat (first | refine Vx ?_ | (apply Ops_q; (case hon => exact Va); (case hd => rfl); (case hq => exact YlA)) | refine Vr ?_ | refine Vt ?_ | refine Vf ?_ | refine Vm ?_ | refine Ve ?_ | refine Vo ?_ | refine Vz ?_)
      (apply Ops_q; (case hon => (exact Va)); (case hd => rfl); (case hq => exact Yl_indexS (j := i) rfl rfl (by omega)))
      repeat (first | refine Vx ?_ | (apply Ops_q; (case hon => exact Va); (case hd => rfl); (case hq => exact YlA)) | refine Vr ?_ | refine Vt ?_ | refine Vf ?_ | refine Vm ?_ | refine Ve ?_ | refine Vo ?_ | refine Vz ?_)
      (refine Ops_alloc (by exact Va) rfl ?_; intro w6 b6 n_b6; have k_b6 := n_b6.blk)
      repeat (first | refine Vx ?_ | (apply Ops_q; (case hon => exact Va); (case hd => rfl); (case hq => exact YlA)) | refine Vr ?_ | refine Vt ?_ | refine Vf ?_ | refine Vm ?_ | refine Ve ?_ | refine Vo ?_ | refine Vz ?_)
      (refine Ops_store (by exact Va) rfl rfl (by assumption) (by first | rfl | exact OneAll.h) ?_; intro w7 u_w7; have k_b6 := u_w7.blk)
      have y7 := u_w7.below n_b6.ext n_b6.ge
      have x7 := x5.trans y7
      have hR7 := hR.ext y7
      clear u_w7 n_b6
      repeat (first | refine Vx ?_ | (apply Ops_q; (case hon => exact Va); (case hd => rfl); (case hq => exact YlA)) | refine Vr ?_ | refine Vt ?_ | refine Vf ?_ | refine Vm ?_ | refine Ve ?_ | refine Vo ?_ | refine Vz ?_)
      refine V_cond rfl (fun h2 => ?_) (fun h2 => ?_)
      · have h3 : i ≠ b := by simp at h2; omega
        rw [if_neg h3] at hstep
        have hRl : R.length ≤ l.length := by have := hsk.1; split at this <;> omega
        repeat (first | refine Vx ?_ | (apply Ops_q; (case hon => exact Va); (case hd => rfl); (case hq => exact YlA)) | refine Vr ?_ | refine Vt ?_ | refine Vf ?_ | refine Vm ?_ | refine Ve ?_ | refine Vo ?_ | refine Vz ?_)
        (refine Ops_lit (by exact Va) rfl rfl rfl ?_; intro w8 b8 n_b8; have k_b8 := n_b8.blk)
        have hR8 := hR7.ext n_b8.ext
        repeat (first | refine Vx ?_ | (apply Ops_q; (case hon => exact Va); (case hd => rfl); (case hq => exact YlA)) | refine Vr ?_ | refine Vt ?_ | refine Vf ?_ | refine Vm ?_ | refine Ve ?_ | refine Vo ?_ | refine Vz ?_)
        (refine Ops_append1 (by exact Va) rfl rfl rfl rfl hR8 k_b8.cells inferInstance inferInstance (by first | omega | (rw [List.length_map]; omega)) rfl (x7.trans n_b8.ext).size ?_; intro u' w9 o_u' g_w9 d_u')
        have x9 : Ext w4 w9 := Mod.ext_of (x7.trans n_b8.ext) ((Mod.of_ext (S := fun c => u.ownBlock = some c) (Ext.refl w8)).grow g_w9 (fun b hb => .inl hb)) (fun c hc => hR8.ge hc)
        repeat (first | refine Vx ?_ | (apply Ops_q; (case hon => exact Va); (case hd => rfl); (case hq => exact YlA)) | refine Vr ?_ | refine Vt ?_ | refine Vf ?_ | refine Vm ?_ | refine Ve ?_ | refine Vo ?_ | refine Vz ?_)
        refine ⟨(i + 1, u', R ++ [t]), (by repeat (first | exact trivial | refine ⟨rfl, ?_⟩)), ⟨x9, hil, ?_, hstep⟩, by simp only; omega⟩
        rw [List.map_append]; exact o_u'
      · have h3 : i = b := by simp at h2; omega
        rw [if_pos h3] at hstep
        repeat (first | refine Vx ?_ | (apply Ops_q; (case hon => exact Va); (case hd => rfl); (case hq => exact YlA)) | refine Vr ?_ | refine Vt ?_ | refine Vf ?_ | refine Vm ?_ | refine Ve ?_ | refine Vo ?_ | refine Vz ?_)
        exact ⟨(i + 1, u, R), (by repeat (first | exact trivial | refine ⟨rfl, ?_⟩)), ⟨x7, hil, hR7, hstep⟩, by simp only; omega⟩
    replace hg2 := of_decide_eq_false hg2
    obtain rfl : i = l.length := by omega
    obtain ⟨hRl, hRm, hRs⟩ := skip_all hsk hb
    obtain ⟨au, cu, hue, hAR⟩ := hR.slice
    subst hue
    have hO5 := hO4.ext x5
    have x6 := x4.trans x5
    have k5 := k_b7.ext x5
    have hneu : ∀ a, au = some a → a.block < w5.heap.size ∧ v.ownBlock ≠ some a.block := fun a ha => by
      subst ha
      have h1 : w4.heap.size ≤ a.block := hR.ge rfl
      refine ⟨hR.lt rfl, fun e => ?_⟩
      have := hO4.lt e; omega
    have hbs := (hmin bs (List.mem_of_getElem? hb))
    have hseR : ∀ t ∈ R, t.2 ≤ 4294967296 ∧ (∀ o ∈ O, o.1 ≤ t.1) ∧ bs.1 ≤ t.1 := fun t ht => ⟨(hmin t (hRm t ht)).1, (hmin t (hRm t ht)).2, hbmin t (hRm t ht)⟩
    have hsetR : ∀ x, hasS O x ∨ (hasS R x ∨ (bs.1 ≤ x ∧ x < bs.2)) ↔ hasS L x := fun x => by rw [← hRs, hset]
    rw [List.length_map]
    clear hsk hR hA5 hA4 hO4 hset hmin hRm hRs hA2 x5 x4 k_b7 hbmin
    have hOl := hO5.len_le
    rw [List.length_map] at hOl
    clear hOl
    have fin : ∀ w' v' (O' : List Sp), Arr w' 2 au (R.map spC) → w5.heap.size ≤ w'.heap.size → Ext w w' → Own w' w.heap.size 126 2 v' (O'.map spC) → (∀ c, v'.ownBlock = some c → v.ownBlock = some c ∨ w5.heap.size ≤ c) → Nrm O' → (∀ x, hasS O' x ↔ hasS O x ∨ (bs.1 ≤ x ∧ x < bs.2)) → O'.length ≤ O.length + 1 → (∀ o ∈ O', o.1 ≤ bs.1) →
        (Ext w w' ∧ Arr w' 2 au (R.map spC) ∧ (∀ a, au = some a → a.block < w'.heap.size ∧ v'.ownBlock ≠ some a.block) ∧ Own w' w.heap.size 126 2 v' (O'.map spC) ∧ Nrm O' ∧ (∀ t ∈ R, t.2 ≤ 4294967296 ∧ ∀ o ∈ O', o.1 ≤ t.1) ∧ (∀ x, hasS O' x ∨ hasS R x ↔ hasS L x) ∧ O'.length + R.length ≤ L.length) ∧ R.length < l.length := fun w' v' O' y1 y0 y2 y3 y4 y5 y6 y7 y8 => by
      refine ⟨⟨y2, y1, fun a ha => ⟨Nat.lt_of_lt_of_le (hneu a ha).1 y0, fun e => ?_⟩, y3, y5, fun t ht => ⟨(hseR t ht).1, fun o ho => Nat.le_trans (y8 o ho) (hseR t ht).2.2⟩, fun x => ?_, by omega⟩, by omega⟩
      · rcases y4 _ e with h | h
        · exact (hneu a ha).2 h
        · have := (hneu a ha).1; omega
      · rw [y6, ← hsetR]
        constructor
        · rintro ((h | h) | h)
          · exact .inl h
          · exact .inr (.inr h)
          · exact .inr (.inl h)
        · rintro (h | h | h)
          · exact .inl (.inl h)
          · exact .inr h
          · exact .inl (.inr h)
    rcases List.eq_nil_or_concat O with hO0 | ⟨O', o, hO1⟩
    · obtain ⟨av, cv, rfl, _⟩ := hO5.slice
      rw [List.length_map] at hO5 hneu fin ⊢
      have hd : decide ((0 : Int) < ((O.length : Nat) : Int)) = false := by rw [hO0]; rfl
      repeat (first | refine Vx ?_ | (apply Ops_q; (case hon => exact Va); (case hd => rfl); (case hq => exact YlA)) | refine Vr ?_ | refine Vt ?_ | refine Vf ?_ | refine Vm ?_ | refine Ve ?_ | refine Vo ?_ | refine Vz ?_)
      refine Ops_know rfl rfl hd ?_
      repeat (first | refine Vx ?_ | (apply Ops_q; (case hon => exact Va); (case hd => rfl); (case hq => exact YlA)) | refine Vr ?_ | refine Vt ?_ | refine Vf ?_ | refine Vm ?_ | refine Ve ?_ | refine Vo ?_ | refine Vz ?_)
      refine V_cond rfl (fun hlt2 => ?_) (fun hlt2 => ?_)
      · replace hlt2 := of_decide_eq_true hlt2
        have hNN : Nrm (O ++ [bs]) := merge_add hN ⟨by omega, hbs.1⟩ fun O' o h => by rw [hO0] at h; simp at h
        repeat (first | refine Vx ?_ | (apply Ops_q; (case hon => exact Va); (case hd => rfl); (case hq => exact YlA)) | refine Vr ?_ | refine Vt ?_ | refine Vf ?_ | refine Vm ?_ | refine Ve ?_ | refine Vo ?_ | refine Vz ?_)
        (refine Ops_lit (by exact Va) rfl rfl rfl ?_; intro w6 b6 n_b6; have k_b6 := n_b6.blk)
        have hO6 := hO5.ext n_b6.ext
        repeat (first | refine Vx ?_ | (apply Ops_q; (case hon => exact Va); (case hd => rfl); (case hq => exact YlA)) | refine Vr ?_ | refine Vt ?_ | refine Vf ?_ | refine Vm ?_ | refine Ve ?_ | refine Vo ?_ | refine Vz ?_)
        (refine Ops_append1 (by exact Va) rfl rfl rfl rfl hO6 k_b6.cells inferInstance inferInstance (by first | omega | (rw [List.length_map]; omega)) rfl (x6.trans n_b6.ext).size ?_; intro v' w7 o_v' g_w7 d_v')
        have m7 : Mod (fun c => (Value.slice av O.length cv).ownBlock = some c) w5 w7 := (Mod.of_ext n_b6.ext).grow g_w7 (fun b hb => .inl hb)
        have x7 : Ext w w7 := Mod.ext_of x6 m7 (fun c hc => hO5.ge hc)
        have hA7 : Arr w7 2 au (R.map spC) := m7.arr hAR (fun a ha e => (hneu a ha).2 e)
        have hO7 : Own w7 w.heap.size 126 2 v' ((O ++ [bs]).map spC) := by rw [List.map_append]; exact o_v'
        repeat (first | refine Vx ?_ | (apply Ops_q; (case hon => exact Va); (case hd => rfl); (case hq => exact YlA)) | refine Vr ?_ | refine Vt ?_ | refine Vf ?_ | refine Vm ?_ | refine Ve ?_ | refine Vo ?_ | refine Vz ?_)
        refine ⟨(au, cu, R, v', O ++ [bs]), (by repeat (first | exact trivial | refine ⟨rfl, ?_⟩)), fin _ _ _ hA7 m7.size x7 hO7 (fun c hc => ?_) hNN (fun x => ?_) ?_ (fun q hq => ?_)⟩
        · rcases d_v' with h | ⟨d, h1, h2⟩
          · left; rw [← h]; exact hc
          · right; rw [h1] at hc; cases hc; exact Nat.le_trans n_b6.ext.size h2
        · rw [hasS_append, hasS_cons]
          exact ⟨fun h => h.imp id (fun h => h.elim id (fun h => absurd h hasS_nil)), fun h => h.imp id .inl⟩
        · rw [List.length_append]; exact Nat.le_refl _
        · rcases List.mem_append.1 hq with hq | hq
          · exact hbs.2 q hq
          · rw [List.mem_singleton.1 hq]; exact Nat.le_refl _
      · replace hlt2 := of_decide_eq_false hlt2
        repeat (first | refine Vx ?_ | (apply Ops_q; (case hon => exact Va); (case hd => rfl); (case hq => exact YlA)) | refine Vr ?_ | refine Vt ?_ | refine Vf ?_ | refine Vm ?_ | refine Ve ?_ | refine Vo ?_ | refine Vz ?_)
        refine ⟨(au, cu, R, _, O), (by repeat (first | exact trivial | refine ⟨rfl, ?_⟩)), fin _ _ _ hAR (Nat.le_refl _) x6 hO5 (fun c hc => .inl hc) hN (fun x => ⟨.inl, fun h => h.elim id fun h => by omega⟩) (Nat.le_succ _) (fun q hq => hbs.2 q hq)⟩
    · rw [List.concat_eq_append] at hO1
      have hol : O.length = O'.length + 1 := by rw [hO1]; simp
      obtain ⟨g, cv, hve, hg1', hg2', _⟩ := hO5.addr (by rw [hO1]; simp)
      obtain ⟨av, cv', hve', hAv⟩ := hO5.slice
      subst hve
      cases hve'
      rw [List.length_map] at hO5 hneu fin hb7v ⊢
      have hd : decide ((0 : Int) < ((O.length : Nat) : Int)) = true := decide_eq_true (by omega)
      have el : ((O.length : Nat) : Int) - 1 = ((O'.length : Nat) : Int) := by omega
      have hgo : (O.map spC)[O'.length]? = some (spC o) := by rw [hO1, List.getElem?_map]; simp
      obtain ⟨_, e', hco⟩ := hAv O'.length (spC o) hgo
      cases e'
      have hco1 : w5.cell? (((⟨g, 0, none⟩ : Addr).add (O'.length * 2)).add 1) = some (.int .u64 o.2) := hco 1 _ rfl
      have hil : O'.length < O.length := by omega
      have hoO : o ∈ O := by rw [hO1]; simp
      repeat (first | refine Vx ?_ | (apply Ops_q; (case hon => exact Va); (case hd => rfl); (case hq => exact YlA)) | refine Vr ?_ | refine Vt ?_ | refine Vf ?_ | refine Vm ?_ | refine Ve ?_ | refine Vo ?_ | refine Vz ?_)
      refine Ops_know rfl rfl hd ?_
      repeat (first | refine Vx ?_ | (apply Ops_q; (case hon => exact Va); (case hd => rfl); (case hq => exact YlA)) | refine Vr ?_ | refine Vt ?_ | refine Vf ?_ | refine Vm ?_ | refine Ve ?_ | refine Vo ?_ | refine Vz ?_)
      rw [el]
      (apply Ops_q; (case hon => (exact Va)); (case hd => rfl); (case hq => exact Yl_indexS (j := O'.length) rfl rfl (by omega)))
      repeat (first | refine Vx ?_ | (apply Ops_q; (case hon => exact Va); (case hd => rfl); (case hq => exact YlA)) | refine Vr ?_ | refine Vt ?_ | refine Vf ?_ | refine Vm ?_ | refine Ve ?_ | refine Vo ?_ | refine Vz ?_)
      refine V_cond rfl (fun hle => ?_) (fun hle => ?_)
      · replace hle := of_decide_eq_true hle
        have hmx : max (o.2 : Int) (bs.2 : Int) = ((max o.2 bs.2 : Nat) : Int) := by omega
        rw [hO1] at hN
        obtain ⟨hNN, hNs⟩ := merge_join (s := bs) hN hbs.1 (hbs.2 o hoO) (by omega)
        rw [← hO1] at hN
        refine V_region_mixed 12 (by kernel_rfl) (by kernel_rfl) rfl ?_
        repeat (first | refine Vx ?_ | (apply Ops_q; (case hon => exact Va); (case hd => rfl); (case hq => exact YlA)) | refine Vr ?_ | refine Vt ?_ | refine Vf ?_ | refine Vm ?_ | refine Ve ?_ | refine Vo ?_ | refine Vz ?_)
        rw [el]
        (apply Ops_q; (case hon => (exact Va)); (case hd => rfl); (case hq => exact Yl_indexS (j := O'.length) rfl rfl (by omega)))
        repeat (first | refine Vx ?_ | (apply Ops_q; (case hon => exact Va); (case hd => rfl); (case hq => exact YlA)) | refine Vr ?_ | refine Vt ?_ | refine Vf ?_ | refine Vm ?_ | refine Ve ?_ | refine Vo ?_ | refine Vz ?_)
        rw [hmx]
        (apply Ops_q; (case hon => (exact Va)); (case hd => rfl); (case hq => exact Yl_indexS (j := O'.length) rfl rfl (by omega)))
        repeat (first | refine Vx ?_ | (apply Ops_q; (case hon => exact Va); (case hd => rfl); (case hq => exact YlA)) | refine Vr ?_ | refine Vt ?_ | refine Vf ?_ | refine Vm ?_ | refine Ve ?_ | refine Vo ?_ | refine Vz ?_)
        have hO5' := hO5
        rw [show O.length = (O.map spC).length from (List.length_map ..).symm] at hO5'
        refine Ops_storeOwn (f := 1) (by exact Va) rfl rfl (by rw [add_blk, add_blk, Nat.zero_add]) hO5' hgo (by omega) rfl ?_
        intro w7 o7 g7
        have m7 : Mod (fun c => (Value.slice (some ⟨g, 0, none⟩) O.length cv).ownBlock = some c) w5 w7 := (Mod.of_ext (Ext.refl w5)).grow g7 (fun b hb => .inl (by cases hb; rfl))
        have x7 : Ext w w7 := Mod.ext_of x6 m7 (fun c hc => hO5.ge hc)
        have hA7 : Arr w7 2 au (R.map spC) := m7.arr hAR (fun a ha e => (hneu a ha).2 e)
        have he : (O.map spC).set O'.length ((spC o).set 1 (.int .u64 ((max o.2 bs.2 : Nat) : Int))) = (O' ++ [(o.1, max o.2 bs.2)]).map spC := by
          rw [hO1, List.map_append, List.map_append, List.set_append_right _ _ (by simp)]
          simp [spC]
        rw [he] at o7
        rw [List.length_map] at o7
        have hO7 : Own w7 w.heap.size 126 2 (.slice (some ⟨g, 0, none⟩) O.length cv) ((O' ++ [(o.1, max o.2 bs.2)]).map spC) := o7
        repeat (first | refine Vx ?_ | (apply Ops_q; (case hon => exact Va); (case hd => rfl); (case hq => exact YlA)) | refine Vr ?_ | refine Vt ?_ | refine Vf ?_ | refine Vm ?_ | refine Ve ?_ | refine Vo ?_ | refine Vz ?_)
        refine ⟨(au, cu, R, _, O' ++ [(o.1, max o.2 bs.2)]), (by repeat (first | exact trivial | refine ⟨rfl, ?_⟩)), fin _ _ _ hA7 m7.size x7 hO7 (fun c hc => .inl hc) hNN (fun x => by rw [hNs, ← hO1]) (by rw [hol]; simp) (fun q hq => ?_)⟩
        rcases List.mem_append.1 hq with hq | hq
        · exact hbs.2 q (by rw [hO1]; simp [hq])
        · rw [List.mem_singleton.1 hq]; exact hbs.2 o hoO
      · replace hle := of_decide_eq_false hle
        repeat (first | refine Vx ?_ | (apply Ops_q; (case hon => exact Va); (case hd => rfl); (case hq => exact YlA)) | refine Vr ?_ | refine Vt ?_ | refine Vf ?_ | refine Vm ?_ | refine Ve ?_ | refine Vo ?_ | refine Vz ?_)
        refine V_cond rfl (fun hlt2 => ?_) (fun hlt2 => ?_)
        · replace hlt2 := of_decide_eq_true hlt2
          have hNN : Nrm (O ++ [bs]) := merge_add hN ⟨by omega, hbs.1⟩ fun O2 o2 h => by
            rw [hO1] at h
            obtain ⟨_, h⟩ := List.append_inj' h rfl
            cases h; omega
          clear hco hco1 hAv
          repeat (first | refine Vx ?_ | (apply Ops_q; (case hon => exact Va); (case hd => rfl); (case hq => exact YlA)) | refine Vr ?_ | refine Vt ?_ | refine Vf ?_ | refine Vm ?_ | refine Ve ?_ | refine Vo ?_ | refine Vz ?_)
          (refine Ops_lit (by exact Va) rfl rfl rfl ?_; intro w6 b6 n_b6; have k_b6 := n_b6.blk)
          have hO6 := hO5.ext n_b6.ext
          repeat (first | refine Vx ?_ | (apply Ops_q; (case hon => exact Va); (case hd => rfl); (case hq => exact YlA)) | refine Vr ?_ | refine Vt ?_ | refine Vf ?_ | refine Vm ?_ | refine Ve ?_ | refine Vo ?_ | refine Vz ?_)
          (refine Ops_append1 (by exact Va) rfl rfl rfl rfl hO6 k_b6.cells inferInstance inferInstance (by first | omega | (rw [List.length_map]; omega)) rfl (x6.trans n_b6.ext).size ?_; intro v' w7 o_v' g_w7 d_v')
          have m7 : Mod (fun c => (Value.slice (some ⟨g, 0, none⟩) O.length cv).ownBlock = some c) w5 w7 := (Mod.of_ext n_b6.ext).grow g_w7 (fun b hb => .inl hb)
          have x7 : Ext w w7 := Mod.ext_of x6 m7 (fun c hc => hO5.ge hc)
          have hA7 : Arr w7 2 au (R.map spC) := m7.arr hAR (fun a ha e => (hneu a ha).2 e)
          have hO7 : Own w7 w.heap.size 126 2 v' ((O ++ [bs]).map spC) := by rw [List.map_append]; exact o_v'
          repeat (first | refine Vx ?_ | (apply Ops_q; (case hon => exact Va); (case hd => rfl); (case hq => exact YlA)) | refine Vr ?_ | refine Vt ?_ | refine Vf ?_ | refine Vm ?_ | refine Ve ?_ | refine Vo ?_ | refine Vz ?_)
          refine ⟨(au, cu, R, v', O ++ [bs]), (by repeat (first | exact trivial | refine ⟨rfl, ?_⟩)), fin _ _ _ hA7 m7.size x7 hO7 (fun c hc => ?_) hNN (fun x => ?_) ?_ (fun q hq => ?_)⟩
          · rcases d_v' with h | ⟨d, h1, h2⟩
            · left; rw [← h]; exact hc
            · right; rw [h1] at hc; cases hc; exact Nat.le_trans n_b6.ext.size h2
          · rw [hasS_append, hasS_cons]
            exact ⟨fun h => h.imp id (fun h => h.elim id (fun h => absurd h hasS_nil)), fun h => h.imp id .inl⟩
          · rw [List.length_append]; exact Nat.le_refl _
          · rcases List.mem_append.1 hq with hq | hq
            · exact hbs.2 q hq
            · rw [List.mem_singleton.1 hq]; exact Nat.le_refl _
        · replace hlt2 := of_decide_eq_false hlt2
          repeat (first | refine Vx ?_ | (apply Ops_q; (case hon => exact Va); (case hd => rfl); (case hq => exact YlA)) | refine Vr ?_ | refine Vt ?_ | refine Vf ?_ | refine Vm ?_ | refine Ve ?_ | refine Vo ?_ | refine Vz ?_)
          refine ⟨(au, cu, R, _, O), (by repeat (first | exact trivial | refine ⟨rfl, ?_⟩)), fin _ _ _ hAR (Nat.le_refl _) x6 hO5 (fun c hc => .inl hc) hN (fun x => ⟨.inl, fun h => h.elim id fun h => by omega⟩) (Nat.le_succ _) (fun q hq => hbs.2 q hq)⟩
  · replace hg := of_decide_eq_false hg
    have hl0 : l = [] := List.length_eq_zero_iff.1 (by omega)
    subst hl0
    repeat (first | refine Vx ?_ | (apply Ops_q; (case hon => exact Va); (case hd => rfl); (case hq => exact YlA)) | refine Vr ?_ | refine Vt ?_ | refine Vf ?_ | refine Vm ?_ | refine Ve ?_ | refine Vo ?_ | refine Vz ?_)
    refine ret1 (by first | exact .inl rfl | exact .inr rfl) rfl rfl ?_
    exact Gives_mk (fun w' he => ⟨O, hO.ext he, hN, fun x => ⟨fun h => (hset x).1 (.inl h), fun h => ((hset x).2 h).elim id fun h => absurd h hasS_nil⟩, by simpa using hlen⟩) x1
end Go.Proofs.Ytkiidmbkibfbiaa

/-
  Tables (layer 7), in plain lists: what Trim leaves, that it agrees with the table, and that it loses a lookup with each entry.
  Conditions: addresses are below 2^32.
-/
namespace Go.Proofs.Ytkiidmbkibfbiaa
open Go.RowKit

/-! ### Prefixes that cover others -/
theorem covers_iff {p q : Pf} : p.covers q = true ↔ q.valid = true ∧ p.n ≤ q.n ∧ p.has q.a = true := by
  rw [Pf.covers, Bool.and_eq_true, Bool.and_eq_true, decide_eq_true_eq]
theorem has_self {q : Pf} (h : q.valid = true) : q.has q.a = true := by
  rw [Pf.has, h, Bool.true_and, decide_eq_true_eq]
  exact (Pf.valid_iff.1 h).2.2
theorem covers_refl {q : Pf} (h : q.valid = true) : q.covers q = true := covers_iff.2 ⟨h, Int.le_refl _, has_self h⟩
theorem covers_has {p q : Pf} {a : Nat} (h : p.covers q = true) (ha : q.has a = true) : p.has a = true := by
  obtain ⟨h1, h2, h3⟩ := covers_iff.1 h
  obtain ⟨q1, q2, q3⟩ := Pf.valid_iff.1 h1
  obtain ⟨p1, p2, p3⟩ := Pf.valid_iff.1 (has_valid h3)
  rw [Pf.has, Bool.and_eq_true, decide_eq_true_eq] at h3 ha ⊢
  refine ⟨h3.1, ?_⟩
  rw [← h3.2, ← ha.2, top_top a (by omega) (by omega)]
/-- Of two prefixes with a common address, the shorter covers the longer. -/
theorem covers_of {p q : Pf} {a : Nat} (hp : p.has a = true) (hq : q.has a = true) (hn : p.n ≤ q.n) : p.covers q = true := by
  refine covers_iff.2 ⟨has_valid hq, hn, ?_⟩
  obtain ⟨q1, q2, q3⟩ := Pf.valid_iff.1 (has_valid hq)
  obtain ⟨p1, p2, p3⟩ := Pf.valid_iff.1 (has_valid hp)
  rw [Pf.has, Bool.and_eq_true, decide_eq_true_eq] at hp hq ⊢
  refine ⟨hp.1, ?_⟩
  rw [← hq.2, top_top a (by omega) (by omega), hp.2]
theorem covers_trans {p q r : Pf} (h : p.covers q = true) (h2 : q.covers r = true) : p.covers r = true := by
  obtain ⟨h3, h4, h5⟩ := covers_iff.1 h2
  exact covers_iff.2 ⟨h3, Int.le_trans (covers_iff.1 h).2.1 h4, covers_has h h5⟩
theorem covers_lt {p q : Pf} (h : p.covers q = true) (hne : p ≠ q) : pLt p q := by
  obtain ⟨h1, h2, h3⟩ := covers_iff.1 h
  have h4 := ((has_iff (has_valid h3)).1 h3).1
  rcases Nat.lt_or_eq_of_le h4 with h5 | h5
  · exact .inl h5
  · exact .inr ⟨h5, by
      rcases Int.lt_or_eq_of_le h2 with h6 | h6
      · exact h6
      · exact absurd (pf_eq h5 h6) hne⟩
theorem has_lt {p q : Pf} {a : Nat} (hp : p.has a = true) (hq : q.has a = true) (h : pLt p q) : p.covers q = true := by
  rcases Int.le_total p.n q.n with c | c
  · exact covers_of hp hq c
  · have h2 := covers_of hq hp c
    by_cases e : q = p
    · rw [e] at h; exact absurd h (pLt_irrefl _)
    · exact absurd (pLt_trans h (covers_lt h2 e)) (pLt_irrefl _)
theorem covers_n {p q : Pf} (h : p.covers q = true) (hne : p ≠ q) : p.n < q.n := by
  obtain ⟨h1, h2, h3⟩ := covers_iff.1 h
  rcases Int.lt_or_eq_of_le h2 with h6 | h6
  · exact h6
  · exact absurd (has_same h3 (has_self h1) h6) hne

/-! ### A lookup is the last of the entries that have the address -/
def lastV (L : List En) : Int := match L.getLast? with
  | none => -1
  | some e => e.v
theorem lastV_snoc (L : List En) (e : En) : lastV (L ++ [e]) = e.v := by rw [lastV, List.getLast?_append]; rfl
theorem best_last (a : Nat) (L : List En) : Tb L → bestL a L = (L.filter fun e => e.p.has a).getLast? := by
  refine en_ind (P := fun L => Tb L → bestL a L = (L.filter fun e => e.p.has a).getLast?) (fun _ => rfl) (fun L x ih h => ?_) L
  have ih := ih (h.sub (List.sublist_append_left ..))
  rw [best_snoc, bestS, bestB, List.filter_append]
  cases hh : x.p.has a with
  | false => rw [Bool.false_and, if_neg (by decide), ih, List.filter_cons_of_neg (p := fun e : En => e.p.has a) (by simp [hh]), List.filter_nil, List.append_nil]
  | true =>
    rw [Bool.true_and, List.filter_cons_of_pos (p := fun e : En => e.p.has a) hh, List.filter_nil, List.getLast?_append]
    have : ((bestL a L).isNone || decide (((bestL a L).getD En.zero).p.n ≤ x.p.n)) = true := by
      cases hb : bestL a L with
      | none => rfl
      | some e =>
        obtain ⟨h1, h2⟩ := best_in hb
        have := (List.pairwise_append.1 h.srt).2.2 e h1 x (List.mem_singleton.2 rfl)
        exact decide_eq_true (covers_iff.1 (has_lt h2 hh this)).2.1
    rw [this]; rfl
theorem lk_last {L : List En} (h : Tb L) (a : Nat) : lk L a = lastV (L.filter fun e => e.p.has a) := by
  rw [lk_eq a h, best_last a L h]; rfl

/-! ### The entries above -/
/-- The entries whose prefixes cover p and are not p. -/
def sc (S : List En) (p : Pf) : List En := S.filter fun x => x.p.covers p && decide (x.p ≠ p)
def keepB (S : List En) (e : En) : Bool := decide (e.v ≠ lastV (sc S e.p))
/-- What is left where entries with the value above them go. -/
def trimS (S : List En) : List En := S.filter (keepB S)
theorem chain_last {S : List En} (C : List En) : (∀ A e B, C = A ++ e :: B → lastV (sc S e.p) = lastV A) → lastV (C.filter (keepB S)) = lastV C := by
  refine en_ind (P := fun C => (∀ A e B, C = A ++ e :: B → lastV (sc S e.p) = lastV A) → lastV (C.filter (keepB S)) = lastV C) (fun _ => rfl) (fun L x ih h => ?_) C
  have ih := ih fun A e B hh => h A e (B ++ [x]) (by rw [hh]; simp)
  rw [List.filter_append, lastV_snoc]
  have hx := h L x [] rfl
  cases hk : keepB S x with
  | true => rw [List.filter_cons_of_pos hk, List.filter_nil, lastV_snoc]
  | false =>
    rw [List.filter_cons_of_neg (by rw [hk]; decide), List.filter_nil, List.append_nil, ih, ← hx]
    have := of_decide_eq_false hk
    exact (Classical.not_not.1 this).symm
/-- What lies before an entry of a chain lies above it. -/
theorem chain_sc {S : List En} (hS : Tb S) (q : En → Bool) (a : Nat) (hq : ∀ x ∈ S, q x = true → x.p.has a = true) (hdown : ∀ x ∈ S, ∀ y ∈ S, q y = true → x.p.covers y.p = true → q x = true) {A B : List En} {e : En} (h : S.filter q = A ++ e :: B) : sc S e.p = A := by
  have hsr : Srt (A ++ e :: B) := h ▸ hS.srt.sublist List.filter_sublist
  obtain ⟨p1, p2, p3⟩ := List.pairwise_append.1 hsr
  obtain ⟨p4, p5⟩ := List.pairwise_cons.1 p2
  have hmem : ∀ x, x ∈ A ++ e :: B ↔ x ∈ S ∧ q x = true := fun x => by rw [← h, List.mem_filter]
  have heS := (hmem e).1 (by simp)
  refine srt_eq (hS.srt.sublist List.filter_sublist) p1 fun x => ?_
  rw [sc, List.mem_filter, Bool.and_eq_true, decide_eq_true_eq]
  constructor
  · rintro ⟨h1, h2, h3⟩
    have hqx := hdown x h1 e heS.1 heS.2 h2
    have hl := covers_lt h2 h3
    rcases List.mem_append.1 ((hmem x).2 ⟨h1, hqx⟩) with h4 | h4
    · exact h4
    · exfalso
      rcases List.mem_cons.1 h4 with rfl | h4
      · exact h3 rfl
      · exact pLt_irrefl _ (pLt_trans hl (p4 x h4))
  · intro hx
    have hxS := (hmem x).1 (List.mem_append.2 (.inl hx))
    have hl := p3 x hx e (List.mem_cons_self ..)
    exact ⟨hxS.1, has_lt (hq x hxS.1 hxS.2) (hq e heS.1 heS.2) hl, fun e1 => by rw [e1] at hl; exact pLt_irrefl _ hl⟩
theorem filter_comm {α : Type} (q r : α → Bool) (L : List α) : (L.filter q).filter r = (L.filter r).filter q := by
  rw [List.filter_filter, List.filter_filter]
  congr 1
  funext x
  exact Bool.and_comm ..
theorem trimS_lk {S : List En} (hS : Tb S) (a : Nat) : lk (trimS S) a = lk S a := by
  have hT : Tb (trimS S) := hS.sub List.filter_sublist
  rw [lk_last hT, lk_last hS, trimS, filter_comm]
  exact chain_last _ fun A e B h => by rw [chain_sc hS _ a (fun x _ h => h) (fun x _ y _ h1 h2 => covers_has h2 h1) h]
theorem trimS_sc {S : List En} (hS : Tb S) (p : Pf) (hp : p.valid = true) : lastV (sc (trimS S) p) = lastV (sc S p) := by
  rw [sc, sc, trimS, filter_comm]
  refine chain_last _ fun A e B h => ?_
  rw [chain_sc hS _ p.a (fun x _ h => ?_) (fun x _ y _ h1 h2 => ?_) h]
  · rw [Bool.and_eq_true] at h
    exact covers_has h.1 (has_self hp)
  · rw [Bool.and_eq_true, decide_eq_true_eq] at h1 ⊢
    refine ⟨covers_trans h2 h1.1, fun e => ?_⟩
    have := covers_n h1.1 h1.2
    have := (covers_iff.1 h2).2.1
    rw [e] at this; omega

/-! ### Hidden entries -/
/-- All addresses of the prefix lie in longer prefixes of the table. -/
def hid (L : List En) (p : Pf) : Prop := ∀ a, p.has a = true → ∃ x ∈ L, x.p ≠ p ∧ p.covers x.p = true ∧ x.p.has a = true
noncomputable instance hidDec (L : List En) (p : Pf) : Decidable (hid L p) := Classical.propDecidable _
noncomputable def visP (L : List En) : List En := L.filter fun e => decide (¬hid L e.p)
theorem visP_mem {L : List En} {e : En} : e ∈ visP L ↔ e ∈ L ∧ ¬hid L e.p := by
  unfold visP; rw [List.mem_filter, decide_eq_true_eq]
theorem visP_tb {L : List En} (h : Tb L) : Tb (visP L) := h.sub List.filter_sublist
theorem last_keep {C : List En} (q : En → Bool) (h : ∀ A e, C = A ++ [e] → q e = true) : lastV (C.filter q) = lastV C := by
  rcases List.eq_nil_or_concat C with rfl | ⟨A, e, rfl⟩
  · rfl
  · rw [List.concat_eq_append] at *
    have hq := h A e rfl
    rw [List.filter_append, List.filter_cons_of_pos hq, List.filter_nil, lastV_snoc, lastV_snoc]
theorem visP_lk {L : List En} (h : Tb L) (a : Nat) : lk (visP L) a = lk L a := by
  rw [lk_last (visP_tb h), lk_last h, visP, filter_comm]
  refine last_keep _ fun A e hC => decide_eq_true fun hh => ?_
  have hm : ∀ x, x ∈ A ++ [e] ↔ x ∈ L ∧ x.p.has a = true := fun x => by rw [← hC, List.mem_filter]
  have he := (hm e).1 (by simp)
  obtain ⟨x, h1, h2, h3, h4⟩ := hh a he.2
  have hx := (hm x).2 ⟨h1, h4⟩
  have hs : Srt (A ++ [e]) := hC ▸ h.srt.sublist List.filter_sublist
  rcases List.mem_append.1 hx with hx | hx
  · have := (List.pairwise_append.1 hs).2.2 x hx e (List.mem_singleton.2 rfl)
    exact pLt_irrefl _ (pLt_trans this (covers_lt h3 (Ne.symm h2)))
  · exact h2 (by rw [List.mem_singleton.1 hx])
/-- What Trim leaves. -/
noncomputable def trimP (L : List En) : List En := trimS (visP L)
theorem trim_tb {L : List En} (h : Tb L) : Tb (trimP L) := (visP_tb h).sub List.filter_sublist
theorem trim_lk {L : List En} (h : Tb L) (a : Nat) : lk (trimP L) a = lk L a := by rw [trimP, trimS_lk (visP_tb h), visP_lk h]
theorem trim_sub {L : List En} {e : En} (h : e ∈ trimP L) : e ∈ L := (visP_mem.1 (List.mem_filter.1 h).1).1
/-- Each entry of a trimmed table changes a lookup. -/
theorem trim_loses {L : List En} (h : Tb L) (hL : ∀ e ∈ L, e.p.a < 4294967296) {A B : List En} {x : En} (ht : trimP L = A ++ x :: B) : ∃ a, a < 4294967296 ∧ lk (trimP L) a ≠ lk (A ++ B) a := by
  have hT := trim_tb h
  have hxT : x ∈ trimP L := by rw [ht]; simp
  obtain ⟨hxS, hxk⟩ := List.mem_filter.1 hxT
  obtain ⟨hxL, hnh⟩ := visP_mem.1 hxS
  obtain ⟨a, ha⟩ := Classical.not_forall.1 hnh
  obtain ⟨hax, hno⟩ : x.p.has a = true ∧ ¬∃ y ∈ L, y.p ≠ x.p ∧ x.p.covers y.p = true ∧ y.p.has a = true := ⟨Classical.byContradiction fun h1 => ha fun h2 => absurd h2 h1, fun h1 => ha fun _ => h1⟩
  have hv := (h.ok x hxL).1
  have hal : a < 4294967296 := by
    have h1 := ((has_iff hv).1 hax).2
    have h2 := last_lt' x.p (hL x hxL)
    omega
  refine ⟨a, hal, ?_⟩
  have hsr : Srt (A ++ x :: B) := ht ▸ hT.srt
  have hsub : List.Sublist (A ++ B) (trimP L) := by rw [ht]; exact (List.sublist_cons_self x B).append_left A |> fun h => h
  have hTab : Tb (A ++ B) := hT.sub hsub
  rw [lk_last hT, lk_last hTab, ht]
  obtain ⟨p1, p2, p3⟩ := List.pairwise_append.1 hsr
  obtain ⟨p4, p5⟩ := List.pairwise_cons.1 p2
  have hBn : ∀ y ∈ B, y.p.has a = false := fun y hy => by
    cases hh : y.p.has a with
    | false => rfl
    | true =>
      exfalso
      have hl := p4 y hy
      refine hno ⟨y, trim_sub (by rw [ht]; simp [hy]), fun e => ?_, has_lt hax hh hl, hh⟩
      rw [e] at hl; exact pLt_irrefl _ hl
  have hB0 : B.filter (fun e => e.p.has a) = [] := List.filter_eq_nil_iff.2 fun y hy => by rw [hBn y hy]; decide
  rw [List.filter_append, List.filter_append, List.filter_cons_of_pos (p := fun e : En => e.p.has a) hax, hB0, List.append_nil, lastV_snoc]
  have hsc : sc (trimP L) x.p = A.filter fun e => e.p.has a := chain_sc hT (fun e => e.p.has a) a (fun _ _ h => h) (fun x _ y _ h1 h2 => covers_has h2 h1) (B := []) (by rw [ht, List.filter_append, List.filter_cons_of_pos (p := fun e : En => e.p.has a) hax, hB0])
  rw [← hsc, trimP, trimS_sc (visP_tb h) x.p hv]
  exact of_decide_eq_true hxk

/-! ### The program's way: entries above by index, and sums of sizes -/
def gp (L : List En) (j : Nat) : Pf := (L.getD j En.zero).p
def covB (L : List En) (i j : Nat) : Bool := (gp L j).covers (gp L i)
def covs (L : List En) (i : Nat) : List Nat := (List.range i).filter (covB L i)
def lastI (l : List Nat) : Int := match l.getLast? with
  | none => -1
  | some j => (j : Int)
def upI (L : List En) (i : Nat) : Int := lastI (covs L i)
def sizeN (p : Pf) : Nat := 2 ^ (32 - p.n.toNat)
def kidsL (L : List En) (m j : Nat) : List Nat := (List.range m).filter fun i => decide (upI L i = (j : Int))
def covN (L : List En) (m j : Nat) : Nat := ((kidsL L m j).map fun i => sizeN (gp L i)).sum
def visL (L : List En) : List En := ((List.range L.length).filter fun j => decide (covN L L.length j < sizeN (gp L j))).map fun j => L.getD j En.zero
def upV (S : List En) (i : Nat) : Int := match (covs S i).getLast? with
  | none => -1
  | some j => (S.getD j En.zero).v
def trimI (S : List En) : List En := ((List.range S.length).filter fun i => decide ((S.getD i En.zero).v ≠ upV S i)).map fun j => S.getD j En.zero
def trimL (L : List En) : List En := trimI (visL L)
theorem range_get (L : List En) : (List.range L.length).map (fun j => L.getD j En.zero) = L := by
  refine List.ext_getElem (by simp) fun i h1 h2 => ?_
  simp [List.getD_eq_getElem?_getD, List.getElem?_eq_getElem h2]
theorem filter_idx (L : List En) (q : En → Bool) : ((List.range L.length).filter fun j => q (L.getD j En.zero)).map (fun j => L.getD j En.zero) = L.filter q := by
  have := List.filter_map (f := fun j => L.getD j En.zero) (p := q) (l := List.range L.length)
  rw [range_get] at this
  rw [this]; rfl
theorem gp_at {L : List En} {i : Nat} {x : En} (h : L[i]? = some x) : gp L i = x.p := by rw [gp, List.getD_eq_getElem?_getD, h]; rfl
theorem gd_at {L : List En} {i : Nat} {x : En} (h : L[i]? = some x) : L.getD i En.zero = x := by rw [List.getD_eq_getElem?_getD, h]; rfl
theorem gp_lt {L : List En} (h : Srt L) {i j : Nat} (hij : i < j) (hj : j < L.length) : pLt (gp L i) (gp L j) := by
  have hi : i < L.length := Nat.lt_trans hij hj
  rw [gp_at (List.getElem?_eq_getElem hi), gp_at (List.getElem?_eq_getElem hj)]
  exact List.pairwise_iff_getElem.1 h i j hi hj hij
theorem gp_ok {L : List En} (h : Tb L) {i : Nat} (hi : i < L.length) : (gp L i).valid = true := by
  rw [gp_at (List.getElem?_eq_getElem hi)]
  exact (h.ok _ (List.getElem_mem _)).1
theorem filter_last {q : Nat → Bool} : ∀ (n : Nat), (((List.range n).filter q).getLast? = none → ∀ m, m < n → q m = false) ∧ ∀ j, ((List.range n).filter q).getLast? = some j → j < n ∧ q j = true ∧ ∀ m, j < m → m < n → q m = false
  | 0 => ⟨fun _ m hm => absurd hm (Nat.not_lt_zero _), fun j hj => nomatch hj⟩
  | n + 1 => by
    obtain ⟨h1, h2⟩ := filter_last (q := q) n
    rw [List.range_succ, List.filter_append]
    cases hq : q n with
    | true =>
      rw [List.filter_cons_of_pos hq, List.filter_nil, List.getLast?_append]
      refine ⟨(fun h => nomatch h), fun j hj => ?_⟩
      have : n = j := by simpa using hj
      subst this
      exact ⟨Nat.lt_succ_self _, hq, fun m hm1 hm2 => by omega⟩
    | false =>
      rw [List.filter_cons_of_neg (by rw [hq]; decide), List.filter_nil, List.append_nil]
      refine ⟨fun h m hm => ?_, fun j hj => ?_⟩
      · rcases Nat.lt_or_eq_of_le (Nat.le_of_lt_succ hm) with c | c
        · exact h1 h m c
        · rw [c]; exact hq
      · obtain ⟨a, b, c⟩ := h2 j hj
        refine ⟨by omega, b, fun m hm1 hm2 => ?_⟩
        rcases Nat.lt_or_eq_of_le (Nat.le_of_lt_succ hm2) with d | d
        · exact c m hm1 d
        · rw [d]; exact hq
theorem covs_sc {S : List En} (h : Tb S) {i : Nat} (hi : i < S.length) : (covs S i).map (fun j => S.getD j En.zero) = sc S (gp S i) := by
  rw [sc, ← filter_idx]
  congr 1
  obtain ⟨d, hd⟩ : ∃ d, S.length = i + d := ⟨S.length - i, by omega⟩
  rw [hd, List.range_add, List.filter_append, covs]
  have h2 : ((List.range d).map (i + ·)).filter (fun j => (S.getD j En.zero).p.covers (gp S i) && decide ((S.getD j En.zero).p ≠ gp S i)) = [] := by
    refine List.filter_eq_nil_iff.2 fun j hj => ?_
    obtain ⟨c, hc, rfl⟩ := List.mem_map.1 hj
    have hc := List.mem_range.1 hc
    rw [Bool.and_eq_true, decide_eq_true_eq]
    rintro ⟨h3, h4⟩
    have h5 := covers_lt h3 h4
    rcases Nat.eq_zero_or_pos c with rfl | hc0
    · exact h4 rfl
    · exact pLt_irrefl _ (pLt_trans h5 (gp_lt h.srt (show i < i + c by omega) (by omega)))
  rw [h2, List.append_nil]
  refine List.filter_congr fun j hj => ?_
  have hj := List.mem_range.1 hj
  have : (S.getD j En.zero).p ≠ gp S i := fun e => by
    have h1 := gp_lt h.srt hj hi
    unfold gp at h1 e
    rw [e] at h1; exact pLt_irrefl _ h1
  rw [decide_eq_true this, Bool.and_true]; rfl
theorem upV_eq {S : List En} (h : Tb S) {i : Nat} (hi : i < S.length) : upV S i = lastV (sc S (gp S i)) := by
  rw [← covs_sc h hi, upV, lastV, List.getLast?_map]
  cases (covs S i).getLast? <;> rfl
theorem trimI_eq {S : List En} (h : Tb S) : trimI S = trimS S := by
  rw [trimS, ← filter_idx, trimI]
  congr 1
  refine List.filter_congr fun i hi => ?_
  rw [upV_eq h (List.mem_range.1 hi)]; rfl
/-! sums of sizes -/
theorem last_size {p : Pf} (h : p.valid = true) : p.last + 1 = p.a + sizeN p := by
  rw [Pf.last, if_pos h, sizeN]
  have : 0 < 2 ^ (32 - p.n.toNat) := Nat.two_pow_pos _
  omega
theorem cover_sum {hi : Nat} : ∀ (K : List Pf) (lo : Nat), lo ≤ hi → (∀ p ∈ K, p.valid = true ∧ lo ≤ p.a ∧ p.last < hi) → K.Pairwise (fun p q => p.last < q.a) →
    (K.map sizeN).sum ≤ hi - lo ∧ ((K.map sizeN).sum = hi - lo ↔ ∀ x, lo ≤ x → x < hi → ∃ p ∈ K, p.has x = true)
  | [], lo, hl, _, _ => by
    refine ⟨Nat.zero_le _, fun h x h1 h2 => ?_, fun h => ?_⟩
    · have : (0 : Nat) = hi - lo := h
      omega
    · show 0 = hi - lo
      rcases Nat.lt_or_ge lo hi with c | c
      · obtain ⟨p, hp, _⟩ := h lo (Nat.le_refl _) c
        cases hp
      · omega
  | p :: K, lo, hl, hK, hd => by
    obtain ⟨h1, h2, h3⟩ := hK p (List.mem_cons_self ..)
    obtain ⟨d1, d2⟩ := List.pairwise_cons.1 hd
    have hs := last_size h1
    obtain ⟨i1, i2⟩ := cover_sum (hi := hi) K (p.last + 1) (by omega) (fun q hq => ⟨(hK q (List.mem_cons_of_mem _ hq)).1, d1 q hq, (hK q (List.mem_cons_of_mem _ hq)).2.2⟩) d2
    rw [List.map_cons, List.sum_cons]
    have hp0 : 0 < sizeN p := Nat.two_pow_pos _
    refine ⟨by omega, fun h x x1 x2 => ?_, fun h => ?_⟩
    · have e1 : p.a = lo := by omega
      have e2 : (K.map sizeN).sum = hi - (p.last + 1) := by omega
      rcases Nat.lt_or_ge p.last x with c | c
      · obtain ⟨q, hq, hx⟩ := i2.1 e2 x (by omega) x2
        exact ⟨q, List.mem_cons_of_mem _ hq, hx⟩
      · exact ⟨p, List.mem_cons_self .., (has_iff h1).2 ⟨by omega, c⟩⟩
    · have e1 : p.a = lo := by
        obtain ⟨q, hq, hx⟩ := h lo (Nat.le_refl _) (by omega)
        have hqv := (hK q hq).1
        have := (has_iff hqv).1 hx
        rcases List.mem_cons.1 hq with rfl | hq
        · omega
        · have := d1 q hq; omega
      have e2 := i2.2 fun x x1 x2 => by
        obtain ⟨q, hq, hx⟩ := h x (by omega) x2
        rcases List.mem_cons.1 hq with rfl | hq
        · have := (has_iff h1).1 hx; omega
        · exact ⟨q, hq, hx⟩
      omega
theorem upI_iff {L : List En} {i j : Nat} : upI L i = (j : Int) ↔ j < i ∧ covB L i j = true ∧ ∀ m, j < m → m < i → covB L i m = false := by
  obtain ⟨h1, h2⟩ := filter_last (q := covB L i) i
  unfold upI lastI covs
  cases hl : ((List.range i).filter (covB L i)).getLast? with
  | none =>
    have := h1 hl
    refine ⟨fun h => ?_, fun h => ?_⟩
    · have : (-1 : Int) = (j : Int) := h
      omega
    · rw [this j h.1] at h; exact absurd h.2.1 (by decide)
  | some c =>
    obtain ⟨a, b, d⟩ := h2 c hl
    refine ⟨fun h => ?_, fun h => ?_⟩
    · have : (c : Int) = (j : Int) := h
      obtain rfl : c = j := by omega
      exact ⟨a, b, d⟩
    · show (c : Int) = (j : Int)
      rcases Nat.lt_trichotomy c j with e | e | e
      · rw [d j e h.1] at h; exact absurd h.2.1 (by decide)
      · rw [e]
      · rw [h.2.2 c e a] at b; cases b
theorem upI_range {L : List En} {i : Nat} : upI L i = -1 ∨ ∃ j : Nat, upI L i = (j : Int) ∧ j < i := by
  cases hl : (covs L i).getLast? with
  | none => left; rw [upI, lastI, hl]
  | some c =>
    have : upI L i = (c : Int) := by rw [upI, lastI, hl]
    exact .inr ⟨c, this, (upI_iff.1 this).1⟩
/-- Below an entry there is a kid of it above each of those that it covers. -/
theorem kid_over {L : List En} (h : Tb L) {j : Nat} : ∀ (n i : Nat), i ≤ n → j < i → i < L.length → covB L i j = true → ∃ m, j < m ∧ m ≤ i ∧ upI L m = (j : Int) ∧ (gp L m).covers (gp L i) = true
  | 0, i, hn, hj, _, _ => by omega
  | n + 1, i, hn, hj, hi, hc => by
    rcases upI_range (L := L) (i := i) with h1 | ⟨c, h1, h2⟩
    · exfalso
      have := (filter_last (q := covB L i) i).1 (by
        unfold upI lastI covs at h1
        cases hl : ((List.range i).filter (covB L i)).getLast? with
        | none => rfl
        | some c => rw [hl] at h1; simp only at h1; omega) j hj
      rw [hc] at this; cases this
    · obtain ⟨u1, u2, u3⟩ := upI_iff.1 h1
      rcases Nat.lt_trichotomy c j with e | e | e
      · rw [u3 j e hj] at hc; cases hc
      · subst e; exact ⟨i, hj, Nat.le_refl _, h1, covers_refl (gp_ok h hi)⟩
      · have hcj : covB L c j = true := has_lt (covers_has hc (has_self (gp_ok h hi))) (covers_has u2 (has_self (gp_ok h hi))) (gp_lt h.srt e (by omega))
        obtain ⟨m, m1, m2, m3, m4⟩ := kid_over h n c (by omega) e (by omega) hcj
        exact ⟨m, m1, by omega, m3, covers_trans m4 u2⟩
theorem kids_cover {L : List En} (h : Tb L) {j : Nat} (hj : j < L.length) : covN L L.length j ≤ sizeN (gp L j) ∧ (covN L L.length j = sizeN (gp L j) ↔ hid L (gp L j)) := by
  have hv := gp_ok h hj
  have hs := last_size hv
  have hp0 : 0 < sizeN (gp L j) := Nat.two_pow_pos _
  have kin : ∀ i, i ∈ kidsL L L.length j ↔ i < L.length ∧ upI L i = (j : Int) := fun i => by
    unfold kidsL; rw [List.mem_filter, List.mem_range, decide_eq_true_eq]
  have hmem : ∀ p ∈ (kidsL L L.length j).map (gp L), p.valid = true ∧ (gp L j).a ≤ p.a ∧ p.last < (gp L j).last + 1 := fun p hp => by
    obtain ⟨i, hi, rfl⟩ := List.mem_map.1 hp
    obtain ⟨h1, h2⟩ := (kin i).1 hi
    obtain ⟨u1, u2, u3⟩ := upI_iff.1 h2
    have hvi := gp_ok h h1
    have ha := (has_iff hv).1 (covers_has u2 (has_self hvi))
    have hsi := last_size hvi
    have hpi : 0 < sizeN (gp L i) := Nat.two_pow_pos _
    have hb := (has_iff hv).1 (covers_has u2 ((has_iff hvi).2 ⟨by omega, Nat.le_refl _⟩))
    exact ⟨hvi, ha.1, by omega⟩
  have hdis : ((kidsL L L.length j).map (gp L)).Pairwise (fun p q => p.last < q.a) := by
    rw [List.pairwise_map]
    have hr : (kidsL L L.length j).Pairwise (· < ·) := List.pairwise_lt_range.sublist List.filter_sublist
    refine List.Pairwise.imp_of_mem (fun {i m} hi hm him => ?_) hr
    obtain ⟨h1, h2⟩ := (kin i).1 hi
    obtain ⟨h3, h4⟩ := (kin m).1 hm
    have hvi := gp_ok h h1
    have hvm := gp_ok h h3
    refine Nat.lt_of_not_le fun hc => ?_
    have hlt := gp_lt h.srt him h3
    have hia : (gp L i).has (gp L m).a = true := (has_iff hvi).2 ⟨by rcases hlt with h | h <;> omega, hc⟩
    have hcov := has_lt hia (has_self hvm) hlt
    have := (upI_iff.1 h4).2.2 i (upI_iff.1 h2).1 him
    unfold covB at this
    rw [hcov] at this; cases this
  obtain ⟨c1, c2⟩ := cover_sum (hi := (gp L j).last + 1) ((kidsL L L.length j).map (gp L)) (gp L j).a (by omega) hmem hdis
  have e1 : (((kidsL L L.length j).map (gp L)).map sizeN).sum = covN L L.length j := by rw [List.map_map]; rfl
  rw [e1] at c1 c2
  have e2 : (gp L j).last + 1 - (gp L j).a = sizeN (gp L j) := by omega
  rw [e2] at c1 c2
  refine ⟨c1, c2.trans ⟨fun hh a ha => ?_, fun hh x x1 x2 => ?_⟩⟩
  · obtain ⟨p, hp, hpa⟩ := hh a ((has_iff hv).1 ha).1 (by have := ((has_iff hv).1 ha).2; omega)
    obtain ⟨i, hi, rfl⟩ := List.mem_map.1 hp
    obtain ⟨h1, h2⟩ := (kin i).1 hi
    obtain ⟨u1, u2, u3⟩ := upI_iff.1 h2
    have hx := List.getElem?_eq_getElem h1
    have hg := gp_at hx
    refine ⟨L[i], List.getElem_mem _, fun e => ?_, by rw [← hg]; exact u2, by rw [← hg]; exact hpa⟩
    have := gp_lt h.srt u1 h1
    rw [hg, e] at this; exact pLt_irrefl _ this
  · obtain ⟨y, hy, y1, y2, y3⟩ := hh x ((has_iff hv).2 ⟨x1, by omega⟩)
    obtain ⟨i, hi, rfl⟩ := List.mem_iff_getElem.1 hy
    have hg := gp_at (List.getElem?_eq_getElem hi)
    have hji : j < i := by
      rcases Nat.lt_trichotomy j i with c | c | c
      · exact c
      · subst c; exact absurd hg.symm y1
      · have h3 := covers_lt y2 (Ne.symm y1)
        have h4 := gp_lt h.srt c hj
        rw [hg] at h4
        exact absurd (pLt_trans h3 h4) (pLt_irrefl _)
    obtain ⟨m, m1, m2, m3, m4⟩ := kid_over h i i (Nat.le_refl _) hji hi (by unfold covB; rw [hg]; exact y2)
    refine ⟨gp L m, List.mem_map.2 ⟨m, (kin m).2 ⟨by omega, m3⟩, rfl⟩, covers_has m4 (by rw [hg]; exact y3)⟩
theorem visL_eq {L : List En} (h : Tb L) : visL L = visP L := by
  unfold visP
  rw [← filter_idx, visL]
  congr 1
  refine List.filter_congr fun j hj => ?_
  have hj := List.mem_range.1 hj
  obtain ⟨h1, h2⟩ := kids_cover h hj
  rw [decide_eq_decide]
  show covN L L.length j < sizeN (gp L j) ↔ ¬hid L (gp L j)
  rw [← h2]; omega
theorem trimL_eq {L : List En} (h : Tb L) : trimL L = trimP L := by
  rw [trimL, visL_eq h, trimI_eq (visP_tb h)]; rfl
end Go.Proofs.Ytkiidmbkibfbiaa

/-
  Sets of addresses as intervals (the reference of layer 5): spans, outside, both.
  Conditions: the lists are not too long for a machine.
-/
namespace Go.Proofs.Ytkiidmbkibfbiaa
open Go.RowKit

/-- The intervals of the valid prefixes of a list. -/
def spL (L : List Pf) : List Sp := (L.filter Pf.valid).map fun p => (p.a, p.last + 1)
theorem spL_has {L : List Pf} {x : Nat} : hasS (spL L) x ↔ ∃ p ∈ L, p.has x = true := by
  unfold hasS spL
  constructor
  · rintro ⟨s, hs, h1, h2⟩
    obtain ⟨p, hp, rfl⟩ := List.mem_map.1 hs
    obtain ⟨hp, hv⟩ := List.mem_filter.1 hp
    exact ⟨p, hp, (has_iff hv).2 ⟨h1, Nat.le_of_lt_succ h2⟩⟩
  · rintro ⟨p, hp, hx⟩
    have hv := has_valid hx
    obtain ⟨h1, h2⟩ := (has_iff hv).1 hx
    exact ⟨_, List.mem_map.2 ⟨p, List.mem_filter.2 ⟨hp, hv⟩, rfl⟩, h1, Nat.lt_succ_of_le h2⟩
theorem spL_snoc {L : List Pf} {k : Nat} {p : Pf} (h : L[k]? = some p) : spL (L.take (k + 1)) = spL (L.take k) ++ if p.valid then [(p.a, p.last + 1)] else [] := by
  unfold spL
  rw [List.take_add_one, h, Option.toList_some, List.filter_append, List.map_append]
  cases hv : p.valid with
  | true => rw [List.filter_cons_of_pos hv]; rfl
  | false => rw [List.filter_cons_of_neg (by rw [hv]; decide)]; rfl
theorem spL_len (L : List Pf) : (spL L).length ≤ L.length := by
  unfold spL; rw [List.length_map]; exact List.length_filter_le ..
/-- Prefixes in memory. -/
def Pfs (w : World) (ao : Option Addr) (L : List Pf) : Prop := Arr w 2 ao (L.map Pf.cells)
theorem Pfs.ext {w w' : World} {ao : Option Addr} {L : List Pf} (h : Pfs w ao L) (he : Ext w w') : Pfs w' ao L := Arr.ext h he
theorem size_cast {p : Pf} (hv : p.valid = true) : (1 : Int) * 2 ^ ((32 : Int) - p.n).toNat = ((sizeN p : Nat) : Int) := by
  obtain ⟨v1, v2, v3⟩ := Pf.valid_iff.1 hv
  have : ((32 : Int) - p.n).toNat = 32 - p.n.toNat := by omega
  rw [this, Int.one_mul, sizeN]
  simp
theorem size_le (p : Pf) : 1 ≤ sizeN p ∧ sizeN p ≤ 4294967296 := by
  refine ⟨Nat.two_pow_pos _, ?_⟩
  have : sizeN p ≤ 2 ^ 32 := Nat.pow_le_pow_right (by decide) (Nat.sub_le ..)
  exact this
theorem end_cast {p : Pf} (hv : p.valid = true) : (p.a : Int) + 1 * 2 ^ ((32 : Int) - p.n).toNat = ((p.last + 1 : Nat) : Int) := by
  rw [size_cast hv, last_size hv]; omega
theorem inK_u64 (n : Nat) (h : n ≤ 8589934592) : InK .u64 (n : Int) := by simp only [InK]; omega
set_option maxHeartbeats 1000000 in
theorem spans_v (ao : Option Addr) (L : List Pf) (c : Nat) (w : World) (hL : Pfs w ao L) (ha : ∀ p ∈ L, p.a < 4294967296) (hn : L.length ≤ 1000000) :
    Calls Try.prog 77 #[.slice ao L.length c] w (Gives (MrgR w (spL L)) w) := by
  refine V_enter (vs := [_]) Try.func77 rfl Try.ntmps77 (Nat.le_of_ble_eq_true rfl) ?_
  repeat (first | refine Vx ?_ | (apply Ops_q; (case hon => exact Va); (case hd => rfl); (case hq => exact YlA)) | refine Vr ?_ | refine Vt ?_ | refine Vf ?_ | refine Vm ?_ | refine Ve ?_ | refine Vo ?_ | refine Vz ?_)
  refine V_loop (fun s : Nat × Value => [(8, .int .i64 s.1), (7, .int .i64 L.length), (6, .slice ao L.length c), (3, s.2)])
    (fun s w' => s.1 ≤ L.length ∧ Ext w w' ∧ Own w' w.heap.size 126 2 s.2 ((spL (L.take s.1)).map spC)) (fun s => L.length - s.1) (0, .slice none 0 0) (by repeat (first | exact trivial | refine ⟨rfl, ?_⟩)) ⟨Nat.zero_le _, Ext.refl _, Own.nil⟩ ?_
  rintro ⟨k, v⟩ w1 ⟨hk, x1, o1⟩
  dsimp only at hk o1 ⊢
  repeat (first | refine Vx ?_ | (apply Ops_q; (case hon => exact Va); (case hd => rfl); (case hq => exact YlA)) | refine Vr ?_ | refine Vt ?_ | refine Vf ?_ | refine Vm ?_ | refine Ve ?_ | refine Vo ?_ | refine Vz ?_)
  refine V_cond rfl (fun hg => ?_) (fun hg => ?_)
  · replace hg := of_decide_eq_true hg
    have hkl : k < L.length := by omega
    obtain ⟨p, hp⟩ : ∃ p, L[k]? = some p := ⟨_, List.getElem?_eq_getElem hkl⟩
    obtain ⟨ad, rfl, hc⟩ := hL k p.cells (by rw [List.getElem?_map, hp]; rfl)
    have hpa := ha p (List.mem_of_getElem? hp)
    have hc1 : Cells w1 (ad.add (k * 2)) [.int .u32 p.a, .int .i64 p.n] := hc.ext x1
    have hsn := spL_snoc hp
    have hsl := spL_len (L.take k)
    rw [List.length_take] at hsl
    repeat (first | refine Vx ?_ | (apply Ops_q; (case hon => exact Va); (case hd => rfl); (case hq => exact YlA)) | refine Vr ?_ | refine Vt ?_ | refine Vf ?_ | refine Vm ?_ | refine Ve ?_ | refine Vo ?_ | refine Vz ?_)
    (apply Ops_q; (case hon => (exact Va)); (case hd => rfl); (case hq => exact Yl_indexS (j := k) rfl rfl (by omega)))
    repeat (first | refine Vx ?_ | (apply Ops_q; (case hon => exact Va); (case hd => rfl); (case hq => exact YlA)) | refine Vr ?_ | refine Vt ?_ | refine Vf ?_ | refine Vm ?_ | refine Ve ?_ | refine Vo ?_ | refine Vz ?_)
    (refine Ops_alloc (by exact Va) rfl ?_; intro w2 b2 n_b2; have k_b2 := n_b2.blk)
    repeat (first | refine Vx ?_ | (apply Ops_q; (case hon => exact Va); (case hd => rfl); (case hq => exact YlA)) | refine Vr ?_ | refine Vt ?_ | refine Vf ?_ | refine Vm ?_ | refine Ve ?_ | refine Vo ?_ | refine Vz ?_)
    (refine Ops_store (by exact Va) rfl rfl (by assumption) (by first | rfl | exact OneAll.h) ?_; intro w3 u_w3; have k_b2 := u_w3.blk)
    have y3 := u_w3.below n_b2.ext n_b2.ge
    have x3 := x1.trans y3
    have o3 := o1.ext y3
    clear u_w3 n_b2
    repeat (first | refine Vx ?_ | (apply Ops_q; (case hon => exact Va); (case hd => rfl); (case hq => exact YlA)) | refine Vr ?_ | refine Vt ?_ | refine Vf ?_ | refine Vm ?_ | refine Ve ?_ | refine Vo ?_ | refine Vz ?_)
    (apply Ops_q; (case hon => (exact Va)); (case hd => rfl); (case hq => exact Yl_call rfl (fun w_ e_ => rvalid_v p w_ hpa)))
    repeat (first | refine Vx ?_ | (apply Ops_q; (case hon => exact Va); (case hd => rfl); (case hq => exact YlA)) | refine Vr ?_ | refine Vt ?_ | refine Vf ?_ | refine Vm ?_ | refine Ve ?_ | refine Vo ?_ | refine Vz ?_)
    cases hv : p.valid with
    | false =>
      rw [hv] at hsn
      repeat (first | refine Vx ?_ | (apply Ops_q; (case hon => exact Va); (case hd => rfl); (case hq => exact YlA)) | refine Vr ?_ | refine Vt ?_ | refine Vf ?_ | refine Vm ?_ | refine Ve ?_ | refine Vo ?_ | refine Vz ?_)
      refine ⟨(k + 1, v), (by repeat (first | exact trivial | refine ⟨rfl, ?_⟩)), ⟨hkl, x3, ?_⟩, by simp only; omega⟩
      dsimp only
      rw [hsn, if_neg (by decide), List.append_nil]; exact o3
    | true =>
      obtain ⟨v1, v2, v3⟩ := Pf.valid_iff.1 hv
      have hsz := size_le p
      have hll := last_size hv
      have i1 : InK .u64 (1 * 2 ^ ((32 : Int) - p.n).toNat) := by rw [size_cast hv]; exact inK_u64 _ (by omega)
      have i2 : InK .u64 ((p.a : Int) + 1 * 2 ^ ((32 : Int) - p.n).toNat) := by rw [end_cast hv]; exact inK_u64 _ (by omega)
      have i3 : InK .u64 (p.a : Int) := inK_u64 _ (by omega)
      rw [hv, if_pos rfl] at hsn
      refine V_true rfl ?_
      refine V_lit 14 13 [.int .u64 (p.a : Int), .int .u64 ((p.a : Int) + 1 * 2 ^ ((32 : Int) - p.n).toNat)] (by kernel_rfl) rfl (by kernel_rfl) rfl rfl ?_
      repeat (first | refine Vx ?_ | (apply Ops_q; (case hon => exact Va); (case hd => rfl); (case hq => exact YlA)) | refine Vr ?_ | refine Vt ?_ | refine Vf ?_ | refine Vm ?_ | refine Ve ?_ | refine Vo ?_ | refine Vz ?_)
      refine ⟨_, rfl, inferInstance, rfl, ?_⟩
      repeat (first | refine Vx ?_ | (apply Ops_q; (case hon => exact Va); (case hd => rfl); (case hq => exact YlA)) | refine Vr ?_ | refine Vt ?_ | refine Vf ?_ | refine Vm ?_ | refine Ve ?_ | refine Vo ?_ | refine Vz ?_)
      intro w4 b4 n_b4
      have o4 := o3.ext n_b4.ext
      have x4 := x3.trans n_b4.ext
      have hcs : Cells w4 ⟨b4, 0, none⟩ (spC (p.a, p.last + 1)) := by
        have := n_b4.blk.cells
        rw [end_cast hv] at this; exact this
      repeat (first | refine Vx ?_ | (apply Ops_q; (case hon => exact Va); (case hd => rfl); (case hq => exact YlA)) | refine Vr ?_ | refine Vt ?_ | refine Vf ?_ | refine Vm ?_ | refine Ve ?_ | refine Vo ?_ | refine Vz ?_)
      refine Ops_append1 (u := spC (p.a, p.last + 1)) (by exact Va) rfl rfl rfl rfl o4 hcs ⟨rfl⟩ ⟨rfl⟩ (by rw [List.length_map]; omega) rfl x4.size ?_
      intro v' w5 o5 g5 d5
      have x5 : Ext w w5 := Mod.ext_of x4 ((Mod.of_ext (S := fun c => v.ownBlock = some c) (Ext.refl w4)).grow g5 (fun b hb => .inl hb)) (fun c hc => o4.ge hc)
      repeat (first | refine Vx ?_ | (apply Ops_q; (case hon => exact Va); (case hd => rfl); (case hq => exact YlA)) | refine Vr ?_ | refine Vt ?_ | refine Vf ?_ | refine Vm ?_ | refine Ve ?_ | refine Vo ?_ | refine Vz ?_)
      refine ⟨(k + 1, v'), (by repeat (first | exact trivial | refine ⟨rfl, ?_⟩)), ⟨hkl, x5, ?_⟩, by simp only; omega⟩
      dsimp only
      rw [hsn, List.map_append]; exact o5
  replace hg := of_decide_eq_false hg
  obtain rfl : k = L.length := by omega
  rw [List.take_length] at o1
  obtain ⟨au, cu, rfl, hA⟩ := o1.slice
  have hlt : ∀ a, au = some a → a.block < w1.heap.size := fun a h => by subst h; exact o1.lt rfl
  have hB : ∀ s ∈ spL L, s.2 ≤ 4294967296 := fun s hs => by
    obtain ⟨p, hp, rfl⟩ := List.mem_map.1 hs
    have := last_lt' p (ha p (List.mem_filter.1 hp).1)
    exact this
  have hsl := spL_len L
  rw [List.length_map]
  repeat (first | refine Vx ?_ | (apply Ops_q; (case hon => exact Va); (case hd => rfl); (case hq => exact YlA)) | refine Vr ?_ | refine Vt ?_ | refine Vf ?_ | refine Vm ?_ | refine Ve ?_ | refine Vo ?_ | refine Vz ?_)
  (refine Ops_callR (by exact Va) rfl rfl (fun w_ e_ => merged_v au (spL L) cu w_ (hA.ext e_) hB (Nat.le_trans hsl hn) (fun a h => Nat.lt_of_lt_of_le (hlt a h) e_.size)) ?_; intro v w2 w0_ e0_ e1_ r_v; have e_w2 := e0_.trans e1_; have b_v := e0_.size; clear e0_ e1_)
  obtain ⟨O, hO, hN, hs, hl⟩ := r_v
  repeat (first | refine Vx ?_ | (apply Ops_q; (case hon => exact Va); (case hd => rfl); (case hq => exact YlA)) | refine Vr ?_ | refine Vt ?_ | refine Vf ?_ | refine Vm ?_ | refine Ve ?_ | refine Vo ?_ | refine Vz ?_)
  refine ret1 (by first | exact .inl rfl | exact .inr rfl) rfl rfl ?_
  exact Gives_mk (fun w' he => ⟨O, (hO.ext he).mono (Nat.le_trans x1.size b_v), hN, hs, hl⟩) (x1.trans e_w2)
/-! ### outside -/
/-- What lies outside of ascending intervals, from at on. -/
def outL : Nat → List Sp → List Sp
  | a, [] => if a < 4294967296 then [(a, 4294967296)] else []
  | a, s :: S => (if a < s.1 then [(a, s.1)] else []) ++ outL s.2 S
theorem outL_spec : ∀ (S : List Sp) (a : Nat), Nrm S → a ≤ 4294967296 → (∀ s ∈ S, a ≤ s.1) → (∀ t ∈ outL a S, t.1 < t.2 ∧ t.2 ≤ 4294967296) ∧ (∀ x, hasS (outL a S) x ↔ a ≤ x ∧ x < 4294967296 ∧ ¬hasS S x) ∧ (outL a S).length ≤ S.length + 1
  | [], a, _, ha, _ => by
    rw [outL]
    split
    · refine ⟨fun t ht => ?_, fun x => ?_, by simp⟩
      · rw [List.mem_singleton.1 ht]; exact ⟨by assumption, Nat.le_refl _⟩
      · rw [hasS_cons]
        exact ⟨fun h => h.elim (fun h => ⟨h.1, h.2, hasS_nil⟩) (fun h => absurd h hasS_nil), fun h => .inl ⟨h.1, h.2.1⟩⟩
    · exact ⟨(fun t ht => nomatch ht), (fun x => ⟨fun h => absurd h hasS_nil, fun h => by omega⟩), by simp⟩
  | s :: S, a, hN, ha, hS => by
    have h1 := hN.ne s (List.mem_cons_self ..)
    have h2 := hS s (List.mem_cons_self ..)
    obtain ⟨p1, p2⟩ := List.pairwise_cons.1 hN.asc
    have hNS : Nrm S := ⟨fun t ht => hN.ne t (List.mem_cons_of_mem _ ht), p2⟩
    obtain ⟨i1, i2, i3⟩ := outL_spec S s.2 hNS h1.2 fun t ht => Nat.le_of_lt (p1 t ht)
    have hno : ∀ x, x < s.2 → ¬hasS S x := fun x hx ⟨t, ht, h3, h4⟩ => by have := p1 t ht; omega
    rw [outL]
    refine ⟨fun t ht => ?_, fun x => ?_, ?_⟩
    · rcases List.mem_append.1 ht with ht | ht
      · split at ht
        · rw [List.mem_singleton.1 ht]; exact ⟨by assumption, by dsimp only; omega⟩
        · cases ht
      · exact i1 t ht
    · rw [hasS_append, i2, hasS_cons]
      have h3 : hasS (if a < s.1 then [(a, s.1)] else []) x ↔ a ≤ x ∧ x < s.1 := by
        split
        · rw [hasS_cons]
          exact ⟨fun h => h.elim id fun h => absurd h hasS_nil, .inl⟩
        · exact ⟨fun h => absurd h hasS_nil, fun h => by omega⟩
      rw [h3]
      constructor
      · rintro (h | ⟨h4, h5, h6⟩)
        · exact ⟨h.1, by omega, fun h7 => h7.elim (fun h7 => by omega) (hno x (by omega))⟩
        · exact ⟨by omega, h5, fun h7 => h7.elim (fun h7 => by omega) h6⟩
      · rintro ⟨h4, h5, h6⟩
        rcases Nat.lt_or_ge x s.1 with c | c
        · exact .inl ⟨h4, c⟩
        · exact .inr ⟨Nat.le_of_not_lt fun h => h6 (.inl ⟨c, h⟩), h5, fun h => h6 (.inr h)⟩
    · rw [List.length_append, List.length_cons]
      split
      · simp only [List.length_singleton]; omega
      · simp only [List.length_nil]; omega
end Go.Proofs.Ytkiidmbkibfbiaa

/-
  Sets of addresses as intervals (the reference of layer 5): outside, both.
  Conditions: the lists are not too long for a machine.
-/
namespace Go.Proofs.Ytkiidmbkibfbiaa
open Go.RowKit

/-- What outside returns. -/
def OutR (w : World) (L : List Sp) (r : Value) (w' : World) : Prop := Own w' w.heap.size 126 2 r ((outL 0 L).map spC)
set_option maxHeartbeats 1000000 in
theorem outside_v (ao : Option Addr) (L : List Sp) (c : Nat) (w : World) (hL : Arr w 2 ao (L.map spC)) (hn : L.length ≤ 1000000) :
    Calls Try.prog 78 #[.slice ao L.length c] w (Gives (OutR w L) w) := by
  refine V_enter (vs := [_]) Try.func78 rfl Try.ntmps78 (Nat.le_of_ble_eq_true rfl) ?_
  repeat (first | refine Vx ?_ | (apply Ops_q; (case hon => exact Va); (case hd => rfl); (case hq => exact YlA)) | refine Vr ?_ | refine Vt ?_ | refine Vf ?_ | refine Vm ?_ | refine Ve ?_ | refine Vo ?_ | refine Vz ?_)
  refine V_loop (fun s : Nat × Value × Nat × List Sp => [(9, .int .i64 s.1), (8, .int .i64 L.length), (7, .slice ao L.length c), (3, s.2.1), (4, .int .u64 s.2.2.1)])
    (fun s w' => s.1 ≤ L.length ∧ Ext w w' ∧ Own w' w.heap.size 126 2 s.2.1 (s.2.2.2.map spC) ∧ s.2.2.2.length ≤ s.1 ∧ s.2.2.2 ++ outL s.2.2.1 (L.drop s.1) = outL 0 L) (fun s => L.length - s.1) (0, .slice none 0 0, 0, []) (by repeat (first | exact trivial | refine ⟨rfl, ?_⟩)) ⟨Nat.zero_le _, Ext.refl _, Own.nil, Nat.le_refl _, rfl⟩ ?_
  rintro ⟨k, v, a, A⟩ w1 ⟨hk, x1, o1, hAl, hA⟩
  dsimp only at hk o1 hAl hA ⊢
  repeat (first | refine Vx ?_ | (apply Ops_q; (case hon => exact Va); (case hd => rfl); (case hq => exact YlA)) | refine Vr ?_ | refine Vt ?_ | refine Vf ?_ | refine Vm ?_ | refine Ve ?_ | refine Vo ?_ | refine Vz ?_)
  refine V_cond rfl (fun hg => ?_) (fun hg => ?_)
  · replace hg := of_decide_eq_true hg
    have hkl : k < L.length := by omega
    obtain ⟨s, hs⟩ : ∃ s, L[k]? = some s := ⟨_, List.getElem?_eq_getElem hkl⟩
    obtain ⟨ad, rfl, hc⟩ := hL k (spC s) (by rw [List.getElem?_map, hs]; rfl)
    have hd : L.drop k = s :: L.drop (k + 1) := by rw [List.drop_eq_getElem_cons hkl, (List.getElem?_eq_some_iff.1 hs).2]
    have hc1 : Cells w1 (ad.add (k * 2)) [.int .u64 s.1, .int .u64 s.2] := hc.ext x1
    rw [hd, outL] at hA
    repeat (first | refine Vx ?_ | (apply Ops_q; (case hon => exact Va); (case hd => rfl); (case hq => exact YlA)) | refine Vr ?_ | refine Vt ?_ | refine Vf ?_ | refine Vm ?_ | refine Ve ?_ | refine Vo ?_ | refine Vz ?_)
    (apply Ops_q; (case hon => (exact Va)); (case hd => rfl); (case hq => exact Yl_indexS (j := k) rfl rfl (by omega)))
    repeat (first | refine Vx ?_ | (apply Ops_q; (case hon => exact Va); (case hd => rfl); (case hq => exact YlA)) | refine Vr ?_ | refine Vt ?_ | refine Vf ?_ | refine Vm ?_ | refine Ve ?_ | refine Vo ?_ | refine Vz ?_)
    (refine Ops_alloc (by exact Va) rfl ?_; intro w2 b2 n_b2; have k_b2 := n_b2.blk)
    repeat (first | refine Vx ?_ | (apply Ops_q; (case hon => exact Va); (case hd => rfl); (case hq => exact YlA)) | refine Vr ?_ | refine Vt ?_ | refine Vf ?_ | refine Vm ?_ | refine Ve ?_ | refine Vo ?_ | refine Vz ?_)
    (refine Ops_store (by exact Va) rfl rfl (by assumption) (by first | rfl | exact OneAll.h) ?_; intro w3 u_w3; have k_b2 := u_w3.blk)
    have y3 := u_w3.below n_b2.ext n_b2.ge
    have x3 := x1.trans y3
    have o3 := o1.ext y3
    have hb2 : v.ownBlock ≠ some b2 := fun e => by have := o1.lt e; have := n_b2.ge; omega
    clear u_w3 n_b2
    repeat (first | refine Vx ?_ | (apply Ops_q; (case hon => exact Va); (case hd => rfl); (case hq => exact YlA)) | refine Vr ?_ | refine Vt ?_ | refine Vf ?_ | refine Vm ?_ | refine Ve ?_ | refine Vo ?_ | refine Vz ?_)
    refine V_cond rfl (fun hlt => ?_) (fun hlt => ?_)
    · replace hlt := of_decide_eq_true hlt
      rw [if_pos (by omega)] at hA
      repeat (first | refine Vx ?_ | (apply Ops_q; (case hon => exact Va); (case hd => rfl); (case hq => exact YlA)) | refine Vr ?_ | refine Vt ?_ | refine Vf ?_ | refine Vm ?_ | refine Ve ?_ | refine Vo ?_ | refine Vz ?_)
      (refine Ops_lit (by exact Va) rfl rfl rfl ?_; intro w6 b6 n_b6; have k_b6 := n_b6.blk)
      have o6 := o3.ext n_b6.ext
      have x6 := x3.trans n_b6.ext
      have hcs : Cells w6 ⟨b6, 0, none⟩ (spC (a, s.1)) := n_b6.blk.cells
      repeat (first | refine Vx ?_ | (apply Ops_q; (case hon => exact Va); (case hd => rfl); (case hq => exact YlA)) | refine Vr ?_ | refine Vt ?_ | refine Vf ?_ | refine Vm ?_ | refine Ve ?_ | refine Vo ?_ | refine Vz ?_)
      refine Ops_append1 (u := spC (a, s.1)) (by exact Va) rfl rfl rfl rfl o6 hcs ⟨rfl⟩ ⟨rfl⟩ (by rw [List.length_map]; omega) rfl x6.size ?_
      intro v' w7 o7 g7 d7
      have m7 : Mod (fun c => v.ownBlock = some c) w3 w7 := (Mod.of_ext n_b6.ext).grow g7 (fun b hb => .inl hb)
      have x7 : Ext w w7 := Mod.ext_of x3 m7 (fun c hc => o6.ge hc)
      rw [show [spC (a, s.1)] = [(a, s.1)].map spC from rfl, ← List.map_append] at o7
      have h6 := n_b6.ext.size
      clear g7 hcs o6 x6 n_b6 k_b6
      have k7 : Blk w7 b2 126 [.int .u64 s.1, .int .u64 s.2] := m7.blk k_b2 hb2
      repeat (first | refine Vx ?_ | (apply Ops_q; (case hon => exact Va); (case hd => rfl); (case hq => exact YlA)) | refine Vr ?_ | refine Vt ?_ | refine Vf ?_ | refine Vm ?_ | refine Ve ?_ | refine Vo ?_ | refine Vz ?_)
      refine ⟨(k + 1, v', s.2, A ++ [(a, s.1)]), (by repeat (first | exact trivial | refine ⟨rfl, ?_⟩)), ⟨hkl, x7, o7, by simp; omega, by rw [List.append_assoc]; exact hA⟩, by simp only; omega⟩
    · replace hlt := of_decide_eq_false hlt
      rw [if_neg (by omega), List.nil_append] at hA
      repeat (first | refine Vx ?_ | (apply Ops_q; (case hon => exact Va); (case hd => rfl); (case hq => exact YlA)) | refine Vr ?_ | refine Vt ?_ | refine Vf ?_ | refine Vm ?_ | refine Ve ?_ | refine Vo ?_ | refine Vz ?_)
      refine ⟨(k + 1, v, s.2, A), (by repeat (first | exact trivial | refine ⟨rfl, ?_⟩)), ⟨hkl, x3, o3, by dsimp only; omega, hA⟩, by simp only; omega⟩
  replace hg := of_decide_eq_false hg
  obtain rfl : k = L.length := by omega
  rw [List.drop_length, outL] at hA
  repeat (first | refine Vx ?_ | (apply Ops_q; (case hon => exact Va); (case hd => rfl); (case hq => exact YlA)) | refine Vr ?_ | refine Vm ?_ | refine Ve ?_ | refine Vo ?_ | refine Vz ?_)
  refine V_cond rfl (fun hlt => ?_) (fun hlt => ?_)
  · have hlt2 : a < 4294967296 := by have := of_decide_eq_true hlt; omega
    clear hlt
    rw [if_pos hlt2] at hA
    repeat (first | refine Vx ?_ | (apply Ops_q; (case hon => exact Va); (case hd => rfl); (case hq => exact YlA)) | refine Vr ?_ | refine Vt ?_ | refine Vf ?_ | refine Vm ?_ | refine Ve ?_ | refine Vo ?_ | refine Vz ?_)
    (refine Ops_lit (by exact Va) rfl rfl rfl ?_; intro w6 b6 n_b6; have k_b6 := n_b6.blk)
    have o6 := o1.ext n_b6.ext
    have x6 := x1.trans n_b6.ext
    have hcs : Cells w6 ⟨b6, 0, none⟩ (spC (a, 4294967296)) := n_b6.blk.cells
    repeat (first | refine Vx ?_ | (apply Ops_q; (case hon => exact Va); (case hd => rfl); (case hq => exact YlA)) | refine Vr ?_ | refine Vt ?_ | refine Vf ?_ | refine Vm ?_ | refine Ve ?_ | refine Vo ?_ | refine Vz ?_)
    refine Ops_append1 (u := spC (a, 4294967296)) (by exact Va) rfl rfl rfl rfl o6 hcs ⟨rfl⟩ ⟨rfl⟩ (by rw [List.length_map]; omega) rfl x6.size ?_
    intro v' w7 o7 g7 d7
    have m7 : Mod (fun c => v.ownBlock = some c) w1 w7 := (Mod.of_ext n_b6.ext).grow g7 (fun b hb => .inl hb)
    have x7 : Ext w w7 := Mod.ext_of x1 m7 (fun c hc => o6.ge hc)
    rw [show [spC (a, 4294967296)] = [(a, 4294967296)].map spC from rfl, ← List.map_append] at o7
    have h6 := n_b6.ext.size
    clear g7 hcs o6 x6 n_b6 k_b6
    repeat (first | refine Vx ?_ | (apply Ops_q; (case hon => exact Va); (case hd => rfl); (case hq => exact YlA)) | refine Vr ?_ | refine Vt ?_ | refine Vf ?_ | refine Vm ?_ | refine Ve ?_ | refine Vo ?_ | refine Vz ?_)
    refine ret1 (by first | exact .inl rfl | exact .inr rfl) rfl rfl ?_
    exact Gives_mk (fun w' he => by rw [OutR, ← hA]; exact o7.ext he) x7
  · have hlt2 : ¬a < 4294967296 := by have := of_decide_eq_false hlt; omega
    clear hlt
    rw [if_neg hlt2, List.append_nil] at hA
    repeat (first | refine Vx ?_ | (apply Ops_q; (case hon => exact Va); (case hd => rfl); (case hq => exact YlA)) | refine Vr ?_ | refine Vt ?_ | refine Vf ?_ | refine Vm ?_ | refine Ve ?_ | refine Vo ?_ | refine Vz ?_)
    refine ret1 (by first | exact .inl rfl | exact .inr rfl) rfl rfl ?_
    exact Gives_mk (fun w' he => by rw [OutR, ← hA]; exact o1.ext he) x1
/-! ### both -/
/-- The intersections of an interval with those of a list. -/
def capL (s : Sp) (T : List Sp) : List Sp := (T.map fun t => (max s.1 t.1, min s.2 t.2)).filter fun u => decide (u.1 < u.2)
def bothS (S T : List Sp) : List Sp := S.flatMap fun s => capL s T
theorem capL_has {s : Sp} {T : List Sp} {x : Nat} : hasS (capL s T) x ↔ (s.1 ≤ x ∧ x < s.2) ∧ hasS T x := by
  unfold hasS capL
  constructor
  · rintro ⟨u, hu, h1, h2⟩
    obtain ⟨hu, _⟩ := List.mem_filter.1 hu
    obtain ⟨t, ht, rfl⟩ := List.mem_map.1 hu
    dsimp only at h1 h2
    exact ⟨by omega, t, ht, by omega, by omega⟩
  · rintro ⟨h1, t, ht, h2, h3⟩
    refine ⟨_, List.mem_filter.2 ⟨List.mem_map.2 ⟨t, ht, rfl⟩, decide_eq_true ?_⟩, ?_⟩ <;> dsimp only <;> omega
theorem bothS_has {S T : List Sp} {x : Nat} : hasS (bothS S T) x ↔ hasS S x ∧ hasS T x := by
  constructor
  · rintro ⟨u, hu, hx⟩
    obtain ⟨s, hs, hu⟩ := List.mem_flatMap.1 hu
    obtain ⟨h1, h2⟩ := capL_has.1 ⟨u, hu, hx⟩
    exact ⟨⟨s, hs, h1⟩, h2⟩
  · rintro ⟨⟨s, hs, h1⟩, h2⟩
    obtain ⟨u, hu, hx⟩ := capL_has.2 ⟨h1, h2⟩
    exact ⟨u, List.mem_flatMap.2 ⟨s, hs, hu⟩, hx⟩
theorem capL_snoc {s : Sp} {T : List Sp} {j : Nat} {t : Sp} (h : T[j]? = some t) : capL s (T.take (j + 1)) = capL s (T.take j) ++ if max s.1 t.1 < min s.2 t.2 then [(max s.1 t.1, min s.2 t.2)] else [] := by
  unfold capL
  rw [List.take_add_one, h, Option.toList_some, List.map_append, List.filter_append]
  congr 1
  by_cases c : max s.1 t.1 < min s.2 t.2
  · rw [if_pos c, List.map_cons, List.map_nil, List.filter_cons_of_pos (by exact decide_eq_true c)]; rfl
  · rw [if_neg c, List.map_cons, List.map_nil, List.filter_cons_of_neg (by simpa using c)]; rfl
theorem bothS_snoc {S T : List Sp} {k : Nat} {s : Sp} (h : S[k]? = some s) : bothS (S.take (k + 1)) T = bothS (S.take k) T ++ capL s T := by
  unfold bothS
  rw [List.take_add_one, h, Option.toList_some, List.flatMap_append]; simp
theorem capL_len (s : Sp) (T : List Sp) : (capL s T).length ≤ T.length := by
  unfold capL
  refine Nat.le_trans (List.length_filter_le ..) ?_
  rw [List.length_map]; exact Nat.le_refl _
theorem bothS_len (S T : List Sp) : (bothS S T).length ≤ S.length * T.length := by
  unfold bothS
  induction S with
  | nil => simp
  | cons s S ih =>
    rw [List.flatMap_cons, List.length_append, List.length_cons, Nat.succ_mul]
    have := capL_len s T
    omega
set_option maxHeartbeats 2000000 in
theorem both_v (ao bo : Option Addr) (S T : List Sp) (c d : Nat) (w : World) (hS : Arr w 2 ao (S.map spC)) (hT : Arr w 2 bo (T.map spC)) (hB : ∀ s ∈ S, s.2 ≤ 4294967296) (hn : S.length * T.length ≤ 1000000) (hSn : S.length ≤ 1000000) (hTn : T.length ≤ 1000000) :
    Calls Try.prog 76 #[.slice ao S.length c, .slice bo T.length d] w (Gives (MrgR w (bothS S T)) w) := by
  have hroom : ∀ k j, k < S.length → (bothS (S.take k) T ++ capL (S.getD k (0, 0)) (T.take j)).length ≤ 1000000 := fun k j hk => by
    have h1 := bothS_len (S.take k) T
    have h2 := capL_len (S.getD k (0, 0)) (T.take j)
    have h3 : (T.take j).length ≤ T.length := by rw [List.length_take]; exact Nat.min_le_right ..
    have h4 : (S.take k).length * T.length + T.length ≤ S.length * T.length := by
      rw [← Nat.succ_mul, List.length_take]
      exact Nat.mul_le_mul_right _ (by omega)
    rw [List.length_append]; omega
  refine V_enter (vs := [_, _]) Try.func76 rfl Try.ntmps76 (Nat.le_of_ble_eq_true rfl) ?_
  repeat (first | refine Vx ?_ | (apply Ops_q; (case hon => exact Va); (case hd => rfl); (case hq => exact YlA)) | refine Vr ?_ | refine Vt ?_ | refine Vf ?_ | refine Vm ?_ | refine Ve ?_ | refine Vo ?_ | refine Vz ?_)
  refine V_loop (fun s : Nat × Value => [(13, .int .i64 s.1), (12, .int .i64 S.length), (11, .slice ao S.length c), (1, .slice bo T.length d), (5, s.2)])
    (fun s w' => s.1 ≤ S.length ∧ Ext w w' ∧ Own w' w.heap.size 126 2 s.2 ((bothS (S.take s.1) T).map spC)) (fun s => S.length - s.1) (0, .slice none 0 0) (by repeat (first | exact trivial | refine ⟨rfl, ?_⟩)) ⟨Nat.zero_le _, Ext.refl _, Own.nil⟩ ?_
  rintro ⟨k, v⟩ w1 ⟨hk, x1, o1⟩
  dsimp only at hk o1 ⊢
  repeat (first | refine Vx ?_ | (apply Ops_q; (case hon => exact Va); (case hd => rfl); (case hq => exact YlA)) | refine Vr ?_ | refine Vt ?_ | refine Vf ?_ | refine Vm ?_ | refine Ve ?_ | refine Vo ?_ | refine Vz ?_)
  refine V_cond rfl (fun hg => ?_) (fun hg => ?_)
  · replace hg := of_decide_eq_true hg
    have hkl : k < S.length := by omega
    obtain ⟨s, hs⟩ : ∃ s, S[k]? = some s := ⟨_, List.getElem?_eq_getElem hkl⟩
    obtain ⟨ad, rfl, hc⟩ := hS k (spC s) (by rw [List.getElem?_map, hs]; rfl)
    have hc1 : Cells w1 (ad.add (k * 2)) [.int .u64 s.1, .int .u64 s.2] := hc.ext x1
    have hgd : S.getD k (0, 0) = s := by rw [List.getD_eq_getElem?_getD, hs]; rfl
    repeat (first | refine Vx ?_ | (apply Ops_q; (case hon => exact Va); (case hd => rfl); (case hq => exact YlA)) | refine Vr ?_ | refine Vt ?_ | refine Vf ?_ | refine Vm ?_ | refine Ve ?_ | refine Vo ?_ | refine Vz ?_)
    (apply Ops_q; (case hon => (exact Va)); (case hd => rfl); (case hq => exact Yl_indexS (j := k) rfl rfl (by omega)))
    repeat (first | refine Vx ?_ | (apply Ops_q; (case hon => exact Va); (case hd => rfl); (case hq => exact YlA)) | refine Vr ?_ | refine Vt ?_ | refine Vf ?_ | refine Vm ?_ | refine Ve ?_ | refine Vo ?_ | refine Vz ?_)
    (refine Ops_alloc (by exact Va) rfl ?_; intro w2 b2 n_b2; have k_b2 := n_b2.blk)
    repeat (first | refine Vx ?_ | (apply Ops_q; (case hon => exact Va); (case hd => rfl); (case hq => exact YlA)) | refine Vr ?_ | refine Vt ?_ | refine Vf ?_ | refine Vm ?_ | refine Ve ?_ | refine Vo ?_ | refine Vz ?_)
    (refine Ops_store (by exact Va) rfl rfl (by assumption) (by first | rfl | exact OneAll.h) ?_; intro w3 u_w3; have k_b2 := u_w3.blk)
    have y3 := u_w3.below n_b2.ext n_b2.ge
    have x3 := x1.trans y3
    have o3 := o1.ext y3
    have hb2 : w.heap.size ≤ b2 := Nat.le_trans x1.size n_b2.ge
    have hbv : v.ownBlock ≠ some b2 := fun e => by have := o1.lt e; have := n_b2.ge; omega
    clear u_w3 n_b2 o1 x1 y3 hc1
    repeat (first | refine Vx ?_ | (apply Ops_q; (case hon => exact Va); (case hd => rfl); (case hq => exact YlA)) | refine Vr ?_ | refine Vt ?_ | refine Vf ?_ | refine Vm ?_ | refine Ve ?_ | refine Vo ?_ | refine Vz ?_)
    refine V_loop (fun q : Nat × Value => [(19, .int .i64 q.1), (18, .int .i64 T.length), (17, .slice bo T.length d), (5, q.2), (7, .pointer (some ⟨b2, 0, none⟩)), (13, .int .i64 k), (12, .int .i64 S.length), (11, .slice (some ad) S.length c), (1, .slice bo T.length d)])
      (fun q w' => q.1 ≤ T.length ∧ Ext w w' ∧ Own w' w.heap.size 126 2 q.2 ((bothS (S.take k) T ++ capL s (T.take q.1)).map spC) ∧ Blk w' b2 126 [.int .u64 s.1, .int .u64 s.2] ∧ q.2.ownBlock ≠ some b2) (fun q => T.length - q.1) (0, v) (by repeat (first | exact trivial | refine ⟨rfl, ?_⟩)) ⟨Nat.zero_le _, x3, by simpa [capL] using o3, k_b2, hbv⟩ ?_
    clear o3 k_b2 hbv x3
    rintro ⟨j, v⟩ w1 ⟨hj, x1, o1, kb2, hbv⟩
    dsimp only at hj o1 kb2 hbv ⊢
    repeat (first | refine Vx ?_ | (apply Ops_q; (case hon => exact Va); (case hd => rfl); (case hq => exact YlA)) | refine Vr ?_ | refine Vt ?_ | refine Vf ?_ | refine Vm ?_ | refine Ve ?_ | refine Vo ?_ | refine Vz ?_)
    refine V_cond rfl (fun hg2 => ?_) (fun hg2 => ?_)
    · replace hg2 := of_decide_eq_true hg2
      have hjl : j < T.length := by omega
      obtain ⟨t, ht⟩ : ∃ t, T[j]? = some t := ⟨_, List.getElem?_eq_getElem hjl⟩
      obtain ⟨ad2, rfl, hc⟩ := hT j (spC t) (by rw [List.getElem?_map, ht]; rfl)
      have hc1 : Cells w1 (ad2.add (j * 2)) [.int .u64 t.1, .int .u64 t.2] := hc.ext x1
      have hmx : max (s.1 : Int) (t.1 : Int) = ((max s.1 t.1 : Nat) : Int) := by omega
      have hmn : min (s.2 : Int) (t.2 : Int) = ((min s.2 t.2 : Nat) : Int) := by omega
      have hsn := capL_snoc (s := s) ht
      have hrm := hroom k j hkl
      rw [hgd] at hrm
      generalize max s.1 t.1 = lo at hmx hsn
      generalize min s.2 t.2 = hi at hmn hsn
      repeat (first | refine Vx ?_ | (apply Ops_q; (case hon => exact Va); (case hd => rfl); (case hq => exact YlA)) | refine Vr ?_ | refine Vt ?_ | refine Vf ?_ | refine Vm ?_ | refine Ve ?_ | refine Vo ?_ | refine Vz ?_)
      (apply Ops_q; (case hon => (exact Va)); (case hd => rfl); (case hq => exact Yl_indexS (j := j) rfl rfl (by omega)))
      repeat (first | refine Vx ?_ | (apply Ops_q; (case hon => exact Va); (case hd => rfl); (case hq => exact YlA)) | refine Vr ?_ | refine Vt ?_ | refine Vf ?_ | refine Vm ?_ | refine Ve ?_ | refine Vo ?_ | refine Vz ?_)
      (refine Ops_alloc (by exact Va) rfl ?_; intro w2 b3 n_b3; have k_b3 := n_b3.blk)
      repeat (first | refine Vx ?_ | (apply Ops_q; (case hon => exact Va); (case hd => rfl); (case hq => exact YlA)) | refine Vr ?_ | refine Vt ?_ | refine Vf ?_ | refine Vm ?_ | refine Ve ?_ | refine Vo ?_ | refine Vz ?_)
      (refine Ops_store (by exact Va) rfl rfl (by assumption) (by first | rfl | exact OneAll.h) ?_; intro w3 u_w3; have k_b3 := u_w3.blk)
      have y3 := u_w3.below n_b3.ext n_b3.ge
      have x3 := x1.trans y3
      have o3 := o1.ext y3
      replace kb2 := kb2.ext y3
      have hb3v : v.ownBlock ≠ some b3 := fun e => by have := o1.lt e; have := n_b3.ge; omega
      clear u_w3 n_b3 o1 y3 hc1 x1
      repeat (first | refine Vx ?_ | (apply Ops_q; (case hon => exact Va); (case hd => rfl); (case hq => exact YlA)) | refine Vr ?_ | refine Vt ?_ | refine Vf ?_ | refine Vm ?_ | refine Ve ?_ | refine Vo ?_ | refine Vz ?_)
      rw [hmx]
      repeat (first | refine Vx ?_ | (apply Ops_q; (case hon => exact Va); (case hd => rfl); (case hq => exact YlA)) | refine Vr ?_ | refine Vt ?_ | refine Vf ?_ | refine Vm ?_ | refine Ve ?_ | refine Vo ?_ | refine Vz ?_)
      rw [hmn]
      repeat (first | refine Vx ?_ | (apply Ops_q; (case hon => exact Va); (case hd => rfl); (case hq => exact YlA)) | refine Vr ?_ | refine Vt ?_ | refine Vf ?_ | refine Vm ?_ | refine Ve ?_ | refine Vo ?_ | refine Vz ?_)
      (refine Ops_alloc (by exact Va) rfl ?_; intro w4 b4 n_b4; have k_b4 := n_b4.blk)
      repeat (first | refine Vx ?_ | (apply Ops_q; (case hon => exact Va); (case hd => rfl); (case hq => exact YlA)) | refine Vr ?_ | refine Vt ?_ | refine Vf ?_ | refine Vm ?_ | refine Ve ?_ | refine Vo ?_ | refine Vz ?_)
      (refine Ops_store (by exact Va) rfl rfl (by assumption) (by first | rfl | exact OneAll.h) ?_; intro w5 u_w5; have k_b4 := u_w5.blk)
      have y5 := u_w5.below n_b4.ext n_b4.ge
      have x5 := x3.trans y5
      have o5 := o3.ext y5
      replace kb2 := kb2.ext y5
      have hb4v : v.ownBlock ≠ some b4 := fun e => by have := o3.lt e; have := n_b4.ge; omega
      clear u_w5 n_b4 o3 y5 x3 k_b3
      repeat (first | refine Vx ?_ | (apply Ops_q; (case hon => exact Va); (case hd => rfl); (case hq => exact YlA)) | refine Vr ?_ | refine Vt ?_ | refine Vf ?_ | refine Vm ?_ | refine Ve ?_ | refine Vo ?_ | refine Vz ?_)
      refine V_cond rfl (fun hlt => ?_) (fun hlt => ?_)
      · replace hlt := of_decide_eq_true hlt
        rw [if_pos (by omega)] at hsn
        repeat (first | refine Vx ?_ | (apply Ops_q; (case hon => exact Va); (case hd => rfl); (case hq => exact YlA)) | refine Vr ?_ | refine Vt ?_ | refine Vf ?_ | refine Vm ?_ | refine Ve ?_ | refine Vo ?_ | refine Vz ?_)
        (refine Ops_lit (by exact Va) rfl rfl rfl ?_; intro w6 b6 n_b6; have k_b6 := n_b6.blk)
        have o6 := o5.ext n_b6.ext
        have x6 := x5.trans n_b6.ext
        have hcs : Cells w6 ⟨b6, 0, none⟩ (spC (lo, hi)) := n_b6.blk.cells
        repeat (first | refine Vx ?_ | (apply Ops_q; (case hon => exact Va); (case hd => rfl); (case hq => exact YlA)) | refine Vr ?_ | refine Vt ?_ | refine Vf ?_ | refine Vm ?_ | refine Ve ?_ | refine Vo ?_ | refine Vz ?_)
        refine Ops_append1 (u := spC (lo, hi)) (by exact Va) rfl rfl rfl rfl o6 hcs ⟨rfl⟩ ⟨rfl⟩ (by rw [List.length_map]; omega) rfl x6.size ?_
        intro v' w7 o7 g7 d7
        have m7 : Mod (fun c => v.ownBlock = some c) w5 w7 := (Mod.of_ext n_b6.ext).grow g7 (fun b hb => .inl hb)
        have x7 : Ext w w7 := Mod.ext_of x5 m7 (fun c hc => o6.ge hc)
        rw [show [spC (lo, hi)] = [(lo, hi)].map spC from rfl, ← List.map_append] at o7
        have h6 := n_b6.ext.size
        clear g7 hcs o6 x6 n_b6 k_b6
        have k7 := m7.blk kb2 hbv
        have hb7 : v'.ownBlock ≠ some b2 := dis_app d7 hbv (Nat.lt_of_lt_of_le kb2.lt h6)
        repeat (first | refine Vx ?_ | (apply Ops_q; (case hon => exact Va); (case hd => rfl); (case hq => exact YlA)) | refine Vr ?_ | refine Vt ?_ | refine Vf ?_ | refine Vm ?_ | refine Ve ?_ | refine Vo ?_ | refine Vz ?_)
        refine ⟨(j + 1, v'), (by repeat (first | exact trivial | refine ⟨rfl, ?_⟩)), ⟨hjl, x7, ?_, k7, hb7⟩, by simp only; omega⟩
        dsimp only
        rw [hsn, ← List.append_assoc]; exact o7
      · replace hlt := of_decide_eq_false hlt
        rw [if_neg (by omega), List.append_nil] at hsn
        repeat (first | refine Vx ?_ | (apply Ops_q; (case hon => exact Va); (case hd => rfl); (case hq => exact YlA)) | refine Vr ?_ | refine Vt ?_ | refine Vf ?_ | refine Vm ?_ | refine Ve ?_ | refine Vo ?_ | refine Vz ?_)
        refine ⟨(j + 1, v), (by repeat (first | exact trivial | refine ⟨rfl, ?_⟩)), ⟨hjl, x5, ?_, kb2, hbv⟩, by simp only; omega⟩
        dsimp only
        rw [hsn]; exact o5
    replace hg2 := of_decide_eq_false hg2
    obtain rfl : j = T.length := by omega
    rw [List.take_length] at o1
    repeat (first | refine Vx ?_ | (apply Ops_q; (case hon => exact Va); (case hd => rfl); (case hq => exact YlA)) | refine Vr ?_ | refine Vt ?_ | refine Vf ?_ | refine Vm ?_ | refine Ve ?_ | refine Vo ?_ | refine Vz ?_)
    refine ⟨(k + 1, v), (by repeat (first | exact trivial | refine ⟨rfl, ?_⟩)), ⟨hkl, x1, ?_⟩, by simp only; omega⟩
    dsimp only
    rw [bothS_snoc hs]; exact o1
  replace hg := of_decide_eq_false hg
  obtain rfl : k = S.length := by omega
  rw [List.take_length] at o1
  obtain ⟨au, cu, rfl, hA⟩ := o1.slice
  have hlt : ∀ a, au = some a → a.block < w1.heap.size := fun a h => by subst h; exact o1.lt rfl
  have hB2 : ∀ s ∈ bothS S T, s.2 ≤ 4294967296 := fun u hu => by
    obtain ⟨s, hs, hu⟩ := List.mem_flatMap.1 hu
    obtain ⟨hu, _⟩ := List.mem_filter.1 hu
    obtain ⟨t, ht, rfl⟩ := List.mem_map.1 hu
    have := hB s hs
    dsimp only; omega
  have hsl := bothS_len S T
  rw [List.length_map]
  repeat (first | refine Vx ?_ | (apply Ops_q; (case hon => exact Va); (case hd => rfl); (case hq => exact YlA)) | refine Vr ?_ | refine Vt ?_ | refine Vf ?_ | refine Vm ?_ | refine Ve ?_ | refine Vo ?_ | refine Vz ?_)
  (refine Ops_callR (by exact Va) rfl rfl (fun w_ e_ => merged_v au (bothS S T) cu w_ (hA.ext e_) hB2 (Nat.le_trans hsl hn) (fun a h => Nat.lt_of_lt_of_le (hlt a h) e_.size)) ?_; intro v w2 w0_ e0_ e1_ r_v; have e_w2 := e0_.trans e1_; have b_v := e0_.size; clear e0_ e1_)
  obtain ⟨O, hO, hN, hs, hl⟩ := r_v
  repeat (first | refine Vx ?_ | (apply Ops_q; (case hon => exact Va); (case hd => rfl); (case hq => exact YlA)) | refine Vr ?_ | refine Vt ?_ | refine Vf ?_ | refine Vm ?_ | refine Ve ?_ | refine Vo ?_ | refine Vz ?_)
  refine ret1 (by first | exact .inl rfl | exact .inr rfl) rfl rfl ?_
  exact Gives_mk (fun w' he => ⟨O, (hO.ext he).mono (Nat.le_trans x1.size b_v), hN, hs, hl⟩) (x1.trans e_w2)
end Go.Proofs.Ytkiidmbkibfbiaa

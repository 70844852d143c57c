/-
  A further part of the texts of this seat.
  No conditions beyond those that each lemma states.
-/
import Derived.Test.YtkiidmbkibfbiaaB5

/-
  Tables (layer 7): the law AggregateTrimmed, walked.
  Conditions: the argument is read as a slice of entries.
-/
namespace Go.Proofs.Ytkiidmbkibfbiaa
open Go.RowKit

theorem trm_sam {L : List En} (h0 : chk L = 0) (hLa : ∀ e ∈ L, e.p.a < 4294967296) : samT L (trmT L) = true ∧ (∀ e ∈ trmT L, e ∈ L) ∧ (trmT L).length ≤ L.length ∧
    ∀ A x B, trmT L = A ++ x :: B → samT (trmT L) (A ++ B) = false := by
  obtain ⟨hl, hT⟩ := chk_iff.1 h0
  have e1 : trmT L = trimP L := by rw [trmT, if_pos h0, trimL_eq hT]
  rw [e1]
  have h1 := trim_tb hT
  have h2 : ∀ e ∈ trimP L, e ∈ L := fun e he => trim_sub he
  have h2a : ∀ e ∈ trimP L, e.p.a < 4294967296 := fun e he => hLa e (h2 e he)
  have h3 : (trimP L).length ≤ L.length := by
    rw [← e1]
    unfold trmT
    rw [if_pos h0]
    have h1 := rangeF_len (visL L) (fun i => decide (((visL L).getD i En.zero).v ≠ upV (visL L) i)) (visL L).length
    have h2 := visL_len L
    exact Nat.le_trans h1 (by omega)
  refine ⟨decide_eq_true ⟨h0, chk_iff.2 ⟨by omega, h1⟩, (dif_none hT h1 hLa h2a).2 fun x hx => (trim_lk hT x).symm⟩, h2, h3, fun A x B ht => decide_eq_false fun ⟨_, c2, hd⟩ => ?_⟩
  have hAB : ∀ e ∈ A ++ B, e.p.a < 4294967296 := fun e he => h2a e (by rw [ht]; rcases List.mem_append.1 he with h | h <;> simp [h])
  obtain ⟨a, ha, hne⟩ := trim_loses hT hLa ht
  exact hne ((dif_none h1 (chk_iff.1 c2).2 h2a hAB).1 hd a ha)
set_option maxHeartbeats 2000000 in
theorem lawTrimmed_v (ao : Option Addr) (L : List En) (c : Nat) (w : World) (hS : Sl w ao L.length c L) (hLa : ∀ e ∈ L, e.p.a < 4294967296) : Calls Try.prog 8 #[.slice ao L.length c] w (Ret (.bool true) w) := by
  have one : ∀ (K : List En), (∀ u ∈ K.map En.cells, u.length = 3) ∧ ∀ u ∈ K.map En.cells, u.all (fun u => u.oneCell') = true := fun K => ⟨fun u hu => by
    obtain ⟨x, _, rfl⟩ := List.mem_map.1 hu
    rfl, fun u hu => by
    obtain ⟨x, _, rfl⟩ := List.mem_map.1 hu
    rfl⟩
  refine V_enter (vs := [_]) Try.func8 rfl Try.ntmps8 (Nat.le_of_ble_eq_true rfl) ?_
  repeat (first | refine Vx ?_ | (apply Ops_q; (case hon => exact Va); (case hd => rfl); (case hq => exact YlA)) | refine Vr ?_ | refine Vt ?_ | refine Vf ?_ | refine Vm ?_ | refine Ve ?_ | refine Vo ?_ | refine Vz ?_)
  refine Ops_split rfl rfl (fun h1 => ?_) (fun h1 => ?_)
  · repeat (first | refine Vx ?_ | (apply Ops_q; (case hon => exact Va); (case hd => rfl); (case hq => exact YlA)) | refine Vr ?_ | refine Vt ?_ | refine Vf ?_ | refine Vm ?_ | refine Ve ?_ | refine Vo ?_ | refine Vz ?_)
    (apply Ops_q; (case hon => (exact Va)); (case hd => rfl); (case hq => exact Yl_call rfl (fun w_ e_ => awake7_v w_)))
    repeat (first | refine Vx ?_ | (apply Ops_q; (case hon => exact Va); (case hd => rfl); (case hq => exact YlA)) | refine Vr ?_ | refine Vt ?_ | refine Vf ?_ | refine Vm ?_ | refine Ve ?_ | refine Vo ?_ | refine Vz ?_)
    refine ret1 (by first | exact .inl rfl | exact .inr rfl) rfl rfl ?_
    exact Ret_mk rfl (Ext.refl _)
  have hn : L.length ≤ 40 := by have := of_decide_eq_false h1; omega
  clear h1
  have hn6 : L.length ≤ 1000000 := by omega
  have hc := fun w_ (e_ : Ext w w_) => checkR_v ao L c w_ (hS.ens.ext e_) hLa hn6
  by_cases c1 : chk L = 0
  · obtain ⟨hsa, hsub, hlen, hloss⟩ := trm_sam c1 hLa
    have m1 := fun w_ (e_ : Ext w w_) => trim_v ao L c w_ (hS.ens.ext e_) hLa hn6
    unfold TrmR at m1
    rw [c1] at m1 hc
    generalize trmT L = M at *
    have hMa : ∀ e ∈ M, e.p.a < 4294967296 := fun e he => hLa e (hsub e he)
    have hm6 : M.length ≤ 1000000 := by omega
    clear c1
    repeat (first | refine Vx ?_ | (apply Ops_q; (case hon => exact Va); (case hd => rfl); (case hq => exact YlA)) | refine Vr ?_ | refine Vt ?_ | refine Vf ?_ | refine Vm ?_ | refine Ve ?_ | refine Vo ?_ | refine Vz ?_)
    (apply Ops_q; (case hon => (exact Va)); (case hd => rfl); (case hq => exact Yl_call rfl (fun w_ e_ => hc w_ e_)))
    repeat (first | refine Vx ?_ | (apply Ops_q; (case hon => exact Va); (case hd => rfl); (case hq => exact YlA)) | refine Vr ?_ | refine Vt ?_ | refine Vf ?_ | refine Vm ?_ | refine Ve ?_ | refine Vo ?_ | refine Vz ?_)
    (refine Ops_callR (by exact Va) rfl rfl (fun w_ e_ => m1 w_ e_) ?_; intro v w1 w0_ e0_ e1_ r_v; have e_w1 := e0_.trans e1_; have b_v := e0_.size; clear e0_ e1_)
    obtain ⟨v, rfl, hO⟩ := r_v
    obtain ⟨at_, ct, rfl, hU⟩ := own_sl hO
    have x1 := e_w1
    clear hO b_v e_w1
    have hs2 := fun w_ (e_ : Ext w1 w_) => sameR_v ao at_ L M c ct w_ (hS.ens.ext (x1.trans e_)) hLa hn6 hS.nil (hU.ens.ext e_) hMa hm6 hU.nil
    rw [hsa] at hs2
    clear hc m1
    repeat (first | refine Vx ?_ | (apply Ops_q; (case hon => exact Va); (case hd => rfl); (case hq => exact YlA)) | refine Vr ?_ | refine Vt ?_ | refine Vf ?_ | refine Vm ?_ | refine Ve ?_ | refine Vo ?_ | refine Vz ?_)
    (apply Ops_q; (case hon => (exact Va)); (case hd => rfl); (case hq => exact Yl_call rfl (fun w_ e_ => hs2 w_ e_)))
    repeat (first | refine Vx ?_ | (apply Ops_q; (case hon => exact Va); (case hd => rfl); (case hq => exact YlA)) | refine Vr ?_ | refine Vt ?_ | refine Vf ?_ | refine Vm ?_ | refine Ve ?_ | refine Vo ?_ | refine Vz ?_)
    refine V_loop (fun i : Nat => [(35, .int .i64 i), (34, .int .i64 M.length), (33, .slice at_ M.length ct), (3, .slice at_ M.length ct), (0, .slice ao L.length c)])
      (fun i w' => i ≤ M.length ∧ Ext w1 w') (fun i => M.length - i) 0 (by repeat (first | exact trivial | refine ⟨rfl, ?_⟩)) ⟨Nat.zero_le _, Ext.refl _⟩ ?_
    rintro i w2 ⟨hi, x2⟩
    repeat (first | refine Vx ?_ | (apply Ops_q; (case hon => exact Va); (case hd => rfl); (case hq => exact YlA)) | refine Vr ?_ | refine Vt ?_ | refine Vf ?_ | refine Vm ?_ | refine Ve ?_ | refine Vo ?_ | refine Vz ?_)
    refine V_cond rfl (fun hg => ?_) (fun hg => ?_)
    · replace hg := of_decide_eq_true hg
      have hil : i < M.length := by omega
      obtain ⟨x, hx⟩ : ∃ x, M[i]? = some x := ⟨_, List.getElem?_eq_getElem hil⟩
      have hxL : x ∈ L := hsub x (List.mem_of_getElem? hx)
      obtain ⟨ad, hat, hcx⟩ := hU.ens.at hx
      have hMx : M = M.take i ++ x :: M.drop (i + 1) := by
        obtain ⟨h, e⟩ := List.getElem?_eq_some_iff.1 hx
        have := List.take_append_drop i M
        rw [List.drop_eq_getElem_cons h, e] at this; exact this.symm
      have hloss1 := hloss (M.take i) x (M.drop (i + 1)) hMx
      have hlt : (M.take i).length = i := by rw [List.length_take]; omega
      have hU2 := hU.ext x2
      have hcap := hU.cap
      have hH : Sl w2 at_ i ct (M.take i) := by
        have h := hU2
        rw [hMx] at h
        have h3 := Sl.hi h
        rw [hlt] at h3; exact h3
      have hLo : Sl w2 (cutA at_ (i + 1) ct 3) (M.length - (i + 1)) (ct - (i + 1)) (M.drop (i + 1)) := by
        have h := hU2
        have e : M = M.take (i + 1) ++ M.drop (i + 1) := (List.take_append_drop _ _).symm
        have hl2 : (M.take (i + 1)).length = i + 1 := by rw [List.length_take]; omega
        have hh : Sl w2 at_ M.length ct (M.take (i + 1) ++ M.drop (i + 1)) := e ▸ h
        have h3 := Sl.lo hh
        rw [hl2] at h3; exact h3
      have hc1 : Cells w2 (ad.add (i * 3)) [.int .u32 x.p.a, .int .i64 x.p.n, .int .i64 x.v] := hcx.ext x2
      subst hat
      repeat (first | refine Vx ?_ | (apply Ops_q; (case hon => exact Va); (case hd => rfl); (case hq => exact YlA)) | refine Vr ?_ | refine Vt ?_ | refine Vf ?_ | refine Vm ?_ | refine Ve ?_ | refine Vo ?_ | refine Vz ?_)
      (apply Ops_q; (case hon => (exact Va)); (case hd => rfl); (case hq => exact Yl_indexS (j := i) rfl rfl (by omega)))
      repeat (first | refine Vx ?_ | (apply Ops_q; (case hon => exact Va); (case hd => rfl); (case hq => exact YlA)) | refine Vr ?_ | refine Vt ?_ | refine Vf ?_ | refine Vm ?_ | refine Ve ?_ | refine Vo ?_ | refine Vz ?_)
      (refine Ops_alloc (by exact Va) rfl ?_; intro w3 b6 n_b6; have k_b6 := n_b6.blk)
      repeat (first | refine Vx ?_ | (apply Ops_q; (case hon => exact Va); (case hd => rfl); (case hq => exact YlA)) | refine Vr ?_ | refine Vt ?_ | refine Vf ?_ | refine Vm ?_ | refine Ve ?_ | refine Vo ?_ | refine Vz ?_)
      (refine Ops_store (by exact Va) rfl rfl (by assumption) (by first | rfl | exact OneAll.h) ?_; intro w4 u_w4; have k_b6 := u_w4.blk)
      have y4 := u_w4.below n_b6.ext n_b6.ge
      have x4 := x2.trans y4
      have hH4 := hH.ext y4
      have hLo4 := hLo.ext y4
      clear u_w4 n_b6 hc1 hH hLo hU2
      repeat (first | refine Vx ?_ | (apply Ops_q; (case hon => exact Va); (case hd => rfl); (case hq => exact YlA)) | refine Vr ?_ | refine Vt ?_ | refine Vf ?_ | refine Vm ?_ | refine Ve ?_ | refine Vo ?_ | refine Vz ?_)
      refine V_loop (fun j : Nat => [(42, .int .i64 j), (41, .int .i64 L.length), (40, .slice ao L.length c), (7, .bool (decide (x ∈ L.take j))), (6, .pointer (some ⟨b6, 0, none⟩)), (5, .int .i64 i), (35, .int .i64 i), (34, .int .i64 M.length), (33, .slice (some ad) M.length ct), (3, .slice (some ad) M.length ct), (0, .slice ao L.length c)])
        (fun j w' => j ≤ L.length ∧ Ext w4 w') (fun j => L.length - j) 0 (by repeat (first | exact trivial | refine ⟨rfl, ?_⟩)) ⟨Nat.zero_le _, Ext.refl _⟩ ?_
      rintro j w5 ⟨hj, x5⟩
      repeat (first | refine Vx ?_ | (apply Ops_q; (case hon => exact Va); (case hd => rfl); (case hq => exact YlA)) | refine Vr ?_ | refine Vt ?_ | refine Vf ?_ | refine Vm ?_ | refine Ve ?_ | refine Vo ?_ | refine Vz ?_)
      refine V_cond rfl (fun hg2 => ?_) (fun hg2 => ?_)
      · replace hg2 := of_decide_eq_true hg2
        have hjl : j < L.length := by omega
        obtain ⟨y, hy⟩ : ∃ y, L[j]? = some y := ⟨_, List.getElem?_eq_getElem hjl⟩
        obtain ⟨ad2, hat2, hcy⟩ := hS.ens.at hy
        subst hat2
        have hsn : L.take (j + 1) = L.take j ++ [y] := by rw [List.take_add_one, hy]; rfl
        have hc1 : Cells w5 (ad2.add (j * 3)) [.int .u32 y.p.a, .int .i64 y.p.n, .int .i64 y.v] := ((hcy.ext x1).ext x4).ext x5
        have k5_b6 := k_b6.ext x5
        repeat (first | refine Vx ?_ | (apply Ops_q; (case hon => exact Va); (case hd => rfl); (case hq => exact YlA)) | refine Vr ?_ | refine Vt ?_ | refine Vf ?_ | refine Vm ?_ | refine Ve ?_ | refine Vo ?_ | refine Vz ?_)
        (apply Ops_q; (case hon => (exact Va)); (case hd => rfl); (case hq => exact Yl_indexS (j := j) rfl rfl (by omega)))
        repeat (first | refine Vx ?_ | (apply Ops_q; (case hon => exact Va); (case hd => rfl); (case hq => exact YlA)) | refine Vr ?_ | refine Vt ?_ | refine Vf ?_ | refine Vm ?_ | refine Ve ?_ | refine Vo ?_ | refine Vz ?_)
        (refine Ops_alloc (by exact Va) rfl ?_; intro w6 b9 n_b9; have k_b9 := n_b9.blk)
        repeat (first | refine Vx ?_ | (apply Ops_q; (case hon => exact Va); (case hd => rfl); (case hq => exact YlA)) | refine Vr ?_ | refine Vt ?_ | refine Vf ?_ | refine Vm ?_ | refine Ve ?_ | refine Vo ?_ | refine Vz ?_)
        (refine Ops_store (by exact Va) rfl rfl (by assumption) (by first | rfl | exact OneAll.h) ?_; intro w7 u_w7; have k_b9 := u_w7.blk)
        have y7 := u_w7.below n_b9.ext n_b9.ge
        have k7_b6 := k5_b6.ext y7
        have x7 := x5.trans y7
        have hq := eqEn_dec x y
        clear u_w7 n_b9 hc1 k5_b6 y7 k_b6
        by_cases hm : x ∈ L.take j
        · have d1 : decide (x ∈ L.take j) = true := decide_eq_true hm
          have d2 : decide (x ∈ L.take (j + 1)) = true := decide_eq_true (by rw [hsn]; exact List.mem_append.2 (.inl hm))
          rw [d1]
          repeat (first | refine Vx ?_ | (apply Ops_q; (case hon => exact Va); (case hd => rfl); (case hq => exact YlA)) | refine Vr ?_ | refine Vt ?_ | refine Vf ?_ | refine Vm ?_ | refine Ve ?_ | refine Vo ?_ | refine Vz ?_)
          refine ⟨j + 1, ?_, ⟨hjl, x7⟩, by omega⟩
          rw [d2]; exact (by repeat (first | exact trivial | refine ⟨rfl, ?_⟩))
        · have d1 : decide (x ∈ L.take j) = false := decide_eq_false hm
          have d2 : decide (x ∈ L.take (j + 1)) = decide (x = y) := decide_eq_decide.2 (by rw [hsn, List.mem_append, List.mem_singleton]; exact ⟨fun h => h.elim (fun h => absurd h hm) id, .inr⟩)
          rw [d1]
          repeat (first | refine Vx ?_ | (apply Ops_q; (case hon => exact Va); (case hd => rfl); (case hq => exact YlA)) | refine Vr ?_ | refine Vt ?_ | refine Vf ?_ | refine Vm ?_ | refine Ve ?_ | refine Vo ?_ | refine Vz ?_)
          rw [hq]
          refine ⟨j + 1, ?_, ⟨hjl, x7⟩, by omega⟩
          rw [d2]; exact (by repeat (first | exact trivial | refine ⟨rfl, ?_⟩))
      replace hg2 := of_decide_eq_false hg2
      obtain rfl : j = L.length := by omega
      have d1 : decide (x ∈ L.take L.length) = true := decide_eq_true (by rw [List.take_length]; exact hxL)
      rw [d1]
      replace hH4 := hH4.ext x5
      replace hLo4 := hLo4.ext x5
      have x45 := x4.trans x5
      clear x4 x5 y4 hj hg2 k_b6
      repeat (first | refine Vx ?_ | (apply Ops_q; (case hon => exact Va); (case hd => rfl); (case hq => exact YlA)) | refine Vr ?_ | refine Vt ?_ | refine Vf ?_ | refine Vm ?_ | refine Ve ?_ | refine Vo ?_ | refine Vz ?_)
      (apply Ops_q; (case hon => (exact Va)); (case hd => rfl); (case hq => exact Yl_sliceHi (i := i) rfl rfl (by omega) hcap))
      repeat (first | refine Vx ?_ | (apply Ops_q; (case hon => exact Va); (case hd => rfl); (case hq => exact YlA)) | refine Vr ?_ | refine Vt ?_ | refine Vf ?_ | refine Vm ?_ | refine Ve ?_ | refine Vo ?_ | refine Vz ?_)
      have o0 : Own w5 w5.heap.size 40 3 (.slice none 0 0) [] := Own.nil
      refine Ops_appendA (M := (M.take i).map En.cells) (by exact Va) rfl rfl rfl rfl (by rw [List.length_map, hlt]) o0 hH4.ens hH4.nil (one _).1 (one _).2 (by rw [List.length_map, List.length_nil]; omega) rfl (Nat.le_refl _) ?_
      intro v1 w6 o1 g1 d1_
      have x6 : Ext w5 w6 := Mod.ext_of (Ext.refl w5) ((Mod.of_ext (S := fun _ => False) (Ext.refl w5)).grow g1 (fun b hb => by cases hb)) (fun c hc => hc.elim)
      rw [List.nil_append] at o1
      replace hLo4 := hLo4.ext x6
      repeat (first | refine Vx ?_ | (apply Ops_q; (case hon => exact Va); (case hd => rfl); (case hq => exact YlA)) | refine Vr ?_ | refine Vt ?_ | refine Vf ?_ | refine Vm ?_ | refine Ve ?_ | refine Vo ?_ | refine Vz ?_)
      (apply Ops_q; (case hon => (exact Va)); (case hd => rfl); (case hq => exact Yl_sliceLo (i := i + 1) rfl rfl (by omega) hcap))
      repeat (first | refine Vx ?_ | (apply Ops_q; (case hon => exact Va); (case hd => rfl); (case hq => exact YlA)) | refine Vr ?_ | refine Vt ?_ | refine Vf ?_ | refine Vm ?_ | refine Ve ?_ | refine Vo ?_ | refine Vz ?_)
      refine Ops_appendA (M := (M.drop (i + 1)).map En.cells) (by exact Va) rfl rfl rfl rfl (by rw [List.length_map, List.length_drop]) o1 hLo4.ens hLo4.nil (one _).1 (one _).2 (by rw [List.length_map, List.length_map, List.length_drop]; omega) rfl x6.size ?_
      intro v2 w7 o2 g2 d2_
      have x7 : Ext w5 w7 := Mod.ext_of x6 ((Mod.of_ext (S := fun c => v1.ownBlock = some c) (Ext.refl w6)).grow g2 (fun b hb => .inl hb)) (fun c hc => o1.ge hc)
      rw [← List.map_append] at o2
      obtain ⟨al, cl, rfl, hV⟩ := own_sl o2
      have x17 := x45.trans x7
      have hVa : ∀ e ∈ M.take i ++ M.drop (i + 1), e.p.a < 4294967296 := fun e he => hMa e (by rcases List.mem_append.1 he with h | h; exact List.mem_of_mem_take h; exact List.mem_of_mem_drop h)
      have hVn : (M.take i ++ M.drop (i + 1)).length ≤ 1000000 := by rw [List.length_append, hlt, List.length_drop]; omega
      have hs3 := fun w_ (e_ : Ext w7 w_) => sameR_v (some ad) al M (M.take i ++ M.drop (i + 1)) ct cl w_ (hU.ens.ext (x17.trans e_)) hMa hm6 hU.nil (hV.ens.ext e_) hVa hVn hV.nil
      rw [hloss1] at hs3
      clear g1 g2 d1_ d2_ o1 o2 o0 hLo4 hH4
      repeat (first | refine Vx ?_ | (apply Ops_q; (case hon => exact Va); (case hd => rfl); (case hq => exact YlA)) | refine Vr ?_ | refine Vt ?_ | refine Vf ?_ | refine Vm ?_ | refine Ve ?_ | refine Vo ?_ | refine Vz ?_)
      (apply Ops_q; (case hon => (exact Va)); (case hd => rfl); (case hq => exact Yl_call rfl (fun w_ e_ => hs3 w_ e_)))
      repeat (first | refine Vx ?_ | (apply Ops_q; (case hon => exact Va); (case hd => rfl); (case hq => exact YlA)) | refine Vr ?_ | refine Vt ?_ | refine Vf ?_ | refine Vm ?_ | refine Ve ?_ | refine Vo ?_ | refine Vz ?_)
      exact ⟨i + 1, (by repeat (first | exact trivial | refine ⟨rfl, ?_⟩)), ⟨hil, x17⟩, by omega⟩
    repeat (first | refine Vx ?_ | (apply Ops_q; (case hon => exact Va); (case hd => rfl); (case hq => exact YlA)) | refine Vr ?_ | refine Vt ?_ | refine Vf ?_ | refine Vm ?_ | refine Ve ?_ | refine Vo ?_ | refine Vz ?_)
    (apply Ops_q; (case hon => (exact Va)); (case hd => rfl); (case hq => exact Yl_call rfl (fun w_ e_ => awake7_v w_)))
    repeat (first | refine Vx ?_ | (apply Ops_q; (case hon => exact Va); (case hd => rfl); (case hq => exact YlA)) | refine Vr ?_ | refine Vt ?_ | refine Vf ?_ | refine Vm ?_ | refine Ve ?_ | refine Vo ?_ | refine Vz ?_)
    refine ret1 (by first | exact .inl rfl | exact .inr rfl) rfl rfl ?_
    exact Ret_mk rfl (x1.trans x2)
  · have q2 : decide (chk L = 0) = false := decide_eq_false c1
    repeat (first | refine Vx ?_ | (apply Ops_q; (case hon => exact Va); (case hd => rfl); (case hq => exact YlA)) | refine Vr ?_ | refine Vt ?_ | refine Vf ?_ | refine Vm ?_ | refine Ve ?_ | refine Vo ?_ | refine Vz ?_)
    (apply Ops_q; (case hon => (exact Va)); (case hd => rfl); (case hq => exact Yl_call rfl (fun w_ e_ => hc w_ e_)))
    repeat (first | refine Vx ?_ | (apply Ops_q; (case hon => exact Va); (case hd => rfl); (case hq => exact YlA)) | refine Vr ?_ | refine Vt ?_ | refine Vf ?_ | refine Vm ?_ | refine Ve ?_ | refine Vo ?_ | refine Vz ?_)
    rw [q2]
    repeat (first | refine Vx ?_ | (apply Ops_q; (case hon => exact Va); (case hd => rfl); (case hq => exact YlA)) | refine Vr ?_ | refine Vt ?_ | refine Vf ?_ | refine Vm ?_ | refine Ve ?_ | refine Vo ?_ | refine Vz ?_)
    (apply Ops_q; (case hon => (exact Va)); (case hd => rfl); (case hq => exact Yl_call rfl (fun w_ e_ => awake7_v w_)))
    repeat (first | refine Vx ?_ | (apply Ops_q; (case hon => exact Va); (case hd => rfl); (case hq => exact YlA)) | refine Vr ?_ | refine Vt ?_ | refine Vf ?_ | refine Vm ?_ | refine Ve ?_ | refine Vo ?_ | refine Vz ?_)
    refine ret1 (by first | exact .inl rfl | exact .inr rfl) rfl rfl ?_
    exact Ret_mk rfl (Ext.refl _)
end Go.Proofs.Ytkiidmbkibfbiaa

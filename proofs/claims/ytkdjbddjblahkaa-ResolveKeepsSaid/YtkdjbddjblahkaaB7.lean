/-
  Part 7 of the texts that the proofs of this seat share: rules of a walk, contracts of functions, plain facts. Each piece says below what it proves.
  No conditions beyond those that each lemma states.
-/
import Derived.Test.YtkdjbddjblahkaaB6

/-
  Routes (layer 49): the law ResolveKeeps.
  Conditions: addresses and routers are numbers of 32 bits; lists are not too long for a machine.
-/
namespace Go.Proofs.Ytkdjbddjblahkaa
open Go.RowKit

/-! ### Hops that ascend -/
theorem errT_hops {r : Rt} (h : errT r = 0) : firstE (errH r.hops) r.hops.length = 0 := by
  unfold errT at h
  split at h
  · cases h
  · split at h
    · cases h
    · split at h
      · cases h
      · split at h
        · cases h
        · exact h
theorem errH_up {L : List Nh} {k : Nat} {g h : Nh} (he : errH L (k + 1) = 0) (hg : L[k]? = some g) (hh : L[k + 1]? = some h) : cmpH g h < 0 := by
  refine Classical.byContradiction fun hn => ?_
  by_cases h1 : badH h
  · rw [errH_bad hh h1] at he; cases he
  · cases hv : h.via.valid with
    | false => rw [errH_via hh h1 hv] at he; cases he
    | true => rw [errH_ord hh (by rw [Nat.add_sub_cancel]; exact hg) h1 hv (Nat.succ_pos k) (by omega)] at he; cases he
theorem hops_up {L : List Nh} (h : firstE (errH L) L.length = 0) : ∀ (j i : Nat) (g x : Nh), i < j → L[i]? = some g → L[j]? = some x → cmpH g x < 0
  | 0, _, _, _, hij, _, _ => absurd hij (Nat.not_lt_zero _)
  | j + 1, i, g, x, hij, hg, hx => by
    have hjl := (List.getElem?_eq_some_iff.1 hx).1
    obtain ⟨m, hm⟩ : ∃ m, L[j]? = some m := ⟨_, List.getElem?_eq_getElem (by omega)⟩
    have h1 := errH_up (firstE_inv h (j + 1) hjl) hm hx
    rcases Nat.lt_or_ge i j with h2 | h2
    · exact cmpH_trans (hops_up h j i g m h2 hg hm) h1
    · obtain rfl : i = j := by omega
      rw [hm] at hg; cases hg; exact h1
theorem up_via {p : Pf} {L : List Nh} (h : firstE (errH L) L.length = 0) : Up (L.map (viaH p)) := by
  unfold Up
  rw [List.pairwise_map, List.pairwise_iff_getElem]
  intro i j hi hj hij
  exact (hops_up h j i (L[i]'hi) (L[j]'hj) hij (List.getElem?_eq_getElem hi) (List.getElem?_eq_getElem hj) : cmpH (L[i]'hi) (L[j]'hj) < 0)
theorem hopsV_known {L : List Rt} {r : Rt} (h : errT r = 0) (hk : ∀ x ∈ r.hops, 0 ≤ x.iface) : hopsV L r = (0, r.hops.map (viaH r.p)) := by
  have hl := (errT_zero h).2.1
  unfold hopsV
  rw [if_neg (fun h2 => h2 ((chkR_one r).trans h)), rou_known hk, cbS_self (up_via (errT_hops h)) (by rw [List.length_map]; exact hl)]
/-! ### The routes of All are routes of the list, in order -/
def key3 (r : Rt) : Pf × Int × Int := (r.p, r.proto, r.metric)
theorem key3_iff {r s : Rt} : key3 r = key3 s ↔ r.p = s.p ∧ r.proto = s.proto ∧ r.metric = s.metric := by
  unfold key3; simp
theorem keys_same {A B : List Rt} (h : SameL A B) : A.map key3 = B.map key3 := by
  refine List.ext_getElem? fun i => ?_
  rw [List.getElem?_map, List.getElem?_map]
  cases ha : A[i]? with
  | none =>
    rw [List.getElem?_eq_none (by rw [← h.1]; exact List.getElem?_eq_none_iff.1 ha)]
  | some r =>
    obtain ⟨s, hs⟩ : ∃ s, B[i]? = some s := ⟨_, List.getElem?_eq_getElem (by rw [← h.1]; exact (List.getElem?_eq_some_iff.1 ha).1)⟩
    rw [hs, Option.map_some, Option.map_some]
    have := h.2 i r s ha hs
    rw [key3_iff.2 ⟨this.p, this.proto, this.metric⟩]
theorem keys_sub (V : List Rt) : ∀ A : List Rt, ((A.filterMap (alR V)).map key3).Sublist (A.map key3)
  | [] => List.Sublist.refl _
  | r :: A => by
    cases h : alR V r with
    | none => rw [List.filterMap_cons_none h, List.map_cons]; exact (keys_sub V A).cons _
    | some s =>
      rw [List.filterMap_cons_some h, List.map_cons, List.map_cons, (al_some h).2]
      exact (keys_sub V A).cons_cons _
theorem keys_act {M L : List Rt} (h : SameL M (allV (actL L))) : (M.map key3).Sublist (L.map key3) := by
  rw [keys_same h]
  refine (keys_sub (actL L) (actL L)).trans ?_
  by_cases ha : Actv L
  · rw [actL_yes ha]; exact List.Sublist.refl _
  · rw [actL_no ha]; exact List.nil_sublist _
theorem sub_miss {α : Type} {a b : α} {A B : List α} (h : (a :: A).Sublist (b :: B)) (hn : a ≠ b) : (a :: A).Sublist B := by
  cases h with
  | cons _ h => exact h
  | cons_cons _ h => exact absurd rfl hn
theorem sub_hit {α : Type} {a b : α} {A B : List α} (h : (a :: A).Sublist (b :: B)) : A.Sublist B := by
  cases h with
  | cons _ h => exact (List.sublist_cons_self a A).trans h
  | cons_cons _ h => exact h
theorem sub_lt {α : Type} {a : α} {A : List α} {L : List Rt} {f : Rt → α} {j : Nat} (h : (a :: A).Sublist ((L.drop j).map f)) : j < L.length := by
  have := h.length_le
  rw [List.length_cons, List.length_map, List.length_drop] at this
  omega
def knB (H : List Nh) (k : Nat) : Bool := (H.take k).all fun h => decide (0 ≤ h.iface)
theorem knB_succ {H : List Nh} {k : Nat} {x : Nh} (h : H[k]? = some x) : knB H (k + 1) = (knB H k && decide (0 ≤ x.iface)) := by
  unfold knB
  rw [List.take_add_one, h, List.all_append]; simp
theorem knB_all {H : List Nh} (h : knB H H.length = true) : ∀ x ∈ H, 0 ≤ x.iface := fun x hx => by
  unfold knB at h
  rw [List.take_length] at h
  exact of_decide_eq_true (List.all_eq_true.1 h x hx)
set_option maxHeartbeats 8000000 in
theorem lawKeeps_v (ao : Option Addr) (L : List Rt) (c : Nat) (r : Rt) (w : World) (hL : Rts w ao L) (_ : L.length ≤ c) (hn : L.length ≤ 4611686018427387904) (hr : RtM w r) (hrn : r.hops.length ≤ 4611686018427387904) :
    Calls Try.prog 7 #[.slice ao L.length c, r.val] w (Ret (.bool true) w) := by
  refine V_enter (vs := [_, _]) Try.func7 rfl Try.ntmps7 (Nat.le_of_ble_eq_true rfl) ?_
  repeat (first | refine Vx ?_ | (apply Ops_q; (case hon => exact Va); (case hd => rfl); (case hq => exact YlA)) | refine Vr ?_ | refine Vt ?_ | refine Vf ?_ | refine Vm ?_ | refine Ve ?_ | refine Vo ?_ | refine Vz ?_ | refine Vn ?_)
  (refine Ops_box (by exact Va) rfl rfl rfl ?_; intro w1 b3 n_b3; have k_b3 := n_b3.blk)
  have x1 := n_b3.ext
  clear n_b3
  repeat (first | refine Vx ?_ | (apply Ops_q; (case hon => exact Va); (case hd => rfl); (case hq => exact YlA)) | refine Vr ?_ | refine Vt ?_ | refine Vf ?_ | refine Vm ?_ | refine Ve ?_ | refine Vo ?_ | refine Vz ?_ | refine Vn ?_)
  by_cases t0 : 60 < L.length
  · have d0 : decide ((60 : Int) < (L.length : Int)) = true := decide_eq_true (by omega)
    refine V_yes rfl d0 ?_
    repeat (first | refine Vx ?_ | (apply Ops_q; (case hon => exact Va); (case hd => rfl); (case hq => exact YlA)) | refine Vr ?_ | refine Vt ?_ | refine Vf ?_ | refine Vm ?_ | refine Ve ?_ | refine Vo ?_ | refine Vz ?_ | refine Vn ?_)
    (apply Ops_q; (case hon => (exact Va)); (case hd => rfl); (case hq => exact Yl_call rfl (fun w_ e_ => awake49_v w_)))
    repeat (first | refine Vx ?_ | (apply Ops_q; (case hon => exact Va); (case hd => rfl); (case hq => exact YlA)) | refine Vr ?_ | refine Vt ?_ | refine Vf ?_ | refine Vm ?_ | refine Ve ?_ | refine Vo ?_ | refine Vz ?_ | refine Vn ?_)
    refine ret1 (by first | exact .inl rfl | exact .inr rfl) rfl rfl ?_
    exact Ret_mk rfl x1
  have d0 : decide ((60 : Int) < (L.length : Int)) = false := decide_eq_false (by omega)
  refine V_no rfl d0 ?_
  clear d0
  have hn9 : L.length ≤ 1000000000 := by omega
  repeat (first | refine Vx ?_ | (apply Ops_q; (case hon => exact Va); (case hd => rfl); (case hq => exact YlA)) | refine Vr ?_ | refine Vt ?_ | refine Vf ?_ | refine Vm ?_ | refine Ve ?_ | refine Vo ?_ | refine Vz ?_ | refine Vn ?_)
  (refine Ops_callR (by exact Va) rfl rfl (fun w_ e_ => hops_v ao L c r w_ (hL.ext (x1.trans e_)) hn9 (hr.ext (x1.trans e_))) ?_; intro u w2 w0_ e0_ e1_ r_u; have e_w2 := e0_.trans e1_; have b_u := e0_.size; clear e0_ e1_)
  obtain ⟨ao2, c2, rfl, hN2, hc2, _⟩ := r_u
  have x2 := x1.trans e_w2
  replace k_b3 := k_b3.ext e_w2
  repeat (first | refine Vx ?_ | (apply Ops_q; (case hon => exact Va); (case hd => rfl); (case hq => exact YlA)) | refine Vr ?_ | refine Vt ?_ | refine Vf ?_ | refine Vm ?_ | refine Ve ?_ | refine Vo ?_ | refine Vz ?_ | refine Vn ?_)
  (apply Ops_q; (case hon => (exact Va)); (case hd => rfl); (case hq => exact Yl_call rfl (fun w_ e_ => validRB_v r w_ (hr.ext (x2.trans e_)) hrn)))
  repeat (first | refine Vx ?_ | (apply Ops_q; (case hon => exact Va); (case hd => rfl); (case hq => exact YlA)) | refine Vr ?_ | refine Vt ?_ | refine Vf ?_ | refine Vm ?_ | refine Ve ?_ | refine Vo ?_ | refine Vz ?_ | refine Vn ?_)
  refine V_meet1 (fun _ : Unit => [(0, .slice ao L.length c)]) (fun _ w' => Ext w w') ?_ ?_
  · by_cases t1 : errT r = 0
    · have d1 : decide (errT r = 0) = true := decide_eq_true t1
      refine V_yes rfl d1 ?_
      have hkn := hopsV_known (L := L) t1
      have hl64 := (errT_zero t1).2.1
      generalize hopsV L r = o at *
      repeat (first | refine Vx ?_ | (apply Ops_q; (case hon => exact Va); (case hd => rfl); (case hq => exact YlA)) | refine Vr ?_ | refine Vt ?_ | refine Vf ?_ | refine Vm ?_ | refine Ve ?_ | refine Vo ?_ | refine Vz ?_ | refine Vn ?_)
      refine V_loop (fun k : Nat => [(31, .int .i64 k), (30, .int .i64 r.hops.length), (29, .slice r.ao r.hops.length r.c), (7, .bool (knB r.hops k)), (3, .pointer (some ⟨b3, 0, none⟩)), (5, .slice ao2 o.2.length c2), (6, .int .i64 o.1), (0, .slice ao L.length c)])
        (fun k w' => Ext w2 w' ∧ k ≤ r.hops.length) (fun k => r.hops.length - k) 0 (by repeat (first | exact trivial | refine ⟨rfl, ?_⟩)) ⟨Ext.refl _, Nat.zero_le _⟩ ?_
      rintro k w3 ⟨x3, hk⟩
      repeat (first | refine Vx ?_ | (apply Ops_q; (case hon => exact Va); (case hd => rfl); (case hq => exact YlA)) | refine Vr ?_ | refine Vt ?_ | refine Vf ?_ | refine Vm ?_ | refine Ve ?_ | refine Vo ?_ | refine Vz ?_ | refine Vn ?_)
      refine V_cond rfl (fun hg => ?_) (fun hg => ?_)
      · have hkl : k < r.hops.length := by have := of_decide_eq_true hg; omega
        clear hg
        obtain ⟨x, hx⟩ : ∃ x, r.hops[k]? = some x := ⟨_, List.getElem?_eq_getElem hkl⟩
        obtain ⟨ah, eh, hch⟩ := (hr.hops.ext (x2.trans x3)).at hx
        have hks := knB_succ hx
        rw [eh]
        repeat (first | refine Vx ?_ | (apply Ops_q; (case hon => exact Va); (case hd => rfl); (case hq => exact YlA)) | refine Vr ?_ | refine Vt ?_ | refine Vf ?_ | refine Vm ?_ | refine Ve ?_ | refine Vo ?_ | refine Vz ?_ | refine Vn ?_)
        (apply Ops_q; (case hon => (exact Va)); (case hd => rfl); (case hq => exact Yl_indexS (j := k) rfl rfl (by omega)))
        repeat (first | refine Vx ?_ | (apply Ops_q; (case hon => exact Va); (case hd => rfl); (case hq => exact YlA)) | refine Vr ?_ | refine Vt ?_ | refine Vf ?_ | refine Vm ?_ | refine Ve ?_ | refine Vo ?_ | refine Vz ?_ | refine Vn ?_)
        (refine Ops_alloc (by exact Va) rfl ?_; intro w4 b9 n_b9; have k_b9 := n_b9.blk)
        repeat (first | refine Vx ?_ | (apply Ops_q; (case hon => exact Va); (case hd => rfl); (case hq => exact YlA)) | refine Vr ?_ | refine Vt ?_ | refine Vf ?_ | refine Vm ?_ | refine Ve ?_ | refine Vo ?_ | refine Vz ?_ | refine Vn ?_)
        (refine Ops_store (by exact Va) rfl rfl (by assumption) (by first | rfl | exact OneAll.h) ?_; intro w5 u_w5; have k_b9 := u_w5.blk)
        have y5 := u_w5.below n_b9.ext n_b9.ge
        have x5 := x3.trans y5
        clear u_w5 n_b9 hch
        generalize knB r.hops k = kb at *
        cases kb with
        | false =>
          repeat (first | refine Vx ?_ | (apply Ops_q; (case hon => exact Va); (case hd => rfl); (case hq => exact YlA)) | refine Vr ?_ | refine Vt ?_ | refine Vf ?_ | refine Vm ?_ | refine Ve ?_ | refine Vo ?_ | refine Vz ?_ | refine Vn ?_)
          exact ⟨k + 1, by rw [hks, ← eh]; exact (by repeat (first | exact trivial | refine ⟨rfl, ?_⟩)), ⟨x5, hkl⟩, by omega⟩
        | true =>
          repeat (first | refine Vx ?_ | (apply Ops_q; (case hon => exact Va); (case hd => rfl); (case hq => exact YlA)) | refine Vr ?_ | refine Vt ?_ | refine Vf ?_ | refine Vm ?_ | refine Ve ?_ | refine Vo ?_ | refine Vz ?_ | refine Vn ?_)
          exact ⟨k + 1, by rw [hks, ← eh]; exact (by repeat (first | exact trivial | refine ⟨rfl, ?_⟩)), ⟨x5, hkl⟩, by omega⟩
      · obtain rfl : k = r.hops.length := by have := of_decide_eq_false hg; omega
        have k33 := k_b3.ext x3
        clear k_b3 hg
        cases hkb : knB r.hops r.hops.length with
        | false =>
          repeat (first | refine Vx ?_ | (apply Ops_q; (case hon => exact Va); (case hd => rfl); (case hq => exact YlA)) | refine Vr ?_ | refine Vt ?_ | refine Vf ?_ | refine Vm ?_ | refine Ve ?_ | refine Vo ?_ | refine Vz ?_ | refine Vn ?_)
          repeat (first | refine Vx ?_ | (apply Ops_q; (case hon => exact Va); (case hd => rfl); (case hq => exact YlA)) | refine Vr ?_ | refine Vt ?_ | refine Vf ?_ | refine Vm ?_ | refine Ve ?_ | refine Vo ?_ | refine Vz ?_ | refine Vn ?_)
          refine V_loop (fun k : Nat => [(58, .int .i64 k), (57, .int .i64 r.hops.length), (56, .slice r.ao r.hops.length r.c), (7, .bool false), (3, .pointer (some ⟨b3, 0, none⟩)), (5, .slice ao2 o.2.length c2), (0, .slice ao L.length c)])
            (fun k w' => Ext w3 w' ∧ k ≤ r.hops.length) (fun k => r.hops.length - k) 0 (by repeat (first | exact trivial | refine ⟨rfl, ?_⟩)) ⟨Ext.refl _, Nat.zero_le _⟩ ?_
          rintro k w4 ⟨x4, hk⟩
          have k34 := k33.ext x4
          repeat (first | refine Vx ?_ | (apply Ops_q; (case hon => exact Va); (case hd => rfl); (case hq => exact YlA)) | refine Vr ?_ | refine Vt ?_ | refine Vf ?_ | refine Vm ?_ | refine Ve ?_ | refine Vo ?_ | refine Vz ?_ | refine Vn ?_)
          refine V_cond rfl (fun hg => ?_) (fun hg => ?_)
          · have hkl : k < r.hops.length := by have := of_decide_eq_true hg; omega
            clear hg
            obtain ⟨x, hx⟩ : ∃ x, r.hops[k]? = some x := ⟨_, List.getElem?_eq_getElem hkl⟩
            obtain ⟨ah, eh, hch⟩ := (hr.hops.ext (x2.trans (x3.trans x4))).at hx
            rw [eh]
            repeat (first | refine Vx ?_ | (apply Ops_q; (case hon => exact Va); (case hd => rfl); (case hq => exact YlA)) | refine Vr ?_ | refine Vt ?_ | refine Vf ?_ | refine Vm ?_ | refine Ve ?_ | refine Vo ?_ | refine Vz ?_ | refine Vn ?_)
            (apply Ops_q; (case hon => (exact Va)); (case hd => rfl); (case hq => exact Yl_indexS (j := k) rfl rfl (by omega)))
            repeat (first | refine Vx ?_ | (apply Ops_q; (case hon => exact Va); (case hd => rfl); (case hq => exact YlA)) | refine Vr ?_ | refine Vt ?_ | refine Vf ?_ | refine Vm ?_ | refine Ve ?_ | refine Vo ?_ | refine Vz ?_ | refine Vn ?_)
            (refine Ops_alloc (by exact Va) rfl ?_; intro w5 b11 n_b11; have k_b11 := n_b11.blk)
            repeat (first | refine Vx ?_ | (apply Ops_q; (case hon => exact Va); (case hd => rfl); (case hq => exact YlA)) | refine Vr ?_ | refine Vt ?_ | refine Vf ?_ | refine Vm ?_ | refine Ve ?_ | refine Vo ?_ | refine Vz ?_ | refine Vn ?_)
            (refine Ops_store (by exact Va) rfl rfl (by assumption) (by first | rfl | exact OneAll.h) ?_; intro w6 u_w6; have k_b11 := u_w6.blk)
            have y6 := u_w6.below n_b11.ext n_b11.ge
            have g11 := n_b11.ge
            have q3 : Cells w6 ⟨b3, 0, none⟩ [.int .u32 r.p.a, .int .i64 r.p.n] := (k34.ext y6).part 0 2
            clear u_w6 n_b11 hch
            repeat (first | refine Vx ?_ | (apply Ops_q; (case hon => exact Va); (case hd => rfl); (case hq => exact YlA)) | refine Vr ?_ | refine Vt ?_ | refine Vf ?_ | refine Vm ?_ | refine Ve ?_ | refine Vo ?_ | refine Vz ?_ | refine Vn ?_)
            (refine Ops_store (by exact Va) rfl rfl (by assumption) (by first | rfl | exact OneAll.h) ?_; intro w7 u_w7; have k_b11 := u_w7.blk)
            have y7 := u_w7.below y6 g11
            have x7 := x4.trans y7
            clear u_w7 q3
            repeat (first | refine Vx ?_ | (apply Ops_q; (case hon => exact Va); (case hd => rfl); (case hq => exact YlA)) | refine Vr ?_ | refine Vt ?_ | refine Vf ?_ | refine Vm ?_ | refine Ve ?_ | refine Vo ?_ | refine Vz ?_ | refine Vn ?_)
            exact ⟨k + 1, by rw [← eh]; exact (by repeat (first | exact trivial | refine ⟨rfl, ?_⟩)), ⟨x7, hkl⟩, by omega⟩
          · repeat (first | refine Vx ?_ | (apply Ops_q; (case hon => exact Va); (case hd => rfl); (case hq => exact YlA)) | refine Vr ?_ | refine Vt ?_ | refine Vf ?_ | refine Vm ?_ | refine Ve ?_ | refine Vo ?_ | refine Vz ?_ | refine Vn ?_)
            exact ⟨(), (by repeat (first | exact trivial | refine ⟨rfl, ?_⟩)), x2.trans (x3.trans x4)⟩
        | true =>
          obtain rfl := hkn (knB_all hkb)
          dsimp only at hN2 hc2 ⊢
          have e0 : decide (((r.hops.map (viaH r.p)).length : Int) = (r.hops.length : Int)) = true := by rw [List.length_map]; exact decide_eq_true rfl
          repeat (first | refine Vx ?_ | (apply Ops_q; (case hon => exact Va); (case hd => rfl); (case hq => exact YlA)) | refine Vr ?_ | refine Vt ?_ | refine Vf ?_ | refine Vm ?_ | refine Ve ?_ | refine Vo ?_ | refine Vz ?_ | refine Vn ?_)
          rw [e0]
          repeat (first | refine Vx ?_ | (apply Ops_q; (case hon => exact Va); (case hd => rfl); (case hq => exact YlA)) | refine Vr ?_ | refine Vt ?_ | refine Vf ?_ | refine Vm ?_ | refine Ve ?_ | refine Vo ?_ | refine Vz ?_ | refine Vn ?_)
          refine V_loop (fun k : Nat => [(58, .int .i64 k), (57, .int .i64 r.hops.length), (56, .slice r.ao r.hops.length r.c), (7, .bool true), (3, .pointer (some ⟨b3, 0, none⟩)), (5, .slice ao2 (r.hops.map (viaH r.p)).length c2), (0, .slice ao L.length c)])
            (fun k w' => Ext w3 w' ∧ k ≤ r.hops.length) (fun k => r.hops.length - k) 0 (by repeat (first | exact trivial | refine ⟨rfl, ?_⟩)) ⟨Ext.refl _, Nat.zero_le _⟩ ?_
          rintro k w4 ⟨x4, hk⟩
          have k34 := k33.ext x4
          repeat (first | refine Vx ?_ | (apply Ops_q; (case hon => exact Va); (case hd => rfl); (case hq => exact YlA)) | refine Vr ?_ | refine Vt ?_ | refine Vf ?_ | refine Vm ?_ | refine Ve ?_ | refine Vo ?_ | refine Vz ?_ | refine Vn ?_)
          refine V_cond rfl (fun hg => ?_) (fun hg => ?_)
          · have hkl : k < r.hops.length := by have := of_decide_eq_true hg; omega
            clear hg
            obtain ⟨x, hx⟩ : ∃ x, r.hops[k]? = some x := ⟨_, List.getElem?_eq_getElem hkl⟩
            obtain ⟨ah, eh, hch⟩ := (hr.hops.ext (x2.trans (x3.trans x4))).at hx
            rw [eh]
            repeat (first | refine Vx ?_ | (apply Ops_q; (case hon => exact Va); (case hd => rfl); (case hq => exact YlA)) | refine Vr ?_ | refine Vt ?_ | refine Vf ?_ | refine Vm ?_ | refine Ve ?_ | refine Vo ?_ | refine Vz ?_ | refine Vn ?_)
            (apply Ops_q; (case hon => (exact Va)); (case hd => rfl); (case hq => exact Yl_indexS (j := k) rfl rfl (by omega)))
            repeat (first | refine Vx ?_ | (apply Ops_q; (case hon => exact Va); (case hd => rfl); (case hq => exact YlA)) | refine Vr ?_ | refine Vt ?_ | refine Vf ?_ | refine Vm ?_ | refine Ve ?_ | refine Vo ?_ | refine Vz ?_ | refine Vn ?_)
            (refine Ops_alloc (by exact Va) rfl ?_; intro w5 b11 n_b11; have k_b11 := n_b11.blk)
            repeat (first | refine Vx ?_ | (apply Ops_q; (case hon => exact Va); (case hd => rfl); (case hq => exact YlA)) | refine Vr ?_ | refine Vt ?_ | refine Vf ?_ | refine Vm ?_ | refine Ve ?_ | refine Vo ?_ | refine Vz ?_ | refine Vn ?_)
            (refine Ops_store (by exact Va) rfl rfl (by assumption) (by first | rfl | exact OneAll.h) ?_; intro w6 u_w6; have k_b11 := u_w6.blk)
            have y6 := u_w6.below n_b11.ext n_b11.ge
            have g11 := n_b11.ge
            have q3 : Cells w6 ⟨b3, 0, none⟩ [.int .u32 r.p.a, .int .i64 r.p.n] := (k34.ext y6).part 0 2
            clear u_w6 n_b11 hch
            repeat (first | refine Vx ?_ | (apply Ops_q; (case hon => exact Va); (case hd => rfl); (case hq => exact YlA)) | refine Vr ?_ | refine Vt ?_ | refine Vf ?_ | refine Vm ?_ | refine Ve ?_ | refine Vo ?_ | refine Vz ?_ | refine Vn ?_)
            (refine Ops_store (by exact Va) rfl rfl (by assumption) (by first | rfl | exact OneAll.h) ?_; intro w7 u_w7; have k_b11 := u_w7.blk)
            have y7 := u_w7.below y6 g11
            have x7 := x4.trans y7
            clear u_w7 q3
            obtain ⟨a2, e2, hc7⟩ := (hN2.ext (x3.trans (x4.trans y7))).at (k := k) (x := viaH r.p x) (by rw [List.getElem?_map, hx]; rfl)
            have hkm : k < (r.hops.map (viaH r.p)).length := by rw [List.length_map]; exact hkl
            have e3 : decide (((r.hops.map (viaH r.p)).length : Int) ≤ (k : Int)) = false := decide_eq_false (by omega)
            rw [e2]
            repeat (first | refine Vx ?_ | (apply Ops_q; (case hon => exact Va); (case hd => rfl); (case hq => exact YlA)) | refine Vr ?_ | refine Vt ?_ | refine Vf ?_ | refine Vm ?_ | refine Ve ?_ | refine Vo ?_ | refine Vz ?_ | refine Vn ?_)
            refine Ops_know rfl rfl e3 ?_
            repeat (first | refine Vx ?_ | (apply Ops_q; (case hon => exact Va); (case hd => rfl); (case hq => exact YlA)) | refine Vr ?_ | refine Vt ?_ | refine Vf ?_ | refine Vm ?_ | refine Ve ?_ | refine Vo ?_ | refine Vz ?_ | refine Vn ?_)
            (apply Ops_q; (case hon => (exact Va)); (case hd => rfl); (case hq => exact Yl_indexS (j := k) rfl rfl (by omega)))
            repeat (first | refine Vx ?_ | (apply Ops_q; (case hon => exact Va); (case hd => rfl); (case hq => exact YlA)) | refine Vr ?_ | refine Vt ?_ | refine Vf ?_ | refine Vm ?_ | refine Ve ?_ | refine Vo ?_ | refine Vz ?_ | refine Vn ?_)
            refine V_no rfl (by simp [viaH]) ?_
            repeat (first | refine Vx ?_ | (apply Ops_q; (case hon => exact Va); (case hd => rfl); (case hq => exact YlA)) | refine Vr ?_ | refine Vt ?_ | refine Vf ?_ | refine Vm ?_ | refine Ve ?_ | refine Vo ?_ | refine Vz ?_ | refine Vn ?_)
            exact ⟨k + 1, by rw [← eh]; exact (by repeat (first | exact trivial | refine ⟨rfl, ?_⟩)), ⟨x7, hkl⟩, by omega⟩
          · repeat (first | refine Vx ?_ | (apply Ops_q; (case hon => exact Va); (case hd => rfl); (case hq => exact YlA)) | refine Vr ?_ | refine Vt ?_ | refine Vf ?_ | refine Vm ?_ | refine Ve ?_ | refine Vo ?_ | refine Vz ?_ | refine Vn ?_)
            exact ⟨(), (by repeat (first | exact trivial | refine ⟨rfl, ?_⟩)), x2.trans (x3.trans x4)⟩
    · have d1 : decide (errT r = 0) = false := decide_eq_false t1
      refine V_no rfl d1 ?_
      repeat (first | refine Vx ?_ | (apply Ops_q; (case hon => exact Va); (case hd => rfl); (case hq => exact YlA)) | refine Vr ?_ | refine Vt ?_ | refine Vf ?_ | refine Vm ?_ | refine Ve ?_ | refine Vo ?_ | refine Vz ?_ | refine Vn ?_)
      exact ⟨(), (by repeat (first | exact trivial | refine ⟨rfl, ?_⟩)), x2⟩
  · rintro ⟨⟩ w3 x3
    repeat (first | refine Vx ?_ | (apply Ops_q; (case hon => exact Va); (case hd => rfl); (case hq => exact YlA)) | refine Vr ?_ | refine Vt ?_ | refine Vf ?_ | refine Vm ?_ | refine Ve ?_ | refine Vo ?_ | refine Vz ?_ | refine Vn ?_)
    (refine Ops_callR (by exact Va) rfl rfl (fun w_ e_ => allP_v ao L c w_ (hL.ext (x3.trans e_)) hn9) ?_; intro u w4 w0_ e0_ e1_ r_u; have e_w4 := e0_.trans e1_; have b_u := e0_.size; clear e0_ e1_)
    obtain ⟨ao4, c4, M, rfl, hM, hs⟩ := r_u
    have hsub := keys_act hs
    have hMl : M.length ≤ 60 := by
      have h1 := hs.1
      have h2 := allV_len (actL L)
      have h3 := actL_len L
      omega
    have x4 := x3.trans e_w4
    repeat (first | refine Vx ?_ | (apply Ops_q; (case hon => exact Va); (case hd => rfl); (case hq => exact YlA)) | refine Vr ?_ | refine Vt ?_ | refine Vf ?_ | refine Vm ?_ | refine Ve ?_ | refine Vo ?_ | refine Vz ?_ | refine Vn ?_)
    refine V_loop (fun z : Nat × Nat => [(85, .int .i64 z.1), (84, .int .i64 M.length), (83, .slice ao4 M.length c4), (12, .int .i64 z.2), (0, .slice ao L.length c)])
      (fun z w' => Ext w4 w' ∧ z.1 ≤ M.length ∧ z.2 ≤ L.length ∧ ((M.drop z.1).map key3).Sublist ((L.drop z.2).map key3)) (fun z => M.length - z.1) (0, 0) (by repeat (first | exact trivial | refine ⟨rfl, ?_⟩)) ⟨Ext.refl _, Nat.zero_le _, Nat.zero_le _, hsub⟩ ?_
    clear hsub
    rintro ⟨i, j⟩ w5 ⟨x5, hi, hj, hsub⟩
    dsimp only at hi hj hsub ⊢
    repeat (first | refine Vx ?_ | (apply Ops_q; (case hon => exact Va); (case hd => rfl); (case hq => exact YlA)) | refine Vr ?_ | refine Vt ?_ | refine Vf ?_ | refine Vm ?_ | refine Ve ?_ | refine Vo ?_ | refine Vz ?_ | refine Vn ?_)
    refine V_cond rfl (fun hg => ?_) (fun hg => ?_)
    · have hil : i < M.length := by have := of_decide_eq_true hg; omega
      clear hg
      obtain ⟨y, hy⟩ : ∃ y, M[i]? = some y := ⟨_, List.getElem?_eq_getElem hil⟩
      obtain ⟨am, em, hcm⟩ := (hM.ext x5).at hy
      have hdr : M.drop i = y :: M.drop (i + 1) := by rw [List.drop_eq_getElem_cons hil, (List.getElem?_eq_some_iff.1 hy).2]
      rw [hdr, List.map_cons] at hsub
      rw [em]
      repeat (first | refine Vx ?_ | (apply Ops_q; (case hon => exact Va); (case hd => rfl); (case hq => exact YlA)) | refine Vr ?_ | refine Vt ?_ | refine Vf ?_ | refine Vm ?_ | refine Ve ?_ | refine Vo ?_ | refine Vz ?_ | refine Vn ?_)
      (apply Ops_q; (case hon => (exact Va)); (case hd => rfl); (case hq => exact Yl_indexS (j := i) rfl rfl (by omega)))
      repeat (first | refine Vx ?_ | (apply Ops_q; (case hon => exact Va); (case hd => rfl); (case hq => exact YlA)) | refine Vr ?_ | refine Vt ?_ | refine Vf ?_ | refine Vm ?_ | refine Ve ?_ | refine Vo ?_ | refine Vz ?_ | refine Vn ?_)
      (refine Ops_alloc (by exact Va) rfl ?_; intro w6 b14 n_b14; have k_b14 := n_b14.blk)
      repeat (first | refine Vx ?_ | (apply Ops_q; (case hon => exact Va); (case hd => rfl); (case hq => exact YlA)) | refine Vr ?_ | refine Vt ?_ | refine Vf ?_ | refine Vm ?_ | refine Ve ?_ | refine Vo ?_ | refine Vz ?_ | refine Vn ?_)
      (refine Ops_store (by exact Va) rfl rfl (by assumption) (by first | rfl | exact OneAll.h) ?_; intro w7 u_w7; have k_b14 := u_w7.blk)
      have y7 := u_w7.below n_b14.ext n_b14.ge
      have x7 := x5.trans y7
      clear u_w7 n_b14 hcm
      repeat (first | refine Vx ?_ | (apply Ops_q; (case hon => exact Va); (case hd => rfl); (case hq => exact YlA)) | refine Vr ?_ | refine Vt ?_ | refine Vf ?_ | refine Vm ?_ | refine Ve ?_ | refine Vo ?_ | refine Vz ?_ | refine Vn ?_)
      refine V_loop (fun j : Nat => [(12, .int .i64 j), (14, .pointer (some ⟨b14, 0, none⟩)), (85, .int .i64 i), (84, .int .i64 M.length), (83, .slice (some am) M.length c4), (0, .slice ao L.length c)])
        (fun j w' => Ext w7 w' ∧ (key3 y :: (M.drop (i + 1)).map key3).Sublist ((L.drop j).map key3)) (fun j => L.length - j) j (by repeat (first | exact trivial | refine ⟨rfl, ?_⟩)) ⟨Ext.refl _, hsub⟩ ?_
      clear hsub hj
      rintro j w8 ⟨x8, hsub⟩
      have hjl := sub_lt hsub
      have dj : decide ((j : Int) < (L.length : Int)) = true := decide_eq_true (by omega)
      obtain ⟨x, hx⟩ : ∃ x, L[j]? = some x := ⟨_, List.getElem?_eq_getElem hjl⟩
      obtain ⟨al, el, hcl⟩ := (hL.ext (x4.trans (x7.trans x8))).at hx
      have hdl : L.drop j = x :: L.drop (j + 1) := by rw [List.drop_eq_getElem_cons hjl, (List.getElem?_eq_some_iff.1 hx).2]
      rw [hdl, List.map_cons] at hsub
      have q1 : Cells w8 ((al.add (j * 7)).add 0) [.int .u32 x.p.a, .int .i64 x.p.n] := hcl.sub 0 2
      have q2 := hcl 2 _ rfl
      have q4 := hcl 4 _ rfl
      have k8 := k_b14.ext x8
      have q5 : Cells w8 ⟨b14, 0, none⟩ [.int .u32 y.p.a, .int .i64 y.p.n] := k8.part 0 2
      clear hcl
      rw [el]
      repeat (first | refine Vx ?_ | (apply Ops_q; (case hon => exact Va); (case hd => rfl); (case hq => exact YlA)) | refine Vr ?_ | refine Vt ?_ | refine Vf ?_ | refine Vm ?_ | refine Ve ?_ | refine Vo ?_ | refine Vz ?_ | refine Vn ?_)
      refine Ops_know rfl rfl dj ?_
      repeat (first | refine Vx ?_ | (apply Ops_q; (case hon => exact Va); (case hd => rfl); (case hq => exact YlA)) | refine Vr ?_ | refine Vt ?_ | refine Vf ?_ | refine Vm ?_ | refine Ve ?_ | refine Vo ?_ | refine Vz ?_ | refine Vn ?_)
      (apply Ops_q; (case hon => (exact Va)); (case hd => rfl); (case hq => exact Yl_indexS (j := j) rfl rfl (by omega)))
      repeat (first | refine Vx ?_ | (apply Ops_q; (case hon => exact Va); (case hd => rfl); (case hq => exact YlA)) | refine Vr ?_ | refine Vt ?_ | refine Vf ?_ | refine Vm ?_ | refine Ve ?_ | refine Vo ?_ | refine Vz ?_ | refine Vn ?_)
      rw [eqPf_d]
      by_cases s1 : x.p = y.p
      · have d1 : (!decide (x.p = y.p)) = false := by rw [decide_eq_true s1]; rfl
        refine Ops_know rfl rfl d1 ?_
        repeat (first | refine Vx ?_ | (apply Ops_q; (case hon => exact Va); (case hd => rfl); (case hq => exact YlA)) | refine Vr ?_ | refine Vt ?_ | refine Vf ?_ | refine Vm ?_ | refine Ve ?_ | refine Vo ?_ | refine Vz ?_ | refine Vn ?_)
        (apply Ops_q; (case hon => (exact Va)); (case hd => rfl); (case hq => exact Yl_indexS (j := j) rfl rfl (by omega)))
        repeat (first | refine Vx ?_ | (apply Ops_q; (case hon => exact Va); (case hd => rfl); (case hq => exact YlA)) | refine Vr ?_ | refine Vt ?_ | refine Vf ?_ | refine Vm ?_ | refine Ve ?_ | refine Vo ?_ | refine Vz ?_ | refine Vn ?_)
        by_cases s2 : x.proto = y.proto
        · have d2 : (!decide (x.proto = y.proto)) = false := by rw [decide_eq_true s2]; rfl
          refine Ops_know rfl rfl d2 ?_
          repeat (first | refine Vx ?_ | (apply Ops_q; (case hon => exact Va); (case hd => rfl); (case hq => exact YlA)) | refine Vr ?_ | refine Vt ?_ | refine Vf ?_ | refine Vm ?_ | refine Ve ?_ | refine Vo ?_ | refine Vz ?_ | refine Vn ?_)
          (apply Ops_q; (case hon => (exact Va)); (case hd => rfl); (case hq => exact Yl_indexS (j := j) rfl rfl (by omega)))
          repeat (first | refine Vx ?_ | (apply Ops_q; (case hon => exact Va); (case hd => rfl); (case hq => exact YlA)) | refine Vr ?_ | refine Vt ?_ | refine Vf ?_ | refine Vm ?_ | refine Ve ?_ | refine Vo ?_ | refine Vz ?_ | refine Vn ?_)
          by_cases s3 : x.metric = y.metric
          · have d3 : (!decide (x.metric = y.metric)) = false := by rw [decide_eq_true s3]; rfl
            refine V_no rfl d3 ?_
            have hsub2 := sub_hit hsub
            have de : decide ((j : Int) = (L.length : Int)) = false := decide_eq_false (by omega)
            repeat (first | refine Vx ?_ | (apply Ops_q; (case hon => exact Va); (case hd => rfl); (case hq => exact YlA)) | refine Vr ?_ | refine Vt ?_ | refine Vf ?_ | refine Vm ?_ | refine Ve ?_ | refine Vo ?_ | refine Vz ?_ | refine Vn ?_)
            refine V_no rfl de ?_
            repeat (first | refine Vx ?_ | (apply Ops_q; (case hon => exact Va); (case hd => rfl); (case hq => exact YlA)) | refine Vr ?_ | refine Vt ?_ | refine Vf ?_ | refine Vm ?_ | refine Ve ?_ | refine Vo ?_ | refine Vz ?_ | refine Vn ?_)
            exact ⟨(i + 1, j + 1), by rw [← em, ← el]; exact (by repeat (first | exact trivial | refine ⟨rfl, ?_⟩)), ⟨x7.trans x8, hil, hjl, hsub2⟩, by simp only; omega⟩
          · have d3 : (!decide (x.metric = y.metric)) = true := by rw [decide_eq_false s3]; rfl
            refine V_yes rfl d3 ?_
            repeat (first | refine Vx ?_ | (apply Ops_q; (case hon => exact Va); (case hd => rfl); (case hq => exact YlA)) | refine Vr ?_ | refine Vt ?_ | refine Vf ?_ | refine Vm ?_ | refine Ve ?_ | refine Vo ?_ | refine Vz ?_ | refine Vn ?_)
            exact ⟨j + 1, by rw [← el]; exact (by repeat (first | exact trivial | refine ⟨rfl, ?_⟩)), ⟨x8, sub_miss hsub (fun e => s3 (key3_iff.1 e).2.2.symm)⟩, by omega⟩
        · have d2 : (!decide (x.proto = y.proto)) = true := by rw [decide_eq_false s2]; rfl
          refine Ops_know rfl rfl d2 ?_
          repeat (first | refine Vx ?_ | (apply Ops_q; (case hon => exact Va); (case hd => rfl); (case hq => exact YlA)) | refine Vr ?_ | refine Vt ?_ | refine Vf ?_ | refine Vm ?_ | refine Ve ?_ | refine Vo ?_ | refine Vz ?_ | refine Vn ?_)
          exact ⟨j + 1, by rw [← el]; exact (by repeat (first | exact trivial | refine ⟨rfl, ?_⟩)), ⟨x8, sub_miss hsub (fun e => s2 (key3_iff.1 e).2.1.symm)⟩, by omega⟩
      · have d1 : (!decide (x.p = y.p)) = true := by rw [decide_eq_false s1]; rfl
        refine Ops_know rfl rfl d1 ?_
        repeat (first | refine Vx ?_ | (apply Ops_q; (case hon => exact Va); (case hd => rfl); (case hq => exact YlA)) | refine Vr ?_ | refine Vt ?_ | refine Vf ?_ | refine Vm ?_ | refine Ve ?_ | refine Vo ?_ | refine Vz ?_ | refine Vn ?_)
        exact ⟨j + 1, by rw [← el]; exact (by repeat (first | exact trivial | refine ⟨rfl, ?_⟩)), ⟨x8, sub_miss hsub (fun e => s1 (key3_iff.1 e).1.symm)⟩, by omega⟩
    · repeat (first | refine Vx ?_ | (apply Ops_q; (case hon => exact Va); (case hd => rfl); (case hq => exact YlA)) | refine Vr ?_ | refine Vt ?_ | refine Vf ?_ | refine Vm ?_ | refine Ve ?_ | refine Vo ?_ | refine Vz ?_ | refine Vn ?_)
      (apply Ops_q; (case hon => (exact Va)); (case hd => rfl); (case hq => exact Yl_call rfl (fun w_ e_ => awake49_v w_)))
      repeat (first | refine Vx ?_ | (apply Ops_q; (case hon => exact Va); (case hd => rfl); (case hq => exact YlA)) | refine Vr ?_ | refine Vt ?_ | refine Vf ?_ | refine Vm ?_ | refine Ve ?_ | refine Vo ?_ | refine Vz ?_ | refine Vn ?_)
      refine ret1 (by first | exact .inl rfl | exact .inr rfl) rfl rfl ?_
      exact Ret_mk rfl (x4.trans x5)
end Go.Proofs.Ytkdjbddjblahkaa

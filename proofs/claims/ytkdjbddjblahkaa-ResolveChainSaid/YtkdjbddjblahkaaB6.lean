/-
  Part 6 of the texts that the proofs of this seat share: rules of a walk, contracts of functions, plain facts. Each piece says below what it proves.
  No conditions beyond those that each lemma states.
-/
import Derived.Test.YtkdjbddjblahkaaB5
import Derived.Deep.Slices
import Derived.Deep.Fields
import Derived.ChangeSame
import Derived.OpenShut
import Derived.Lib.SmallJoins
import Derived.ProofKit
import Derived.SizedLaws

/-
  Routes (layer 49): All, of the program and of the reference.
  Conditions: addresses and routers are numbers of 32 bits; lists are not too long.
-/
namespace Go.Proofs.Ytkdjbddjblahkaa
open Go.RowKit

/-- A route that is resolved. -/
noncomputable def alR (V : List Rt) (r : Rt) : Option Rt := if (rou cbS V r).1 = 0 then some ⟨r.p, r.proto, r.dist, r.metric, r.tag, none, 0, (rou cbS V r).2⟩ else none
noncomputable def allV (V : List Rt) : List Rt := V.filterMap (alR V)
/-- The hops of routes are in memory, not in blocks of N and not in the block of v. -/
structure RM (w : World) (N : Nat → Prop) (v : Value) (M : List Rt) : Prop where
  mem : ∀ r ∈ M, RtM w r ∧ ∀ a, r.ao = some a → ¬N a.block ∧ v.ownBlock ≠ some a.block ∧ a.block < w.heap.size
section
variable {w w1 : World} {N N' : Nat → Prop} {v v' : Value} {M : List Rt}
theorem RM.nil : RM w N v [] := ⟨fun _ h => nomatch h⟩
theorem RM.mod {S : Nat → Prop} (h : RM w N v M) (hm : Mod S w w1) (hS : ∀ c, S c → N c ∨ v.ownBlock = some c) : RM w1 N v M := ⟨fun r hr => by
  obtain ⟨h1, h2⟩ := h.mem r hr
  exact ⟨⟨hm.arr h1.hops (fun a ha hs => (hS _ hs).elim (h2 a ha).1 (h2 a ha).2.1), h1.nil, h1.cap, h1.pa, h1.ok⟩, fun a ha => ⟨(h2 a ha).1, (h2 a ha).2.1, Nat.lt_of_lt_of_le (h2 a ha).2.2 hm.size⟩⟩⟩
theorem RM.ext (h : RM w N v M) (he : Ext w w1) : RM w1 N v M := h.mod (S := fun _ => False) (.of_ext he) (fun _ hc => hc.elim)
theorem RM.toN (h : RM w N v M) (hN : ∀ c, N' c → N c ∨ w.heap.size ≤ c) : RM w N' v M := ⟨fun r hr => by
  obtain ⟨h1, h2⟩ := h.mem r hr
  exact ⟨h1, fun a ha => ⟨fun h3 => (hN _ h3).elim (h2 a ha).1 (fun h4 => by have := (h2 a ha).2.2; omega), (h2 a ha).2⟩⟩⟩
theorem RM.app (h : RM w N v M) (hg : w.grownBy w1 v.ownBlock) (hd : v'.ownBlock = v.ownBlock ∨ ∃ b, v'.ownBlock = some b ∧ w.heap.size ≤ b) : RM w1 N v' M := ⟨fun r hr => by
  obtain ⟨h1, h2⟩ := (h.mod (S := fun c => v.ownBlock = some c) (Mod.grow (.of_ext (Ext.refl _)) hg (fun b hb => .inl hb)) (fun c hc => .inr hc)).mem r hr
  exact ⟨h1, fun a ha => ⟨(h2 a ha).1, dis_app hd (h2 a ha).2.1 ((h.mem r hr).2 a ha).2.2, (h2 a ha).2.2⟩⟩⟩
theorem RM.add {r : Rt} (h : RM w N v M) (hr : RtM w r) (ha : ∀ a, r.ao = some a → ¬N a.block ∧ v.ownBlock ≠ some a.block ∧ a.block < w.heap.size) : RM w N v (M ++ [r]) := ⟨fun s hs => by
  rcases List.mem_append.1 hs with hs | hs
  · exact h.mem s hs
  · simp at hs; subst hs; exact ⟨hr, ha⟩⟩
end
theorem sameL_nil : SameL [] [] := ⟨rfl, fun i r s h => by simp at h⟩
theorem sameL_app {A B : List Rt} {r s : Rt} (h : SameL A B) (hr : SameR r s) : SameL (A ++ [r]) (B ++ [s]) := by
  obtain ⟨h1, h2⟩ := h
  refine ⟨by rw [List.length_append, List.length_append, h1]; rfl, fun i x y hx hy => ?_⟩
  rcases Nat.lt_or_ge i A.length with hi | hi
  · rw [List.getElem?_append_left hi] at hx
    rw [List.getElem?_append_left (by omega)] at hy
    exact h2 i x y hx hy
  · rw [List.getElem?_append_right hi] at hx
    rw [List.getElem?_append_right (by omega)] at hy
    have hl := (List.getElem?_eq_some_iff.1 hx).1
    rw [List.length_singleton] at hl
    rw [show i - A.length = 0 by omega] at hx
    rw [show i - B.length = 0 by omega] at hy
    simp at hx hy
    subst hx; subst hy; exact hr
def AllR (L : List Rt) (v : Value) (w' : World) : Prop := ∃ ao c M, v = .slice ao M.length c ∧ Rts w' ao M ∧ SameL M (allV (actL L))
theorem rou_ok {w : World} {ao : Option Addr} {V : List Rt} {r : Rt} (hV : VL w ao V) (hr : r.good) : ∀ h ∈ (rou cbS V r).2, h.ok := fun h hh => (rouF_good cbOk hV.good 17 r hr h hh).1
theorem take_al {V : List Rt} {k : Nat} {r : Rt} (hr : V[k]? = some r) : (V.take (k + 1)).filterMap (alR V) = (V.take k).filterMap (alR V) ++ (alR V r).toList := by
  rw [List.take_add_one, hr, List.filterMap_append]
  cases h : alR V r <;> simp [h]
theorem take_len (V : List Rt) (k : Nat) : ((V.take k).filterMap (alR V)).length ≤ V.length := Nat.le_trans (List.length_filterMap_le _ _) (by rw [List.length_take]; omega)
set_option maxHeartbeats 4000000 in
theorem all49_v (ao : Option Addr) (L : List Rt) (c : Nat) (w : World) (hL : In w ao c L) :
    Calls Try.prog 21 #[.slice ao L.length c] w (Gives (AllR L) w) := by
  obtain ⟨ao', c', hR, hV⟩ := act_vl c hL.rts
  have hlen := hV.len
  refine V_enter (vs := [_]) Try.func21 rfl Try.ntmps21 (Nat.le_of_ble_eq_true rfl) ?_
  repeat (first | refine Vx ?_ | (apply Ops_q; (case hon => exact Va); (case hd => rfl); (case hq => exact YlA)) | refine Vr ?_ | refine Vt ?_ | refine Vf ?_ | refine Vm ?_ | refine Ve ?_ | refine Vo ?_ | refine Vz ?_ | refine Vn ?_)
  (apply Ops_q; (case hon => (exact Va)); (case hd => rfl); (case hq => exact Yl_call rfl (fun w_ e_ => listR_v ao L c _ w_ (hL.rts.ext e_) hL.len hL.cap hL.hops hR)))
  repeat (first | refine Vx ?_ | (apply Ops_q; (case hon => exact Va); (case hd => rfl); (case hq => exact YlA)) | refine Vr ?_ | refine Vt ?_ | refine Vf ?_ | refine Vm ?_ | refine Ve ?_ | refine Vo ?_ | refine Vz ?_ | refine Vn ?_)
  refine V_loop (fun z : Nat × Value × List Rt => [(11, .int .i64 z.1), (10, .int .i64 (actL L).length), (9, .slice ao' (actL L).length c'), (3, z.2.1), (0, .slice ao L.length c)])
    (fun z w' => Ext w w' ∧ z.1 ≤ (actL L).length ∧ Own w' w.heap.size 31 7 z.2.1 (z.2.2.map Rt.cells) ∧ RM w' (fun _ => False) z.2.1 z.2.2 ∧ SameL z.2.2 (((actL L).take z.1).filterMap (alR (actL L)))) (fun z => (actL L).length - z.1) (0, .slice none 0 0, [])
    (by repeat (first | exact trivial | refine ⟨rfl, ?_⟩)) ⟨Ext.refl _, Nat.zero_le _, Own.nil, RM.nil, sameL_nil⟩ ?_
  rintro ⟨k, v, M⟩ w2 ⟨x2, hk, o2, rm2, hs⟩
  dsimp only at hk o2 rm2 hs ⊢
  have hMl : M.length ≤ 2000 := by rw [hs.1]; exact Nat.le_trans (take_len _ _) hlen
  repeat (first | refine Vx ?_ | (apply Ops_q; (case hon => exact Va); (case hd => rfl); (case hq => exact YlA)) | refine Vr ?_ | refine Vt ?_ | refine Vf ?_ | refine Vm ?_ | refine Ve ?_ | refine Vo ?_ | refine Vz ?_ | refine Vn ?_)
  refine V_cond rfl (fun hgd => ?_) (fun hgd => ?_)
  · have hkl : k < (actL L).length := by have := of_decide_eq_true hgd; omega
    clear hgd
    obtain ⟨r, hr⟩ : ∃ z, (actL L)[k]? = some z := ⟨_, List.getElem?_eq_getElem hkl⟩
    have hm : r ∈ actL L := List.mem_of_getElem? hr
    have rm := hV.rts.mem r hm
    have hh := hV.hops r hm
    have hok : chkR [r] = 0 := (chkR_one r).trans ((chkR_zero (actL_actv L).1).2.1 r hm)
    have hvr : hopsV L r = rou cbS (actL L) r := if_neg (fun h => h hok)
    have hta := take_al hr
    have hro := rou_ok hV (hV.good r hm)
    obtain ⟨ad, rfl, hc⟩ := (hV.rts.ext x2).at hr
    repeat (first | refine Vx ?_ | (apply Ops_q; (case hon => exact Va); (case hd => rfl); (case hq => exact YlA)) | refine Vr ?_ | refine Vt ?_ | refine Vf ?_ | refine Vm ?_ | refine Ve ?_ | refine Vo ?_ | refine Vz ?_ | refine Vn ?_)
    (apply Ops_q; (case hon => (exact Va)); (case hd => rfl); (case hq => exact Yl_indexS (j := k) rfl rfl (by omega)))
    repeat (first | refine Vx ?_ | (apply Ops_q; (case hon => exact Va); (case hd => rfl); (case hq => exact YlA)) | refine Vr ?_ | refine Vt ?_ | refine Vf ?_ | refine Vm ?_ | refine Ve ?_ | refine Vo ?_ | refine Vz ?_ | refine Vn ?_)
    (refine Ops_alloc (by exact Va) rfl ?_; intro w3 b5 n_b5; have k_b5 := n_b5.blk)
    repeat (first | refine Vx ?_ | (apply Ops_q; (case hon => exact Va); (case hd => rfl); (case hq => exact YlA)) | refine Vr ?_ | refine Vt ?_ | refine Vf ?_ | refine Vm ?_ | refine Ve ?_ | refine Vo ?_ | refine Vz ?_ | refine Vn ?_)
    (refine Ops_store (by exact Va) rfl rfl (by assumption) (by first | rfl | exact OneAll.h) ?_; intro w4 u_w4; have k_b5 := u_w4.blk)
    have y4 := u_w4.below n_b5.ext n_b5.ge
    have g5 := n_b5.ge
    have x4 := x2.trans y4
    clear u_w4 n_b5 hc
    repeat (first | refine Vx ?_ | (apply Ops_q; (case hon => exact Va); (case hd => rfl); (case hq => exact YlA)) | refine Vr ?_ | refine Vt ?_ | refine Vf ?_ | refine Vm ?_ | refine Ve ?_ | refine Vo ?_ | refine Vz ?_ | refine Vn ?_)
    (refine Ops_callR (by exact Va) rfl rfl (fun w_ e_ => hopsR49_v ao L c r w_ (hL.ext (x4.trans e_)) (rm.ext (x4.trans e_)) (by omega)) ?_; intro u w5 w0_ e0_ e1_ r_u; have e_w5 := e0_.trans e1_; have b_u := e0_.size; clear e0_ e1_)
    rw [hvr] at r_u
    obtain ⟨ao5, c5, rfl, hN, hlc, hnc, hfr⟩ := r_u
    have y5 := y4.trans e_w5
    have l5 := k_b5.lt
    have k55 := k_b5.ext e_w5
    clear k_b5
    repeat (first | refine Vx ?_ | (apply Ops_q; (case hon => exact Va); (case hd => rfl); (case hq => exact YlA)) | refine Vr ?_ | refine Vt ?_ | refine Vf ?_ | refine Vm ?_ | refine Ve ?_ | refine Vo ?_ | refine Vz ?_ | refine Vn ?_)
    by_cases t : (rou cbS (actL L) r).1 = 0
    · have d : decide ((rou cbS (actL L) r).1 = 0) = true := decide_eq_true t
      refine V_yes rfl d ?_
      have hal : alR (actL L) r = some ⟨r.p, r.proto, r.dist, r.metric, r.tag, none, 0, (rou cbS (actL L) r).2⟩ := if_pos t
      repeat (first | refine Vx ?_ | (apply Ops_q; (case hon => exact Va); (case hd => rfl); (case hq => exact YlA)) | refine Vr ?_ | refine Vt ?_ | refine Vf ?_ | refine Vm ?_ | refine Ve ?_ | refine Vo ?_ | refine Vz ?_ | refine Vn ?_)
      refine Ops_store (by exact Va) rfl rfl k55 (by first | rfl | exact OneAll.h) ?_
      intro w6 u6
      have k6 := u6.blk
      have y6 := u6.below y5 g5
      have hN6 : Nhs w6 ao5 (rou cbS (actL L) r).2 := (Mod.upd (S := fun c => c = b5) (.of_ext (Ext.refl _)) u6 (.inl rfl)).arr hN (fun a ha e => by have h1 := (hfr a ha).1; omega)
      have z6 := u6.size
      clear u6 k55
      have hr6 : RtM w6 ⟨r.p, r.proto, r.dist, r.metric, r.tag, ao5, c5, (rou cbS (actL L) r).2⟩ := ⟨hN6, hnc, hlc, rm.pa, hro⟩
      have rm6 : RM w6 (fun _ => False) v (M ++ [⟨r.p, r.proto, r.dist, r.metric, r.tag, ao5, c5, (rou cbS (actL L) r).2⟩]) := (rm2.ext y6).add hr6 (fun a ha => ⟨fun h => h, fun e => by have h1 := o2.lt e; have h2 := (hfr a ha).1; have h3 := y4.size; omega, by rw [z6]; exact (hfr a ha).2⟩)
      have o6 := o2.ext y6
      repeat (first | refine Vx ?_ | (apply Ops_q; (case hon => exact Va); (case hd => rfl); (case hq => exact YlA)) | refine Vr ?_ | refine Vt ?_ | refine Vf ?_ | refine Vm ?_ | refine Ve ?_ | refine Vo ?_ | refine Vz ?_ | refine Vn ?_)
      (refine Ops_lit (by exact Va) rfl rfl rfl ?_; intro w7 bl n_bl; have k_bl := n_bl.blk)
      have o7 := o6.ext n_bl.ext
      have rm7 := rm6.ext n_bl.ext
      have x7 := (x2.trans y6).trans n_bl.ext
      have hcs : Cells w7 ⟨bl, 0, none⟩ (Rt.cells ⟨r.p, r.proto, r.dist, r.metric, r.tag, ao5, c5, (rou cbS (actL L) r).2⟩) := n_bl.blk.cells
      repeat (first | refine Vx ?_ | (apply Ops_q; (case hon => exact Va); (case hd => rfl); (case hq => exact YlA)) | refine Vr ?_ | refine Vt ?_ | refine Vf ?_ | refine Vm ?_ | refine Ve ?_ | refine Vo ?_ | refine Vz ?_ | refine Vn ?_)
      refine Ops_append1 (u := Rt.cells ⟨r.p, r.proto, r.dist, r.metric, r.tag, ao5, c5, (rou cbS (actL L) r).2⟩) (by exact Va) rfl rfl rfl rfl o7 hcs ⟨rfl⟩ ⟨rfl⟩ (by rw [List.length_map]; omega) rfl x7.size ?_
      intro v' w8 o8 g8 d8
      have x8 := grow_below x7 g8 (fun b hb => o7.ge hb)
      have rm8 := rm7.app g8 d8
      rw [show [Rt.cells ⟨r.p, r.proto, r.dist, r.metric, r.tag, ao5, c5, (rou cbS (actL L) r).2⟩] = [(⟨r.p, r.proto, r.dist, r.metric, r.tag, ao5, c5, (rou cbS (actL L) r).2⟩ : Rt)].map Rt.cells from rfl, ← List.map_append] at o8
      repeat (first | refine Vx ?_ | (apply Ops_q; (case hon => exact Va); (case hd => rfl); (case hq => exact YlA)) | refine Vr ?_ | refine Vt ?_ | refine Vf ?_ | refine Vm ?_ | refine Ve ?_ | refine Vo ?_ | refine Vz ?_ | refine Vn ?_)
      refine ⟨(k + 1, v', _), (by repeat (first | exact trivial | refine ⟨rfl, ?_⟩)), ⟨x8, hkl, o8, rm8, ?_⟩, by simp only; omega⟩
      dsimp only
      rw [hta, hal]
      exact sameL_app hs ⟨rfl, rfl, rfl, rfl, rfl, rfl⟩
    · have d : decide ((rou cbS (actL L) r).1 = 0) = false := decide_eq_false t
      refine V_no rfl d ?_
      have hal : alR (actL L) r = none := if_neg t
      repeat (first | refine Vx ?_ | (apply Ops_q; (case hon => exact Va); (case hd => rfl); (case hq => exact YlA)) | refine Vr ?_ | refine Vt ?_ | refine Vf ?_ | refine Vm ?_ | refine Ve ?_ | refine Vo ?_ | refine Vz ?_ | refine Vn ?_)
      refine ⟨(k + 1, v, M), (by repeat (first | exact trivial | refine ⟨rfl, ?_⟩)), ⟨x2.trans y5, hkl, o2.ext y5, rm2.ext y5, ?_⟩, by simp only; omega⟩
      dsimp only
      rw [hta, hal]
      simpa using hs
  · obtain rfl : k = (actL L).length := by have := of_decide_eq_false hgd; omega
    rw [List.take_length] at hs
    obtain ⟨ao2, c2, rfl, hA⟩ := o2.slice
    rw [List.length_map]
    repeat (first | refine Vx ?_ | (apply Ops_q; (case hon => exact Va); (case hd => rfl); (case hq => exact YlA)) | refine Vr ?_ | refine Vt ?_ | refine Vf ?_ | refine Vm ?_ | refine Ve ?_ | refine Vo ?_ | refine Vz ?_ | refine Vn ?_)
    refine ret1 (by first | exact .inl rfl | exact .inr rfl) rfl rfl ?_
    exact Gives_mk (fun w' he => ⟨ao2, c2, M, rfl, ⟨hA.ext he, fun r hr => (rm2.mem r hr).1.ext he⟩, hs⟩) x2
set_option maxHeartbeats 4000000 in
theorem allP_v (ao : Option Addr) (L : List Rt) (c : Nat) (w : World) (hL : Rts w ao L) (hn : L.length ≤ 1000000000) :
    Calls Try.prog 20 #[.slice ao L.length c] w (Gives (AllR L) w) := by
  refine V_enter (vs := [_]) Try.func20 rfl Try.ntmps20 (Nat.le_of_ble_eq_true rfl) ?_
  repeat (first | refine Vx ?_ | (apply Ops_q; (case hon => exact Va); (case hd => rfl); (case hq => exact YlA)) | refine Vr ?_ | refine Vt ?_ | refine Vf ?_ | refine Vm ?_ | refine Ve ?_ | refine Vo ?_ | refine Vz ?_ | refine Vn ?_)
  (refine Ops_callR (by exact Va) rfl rfl (fun w_ e_ => newSolver_v ao L c w_ (hL.ext e_) hn) ?_; intro v w1 w0_ e0_ e1_ r_v; have e_w1 := e0_.trans e1_; have b_v := e0_.size; clear e0_ e1_)
  obtain ⟨s, w0, q1, hs0, rfl⟩ := r_v
  have hgm := fun k hk => (hs0.gm k hk).1
  have hSlt : ∀ k, SvB s k → k < w1.heap.size := fun k hk => hs0.lt (.inr hk)
  unfold AllR
  generalize actL L = V at *
  have hlen := hs0.r.s0.len
  have kb := hs0.r.blk
  unfold Sv.cells at kb
  have hs1 : SvM V cbS s (fun c => (Value.slice none 0 0).ownBlock = some c) w0 w1 := hs0.toX (fun k hk => by cases hk)
  repeat (first | refine Vx ?_ | (apply Ops_q; (case hon => exact Va); (case hd => rfl); (case hq => exact YlA)) | refine Vr ?_ | refine Vt ?_ | refine Vf ?_ | refine Vm ?_ | refine Ve ?_ | refine Vo ?_ | refine Vz ?_ | refine Vn ?_)
  clear kb
  refine V_loop (fun z : Nat × Value × List Rt => [(16, .int .i64 z.1), (15, .int .i64 V.length), (14, .slice s.ao V.length s.c), (4, z.2.1), (3, .pointer (some ⟨s.b, 0, none⟩))])
    (fun z w' => Mod (SvB s) w1 w' ∧ z.1 ≤ V.length ∧ SvM V cbS s (fun c => z.2.1.ownBlock = some c) w0 w' ∧ Own w' w1.heap.size 31 7 z.2.1 (z.2.2.map Rt.cells) ∧ RM w' (SvB s) z.2.1 z.2.2 ∧ SameL z.2.2 ((V.take z.1).filterMap (alR V))) (fun z => V.length - z.1) (0, .slice none 0 0, [])
    (by repeat (first | exact trivial | refine ⟨rfl, ?_⟩)) ⟨.of_ext (Ext.refl _), Nat.zero_le _, hs1, Own.nil, RM.nil, sameL_nil⟩ ?_
  clear hs1
  rintro ⟨k, v, M⟩ w2 ⟨m2, hk, h2, o2, rm2, hs⟩
  dsimp only at hk h2 o2 rm2 hs ⊢
  have hMl : M.length ≤ 2000 := by rw [hs.1]; exact Nat.le_trans (take_len _ _) hlen
  repeat (first | refine Vx ?_ | (apply Ops_q; (case hon => exact Va); (case hd => rfl); (case hq => exact YlA)) | refine Vr ?_ | refine Vt ?_ | refine Vf ?_ | refine Vm ?_ | refine Ve ?_ | refine Vo ?_ | refine Vz ?_ | refine Vn ?_)
  refine V_cond rfl (fun hgd => ?_) (fun hgd => ?_)
  · have hkl : k < V.length := by have := of_decide_eq_true hgd; omega
    clear hgd
    obtain ⟨r, hr⟩ : ∃ z, V[k]? = some z := ⟨_, List.getElem?_eq_getElem hkl⟩
    have hm : r ∈ V := List.mem_of_getElem? hr
    have rm0 := hs0.r.s0.rts.mem r hm
    have hta := take_al hr
    have hgood := hs0.r.s0.good
    have hro : ∀ h ∈ (rou cbS V r).2, h.ok := fun h hh => (rouF_good cbOk hgood 17 r (hgood r hm) h hh).1
    obtain ⟨ad, ea, hc⟩ := h2.r.rts.at hr
    rw [ea]
    repeat (first | refine Vx ?_ | (apply Ops_q; (case hon => exact Va); (case hd => rfl); (case hq => exact YlA)) | refine Vr ?_ | refine Vt ?_ | refine Vf ?_ | refine Vm ?_ | refine Ve ?_ | refine Vo ?_ | refine Vz ?_ | refine Vn ?_)
    (apply Ops_q; (case hon => (exact Va)); (case hd => rfl); (case hq => exact Yl_indexS (j := k) rfl rfl (by omega)))
    repeat (first | refine Vx ?_ | (apply Ops_q; (case hon => exact Va); (case hd => rfl); (case hq => exact YlA)) | refine Vr ?_ | refine Vt ?_ | refine Vf ?_ | refine Vm ?_ | refine Ve ?_ | refine Vo ?_ | refine Vz ?_ | refine Vn ?_)
    (refine Ops_alloc (by exact Va) rfl ?_; intro w3 b6 n_b6; have k_b6 := n_b6.blk)
    repeat (first | refine Vx ?_ | (apply Ops_q; (case hon => exact Va); (case hd => rfl); (case hq => exact YlA)) | refine Vr ?_ | refine Vt ?_ | refine Vf ?_ | refine Vm ?_ | refine Ve ?_ | refine Vo ?_ | refine Vz ?_ | refine Vn ?_)
    (refine Ops_store (by exact Va) rfl rfl (by assumption) (by first | rfl | exact OneAll.h) ?_; intro w4 u_w4; have k_b6 := u_w4.blk)
    have y4 := u_w4.below n_b6.ext n_b6.ge
    have g6 := n_b6.ge
    have l6 := k_b6.lt
    have z2 := m2.size
    have h4 : SvM V cbS s (fun c => v.ownBlock = some c ∨ c = b6) w0 w4 := (h2.toX (X' := fun c => v.ownBlock = some c ∨ c = b6) (fun c hc => hc.imp id (fun (e : c = b6) => by rw [e]; exact g6))).ext y4
    have o4 := o2.ext y4
    have rm4 : RM w4 (fun c => SvB s c ∨ c = b6) v M := (rm2.toN (N' := fun c => SvB s c ∨ c = b6) (fun c hc => hc.imp id (fun (e : c = b6) => by rw [e]; exact g6))).ext y4
    have m4 := m2.ext y4
    have hX4 : ∀ c, (v.ownBlock = some c ∨ c = b6) → c < w4.heap.size := fun c hc => hc.elim (fun e => o4.lt e) (fun e => e ▸ l6)
    have nev : v.ownBlock ≠ some b6 := fun e => by have := o2.lt e; omega
    clear u_w4 n_b6 hc
    repeat (first | refine Vx ?_ | (apply Ops_q; (case hon => exact Va); (case hd => rfl); (case hq => exact YlA)) | refine Vr ?_ | refine Vt ?_ | refine Vf ?_ | refine Vm ?_ | refine Ve ?_ | refine Vo ?_ | refine Vz ?_ | refine Vn ?_)
    refine Ops_callM (S := SvB s) (R := fun w_ => OutR V cbS s (fun c => v.ownBlock = some c ∨ c = b6) w0 (rou cbS V r) w_) (by exact Va) rfl rfl (fun w_ e_ => routeT_v r w_ (h4.ext e_) (fun k hk => Nat.lt_of_lt_of_le (hX4 k hk) e_.size) rm0 (hs0.r.s0.hops r hm).1 (hgood r hm).2) ?_
    rintro u w6 w5 e5 m6 ⟨h6, ao6, c6, rfl, hN, hlc, hnc, hfr⟩
    have k66 := m6.blk (k_b6.ext e5) ((h4.ext e5).ne_b (k_b6.ext e5))
    have o6 := m6.own (o4.ext e5) (fun b hb hc => ((h4.ext e5).nX b (.inl hb)).2.2 hc)
    have rm6 := (rm4.ext e5).mod m6 (fun c hc => .inl (.inl hc))
    have m26 := (m4.ext e5).trans m6
    have z5 := e5.size
    have z4 := y4.size
    clear k_b6 h4 rm4
    repeat (first | refine Vx ?_ | (apply Ops_q; (case hon => exact Va); (case hd => rfl); (case hq => exact YlA)) | refine Vr ?_ | refine Vt ?_ | refine Vf ?_ | refine Vm ?_ | refine Ve ?_ | refine Vo ?_ | refine Vz ?_ | refine Vn ?_)
    by_cases t : (rou cbS V r).1 = 0
    · have d : decide ((rou cbS V r).1 = 0) = true := decide_eq_true t
      refine V_yes rfl d ?_
      have hal : alR V r = some ⟨r.p, r.proto, r.dist, r.metric, r.tag, none, 0, (rou cbS V r).2⟩ := if_pos t
      repeat (first | refine Vx ?_ | (apply Ops_q; (case hon => exact Va); (case hd => rfl); (case hq => exact YlA)) | refine Vr ?_ | refine Vt ?_ | refine Vf ?_ | refine Vm ?_ | refine Ve ?_ | refine Vo ?_ | refine Vz ?_ | refine Vn ?_)
      refine Ops_store (by exact Va) rfl rfl k66 (by first | rfl | exact OneAll.h) ?_
      intro w7 u7
      have k67 := u7.blk
      have mu : Mod (fun c => c = b6) w6 w7 := Mod.upd (.of_ext (Ext.refl _)) u7 (.inl rfl)
      have h7 := h6.mod mu (fun c hc => .inr hc)
      have hN7 : Nhs w7 ao6 (rou cbS V r).2 := mu.arr hN (fun a ha e => by have h1 := (hfr a ha).1; omega)
      have o7 := o6.upd u7 nev
      have rm7 := rm6.mod mu (fun c hc => .inl (.inr hc))
      have m27 := m26.upd u7 (.inr (by omega))
      have z7 := u7.size
      clear u7 k66 h6 rm6
      have hr7 : RtM w7 ⟨r.p, r.proto, r.dist, r.metric, r.tag, ao6, c6, (rou cbS V r).2⟩ := ⟨hN7, hnc, hlc, rm0.pa, hro⟩
      have rm7' : RM w7 (fun c => SvB s c ∨ c = b6) v (M ++ [⟨r.p, r.proto, r.dist, r.metric, r.tag, ao6, c6, (rou cbS V r).2⟩]) := rm7.add hr7 (fun a ha => ⟨fun h => by
        have h1 := (hfr a ha).1
        rcases h with h | h
        · have h3 := hSlt _ h; omega
        · omega, fun e => by have h1 := o4.lt e; have h2 := (hfr a ha).1; omega, by rw [z7]; exact (hfr a ha).2⟩)
      repeat (first | refine Vx ?_ | (apply Ops_q; (case hon => exact Va); (case hd => rfl); (case hq => exact YlA)) | refine Vr ?_ | refine Vt ?_ | refine Vf ?_ | refine Vm ?_ | refine Ve ?_ | refine Vo ?_ | refine Vz ?_ | refine Vn ?_)
      (refine Ops_lit (by exact Va) rfl rfl rfl ?_; intro w8 bl n_bl; have k_bl := n_bl.blk)
      have o8 := o7.ext n_bl.ext
      have rm8 := rm7'.ext n_bl.ext
      have h8 := h7.ext n_bl.ext
      have m28 := m27.ext n_bl.ext
      have hcs : Cells w8 ⟨bl, 0, none⟩ (Rt.cells ⟨r.p, r.proto, r.dist, r.metric, r.tag, ao6, c6, (rou cbS V r).2⟩) := n_bl.blk.cells
      repeat (first | refine Vx ?_ | (apply Ops_q; (case hon => exact Va); (case hd => rfl); (case hq => exact YlA)) | refine Vr ?_ | refine Vt ?_ | refine Vf ?_ | refine Vm ?_ | refine Ve ?_ | refine Vo ?_ | refine Vz ?_ | refine Vn ?_)
      refine Ops_append1 (u := Rt.cells ⟨r.p, r.proto, r.dist, r.metric, r.tag, ao6, c6, (rou cbS V r).2⟩) (by exact Va) rfl rfl rfl rfl o8 hcs ⟨rfl⟩ ⟨rfl⟩ (by rw [List.length_map]; omega) rfl m28.size ?_
      intro v' w9 o9 g9 d9
      have h9 : SvM V cbS s (fun c => v'.ownBlock = some c) w0 w9 := ((h8.toX (X' := fun c => (v.ownBlock = some c ∨ c = b6) ∨ v'.ownBlock = some c) (fun c hc => by
        rcases hc with hc | hc
        · exact .inl hc
        · rcases d9 with d9 | ⟨b, d9, d10⟩
          · exact .inl (.inl (d9 ▸ hc))
          · rw [d9] at hc; cases hc; exact .inr d10)).mod (Mod.grow (S := fun c => v.ownBlock = some c) (.of_ext (Ext.refl _)) g9 (fun b hb => .inl hb)) (fun c hc => .inl (.inl hc))).toX (fun c hc => .inl (.inr hc))
      have rm9 := (rm8.app g9 d9).toN (N' := SvB s) (fun c hc => .inl (.inl hc))
      have m29 := m28.grow g9 (fun b hb => .inr (o8.ge hb))
      rw [show [Rt.cells ⟨r.p, r.proto, r.dist, r.metric, r.tag, ao6, c6, (rou cbS V r).2⟩] = [(⟨r.p, r.proto, r.dist, r.metric, r.tag, ao6, c6, (rou cbS V r).2⟩ : Rt)].map Rt.cells from rfl, ← List.map_append] at o9
      repeat (first | refine Vx ?_ | (apply Ops_q; (case hon => exact Va); (case hd => rfl); (case hq => exact YlA)) | refine Vr ?_ | refine Vt ?_ | refine Vf ?_ | refine Vm ?_ | refine Ve ?_ | refine Vo ?_ | refine Vz ?_ | refine Vn ?_)
      refine ⟨(k + 1, v', _), by rw [← ea]; exact (by repeat (first | exact trivial | refine ⟨rfl, ?_⟩)), ⟨m29, hkl, h9, o9, rm9, ?_⟩, by simp only; omega⟩
      dsimp only
      rw [hta, hal]
      exact sameL_app hs ⟨rfl, rfl, rfl, rfl, rfl, rfl⟩
    · have d : decide ((rou cbS V r).1 = 0) = false := decide_eq_false t
      refine V_no rfl d ?_
      have hal : alR V r = none := if_neg t
      repeat (first | refine Vx ?_ | (apply Ops_q; (case hon => exact Va); (case hd => rfl); (case hq => exact YlA)) | refine Vr ?_ | refine Vt ?_ | refine Vf ?_ | refine Vm ?_ | refine Ve ?_ | refine Vo ?_ | refine Vz ?_ | refine Vn ?_)
      refine ⟨(k + 1, v, M), by rw [← ea]; exact (by repeat (first | exact trivial | refine ⟨rfl, ?_⟩)), ⟨m26, hkl, h6.toX (fun c hc => .inl (.inl hc)), o6, rm6.toN (fun c hc => .inl (.inl hc)), ?_⟩, by simp only; omega⟩
      dsimp only
      rw [hta, hal]
      simpa using hs
  · obtain rfl : k = V.length := by have := of_decide_eq_false hgd; omega
    rw [List.take_length] at hs
    obtain ⟨ao2, c2, rfl, hA⟩ := o2.slice
    rw [List.length_map]
    repeat (first | refine Vx ?_ | (apply Ops_q; (case hon => exact Va); (case hd => rfl); (case hq => exact YlA)) | refine Vr ?_ | refine Vt ?_ | refine Vf ?_ | refine Vm ?_ | refine Ve ?_ | refine Vo ?_ | refine Vz ?_ | refine Vn ?_)
    refine ret1 (by first | exact .inl rfl | exact .inr rfl) rfl rfl ?_
    refine Gives_mk (fun w' he => ⟨ao2, c2, M, rfl, ⟨hA.ext he, fun r hr => (rm2.mem r hr).1.ext he⟩, hs⟩) ?_
    exact m2.ext_of e_w1 (fun k hk => Nat.le_trans (Nat.le_trans b_v q1.size) (hgm k hk))
end Go.Proofs.Ytkdjbddjblahkaa

/-
  Routes (layer 49), plain: routes whose hops are known; chains; the chapter's example.
-/
namespace Go.Proofs.Ytkdjbddjblahkaa
open Go.RowKit

def viaH (p : Pf) (h : Nh) : Nh := ⟨h.addr, h.iface, h.router, h.weight, p⟩
theorem ins_end : ∀ {M : List Nh} {y : Nh}, (∀ x ∈ M, cmpH x y < 0) → ins y M = M ++ [y]
  | [], _, _ => rfl
  | z :: M, y, h => by rw [ins_gt (h z List.mem_cons_self), ins_end (fun x hx => h x (List.mem_cons_of_mem _ hx))]; rfl
theorem insA_self : ∀ {L M : List Nh}, Up (M ++ L) → insA M L = M ++ L
  | [], M, _ => by rw [List.append_nil]; rfl
  | y :: L, M, h => by
    have e : insA M (y :: L) = insA (ins y M) L := rfl
    have h2 : ∀ x ∈ M, cmpH x y < 0 := fun x hx => (List.pairwise_append.1 h).2.2 x hx y List.mem_cons_self
    rw [e, ins_end h2, insA_self (by rw [List.append_assoc]; exact h), List.append_assoc]; rfl
theorem cbS_self {L : List Nh} (h : Up L) (hn : L.length ≤ 64) : cbS L = L := by
  unfold cbS
  rw [insA_self (M := []) h, List.nil_append, List.take_of_length_le hn]
theorem flat_known {V : List Rt} {r : Rt} : ∀ {H : List Nh}, (∀ h ∈ H, 0 ≤ h.iface) → H.flatMap (fun h => (hopR cbS V r h).2) = H.map (viaH r.p)
  | [], _ => rfl
  | h :: H, hk => by
    rw [List.flatMap_cons, flat_known (fun x hx => hk x (List.mem_cons_of_mem _ hx)), show hopR cbS V r h = (0, [viaH r.p h]) from if_pos (hk h List.mem_cons_self)]
    rfl
theorem rou_known {V : List Rt} {r : Rt} (hk : ∀ h ∈ r.hops, 0 ≤ h.iface) : rou cbS V r = (0, cbS (r.hops.map (viaH r.p))) := by
  rw [rou_eq, routeS, flat_known hk]
  split
  · rename_i e
    have : r.hops = [] := List.map_eq_nil_iff.1 e
    rw [this]; rfl
  · rfl
/-- A route with one hop, which leads to a route that is resolved. -/
theorem rou_next {V : List Rt} {r s : Rt} {h : Nh} {j : Nat} {L : List Nh} (hr : r.hops = [h]) (hi : h.iface < 0) (hn : nxI V h = some j) (hl : loopsB V j r = false) (hd : dep V j < 16) (hs : V[j]? = some s) (hL : rou cbS V s = (0, L)) (hne : L ≠ []) : rou cbS V r = (0, cbS (L.map (orH h))) := by
  have e : hopR cbS V r h = (0, L.map (orH h)) := by
    unfold hopR hopS
    rw [if_neg (by omega), hn]
    dsimp only
    rw [if_neg (by rw [hl]; decide), if_neg (by omega), hs]
    dsimp only
    rw [hL, if_neg (fun h => h rfl), if_neg hne]
  rw [rou_eq, routeS, hr]
  simp only [List.flatMap_cons, List.flatMap_nil, List.append_nil, e]
  rw [if_neg (fun h => hne (List.map_eq_nil_iff.1 h))]
theorem rou_err {V : List Rt} {r : Rt} {h : Nh} {e : Int} (hr : r.hops = [h]) (he : hopR cbS V r h = (e, [])) : rou cbS V r = (e, []) := by
  rw [rou_eq, routeS, hr]
  simp only [List.flatMap_cons, List.flatMap_nil, List.append_nil, he]
  rw [if_pos trivial]
  unfold fstE
  dsimp only
  rw [he]
theorem hopR_deep {V : List Rt} {r : Rt} {h : Nh} {j : Nat} (hi : h.iface < 0) (hn : nxI V h = some j) (hl : loopsB V j r = false) (hd : 16 ≤ dep V j) : hopR cbS V r h = (24, []) := by
  unfold hopR hopS
  rw [if_neg (by omega), hn]
  dsimp only
  rw [if_neg (by rw [hl]; decide), if_pos hd]
theorem hopR_loop {V : List Rt} {r : Rt} {h : Nh} {j : Nat} (hi : h.iface < 0) (hn : nxI V h = some j) (hl : loopsB V j r = true) : hopR cbS V r h = (10, []) := by
  unfold hopR hopS
  rw [if_neg (by omega), hn]
  dsimp only
  rw [if_pos hl]
/-- The only route that has an address. -/
theorem lg_only {f : Rt → Bool} {a : Nat} {V : List Rt} {i : Nat} {r : Rt} (hr : V[i]? = some r) (ha : r.p.has a = true) (hf : f r = true) (ho : ∀ (j : Nat) s, V[j]? = some s → s.p.has a = true → j = i) : lg f a V = some i := by
  have key : ∀ k, k ≤ V.length → lgI f a V k = if i < k then some i else none := by
    intro k
    induction k with
    | zero => intro _; rfl
    | succ k ih =>
      intro hk
      obtain ⟨s, hs⟩ : ∃ s, V[k]? = some s := ⟨_, List.getElem?_eq_getElem (by omega)⟩
      rw [lgI, hs]
      dsimp only
      rw [ih (by omega)]
      by_cases hki : k = i
      · subst hki
        rw [hr] at hs; cases hs
        rw [if_neg (Nat.lt_irrefl _), if_pos (Nat.lt_succ_self _), if_pos (by unfold lgB; rw [ha, hf]; rfl)]
      · have hns : s.p.has a = false := Bool.eq_false_iff.2 fun h => hki (ho k s hs h)
        rw [if_neg (by unfold lgB; rw [hns]; exact Bool.false_ne_true)]
        by_cases h : i < k
        · rw [if_pos h, if_pos (by omega)]
        · rw [if_neg h, if_neg (by omega)]
  have hi := (List.getElem?_eq_some_iff.1 hr).1
  unfold lg
  rw [key _ (Nat.le_refl _), if_pos hi]
/-! ### The chapter's example -/
def aw0 (a : Option Addr) : Rt := ⟨⟨167772160, 24⟩, 1, 0, 0, 0, a, 1, [⟨0, 1, 0, 1, ⟨0, 0⟩⟩]⟩
def aw1 (a : Option Addr) : Rt := ⟨⟨335544320, 8⟩, 2, 1, 0, 0, a, 1, [⟨167772169, -1, 0, 1, ⟨0, 0⟩⟩]⟩
def aw2 (a : Option Addr) : Rt := ⟨⟨503316480, 8⟩, 2, 1, 0, 0, a, 1, [⟨503316481, -1, 0, 1, ⟨0, 0⟩⟩]⟩
def awL (a b c : Option Addr) : List Rt := [aw0 a, aw1 b, aw2 c]
section
variable (a b c : Option Addr)
theorem aw_act : actL (awL a b c) = awL a b c := if_pos (by kernel_rfl)
theorem aw_n1 : nxI (awL a b c) ⟨167772169, -1, 0, 1, ⟨0, 0⟩⟩ = some 0 := by kernel_rfl
theorem aw_n2 : nxI (awL a b c) ⟨503316481, -1, 0, 1, ⟨0, 0⟩⟩ = some 2 := by kernel_rfl
theorem aw_k0 : kids (awL a b c) 0 = [] := by rfl
theorem aw_rch (j : Nat) : ¬Rch (awL a b c) 0 j := fun h => by
  cases h with
  | one h => rw [aw_k0] at h; cases h
  | step h _ => rw [aw_k0] at h; cases h
theorem aw_l1 : loopsB (awL a b c) 0 (aw1 b) = false := loopsB_no fun ⟨j, h1, s, h2, h3⟩ => by
  rcases h1 with h1 | h1
  · subst h1
    cases h2
    exact absurd h3 (by rw [show samR (aw0 a) (aw1 b) = false from rfl]; decide)
  · exact aw_rch a b c j h1
theorem aw_l2 : loopsB (awL a b c) 2 (aw2 c) = true := loopsB_yes ⟨2, .inl rfl, aw2 c, rfl, samR_self _⟩
theorem aw_d0 : dep (awL a b c) 0 = 0 := by rw [dep_eq (r := aw0 a) rfl]; rfl
theorem aw_r0 : rou cbS (awL a b c) (aw0 a) = (0, [⟨0, 1, 0, 1, ⟨167772160, 24⟩⟩]) := rou_known (r := aw0 a) (fun h hh => by
  have : h = ⟨0, 1, 0, 1, ⟨0, 0⟩⟩ := List.mem_singleton.1 hh
  subst this; decide)
theorem aw_r1 : rou cbS (awL a b c) (aw1 b) = (0, [⟨167772169, 1, 0, 1, ⟨167772160, 24⟩⟩]) := rou_next (r := aw1 b) rfl (by decide) (aw_n1 a b c) (aw_l1 a b c) (by rw [aw_d0]; decide) rfl (aw_r0 a b c) (by simp)
theorem aw_r2 : rou cbS (awL a b c) (aw2 c) = (10, []) := rou_err (r := aw2 c) rfl (hopR_loop (by decide) (aw_n2 a b c) (aw_l2 a b c))
theorem aw_h1 : hopsV (awL a b c) (aw1 b) = (0, [⟨167772169, 1, 0, 1, ⟨167772160, 24⟩⟩]) := by
  unfold hopsV
  rw [if_neg (fun h => h (by kernel_rfl)), aw_act, aw_r1]
theorem aw_h2 : hopsV (awL a b c) (aw2 c) = (10, []) := by
  unfold hopsV
  rw [if_neg (fun h => h (by kernel_rfl)), aw_act, aw_r2]
theorem aw_find : lg (fun _ => true) 335544327 (actL (awL a b c)) = some 1 := by rw [aw_act]; kernel_rfl
theorem aw_cost : costV (awL a b c) 167772163 = (0, true) := by
  unfold costV
  rw [aw_act, show lg (fun r => !isV r) 167772163 (awL a b c) = some 0 from by kernel_rfl]
  rw [Option.bind_some, show (awL a b c)[0]? = some (aw0 a) from rfl]
  dsimp only
  rw [aw_r0, if_neg (by simp [aw0]), if_neg (fun h => h rfl)]
  rfl
theorem aw_all : (allV (actL (awL a b c))).length = 2 := by
  rw [aw_act]
  unfold allV
  have h0 : alR (awL a b c) (aw0 a) = some _ := if_pos (by rw [aw_r0])
  have h1 : alR (awL a b c) (aw1 b) = some _ := if_pos (by rw [aw_r1])
  have h2 : alR (awL a b c) (aw2 c) = none := if_neg (by rw [aw_r2]; decide)
  rw [show (awL a b c).filterMap (alR (awL a b c)) = [aw0 a, aw1 b, aw2 c].filterMap (alR (awL a b c)) from rfl]
  simp only [List.filterMap_cons, h0, h1, h2, List.filterMap_nil]
  rfl
end
end Go.Proofs.Ytkdjbddjblahkaa

/-
  Routes (layer 49): the chapter's example: the walk.
  No conditions.
-/
namespace Go.Proofs.Ytkdjbddjblahkaa
open Go.RowKit

theorem eight_v (n : Nat) (w : World) (hn : n ≤ 100) : Calls Try.prog 27 #[.int .i64 n] w (Ret (⟨n * 16777216, 8⟩ : Pf).val w) := by
  refine V_enter (vs := [_]) Try.func27 rfl Try.ntmps27 (Nat.le_of_ble_eq_true rfl) ?_
  repeat (first | refine Vx ?_ | (apply Ops_q; (case hon => exact Va); (case hd => rfl); (case hq => exact YlA)) | refine Vr ?_ | refine Vt ?_ | refine Vf ?_ | refine Vm ?_ | refine Ve ?_ | refine Vo ?_ | refine Vz ?_ | refine Vn ?_)
  (refine Ops_alloc (by exact Va) rfl ?_; intro w1 b2 n_b2; have k_b2 := n_b2.blk)
  have x1 := n_b2.ext
  repeat (first | refine Vx ?_ | (apply Ops_q; (case hon => exact Va); (case hd => rfl); (case hq => exact YlA)) | refine Vr ?_ | refine Vt ?_ | refine Vf ?_ | refine Vm ?_ | refine Ve ?_ | refine Vo ?_ | refine Vz ?_ | refine Vn ?_)
  have e : IntKind.u32.wrap ((n : Int) * 2 ^ Int.toNat 24) = ((n * 16777216 : Nat) : Int) := by
    have h1 : (n : Int) * 2 ^ Int.toNat 24 = ((n * 16777216 : Nat) : Int) := by
      rw [show (2 : Int) ^ Int.toNat 24 = 16777216 from rfl]; omega
    rw [h1]
    exact wrap_in (by simp only [InK]; omega)
  rw [e]
  (refine Ops_store (by exact Va) rfl rfl (by assumption) (by first | rfl | exact OneAll.h) ?_; intro w2 u_w2; have k_b2 := u_w2.blk)
  have x2 := u_w2.below x1 n_b2.ge
  repeat (first | refine Vx ?_ | (apply Ops_q; (case hon => exact Va); (case hd => rfl); (case hq => exact YlA)) | refine Vr ?_ | refine Vt ?_ | refine Vf ?_ | refine Vm ?_ | refine Ve ?_ | refine Vo ?_ | refine Vz ?_ | refine Vn ?_)
  refine retR1 (by first | exact .inl rfl | exact .inr rfl) rfl (res_agg rfl k_b2.cells) ?_
  exact Ret_mk rfl x2
theorem aw_in {w : World} {b h0 h1 h2 : Nat} (hB : Blk w b 31 ((aw0 (some ⟨h0, 0, none⟩)).cells ++ (aw1 (some ⟨h1, 0, none⟩)).cells ++ (aw2 (some ⟨h2, 0, none⟩)).cells))
    (r0 : RtM w (aw0 (some ⟨h0, 0, none⟩))) (r1 : RtM w (aw1 (some ⟨h1, 0, none⟩))) (r2 : RtM w (aw2 (some ⟨h2, 0, none⟩))) : In w (some ⟨b, 0, none⟩) 3 (awL (some ⟨h0, 0, none⟩) (some ⟨h1, 0, none⟩) (some ⟨h2, 0, none⟩)) := by
  refine ⟨⟨fun k x hk => ⟨_, rfl, ?_⟩, fun r hr => ?_⟩, (show (3 : Nat) ≤ 1000000000 by decide), (show (3 : Nat) ≤ 3 by decide), fun r hr => ?_⟩
  · refine cells_flat (L := (awL (some ⟨h0, 0, none⟩) (some ⟨h1, 0, none⟩) (some ⟨h2, 0, none⟩)).map Rt.cells) ?_ (fun x hx => ?_) k x hk
    · exact hB.cells
    · obtain ⟨r, _, rfl⟩ := List.mem_map.1 hx
      rfl
  · unfold awL at hr
    simp only [List.mem_cons, List.not_mem_nil, or_false] at hr
    rcases hr with rfl | rfl | rfl <;> assumption
  · unfold awL at hr
    simp only [List.mem_cons, List.not_mem_nil, or_false] at hr
    rcases hr with rfl | rfl | rfl <;> exact (show (1 : Nat) ≤ 1000000000 by decide)
theorem rtM_one {w : World} {b : Nat} {p : Pf} {k d m g : Int} {h : Nh} (hB : Blk w b 48 h.cells) (hp : p.a < 4294967296) (hh : h.ok) : RtM w ⟨p, k, d, m, g, some ⟨b, 0, none⟩, 1, [h]⟩ :=
  ⟨arr_one hB, (fun e => by cases e), Nat.le_refl _, hp, fun x hx => by rw [List.mem_singleton.1 hx]; exact hh⟩
set_option maxHeartbeats 8000000 in
theorem awake49_v (w : World) : Calls Try.prog 10 #[] w (Ret (.bool true) w) := by
  refine V_enter (vs := []) Try.func10 rfl Try.ntmps10 (Nat.le_of_ble_eq_true rfl) ?_
  repeat (first | refine Vx ?_ | (apply Ops_q; (case hon => exact Va); (case hd => rfl); (case hq => exact YlA)) | refine Vr ?_ | refine Vt ?_ | refine Vf ?_ | refine Vm ?_ | refine Ve ?_ | refine Vo ?_ | refine Vz ?_ | refine Vn ?_)
  (refine Ops_lit (by exact Va) rfl rfl rfl ?_; intro w1 h0 n_h0; have k_h0 := n_h0.blk)
  have x1 := n_h0.ext
  clear n_h0
  repeat (first | refine Vx ?_ | (apply Ops_q; (case hon => exact Va); (case hd => rfl); (case hq => exact YlA)) | refine Vr ?_ | refine Vt ?_ | refine Vf ?_ | refine Vm ?_ | refine Ve ?_ | refine Vo ?_ | refine Vz ?_ | refine Vn ?_)
  (refine Ops_alloc (by exact Va) rfl ?_; intro w2 b1 n_b1; have k_b1 := n_b1.blk)
  repeat (first | refine Vx ?_ | (apply Ops_q; (case hon => exact Va); (case hd => rfl); (case hq => exact YlA)) | refine Vr ?_ | refine Vt ?_ | refine Vf ?_ | refine Vm ?_ | refine Ve ?_ | refine Vo ?_ | refine Vz ?_ | refine Vn ?_)
  (refine Ops_store (by exact Va) rfl rfl (by assumption) (by first | rfl | exact OneAll.h) ?_; intro w3 u_w3; have k_b1 := u_w3.blk)
  have x3 := u_w3.below (x1.trans n_b1.ext) (Nat.le_trans x1.size n_b1.ge)
  have y3 := u_w3.below n_b1.ext n_b1.ge
  replace k_h0 := k_h0.ext y3
  clear u_w3 n_b1 x1
  repeat (first | refine Vx ?_ | (apply Ops_q; (case hon => exact Va); (case hd => rfl); (case hq => exact YlA)) | refine Vr ?_ | refine Vt ?_ | refine Vf ?_ | refine Vm ?_ | refine Ve ?_ | refine Vo ?_ | refine Vz ?_ | refine Vn ?_)
  (apply Ops_q; (case hon => (exact Va)); (case hd => rfl); (case hq => exact Yl_call rfl (fun w_ e_ => eight_v 20 w_ (by decide))))
  repeat (first | refine Vx ?_ | (apply Ops_q; (case hon => exact Va); (case hd => rfl); (case hq => exact YlA)) | refine Vr ?_ | refine Vt ?_ | refine Vf ?_ | refine Vm ?_ | refine Ve ?_ | refine Vo ?_ | refine Vz ?_ | refine Vn ?_)
  (refine Ops_lit (by exact Va) rfl rfl rfl ?_; intro w4 h1 n_h1; have k_h1 := n_h1.blk)
  have y4 := n_h1.ext
  clear n_h1
  repeat (first | refine Vx ?_ | (apply Ops_q; (case hon => exact Va); (case hd => rfl); (case hq => exact YlA)) | refine Vr ?_ | refine Vt ?_ | refine Vf ?_ | refine Vm ?_ | refine Ve ?_ | refine Vo ?_ | refine Vz ?_ | refine Vn ?_)
  (refine Ops_alloc (by exact Va) rfl ?_; intro w5 b2 n_b2; have k_b2 := n_b2.blk)
  repeat (first | refine Vx ?_ | (apply Ops_q; (case hon => exact Va); (case hd => rfl); (case hq => exact YlA)) | refine Vr ?_ | refine Vt ?_ | refine Vf ?_ | refine Vm ?_ | refine Ve ?_ | refine Vo ?_ | refine Vz ?_ | refine Vn ?_)
  (refine Ops_store (by exact Va) rfl rfl (by assumption) (by first | rfl | exact OneAll.h) ?_; intro w6 u_w6; have k_b2 := u_w6.blk)
  have y6 := u_w6.below (y4.trans n_b2.ext) (Nat.le_trans y4.size n_b2.ge)
  have z6 := u_w6.below n_b2.ext n_b2.ge
  have x6 := x3.trans y6
  replace k_h0 := k_h0.ext y6
  replace k_b1 := k_b1.ext y6
  replace k_h1 := k_h1.ext z6
  clear u_w6 n_b2 y4
  repeat (first | refine Vx ?_ | (apply Ops_q; (case hon => exact Va); (case hd => rfl); (case hq => exact YlA)) | refine Vr ?_ | refine Vt ?_ | refine Vf ?_ | refine Vm ?_ | refine Ve ?_ | refine Vo ?_ | refine Vz ?_ | refine Vn ?_)
  (apply Ops_q; (case hon => (exact Va)); (case hd => rfl); (case hq => exact Yl_call rfl (fun w_ e_ => eight_v 30 w_ (by decide))))
  repeat (first | refine Vx ?_ | (apply Ops_q; (case hon => exact Va); (case hd => rfl); (case hq => exact YlA)) | refine Vr ?_ | refine Vt ?_ | refine Vf ?_ | refine Vm ?_ | refine Ve ?_ | refine Vo ?_ | refine Vz ?_ | refine Vn ?_)
  (refine Ops_lit (by exact Va) rfl rfl rfl ?_; intro w7 h2 n_h2; have k_h2 := n_h2.blk)
  have y7 := n_h2.ext
  clear n_h2
  repeat (first | refine Vx ?_ | (apply Ops_q; (case hon => exact Va); (case hd => rfl); (case hq => exact YlA)) | refine Vr ?_ | refine Vt ?_ | refine Vf ?_ | refine Vm ?_ | refine Ve ?_ | refine Vo ?_ | refine Vz ?_ | refine Vn ?_)
  (refine Ops_alloc (by exact Va) rfl ?_; intro w8 b3 n_b3; have k_b3 := n_b3.blk)
  repeat (first | refine Vx ?_ | (apply Ops_q; (case hon => exact Va); (case hd => rfl); (case hq => exact YlA)) | refine Vr ?_ | refine Vt ?_ | refine Vf ?_ | refine Vm ?_ | refine Ve ?_ | refine Vo ?_ | refine Vz ?_ | refine Vn ?_)
  (refine Ops_store (by exact Va) rfl rfl (by assumption) (by first | rfl | exact OneAll.h) ?_; intro w9 u_w9; have k_b3 := u_w9.blk)
  have y9 := u_w9.below (y7.trans n_b3.ext) (Nat.le_trans y7.size n_b3.ge)
  have z9 := u_w9.below n_b3.ext n_b3.ge
  have x9 := x6.trans y9
  replace k_h0 := k_h0.ext y9
  replace k_b1 := k_b1.ext y9
  replace k_h1 := k_h1.ext y9
  replace k_b2 := k_b2.ext y9
  replace k_h2 := k_h2.ext z9
  clear u_w9 n_b3 y7
  repeat (first | refine Vx ?_ | (apply Ops_q; (case hon => exact Va); (case hd => rfl); (case hq => exact YlA)) | refine Vr ?_ | refine Vt ?_ | refine Vf ?_ | refine Vm ?_ | refine Ve ?_ | refine Vo ?_ | refine Vz ?_ | refine Vn ?_)
  (refine Ops_lit (by exact Va) rfl rfl rfl ?_; intro wa bl n_bl; have k_bl := n_bl.blk)
  have ya := n_bl.ext
  have xa := x9.trans ya
  clear n_bl
  have r0 : RtM wa (aw0 (some ⟨h0, 0, none⟩)) := rtM_one (k_h0.ext ya) (by decide) ⟨by decide, by decide, by decide⟩
  have r1 : RtM wa (aw1 (some ⟨h1, 0, none⟩)) := rtM_one (k_h1.ext ya) (by decide) ⟨by decide, by decide, by decide⟩
  have r2 : RtM wa (aw2 (some ⟨h2, 0, none⟩)) := rtM_one (k_h2.ext ya) (by decide) ⟨by decide, by decide, by decide⟩
  have hI := aw_in k_bl r0 r1 r2
  replace k_b1 := k_b1.ext ya
  replace k_b2 := k_b2.ext ya
  replace k_b3 := k_b3.ext ya
  repeat (first | refine Vx ?_ | (apply Ops_q; (case hon => exact Va); (case hd => rfl); (case hq => exact YlA)) | refine Vr ?_ | refine Vt ?_ | refine Vf ?_ | refine Vm ?_ | refine Ve ?_ | refine Vo ?_ | refine Vz ?_ | refine Vn ?_)
  (refine Ops_callR (by exact Va) rfl rfl (fun w_ e_ => hops_v (some ⟨bl, 0, none⟩) (awL (some ⟨h0, 0, none⟩) (some ⟨h1, 0, none⟩) (some ⟨h2, 0, none⟩)) 3 (aw1 (some ⟨h1, 0, none⟩)) w_ (hI.rts.ext e_) hI.len (r1.ext e_)) ?_; intro u wb w0_ e0_ e1_ r_u; have e_wb := e0_.trans e1_; have b_u := e0_.size; clear e0_ e1_)
  rw [aw_h1] at r_u
  obtain ⟨ao5, c5, rfl, hN5, hc5, hn5⟩ := r_u
  dsimp only
  have hIb := hI.ext e_wb
  have r2b := r2.ext e_wb
  replace k_b1 := k_b1.ext e_wb
  replace k_b2 := k_b2.ext e_wb
  replace k_b3 := k_b3.ext e_wb
  have xb := xa.trans e_wb
  clear k_bl r0 r2 hI
  repeat (first | refine Vx ?_ | (apply Ops_q; (case hon => exact Va); (case hd => rfl); (case hq => exact YlA)) | refine Vr ?_ | refine Vt ?_ | refine Vf ?_ | refine Vm ?_ | refine Ve ?_ | refine Vo ?_ | refine Vz ?_ | refine Vn ?_)
  (refine Ops_callR (by exact Va) rfl rfl (fun w_ e_ => hops_v (some ⟨bl, 0, none⟩) (awL (some ⟨h0, 0, none⟩) (some ⟨h1, 0, none⟩) (some ⟨h2, 0, none⟩)) 3 (aw2 (some ⟨h2, 0, none⟩)) w_ (hIb.rts.ext e_) hIb.len (r2b.ext e_)) ?_; intro u wc w0_ e0_ e1_ r_u; have e_wc := e0_.trans e1_; have b_u := e0_.size; clear e0_ e1_)
  rw [aw_h2] at r_u
  obtain ⟨ao6, c6, rfl, _⟩ := r_u
  dsimp only
  have hIc := hIb.ext e_wc
  replace hN5 := hN5.ext e_wc
  replace k_b1 := k_b1.ext e_wc
  replace k_b2 := k_b2.ext e_wc
  have xc := xb.trans e_wc
  have r1c := (r1.ext e_wb).ext e_wc
  clear hIb r2b r1 k_b3
  repeat (first | refine Vx ?_ | (apply Ops_q; (case hon => exact Va); (case hd => rfl); (case hq => exact YlA)) | refine Vr ?_ | refine Vt ?_ | refine Vf ?_ | refine Vm ?_ | refine Ve ?_ | refine Vo ?_ | refine Vz ?_ | refine Vn ?_)
  (refine Ops_callR (by exact Va) rfl rfl (fun w_ e_ => findP_v (some ⟨bl, 0, none⟩) (awL (some ⟨h0, 0, none⟩) (some ⟨h1, 0, none⟩) (some ⟨h2, 0, none⟩)) 3 335544327 w_ (hIc.ext e_) (by decide)) ?_; intro u wd w0_ e0_ e1_ r_u; have e_wd := e0_.trans e1_; have b_u := e0_.size; clear e0_ e1_)
  rw [aw_find] at r_u
  obtain ⟨rf, rfl, hrf, hsf⟩ := r_u
  rw [aw_act] at hsf
  have hsf : SameR rf (aw1 (some ⟨h1, 0, none⟩)) := hsf
  have hId := hIc.ext e_wd
  replace hN5 := hN5.ext e_wd
  replace k_b1 := k_b1.ext e_wd
  replace k_b2 := k_b2.ext e_wd
  have xd := xc.trans e_wd
  have r1d := r1c.ext e_wd
  clear hIc r1c
  repeat (first | refine Vx ?_ | (apply Ops_q; (case hon => exact Va); (case hd => rfl); (case hq => exact YlA)) | refine Vr ?_ | refine Vt ?_ | refine Vf ?_ | refine Vm ?_ | refine Ve ?_ | refine Vo ?_ | refine Vz ?_ | refine Vn ?_)
  (refine Ops_alloc (by exact Va) rfl ?_; intro we b9 n_b9; have k_b9 := n_b9.blk)
  repeat (first | refine Vx ?_ | (apply Ops_q; (case hon => exact Va); (case hd => rfl); (case hq => exact YlA)) | refine Vr ?_ | refine Vt ?_ | refine Vf ?_ | refine Vm ?_ | refine Ve ?_ | refine Vo ?_ | refine Vz ?_ | refine Vn ?_)
  (refine Ops_store (by exact Va) rfl rfl (by assumption) (by first | rfl | exact OneAll.h) ?_; intro wf u_wf; have k_b9 := u_wf.blk)
  have yf := u_wf.below n_b9.ext n_b9.ge
  have hIf := hId.ext yf
  replace hN5 := hN5.ext yf
  replace k_b1 := k_b1.ext yf
  replace k_b2 := k_b2.ext yf
  have xf := xd.trans yf
  have r1f := r1d.ext yf
  have hrff := hrf.ext yf
  clear u_wf n_b9 hId hrf r1d
  repeat (first | refine Vx ?_ | (apply Ops_q; (case hon => exact Va); (case hd => rfl); (case hq => exact YlA)) | refine Vr ?_ | refine Vt ?_ | refine Vf ?_ | refine Vm ?_ | refine Ve ?_ | refine Vo ?_ | refine Vz ?_ | refine Vn ?_)
  (apply Ops_q; (case hon => (exact Va)); (case hd => rfl); (case hq => exact Yl_call rfl (fun w_ e_ => cost_v (some ⟨bl, 0, none⟩) (awL (some ⟨h0, 0, none⟩) (some ⟨h1, 0, none⟩) (some ⟨h2, 0, none⟩)) 3 167772163 w_ (hIf.rts.ext e_) hIf.len (by decide))))
  rw [aw_cost]
  have q1 : Cells wf ⟨b1, 0, none⟩ [.int .u32 167772160, .int .i64 24] := k_b1.part 0 2
  repeat (first | refine Vx ?_ | (apply Ops_q; (case hon => exact Va); (case hd => rfl); (case hq => exact YlA)) | refine Vr ?_ | refine Vt ?_ | refine Vf ?_ | refine Vm ?_ | refine Ve ?_ | refine Vo ?_ | refine Vz ?_ | refine Vn ?_)
  (refine Ops_alloc (by exact Va) rfl ?_; intro wg b13 n_b13; have k_b13 := n_b13.blk)
  repeat (first | refine Vx ?_ | (apply Ops_q; (case hon => exact Va); (case hd => rfl); (case hq => exact YlA)) | refine Vr ?_ | refine Vt ?_ | refine Vf ?_ | refine Vm ?_ | refine Ve ?_ | refine Vo ?_ | refine Vz ?_ | refine Vn ?_)
  (refine Ops_store (by exact Va) rfl rfl (by assumption) (by first | rfl | exact OneAll.h) ?_; intro wh u_wh; have k_b13 := u_wh.blk)
  have yh := u_wh.below n_b13.ext n_b13.ge
  have hIh := hIf.ext yh
  replace hN5 := hN5.ext yh
  replace k_b2 := k_b2.ext yh
  replace k_b9 := k_b9.ext yh
  have xh := xf.trans yh
  have r1h := r1f.ext yh
  have hrfh := hrff.ext yh
  clear u_wh n_b13 hIf hrff r1f q1 k_b1
  repeat (first | refine Vx ?_ | (apply Ops_q; (case hon => exact Va); (case hd => rfl); (case hq => exact YlA)) | refine Vr ?_ | refine Vt ?_ | refine Vf ?_ | refine Vm ?_ | refine Ve ?_ | refine Vo ?_ | refine Vz ?_ | refine Vn ?_)
  (refine Ops_lit (by exact Va) rfl rfl rfl ?_; intro wi bs n_bs; have k_bs := n_bs.blk)
  have yi := n_bs.ext
  have hNs : Nhs wi (some ⟨bs, 0, none⟩) [⟨167772169, 1, 0, 1, ⟨167772160, 24⟩⟩] := arr_one k_bs
  have hIi := hIh.ext yi
  replace hN5 := hN5.ext yi
  replace k_b2 := k_b2.ext yi
  replace k_b9 := k_b9.ext yi
  have xi := xh.trans yi
  have r1i := r1h.ext yi
  have hrfi := hrfh.ext yi
  clear n_bs hIh hrfh r1h
  repeat (first | refine Vx ?_ | (apply Ops_q; (case hon => exact Va); (case hd => rfl); (case hq => exact YlA)) | refine Vr ?_ | refine Vt ?_ | refine Vf ?_ | refine Vm ?_ | refine Ve ?_ | refine Vo ?_ | refine Vz ?_ | refine Vn ?_)
  (apply Ops_q; (case hon => (exact Va)); (case hd => rfl); (case hq => exact Yl_call rfl (fun w_ e_ => sameHops_v ao5 (some ⟨bs, 0, none⟩) [⟨167772169, 1, 0, 1, ⟨167772160, 24⟩⟩] [⟨167772169, 1, 0, 1, ⟨167772160, 24⟩⟩] c5 1 w_ (hN5.ext e_) (hNs.ext e_) (by decide))))
  rw [decide_eq_true rfl]
  repeat (first | refine Vx ?_ | (apply Ops_q; (case hon => exact Va); (case hd => rfl); (case hq => exact YlA)) | refine Vr ?_ | refine Vt ?_ | refine Vf ?_ | refine Vm ?_ | refine Ve ?_ | refine Vo ?_ | refine Vz ?_ | refine Vn ?_)
  (apply Ops_q; (case hon => (exact Va)); (case hd => rfl); (case hq => exact Yl_call rfl (fun w_ e_ => same_v rf (aw1 (some ⟨h1, 0, none⟩)) true w_ (hrfi.ext e_) (r1i.ext e_) (by rw [hsf.hops]; exact (show (1 : Nat) ≤ 4611686018427387904 by decide)) ⟨fun _ => hsf, fun _ => rfl⟩)))
  repeat (first | refine Vx ?_ | (apply Ops_q; (case hon => exact Va); (case hd => rfl); (case hq => exact YlA)) | refine Vr ?_ | refine Vt ?_ | refine Vf ?_ | refine Vm ?_ | refine Ve ?_ | refine Vo ?_ | refine Vz ?_ | refine Vn ?_)
  (refine Ops_callR (by exact Va) rfl rfl (fun w_ e_ => allP_v (some ⟨bl, 0, none⟩) (awL (some ⟨h0, 0, none⟩) (some ⟨h1, 0, none⟩) (some ⟨h2, 0, none⟩)) 3 w_ (hIi.rts.ext e_) hIi.len) ?_; intro u wj w0_ e0_ e1_ r_u; have e_wj := e0_.trans e1_; have b_u := e0_.size; clear e0_ e1_)
  obtain ⟨ao9, c9, M, rfl, hM, hsM⟩ := r_u
  rw [hsM.1, aw_all]
  repeat (first | refine Vx ?_ | (apply Ops_q; (case hon => exact Va); (case hd => rfl); (case hq => exact YlA)) | refine Vr ?_ | refine Vt ?_ | refine Vf ?_ | refine Vm ?_ | refine Ve ?_ | refine Vo ?_ | refine Vz ?_ | refine Vn ?_)
  refine ret1 (by first | exact .inl rfl | exact .inr rfl) rfl rfl ?_
  exact Ret_mk rfl (xi.trans e_wj)
end Go.Proofs.Ytkdjbddjblahkaa

/-
  Routes (layer 49): the laws on Find, Cost, Hops and All.
  Conditions: addresses and routers are numbers of 32 bits; lists are not too long for a machine.
-/
namespace Go.Proofs.Ytkdjbddjblahkaa
open Go.RowKit

theorem SameR.symm {r s : Rt} (h : SameR r s) : SameR s r := ⟨h.p.symm, h.proto.symm, h.dist.symm, h.metric.symm, h.tag.symm, h.hops.symm⟩
theorem SameR.trans {r s t : Rt} (h : SameR r s) (h2 : SameR s t) : SameR r t := ⟨h.p.trans h2.p, h.proto.trans h2.proto, h.dist.trans h2.dist, h.metric.trans h2.metric, h.tag.trans h2.tag, h.hops.trans h2.hops⟩
theorem small_in {w : World} {ao : Option Addr} {c : Nat} {L : List Rt} (hL : Rts w ao L) (hc : L.length ≤ c) (h : ¬Large L) : In w ao c L := by
  unfold Large at h
  have h1 : ¬12 < L.length := fun h2 => h (.inr h2)
  have h2 : ∀ r ∈ L, ¬3 < r.hops.length := fun r hr h3 => h (.inl ⟨r, hr, h3⟩)
  exact ⟨hL, by omega, hc, fun r hr => by have := h2 r hr; omega⟩
theorem rtO_len {L : List Rt} (o : Option Nat) {n : Nat} (h : ∀ r ∈ L, r.hops.length ≤ n) : (rtO L o).hops.length ≤ n := by
  unfold rtO
  split
  · rename_i r hr
    obtain ⟨i, _, h2⟩ := Option.bind_eq_some_iff.1 hr
    exact h r (List.mem_of_getElem? h2)
  · exact Nat.zero_le _
theorem actL_mem {L : List Rt} {r : Rt} (h : r ∈ actL L) : r ∈ L := by
  by_cases ha : Actv L
  · rw [actL_yes ha] at h; exact h
  · rw [actL_no ha] at h; cases h
set_option maxHeartbeats 4000000 in
theorem lawFinds_v (ao : Option Addr) (L : List Rt) (c a : Nat) (w : World) (hL : Rts w ao L) (hc : L.length ≤ c) (hn : L.length ≤ 4611686018427387904) (ha : a < 4294967296) :
    Calls Try.prog 3 #[.slice ao L.length c, .int .u32 a] w (Ret (.bool true) w) := by
  obtain ⟨b, hb⟩ := bool_ex (Large L)
  refine V_enter (vs := [_, _]) Try.func3 rfl Try.ntmps3 (Nat.le_of_ble_eq_true rfl) ?_
  repeat (first | refine Vx ?_ | (apply Ops_q; (case hon => exact Va); (case hd => rfl); (case hq => exact YlA)) | refine Vr ?_ | refine Vt ?_ | refine Vf ?_ | refine Vm ?_ | refine Ve ?_ | refine Vo ?_ | refine Vz ?_ | refine Vn ?_)
  (apply Ops_q; (case hon => (exact Va)); (case hd => rfl); (case hq => exact Yl_call rfl (fun w_ e_ => largeL_v ao L c b w_ (hL.ext e_) hn hb)))
  cases b with
  | true =>
    repeat (first | refine Vx ?_ | (apply Ops_q; (case hon => exact Va); (case hd => rfl); (case hq => exact YlA)) | refine Vr ?_ | refine Vt ?_ | refine Vf ?_ | refine Vm ?_ | refine Ve ?_ | refine Vo ?_ | refine Vz ?_ | refine Vn ?_)
    (apply Ops_q; (case hon => (exact Va)); (case hd => rfl); (case hq => exact Yl_call rfl (fun w_ e_ => awake49_v w_)))
    repeat (first | refine Vx ?_ | (apply Ops_q; (case hon => exact Va); (case hd => rfl); (case hq => exact YlA)) | refine Vr ?_ | refine Vt ?_ | refine Vf ?_ | refine Vm ?_ | refine Ve ?_ | refine Vo ?_ | refine Vz ?_ | refine Vn ?_)
    refine ret1 (by first | exact .inl rfl | exact .inr rfl) rfl rfl ?_
    exact Ret_mk rfl (Ext.refl _)
  | false =>
    have hI := small_in hL hc (fun h => by have := hb.2 h; cases this)
    repeat (first | refine Vx ?_ | (apply Ops_q; (case hon => exact Va); (case hd => rfl); (case hq => exact YlA)) | refine Vr ?_ | refine Vt ?_ | refine Vf ?_ | refine Vm ?_ | refine Ve ?_ | refine Vo ?_ | refine Vz ?_ | refine Vn ?_)
    (refine Ops_callR (by exact Va) rfl rfl (fun w_ e_ => findP_v ao L c a w_ (hI.ext e_) ha) ?_; intro u w1 w0_ e0_ e1_ r_u; have e_w1 := e0_.trans e1_; have b_u := e0_.size; clear e0_ e1_)
    obtain ⟨r, rfl, hr, hsr⟩ := r_u
    repeat (first | refine Vx ?_ | (apply Ops_q; (case hon => exact Va); (case hd => rfl); (case hq => exact YlA)) | refine Vr ?_ | refine Vt ?_ | refine Vf ?_ | refine Vm ?_ | refine Ve ?_ | refine Vo ?_ | refine Vz ?_ | refine Vn ?_)
    (refine Ops_alloc (by exact Va) rfl ?_; intro w2 b5 n_b5; have k_b5 := n_b5.blk)
    repeat (first | refine Vx ?_ | (apply Ops_q; (case hon => exact Va); (case hd => rfl); (case hq => exact YlA)) | refine Vr ?_ | refine Vt ?_ | refine Vf ?_ | refine Vm ?_ | refine Ve ?_ | refine Vo ?_ | refine Vz ?_ | refine Vn ?_)
    (refine Ops_store (by exact Va) rfl rfl (by assumption) (by first | rfl | exact OneAll.h) ?_; intro w3 u_w3; have k_b5 := u_w3.blk)
    have x3 := u_w3.below (e_w1.trans n_b5.ext) (Nat.le_trans e_w1.size n_b5.ge)
    have y3 := u_w3.below n_b5.ext n_b5.ge
    replace hr := hr.ext y3
    clear u_w3 n_b5
    repeat (first | refine Vx ?_ | (apply Ops_q; (case hon => exact Va); (case hd => rfl); (case hq => exact YlA)) | refine Vr ?_ | refine Vt ?_ | refine Vf ?_ | refine Vm ?_ | refine Ve ?_ | refine Vo ?_ | refine Vz ?_ | refine Vn ?_)
    (refine Ops_callR (by exact Va) rfl rfl (fun w_ e_ => find49_v ao L c a w_ (hI.ext (x3.trans e_)) ha) ?_; intro u w4 w0_ e0_ e1_ r_u; have e_w4 := e0_.trans e1_; have b_u := e0_.size; clear e0_ e1_)
    obtain ⟨s, rfl, hs, hss⟩ := r_u
    have x4 := x3.trans e_w4
    replace hr := hr.ext e_w4
    replace k_b5 := k_b5.ext e_w4
    repeat (first | refine Vx ?_ | (apply Ops_q; (case hon => exact Va); (case hd => rfl); (case hq => exact YlA)) | refine Vr ?_ | refine Vt ?_ | refine Vf ?_ | refine Vm ?_ | refine Ve ?_ | refine Vo ?_ | refine Vz ?_ | refine Vn ?_)
    (refine Ops_alloc (by exact Va) rfl ?_; intro w5 b7 n_b7; have k_b7 := n_b7.blk)
    repeat (first | refine Vx ?_ | (apply Ops_q; (case hon => exact Va); (case hd => rfl); (case hq => exact YlA)) | refine Vr ?_ | refine Vt ?_ | refine Vf ?_ | refine Vm ?_ | refine Ve ?_ | refine Vo ?_ | refine Vz ?_ | refine Vn ?_)
    (refine Ops_store (by exact Va) rfl rfl (by assumption) (by first | rfl | exact OneAll.h) ?_; intro w6 u_w6; have k_b7 := u_w6.blk)
    have y6 := u_w6.below n_b7.ext n_b7.ge
    have x6 := x4.trans y6
    replace hr := hr.ext y6
    replace hs := hs.ext y6
    replace k_b5 := k_b5.ext y6
    clear u_w6 n_b7
    repeat (first | refine Vx ?_ | (apply Ops_q; (case hon => exact Va); (case hd => rfl); (case hq => exact YlA)) | refine Vr ?_ | refine Vt ?_ | refine Vf ?_ | refine Vm ?_ | refine Ve ?_ | refine Vo ?_ | refine Vz ?_ | refine Vn ?_)
    (apply Ops_q; (case hon => (exact Va)); (case hd => rfl); (case hq => exact Yl_call rfl (fun w_ e_ => cost_v ao L c a w_ (hI.rts.ext (x6.trans e_)) hI.len ha)))
    repeat (first | refine Vx ?_ | (apply Ops_q; (case hon => exact Va); (case hd => rfl); (case hq => exact YlA)) | refine Vr ?_ | refine Vt ?_ | refine Vf ?_ | refine Vm ?_ | refine Ve ?_ | refine Vo ?_ | refine Vz ?_ | refine Vn ?_)
    (apply Ops_q; (case hon => (exact Va)); (case hd => rfl); (case hq => exact Yl_call rfl (fun w_ e_ => cost49_v ao L c a w_ (hI.ext (x6.trans e_)) ha)))
    repeat (first | refine Vx ?_ | (apply Ops_q; (case hon => exact Va); (case hd => rfl); (case hq => exact YlA)) | refine Vr ?_ | refine Vt ?_ | refine Vf ?_ | refine Vm ?_ | refine Ve ?_ | refine Vo ?_ | refine Vz ?_ | refine Vn ?_)
    (apply Ops_q; (case hon => (exact Va)); (case hd => rfl); (case hq => exact Yl_call rfl (fun w_ e_ => awake49_v w_)))
    repeat (first | refine Vx ?_ | (apply Ops_q; (case hon => exact Va); (case hd => rfl); (case hq => exact YlA)) | refine Vr ?_ | refine Vt ?_ | refine Vf ?_ | refine Vm ?_ | refine Ve ?_ | refine Vo ?_ | refine Vz ?_ | refine Vn ?_)
    (apply Ops_q; (case hon => (exact Va)); (case hd => rfl); (case hq => exact Yl_call rfl (fun w_ e_ => same_v r s true w_ (hr.ext e_) (hs.ext e_) (Nat.le_trans (by rw [hsr.hops]; exact rtO_len _ (fun r hr => hI.hops r (actL_mem hr))) (by decide)) ⟨fun _ => hsr.trans hss.symm, fun _ => rfl⟩)))
    generalize (lg (fun _ => true) a (actL L)).isSome = b1
    generalize (costV L a).1 = c1
    generalize (costV L a).2 = b2
    cases b1 <;> cases b2 <;> (
      repeat (first | refine Vx ?_ | (apply Ops_q; (case hon => exact Va); (case hd => rfl); (case hq => exact YlA)) | refine Vr ?_ | refine Vt ?_ | refine Vf ?_ | refine Vm ?_ | refine Ve ?_ | refine Vo ?_ | refine Vz ?_ | refine Vn ?_)
      rw [decide_eq_true rfl]
      repeat (first | refine Vx ?_ | (apply Ops_q; (case hon => exact Va); (case hd => rfl); (case hq => exact YlA)) | refine Vr ?_ | refine Vt ?_ | refine Vf ?_ | refine Vm ?_ | refine Ve ?_ | refine Vo ?_ | refine Vz ?_ | refine Vn ?_)
      refine ret1 (by first | exact .inl rfl | exact .inr rfl) rfl rfl ?_
      exact Ret_mk rfl x6)
set_option maxHeartbeats 4000000 in
theorem lawHops_v (ao : Option Addr) (L : List Rt) (c : Nat) (r : Rt) (w : World) (hL : Rts w ao L) (hc : L.length ≤ c) (hn : L.length ≤ 4611686018427387904) (hr : RtM w r) (hrn : r.hops.length ≤ 4611686018427387904) :
    Calls Try.prog 4 #[.slice ao L.length c, r.val] w (Ret (.bool true) w) := by
  obtain ⟨b, hb⟩ := bool_ex (Large L)
  refine V_enter (vs := [_, _]) Try.func4 rfl Try.ntmps4 (Nat.le_of_ble_eq_true rfl) ?_
  repeat (first | refine Vx ?_ | (apply Ops_q; (case hon => exact Va); (case hd => rfl); (case hq => exact YlA)) | refine Vr ?_ | refine Vt ?_ | refine Vf ?_ | refine Vm ?_ | refine Ve ?_ | refine Vo ?_ | refine Vz ?_ | refine Vn ?_)
  (refine Ops_box (by exact Va) rfl rfl rfl ?_; intro w1 b3 n_b3; have k_b3 := n_b3.blk)
  have x1 := n_b3.ext
  clear n_b3
  repeat (first | refine Vx ?_ | (apply Ops_q; (case hon => exact Va); (case hd => rfl); (case hq => exact YlA)) | refine Vr ?_ | refine Vt ?_ | refine Vf ?_ | refine Vm ?_ | refine Ve ?_ | refine Vo ?_ | refine Vz ?_ | refine Vn ?_)
  (apply Ops_q; (case hon => (exact Va)); (case hd => rfl); (case hq => exact Yl_call rfl (fun w_ e_ => largeL_v ao L c b w_ (hL.ext (x1.trans e_)) hn hb)))
  cases b with
  | true =>
    repeat (first | refine Vx ?_ | (apply Ops_q; (case hon => exact Va); (case hd => rfl); (case hq => exact YlA)) | refine Vr ?_ | refine Vt ?_ | refine Vf ?_ | refine Vm ?_ | refine Ve ?_ | refine Vo ?_ | refine Vz ?_ | refine Vn ?_)
    (apply Ops_q; (case hon => (exact Va)); (case hd => rfl); (case hq => exact Yl_call rfl (fun w_ e_ => awake49_v w_)))
    repeat (first | refine Vx ?_ | (apply Ops_q; (case hon => exact Va); (case hd => rfl); (case hq => exact YlA)) | refine Vr ?_ | refine Vt ?_ | refine Vf ?_ | refine Vm ?_ | refine Ve ?_ | refine Vo ?_ | refine Vz ?_ | refine Vn ?_)
    refine ret1 (by first | exact .inl rfl | exact .inr rfl) rfl rfl ?_
    exact Ret_mk rfl x1
  | false =>
    have hI := small_in hL hc (fun h => by have := hb.2 h; cases this)
    repeat (first | refine Vx ?_ | (apply Ops_q; (case hon => exact Va); (case hd => rfl); (case hq => exact YlA)) | refine Vr ?_ | refine Vt ?_ | refine Vf ?_ | refine Vm ?_ | refine Ve ?_ | refine Vo ?_ | refine Vz ?_ | refine Vn ?_)
    by_cases t1 : 3 < r.hops.length
    · have d1 : decide ((3 : Int) < (r.hops.length : Int)) = true := decide_eq_true (by omega)
      refine V_yes rfl d1 ?_
      repeat (first | refine Vx ?_ | (apply Ops_q; (case hon => exact Va); (case hd => rfl); (case hq => exact YlA)) | refine Vr ?_ | refine Vt ?_ | refine Vf ?_ | refine Vm ?_ | refine Ve ?_ | refine Vo ?_ | refine Vz ?_ | refine Vn ?_)
      (apply Ops_q; (case hon => (exact Va)); (case hd => rfl); (case hq => exact Yl_call rfl (fun w_ e_ => awake49_v w_)))
      repeat (first | refine Vx ?_ | (apply Ops_q; (case hon => exact Va); (case hd => rfl); (case hq => exact YlA)) | refine Vr ?_ | refine Vt ?_ | refine Vf ?_ | refine Vm ?_ | refine Ve ?_ | refine Vo ?_ | refine Vz ?_ | refine Vn ?_)
      refine ret1 (by first | exact .inl rfl | exact .inr rfl) rfl rfl ?_
      exact Ret_mk rfl x1
    have d1 : decide ((3 : Int) < (r.hops.length : Int)) = false := decide_eq_false (by omega)
    refine V_no rfl d1 ?_
    repeat (first | refine Vx ?_ | (apply Ops_q; (case hon => exact Va); (case hd => rfl); (case hq => exact YlA)) | refine Vr ?_ | refine Vt ?_ | refine Vf ?_ | refine Vm ?_ | refine Ve ?_ | refine Vo ?_ | refine Vz ?_ | refine Vn ?_)
    (refine Ops_callR (by exact Va) rfl rfl (fun w_ e_ => hops_v ao L c r w_ (hI.rts.ext (x1.trans e_)) hI.len (hr.ext (x1.trans e_))) ?_; intro u w2 w0_ e0_ e1_ r_u; have e_w2 := e0_.trans e1_; have b_u := e0_.size; clear e0_ e1_)
    obtain ⟨ao2, c2, rfl, hN2, hc2, _⟩ := r_u
    have x2 := x1.trans e_w2
    replace k_b3 := k_b3.ext e_w2
    repeat (first | refine Vx ?_ | (apply Ops_q; (case hon => exact Va); (case hd => rfl); (case hq => exact YlA)) | refine Vr ?_ | refine Vt ?_ | refine Vf ?_ | refine Vm ?_ | refine Ve ?_ | refine Vo ?_ | refine Vz ?_ | refine Vn ?_)
    (refine Ops_callR (by exact Va) rfl rfl (fun w_ e_ => hopsR49_v ao L c r w_ (hI.ext (x2.trans e_)) (hr.ext (x2.trans e_)) (by omega)) ?_; intro u w3 w0_ e0_ e1_ r_u; have e_w3 := e0_.trans e1_; have b_u := e0_.size; clear e0_ e1_)
    obtain ⟨ao3, c3, rfl, hN3, _⟩ := r_u
    have x3 := x2.trans e_w3
    replace hN2 := hN2.ext e_w3
    have hl64 : (hopsV L r).2.length ≤ 64 := by
      unfold hopsV
      split
      · exact Nat.zero_le _
      · exact rou_len cbOk.len _ _
    repeat (first | refine Vx ?_ | (apply Ops_q; (case hon => exact Va); (case hd => rfl); (case hq => exact YlA)) | refine Vr ?_ | refine Vt ?_ | refine Vf ?_ | refine Vm ?_ | refine Ve ?_ | refine Vo ?_ | refine Vz ?_ | refine Vn ?_)
    (apply Ops_q; (case hon => (exact Va)); (case hd => rfl); (case hq => exact Yl_call rfl (fun w_ e_ => awake49_v w_)))
    repeat (first | refine Vx ?_ | (apply Ops_q; (case hon => exact Va); (case hd => rfl); (case hq => exact YlA)) | refine Vr ?_ | refine Vt ?_ | refine Vf ?_ | refine Vm ?_ | refine Ve ?_ | refine Vo ?_ | refine Vz ?_ | refine Vn ?_)
    (apply Ops_q; (case hon => (exact Va)); (case hd => rfl); (case hq => exact Yl_call rfl (fun w_ e_ => sameHops_v ao2 ao3 (hopsV L r).2 (hopsV L r).2 c2 c3 w_ (hN2.ext e_) (hN3.ext e_) (by omega))))
    rw [decide_eq_true rfl]
    repeat (first | refine Vx ?_ | (apply Ops_q; (case hon => exact Va); (case hd => rfl); (case hq => exact YlA)) | refine Vr ?_ | refine Vt ?_ | refine Vf ?_ | refine Vm ?_ | refine Ve ?_ | refine Vo ?_ | refine Vz ?_ | refine Vn ?_)
    rw [decide_eq_true rfl]
    repeat (first | refine Vx ?_ | (apply Ops_q; (case hon => exact Va); (case hd => rfl); (case hq => exact YlA)) | refine Vr ?_ | refine Vt ?_ | refine Vf ?_ | refine Vm ?_ | refine Ve ?_ | refine Vo ?_ | refine Vz ?_ | refine Vn ?_)
    refine ret1 (by first | exact .inl rfl | exact .inr rfl) rfl rfl ?_
    exact Ret_mk rfl x3
theorem sameL_len {A B : List Rt} (h : SameL A B) : A.length = B.length := h.1
theorem sameL_tr {A B C : List Rt} (h : SameL A C) (h2 : SameL B C) : SameL A B := by
  refine ⟨h.1.trans h2.1.symm, fun i r s hr hs => ?_⟩
  obtain ⟨t, ht⟩ : ∃ t, C[i]? = some t := ⟨_, List.getElem?_eq_getElem (by rw [← h.1]; exact (List.getElem?_eq_some_iff.1 hr).1)⟩
  exact (h.2 i r t hr ht).trans (h2.2 i s t hs ht).symm
theorem al_some {V : List Rt} {r s : Rt} (h : alR V r = some s) : (rou cbS V r).1 = 0 ∧ s = ⟨r.p, r.proto, r.dist, r.metric, r.tag, none, 0, (rou cbS V r).2⟩ := by
  unfold alR at h
  split at h
  · rename_i h1; cases h; exact ⟨h1, rfl⟩
  · cases h
theorem allV_hops {V : List Rt} {s : Rt} (h : s ∈ allV V) : s.hops.length ≤ 64 := by
  obtain ⟨r, _, h2⟩ := List.mem_filterMap.1 h
  rw [(al_some h2).2]
  exact rou_len cbOk.len _ _
theorem sameL_hops {M : List Rt} {V : List Rt} (h : SameL M (allV V)) : ∀ r ∈ M, r.hops.length ≤ 64 := fun r hr => by
  obtain ⟨i, hi, e⟩ := List.getElem_of_mem hr
  have h1 : M[i]? = some r := by rw [List.getElem?_eq_getElem hi, e]
  obtain ⟨t, ht⟩ : ∃ t, (allV V)[i]? = some t := ⟨_, List.getElem?_eq_getElem (by rw [← h.1]; exact hi)⟩
  rw [(h.2 i r t h1 ht).hops]
  exact allV_hops (List.mem_of_getElem? ht)
theorem allV_len (V : List Rt) : (allV V).length ≤ V.length := List.length_filterMap_le _ _
theorem actL_len (L : List Rt) : (actL L).length ≤ L.length := by
  by_cases ha : Actv L
  · rw [actL_yes ha]; exact Nat.le_refl _
  · rw [actL_no ha]; exact Nat.zero_le _
set_option maxHeartbeats 4000000 in
theorem lawAll_v (ao : Option Addr) (L : List Rt) (c : Nat) (w : World) (hL : Rts w ao L) (hc : L.length ≤ c) (hn : L.length ≤ 4611686018427387904) :
    Calls Try.prog 5 #[.slice ao L.length c] w (Ret (.bool true) w) := by
  obtain ⟨b, hb⟩ := bool_ex (Large L)
  refine V_enter (vs := [_]) Try.func5 rfl Try.ntmps5 (Nat.le_of_ble_eq_true rfl) ?_
  repeat (first | refine Vx ?_ | (apply Ops_q; (case hon => exact Va); (case hd => rfl); (case hq => exact YlA)) | refine Vr ?_ | refine Vt ?_ | refine Vf ?_ | refine Vm ?_ | refine Ve ?_ | refine Vo ?_ | refine Vz ?_ | refine Vn ?_)
  (apply Ops_q; (case hon => (exact Va)); (case hd => rfl); (case hq => exact Yl_call rfl (fun w_ e_ => largeL_v ao L c b w_ (hL.ext e_) hn hb)))
  cases b with
  | true =>
    repeat (first | refine Vx ?_ | (apply Ops_q; (case hon => exact Va); (case hd => rfl); (case hq => exact YlA)) | refine Vr ?_ | refine Vt ?_ | refine Vf ?_ | refine Vm ?_ | refine Ve ?_ | refine Vo ?_ | refine Vz ?_ | refine Vn ?_)
    (apply Ops_q; (case hon => (exact Va)); (case hd => rfl); (case hq => exact Yl_call rfl (fun w_ e_ => awake49_v w_)))
    repeat (first | refine Vx ?_ | (apply Ops_q; (case hon => exact Va); (case hd => rfl); (case hq => exact YlA)) | refine Vr ?_ | refine Vt ?_ | refine Vf ?_ | refine Vm ?_ | refine Ve ?_ | refine Vo ?_ | refine Vz ?_ | refine Vn ?_)
    refine ret1 (by first | exact .inl rfl | exact .inr rfl) rfl rfl ?_
    exact Ret_mk rfl (Ext.refl _)
  | false =>
    have hI := small_in hL hc (fun h => by have := hb.2 h; cases this)
    repeat (first | refine Vx ?_ | (apply Ops_q; (case hon => exact Va); (case hd => rfl); (case hq => exact YlA)) | refine Vr ?_ | refine Vt ?_ | refine Vf ?_ | refine Vm ?_ | refine Ve ?_ | refine Vo ?_ | refine Vz ?_ | refine Vn ?_)
    (apply Ops_q; (case hon => (exact Va)); (case hd => rfl); (case hq => exact Yl_call rfl (fun w_ e_ => awake49_v w_)))
    repeat (first | refine Vx ?_ | (apply Ops_q; (case hon => exact Va); (case hd => rfl); (case hq => exact YlA)) | refine Vr ?_ | refine Vt ?_ | refine Vf ?_ | refine Vm ?_ | refine Ve ?_ | refine Vo ?_ | refine Vz ?_ | refine Vn ?_)
    (refine Ops_callR (by exact Va) rfl rfl (fun w_ e_ => allP_v ao L c w_ (hI.rts.ext e_) hI.len) ?_; intro u w1 w0_ e0_ e1_ r_u; have e_w1 := e0_.trans e1_; have b_u := e0_.size; clear e0_ e1_)
    obtain ⟨ao1, c1, M1, rfl, hM1, hs1⟩ := r_u
    repeat (first | refine Vx ?_ | (apply Ops_q; (case hon => exact Va); (case hd => rfl); (case hq => exact YlA)) | refine Vr ?_ | refine Vt ?_ | refine Vf ?_ | refine Vm ?_ | refine Ve ?_ | refine Vo ?_ | refine Vz ?_ | refine Vn ?_)
    (refine Ops_callR (by exact Va) rfl rfl (fun w_ e_ => all49_v ao L c w_ (hI.ext (e_w1.trans e_))) ?_; intro u w2 w0_ e0_ e1_ r_u; have e_w2 := e0_.trans e1_; have b_u := e0_.size; clear e0_ e1_)
    obtain ⟨ao2, c2, M2, rfl, hM2, hs2⟩ := r_u
    have h1 := allV_len (actL L)
    have h2 := actL_len L
    have h3 := hI.len
    have h4 := hs1.1
    have h5 := sameL_hops hs1
    repeat (first | refine Vx ?_ | (apply Ops_q; (case hon => exact Va); (case hd => rfl); (case hq => exact YlA)) | refine Vr ?_ | refine Vt ?_ | refine Vf ?_ | refine Vm ?_ | refine Ve ?_ | refine Vo ?_ | refine Vz ?_ | refine Vn ?_)
    (apply Ops_q; (case hon => (exact Va)); (case hd => rfl); (case hq => exact Yl_call rfl (fun w_ e_ => sameL_v ao1 ao2 M1 M2 c1 c2 true w_ ((hM1.ext e_w2).ext e_) (hM2.ext e_) (by omega) (fun r hr => Nat.le_trans (h5 r hr) (by decide)) ⟨fun _ => sameL_tr hs1 hs2, fun _ => rfl⟩)))
    repeat (first | refine Vx ?_ | (apply Ops_q; (case hon => exact Va); (case hd => rfl); (case hq => exact YlA)) | refine Vr ?_ | refine Vt ?_ | refine Vf ?_ | refine Vm ?_ | refine Ve ?_ | refine Vo ?_ | refine Vz ?_ | refine Vn ?_)
    refine ret1 (by first | exact .inl rfl | exact .inr rfl) rfl rfl ?_
    exact Ret_mk rfl (e_w1.trans e_w2)
end Go.Proofs.Ytkdjbddjblahkaa

/-
  What lies behind an argument that is a slice: a list, each of whose elements is read by its type.
  No conditions beyond those that each statement names.
-/
namespace Go.Proofs.Ytkdjbddjblahkaa
open Go.ChangeShapes Go.WideShapes Go.ChangeAt Go.RowKit Go.Joins Go.Deep

section
variable {H : Type} {enc : TypeId × Value → H} {P : Program} {w : World} {base : Nat} {spare : Nat → Bool} {held : Bool}
/-- The cells read as a datum of the type. -/
def Reads (enc : TypeId × Value → H) (P : Program) (w : World) (base : Nat) (spare : Nat → Bool) (held : Bool) (t : TypeId) (cs : List Value) : Prop := ∃ n x, DataW.trod enc P w base spare held n t cs = some x
theorem reads_of {t : TypeId} {v : Value} {d : DataW H} {p : List MemPlace} (h : DataW.Trod enc P w base spare held t v d p) : Reads enc P w base spare held t v.cells.toList := by
  obtain ⟨n, hf⟩ := h
  exact ⟨n, _, hf⟩
theorem reads_int {t : TypeId} {k : IntKind} {cs : List Value} (ht : P.underlying t = some (.int k)) (h : Reads enc P w base spare held t cs) : ∃ n, cs = [.int k n] ∧ (Lit.int k n).wf = true := by
  obtain ⟨n, x, h⟩ := h
  obtain ⟨n, h1, _, h2⟩ := DataW.trod_int ht h
  exact ⟨n, h1, h2⟩
theorem reads_bool {t : TypeId} {cs : List Value} (ht : P.underlying t = some .bool) (h : Reads enc P w base spare held t cs) : ∃ b, cs = [.bool b] := by
  obtain ⟨n, x, h⟩ := h
  obtain ⟨b, h1, _⟩ := DataW.trod_bool ht h
  exact ⟨b, h1⟩
theorem reads_slice {t e : TypeId} {cs : List Value} (ht : P.underlying t = some (.slice e)) (h : Reads enc P w base spare held t cs) :
    ∃ (ao : Option Addr) (len cap : Nat) (D : Nat → List Value), cs = [.slice ao len cap] ∧ len ≤ cap ∧ cap ≤ maxLen ∧ (ao = none → len = 0) ∧
      ∀ i, i < len → ∃ ad, ao = some ad ∧ (D i).length = P.cellsOf e ∧ Cells w (ad.add (i * P.cellsOf e)) (D i) ∧ Reads enc P w base spare held e (D i) := by
  obtain ⟨n, x, h⟩ := h
  rcases open_slice ht h with ⟨rfl, _⟩ | ⟨a, len, cap, m, n, D, Pl, rfl, hb, hl, hm, hmm, _, hx⟩
  · exact ⟨none, 0, 0, fun _ => [], rfl, Nat.le_refl _, Nat.zero_le _, fun _ => rfl, fun i h => by omega⟩
  · have hlm : len ≤ m := by rw [hmm]; split <;> omega
    have each : ∀ i, i < len → ∃ q : List Value, q.length = P.cellsOf e ∧ Cells w (a.add (i * P.cellsOf e)) q ∧ Reads enc P w base spare held e q := by
      intro i hi
      obtain ⟨cs', h1, h2⟩ := hx i (by omega)
      obtain ⟨_, hlen, hcell⟩ := World.cells?_some h1
      refine ⟨cs', hlen, fun j v hj => ?_, n, _, h2⟩
      rw [hcell j (by rw [← hlen]; exact (List.getElem?_eq_some_iff.1 hj).1)]
      exact hj
    obtain ⟨q, hq⟩ := choose_lt each
    exact ⟨some a, len, cap, q, rfl, hl, hm, (fun h => by cases h), fun i hi => ⟨a, rfl, (hq i hi).1, (hq i hi).2.1, (hq i hi).2.2⟩⟩
/-- A slice of elements each of which is read by 'dec'. -/
theorem reads_list {t e : TypeId} {cs : List Value} {α : Type} {n0 : Nat} {φ : α → Prop} (en : α → List Value) (ht : P.underlying t = some (.slice e)) (hC : P.cellsOf e = n0) (h : Reads enc P w base spare held t cs)
    (dec : ∀ cs, Reads enc P w base spare held e cs → cs.length = n0 → ∃ a : α, cs = en a ∧ φ a) :
    ∃ (ao : Option Addr) (L : List α) (c : Nat), cs = [.slice ao L.length c] ∧ Arr w n0 ao (L.map en) ∧ L.length ≤ c ∧ c ≤ maxLen ∧ ∀ x ∈ L, φ x := by
  obtain ⟨ao, len, cap, D, rfl, hl, hm, hn, hD⟩ := reads_slice ht h
  have each : ∀ i, i < len → ∃ a : α, D i = en a ∧ φ a := fun i hi => by
    obtain ⟨ad, _, h2, _, h4⟩ := hD i hi
    exact dec (D i) h4 (h2.trans hC)
  have hlist : ∀ k, k ≤ len → ∃ L : List α, L.length = k ∧ (∀ x ∈ L, φ x) ∧ ∀ i x, L[i]? = some x → D i = en x := by
    intro k
    induction k with
    | zero => exact fun _ => ⟨[], rfl, by simp, fun i x h => by simp at h⟩
    | succ k ih =>
      intro hk
      obtain ⟨L, h1, h2, h3⟩ := ih (by omega)
      obtain ⟨a, ha, hφ⟩ := each k (by omega)
      refine ⟨L ++ [a], by simp [h1], fun x hx => ?_, fun i x hi => ?_⟩
      · rcases List.mem_append.1 hx with hx | hx
        · exact h2 x hx
        · obtain rfl := List.mem_singleton.1 hx; exact hφ
      · rw [List.getElem?_append] at hi
        split at hi
        · exact h3 i x hi
        · rename_i hge
          have : i = k := by
            have := (List.getElem?_eq_some_iff.1 hi).1
            simp at this; omega
          subst this
          rw [h1, Nat.sub_self] at hi
          cases hi
          exact ha
  obtain ⟨L, h1, h2, h3⟩ := hlist len (Nat.le_refl _)
  subst h1
  refine ⟨ao, L, cap, rfl, fun k x hk => ?_, hl, hm, h2⟩
  rw [List.getElem?_map] at hk
  obtain ⟨a, ha, rfl⟩ := Option.map_eq_some_iff.1 hk
  obtain ⟨ad, e1, _, e3, _⟩ := hD k (List.getElem?_eq_some_iff.1 ha).1
  rw [hC, h3 k a ha] at e3
  exact ⟨ad, e1, e3⟩
/-- A struct's fields, each of which reads by its own type. -/
theorem reads_struct {t : TypeId} {fs : Array Field} {cs : List Value} (ht : P.underlying t = some (.struct fs)) (h : Reads enc P w base spare held t cs) :
    cs.length = P.cellsOf t ∧ ∀ (i : Nat) (f : Field), fs[i]? = some f → Reads enc P w base spare held f.type ((cs.drop f.offset).take (P.cellsOf f.type)) := by
  obtain ⟨n, x, h⟩ := h
  obtain ⟨xs, m, _, _, h1, h2, h3⟩ := DataW.trod_struct ht h
  refine ⟨h1, fun i f hf => ⟨m, ?_⟩⟩
  have := h3 i f hf
  have hi : i < xs.length := by rw [h2]; exact (Array.getElem?_eq_some_iff.1 hf).1
  rw [List.getElem?_eq_getElem hi] at this
  exact ⟨_, this⟩
/-- A struct of fields of one cell each. -/
theorem reads_flat {t : TypeId} {fs : Array Field} {cs : List Value} (ht : P.underlying t = some (.struct fs)) (hone : oneCellFields P fs = true) (hC : P.cellsOf t = fs.size) (h : Reads enc P w base spare held t cs) :
    cs.length = fs.size ∧ ∀ (i : Nat) (f : Field) (v : Value), fs[i]? = some f → cs[i]? = some v → Reads enc P w base spare held f.type [v] := by
  obtain ⟨h1, h2⟩ := reads_struct ht h
  refine ⟨h1.trans hC, fun i f v hf hv => ?_⟩
  obtain ⟨ho, hk⟩ := hone_of hone i f hf
  have := h2 i f hf
  rw [ho, hk] at this
  have hi := List.getElem?_eq_some_iff.1 hv
  obtain ⟨hi, e⟩ := hi
  rw [List.drop_eq_getElem_cons hi, e] at this
  exact this
/-- An argument that is a slice. -/
theorem open_list {t e : TypeId} {v : Value} {d : DataW H} {p : List MemPlace} {b0 : Nat} {α : Type} {n0 : Nat} {φ : α → Prop} (en : α → List Value) (ht : P.underlying t = some (.slice e)) (hC : P.cellsOf e = n0) (hv : Value.okWide P w .any b0 t v)
    (h : DataW.Trod enc P w base spare held t v d p) (dec : ∀ cs, Reads enc P w base spare held e cs → cs.length = n0 → ∃ a : α, cs = en a ∧ φ a) :
    ∃ (ao : Option Addr) (L : List α) (c : Nat), v = .slice ao L.length c ∧ Arr w n0 ao (L.map en) ∧ L.length ≤ c ∧ c ≤ maxLen ∧ ∀ x ∈ L, φ x := by
  obtain ⟨ao, n, c, rfl⟩ := okWide_slice ht hv
  obtain ⟨ao', L, c', h1, h2⟩ := reads_list en ht hC (reads_of h) dec
  have : (Value.slice ao n c).cells.toList = [.slice ao n c] := rfl
  rw [this] at h1
  simp only [List.cons.injEq, Value.slice.injEq, and_true] at h1
  obtain ⟨rfl, rfl, rfl⟩ := h1
  exact ⟨ao, L, c, rfl, h2⟩
end
end Go.Proofs.Ytkdjbddjblahkaa

/-
  What lies behind an argument, with the bounds that a machine sets: structs and slices within each other.
  No conditions beyond those that each statement names.
-/
namespace Go.Proofs.Ytkdjbddjblahkaa
open Go.ChangeShapes Go.WideShapes Go.ChangeAt Go.RowKit Go.Joins Go.Deep

section
variable {H : Type} {enc : TypeId × Value → H} {P : Program} {w : World} {base : Nat} {spare : Nat → Bool} {held : Bool}
/-- The cells read as a datum of the type, of which no slice is longer than a machine holds. -/
def RW (enc : TypeId × Value → H) (P : Program) (w : World) (base : Nat) (spare : Nat → Bool) (held : Bool) (t : TypeId) (cs : List Value) : Prop := ∃ n x, DataW.trod enc P w base spare held n t cs = some x ∧ ∀ m ∈ x.1.weights P t, m ≤ reachBytes
theorem RW.reads {t : TypeId} {cs : List Value} (h : RW enc P w base spare held t cs) : Reads enc P w base spare held t cs := by
  obtain ⟨n, x, h, _⟩ := h
  exact ⟨n, x, h⟩
theorem rw_of {ts : List TypeId} {ds : List (DataW H)} {j : Nat} {t : TypeId} {v : Value} {d : DataW H} {p : List MemPlace} (hsz : (DataW.weightsEach P ts ds).all (· ≤ reachBytes) = true) (hj : ts[j]? = some t) (hd : ds[j]? = some d) (h : DataW.Trod enc P w base spare held t v d p) : RW enc P w base spare held t v.cells.toList := by
  obtain ⟨n, hf⟩ := h
  refine ⟨n, _, hf, fun m hm => ?_⟩
  have := List.all_eq_true.1 hsz m (DataW.weights_mem_each hj hd m hm)
  simpa using this
theorem RW.struct {t : TypeId} {fs : Array Field} {cs : List Value} (ht : P.underlying t = some (.struct fs)) (h : RW enc P w base spare held t cs) :
    cs.length = P.cellsOf t ∧ ∀ (i : Nat) (f : Field), fs[i]? = some f → RW enc P w base spare held f.type ((cs.drop f.offset).take (P.cellsOf f.type)) := by
  obtain ⟨n, x, h, hw⟩ := h
  obtain ⟨xs, m, _, hx, h1, h2, h3⟩ := DataW.trod_struct ht h
  refine ⟨h1, fun i f hf => ?_⟩
  have := h3 i f hf
  have hi : i < xs.length := by rw [h2]; exact (Array.getElem?_eq_some_iff.1 hf).1
  rw [List.getElem?_eq_getElem hi] at this
  refine ⟨m, _, this, fun k hk => hw k ?_⟩
  subst hx
  simp only [DataW.weights, ht]
  refine DataW.weights_mem_each (j := i) (t := f.type) (d := xs[i].1) ?_ ?_ k hk
  · rw [List.getElem?_map, Array.getElem?_toList, hf]; rfl
  · rw [List.getElem?_map, List.getElem?_eq_getElem hi]; rfl
theorem weights_all {e : TypeId} : ∀ {l : List (DataW H)} {d : DataW H}, d ∈ l → ∀ m ∈ d.weights P e, m ∈ DataW.weightsAll P e l
  | a :: r, d, h, m, hm => by
    simp only [DataW.weightsAll, List.mem_append]
    rcases List.mem_cons.1 h with rfl | h
    · exact .inl hm
    · exact .inr (weights_all h m hm)
theorem RW.slice {t e : TypeId} {cs : List Value} (ht : P.underlying t = some (.slice e)) (h : RW enc P w base spare held t cs) :
    ∃ (ao : Option Addr) (len cap : Nat) (D : Nat → List Value), cs = [.slice ao len cap] ∧ len ≤ cap ∧ cap ≤ maxLen ∧ (ao = none → len = 0) ∧ len * P.bytesOf e ≤ reachBytes ∧
      ∀ i, i < len → ∃ ad, ao = some ad ∧ (D i).length = P.cellsOf e ∧ Cells w (ad.add (i * P.cellsOf e)) (D i) ∧ RW enc P w base spare held e (D i) := by
  obtain ⟨n, x, h, hw⟩ := h
  rcases open_slice ht h with ⟨rfl, _⟩ | ⟨a, len, cap, m, n, D, Pl, rfl, hb, hl, hm, hmm, rfl, hx⟩
  · exact ⟨none, 0, 0, fun _ => [], rfl, Nat.le_refl _, Nat.zero_le _, fun _ => rfl, by rw [Nat.zero_mul]; exact Nat.zero_le _, fun i h => by omega⟩
  · have hlm : len ≤ m := by rw [hmm]; split <;> omega
    simp only [DataW.weights, ht] at hw
    have each : ∀ i, i < len → ∃ q : List Value, q.length = P.cellsOf e ∧ Cells w (a.add (i * P.cellsOf e)) q ∧ RW enc P w base spare held e q := by
      intro i hi
      obtain ⟨cs', h1, h2⟩ := hx i (by omega)
      obtain ⟨_, hlen, hcell⟩ := World.cells?_some h1
      refine ⟨cs', hlen, fun j v hj => ?_, n, _, h2, fun k hk => hw k ?_⟩
      · rw [hcell j (by rw [← hlen]; exact (List.getElem?_eq_some_iff.1 hj).1)]
        exact hj
      · refine List.mem_cons_of_mem _ (List.mem_append_left _ (weights_all (d := D i) ?_ k hk))
        exact List.mem_map.2 ⟨i, List.mem_range.2 hi, rfl⟩
    obtain ⟨q, hq⟩ := choose_lt each
    refine ⟨some a, len, cap, q, rfl, hl, hm, (fun h => by cases h), ?_, fun i hi => ⟨a, rfl, (hq i hi).1, (hq i hi).2.1, (hq i hi).2.2⟩⟩
    have := hw _ (List.mem_cons_self ..)
    simp only [List.length_map, List.length_range] at this
    exact Nat.le_trans (Nat.mul_le_mul_right _ (Nat.le_add_right ..)) this
/-- A slice of elements each of which is read by 'dec'. -/
theorem RW.list {t e : TypeId} {cs : List Value} {α : Type} {n0 : Nat} {φ : α → Prop} (en : α → List Value) (ht : P.underlying t = some (.slice e)) (hC : P.cellsOf e = n0) (h : RW enc P w base spare held t cs)
    (dec : ∀ cs, RW enc P w base spare held e cs → cs.length = n0 → ∃ a : α, cs = en a ∧ φ a) :
    ∃ (ao : Option Addr) (L : List α) (c : Nat), cs = [.slice ao L.length c] ∧ Arr w n0 ao (L.map en) ∧ (ao = none → L = []) ∧ L.length ≤ c ∧ c ≤ maxLen ∧ L.length * P.bytesOf e ≤ reachBytes ∧ ∀ x ∈ L, φ x := by
  obtain ⟨ao, len, cap, D, rfl, hl, hm, hn, hby, hD⟩ := RW.slice ht h
  have each : ∀ i, i < len → ∃ a : α, D i = en a ∧ φ a := fun i hi => by
    obtain ⟨ad, _, h2, _, h4⟩ := hD i hi
    exact dec (D i) h4 (h2.trans hC)
  have hlist : ∀ k, k ≤ len → ∃ L : List α, L.length = k ∧ (∀ x ∈ L, φ x) ∧ ∀ i x, L[i]? = some x → D i = en x := by
    intro k
    induction k with
    | zero => exact fun _ => ⟨[], rfl, by simp, fun i x h => by simp at h⟩
    | succ k ih =>
      intro hk
      obtain ⟨L, h1, h2, h3⟩ := ih (by omega)
      obtain ⟨a, ha, hφ⟩ := each k (by omega)
      refine ⟨L ++ [a], by simp [h1], fun x hx => ?_, fun i x hi => ?_⟩
      · rcases List.mem_append.1 hx with hx | hx
        · exact h2 x hx
        · obtain rfl := List.mem_singleton.1 hx; exact hφ
      · rw [List.getElem?_append] at hi
        split at hi
        · exact h3 i x hi
        · rename_i hge
          have : i = k := by
            have := (List.getElem?_eq_some_iff.1 hi).1
            simp at this; omega
          subst this
          rw [h1, Nat.sub_self] at hi
          cases hi
          exact ha
  obtain ⟨L, h1, h2, h3⟩ := hlist len (Nat.le_refl _)
  subst h1
  refine ⟨ao, L, cap, rfl, fun k x hk => ?_, fun h => List.length_eq_zero_iff.1 (hn h), hl, hm, hby, h2⟩
  rw [List.getElem?_map] at hk
  obtain ⟨a, ha, rfl⟩ := Option.map_eq_some_iff.1 hk
  obtain ⟨ad, e1, _, e3, _⟩ := hD k (List.getElem?_eq_some_iff.1 ha).1
  rw [hC, h3 k a ha] at e3
  exact ⟨ad, e1, e3⟩
/-- The types and offsets of a struct's fields, and what lies there. -/
theorem RW.fields {t : TypeId} {fs : Array Field} {cs : List Value} {l : List (TypeId × Nat)} (ht : P.underlying t = some (.struct fs)) (hl : (fs.map (fun f => (f.type, f.offset))).toList = l) (h : RW enc P w base spare held t cs) :
    cs.length = P.cellsOf t ∧ ∀ (i : Nat) (ft : TypeId) (o : Nat), l[i]? = some (ft, o) → RW enc P w base spare held ft ((cs.drop o).take (P.cellsOf ft)) := by
  obtain ⟨h1, h2⟩ := RW.struct ht h
  refine ⟨h1, fun i ft o hi => ?_⟩
  subst hl
  rw [Array.getElem?_toList, Array.getElem?_map] at hi
  obtain ⟨f, hf, he⟩ := Option.map_eq_some_iff.1 hi
  cases he
  exact h2 i f hf
end
end Go.Proofs.Ytkdjbddjblahkaa

/-
  Arguments that are routes and slices of routes, read as lists.
  No conditions beyond those that each statement names.
-/
namespace Go.Proofs.Ytkdjbddjblahkaa
open Go.ChangeShapes Go.WideShapes Go.ChangeAt Go.RowKit Go.Joins Go.Deep

theorem own : ownKnob Try.prog.godebug = none := by kernel_rfl
theorem uPf : ∃ fs, Try.prog.underlying 28 = some (.struct fs) ∧ (fs.map (fun f => (f.type, f.offset))).toList = [(24, 0), (3, 1)] := ⟨_, Try.underlying28, by kernel_rfl⟩
theorem uNh : ∃ fs, Try.prog.underlying 48 = some (.struct fs) ∧ (fs.map (fun f => (f.type, f.offset))).toList = [(24, 0), (3, 1), (23, 2), (3, 3), (28, 4)] := ⟨_, Try.underlying48, by kernel_rfl⟩
theorem uRt : ∃ fs, Try.prog.underlying 31 = some (.struct fs) ∧ (fs.map (fun f => (f.type, f.offset))).toList = [(28, 0), (3, 2), (3, 3), (3, 4), (3, 5), (29, 6)] := ⟨_, Try.underlying31, by kernel_rfl⟩
theorem kInt : Try.prog.cellsOf 3 = 1 := by kernel_rfl
theorem kU32 : Try.prog.cellsOf 23 = 1 := by kernel_rfl
theorem kAd : Try.prog.cellsOf 24 = 1 := by kernel_rfl
theorem kPf : Try.prog.cellsOf 28 = 2 := by kernel_rfl
theorem kNh : Try.prog.cellsOf 48 = 6 := by kernel_rfl
theorem kRt : Try.prog.cellsOf 31 = 7 := by kernel_rfl
theorem kHs : Try.prog.cellsOf 29 = 1 := by kernel_rfl
theorem kRs : Try.prog.cellsOf 22 = 1 := by kernel_rfl
theorem yNh : Try.prog.bytesOf 48 = 48 := by kernel_rfl
section
variable {H : Type} {enc : TypeId × Value → H} {w : World} {base : Nat} {spare : Nat → Bool} {held : Bool}
theorem int_in {cs : List Value} {o : Nat} {v : Value} (h : RW enc Try.prog w base spare held 3 ((cs.drop o).take (Try.prog.cellsOf 3))) (hv : cs[o]? = some v) : ∃ n, v = .int .i64 n := by
  obtain ⟨hi, e⟩ := List.getElem?_eq_some_iff.1 hv
  rw [kInt, List.drop_eq_getElem_cons hi, e] at h
  obtain ⟨n, h1, _⟩ := reads_int Try.underlying3 h.reads
  cases h1; exact ⟨n, rfl⟩
set_option maxRecDepth 100000 in
theorem u32_in {t : TypeId} {cs : List Value} {o : Nat} {v : Value} (hu : Try.prog.underlying t = some (.int .u32)) (hc : Try.prog.cellsOf t = 1) (h : RW enc Try.prog w base spare held t ((cs.drop o).take (Try.prog.cellsOf t))) (hv : cs[o]? = some v) : ∃ n : Nat, v = .int .u32 n ∧ n < 4294967296 := by
  obtain ⟨hi, e⟩ := List.getElem?_eq_some_iff.1 hv
  rw [hc, List.drop_eq_getElem_cons hi, e] at h
  obtain ⟨n, h1, hw⟩ := reads_int hu h.reads
  have hb := bounds_u32 hw
  cases h1; exact ⟨n.toNat, by rw [Int.toNat_of_nonneg hb.1], by omega⟩
set_option maxRecDepth 100000 in
theorem pf_in {cs : List Value} (h : RW enc Try.prog w base spare held 28 cs) : ∃ p : Pf, cs = [.int .u32 p.a, .int .i64 p.n] ∧ p.a < 4294967296 := by
  obtain ⟨fs, hu, hm⟩ := uPf
  obtain ⟨hl, hf⟩ := h.fields hu hm
  rw [kPf] at hl
  match cs, hl with
  | [x0, x1], _ =>
    obtain ⟨a, rfl, ha⟩ := u32_in Try.underlying24 kAd (hf 0 _ _ rfl) rfl
    obtain ⟨n, rfl⟩ := int_in (hf 1 _ _ rfl) rfl
    exact ⟨⟨a, n⟩, rfl, ha⟩
set_option maxRecDepth 100000 in
theorem nh_in (cs : List Value) (h : RW enc Try.prog w base spare held 48 cs) (hl : cs.length = 6) : ∃ x : Nh, cs = x.cells ∧ x.ok := by
  obtain ⟨fs, hu, hm⟩ := uNh
  obtain ⟨_, hf⟩ := h.fields hu hm
  match cs, hl with
  | [x0, x1, x2, x3, x4, x5], _ =>
    obtain ⟨a, rfl, ha⟩ := u32_in Try.underlying24 kAd (hf 0 _ _ rfl) rfl
    obtain ⟨i, rfl⟩ := int_in (hf 1 _ _ rfl) rfl
    obtain ⟨r, rfl, hr⟩ := u32_in Try.underlying23 kU32 (hf 2 _ _ rfl) rfl
    obtain ⟨w, rfl⟩ := int_in (hf 3 _ _ rfl) rfl
    have h4 := hf 4 _ _ rfl
    rw [kPf] at h4
    obtain ⟨p, e, hp⟩ := pf_in h4
    simp only [List.take_succ_cons, List.take_zero, List.drop_succ_cons, List.drop_zero, List.cons.injEq, and_true] at e
    obtain ⟨rfl, rfl⟩ := e
    exact ⟨⟨a, i, r, w, p⟩, rfl, ha, hr, hp⟩
set_option maxRecDepth 100000 in
theorem nil_cap {t e : TypeId} {n c : Nat} (ht : Try.prog.underlying t = some (.slice e)) (h : RW enc Try.prog w base spare held t [.slice none n c]) : c = 0 := by
  obtain ⟨_, x, h, _⟩ := h
  rcases open_slice ht h with ⟨h5, _⟩ | ⟨a, len, cap, m, n, D, Pl, h5, _⟩
  · simp only [List.cons.injEq, Value.slice.injEq, and_true] at h5
    exact h5.2.2
  · simp at h5
/-- What is known of a route that is read. -/
def RtI (w : World) (r : Rt) : Prop := RtM w r ∧ r.hops.length ≤ 4611686018427387904
set_option maxRecDepth 100000 in
theorem hs_in {cs : List Value} (h : RW enc Try.prog w base spare held 29 cs) : ∃ ao L c, cs = [.slice ao (L : List Nh).length c] ∧ Nhs w ao L ∧ (ao = none → c = 0) ∧ L.length ≤ c ∧ L.length ≤ 4611686018427387904 ∧ ∀ x ∈ L, x.ok := by
  obtain ⟨ao, L, c, h1, h2, _, h4, _, h5, h6⟩ := RW.list (φ := Nh.ok) Nh.cells Try.underlying29 kNh h nh_in
  refine ⟨ao, L, c, h1, h2, fun e => ?_, h4, ?_, h6⟩
  · subst e; rw [h1] at h; exact nil_cap Try.underlying29 h
  · rw [yNh] at h5
    unfold reachBytes at h5; omega
set_option maxRecDepth 100000 in
theorem rt_in (cs : List Value) (h : RW enc Try.prog w base spare held 31 cs) (hl : cs.length = 7) : ∃ x : Rt, cs = x.cells ∧ RtI w x := by
  obtain ⟨fs, hu, hm⟩ := uRt
  obtain ⟨_, hf⟩ := h.fields hu hm
  match cs, hl with
  | [x0, x1, x2, x3, x4, x5, x6], _ =>
    have h0 := hf 0 _ _ rfl
    rw [kPf] at h0
    obtain ⟨p, e, hp⟩ := pf_in h0
    simp only [List.take_succ_cons, List.take_zero, List.drop_zero, List.cons.injEq, and_true] at e
    obtain ⟨rfl, rfl⟩ := e
    obtain ⟨k, rfl⟩ := int_in (hf 1 _ _ rfl) rfl
    obtain ⟨d, rfl⟩ := int_in (hf 2 _ _ rfl) rfl
    obtain ⟨m, rfl⟩ := int_in (hf 3 _ _ rfl) rfl
    obtain ⟨g, rfl⟩ := int_in (hf 4 _ _ rfl) rfl
    have h6 := hf 5 _ _ rfl
    rw [kHs] at h6
    obtain ⟨ao, L, c, e, hN, hz, hc, hn, hok⟩ := hs_in h6
    have e : [x6] = [.slice ao L.length c] := e
    cases e
    exact ⟨⟨p, k, d, m, g, ao, c, L⟩, rfl, ⟨hN, hz, hc, hp, hok⟩, hn⟩
set_option maxRecDepth 100000 in
theorem open_rt {ts : List TypeId} {ds : List (DataW H)} {j : Nat} {v : Value} {d : DataW H} {p : List MemPlace} {b0 : Nat} (hsz : (DataW.weightsEach Try.prog ts ds).all (· ≤ reachBytes) = true) (hj : ts[j]? = some 31) (hd : ds[j]? = some d) (hv : Value.okWide Try.prog w .any b0 31 v) (h : DataW.Trod enc Try.prog w base spare held 31 v d p) :
    ∃ r : Rt, v = r.val ∧ RtM w r ∧ r.hops.length ≤ 4611686018427387904 := by
  have hrw := rw_of hsz hj hd h
  obtain ⟨cs, rfl, _⟩ := okWide_struct Try.underlying31 hv
  have hrw : RW enc Try.prog w base spare held 31 cs.toList := hrw
  obtain ⟨fs, hu, hm⟩ := uRt
  obtain ⟨hl, _⟩ := hrw.fields hu hm
  rw [kRt] at hl
  obtain ⟨r, e, h1, h2⟩ := rt_in _ hrw hl
  refine ⟨r, ?_, h1, h2⟩
  have hcs : cs = cs.toList.toArray := by simp
  rw [hcs, e]; rfl
set_option maxRecDepth 100000 in
theorem open_rts {ts : List TypeId} {ds : List (DataW H)} {j : Nat} {v : Value} {d : DataW H} {p : List MemPlace} {b0 : Nat} (hsz : (DataW.weightsEach Try.prog ts ds).all (· ≤ reachBytes) = true) (hj : ts[j]? = some 22) (hd : ds[j]? = some d) (hv : Value.okWide Try.prog w .any b0 22 v) (h : DataW.Trod enc Try.prog w base spare held 22 v d p) :
    ∃ ao L c, v = .slice ao (L : List Rt).length c ∧ Rts w ao L ∧ L.length ≤ c ∧ L.length ≤ 4611686018427387904 := by
  have hrw := rw_of hsz hj hd h
  obtain ⟨ao, n, c, rfl⟩ := okWide_slice Try.underlying22 hv
  obtain ⟨ao', L, c', h1, h2, _, h4, _, h5, h6⟩ := RW.list (φ := RtI w) Rt.cells Try.underlying22 kRt hrw rt_in
  have e : (Value.slice ao n c).cells.toList = [.slice ao n c] := rfl
  rw [e] at h1
  simp only [List.cons.injEq, Value.slice.injEq, and_true] at h1
  obtain ⟨rfl, rfl, rfl⟩ := h1
  refine ⟨ao, L, c, rfl, ⟨h2, fun r hr => (h6 r hr).1⟩, h4, ?_⟩
  have hb : Try.prog.bytesOf 31 = 72 := by kernel_rfl
  rw [hb] at h5
  unfold reachBytes at h5; omega
set_option maxRecDepth 100000 in
theorem open_ad {v : Value} {d : DataW H} {p : List MemPlace} {b0 : Nat} (hv : Value.okWide Try.prog w .any b0 24 v) (h : DataW.Trod enc Try.prog w base spare held 24 v d p) : ∃ a : Nat, v = .int .u32 a ∧ a < 4294967296 := by
  obtain ⟨a, rfl, _, _, hw⟩ := open_int Try.underlying24 hv h
  have hb := bounds_u32 hw
  exact ⟨a.toNat, by rw [Int.toNat_of_nonneg hb.1], by omega⟩
end
end Go.Proofs.Ytkdjbddjblahkaa

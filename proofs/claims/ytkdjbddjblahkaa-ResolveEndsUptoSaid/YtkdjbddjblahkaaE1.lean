/-
  A further part of the texts of this seat.
  No conditions beyond those that each lemma states.
-/
import Derived.Test.YtkdjbddjblahkaaB6
import Derived.Test.YtkdjbddjblahkaaRows

/-
  The cells of a number.
  No conditions.
-/
namespace Go.Proofs.Ytkdjbddjblahkaa
open Go.RowKit

def ic (x : Int) : List Value := [.int .i64 x]
end Go.Proofs.Ytkdjbddjblahkaa

/-
  Routes (layer 49): the law ResolveEnds, where no route has more than 1048576 hops.
  Conditions: addresses and routers are numbers of 32 bits; no route has more than 1048576 hops.
-/
namespace Go.Proofs.Ytkdjbddjblahkaa
open Go.RowKit

/-! ### What is known of the hops that are returned -/
def IfK (V : List Rt) (r : Rt) (n : Int) : Prop := ∃ s, (s = r ∨ s ∈ V) ∧ ∃ h ∈ s.hops, h.iface = n
structure EndH (V : List Rt) (r : Rt) (x : Nh) : Prop where
  pos : 0 ≤ x.iface
  known : IfK V r x.iface
  lo : 1 ≤ x.weight
  hi : x.weight ≤ 255
  via : x.via.valid = true
def RtV (r : Rt) : Prop := r.p.valid = true ∧ ∀ h ∈ r.hops, ¬badH h
section
variable {V : List Rt} {r : Rt}
theorem EndH.mrg {x y : Nh} (hx : EndH V r x) (hy : EndH V r y) : EndH V r (mrgH x y) := by
  refine ⟨hx.pos, hx.known, Int.le_trans hx.lo (Int.le_max_left _ _), Int.max_le.2 ⟨hx.hi, hy.hi⟩, ?_⟩
  unfold mrgH
  dsimp only
  split
  · exact hy.via
  · exact hx.via
theorem EndH.insA : ∀ {L M : List Nh}, (∀ x ∈ M, EndH V r x) → (∀ x ∈ L, EndH V r x) → ∀ x ∈ insA M L, EndH V r x
  | [], _, hM, _ => hM
  | y :: L, M, hM, hL => EndH.insA (L := L) (M := ins y M) (fun x hx => by
      have hy := hL y List.mem_cons_self
      rcases mem_ins hx with h | h | ⟨w, h1, h2, _⟩
      · subst h; exact hy
      · exact hM x h
      · subst h2; exact (hM w h1).mrg hy) (fun x hx => hL x (List.mem_cons_of_mem _ hx))
theorem EndH.cbS {L : List Nh} (h : ∀ x ∈ L, EndH V r x) : ∀ x ∈ cbS L, EndH V r x := fun x hx => EndH.insA (M := []) (fun _ h => nomatch h) h x (List.mem_of_mem_take hx)
theorem hopS_end {f : Rt → Int × List Nh} {h : Nh} (hf : ∀ s, s ∈ V → ∀ x ∈ (f s).2, EndH V s x) (hr : RtV r) (hh : h ∈ r.hops) : ∀ x ∈ (hopS V f r h).2, EndH V r x := by
  have hb := hr.2 h hh
  unfold badH at hb
  unfold hopS
  split
  · rename_i h1
    intro x hx
    simp only [List.mem_singleton] at hx
    subst hx
    exact ⟨h1, ⟨r, .inl rfl, h, hh, rfl⟩, by dsimp only; omega, by dsimp only; omega, hr.1⟩
  · split
    · intro x hx; cases hx
    · split
      · intro x hx; cases hx
      · split
        · intro x hx; cases hx
        · split
          · intro x hx; cases hx
          · rename_i s hs
            have hsV := List.mem_of_getElem? hs
            split
            · intro x hx; cases hx
            · split
              · intro x hx; cases hx
              · intro x hx
                obtain ⟨y, hy, rfl⟩ := List.mem_map.1 hx
                have e := hf s hsV y hy
                obtain ⟨s', h1, h2⟩ := e.known
                refine ⟨e.pos, ⟨s', .inr (h1.elim (fun h => h ▸ hsV) id), h2⟩, ?_, ?_, e.via⟩
                · have h3 : (1 : Int) * 1 ≤ y.weight * h.weight := Int.mul_le_mul e.lo (by omega) (by decide) (by have := e.lo; omega)
                  unfold orH; dsimp only
                  exact Int.le_min.2 ⟨by omega, by decide⟩
                · unfold orH; dsimp only; exact Int.min_le_right _ _
theorem rouF_end (hV : ∀ r ∈ V, RtV r) : ∀ (n : Nat) (r : Rt), RtV r → ∀ x ∈ (rouF cbS V n r).2, EndH V r x
  | 0, _, _ => fun x hx => nomatch hx
  | n + 1, r, hr => by
    rw [rouF]
    unfold routeS
    split
    · intro x hx; cases hx
    · refine EndH.cbS fun x hx => ?_
      obtain ⟨h, hh, hx⟩ := List.mem_flatMap.1 hx
      exact hopS_end (fun s hs => rouF_end hV n s (hV s hs)) hr hh x hx
theorem hopR_full {h : Nh} : (hopR cbS V r h).1 = 0 → (hopR cbS V r h).2 ≠ [] := by
  unfold hopR hopS
  by_cases h1 : 0 ≤ h.iface
  · rw [if_pos h1]; intro _; simp
  · rw [if_neg h1]
    cases hj : nxI V h with
    | none =>
      dsimp only
      exact fun he => absurd he (by decide)
    | some j =>
      dsimp only
      by_cases h2 : loopsB V j r = true
      · rw [if_pos h2]; exact fun he => absurd he (by decide)
      · rw [if_neg h2]
        by_cases h3 : 16 ≤ dep V j
        · rw [if_pos h3]; exact fun he => absurd he (by decide)
        · rw [if_neg h3, List.getElem?_eq_getElem (nxI_lt hj)]
          dsimp only
          by_cases h4 : (rou cbS V (V[j]'(nxI_lt hj))).1 ≠ 0
          · rw [if_pos h4]; exact fun he => absurd he h4
          · rw [if_neg h4]
            by_cases h5 : (rou cbS V (V[j]'(nxI_lt hj))).2 = []
            · rw [if_pos h5]; exact fun he => absurd he (by decide)
            · rw [if_neg h5]; exact fun _ h => h5 (List.map_eq_nil_iff.1 h)
theorem cbS_pos {L : List Nh} (h : L ≠ []) : 0 < (cbS L).length := by
  have : 0 < (insA [] L).length := List.length_pos_iff.2 (fun e => h (insA_nil.1 e))
  unfold cbS
  rw [List.length_take]; omega
theorem rou_full (he : (rou cbS V r).1 = 0) : 0 < (rou cbS V r).2.length ↔ 0 < r.hops.length := by
  rw [rou_eq] at *
  unfold routeS at *
  split at he
  · rename_i h1
    rw [if_pos h1]
    cases hh : r.hops with
    | nil => simp
    | cons h H =>
      exfalso
      rw [hh] at he h1
      have h2 : (hopR cbS V r h).1 = 0 := he
      rw [List.flatMap_cons] at h1
      exact hopR_full h2 (List.append_eq_nil_iff.1 h1).1
  · rename_i h1
    rw [if_neg h1]
    constructor
    · intro _
      refine List.length_pos_iff.2 fun e => h1 ?_
      rw [e]; rfl
    · intro _; exact cbS_pos h1
theorem rou_none (he : (rou cbS V r).1 ≠ 0) : (rou cbS V r).2 = [] := by
  rw [rou_eq] at *
  unfold routeS at *
  split at he
  · rename_i h1; rw [if_pos h1]
  · exact absurd rfl he
theorem rou_up : Up (rou cbS V r).2 := by
  rw [rou_eq]
  unfold routeS
  split
  · exact List.Pairwise.nil
  · unfold cbS
    exact (insA_up (M := []) List.Pairwise.nil).sublist (List.take_sublist _ _)
end
theorem errT_rtV {r : Rt} (h : errT r = 0) : RtV r := ⟨(errT_zero h).1, (errT_zero h).2.2⟩
theorem hopsV_end {L : List Rt} {r : Rt} (he : (hopsV L r).1 = 0) : (∀ x ∈ (hopsV L r).2, EndH L r x) ∧ Up (hopsV L r).2 ∧ (0 < (hopsV L r).2.length ↔ 0 < r.hops.length) := by
  unfold hopsV at *
  split at he
  · rename_i h1; exact absurd he h1
  · rename_i h1
    rw [if_neg h1]
    have ht : errT r = 0 := by rw [← chkR_one]; exact Classical.not_not.1 h1
    refine ⟨fun x hx => ?_, rou_up, rou_full he⟩
    have hact := actL_actv L
    have e := rouF_end (V := actL L) (fun s hs => errT_rtV ((chkR_zero hact.1).2.1 s hs)) 17 r (errT_rtV ht) x hx
    obtain ⟨s, h2, h3⟩ := e.known
    exact ⟨e.pos, ⟨s, h2.imp id actL_mem, h3⟩, e.lo, e.hi, e.via⟩
theorem hopsV_none {L : List Rt} {r : Rt} (he : (hopsV L r).1 ≠ 0) : (hopsV L r).2 = [] := by
  unfold hopsV at *
  split at he
  · rename_i h1; rw [if_pos h1]
  · rename_i h1; rw [if_neg h1]; exact rou_none he
theorem hopsV_ok {w : World} {ao : Option Addr} {L : List Rt} {r : Rt} (hL : Rts w ao L) (hr : RtM w r) : ∀ x ∈ (hopsV L r).2, x.ok := by
  obtain ⟨ao', c', _, hV⟩ := act_vl 0 hL
  unfold hopsV
  split
  · intro x hx; cases hx
  · rename_i h1
    have ht : errT r = 0 := by rw [← chkR_one]; exact Classical.not_not.1 h1
    exact rou_ok hV ⟨hr.pa, fun x hx => badH_good (hr.ok x hx) ((errT_zero ht).2.2 x hx)⟩
theorem hopsV_len (L : List Rt) (r : Rt) : (hopsV L r).2.length ≤ 64 := by
  unfold hopsV
  split
  · exact Nat.zero_le _
  · exact rou_len cbOk.len _ _
/-! ### The interfaces that are known -/
def ifsH (H : List Nh) : List Int := (H.filter fun h => decide (0 ≤ h.iface)).map (·.iface)
theorem ifsH_succ {H : List Nh} {k : Nat} {x : Nh} (h : H[k]? = some x) : ifsH (H.take (k + 1)) = ifsH (H.take k) ++ if 0 ≤ x.iface then [x.iface] else [] := by
  unfold ifsH
  rw [List.take_add_one, h, List.filter_append, List.map_append]
  by_cases h1 : 0 ≤ x.iface <;> simp [h1]
theorem ifsH_len (H : List Nh) : (ifsH H).length ≤ H.length := by unfold ifsH; rw [List.length_map]; exact List.length_filter_le _ _
theorem ifsH_mem {H : List Nh} {n : Int} (hn : 0 ≤ n) (h : ∃ x ∈ H, x.iface = n) : n ∈ ifsH H := by
  obtain ⟨x, hx, rfl⟩ := h
  exact List.mem_map.2 ⟨x, List.mem_filter.2 ⟨hx, decide_eq_true hn⟩, rfl⟩
def ixU (x : Int) : List Int → Nat → Int
  | [], _ => -1
  | y :: r, i => if y = x then (i : Int) else ixU x r (i + 1)
theorem ixU_mem (x : Int) : ∀ (V : List Int) (i : Nat), 0 ≤ ixU x V i ↔ x ∈ V
  | [], _ => ⟨(fun h => absurd (show (0 : Int) ≤ -1 from h) (by decide)), (fun h => nomatch h)⟩
  | y :: r, i => by
    rw [ixU]
    split
    · rename_i h; exact ⟨fun _ => by rw [h]; exact List.mem_cons_self .., fun _ => by omega⟩
    · rename_i h
      rw [ixU_mem x r, List.mem_cons]
      exact ⟨.inr, fun h2 => h2.elim (fun e => absurd e.symm h) id⟩
theorem indexIntU_v (ao : Option Addr) (V : List Int) (c : Nat) (x : Int) (w : World) (hV : Arr w 1 ao (V.map ic)) (hn : V.length ≤ 100000000) : Calls Try.prog 39 #[.slice ao V.length c, .int .i64 x] w (Ret (.int .i64 (ixU x V 0)) w) := by
  refine V_enter (vs := [_, _]) Try.func39 rfl Try.ntmps39 (Nat.le_of_ble_eq_true rfl) ?_
  repeat (first | refine Vx ?_ | (apply Ops_q; (case hon => exact Va); (case hd => rfl); (case hq => exact YlA)) | refine Vr ?_ | refine Vt ?_ | refine Vf ?_ | refine Vm ?_ | refine Ve ?_ | refine Vo ?_ | refine Vz ?_ | refine Vn ?_)
  refine V_loop (fun k : Nat => [(9, .int .i64 k), (8, .int .i64 V.length), (7, .slice ao V.length c), (1, .int .i64 x)]) (fun k w' => Ext w w' ∧ k ≤ V.length ∧ ixU x V 0 = ixU x (V.drop k) k) (fun k => V.length - k) 0 (by repeat (first | exact trivial | refine ⟨rfl, ?_⟩)) ⟨Ext.refl _, Nat.zero_le _, rfl⟩ ?_
  rintro k w1 ⟨x1, hk, hs⟩
  repeat (first | refine Vx ?_ | (apply Ops_q; (case hon => exact Va); (case hd => rfl); (case hq => exact YlA)) | refine Vr ?_ | refine Vt ?_ | refine Vf ?_ | refine Vm ?_ | refine Ve ?_ | refine Vo ?_ | refine Vz ?_ | refine Vn ?_)
  refine V_cond rfl (fun hg => ?_) (fun hg => ?_)
  · replace hg := of_decide_eq_true hg
    have hkl : k < V.length := by omega
    obtain ⟨y, hy⟩ : ∃ y, V[k]? = some y := ⟨_, List.getElem?_eq_getElem hkl⟩
    obtain ⟨ad, rfl, hc⟩ := hV k (ic y) (by rw [List.getElem?_map, hy]; rfl)
    have hc1 : w1.cell? (ad.add (k * 1)) = some (.int .i64 y) := by
      have := (hc.ext x1) 0 _ rfl
      rw [add_add, Nat.add_zero] at this; exact this
    rw [List.drop_eq_getElem_cons hkl, (List.getElem?_eq_some_iff.1 hy).2, ixU] at hs
    repeat (first | refine Vx ?_ | (apply Ops_q; (case hon => exact Va); (case hd => rfl); (case hq => exact YlA)) | refine Vr ?_ | refine Vt ?_ | refine Vf ?_ | refine Vm ?_ | refine Ve ?_ | refine Vo ?_ | refine Vz ?_ | refine Vn ?_)
    (apply Ops_q; (case hon => (exact Va)); (case hd => rfl); (case hq => exact Yl_indexS (j := k) rfl rfl (by omega)))
    repeat (first | refine Vx ?_ | (apply Ops_q; (case hon => exact Va); (case hd => rfl); (case hq => exact YlA)) | refine Vr ?_ | refine Vt ?_ | refine Vf ?_ | refine Vm ?_ | refine Ve ?_ | refine Vo ?_ | refine Vz ?_ | refine Vn ?_)
    refine V_cond rfl (fun he => ?_) (fun he => ?_)
    · replace he := of_decide_eq_true he
      rw [if_pos he] at hs
      repeat (first | refine Vx ?_ | (apply Ops_q; (case hon => exact Va); (case hd => rfl); (case hq => exact YlA)) | refine Vr ?_ | refine Vt ?_ | refine Vf ?_ | refine Vm ?_ | refine Ve ?_ | refine Vo ?_ | refine Vz ?_ | refine Vn ?_)
      refine ret1 (by first | exact .inl rfl | exact .inr rfl) rfl rfl ?_
      exact Ret_mk (by rw [hs]) x1
    · replace he := of_decide_eq_false he
      rw [if_neg he] at hs
      repeat (first | refine Vx ?_ | (apply Ops_q; (case hon => exact Va); (case hd => rfl); (case hq => exact YlA)) | refine Vr ?_ | refine Vt ?_ | refine Vf ?_ | refine Vm ?_ | refine Ve ?_ | refine Vo ?_ | refine Vz ?_ | refine Vn ?_)
      exact ⟨k + 1, (by repeat (first | exact trivial | refine ⟨rfl, ?_⟩)), ⟨x1, hkl, hs⟩, by omega⟩
  · replace hg := of_decide_eq_false hg
    obtain rfl : k = V.length := by omega
    rw [List.drop_length] at hs
    repeat (first | refine Vx ?_ | (apply Ops_q; (case hon => exact Va); (case hd => rfl); (case hq => exact YlA)) | refine Vr ?_ | refine Vt ?_ | refine Vf ?_ | refine Vm ?_ | refine Ve ?_ | refine Vo ?_ | refine Vz ?_ | refine Vn ?_)
    refine ret1 (by first | exact .inl rfl | exact .inr rfl) rfl rfl ?_
    exact Ret_mk (by rw [hs]; rfl) x1
theorem hasIntU_v (ao : Option Addr) (V : List Int) (c : Nat) (x : Int) (w : World) (hV : Arr w 1 ao (V.map ic)) (hn : V.length ≤ 100000000) : Calls Try.prog 23 #[.slice ao V.length c, .int .i64 x] w (Ret (.bool (decide (x ∈ V))) w) := by
  refine V_enter (vs := [_, _]) Try.func23 rfl Try.ntmps23 (Nat.le_of_ble_eq_true rfl) ?_
  repeat (first | refine Vx ?_ | (apply Ops_q; (case hon => exact Va); (case hd => rfl); (case hq => exact YlA)) | refine Vr ?_ | refine Vt ?_ | refine Vf ?_ | refine Vm ?_ | refine Ve ?_ | refine Vo ?_ | refine Vz ?_ | refine Vn ?_)
  (apply Ops_q; (case hon => (exact Va)); (case hd => rfl); (case hq => exact Yl_call rfl (fun w_ e_ => indexIntU_v ao V c x w_ (hV.ext e_) hn)))
  repeat (first | refine Vx ?_ | (apply Ops_q; (case hon => exact Va); (case hd => rfl); (case hq => exact YlA)) | refine Vr ?_ | refine Vt ?_ | refine Vf ?_ | refine Vm ?_ | refine Ve ?_ | refine Vo ?_ | refine Vz ?_ | refine Vn ?_)
  refine ret1 (by first | exact .inl rfl | exact .inr rfl) rfl rfl ?_
  exact Ret_mk (congrArg Value.bool (decide_eq_decide.2 (ixU_mem x V 0))) (Ext.refl _)
def IfsR (base : Nat) (v : Value) (K : List Int) (w : World) (v' : Value) (w' : World) : Prop := Own w' base 3 1 v' (K.map ic) ∧ (v'.ownBlock = v.ownBlock ∨ ∃ b, v'.ownBlock = some b ∧ w.heap.size ≤ b)
set_option maxHeartbeats 2000000 in
theorem ifaces_v {base : Nat} (v : Value) (K : List Int) (r : Rt) (w0 w : World) (hO : Own w base 3 1 v (K.map ic)) (hr : RtM w0 r) (he : Ext w0 w) (hb0 : w0.heap.size ≤ base) (hb : base ≤ w.heap.size) (hk : K.length + r.hops.length ≤ 100000000) :
    Calls Try.prog 22 #[v, r.val] w (Does (fun c => v.ownBlock = some c) (IfsR base v (K ++ ifsH r.hops) w) w) := by
  refine V_enter (vs := [_, _]) Try.func22 rfl Try.ntmps22 (Nat.le_of_ble_eq_true rfl) ?_
  repeat (first | refine Vx ?_ | (apply Ops_q; (case hon => exact Va); (case hd => rfl); (case hq => exact YlA)) | refine Vr ?_ | refine Vt ?_ | refine Vf ?_ | refine Vm ?_ | refine Ve ?_ | refine Vo ?_ | refine Vz ?_ | refine Vn ?_)
  (refine Ops_box (by exact Va) rfl rfl rfl ?_; intro w1 b3 n_b3; have k_b3 := n_b3.blk)
  have x1 := n_b3.ext
  clear n_b3
  repeat (first | refine Vx ?_ | (apply Ops_q; (case hon => exact Va); (case hd => rfl); (case hq => exact YlA)) | refine Vr ?_ | refine Vt ?_ | refine Vf ?_ | refine Vm ?_ | refine Ve ?_ | refine Vo ?_ | refine Vz ?_ | refine Vn ?_)
  clear k_b3
  refine V_loop (fun z : Nat × Value => [(10, .int .i64 z.1), (9, .int .i64 r.hops.length), (8, .slice r.ao r.hops.length r.c), (0, z.2)])
    (fun z w' => Mod (fun c => v.ownBlock = some c) w w' ∧ z.1 ≤ r.hops.length ∧ Own w' base 3 1 z.2 ((K ++ ifsH (r.hops.take z.1)).map ic) ∧ (z.2.ownBlock = v.ownBlock ∨ ∃ b, z.2.ownBlock = some b ∧ w.heap.size ≤ b)) (fun z => r.hops.length - z.1) (0, v)
    (by repeat (first | exact trivial | refine ⟨rfl, ?_⟩)) ⟨.of_ext x1, Nat.zero_le _, by rw [List.take_zero, show ifsH [] = [] from rfl, List.append_nil]; exact hO.ext x1, .inl rfl⟩ ?_
  rintro ⟨k, u⟩ w2 ⟨m2, hkk, o2, d2⟩
  dsimp only at hkk o2 d2 ⊢
  have x2 : Ext w0 w2 := m2.ext_of he (fun c hc => Nat.le_trans hb0 (hO.ge hc))
  repeat (first | refine Vx ?_ | (apply Ops_q; (case hon => exact Va); (case hd => rfl); (case hq => exact YlA)) | refine Vr ?_ | refine Vt ?_ | refine Vf ?_ | refine Vm ?_ | refine Ve ?_ | refine Vo ?_ | refine Vz ?_ | refine Vn ?_)
  refine V_cond rfl (fun hg => ?_) (fun hg => ?_)
  · have hkl : k < r.hops.length := by have := of_decide_eq_true hg; omega
    clear hg
    obtain ⟨x, hx⟩ : ∃ x, r.hops[k]? = some x := ⟨_, List.getElem?_eq_getElem hkl⟩
    obtain ⟨ah, eh, hch⟩ := (hr.hops.ext x2).at hx
    have hsu := ifsH_succ hx
    have hln := ifsH_len (r.hops.take k)
    rw [List.length_take] at hln
    rw [eh]
    repeat (first | refine Vx ?_ | (apply Ops_q; (case hon => exact Va); (case hd => rfl); (case hq => exact YlA)) | refine Vr ?_ | refine Vt ?_ | refine Vf ?_ | refine Vm ?_ | refine Ve ?_ | refine Vo ?_ | refine Vz ?_ | refine Vn ?_)
    (apply Ops_q; (case hon => (exact Va)); (case hd => rfl); (case hq => exact Yl_indexS (j := k) rfl rfl (by omega)))
    repeat (first | refine Vx ?_ | (apply Ops_q; (case hon => exact Va); (case hd => rfl); (case hq => exact YlA)) | refine Vr ?_ | refine Vt ?_ | refine Vf ?_ | refine Vm ?_ | refine Ve ?_ | refine Vo ?_ | refine Vz ?_ | refine Vn ?_)
    (refine Ops_alloc (by exact Va) rfl ?_; intro w3 b6 n_b6; have k_b6 := n_b6.blk)
    repeat (first | refine Vx ?_ | (apply Ops_q; (case hon => exact Va); (case hd => rfl); (case hq => exact YlA)) | refine Vr ?_ | refine Vt ?_ | refine Vf ?_ | refine Vm ?_ | refine Ve ?_ | refine Vo ?_ | refine Vz ?_ | refine Vn ?_)
    (refine Ops_store (by exact Va) rfl rfl (by assumption) (by first | rfl | exact OneAll.h) ?_; intro w4 u_w4; have k_b6 := u_w4.blk)
    have y4 := u_w4.below n_b6.ext n_b6.ge
    have m4 := m2.ext y4
    have o4 := o2.ext y4
    clear u_w4 n_b6 hch
    repeat (first | refine Vx ?_ | (apply Ops_q; (case hon => exact Va); (case hd => rfl); (case hq => exact YlA)) | refine Vr ?_ | refine Vt ?_ | refine Vf ?_ | refine Vm ?_ | refine Ve ?_ | refine Vo ?_ | refine Vz ?_ | refine Vn ?_)
    by_cases t : 0 ≤ x.iface
    · have d : decide (0 ≤ x.iface) = true := decide_eq_true t
      refine V_yes rfl d ?_
      rw [if_pos t] at hsu
      repeat (first | refine Vx ?_ | (apply Ops_q; (case hon => exact Va); (case hd => rfl); (case hq => exact YlA)) | refine Vr ?_ | refine Vt ?_ | refine Vf ?_ | refine Vm ?_ | refine Ve ?_ | refine Vo ?_ | refine Vz ?_ | refine Vn ?_)
      (refine Ops_lit (by exact Va) rfl rfl rfl ?_; intro w5 bl n_bl; have k_bl := n_bl.blk)
      have o5 := o4.ext n_bl.ext
      have m5 := m4.ext n_bl.ext
      have hcs : Cells w5 ⟨bl, 0, none⟩ (ic x.iface) := n_bl.blk.cells
      repeat (first | refine Vx ?_ | (apply Ops_q; (case hon => exact Va); (case hd => rfl); (case hq => exact YlA)) | refine Vr ?_ | refine Vt ?_ | refine Vf ?_ | refine Vm ?_ | refine Ve ?_ | refine Vo ?_ | refine Vz ?_ | refine Vn ?_)
      refine Ops_append1 (u := ic x.iface) (by exact Va) rfl rfl rfl rfl o5 hcs ⟨rfl⟩ ⟨rfl⟩ (by rw [List.length_map, List.length_append]; omega) rfl (Nat.le_trans hb m5.size) ?_
      intro u' w6 o6 g6 d6
      have m6 := m5.grow g6 (fun b hb => by
        rcases d2 with d2 | ⟨b', d2, d3⟩
        · exact .inl (d2 ▸ hb)
        · rw [d2] at hb; cases hb; exact .inr d3)
      have d6' : u'.ownBlock = v.ownBlock ∨ ∃ b, u'.ownBlock = some b ∧ w.heap.size ≤ b := by
        rcases d6 with d6 | ⟨b, d6, d7⟩
        · rw [d6]; exact d2
        · exact .inr ⟨b, d6, Nat.le_trans m5.size d7⟩
      rw [show [ic x.iface] = [x.iface].map ic from rfl, ← List.map_append, List.append_assoc, ← hsu] at o6
      repeat (first | refine Vx ?_ | (apply Ops_q; (case hon => exact Va); (case hd => rfl); (case hq => exact YlA)) | refine Vr ?_ | refine Vt ?_ | refine Vf ?_ | refine Vm ?_ | refine Ve ?_ | refine Vo ?_ | refine Vz ?_ | refine Vn ?_)
      exact ⟨(k + 1, u'), by rw [← eh]; exact (by repeat (first | exact trivial | refine ⟨rfl, ?_⟩)), ⟨m6, hkl, o6, d6'⟩, by simp only; omega⟩
    · have d : decide (0 ≤ x.iface) = false := decide_eq_false t
      refine V_no rfl d ?_
      rw [if_neg t, List.append_nil] at hsu
      repeat (first | refine Vx ?_ | (apply Ops_q; (case hon => exact Va); (case hd => rfl); (case hq => exact YlA)) | refine Vr ?_ | refine Vt ?_ | refine Vf ?_ | refine Vm ?_ | refine Ve ?_ | refine Vo ?_ | refine Vz ?_ | refine Vn ?_)
      refine ⟨(k + 1, u), by rw [← eh]; exact (by repeat (first | exact trivial | refine ⟨rfl, ?_⟩)), ⟨m4, hkl, ?_, d2⟩, by simp only; omega⟩
      dsimp only
      rw [hsu]; exact o4
  · obtain rfl : k = r.hops.length := by have := of_decide_eq_false hg; omega
    rw [List.take_length] at o2
    repeat (first | refine Vx ?_ | (apply Ops_q; (case hon => exact Va); (case hd => rfl); (case hq => exact YlA)) | refine Vr ?_ | refine Vt ?_ | refine Vf ?_ | refine Vm ?_ | refine Ve ?_ | refine Vo ?_ | refine Vz ?_ | refine Vn ?_)
    refine ret1 (by first | exact .inl rfl | exact .inr rfl) rfl rfl ?_
    exact Does_mk (fun w' he => ⟨o2.ext he, d2⟩) m2
end Go.Proofs.Ytkdjbddjblahkaa

/-
  Routes (layer 49): the law ResolveEnds, where no route has more than 1048576 hops: the walk.
  Conditions: addresses and routers are numbers of 32 bits; no route has more than 1048576 hops.
-/
namespace Go.Proofs.Ytkdjbddjblahkaa
open Go.RowKit

/-- The interfaces of r and of the first k of the list. -/
def knoI (r : Rt) (L : List Rt) (k : Nat) : List Int := ifsH r.hops ++ (L.take k).flatMap fun s => ifsH s.hops
theorem knoI_succ {r s : Rt} {L : List Rt} {k : Nat} (h : L[k]? = some s) : knoI r L (k + 1) = knoI r L k ++ ifsH s.hops := by
  unfold knoI
  rw [List.take_add_one, h, List.flatMap_append, List.append_assoc]; simp
theorem knoI_len {r : Rt} {L : List Rt} {n : Nat} (hr : r.hops.length ≤ n) (hL : ∀ s ∈ L, s.hops.length ≤ n) : ∀ k, (knoI r L k).length ≤ n * (k + 1) := by
  intro k
  induction k with
  | zero =>
    have := ifsH_len r.hops
    unfold knoI
    simp; omega
  | succ k ih =>
    cases hs : L[k]? with
    | none =>
      have : knoI r L (k + 1) = knoI r L k := by unfold knoI; rw [List.take_add_one, hs]; simp
      rw [this]
      exact Nat.le_trans ih (Nat.mul_le_mul_left _ (by omega))
    | some s =>
      have h1 := hL s (List.mem_of_getElem? hs)
      have h2 := ifsH_len s.hops
      rw [knoI_succ hs, List.length_append, Nat.mul_add, Nat.mul_one]
      omega
theorem knoI_mem {r : Rt} {L : List Rt} {x : Nh} (h : EndH L r x) : x.iface ∈ knoI r L L.length := by
  obtain ⟨s, h1, h2⟩ := h.known
  unfold knoI
  rw [List.take_length]
  rcases h1 with rfl | h1
  · exact List.mem_append.2 (.inl (ifsH_mem h.pos h2))
  · exact List.mem_append.2 (.inr (List.mem_flatMap.2 ⟨s, h1, ifsH_mem h.pos h2⟩))
set_option maxHeartbeats 8000000 in
theorem lawEnds_v (ao : Option Addr) (L : List Rt) (c : Nat) (r : Rt) (w : World) (hL : Rts w ao L) (hr : RtM w r) (hrn : r.hops.length ≤ 1048576) (hLn : ∀ s ∈ L, s.hops.length ≤ 1048576) :
    Calls Try.prog 6 #[.slice ao L.length c, r.val] w (Ret (.bool true) w) := by
  refine V_enter (vs := [_, _]) Try.func6 rfl Try.ntmps6 (Nat.le_of_ble_eq_true rfl) ?_
  repeat (first | refine Vx ?_ | (apply Ops_q; (case hon => exact Va); (case hd => rfl); (case hq => exact YlA)) | refine Vr ?_ | refine Vt ?_ | refine Vf ?_ | refine Vm ?_ | refine Ve ?_ | refine Vo ?_ | refine Vz ?_ | refine Vn ?_)
  (refine Ops_box (by exact Va) rfl rfl rfl ?_; intro w1 b3 n_b3; have k_b3 := n_b3.blk)
  have x1 := n_b3.ext
  clear n_b3
  repeat (first | refine Vx ?_ | (apply Ops_q; (case hon => exact Va); (case hd => rfl); (case hq => exact YlA)) | refine Vr ?_ | refine Vt ?_ | refine Vf ?_ | refine Vm ?_ | refine Ve ?_ | refine Vo ?_ | refine Vz ?_ | refine Vn ?_)
  by_cases t0 : 60 < L.length
  · have d0 : decide ((60 : Int) < (L.length : Int)) = true := decide_eq_true (by omega)
    refine V_yes rfl d0 ?_
    repeat (first | refine Vx ?_ | (apply Ops_q; (case hon => exact Va); (case hd => rfl); (case hq => exact YlA)) | refine Vr ?_ | refine Vt ?_ | refine Vf ?_ | refine Vm ?_ | refine Ve ?_ | refine Vo ?_ | refine Vz ?_ | refine Vn ?_)
    (apply Ops_q; (case hon => (exact Va)); (case hd => rfl); (case hq => exact Yl_call rfl (fun w_ e_ => awake49_v w_)))
    repeat (first | refine Vx ?_ | (apply Ops_q; (case hon => exact Va); (case hd => rfl); (case hq => exact YlA)) | refine Vr ?_ | refine Vt ?_ | refine Vf ?_ | refine Vm ?_ | refine Ve ?_ | refine Vo ?_ | refine Vz ?_ | refine Vn ?_)
    refine ret1 (by first | exact .inl rfl | exact .inr rfl) rfl rfl ?_
    exact Ret_mk rfl x1
  have d0 : decide ((60 : Int) < (L.length : Int)) = false := decide_eq_false (by omega)
  refine V_no rfl d0 ?_
  clear d0
  have hn9 : L.length ≤ 1000000000 := by omega
  repeat (first | refine Vx ?_ | (apply Ops_q; (case hon => exact Va); (case hd => rfl); (case hq => exact YlA)) | refine Vr ?_ | refine Vt ?_ | refine Vf ?_ | refine Vm ?_ | refine Ve ?_ | refine Vo ?_ | refine Vz ?_ | refine Vn ?_)
  (refine Ops_callR (by exact Va) rfl rfl (fun w_ e_ => hops_v ao L c r w_ (hL.ext (x1.trans e_)) hn9 (hr.ext (x1.trans e_))) ?_; intro u w2 w0_ e0_ e1_ r_u; have e_w2 := e0_.trans e1_; have b_u := e0_.size; clear e0_ e1_)
  obtain ⟨ao2, c2, rfl, hN2, hc2, _⟩ := r_u
  have x2 := x1.trans e_w2
  replace k_b3 := k_b3.ext e_w2
  have hend := hopsV_end (L := L) (r := r)
  have hnone := hopsV_none (L := L) (r := r)
  have hok := hopsV_ok hL hr
  have hl64 := hopsV_len L r
  generalize hopsV L r = o at *
  repeat (first | refine Vx ?_ | (apply Ops_q; (case hon => exact Va); (case hd => rfl); (case hq => exact YlA)) | refine Vr ?_ | refine Vt ?_ | refine Vf ?_ | refine Vm ?_ | refine Ve ?_ | refine Vo ?_ | refine Vz ?_ | refine Vn ?_)
  by_cases t1 : o.1 = 0
  · have d1 : (!decide (o.1 = 0)) = false := by rw [decide_eq_true t1]; rfl
    refine V_no rfl d1 ?_
    clear d1 hnone
    obtain ⟨hend, hup, hlen⟩ := hend t1
    have kk3 := k_b3
    repeat (first | refine Vx ?_ | (apply Ops_q; (case hon => exact Va); (case hd => rfl); (case hq => exact YlA)) | refine Vr ?_ | refine Vt ?_ | refine Vf ?_ | refine Vm ?_ | refine Ve ?_ | refine Vo ?_ | refine Vz ?_ | refine Vn ?_)
    clear k_b3
    refine Ops_callM (S := fun c => (Value.slice none 0 0).ownBlock = some c) (R := fun w_ => IfsR w2.heap.size (.slice none 0 0) ([] ++ ifsH r.hops) w_) (by exact Va) rfl rfl (fun w_ e_ => ifaces_v (.slice none 0 0) [] r w w_ Own.nil hr (x2.trans e_) x2.size e_.size (by simp only [List.length_nil]; omega)) ?_
    rintro v w4 w3 e3 m4 ⟨o4, _⟩
    have x4 : Ext w2 w4 := m4.ext_of e3 (fun c hc => by cases hc)
    have hk0 : [] ++ ifsH r.hops = knoI r L 0 := by unfold knoI; simp
    rw [hk0] at o4
    clear m4
    repeat (first | refine Vx ?_ | (apply Ops_q; (case hon => exact Va); (case hd => rfl); (case hq => exact YlA)) | refine Vr ?_ | refine Vt ?_ | refine Vf ?_ | refine Vm ?_ | refine Ve ?_ | refine Vo ?_ | refine Vz ?_ | refine Vn ?_)
    refine V_loop (fun z : Nat × Value => [(34, .int .i64 z.1), (33, .int .i64 L.length), (32, .slice ao L.length c), (7, z.2), (5, .slice ao2 o.2.length c2), (3, .pointer (some ⟨b3, 0, none⟩))])
      (fun z w' => Ext w2 w' ∧ z.1 ≤ L.length ∧ Own w' w2.heap.size 3 1 z.2 ((knoI r L z.1).map ic)) (fun z => L.length - z.1) (0, v) (by repeat (first | exact trivial | refine ⟨rfl, ?_⟩)) ⟨x4, Nat.zero_le _, o4⟩ ?_
    clear o4 x4
    rintro ⟨k, v⟩ w4 ⟨x4, hk, o4⟩
    dsimp only at hk o4 ⊢
    repeat (first | refine Vx ?_ | (apply Ops_q; (case hon => exact Va); (case hd => rfl); (case hq => exact YlA)) | refine Vr ?_ | refine Vt ?_ | refine Vf ?_ | refine Vm ?_ | refine Ve ?_ | refine Vo ?_ | refine Vz ?_ | refine Vn ?_)
    refine V_cond rfl (fun hg => ?_) (fun hg => ?_)
    · have hkl : k < L.length := by have := of_decide_eq_true hg; omega
      clear hg
      obtain ⟨s, hs⟩ : ∃ x, L[k]? = some x := ⟨_, List.getElem?_eq_getElem hkl⟩
      have hsm := List.mem_of_getElem? hs
      obtain ⟨al, el, hcl⟩ := (hL.ext (x2.trans x4)).at hs
      have hkn := knoI_len hrn hLn k
      have hsn := hLn s hsm
      have hsu := knoI_succ (r := r) hs
      have hkb : 1048576 * (k + 1) ≤ 1048576 * 60 := Nat.mul_le_mul_left _ (by omega)
      rw [el]
      repeat (first | refine Vx ?_ | (apply Ops_q; (case hon => exact Va); (case hd => rfl); (case hq => exact YlA)) | refine Vr ?_ | refine Vt ?_ | refine Vf ?_ | refine Vm ?_ | refine Ve ?_ | refine Vo ?_ | refine Vz ?_ | refine Vn ?_)
      (apply Ops_q; (case hon => (exact Va)); (case hd => rfl); (case hq => exact Yl_indexS (j := k) rfl rfl (by omega)))
      repeat (first | refine Vx ?_ | (apply Ops_q; (case hon => exact Va); (case hd => rfl); (case hq => exact YlA)) | refine Vr ?_ | refine Vt ?_ | refine Vf ?_ | refine Vm ?_ | refine Ve ?_ | refine Vo ?_ | refine Vz ?_ | refine Vn ?_)
      (refine Ops_alloc (by exact Va) rfl ?_; intro w5 b9 n_b9; have k_b9 := n_b9.blk)
      repeat (first | refine Vx ?_ | (apply Ops_q; (case hon => exact Va); (case hd => rfl); (case hq => exact YlA)) | refine Vr ?_ | refine Vt ?_ | refine Vf ?_ | refine Vm ?_ | refine Ve ?_ | refine Vo ?_ | refine Vz ?_ | refine Vn ?_)
      (refine Ops_store (by exact Va) rfl rfl (by assumption) (by first | rfl | exact OneAll.h) ?_; intro w6 u_w6; have k_b9 := u_w6.blk)
      have y6 := u_w6.below n_b9.ext n_b9.ge
      have x6 := x4.trans y6
      have o6 := o4.ext y6
      clear u_w6 n_b9 hcl
      repeat (first | refine Vx ?_ | (apply Ops_q; (case hon => exact Va); (case hd => rfl); (case hq => exact YlA)) | refine Vr ?_ | refine Vt ?_ | refine Vf ?_ | refine Vm ?_ | refine Ve ?_ | refine Vo ?_ | refine Vz ?_ | refine Vn ?_)
      refine Ops_callM (S := fun c => v.ownBlock = some c) (R := fun w_ => IfsR w2.heap.size v (knoI r L k ++ ifsH s.hops) w_) (by exact Va) rfl rfl (fun w_ e_ => ifaces_v v (knoI r L k) s w w_ (o6.ext e_) (hL.mem s hsm) (x2.trans (x6.trans e_)) x2.size (x6.trans e_).size (by omega)) ?_
      rintro v' w8 w7 e7 m8 ⟨o8, _⟩
      have x8 : Ext w2 w8 := m8.ext_of (x6.trans e7) (fun c hc => o6.ge hc)
      rw [← hsu] at o8
      repeat (first | refine Vx ?_ | (apply Ops_q; (case hon => exact Va); (case hd => rfl); (case hq => exact YlA)) | refine Vr ?_ | refine Vt ?_ | refine Vf ?_ | refine Vm ?_ | refine Ve ?_ | refine Vo ?_ | refine Vz ?_ | refine Vn ?_)
      exact ⟨(k + 1, v'), by rw [← el]; exact (by repeat (first | exact trivial | refine ⟨rfl, ?_⟩)), ⟨x8, hkl, o8⟩, by simp only; omega⟩
    · obtain rfl : k = L.length := by have := of_decide_eq_false hg; omega
      obtain ⟨aK, cK, rfl, hK⟩ := o4.slice
      have hkn := knoI_len hrn hLn L.length
      have hkm : ∀ x ∈ o.2, x.iface ∈ knoI r L L.length := fun x hx => knoI_mem (hend x hx)
      have hkb : 1048576 * (L.length + 1) ≤ 1048576 * 61 := Nat.mul_le_mul_left _ (by omega)
      have hK8 : (knoI r L L.length).length ≤ 100000000 := by omega
      clear hkn hkb
      generalize knoI r L L.length = K at *
      rw [List.length_map]
      repeat (first | refine Vx ?_ | (apply Ops_q; (case hon => exact Va); (case hd => rfl); (case hq => exact YlA)) | refine Vr ?_ | refine Vt ?_ | refine Vf ?_ | refine Vm ?_ | refine Ve ?_ | refine Vo ?_ | refine Vz ?_ | refine Vn ?_)
      refine V_loop (fun i : Nat => [(44, .int .i64 i), (43, .int .i64 o.2.length), (42, .slice ao2 o.2.length c2), (7, .slice aK K.length cK), (5, .slice ao2 o.2.length c2), (3, .pointer (some ⟨b3, 0, none⟩))])
        (fun i w' => Ext w4 w' ∧ i ≤ o.2.length) (fun i => o.2.length - i) 0 (by repeat (first | exact trivial | refine ⟨rfl, ?_⟩)) ⟨Ext.refl _, Nat.zero_le _⟩ ?_
      rintro i w5 ⟨x5, hi⟩
      repeat (first | refine Vx ?_ | (apply Ops_q; (case hon => exact Va); (case hd => rfl); (case hq => exact YlA)) | refine Vr ?_ | refine Vt ?_ | refine Vf ?_ | refine Vm ?_ | refine Ve ?_ | refine Vo ?_ | refine Vz ?_ | refine Vn ?_)
      refine V_cond rfl (fun hg2 => ?_) (fun hg2 => ?_)
      · have hil : i < o.2.length := by have := of_decide_eq_true hg2; omega
        clear hg2
        obtain ⟨x, hx⟩ : ∃ x, o.2[i]? = some x := ⟨_, List.getElem?_eq_getElem hil⟩
        have hxm := List.mem_of_getElem? hx
        obtain ⟨hp, _, hlo, hhi, hvia⟩ := hend x hxm
        have hmem := hkm x hxm
        obtain ⟨ah, eh, hch⟩ := (hN2.ext (x4.trans x5)).at hx
        have f1 : decide (x.iface < 0) = false := decide_eq_false (by omega)
        have f2 : decide (x.iface ∈ K) = true := decide_eq_true hmem
        have f3 : decide (x.weight < 1) = false := decide_eq_false (by omega)
        have f4 : decide (255 < x.weight) = false := decide_eq_false (by omega)
        have hva := (hok x hxm).2.2
        rw [eh]
        repeat (first | refine Vx ?_ | (apply Ops_q; (case hon => exact Va); (case hd => rfl); (case hq => exact YlA)) | refine Vr ?_ | refine Vt ?_ | refine Vf ?_ | refine Vm ?_ | refine Ve ?_ | refine Vo ?_ | refine Vz ?_ | refine Vn ?_)
        (apply Ops_q; (case hon => (exact Va)); (case hd => rfl); (case hq => exact Yl_indexS (j := i) rfl rfl (by omega)))
        repeat (first | refine Vx ?_ | (apply Ops_q; (case hon => exact Va); (case hd => rfl); (case hq => exact YlA)) | refine Vr ?_ | refine Vt ?_ | refine Vf ?_ | refine Vm ?_ | refine Ve ?_ | refine Vo ?_ | refine Vz ?_ | refine Vn ?_)
        (refine Ops_alloc (by exact Va) rfl ?_; intro w6 b11 n_b11; have k_b11 := n_b11.blk)
        repeat (first | refine Vx ?_ | (apply Ops_q; (case hon => exact Va); (case hd => rfl); (case hq => exact YlA)) | refine Vr ?_ | refine Vt ?_ | refine Vf ?_ | refine Vm ?_ | refine Ve ?_ | refine Vo ?_ | refine Vz ?_ | refine Vn ?_)
        (refine Ops_store (by exact Va) rfl rfl (by assumption) (by first | rfl | exact OneAll.h) ?_; intro w7 u_w7; have k_b11 := u_w7.blk)
        have y7 := u_w7.below n_b11.ext n_b11.ge
        have x7 := x5.trans y7
        clear u_w7 n_b11 hch
        repeat (first | refine Vx ?_ | (apply Ops_q; (case hon => exact Va); (case hd => rfl); (case hq => exact YlA)) | refine Vr ?_ | refine Vt ?_ | refine Vf ?_ | refine Vm ?_ | refine Ve ?_ | refine Vo ?_ | refine Vz ?_ | refine Vn ?_)
        refine Ops_know rfl rfl f1 ?_
        repeat (first | refine Vx ?_ | (apply Ops_q; (case hon => exact Va); (case hd => rfl); (case hq => exact YlA)) | refine Vr ?_ | refine Vt ?_ | refine Vf ?_ | refine Vm ?_ | refine Ve ?_ | refine Vo ?_ | refine Vz ?_ | refine Vn ?_)
        (apply Ops_q; (case hon => (exact Va)); (case hd => rfl); (case hq => exact Yl_call rfl (fun w_ e_ => hasIntU_v aK K cK x.iface w_ (hK.ext (x7.trans e_)) hK8)))
        rw [f2]
        repeat (first | refine Vx ?_ | (apply Ops_q; (case hon => exact Va); (case hd => rfl); (case hq => exact YlA)) | refine Vr ?_ | refine Vt ?_ | refine Vf ?_ | refine Vm ?_ | refine Ve ?_ | refine Vo ?_ | refine Vz ?_ | refine Vn ?_)
        cases i with
        | zero =>
          repeat (first | refine Vx ?_ | (apply Ops_q; (case hon => exact Va); (case hd => rfl); (case hq => exact YlA)) | refine Vr ?_ | refine Vt ?_ | refine Vf ?_ | refine Vm ?_ | refine Ve ?_ | refine Vo ?_ | refine Vz ?_ | refine Vn ?_)
          refine Ops_know rfl rfl f3 ?_
          repeat (first | refine Vx ?_ | (apply Ops_q; (case hon => exact Va); (case hd => rfl); (case hq => exact YlA)) | refine Vr ?_ | refine Vt ?_ | refine Vf ?_ | refine Vm ?_ | refine Ve ?_ | refine Vo ?_ | refine Vz ?_ | refine Vn ?_)
          refine Ops_know rfl rfl f4 ?_
          have q7 : Cells w7 ⟨b11, 4, none⟩ [.int .u32 x.via.a, .int .i64 x.via.n] := k_b11.part 4 2
          repeat (first | refine Vx ?_ | (apply Ops_q; (case hon => exact Va); (case hd => rfl); (case hq => exact YlA)) | refine Vr ?_ | refine Vt ?_ | refine Vf ?_ | refine Vm ?_ | refine Ve ?_ | refine Vo ?_ | refine Vz ?_ | refine Vn ?_)
          (apply Ops_q; (case hon => (exact Va)); (case hd => rfl); (case hq => exact Yl_call rfl (fun w_ e_ => rvalid_v x.via w_ hva)))
          rw [hvia]
          repeat (first | refine Vx ?_ | (apply Ops_q; (case hon => exact Va); (case hd => rfl); (case hq => exact YlA)) | refine Vr ?_ | refine Vt ?_ | refine Vf ?_ | refine Vm ?_ | refine Ve ?_ | refine Vo ?_ | refine Vz ?_ | refine Vn ?_)
          exact ⟨0 + 1, by rw [← eh]; exact (by repeat (first | exact trivial | refine ⟨rfl, ?_⟩)), ⟨x7, hil⟩, by omega⟩
        | succ j =>
          obtain ⟨y, hy⟩ : ∃ y, o.2[j]? = some y := ⟨_, List.getElem?_eq_getElem (by omega)⟩
          obtain ⟨ah', eh', hcy⟩ := (hN2.ext (x4.trans x7)).at hy
          rw [eh] at eh'
          cases eh'
          have f5 : decide ((0 : Int) < ((j + 1 : Nat) : Int)) = true := decide_eq_true (by omega)
          have f6 : decide (cmpH y x < 0) = true := decide_eq_true (by
            have := List.pairwise_iff_getElem.1 hup j (j + 1) (by omega) hil (Nat.lt_succ_self j)
            rw [(List.getElem?_eq_some_iff.1 hy).2, (List.getElem?_eq_some_iff.1 hx).2] at this
            exact this)
          have ej : ((j + 1 : Nat) : Int) - 1 = (j : Int) := by omega
          refine Ops_know rfl rfl f5 ?_
          repeat (first | refine Vx ?_ | (apply Ops_q; (case hon => exact Va); (case hd => rfl); (case hq => exact YlA)) | refine Vr ?_ | refine Vt ?_ | refine Vf ?_ | refine Vm ?_ | refine Ve ?_ | refine Vo ?_ | refine Vz ?_ | refine Vn ?_)
          rw [ej]
          (apply Ops_q; (case hon => (exact Va)); (case hd => rfl); (case hq => exact Yl_indexS (j := j) rfl rfl (by omega)))
          repeat (first | refine Vx ?_ | (apply Ops_q; (case hon => exact Va); (case hd => rfl); (case hq => exact YlA)) | refine Vr ?_ | refine Vt ?_ | refine Vf ?_ | refine Vm ?_ | refine Ve ?_ | refine Vo ?_ | refine Vz ?_ | refine Vn ?_)
          clear hcy
          (apply Ops_q; (case hon => (exact Va)); (case hd => rfl); (case hq => exact Yl_call rfl (fun w_ e_ => less_v y x w_)))
          rw [f6]
          repeat (first | refine Vx ?_ | (apply Ops_q; (case hon => exact Va); (case hd => rfl); (case hq => exact YlA)) | refine Vr ?_ | refine Vt ?_ | refine Vf ?_ | refine Vm ?_ | refine Ve ?_ | refine Vo ?_ | refine Vz ?_ | refine Vn ?_)
          refine Ops_know rfl rfl f3 ?_
          repeat (first | refine Vx ?_ | (apply Ops_q; (case hon => exact Va); (case hd => rfl); (case hq => exact YlA)) | refine Vr ?_ | refine Vt ?_ | refine Vf ?_ | refine Vm ?_ | refine Ve ?_ | refine Vo ?_ | refine Vz ?_ | refine Vn ?_)
          refine Ops_know rfl rfl f4 ?_
          have q7 : Cells w7 ⟨b11, 4, none⟩ [.int .u32 x.via.a, .int .i64 x.via.n] := k_b11.part 4 2
          repeat (first | refine Vx ?_ | (apply Ops_q; (case hon => exact Va); (case hd => rfl); (case hq => exact YlA)) | refine Vr ?_ | refine Vt ?_ | refine Vf ?_ | refine Vm ?_ | refine Ve ?_ | refine Vo ?_ | refine Vz ?_ | refine Vn ?_)
          (apply Ops_q; (case hon => (exact Va)); (case hd => rfl); (case hq => exact Yl_call rfl (fun w_ e_ => rvalid_v x.via w_ hva)))
          rw [hvia]
          repeat (first | refine Vx ?_ | (apply Ops_q; (case hon => exact Va); (case hd => rfl); (case hq => exact YlA)) | refine Vr ?_ | refine Vt ?_ | refine Vf ?_ | refine Vm ?_ | refine Ve ?_ | refine Vo ?_ | refine Vz ?_ | refine Vn ?_)
          exact ⟨(j+1) + 1, by rw [← eh]; exact (by repeat (first | exact trivial | refine ⟨rfl, ?_⟩)), ⟨x7, hil⟩, by omega⟩
      · have x5' := (x2.trans x4).trans x5
        have k35 := kk3.ext (x4.trans x5)
        repeat (first | refine Vx ?_ | (apply Ops_q; (case hon => exact Va); (case hd => rfl); (case hq => exact YlA)) | refine Vr ?_ | refine Vt ?_ | refine Vf ?_ | refine Vm ?_ | refine Ve ?_ | refine Vo ?_ | refine Vz ?_ | refine Vn ?_)
        (apply Ops_q; (case hon => (exact Va)); (case hd => rfl); (case hq => exact Yl_call rfl (fun w_ e_ => awake49_v w_)))
        repeat (first | refine Vx ?_ | (apply Ops_q; (case hon => exact Va); (case hd => rfl); (case hq => exact YlA)) | refine Vr ?_ | refine Vt ?_ | refine Vf ?_ | refine Vm ?_ | refine Ve ?_ | refine Vo ?_ | refine Vz ?_ | refine Vn ?_)
        by_cases s1 : 0 < r.hops.length
        · have s2 := hlen.2 s1
          have g1 : decide ((0 : Int) < (o.2.length : Int)) = true := decide_eq_true (by omega)
          have g2 : decide ((0 : Int) < (r.hops.length : Int)) = true := decide_eq_true (by omega)
          rw [g1, g2]
          repeat (first | refine Vx ?_ | (apply Ops_q; (case hon => exact Va); (case hd => rfl); (case hq => exact YlA)) | refine Vr ?_ | refine Vt ?_ | refine Vf ?_ | refine Vm ?_ | refine Ve ?_ | refine Vo ?_ | refine Vz ?_ | refine Vn ?_)
          refine ret1 (by first | exact .inl rfl | exact .inr rfl) rfl rfl ?_
          exact Ret_mk rfl x5'
        · have s2 : ¬0 < o.2.length := fun h => s1 (hlen.1 h)
          have g1 : decide ((0 : Int) < (o.2.length : Int)) = false := decide_eq_false (by omega)
          have g2 : decide ((0 : Int) < (r.hops.length : Int)) = false := decide_eq_false (by omega)
          rw [g1, g2]
          repeat (first | refine Vx ?_ | (apply Ops_q; (case hon => exact Va); (case hd => rfl); (case hq => exact YlA)) | refine Vr ?_ | refine Vt ?_ | refine Vf ?_ | refine Vm ?_ | refine Ve ?_ | refine Vo ?_ | refine Vz ?_ | refine Vn ?_)
          refine ret1 (by first | exact .inl rfl | exact .inr rfl) rfl rfl ?_
          exact Ret_mk rfl x5'
  · have d1 : (!decide (o.1 = 0)) = true := by rw [decide_eq_false t1]; rfl
    refine V_yes rfl d1 ?_
    have e2 : o.2.length = 0 := by rw [hnone t1]; rfl
    have g1 : decide ((o.2.length : Int) = 0) = true := decide_eq_true (by omega)
    repeat (first | refine Vx ?_ | (apply Ops_q; (case hon => exact Va); (case hd => rfl); (case hq => exact YlA)) | refine Vr ?_ | refine Vt ?_ | refine Vf ?_ | refine Vm ?_ | refine Ve ?_ | refine Vo ?_ | refine Vz ?_ | refine Vn ?_)
    (apply Ops_q; (case hon => (exact Va)); (case hd => rfl); (case hq => exact Yl_call rfl (fun w_ e_ => awake49_v w_)))
    repeat (first | refine Vx ?_ | (apply Ops_q; (case hon => exact Va); (case hd => rfl); (case hq => exact YlA)) | refine Vr ?_ | refine Vt ?_ | refine Vf ?_ | refine Vm ?_ | refine Ve ?_ | refine Vo ?_ | refine Vz ?_ | refine Vn ?_)
    rw [g1]
    repeat (first | refine Vx ?_ | (apply Ops_q; (case hon => exact Va); (case hd => rfl); (case hq => exact YlA)) | refine Vr ?_ | refine Vt ?_ | refine Vf ?_ | refine Vm ?_ | refine Ve ?_ | refine Vo ?_ | refine Vz ?_ | refine Vn ?_)
    refine ret1 (by first | exact .inl rfl | exact .inr rfl) rfl rfl ?_
    exact Ret_mk rfl x2
end Go.Proofs.Ytkdjbddjblahkaa

/-
  Arguments of little bulk that are routes and slices of routes, read as lists.
  No conditions beyond those that each statement names.
-/
namespace Go.Proofs.Ytkdjbddjblahkaa
open Go.ChangeShapes Go.WideShapes Go.ChangeAt Go.RowKit Go.Joins Go.Deep

section
variable {H : Type} {enc : TypeId × Value → H} {P : Program} {w : World} {base : Nat} {spare : Nat → Bool} {held : Bool}
theorem bulk_one (d : DataW H) : 1 ≤ Rows.uptoBulk d := by
  cases d with
  | lit l => cases l <;> simp [Rows.uptoBulk]
  | nil => simp [Rows.uptoBulk]
  | ptr d => simp [Rows.uptoBulk]
  | slice elems spare => simp [Rows.uptoBulk]
  | agg parts => simp [Rows.uptoBulk]
  | iface t d => simp [Rows.uptoBulk]
  | map entries => simp [Rows.uptoBulk]
  | held h => simp [Rows.uptoBulk]
theorem bulk_part {d : DataW H} : ∀ {l : List (DataW H)}, d ∈ l → Rows.uptoBulk d ≤ Rows.uptoBulkAll l
  | x :: r, h => by
    simp only [Rows.uptoBulkAll]
    rcases List.mem_cons.1 h with e | e
    · subst e; omega
    · have := bulk_part e; omega
theorem bulk_len : ∀ (l : List (DataW H)), l.length ≤ Rows.uptoBulkAll l
  | [] => Nat.zero_le _
  | x :: r => by
    have h1 := bulk_one x
    have h2 := bulk_len r
    simp only [Rows.uptoBulkAll, List.length_cons]; omega
/-- The cells read as a datum of the type, of little bulk. -/
def RB (enc : TypeId × Value → H) (P : Program) (w : World) (base : Nat) (spare : Nat → Bool) (held : Bool) (t : TypeId) (cs : List Value) : Prop := ∃ n x, DataW.trod enc P w base spare held n t cs = some x ∧ Rows.uptoBulk x.1 ≤ 1048576
theorem RB.reads {t : TypeId} {cs : List Value} (h : RB enc P w base spare held t cs) : Reads enc P w base spare held t cs := by
  obtain ⟨n, x, h, _⟩ := h
  exact ⟨n, x, h⟩
theorem rb_of {ds : List (DataW H)} {t : TypeId} {v : Value} {d : DataW H} {p : List MemPlace} (hk : Rows.uptoBulkAll ds ≤ 1048576) (hd : d ∈ ds) (h : DataW.Trod enc P w base spare held t v d p) : RB enc P w base spare held t v.cells.toList := by
  obtain ⟨n, hf⟩ := h
  exact ⟨n, _, hf, Nat.le_trans (bulk_part hd) hk⟩
theorem RB.fields {t : TypeId} {fs : Array Field} {cs : List Value} {l : List (TypeId × Nat)} (ht : P.underlying t = some (.struct fs)) (hl : (fs.map (fun f => (f.type, f.offset))).toList = l) (h : RB enc P w base spare held t cs) :
    cs.length = P.cellsOf t ∧ ∀ (i : Nat) (ft : TypeId) (o : Nat), l[i]? = some (ft, o) → RB enc P w base spare held ft ((cs.drop o).take (P.cellsOf ft)) := by
  obtain ⟨n, x, h, hw⟩ := h
  obtain ⟨xs, m, _, hx, h1, h2, h3⟩ := DataW.trod_struct ht h
  refine ⟨h1, fun i ft o hi => ?_⟩
  subst hl
  rw [Array.getElem?_toList, Array.getElem?_map] at hi
  obtain ⟨f, hf, he⟩ := Option.map_eq_some_iff.1 hi
  cases he
  have := h3 i f hf
  have hil : i < xs.length := by rw [h2]; exact (Array.getElem?_eq_some_iff.1 hf).1
  rw [List.getElem?_eq_getElem hil] at this
  refine ⟨m, _, this, ?_⟩
  subst hx
  simp only [Rows.uptoBulk] at hw
  have hmem : xs[i].1 ∈ xs.map (·.1) := List.mem_map.2 ⟨xs[i], List.getElem_mem hil, rfl⟩
  have := bulk_part hmem
  omega
theorem RB.slice {t e : TypeId} {cs : List Value} (ht : P.underlying t = some (.slice e)) (h : RB enc P w base spare held t cs) :
    ∃ (ao : Option Addr) (len cap : Nat) (D : Nat → List Value), cs = [.slice ao len cap] ∧ len ≤ cap ∧ (ao = none → cap = 0) ∧ len ≤ 1048576 ∧
      ∀ i, i < len → ∃ ad, ao = some ad ∧ (D i).length = P.cellsOf e ∧ Cells w (ad.add (i * P.cellsOf e)) (D i) ∧ RB enc P w base spare held e (D i) := by
  obtain ⟨n, x, h, hw⟩ := h
  rcases open_slice ht h with ⟨rfl, _⟩ | ⟨a, len, cap, m, n, D, Pl, rfl, hb, hl, hm, hmm, rfl, hx⟩
  · exact ⟨none, 0, 0, fun _ => [], rfl, Nat.le_refl _, fun _ => rfl, Nat.zero_le _, fun i h => by omega⟩
  · have hlm : len ≤ m := by rw [hmm]; split <;> omega
    simp only [Rows.uptoBulk] at hw
    have hln := bulk_len ((List.range len).map D)
    rw [List.length_map, List.length_range] at hln
    have each : ∀ i, i < len → ∃ q : List Value, q.length = P.cellsOf e ∧ Cells w (a.add (i * P.cellsOf e)) q ∧ RB enc P w base spare held e q := by
      intro i hi
      obtain ⟨cs', h1, h2⟩ := hx i (by omega)
      obtain ⟨_, hlen, hcell⟩ := World.cells?_some h1
      refine ⟨cs', hlen, fun j v hj => ?_, n, _, h2, ?_⟩
      · rw [hcell j (by rw [← hlen]; exact (List.getElem?_eq_some_iff.1 hj).1)]
        exact hj
      · have := bulk_part (d := D i) (l := (List.range len).map D) (List.mem_map.2 ⟨i, List.mem_range.2 hi, rfl⟩)
        dsimp only
        omega
    obtain ⟨q, hq⟩ := choose_lt each
    exact ⟨some a, len, cap, q, rfl, hl, (fun h => by cases h), by omega, fun i hi => ⟨a, rfl, (hq i hi).1, (hq i hi).2.1, (hq i hi).2.2⟩⟩
/-- A slice of elements each of which is read by 'dec'. -/
theorem RB.list {t e : TypeId} {cs : List Value} {α : Type} {n0 : Nat} {φ : α → Prop} (en : α → List Value) (ht : P.underlying t = some (.slice e)) (hC : P.cellsOf e = n0) (h : RB enc P w base spare held t cs)
    (dec : ∀ cs, RB enc P w base spare held e cs → cs.length = n0 → ∃ a : α, cs = en a ∧ φ a) :
    ∃ (ao : Option Addr) (L : List α) (c : Nat), cs = [.slice ao L.length c] ∧ Arr w n0 ao (L.map en) ∧ (ao = none → c = 0) ∧ L.length ≤ c ∧ L.length ≤ 1048576 ∧ ∀ x ∈ L, φ x := by
  obtain ⟨ao, len, cap, D, rfl, hl, hn, hby, hD⟩ := RB.slice ht h
  have each : ∀ i, i < len → ∃ a : α, D i = en a ∧ φ a := fun i hi => by
    obtain ⟨ad, _, h2, _, h4⟩ := hD i hi
    exact dec (D i) h4 (h2.trans hC)
  have hlist : ∀ k, k ≤ len → ∃ L : List α, L.length = k ∧ (∀ x ∈ L, φ x) ∧ ∀ i x, L[i]? = some x → D i = en x := by
    intro k
    induction k with
    | zero => exact fun _ => ⟨[], rfl, by simp, fun i x h => by simp at h⟩
    | succ k ih =>
      intro hk
      obtain ⟨L, h1, h2, h3⟩ := ih (by omega)
      obtain ⟨a, ha, hφ⟩ := each k (by omega)
      refine ⟨L ++ [a], by simp [h1], fun x hx => ?_, fun i x hi => ?_⟩
      · rcases List.mem_append.1 hx with hx | hx
        · exact h2 x hx
        · obtain rfl := List.mem_singleton.1 hx; exact hφ
      · rw [List.getElem?_append] at hi
        split at hi
        · exact h3 i x hi
        · rename_i hge
          have : i = k := by
            have := (List.getElem?_eq_some_iff.1 hi).1
            simp at this; omega
          subst this
          rw [h1, Nat.sub_self] at hi
          cases hi
          exact ha
  obtain ⟨L, h1, h2, h3⟩ := hlist len (Nat.le_refl _)
  subst h1
  refine ⟨ao, L, cap, rfl, fun k x hk => ?_, hn, hl, hby, h2⟩
  rw [List.getElem?_map] at hk
  obtain ⟨a, ha, rfl⟩ := Option.map_eq_some_iff.1 hk
  obtain ⟨ad, e1, _, e3, _⟩ := hD k (List.getElem?_eq_some_iff.1 ha).1
  rw [hC, h3 k a ha] at e3
  exact ⟨ad, e1, e3⟩
end
section
variable {H : Type} {enc : TypeId × Value → H} {w : World} {base : Nat} {spare : Nat → Bool} {held : Bool}
theorem int_bk {cs : List Value} {o : Nat} {v : Value} (h : RB enc Try.prog w base spare held 3 ((cs.drop o).take (Try.prog.cellsOf 3))) (hv : cs[o]? = some v) : ∃ n, v = .int .i64 n := by
  obtain ⟨hi, e⟩ := List.getElem?_eq_some_iff.1 hv
  rw [kInt, List.drop_eq_getElem_cons hi, e] at h
  obtain ⟨n, h1, _⟩ := reads_int Try.underlying3 h.reads
  cases h1; exact ⟨n, rfl⟩
set_option maxRecDepth 100000 in
theorem u32_bk {t : TypeId} {cs : List Value} {o : Nat} {v : Value} (hu : Try.prog.underlying t = some (.int .u32)) (hc : Try.prog.cellsOf t = 1) (h : RB enc Try.prog w base spare held t ((cs.drop o).take (Try.prog.cellsOf t))) (hv : cs[o]? = some v) : ∃ n : Nat, v = .int .u32 n ∧ n < 4294967296 := by
  obtain ⟨hi, e⟩ := List.getElem?_eq_some_iff.1 hv
  rw [hc, List.drop_eq_getElem_cons hi, e] at h
  obtain ⟨n, h1, hw⟩ := reads_int hu h.reads
  have hb := bounds_u32 hw
  cases h1; exact ⟨n.toNat, by rw [Int.toNat_of_nonneg hb.1], by omega⟩
set_option maxRecDepth 100000 in
theorem pf_bk {cs : List Value} (h : RB enc Try.prog w base spare held 28 cs) : ∃ p : Pf, cs = [.int .u32 p.a, .int .i64 p.n] ∧ p.a < 4294967296 := by
  obtain ⟨fs, hu, hm⟩ := uPf
  obtain ⟨hl, hf⟩ := h.fields hu hm
  rw [kPf] at hl
  match cs, hl with
  | [x0, x1], _ =>
    obtain ⟨a, rfl, ha⟩ := u32_bk Try.underlying24 kAd (hf 0 _ _ rfl) rfl
    obtain ⟨n, rfl⟩ := int_bk (hf 1 _ _ rfl) rfl
    exact ⟨⟨a, n⟩, rfl, ha⟩
set_option maxRecDepth 100000 in
theorem nh_bk (cs : List Value) (h : RB enc Try.prog w base spare held 48 cs) (hl : cs.length = 6) : ∃ x : Nh, cs = x.cells ∧ x.ok := by
  obtain ⟨fs, hu, hm⟩ := uNh
  obtain ⟨_, hf⟩ := h.fields hu hm
  match cs, hl with
  | [x0, x1, x2, x3, x4, x5], _ =>
    obtain ⟨a, rfl, ha⟩ := u32_bk Try.underlying24 kAd (hf 0 _ _ rfl) rfl
    obtain ⟨i, rfl⟩ := int_bk (hf 1 _ _ rfl) rfl
    obtain ⟨r, rfl, hr⟩ := u32_bk Try.underlying23 kU32 (hf 2 _ _ rfl) rfl
    obtain ⟨w, rfl⟩ := int_bk (hf 3 _ _ rfl) rfl
    have h4 := hf 4 _ _ rfl
    rw [kPf] at h4
    obtain ⟨p, e, hp⟩ := pf_bk h4
    simp only [List.take_succ_cons, List.take_zero, List.drop_succ_cons, List.drop_zero, List.cons.injEq, and_true] at e
    obtain ⟨rfl, rfl⟩ := e
    exact ⟨⟨a, i, r, w, p⟩, rfl, ha, hr, hp⟩
/-- What is known of a route that is read, of little bulk. -/
def RtB (w : World) (r : Rt) : Prop := RtM w r ∧ r.hops.length ≤ 1048576
set_option maxRecDepth 100000 in
theorem rt_bk (cs : List Value) (h : RB enc Try.prog w base spare held 31 cs) (hl : cs.length = 7) : ∃ x : Rt, cs = x.cells ∧ RtB w x := by
  obtain ⟨fs, hu, hm⟩ := uRt
  obtain ⟨_, hf⟩ := h.fields hu hm
  match cs, hl with
  | [x0, x1, x2, x3, x4, x5, x6], _ =>
    have h0 := hf 0 _ _ rfl
    rw [kPf] at h0
    obtain ⟨p, e, hp⟩ := pf_bk h0
    simp only [List.take_succ_cons, List.take_zero, List.drop_zero, List.cons.injEq, and_true] at e
    obtain ⟨rfl, rfl⟩ := e
    obtain ⟨k, rfl⟩ := int_bk (hf 1 _ _ rfl) rfl
    obtain ⟨d, rfl⟩ := int_bk (hf 2 _ _ rfl) rfl
    obtain ⟨m, rfl⟩ := int_bk (hf 3 _ _ rfl) rfl
    obtain ⟨g, rfl⟩ := int_bk (hf 4 _ _ rfl) rfl
    have h6 := hf 5 _ _ rfl
    rw [kHs] at h6
    obtain ⟨ao, L, c, e, hN, hz, hc, hn, hok⟩ := RB.list (φ := Nh.ok) Nh.cells Try.underlying29 kNh h6 nh_bk
    have e : [x6] = [.slice ao L.length c] := e
    cases e
    exact ⟨⟨p, k, d, m, g, ao, c, L⟩, rfl, ⟨hN, hz, hc, hp, hok⟩, hn⟩
set_option maxRecDepth 100000 in
theorem open_rtB {ds : List (DataW H)} {v : Value} {d : DataW H} {p : List MemPlace} {b0 : Nat} (hk : Rows.uptoBulkAll ds ≤ 1048576) (hd : d ∈ ds) (hv : Value.okWide Try.prog w .any b0 31 v) (h : DataW.Trod enc Try.prog w base spare held 31 v d p) :
    ∃ r : Rt, v = r.val ∧ RtM w r ∧ r.hops.length ≤ 1048576 := by
  have hrw := rb_of hk hd h
  obtain ⟨cs, rfl, _⟩ := okWide_struct Try.underlying31 hv
  have hrw : RB enc Try.prog w base spare held 31 cs.toList := hrw
  obtain ⟨fs, hu, hm⟩ := uRt
  obtain ⟨hl, _⟩ := hrw.fields hu hm
  rw [kRt] at hl
  obtain ⟨r, e, h1, h2⟩ := rt_bk _ hrw hl
  refine ⟨r, ?_, h1, h2⟩
  have hcs : cs = cs.toList.toArray := by simp
  rw [hcs, e]; rfl
set_option maxRecDepth 100000 in
theorem open_rtsB {ds : List (DataW H)} {v : Value} {d : DataW H} {p : List MemPlace} {b0 : Nat} (hk : Rows.uptoBulkAll ds ≤ 1048576) (hd : d ∈ ds) (hv : Value.okWide Try.prog w .any b0 22 v) (h : DataW.Trod enc Try.prog w base spare held 22 v d p) :
    ∃ ao L c, v = .slice ao (L : List Rt).length c ∧ Rts w ao L ∧ ∀ r ∈ L, r.hops.length ≤ 1048576 := by
  have hrw := rb_of hk hd h
  obtain ⟨ao, n, c, rfl⟩ := okWide_slice Try.underlying22 hv
  obtain ⟨ao', L, c', h1, h2, _, _, _, h6⟩ := RB.list (φ := RtB w) Rt.cells Try.underlying22 kRt hrw rt_bk
  have e : (Value.slice ao n c).cells.toList = [.slice ao n c] := rfl
  rw [e] at h1
  simp only [List.cons.injEq, Value.slice.injEq, and_true] at h1
  obtain ⟨rfl, rfl, rfl⟩ := h1
  exact ⟨ao, L, c, rfl, ⟨h2, fun r hr => (h6 r hr).1⟩, fun r hr => (h6 r hr).2⟩
end
end Go.Proofs.Ytkdjbddjblahkaa

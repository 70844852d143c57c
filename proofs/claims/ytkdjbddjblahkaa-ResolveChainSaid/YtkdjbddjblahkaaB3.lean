/-
  Part 3 of the texts that the proofs of this seat share: rules of a walk, contracts of functions, plain facts. Each piece says below what it proves.
  No conditions beyond those that each lemma states.
-/
import Derived.Test.YtkdjbddjblahkaaB2
import Derived.Laws.MakeOwn

/-
  Routes (layer 48): Less, before, Valid and Check of the reference; Check of the program.
  Conditions: addresses and routers are numbers of 32 bits; lists are not too long for a machine.
-/
namespace Go.Proofs.Ytkdjbddjblahkaa
open Go.RowKit

theorem sg_neg {a b : Int} : sg a b < 0 ↔ a < b := by
  unfold sg
  split
  · constructor <;> intro _ <;> omega
  · split <;> (constructor <;> intro _ <;> omega)
theorem or3_a {a b c : Int} (h : a ≠ 0) : or3 a b c = a := if_pos h
theorem or3_b {a b c : Int} (h : a = 0) (h2 : b ≠ 0) : or3 a b c = b := by unfold or3; rw [if_neg (fun h3 => h3 h), if_pos h2]
theorem or3_c {a b c : Int} (h : a = 0) (h2 : b = 0) : or3 a b c = c := by unfold or3; rw [if_neg (fun h3 => h3 h), if_neg (fun h3 => h3 h2)]
theorem eqPf_d (p q : Pf) : decide ((p.a : Int) = (q.a : Int) ∧ p.n = q.n) = decide (p = q) := by
  rw [decide_eq_decide]
  exact ⟨fun h => pf_eq (by omega) h.2, fun h => by rw [h]; exact ⟨rfl, rfl⟩⟩
theorem less_v (x y : Nh) (w : World) : Calls Try.prog 24 #[x.val, y.val] w (Ret (.bool (decide (cmpH x y < 0))) w) := by
  refine V_enter (vs := [_, _]) Try.func24 rfl Try.ntmps24 (Nat.le_of_ble_eq_true rfl) ?_
  repeat (first | refine Vx ?_ | (apply Ops_q; (case hon => exact Va); (case hd => rfl); (case hq => exact YlA)) | refine Vr ?_ | refine Vt ?_ | refine Vf ?_ | refine Vm ?_ | refine Ve ?_ | refine Vo ?_ | refine Vz ?_ | refine Vn ?_)
  (refine Ops_box (by exact Va) rfl rfl rfl ?_; intro w1 b1 n_b1; have k_b1 := n_b1.blk)
  repeat (first | refine Vx ?_ | (apply Ops_q; (case hon => exact Va); (case hd => rfl); (case hq => exact YlA)) | refine Vr ?_ | refine Vt ?_ | refine Vf ?_ | refine Vm ?_ | refine Ve ?_ | refine Vo ?_ | refine Vz ?_ | refine Vn ?_)
  (refine Ops_box (by exact Va) rfl rfl rfl ?_; intro w2 b2 n_b2; have k_b2 := n_b2.blk)
  replace k_b1 := k_b1.ext n_b2.ext
  have x2 := n_b1.ext.trans n_b2.ext
  clear n_b1 n_b2
  repeat (first | refine Vx ?_ | (apply Ops_q; (case hon => exact Va); (case hd => rfl); (case hq => exact YlA)) | refine Vr ?_ | refine Vt ?_ | refine Vf ?_ | refine Vm ?_ | refine Ve ?_ | refine Vo ?_ | refine Vz ?_ | refine Vn ?_)
  by_cases t1 : (x.addr : Int) = (y.addr : Int)
  · have d1 : (!decide ((x.addr : Int) = (y.addr : Int))) = false := by rw [decide_eq_true t1]; rfl
    refine V_no rfl d1 ?_
    repeat (first | refine Vx ?_ | (apply Ops_q; (case hon => exact Va); (case hd => rfl); (case hq => exact YlA)) | refine Vr ?_ | refine Vt ?_ | refine Vf ?_ | refine Vm ?_ | refine Ve ?_ | refine Vo ?_ | refine Vz ?_ | refine Vn ?_)
    by_cases t2 : x.iface = y.iface
    · have d2 : (!decide (x.iface = y.iface)) = false := by rw [decide_eq_true t2]; rfl
      refine V_no rfl d2 ?_
      repeat (first | refine Vx ?_ | (apply Ops_q; (case hon => exact Va); (case hd => rfl); (case hq => exact YlA)) | refine Vr ?_ | refine Vt ?_ | refine Vf ?_ | refine Vm ?_ | refine Ve ?_ | refine Vo ?_ | refine Vz ?_ | refine Vn ?_)
      refine ret1 (by first | exact .inl rfl | exact .inr rfl) rfl rfl ?_
      exact Ret_mk (by rw [cmpH, or3_c (sg_zero.2 t1) (sg_zero.2 t2)]; exact congrArg Value.bool (decide_eq_decide.2 sg_neg.symm)) x2
    · have d2 : (!decide (x.iface = y.iface)) = true := by rw [decide_eq_false t2]; rfl
      refine V_yes rfl d2 ?_
      repeat (first | refine Vx ?_ | (apply Ops_q; (case hon => exact Va); (case hd => rfl); (case hq => exact YlA)) | refine Vr ?_ | refine Vt ?_ | refine Vf ?_ | refine Vm ?_ | refine Ve ?_ | refine Vo ?_ | refine Vz ?_ | refine Vn ?_)
      refine ret1 (by first | exact .inl rfl | exact .inr rfl) rfl rfl ?_
      exact Ret_mk (by rw [cmpH, or3_b (sg_zero.2 t1) (mt sg_zero.1 t2)]; exact congrArg Value.bool (decide_eq_decide.2 sg_neg.symm)) x2
  · have d1 : (!decide ((x.addr : Int) = (y.addr : Int))) = true := by rw [decide_eq_false t1]; rfl
    refine V_yes rfl d1 ?_
    repeat (first | refine Vx ?_ | (apply Ops_q; (case hon => exact Va); (case hd => rfl); (case hq => exact YlA)) | refine Vr ?_ | refine Vt ?_ | refine Vf ?_ | refine Vm ?_ | refine Ve ?_ | refine Vo ?_ | refine Vz ?_ | refine Vn ?_)
    refine ret1 (by first | exact .inl rfl | exact .inr rfl) rfl rfl ?_
    exact Ret_mk (by rw [cmpH, or3_a (mt sg_zero.1 t1)]; exact congrArg Value.bool (decide_eq_decide.2 sg_neg.symm)) x2
theorem before_v (x y : Rt) (w : World) : Calls Try.prog 86 #[x.val, y.val] w (Ret (.bool (decide (cmpR x y < 0))) w) := by
  refine V_enter (vs := [_, _]) Try.func86 rfl Try.ntmps86 (Nat.le_of_ble_eq_true rfl) ?_
  repeat (first | refine Vx ?_ | (apply Ops_q; (case hon => exact Va); (case hd => rfl); (case hq => exact YlA)) | refine Vr ?_ | refine Vt ?_ | refine Vf ?_ | refine Vm ?_ | refine Ve ?_ | refine Vo ?_ | refine Vz ?_ | refine Vn ?_)
  (refine Ops_box (by exact Va) rfl rfl rfl ?_; intro w1 b1 n_b1; have k_b1 := n_b1.blk)
  repeat (first | refine Vx ?_ | (apply Ops_q; (case hon => exact Va); (case hd => rfl); (case hq => exact YlA)) | refine Vr ?_ | refine Vt ?_ | refine Vf ?_ | refine Vm ?_ | refine Ve ?_ | refine Vo ?_ | refine Vz ?_ | refine Vn ?_)
  (refine Ops_box (by exact Va) rfl rfl rfl ?_; intro w2 b2 n_b2; have k_b2 := n_b2.blk)
  replace k_b1 := k_b1.ext n_b2.ext
  have x2 := n_b1.ext.trans n_b2.ext
  clear n_b1 n_b2
  have p1 : Cells w2 ⟨b1, 0, none⟩ [.int .u32 x.p.a, .int .i64 x.p.n] := k_b1.part 0 2
  have p2 : Cells w2 ⟨b2, 0, none⟩ [.int .u32 y.p.a, .int .i64 y.p.n] := k_b2.part 0 2
  repeat (first | refine Vx ?_ | (apply Ops_q; (case hon => exact Va); (case hd => rfl); (case hq => exact YlA)) | refine Vr ?_ | refine Vt ?_ | refine Vf ?_ | refine Vm ?_ | refine Ve ?_ | refine Vo ?_ | refine Vz ?_ | refine Vn ?_)
  (apply Ops_q; (case hon => (exact Va)); (case hd => rfl); (case hq => exact Yl_call rfl (fun w_ e_ => compare_v x.p y.p w_)))
  repeat (first | refine Vx ?_ | (apply Ops_q; (case hon => exact Va); (case hd => rfl); (case hq => exact YlA)) | refine Vr ?_ | refine Vt ?_ | refine Vf ?_ | refine Vm ?_ | refine Ve ?_ | refine Vo ?_ | refine Vz ?_ | refine Vn ?_)
  by_cases t1 : cmpP x.p y.p = 0
  · have d1 : (!decide (cmpP x.p y.p = 0)) = false := by rw [decide_eq_true t1]; rfl
    refine V_no rfl d1 ?_
    repeat (first | refine Vx ?_ | (apply Ops_q; (case hon => exact Va); (case hd => rfl); (case hq => exact YlA)) | refine Vr ?_ | refine Vt ?_ | refine Vf ?_ | refine Vm ?_ | refine Ve ?_ | refine Vo ?_ | refine Vz ?_ | refine Vn ?_)
    by_cases t2 : x.dist = y.dist
    · have d2 : (!decide (x.dist = y.dist)) = false := by rw [decide_eq_true t2]; rfl
      refine V_no rfl d2 ?_
      repeat (first | refine Vx ?_ | (apply Ops_q; (case hon => exact Va); (case hd => rfl); (case hq => exact YlA)) | refine Vr ?_ | refine Vt ?_ | refine Vf ?_ | refine Vm ?_ | refine Ve ?_ | refine Vo ?_ | refine Vz ?_ | refine Vn ?_)
      refine ret1 (by first | exact .inl rfl | exact .inr rfl) rfl rfl ?_
      exact Ret_mk (by rw [cmpR, or3_c t1 (sg_zero.2 t2)]; exact congrArg Value.bool (decide_eq_decide.2 sg_neg.symm)) x2
    · have d2 : (!decide (x.dist = y.dist)) = true := by rw [decide_eq_false t2]; rfl
      refine V_yes rfl d2 ?_
      repeat (first | refine Vx ?_ | (apply Ops_q; (case hon => exact Va); (case hd => rfl); (case hq => exact YlA)) | refine Vr ?_ | refine Vt ?_ | refine Vf ?_ | refine Vm ?_ | refine Ve ?_ | refine Vo ?_ | refine Vz ?_ | refine Vn ?_)
      refine ret1 (by first | exact .inl rfl | exact .inr rfl) rfl rfl ?_
      exact Ret_mk (by rw [cmpR, or3_b t1 (mt sg_zero.1 t2)]; exact congrArg Value.bool (decide_eq_decide.2 sg_neg.symm)) x2
  · have d1 : (!decide (cmpP x.p y.p = 0)) = true := by rw [decide_eq_false t1]; rfl
    refine V_yes rfl d1 ?_
    repeat (first | refine Vx ?_ | (apply Ops_q; (case hon => exact Va); (case hd => rfl); (case hq => exact YlA)) | refine Vr ?_ | refine Vt ?_ | refine Vf ?_ | refine Vm ?_ | refine Ve ?_ | refine Vo ?_ | refine Vz ?_ | refine Vn ?_)
    refine ret1 (by first | exact .inl rfl | exact .inr rfl) rfl rfl ?_
    exact Ret_mk (by rw [cmpR, or3_a t1]) x2
theorem proto_v (n : Int) (w : World) : Calls Try.prog 41 #[.int .i64 n] w (Ret (.bool (decide (1 ≤ n ∧ n ≤ 7))) w) := by
  refine V_enter (vs := [_]) Try.func41 rfl Try.ntmps41 (Nat.le_of_ble_eq_true rfl) ?_
  repeat (first | refine Vx ?_ | (apply Ops_q; (case hon => exact Va); (case hd => rfl); (case hq => exact YlA)) | refine Vr ?_ | refine Vt ?_ | refine Vf ?_ | refine Vm ?_ | refine Ve ?_ | refine Vo ?_ | refine Vz ?_ | refine Vn ?_)
  by_cases t1 : 1 ≤ n
  · have d1 : decide (1 ≤ n) = true := decide_eq_true t1
    refine Ops_know rfl rfl d1 ?_
    repeat (first | refine Vx ?_ | (apply Ops_q; (case hon => exact Va); (case hd => rfl); (case hq => exact YlA)) | refine Vr ?_ | refine Vt ?_ | refine Vf ?_ | refine Vm ?_ | refine Ve ?_ | refine Vo ?_ | refine Vz ?_ | refine Vn ?_)
    refine ret1 (by first | exact .inl rfl | exact .inr rfl) rfl rfl ?_
    exact Ret_mk (by rw [decide_eq_decide.2 (show n ≤ 7 ↔ (1 ≤ n ∧ n ≤ 7) from ⟨fun h => ⟨t1, h⟩, fun h => h.2⟩)]) (Ext.refl _)
  · have d1 : decide (1 ≤ n) = false := decide_eq_false t1
    refine Ops_know rfl rfl d1 ?_
    repeat (first | refine Vx ?_ | (apply Ops_q; (case hon => exact Va); (case hd => rfl); (case hq => exact YlA)) | refine Vr ?_ | refine Vt ?_ | refine Vf ?_ | refine Vm ?_ | refine Ve ?_ | refine Vo ?_ | refine Vz ?_ | refine Vn ?_)
    refine ret1 (by first | exact .inl rfl | exact .inr rfl) rfl rfl ?_
    exact Ret_mk (by rw [decide_eq_false (fun h : 1 ≤ n ∧ n ≤ 7 => t1 h.1)]) (Ext.refl _)
/-- What the reference's hops returns. -/
def errHs (L : List Nh) : Int := if 64 < L.length then 4 else firstE (errH L) L.length
set_option maxHeartbeats 2000000 in
theorem hopsR_v (ao : Option Addr) (L : List Nh) (c : Nat) (w : World) (hH : Nhs w ao L) (hok : ∀ h ∈ L, h.ok) (hnl : L.length ≤ 4611686018427387904) : Calls Try.prog 42 #[.slice ao L.length c] w (Ret (.int .i64 (errHs L)) w) := by
  refine V_enter (vs := [_]) Try.func42 rfl Try.ntmps42 (Nat.le_of_ble_eq_true rfl) ?_
  repeat (first | refine Vx ?_ | (apply Ops_q; (case hon => exact Va); (case hd => rfl); (case hq => exact YlA)) | refine Vr ?_ | refine Vt ?_ | refine Vf ?_ | refine Vm ?_ | refine Ve ?_ | refine Vo ?_ | refine Vz ?_ | refine Vn ?_)
  by_cases t5 : 64 < L.length
  · have d5 : decide ((64 : Int) < (L.length : Int)) = true := decide_eq_true (by omega)
    refine V_yes rfl d5 ?_
    have e : errHs L = 4 := if_pos t5
    repeat (first | refine Vx ?_ | (apply Ops_q; (case hon => exact Va); (case hd => rfl); (case hq => exact YlA)) | refine Vr ?_ | refine Vt ?_ | refine Vf ?_ | refine Vm ?_ | refine Ve ?_ | refine Vo ?_ | refine Vz ?_ | refine Vn ?_)
    refine ret1 (by first | exact .inl rfl | exact .inr rfl) rfl rfl ?_
    exact Ret_mk (by rw [e]) (Ext.refl _)
  have d5 : decide ((64 : Int) < (L.length : Int)) = false := decide_eq_false (by omega)
  refine V_no rfl d5 ?_
  rw [show errHs L = firstE (errH L) L.length from if_neg t5]
  clear d5
  repeat (first | refine Vx ?_ | (apply Ops_q; (case hon => exact Va); (case hd => rfl); (case hq => exact YlA)) | refine Vr ?_ | refine Vt ?_ | refine Vf ?_ | refine Vm ?_ | refine Ve ?_ | refine Vo ?_ | refine Vz ?_ | refine Vn ?_)
  refine V_loop (fun k : Nat => [(10, .int .i64 k), (9, .int .i64 L.length), (8, .slice ao L.length c), (0, .slice ao L.length c)]) (fun k w' => k ≤ L.length ∧ Ext w w' ∧ firstE (errH L) k = 0) (fun k => L.length - k) 0 (by repeat (first | exact trivial | refine ⟨rfl, ?_⟩)) ⟨Nat.zero_le _, Ext.refl _, rfl⟩ ?_
  rintro k w2 ⟨hk, x2, hs⟩
  repeat (first | refine Vx ?_ | (apply Ops_q; (case hon => exact Va); (case hd => rfl); (case hq => exact YlA)) | refine Vr ?_ | refine Vt ?_ | refine Vf ?_ | refine Vm ?_ | refine Ve ?_ | refine Vo ?_ | refine Vz ?_ | refine Vn ?_)
  refine V_cond rfl (fun hg => ?_) (fun hg => ?_)
  · have hkl : k < L.length := by have := of_decide_eq_true hg; omega
    clear hg
    obtain ⟨h, hh⟩ : ∃ h, L[k]? = some h := ⟨_, List.getElem?_eq_getElem hkl⟩
    obtain ⟨ad, rfl, hc⟩ := hH.at hh
    have hc2 := hc.ext x2
    obtain ⟨ha, hrt, hva⟩ := hok h (List.mem_of_getElem? hh)
    repeat (first | refine Vx ?_ | (apply Ops_q; (case hon => exact Va); (case hd => rfl); (case hq => exact YlA)) | refine Vr ?_ | refine Vt ?_ | refine Vf ?_ | refine Vm ?_ | refine Ve ?_ | refine Vo ?_ | refine Vz ?_ | refine Vn ?_)
    (apply Ops_q; (case hon => (exact Va)); (case hd => rfl); (case hq => exact Yl_indexS (j := k) rfl rfl (by omega)))
    repeat (first | refine Vx ?_ | (apply Ops_q; (case hon => exact Va); (case hd => rfl); (case hq => exact YlA)) | refine Vr ?_ | refine Vt ?_ | refine Vf ?_ | refine Vm ?_ | refine Ve ?_ | refine Vo ?_ | refine Vz ?_ | refine Vn ?_)
    (refine Ops_alloc (by exact Va) rfl ?_; intro w3 b4 n_b4; have k_b4 := n_b4.blk)
    repeat (first | refine Vx ?_ | (apply Ops_q; (case hon => exact Va); (case hd => rfl); (case hq => exact YlA)) | refine Vr ?_ | refine Vt ?_ | refine Vf ?_ | refine Vm ?_ | refine Ve ?_ | refine Vo ?_ | refine Vz ?_ | refine Vn ?_)
    (refine Ops_store (by exact Va) rfl rfl (by assumption) (by first | rfl | exact OneAll.h) ?_; intro w4 u_w4; have k_b4 := u_w4.blk)
    have y4 := u_w4.below n_b4.ext n_b4.ge
    have x4 := x2.trans y4
    clear u_w4 n_b4 hc hc2
    have hvia : Cells w4 ⟨b4, 4, none⟩ [.int .u32 h.via.a, .int .i64 h.via.n] := k_b4.part 4 2
    have hbad : ∀ c : Int, errH L k = c → c ≠ 0 → firstE (errH L) L.length = c := fun c h1 h2 => by rw [firstE_stop hs (by rw [h1]; exact h2) hkl, h1]
    repeat (first | refine Vx ?_ | (apply Ops_q; (case hon => exact Va); (case hd => rfl); (case hq => exact YlA)) | refine Vr ?_ | refine Vt ?_ | refine Vf ?_ | refine Vm ?_ | refine Ve ?_ | refine Vo ?_ | refine Vz ?_ | refine Vn ?_)
    by_cases t1 : h.iface < -1
    · have d1 : decide (h.iface < -1) = true := decide_eq_true t1
      refine Ops_know rfl rfl d1 ?_
      repeat (first | refine Vx ?_ | (apply Ops_q; (case hon => exact Va); (case hd => rfl); (case hq => exact YlA)) | refine Vr ?_ | refine Vt ?_ | refine Vf ?_ | refine Vm ?_ | refine Ve ?_ | refine Vo ?_ | refine Vz ?_ | refine Vn ?_)
      refine ret1 (by first | exact .inl rfl | exact .inr rfl) rfl rfl ?_
      exact Ret_mk (by rw [hbad 5 (errH_bad hh (.inl t1)) (by decide)]) x4
    have d1 : decide (h.iface < -1) = false := decide_eq_false t1
    refine Ops_know rfl rfl d1 ?_
    repeat (first | refine Vx ?_ | (apply Ops_q; (case hon => exact Va); (case hd => rfl); (case hq => exact YlA)) | refine Vr ?_ | refine Vt ?_ | refine Vf ?_ | refine Vm ?_ | refine Ve ?_ | refine Vo ?_ | refine Vz ?_ | refine Vn ?_)
    by_cases t2 : 16 ≤ h.iface
    · have d2 : decide (16 ≤ h.iface) = true := decide_eq_true t2
      refine Ops_know rfl rfl d2 ?_
      repeat (first | refine Vx ?_ | (apply Ops_q; (case hon => exact Va); (case hd => rfl); (case hq => exact YlA)) | refine Vr ?_ | refine Vt ?_ | refine Vf ?_ | refine Vm ?_ | refine Ve ?_ | refine Vo ?_ | refine Vz ?_ | refine Vn ?_)
      refine ret1 (by first | exact .inl rfl | exact .inr rfl) rfl rfl ?_
      exact Ret_mk (by rw [hbad 5 (errH_bad hh (.inr (.inl (by omega)))) (by decide)]) x4
    have d2 : decide (16 ≤ h.iface) = false := decide_eq_false t2
    refine Ops_know rfl rfl d2 ?_
    repeat (first | refine Vx ?_ | (apply Ops_q; (case hon => exact Va); (case hd => rfl); (case hq => exact YlA)) | refine Vr ?_ | refine Vt ?_ | refine Vf ?_ | refine Vm ?_ | refine Ve ?_ | refine Vo ?_ | refine Vz ?_ | refine Vn ?_)
    by_cases t3 : h.weight < 1
    · have d3 : decide (h.weight < 1) = true := decide_eq_true t3
      refine Ops_know rfl rfl d3 ?_
      repeat (first | refine Vx ?_ | (apply Ops_q; (case hon => exact Va); (case hd => rfl); (case hq => exact YlA)) | refine Vr ?_ | refine Vt ?_ | refine Vf ?_ | refine Vm ?_ | refine Ve ?_ | refine Vo ?_ | refine Vz ?_ | refine Vn ?_)
      refine ret1 (by first | exact .inl rfl | exact .inr rfl) rfl rfl ?_
      exact Ret_mk (by rw [hbad 5 (errH_bad hh (.inr (.inr (.inl t3)))) (by decide)]) x4
    have d3 : decide (h.weight < 1) = false := decide_eq_false t3
    refine Ops_know rfl rfl d3 ?_
    repeat (first | refine Vx ?_ | (apply Ops_q; (case hon => exact Va); (case hd => rfl); (case hq => exact YlA)) | refine Vr ?_ | refine Vt ?_ | refine Vf ?_ | refine Vm ?_ | refine Ve ?_ | refine Vo ?_ | refine Vz ?_ | refine Vn ?_)
    by_cases t4 : 255 < h.weight
    · have d4 : decide (255 < h.weight) = true := decide_eq_true t4
      refine V_yes rfl d4 ?_
      repeat (first | refine Vx ?_ | (apply Ops_q; (case hon => exact Va); (case hd => rfl); (case hq => exact YlA)) | refine Vr ?_ | refine Vt ?_ | refine Vf ?_ | refine Vm ?_ | refine Ve ?_ | refine Vo ?_ | refine Vz ?_ | refine Vn ?_)
      refine ret1 (by first | exact .inl rfl | exact .inr rfl) rfl rfl ?_
      exact Ret_mk (by rw [hbad 5 (errH_bad hh (.inr (.inr (.inr t4)))) (by decide)]) x4
    have d4 : decide (255 < h.weight) = false := decide_eq_false t4
    have hnb : ¬badH h := fun q => by
      rcases q with q | q | q | q
      · exact t1 q
      · omega
      · exact t3 q
      · exact t4 q
    refine V_no rfl d4 ?_
    clear d1 d2 d3 d4 t1 t2 t3 t4
    repeat (first | refine Vx ?_ | (apply Ops_q; (case hon => exact Va); (case hd => rfl); (case hq => exact YlA)) | refine Vr ?_ | refine Vt ?_ | refine Vf ?_ | refine Vm ?_ | refine Ve ?_ | refine Vo ?_ | refine Vz ?_ | refine Vn ?_)
    (apply Ops_q; (case hon => (exact Va)); (case hd => rfl); (case hq => exact Yl_call rfl (fun w_ e_ => rvalid_v h.via w_ hva)))
    repeat (first | refine Vx ?_ | (apply Ops_q; (case hon => exact Va); (case hd => rfl); (case hq => exact YlA)) | refine Vr ?_ | refine Vt ?_ | refine Vf ?_ | refine Vm ?_ | refine Ve ?_ | refine Vo ?_ | refine Vz ?_ | refine Vn ?_)
    cases hv : h.via.valid with
    | false =>
      repeat (first | refine Vx ?_ | (apply Ops_q; (case hon => exact Va); (case hd => rfl); (case hq => exact YlA)) | refine Vr ?_ | refine Vt ?_ | refine Vf ?_ | refine Vm ?_ | refine Ve ?_ | refine Vo ?_ | refine Vz ?_ | refine Vn ?_)
      refine ret1 (by first | exact .inl rfl | exact .inr rfl) rfl rfl ?_
      exact Ret_mk (by rw [hbad 1 (errH_via hh hnb hv) (by decide)]) x4
    | true =>
    repeat (first | refine Vx ?_ | (apply Ops_q; (case hon => exact Va); (case hd => rfl); (case hq => exact YlA)) | refine Vr ?_ | refine Vt ?_ | refine Vf ?_ | refine Vm ?_ | refine Ve ?_ | refine Vo ?_ | refine Vz ?_ | refine Vn ?_)
    rcases Nat.eq_zero_or_pos k with rfl | hkp
    · have d3 : decide ((0 : Int) < ((0 : Nat) : Int)) = false := rfl
      repeat (first | refine Vx ?_ | (apply Ops_q; (case hon => exact Va); (case hd => rfl); (case hq => exact YlA)) | refine Vr ?_ | refine Vt ?_ | refine Vf ?_ | refine Vm ?_ | refine Ve ?_ | refine Vo ?_ | refine Vz ?_ | refine Vn ?_)
      exact ⟨0 + 1, (by repeat (first | exact trivial | refine ⟨rfl, ?_⟩)), ⟨hkl, x4, firstE_go hs (errH_zero hh hnb hv rfl)⟩, by omega⟩
    · have d3 : decide ((0 : Int) < (k : Int)) = true := decide_eq_true (by omega)
      obtain ⟨g, hg⟩ : ∃ g, L[k - 1]? = some g := ⟨_, List.getElem?_eq_getElem (by omega)⟩
      obtain ⟨ad', eA, hcg⟩ := hH.at hg
      cases eA
      have hcg4 := hcg.ext x4
      have ek : (k : Int) - 1 = ((k - 1 : Nat) : Int) := by omega
      refine Ops_know rfl rfl d3 ?_
      repeat (first | refine Vx ?_ | (apply Ops_q; (case hon => exact Va); (case hd => rfl); (case hq => exact YlA)) | refine Vr ?_ | refine Vt ?_ | refine Vf ?_ | refine Vm ?_ | refine Ve ?_ | refine Vo ?_ | refine Vz ?_ | refine Vn ?_)
      rw [ek]
      (apply Ops_q; (case hon => (exact Va)); (case hd => rfl); (case hq => exact Yl_indexS (j := k - 1) rfl rfl (by omega)))
      repeat (first | refine Vx ?_ | (apply Ops_q; (case hon => exact Va); (case hd => rfl); (case hq => exact YlA)) | refine Vr ?_ | refine Vt ?_ | refine Vf ?_ | refine Vm ?_ | refine Ve ?_ | refine Vo ?_ | refine Vz ?_ | refine Vn ?_)
      (apply Ops_q; (case hon => (exact Va)); (case hd => rfl); (case hq => exact Yl_call rfl (fun w_ e_ => less_v g h w_)))
      repeat (first | refine Vx ?_ | (apply Ops_q; (case hon => exact Va); (case hd => rfl); (case hq => exact YlA)) | refine Vr ?_ | refine Vt ?_ | refine Vf ?_ | refine Vm ?_ | refine Ve ?_ | refine Vo ?_ | refine Vz ?_ | refine Vn ?_)
      by_cases t4 : 0 ≤ cmpH g h
      · have d4 : (!decide (cmpH g h < 0)) = true := by rw [decide_eq_false (by omega)]; rfl
        refine V_yes rfl d4 ?_
        repeat (first | refine Vx ?_ | (apply Ops_q; (case hon => exact Va); (case hd => rfl); (case hq => exact YlA)) | refine Vr ?_ | refine Vt ?_ | refine Vf ?_ | refine Vm ?_ | refine Ve ?_ | refine Vo ?_ | refine Vz ?_ | refine Vn ?_)
        refine ret1 (by first | exact .inl rfl | exact .inr rfl) rfl rfl ?_
        exact Ret_mk (by rw [hbad 16 (errH_ord hh hg hnb hv hkp t4) (by decide)]) x4
      · have d4 : (!decide (cmpH g h < 0)) = false := by rw [decide_eq_true (by omega)]; rfl
        refine V_no rfl d4 ?_
        repeat (first | refine Vx ?_ | (apply Ops_q; (case hon => exact Va); (case hd => rfl); (case hq => exact YlA)) | refine Vr ?_ | refine Vt ?_ | refine Vf ?_ | refine Vm ?_ | refine Ve ?_ | refine Vo ?_ | refine Vz ?_ | refine Vn ?_)
        exact ⟨k + 1, (by repeat (first | exact trivial | refine ⟨rfl, ?_⟩)), ⟨hkl, x4, firstE_go hs (errH_ok hh hg hnb hv t4)⟩, by omega⟩
  · obtain rfl : k = L.length := by have := of_decide_eq_false hg; omega
    repeat (first | refine Vx ?_ | (apply Ops_q; (case hon => exact Va); (case hd => rfl); (case hq => exact YlA)) | refine Vr ?_ | refine Vt ?_ | refine Vf ?_ | refine Vm ?_ | refine Ve ?_ | refine Vo ?_ | refine Vz ?_ | refine Vn ?_)
    refine ret1 (by first | exact .inl rfl | exact .inr rfl) rfl rfl ?_
    exact Ret_mk (by rw [hs]) x2
set_option maxHeartbeats 2000000 in
theorem validRB_v (r : Rt) (w : World) (hr : RtM w r) (hnl : r.hops.length ≤ 4611686018427387904) : Calls Try.prog 26 #[r.val] w (Ret (.int .i64 (errT r)) w) := by
  obtain ⟨hH, hnil, hcap, hpa, hok⟩ := hr
  refine V_enter (vs := [_]) Try.func26 rfl Try.ntmps26 (Nat.le_of_ble_eq_true rfl) ?_
  repeat (first | refine Vx ?_ | (apply Ops_q; (case hon => exact Va); (case hd => rfl); (case hq => exact YlA)) | refine Vr ?_ | refine Vt ?_ | refine Vf ?_ | refine Vm ?_ | refine Ve ?_ | refine Vo ?_ | refine Vz ?_ | refine Vn ?_)
  (refine Ops_box (by exact Va) rfl rfl rfl ?_; intro w1 b1 n_b1; have k_b1 := n_b1.blk)
  have x1 := n_b1.ext
  clear n_b1
  have hH1 := hH.ext x1
  have hp1 : Cells w1 ⟨b1, 0, none⟩ [.int .u32 r.p.a, .int .i64 r.p.n] := k_b1.part 0 2
  repeat (first | refine Vx ?_ | (apply Ops_q; (case hon => exact Va); (case hd => rfl); (case hq => exact YlA)) | refine Vr ?_ | refine Vt ?_ | refine Vf ?_ | refine Vm ?_ | refine Ve ?_ | refine Vo ?_ | refine Vz ?_ | refine Vn ?_)
  (apply Ops_q; (case hon => (exact Va)); (case hd => rfl); (case hq => exact Yl_call rfl (fun w_ e_ => rvalid_v r.p w_ hpa)))
  repeat (first | refine Vx ?_ | (apply Ops_q; (case hon => exact Va); (case hd => rfl); (case hq => exact YlA)) | refine Vr ?_ | refine Vt ?_ | refine Vf ?_ | refine Vm ?_ | refine Ve ?_ | refine Vo ?_ | refine Vz ?_ | refine Vn ?_)
  cases hv : r.p.valid with
  | false =>
    repeat (first | refine Vx ?_ | (apply Ops_q; (case hon => exact Va); (case hd => rfl); (case hq => exact YlA)) | refine Vr ?_ | refine Vt ?_ | refine Vf ?_ | refine Vm ?_ | refine Ve ?_ | refine Vo ?_ | refine Vz ?_ | refine Vn ?_)
    refine ret1 (by first | exact .inl rfl | exact .inr rfl) rfl rfl ?_
    exact Ret_mk (by rw [errT_p hv]) x1
  | true =>
  repeat (first | refine Vx ?_ | (apply Ops_q; (case hon => exact Va); (case hd => rfl); (case hq => exact YlA)) | refine Vr ?_ | refine Vt ?_ | refine Vf ?_ | refine Vm ?_ | refine Ve ?_ | refine Vo ?_ | refine Vz ?_ | refine Vn ?_)
  (apply Ops_q; (case hon => (exact Va)); (case hd => rfl); (case hq => exact Yl_call rfl (fun w_ e_ => proto_v r.proto w_)))
  repeat (first | refine Vx ?_ | (apply Ops_q; (case hon => exact Va); (case hd => rfl); (case hq => exact YlA)) | refine Vr ?_ | refine Vt ?_ | refine Vf ?_ | refine Vm ?_ | refine Ve ?_ | refine Vo ?_ | refine Vz ?_ | refine Vn ?_)
  by_cases t1 : badK r
  · have d1 : (!decide (1 ≤ r.proto ∧ r.proto ≤ 7)) = true := by rw [decide_eq_false (fun h => by rcases t1 with q | q <;> omega)]; rfl
    refine V_yes rfl d1 ?_
    repeat (first | refine Vx ?_ | (apply Ops_q; (case hon => exact Va); (case hd => rfl); (case hq => exact YlA)) | refine Vr ?_ | refine Vt ?_ | refine Vf ?_ | refine Vm ?_ | refine Ve ?_ | refine Vo ?_ | refine Vz ?_ | refine Vn ?_)
    refine ret1 (by first | exact .inl rfl | exact .inr rfl) rfl rfl ?_
    exact Ret_mk (by rw [errT_k hv t1]) x1
  have d1 : (!decide (1 ≤ r.proto ∧ r.proto ≤ 7)) = false := by rw [decide_eq_true (by unfold badK at t1; omega)]; rfl
  refine V_no rfl d1 ?_
  clear d1 hp1
  repeat (first | refine Vx ?_ | (apply Ops_q; (case hon => exact Va); (case hd => rfl); (case hq => exact YlA)) | refine Vr ?_ | refine Vt ?_ | refine Vf ?_ | refine Vm ?_ | refine Ve ?_ | refine Vo ?_ | refine Vz ?_ | refine Vn ?_)
  by_cases u1 : r.dist < 0
  · have d : decide (r.dist < 0) = true := decide_eq_true u1
    have hbn : badN r := (.inl (.inl u1))
    refine Ops_know rfl rfl d ?_
    repeat (first | refine Vx ?_ | (apply Ops_q; (case hon => exact Va); (case hd => rfl); (case hq => exact YlA)) | refine Vr ?_ | refine Vt ?_ | refine Vf ?_ | refine Vm ?_ | refine Ve ?_ | refine Vo ?_ | refine Vz ?_ | refine Vn ?_)
    refine ret1 (by first | exact .inl rfl | exact .inr rfl) rfl rfl ?_
    exact Ret_mk (by rw [errT_n hv t1 hbn]) x1
  have d : decide (r.dist < 0) = false := decide_eq_false u1
  refine Ops_know rfl rfl d ?_
  clear d
  repeat (first | refine Vx ?_ | (apply Ops_q; (case hon => exact Va); (case hd => rfl); (case hq => exact YlA)) | refine Vr ?_ | refine Vt ?_ | refine Vf ?_ | refine Vm ?_ | refine Ve ?_ | refine Vo ?_ | refine Vz ?_ | refine Vn ?_)
  by_cases u2 : 255 < r.dist
  · have d : decide (255 < r.dist) = true := decide_eq_true u2
    have hbn : badN r := (.inl (.inr u2))
    refine Ops_know rfl rfl d ?_
    repeat (first | refine Vx ?_ | (apply Ops_q; (case hon => exact Va); (case hd => rfl); (case hq => exact YlA)) | refine Vr ?_ | refine Vt ?_ | refine Vf ?_ | refine Vm ?_ | refine Ve ?_ | refine Vo ?_ | refine Vz ?_ | refine Vn ?_)
    refine ret1 (by first | exact .inl rfl | exact .inr rfl) rfl rfl ?_
    exact Ret_mk (by rw [errT_n hv t1 hbn]) x1
  have d : decide (255 < r.dist) = false := decide_eq_false u2
  refine Ops_know rfl rfl d ?_
  clear d
  repeat (first | refine Vx ?_ | (apply Ops_q; (case hon => exact Va); (case hd => rfl); (case hq => exact YlA)) | refine Vr ?_ | refine Vt ?_ | refine Vf ?_ | refine Vm ?_ | refine Ve ?_ | refine Vo ?_ | refine Vz ?_ | refine Vn ?_)
  by_cases u3 : r.metric < 0
  · have d : decide (r.metric < 0) = true := decide_eq_true u3
    have hbn : badN r := (.inr (.inl (.inl u3)))
    refine Ops_know rfl rfl d ?_
    repeat (first | refine Vx ?_ | (apply Ops_q; (case hon => exact Va); (case hd => rfl); (case hq => exact YlA)) | refine Vr ?_ | refine Vt ?_ | refine Vf ?_ | refine Vm ?_ | refine Ve ?_ | refine Vo ?_ | refine Vz ?_ | refine Vn ?_)
    refine ret1 (by first | exact .inl rfl | exact .inr rfl) rfl rfl ?_
    exact Ret_mk (by rw [errT_n hv t1 hbn]) x1
  have d : decide (r.metric < 0) = false := decide_eq_false u3
  refine Ops_know rfl rfl d ?_
  clear d
  repeat (first | refine Vx ?_ | (apply Ops_q; (case hon => exact Va); (case hd => rfl); (case hq => exact YlA)) | refine Vr ?_ | refine Vt ?_ | refine Vf ?_ | refine Vm ?_ | refine Ve ?_ | refine Vo ?_ | refine Vz ?_ | refine Vn ?_)
  by_cases u4 : 16777216 < r.metric
  · have d : decide (16777216 < r.metric) = true := decide_eq_true u4
    have hbn : badN r := (.inr (.inl (.inr u4)))
    refine Ops_know rfl rfl d ?_
    repeat (first | refine Vx ?_ | (apply Ops_q; (case hon => exact Va); (case hd => rfl); (case hq => exact YlA)) | refine Vr ?_ | refine Vt ?_ | refine Vf ?_ | refine Vm ?_ | refine Ve ?_ | refine Vo ?_ | refine Vz ?_ | refine Vn ?_)
    refine ret1 (by first | exact .inl rfl | exact .inr rfl) rfl rfl ?_
    exact Ret_mk (by rw [errT_n hv t1 hbn]) x1
  have d : decide (16777216 < r.metric) = false := decide_eq_false u4
  refine Ops_know rfl rfl d ?_
  clear d
  repeat (first | refine Vx ?_ | (apply Ops_q; (case hon => exact Va); (case hd => rfl); (case hq => exact YlA)) | refine Vr ?_ | refine Vt ?_ | refine Vf ?_ | refine Vm ?_ | refine Ve ?_ | refine Vo ?_ | refine Vz ?_ | refine Vn ?_)
  by_cases u5 : r.tag < 0
  · have d : decide (r.tag < 0) = true := decide_eq_true u5
    have hbn : badN r := (.inr (.inr (.inl u5)))
    refine Ops_know rfl rfl d ?_
    repeat (first | refine Vx ?_ | (apply Ops_q; (case hon => exact Va); (case hd => rfl); (case hq => exact YlA)) | refine Vr ?_ | refine Vt ?_ | refine Vf ?_ | refine Vm ?_ | refine Ve ?_ | refine Vo ?_ | refine Vz ?_ | refine Vn ?_)
    refine ret1 (by first | exact .inl rfl | exact .inr rfl) rfl rfl ?_
    exact Ret_mk (by rw [errT_n hv t1 hbn]) x1
  have d : decide (r.tag < 0) = false := decide_eq_false u5
  refine Ops_know rfl rfl d ?_
  clear d
  repeat (first | refine Vx ?_ | (apply Ops_q; (case hon => exact Va); (case hd => rfl); (case hq => exact YlA)) | refine Vr ?_ | refine Vt ?_ | refine Vf ?_ | refine Vm ?_ | refine Ve ?_ | refine Vo ?_ | refine Vz ?_ | refine Vn ?_)
  by_cases u6 : 4294967295 < r.tag
  · have d : decide (4294967295 < r.tag) = true := decide_eq_true u6
    refine V_yes rfl d ?_
    repeat (first | refine Vx ?_ | (apply Ops_q; (case hon => exact Va); (case hd => rfl); (case hq => exact YlA)) | refine Vr ?_ | refine Vt ?_ | refine Vf ?_ | refine Vm ?_ | refine Ve ?_ | refine Vo ?_ | refine Vz ?_ | refine Vn ?_)
    refine ret1 (by first | exact .inl rfl | exact .inr rfl) rfl rfl ?_
    exact Ret_mk (by rw [errT_n hv t1 (.inr (.inr (.inr u6)))]) x1
  have d : decide (4294967295 < r.tag) = false := decide_eq_false u6
  have hbN : ¬badN r := fun h => by unfold badN at h; omega
  refine V_no rfl d ?_
  clear d u1 u2 u3 u4 u5 u6
  repeat (first | refine Vx ?_ | (apply Ops_q; (case hon => exact Va); (case hd => rfl); (case hq => exact YlA)) | refine Vr ?_ | refine Vt ?_ | refine Vf ?_ | refine Vm ?_ | refine Ve ?_ | refine Vo ?_ | refine Vz ?_ | refine Vn ?_)
  (apply Ops_q; (case hon => (exact Va)); (case hd => rfl); (case hq => exact Yl_call rfl (fun w_ e_ => hopsR_v r.ao r.hops r.c w_ (hH1.ext e_) hok hnl)))
  have e : errHs r.hops = errT r := by
    by_cases t5 : 64 < r.hops.length
    · rw [errT_l hv t1 hbN t5]; exact if_pos t5
    · rw [errT_h hv t1 hbN t5]; exact if_neg t5
  repeat (first | refine Vx ?_ | (apply Ops_q; (case hon => exact Va); (case hd => rfl); (case hq => exact YlA)) | refine Vr ?_ | refine Vt ?_ | refine Vf ?_ | refine Vm ?_ | refine Ve ?_ | refine Vo ?_ | refine Vz ?_ | refine Vn ?_)
  refine ret1 (by first | exact .inl rfl | exact .inr rfl) rfl rfl ?_
  exact Ret_mk (by rw [e]) x1
theorem validR_v (r : Rt) (w : World) (hr : RtM w r) (hnl : r.hops.length ≤ 1000000000) : Calls Try.prog 26 #[r.val] w (Ret (.int .i64 (errT r)) w) := validRB_v r w hr (Nat.le_trans hnl (by decide))
end Go.Proofs.Ytkdjbddjblahkaa

/-
  Routes (layer 48): Check of the program and of the reference; active lists.
  Conditions: addresses and routers are numbers of 32 bits; lists are not too long for a machine.
-/
namespace Go.Proofs.Ytkdjbddjblahkaa
open Go.RowKit

/-! ### Keys -/
def keyV (r : Rt) : Value := .agg #[.int .u32 r.p.a, .int .i64 r.p.n, .int .i64 r.proto]
theorem keyV_inj {r s : Rt} (h : keyV r = keyV s) : r.p = s.p ∧ r.proto = s.proto := by
  unfold keyV at h
  simp only [Value.agg.injEq, Array.mk.injEq, List.cons.injEq, Value.int.injEq, true_and, and_true] at h
  exact ⟨pf_eq (by omega) h.2.1, h.2.2⟩
set_option maxRecDepth 100000 in
theorem keyLaw : Maps.Keyed Try.prog 86 :=
  Maps.Keyed.of_law (deep_law_laid (by kernel_rfl) (m := 3) (by omega) (of_decide_eq_true (by kernel_rfl)) (by kernel_rfl) (by rw [Try.underlying86]))
theorem wf_i64 {n : Int} (h : 0 ≤ n) (h2 : n ≤ 64) : (Lit.int .i64 n).wf = true := by
  have e1 : IntKind.i64.min = -9223372036854775808 := by decide
  have e2 : IntKind.i64.max = 9223372036854775807 := by decide
  simp only [Lit.wf, e1, e2, Bool.and_eq_true, decide_eq_true_eq]; omega
theorem wf_u32 {n : Nat} (h : n < 4294967296) : (Lit.int .u32 (n : Int)).wf = true := by
  have e1 : IntKind.u32.min = 0 := by decide
  have e2 : IntKind.u32.max = 4294967295 := by decide
  simp only [Lit.wf, e1, e2, Bool.and_eq_true, decide_eq_true_eq]; omega
set_option maxRecDepth 100000 in
theorem key_lit {r : Rt} (h1 : r.p.a < 4294967296) (h2 : r.p.valid = true) (h3 : ¬badK r) : ∃ l, keyOf Try.prog 86 (keyV r) = some l := by
  obtain ⟨v1, v2, _⟩ := Pf.valid_iff.1 h2
  unfold badK at h3
  have w1 := wf_u32 h1
  have w2 : (Lit.int .i64 r.p.n).wf = true := wf_i64 v1 (by omega)
  have w3 : (Lit.int .i64 r.proto).wf = true := wf_i64 (by omega) (by omega)
  obtain ⟨m, hm⟩ : ∃ m, Try.prog.types.size = m + 3 := ⟨Try.prog.types.size - 3, by kernel_rfl⟩
  have ck : Try.prog.cellsOf 86 = 3 := by kernel_rfl
  have cp : Try.prog.cellsOf 28 = 2 := by kernel_rfl
  have ca : Try.prog.cellsOf 24 = 1 := by kernel_rfl
  have ci : Try.prog.cellsOf 3 = 1 := by kernel_rfl
  have hk : Try.prog.keyType 86 = true := by kernel_rfl
  have hf : (keyV r).formed Try.prog 86 = true := by simp [keyV, Value.formed, Try.underlying86, ck]
  have kp : Try.prog.keyLits (m + 3) 28 [.int .u32 r.p.a, .int .i64 r.p.n] = some [.int .u32 r.p.a, .int .i64 r.p.n] := by
    unfold Program.keyLits
    rw [Try.underlying28]
    dsimp only
    rw [if_pos ⟨by rw [cp]; rfl, by kernel_rfl⟩]
    simp [Program.keyLits, Try.underlying24, Try.underlying3, ca, ci, w1, w2]
  have ki : Try.prog.keyLits (m + 3) 3 [.int .i64 r.proto] = some [.int .i64 r.proto] := by simp [Program.keyLits, Try.underlying3, w3]
  unfold keyOf
  rw [Try.underlying86]
  dsimp only
  rw [hk, hf, hm]
  unfold keyV
  dsimp only [Bool.and_self, Bool.and_true, if_true, Value.cells]
  unfold Program.keyLits
  rw [Try.underlying86]
  dsimp only
  simp [kp, cp, ci, ki, ck]
/-! ### A table's error -/
def hasK (L : List Rt) (p : Pf) (k : Int) : Bool := L.any fun r => decide (r.p = p ∧ r.proto = k)
theorem hasK_iff {L : List Rt} {p : Pf} {k : Int} : hasK L p k = true ↔ ∃ r ∈ L, r.p = p ∧ r.proto = k := by
  unfold hasK
  rw [List.any_eq_true]
  exact ⟨fun ⟨r, h1, h2⟩ => ⟨r, h1, of_decide_eq_true h2⟩, fun ⟨r, h1, h2⟩ => ⟨r, h1, decide_eq_true h2⟩⟩
def errC (L : List Rt) (k : Nat) : Int := match L[k]? with
  | some r => if errT r ≠ 0 then errT r else if hasK (L.take k) r.p r.proto = true then 7 else if 0 < k ∧ 0 ≤ cmpR (L.getD (k - 1) r) r then 16 else 0
  | none => 0
def chkR (L : List Rt) : Int := if 2000 < L.length then 4 else firstE (errC L) L.length
section
variable {L : List Rt} {k : Nat} {r g : Rt}
theorem errC_t (hk : L[k]? = some r) (h : errT r ≠ 0) : errC L k = errT r := by rw [errC, hk]; exact if_pos h
theorem errC_h (hk : L[k]? = some r) (h : errT r = 0) (h2 : hasK (L.take k) r.p r.proto = true) : errC L k = 7 := by
  rw [errC, hk]; dsimp only; rw [if_neg (fun h3 => h3 h), if_pos h2]
theorem errC_zero (hk : L[k]? = some r) (h : errT r = 0) (h2 : hasK (L.take k) r.p r.proto = false) (h3 : k = 0) : errC L k = 0 := by
  rw [errC, hk]; dsimp only; rw [if_neg (fun h3 => h3 h), if_neg (by rw [h2]; decide), if_neg (by omega)]
theorem errC_o (hk : L[k]? = some r) (hg : L[k - 1]? = some g) (h : errT r = 0) (h2 : hasK (L.take k) r.p r.proto = false) (h3 : 0 < k) (h4 : 0 ≤ cmpR g r) : errC L k = 16 := by
  rw [errC, hk]; dsimp only; rw [if_neg (fun h3 => h3 h), if_neg (by rw [h2]; decide), List.getD_eq_getElem?_getD, hg, if_pos ⟨h3, h4⟩]
theorem errC_ok (hk : L[k]? = some r) (hg : L[k - 1]? = some g) (h : errT r = 0) (h2 : hasK (L.take k) r.p r.proto = false) (h4 : ¬0 ≤ cmpR g r) : errC L k = 0 := by
  rw [errC, hk]; dsimp only; rw [if_neg (fun h3 => h3 h), if_neg (by rw [h2]; decide), List.getD_eq_getElem?_getD, hg, if_neg (fun h => h4 h.2)]
theorem errT_valid (h : errT r = 0) : r.p.valid = true ∧ ¬badK r := by
  unfold errT at h
  split at h
  · cases h
  · rename_i h1
    split at h
    · cases h
    · rename_i h2
      exact ⟨by simpa using h1, h2⟩
end
set_option maxHeartbeats 2000000 in
theorem checkRib_v (ao : Option Addr) (L : List Rt) (c : Nat) (w : World) (hL : Rts w ao L) (hnl : L.length ≤ 1000000000) : Calls Try.prog 37 #[.slice ao L.length c] w (Ret (.int .i64 (chkR L)) w) := by
  refine V_enter (vs := [_]) Try.func37 rfl Try.ntmps37 (Nat.le_of_ble_eq_true rfl) ?_
  repeat (first | refine Vx ?_ | (apply Ops_q; (case hon => exact Va); (case hd => rfl); (case hq => exact YlA)) | refine Vr ?_ | refine Vt ?_ | refine Vf ?_ | refine Vm ?_ | refine Ve ?_ | refine Vo ?_ | refine Vz ?_ | refine Vn ?_)
  by_cases t5 : 2000 < L.length
  · have d5 : decide ((2000 : Int) < (L.length : Int)) = true := decide_eq_true (by omega)
    refine V_yes rfl d5 ?_
    have e : chkR L = 4 := if_pos t5
    repeat (first | refine Vx ?_ | (apply Ops_q; (case hon => exact Va); (case hd => rfl); (case hq => exact YlA)) | refine Vr ?_ | refine Vt ?_ | refine Vf ?_ | refine Vm ?_ | refine Ve ?_ | refine Vo ?_ | refine Vz ?_ | refine Vn ?_)
    refine ret1 (by first | exact .inl rfl | exact .inr rfl) rfl rfl ?_
    exact Ret_mk (by rw [e]) (Ext.refl _)
  have d5 : decide ((2000 : Int) < (L.length : Int)) = false := decide_eq_false (by omega)
  refine V_no rfl d5 ?_
  rw [show chkR L = firstE (errC L) L.length from if_neg t5]
  clear d5
  repeat (first | refine Vx ?_ | (apply Ops_q; (case hon => exact Va); (case hd => rfl); (case hq => exact YlA)) | refine Vr ?_ | refine Vt ?_ | refine Vf ?_ | refine Vm ?_ | refine Ve ?_ | refine Vo ?_ | refine Vz ?_ | refine Vn ?_)
  refine Ops_makeSetS (kt := 86) (et := 4) (by exact Va) rfl ?_
  intro w1 b3 x1 g3 hS1
  repeat (first | refine Vx ?_ | (apply Ops_q; (case hon => exact Va); (case hd => rfl); (case hq => exact YlA)) | refine Vr ?_ | refine Vt ?_ | refine Vf ?_ | refine Vm ?_ | refine Ve ?_ | refine Vo ?_ | refine Vz ?_ | refine Vn ?_)
  refine V_loop (fun k : Nat => [(14, .int .i64 k), (13, .int .i64 L.length), (12, .slice ao L.length c), (0, .slice ao L.length c), (3, .map (some b3))])
    (fun k w' => k ≤ L.length ∧ Ext w w' ∧ SetS Try.prog 86 w' b3 (fun y => ∃ r ∈ L.take k, keyV r = y) ∧ firstE (errC L) k = 0) (fun k => L.length - k) 0 (by repeat (first | exact trivial | refine ⟨rfl, ?_⟩)) ⟨Nat.zero_le _, x1, hS1.congr (fun y => ⟨fun ⟨r, h, _⟩ => by simp at h, fun h => h.elim⟩), rfl⟩ ?_
  clear hS1 x1
  rintro k w2 ⟨hk, x2, hSk, hs⟩
  repeat (first | refine Vx ?_ | (apply Ops_q; (case hon => exact Va); (case hd => rfl); (case hq => exact YlA)) | refine Vr ?_ | refine Vt ?_ | refine Vf ?_ | refine Vm ?_ | refine Ve ?_ | refine Vo ?_ | refine Vz ?_ | refine Vn ?_)
  refine V_cond rfl (fun hg => ?_) (fun hg => ?_)
  · have hkl : k < L.length := by have := of_decide_eq_true hg; omega
    clear hg
    obtain ⟨r, hr⟩ : ∃ h, L[k]? = some h := ⟨_, List.getElem?_eq_getElem hkl⟩
    obtain ⟨ad, rfl, hc⟩ := hL.at hr
    have hc2 := hc.ext x2
    have hrm := hL.mem r (List.mem_of_getElem? hr)
    have hb3 := hSk.lt
    repeat (first | refine Vx ?_ | (apply Ops_q; (case hon => exact Va); (case hd => rfl); (case hq => exact YlA)) | refine Vr ?_ | refine Vt ?_ | refine Vf ?_ | refine Vm ?_ | refine Ve ?_ | refine Vo ?_ | refine Vz ?_ | refine Vn ?_)
    (apply Ops_q; (case hon => (exact Va)); (case hd => rfl); (case hq => exact Yl_indexS (j := k) rfl rfl (by omega)))
    repeat (first | refine Vx ?_ | (apply Ops_q; (case hon => exact Va); (case hd => rfl); (case hq => exact YlA)) | refine Vr ?_ | refine Vt ?_ | refine Vf ?_ | refine Vm ?_ | refine Ve ?_ | refine Vo ?_ | refine Vz ?_ | refine Vn ?_)
    (refine Ops_alloc (by exact Va) rfl ?_; intro w3 b5 n_b5; have k_b5 := n_b5.blk)
    repeat (first | refine Vx ?_ | (apply Ops_q; (case hon => exact Va); (case hd => rfl); (case hq => exact YlA)) | refine Vr ?_ | refine Vt ?_ | refine Vf ?_ | refine Vm ?_ | refine Ve ?_ | refine Vo ?_ | refine Vz ?_ | refine Vn ?_)
    (refine Ops_store (by exact Va) rfl rfl (by assumption) (by first | rfl | exact OneAll.h) ?_; intro w4 u_w4; have k_b5 := u_w4.blk)
    have y4 := u_w4.below n_b5.ext n_b5.ge
    have x4 := x2.trans y4
    have hS4 := hSk.ext y4
    clear u_w4 n_b5 hc hc2 hSk y4
    have hbad : ∀ c : Int, errC L k = c → c ≠ 0 → firstE (errC L) L.length = c := fun c h1 h2 => by rw [firstE_stop hs (by rw [h1]; exact h2) hkl, h1]
    repeat (first | refine Vx ?_ | (apply Ops_q; (case hon => exact Va); (case hd => rfl); (case hq => exact YlA)) | refine Vr ?_ | refine Vt ?_ | refine Vf ?_ | refine Vm ?_ | refine Ve ?_ | refine Vo ?_ | refine Vz ?_ | refine Vn ?_)
    (apply Ops_q; (case hon => (exact Va)); (case hd => rfl); (case hq => exact Yl_call rfl (fun w_ e_ => checkRoute_v r w_ (hrm.ext (x4.trans e_)))))
    repeat (first | refine Vx ?_ | (apply Ops_q; (case hon => exact Va); (case hd => rfl); (case hq => exact YlA)) | refine Vr ?_ | refine Vt ?_ | refine Vf ?_ | refine Vm ?_ | refine Ve ?_ | refine Vo ?_ | refine Vz ?_ | refine Vn ?_)
    by_cases t1 : errT r = 0
    · have d1 : (!decide (errT r = 0)) = false := by rw [decide_eq_true t1]; rfl
      refine V_no rfl d1 ?_
      clear d1
      obtain ⟨hv, hbk⟩ := errT_valid t1
      have hkey := key_lit hrm.pa hv hbk
      have hhas : hasK (L.take k) r.p r.proto = true ↔ ∃ s ∈ L.take k, keyV s = keyV r := by
        rw [hasK_iff]
        constructor
        · rintro ⟨s, h1, h2, h3⟩
          exact ⟨s, h1, by unfold keyV; rw [h2, h3]⟩
        · rintro ⟨s, h1, h2⟩
          exact ⟨s, h1, keyV_inj h2⟩
      unfold keyV at hkey
      have hpr : Cells w4 ⟨b5, 0, none⟩ [.int .u32 r.p.a, .int .i64 r.p.n] := k_b5.part 0 2
      repeat (first | refine Vx ?_ | (apply Ops_q; (case hon => exact Va); (case hd => rfl); (case hq => exact YlA)) | refine Vr ?_ | refine Vt ?_ | refine Vf ?_ | refine Vm ?_ | refine Ve ?_ | refine Vo ?_ | refine Vz ?_ | refine Vn ?_)
      (refine Ops_alloc (by exact Va) rfl ?_; intro w5 b7 n_b7; have k_b7 := n_b7.blk)
      repeat (first | refine Vx ?_ | (apply Ops_q; (case hon => exact Va); (case hd => rfl); (case hq => exact YlA)) | refine Vr ?_ | refine Vt ?_ | refine Vf ?_ | refine Vm ?_ | refine Ve ?_ | refine Vo ?_ | refine Vz ?_ | refine Vn ?_)
      (refine Ops_store (by exact Va) rfl rfl (by assumption) (by first | rfl | exact OneAll.h) ?_; intro w6 u_w6; have k_b7 := u_w6.blk)
      have y6 := u_w6.below n_b7.ext n_b7.ge
      have x6 := x4.trans y6
      have hS6 := hS4.ext y6
      replace k_b5 := k_b5.ext y6
      clear u_w6 n_b7 hpr hS4
      repeat (first | refine Vx ?_ | (apply Ops_q; (case hon => exact Va); (case hd => rfl); (case hq => exact YlA)) | refine Vr ?_ | refine Vt ?_ | refine Vf ?_ | refine Vm ?_ | refine Ve ?_ | refine Vo ?_ | refine Vz ?_ | refine Vn ?_)
      (apply Ops_q; (case hon => (exact Va)); (case hd => rfl); (case hq => exact Yl_hasS (c := hasK (L.take k) r.p r.proto) keyLaw rfl rfl hkey.choose_spec hS6 hhas))
      cases hh : hasK (L.take k) r.p r.proto with
      | true =>
        repeat (first | refine Vx ?_ | (apply Ops_q; (case hon => exact Va); (case hd => rfl); (case hq => exact YlA)) | refine Vr ?_ | refine Vt ?_ | refine Vf ?_ | refine Vm ?_ | refine Ve ?_ | refine Vo ?_ | refine Vz ?_ | refine Vn ?_)
        refine ret1 (by first | exact .inl rfl | exact .inr rfl) rfl rfl ?_
        exact Ret_mk (by rw [hbad 7 (errC_h hr t1 hh) (by decide)]) x6
      | false =>
      rw [hh] at hhas
      have hno : ¬∃ s ∈ L.take k, keyV s = keyV r := fun h => by have := hhas.2 h; cases this
      repeat (first | refine Vx ?_ | (apply Ops_q; (case hon => exact Va); (case hd => rfl); (case hq => exact YlA)) | refine Vr ?_ | refine Vt ?_ | refine Vf ?_ | refine Vm ?_ | refine Ve ?_ | refine Vo ?_ | refine Vz ?_ | refine Vn ?_)
      refine Ops_putS keyLaw (by exact Va) rfl rfl rfl hkey.choose_spec hS6 hno ?_
      intro w7 g7 hS7
      have x7 : Ext w w7 := grow_below x6 g7 (fun c hc => by cases hc; exact g3)
      have hnb : ∀ {b : Nat} {t : TypeId} {cs : List Value}, Blk w6 b t cs → some b ≠ some b3 := fun hB e => by
        cases e
        obtain ⟨es, clock, h1, _⟩ := hS6
        unfold Blk at hB
        rw [h1] at hB; cases hB
      replace k_b5 := grow_blk g7 k_b5 (hnb k_b5)
      have hS7' : SetS Try.prog 86 w7 b3 (fun y => ∃ s ∈ L.take (k + 1), keyV s = y) := hS7.congr (fun y => by
        rw [List.take_add_one, hr]
        constructor
        · rintro ⟨s, h1, h2⟩
          rcases List.mem_append.1 h1 with h1 | h1
          · exact .inl ⟨s, h1, h2⟩
          · simp at h1; subst h1; exact .inr h2.symm
        · rintro (⟨s, h1, h2⟩ | h)
          · exact ⟨s, List.mem_append.2 (.inl h1), h2⟩
          · exact ⟨r, List.mem_append.2 (.inr (by simp)), h.symm⟩)
      clear hS7 hS6 hnb g7 hno hhas y6 k_b7
      repeat (first | refine Vx ?_ | (apply Ops_q; (case hon => exact Va); (case hd => rfl); (case hq => exact YlA)) | refine Vr ?_ | refine Vt ?_ | refine Vf ?_ | refine Vm ?_ | refine Ve ?_ | refine Vo ?_ | refine Vz ?_ | refine Vn ?_)
      rcases Nat.eq_zero_or_pos k with rfl | hkp
      · have d3 : decide ((0 : Int) < ((0 : Nat) : Int)) = false := rfl
        repeat (first | refine Vx ?_ | (apply Ops_q; (case hon => exact Va); (case hd => rfl); (case hq => exact YlA)) | refine Vr ?_ | refine Vt ?_ | refine Vf ?_ | refine Vm ?_ | refine Ve ?_ | refine Vo ?_ | refine Vz ?_ | refine Vn ?_)
        exact ⟨0 + 1, (by repeat (first | exact trivial | refine ⟨rfl, ?_⟩)), ⟨hkl, x7, hS7', firstE_go hs (errC_zero hr t1 hh rfl)⟩, by omega⟩
      · have d3 : decide ((0 : Int) < (k : Int)) = true := decide_eq_true (by omega)
        obtain ⟨g, hg⟩ : ∃ g, L[k - 1]? = some g := ⟨_, List.getElem?_eq_getElem (by omega)⟩
        obtain ⟨ad', eA, hcg⟩ := hL.at hg
        cases eA
        have hcg4 := hcg.ext x7
        have ek : (k : Int) - 1 = ((k - 1 : Nat) : Int) := by omega
        refine Ops_know rfl rfl d3 ?_
        repeat (first | refine Vx ?_ | (apply Ops_q; (case hon => exact Va); (case hd => rfl); (case hq => exact YlA)) | refine Vr ?_ | refine Vt ?_ | refine Vf ?_ | refine Vm ?_ | refine Ve ?_ | refine Vo ?_ | refine Vz ?_ | refine Vn ?_)
        rw [ek]
        (apply Ops_q; (case hon => (exact Va)); (case hd => rfl); (case hq => exact Yl_indexS (j := k - 1) rfl rfl (by omega)))
        repeat (first | refine Vx ?_ | (apply Ops_q; (case hon => exact Va); (case hd => rfl); (case hq => exact YlA)) | refine Vr ?_ | refine Vt ?_ | refine Vf ?_ | refine Vm ?_ | refine Ve ?_ | refine Vo ?_ | refine Vz ?_ | refine Vn ?_)
        (apply Ops_q; (case hon => (exact Va)); (case hd => rfl); (case hq => exact Yl_call rfl (fun w_ e_ => compareRt_v g r w_)))
        repeat (first | refine Vx ?_ | (apply Ops_q; (case hon => exact Va); (case hd => rfl); (case hq => exact YlA)) | refine Vr ?_ | refine Vt ?_ | refine Vf ?_ | refine Vm ?_ | refine Ve ?_ | refine Vo ?_ | refine Vz ?_ | refine Vn ?_)
        by_cases t4 : 0 ≤ cmpR g r
        · have d4 : decide (0 ≤ cmpR g r) = true := decide_eq_true t4
          refine V_yes rfl d4 ?_
          repeat (first | refine Vx ?_ | (apply Ops_q; (case hon => exact Va); (case hd => rfl); (case hq => exact YlA)) | refine Vr ?_ | refine Vt ?_ | refine Vf ?_ | refine Vm ?_ | refine Ve ?_ | refine Vo ?_ | refine Vz ?_ | refine Vn ?_)
          refine ret1 (by first | exact .inl rfl | exact .inr rfl) rfl rfl ?_
          exact Ret_mk (by rw [hbad 16 (errC_o hr hg t1 hh hkp t4) (by decide)]) x7
        · have d4 : decide (0 ≤ cmpR g r) = false := decide_eq_false t4
          refine V_no rfl d4 ?_
          repeat (first | refine Vx ?_ | (apply Ops_q; (case hon => exact Va); (case hd => rfl); (case hq => exact YlA)) | refine Vr ?_ | refine Vt ?_ | refine Vf ?_ | refine Vm ?_ | refine Ve ?_ | refine Vo ?_ | refine Vz ?_ | refine Vn ?_)
          exact ⟨k + 1, (by repeat (first | exact trivial | refine ⟨rfl, ?_⟩)), ⟨hkl, x7, hS7', firstE_go hs (errC_ok hr hg t1 hh t4)⟩, by omega⟩
    · have d1 : (!decide (errT r = 0)) = true := by rw [decide_eq_false t1]; rfl
      refine V_yes rfl d1 ?_
      repeat (first | refine Vx ?_ | (apply Ops_q; (case hon => exact Va); (case hd => rfl); (case hq => exact YlA)) | refine Vr ?_ | refine Vt ?_ | refine Vf ?_ | refine Vm ?_ | refine Ve ?_ | refine Vo ?_ | refine Vz ?_ | refine Vn ?_)
      refine ret1 (by first | exact .inl rfl | exact .inr rfl) rfl rfl ?_
      exact Ret_mk (by rw [hbad (errT r) (errC_t hr t1) t1]) x4
  · obtain rfl : k = L.length := by have := of_decide_eq_false hg; omega
    repeat (first | refine Vx ?_ | (apply Ops_q; (case hon => exact Va); (case hd => rfl); (case hq => exact YlA)) | refine Vr ?_ | refine Vt ?_ | refine Vf ?_ | refine Vm ?_ | refine Ve ?_ | refine Vo ?_ | refine Vz ?_ | refine Vn ?_)
    refine ret1 (by first | exact .inl rfl | exact .inr rfl) rfl rfl ?_
    exact Ret_mk (by rw [hs]) x2
end Go.Proofs.Ytkdjbddjblahkaa

/-
  Routes (layer 48): Check of the reference; active lists; equality of hops and routes.
  Conditions: addresses and routers are numbers of 32 bits; lists are not too long for a machine.
-/
namespace Go.Proofs.Ytkdjbddjblahkaa
open Go.RowKit

/-! ### Equal hops -/
instance eqNh (a b c d e f a' b' c' d' e' f' : Int) : TEqv Try.prog 48 (.agg #[.int .u32 a, .int .i64 b, .int .u32 c, .int .i64 d, .int .u32 e, .int .i64 f]) (.agg #[.int .u32 a', .int .i64 b', .int .u32 c', .int .i64 d', .int .u32 e', .int .i64 f']) (decide (a = a' ∧ b = b' ∧ c = c' ∧ d = d' ∧ e = e' ∧ f = f')) := ⟨fun w => by
  have u3 := Try.underlying3
  have a3 := Try.isAgg3
  have u4 := Try.underlying24
  have a4 : ∀ w, (isAgg 24).run Try.prog w = .ok false w := fun _ => by kernel_rfl
  have u6 := Try.underlying23
  have a6 : ∀ w, (isAgg 23).run Try.prog w = .ok false w := fun _ => by kernel_rfl
  have hS : Try.prog.underlying 28 = some (.struct (Try.prog.fieldsOf 28)) := by kernel_rfl
  have hS2 : Try.prog.underlying 48 = some (.struct (Try.prog.fieldsOf 48)) := by kernel_rfl
  have a5 : ∀ w, (isAgg 28).run Try.prog w = .ok true w := fun _ => by kernel_rfl
  have z5 : Try.prog.cellsOf 28 = 2 := by kernel_rfl
  have hin : ∀ w, (Op.equalIn 9999 28 (.agg #[.int .u32 e, .int .i64 f]) (.agg #[.int .u32 e', .int .i64 f'])).run Try.prog w = .ok (decide (e = e' ∧ f = f')) w := fun w => by
    show (Op.equalIn (9998 + 1) 28 _ _).run _ _ = _
    rw [run_equalIn_agg w 9998 28 _ _ hS (by kernel_rfl)]
    simp only [Program.fieldsOf, Try.underlying28]
    go_simp
    by_cases h1 : e = e' <;> by_cases h2 : f = f' <;> simp [h1, h2]
  show (Op.equalIn (9999 + 1) 48 _ _).run _ _ = _
  rw [run_equalIn_agg w 9999 48 _ _ hS2 (by kernel_rfl)]
  simp only [Program.fieldsOf, Try.underlying48]
  go_simp
  by_cases h1 : a = a' <;> by_cases h2 : b = b' <;> by_cases h3 : c = c' <;> by_cases h4 : d = d' <;> by_cases h5 : e = e' <;> by_cases h6 : f = f' <;> simp [h1, h2, h3, h4, h5, h6], by kernel_rfl⟩
theorem eqNh_d (x y : Nh) : decide ((x.addr : Int) = (y.addr : Int) ∧ x.iface = y.iface ∧ (x.router : Int) = (y.router : Int) ∧ x.weight = y.weight ∧ (x.via.a : Int) = (y.via.a : Int) ∧ x.via.n = y.via.n) = decide (x = y) := by
  rw [decide_eq_decide]
  constructor
  · rintro ⟨h1, h2, h3, h4, h5, h6⟩
    have e1 : x.addr = y.addr := by omega
    have e3 : x.router = y.router := by omega
    have e5 : x.via = y.via := pf_eq (by omega) h6
    cases x; cases y
    simp only at e1 h2 e3 h4 e5
    subst e1; subst h2; subst e3; subst h4; subst e5; rfl
  · intro h; subst h; exact ⟨rfl, rfl, rfl, rfl, rfl, rfl⟩
set_option maxHeartbeats 1000000 in
theorem sameHops_v (ao bo : Option Addr) (A B : List Nh) (c d : Nat) (w : World) (hA : Nhs w ao A) (hB : Nhs w bo B) (hn : A.length ≤ 4611686018427387904) : Calls Try.prog 18 #[.slice ao A.length c, .slice bo B.length d] w (Ret (.bool (decide (A = B))) w) := by
  refine V_enter (vs := [_, _]) Try.func18 rfl Try.ntmps18 (Nat.le_of_ble_eq_true rfl) ?_
  repeat (first | refine Vx ?_ | (apply Ops_q; (case hon => exact Va); (case hd => rfl); (case hq => exact YlA)) | refine Vr ?_ | refine Vt ?_ | refine Vf ?_ | refine Vm ?_ | refine Ve ?_ | refine Vo ?_ | refine Vz ?_ | refine Vn ?_)
  refine V_cond rfl (fun h1 => ?_) (fun h1 => ?_)
  · have hne : A.length ≠ B.length := fun e => by
      have : ¬((A.length : Int) = (B.length : Int)) := by simpa using h1
      omega
    repeat (first | refine Vx ?_ | (apply Ops_q; (case hon => exact Va); (case hd => rfl); (case hq => exact YlA)) | refine Vr ?_ | refine Vt ?_ | refine Vf ?_ | refine Vm ?_ | refine Ve ?_ | refine Vo ?_ | refine Vz ?_ | refine Vn ?_)
    refine ret1 (by first | exact .inl rfl | exact .inr rfl) rfl rfl ?_
    exact Ret_mk (by rw [decide_eq_false (fun e => hne (by rw [e]))]) (Ext.refl _)
  have hlen : A.length = B.length := by
    have : (A.length : Int) = (B.length : Int) := by simpa using h1
    omega
  clear h1
  repeat (first | refine Vx ?_ | (apply Ops_q; (case hon => exact Va); (case hd => rfl); (case hq => exact YlA)) | refine Vr ?_ | refine Vt ?_ | refine Vf ?_ | refine Vm ?_ | refine Ve ?_ | refine Vo ?_ | refine Vz ?_ | refine Vn ?_)
  refine V_loop (fun k : Nat => [(14, .int .i64 k), (13, .int .i64 A.length), (12, .slice ao A.length c), (1, .slice bo B.length d)]) (fun k w' => Ext w w' ∧ k ≤ A.length ∧ ∀ j, j < k → A[j]? = B[j]?) (fun k => A.length - k) 0 (by repeat (first | exact trivial | refine ⟨rfl, ?_⟩)) ⟨Ext.refl _, Nat.zero_le _, fun j h => by omega⟩ ?_
  rintro k w1 ⟨e1, hk, hs⟩
  repeat (first | refine Vx ?_ | (apply Ops_q; (case hon => exact Va); (case hd => rfl); (case hq => exact YlA)) | refine Vr ?_ | refine Vt ?_ | refine Vf ?_ | refine Vm ?_ | refine Ve ?_ | refine Vo ?_ | refine Vz ?_ | refine Vn ?_)
  refine V_cond rfl (fun hg => ?_) (fun hg => ?_)
  · replace hg := of_decide_eq_true hg
    have hkl : k < A.length := by omega
    obtain ⟨x, hx⟩ : ∃ x, A[k]? = some x := ⟨_, List.getElem?_eq_getElem hkl⟩
    obtain ⟨y, hy⟩ : ∃ y, B[k]? = some y := ⟨_, List.getElem?_eq_getElem (by omega)⟩
    obtain ⟨ad, rfl, hc⟩ := hA.at hx
    obtain ⟨bd, rfl, hd⟩ := hB.at hy
    have hc1 := hc.ext e1
    have hkb : k < B.length := by omega
    clear hc
    repeat (first | refine Vx ?_ | (apply Ops_q; (case hon => exact Va); (case hd => rfl); (case hq => exact YlA)) | refine Vr ?_ | refine Vt ?_ | refine Vf ?_ | refine Vm ?_ | refine Ve ?_ | refine Vo ?_ | refine Vz ?_ | refine Vn ?_)
    (apply Ops_q; (case hon => (exact Va)); (case hd => rfl); (case hq => exact Yl_indexS (j := k) rfl rfl (by omega)))
    repeat (first | refine Vx ?_ | (apply Ops_q; (case hon => exact Va); (case hd => rfl); (case hq => exact YlA)) | refine Vr ?_ | refine Vt ?_ | refine Vf ?_ | refine Vm ?_ | refine Ve ?_ | refine Vo ?_ | refine Vz ?_ | refine Vn ?_)
    (refine Ops_alloc (by exact Va) rfl ?_; intro w2 b2 n_b2; have k_b2 := n_b2.blk)
    repeat (first | refine Vx ?_ | (apply Ops_q; (case hon => exact Va); (case hd => rfl); (case hq => exact YlA)) | refine Vr ?_ | refine Vt ?_ | refine Vf ?_ | refine Vm ?_ | refine Ve ?_ | refine Vo ?_ | refine Vz ?_ | refine Vn ?_)
    (refine Ops_store (by exact Va) rfl rfl (by assumption) (by first | rfl | exact OneAll.h) ?_; intro w3 u_w3; have k_b2 := u_w3.blk)
    have e3 := u_w3.below (e1.trans n_b2.ext) (Nat.le_trans e1.size n_b2.ge)
    have hd1 := hd.ext e3
    clear u_w3 n_b2 hc1
    repeat (first | refine Vx ?_ | (apply Ops_q; (case hon => exact Va); (case hd => rfl); (case hq => exact YlA)) | refine Vr ?_ | refine Vt ?_ | refine Vf ?_ | refine Vm ?_ | refine Ve ?_ | refine Vo ?_ | refine Vz ?_ | refine Vn ?_)
    (apply Ops_q; (case hon => (exact Va)); (case hd => rfl); (case hq => exact Yl_indexS (j := k) rfl rfl (by omega)))
    repeat (first | refine Vx ?_ | (apply Ops_q; (case hon => exact Va); (case hd => rfl); (case hq => exact YlA)) | refine Vr ?_ | refine Vt ?_ | refine Vf ?_ | refine Vm ?_ | refine Ve ?_ | refine Vo ?_ | refine Vz ?_ | refine Vn ?_)
    rw [eqNh_d]
    by_cases he : x = y
    · have d2 : (!decide (x = y)) = false := by rw [decide_eq_true he]; rfl
      refine V_no rfl d2 ?_
      repeat (first | refine Vx ?_ | (apply Ops_q; (case hon => exact Va); (case hd => rfl); (case hq => exact YlA)) | refine Vr ?_ | refine Vt ?_ | refine Vf ?_ | refine Vm ?_ | refine Ve ?_ | refine Vo ?_ | refine Vz ?_ | refine Vn ?_)
      refine ⟨k + 1, (by repeat (first | exact trivial | refine ⟨rfl, ?_⟩)), ⟨e3, hkl, fun j hj => ?_⟩, by omega⟩
      rcases Nat.lt_or_ge j k with h3 | h3
      · exact hs j h3
      · obtain rfl : j = k := by omega
        rw [hx, hy, he]
    · have d2 : (!decide (x = y)) = true := by rw [decide_eq_false he]; rfl
      refine V_yes rfl d2 ?_
      repeat (first | refine Vx ?_ | (apply Ops_q; (case hon => exact Va); (case hd => rfl); (case hq => exact YlA)) | refine Vr ?_ | refine Vt ?_ | refine Vf ?_ | refine Vm ?_ | refine Ve ?_ | refine Vo ?_ | refine Vz ?_ | refine Vn ?_)
      refine ret1 (by first | exact .inl rfl | exact .inr rfl) rfl rfl ?_
      refine Ret_mk ?_ e3
      rw [decide_eq_false]
      intro e
      rw [e, hy] at hx; cases hx
      exact he rfl
  replace hg := of_decide_eq_false hg
  obtain rfl : k = A.length := by omega
  repeat (first | refine Vx ?_ | (apply Ops_q; (case hon => exact Va); (case hd => rfl); (case hq => exact YlA)) | refine Vr ?_ | refine Vt ?_ | refine Vf ?_ | refine Vm ?_ | refine Ve ?_ | refine Vo ?_ | refine Vz ?_ | refine Vn ?_)
  refine ret1 (by first | exact .inl rfl | exact .inr rfl) rfl rfl ?_
  refine Ret_mk ?_ e1
  rw [decide_eq_true]
  refine List.ext_getElem? fun j => ?_
  rcases Nat.lt_or_ge j A.length with h3 | h3
  · exact hs j h3
  · rw [List.getElem?_eq_none h3, List.getElem?_eq_none (by omega)]
/-! ### Equal routes -/
structure SameR (r s : Rt) : Prop where
  p : r.p = s.p
  proto : r.proto = s.proto
  dist : r.dist = s.dist
  metric : r.metric = s.metric
  tag : r.tag = s.tag
  hops : r.hops = s.hops
theorem SameR.rfl' (r : Rt) : SameR r r := ⟨rfl, rfl, rfl, rfl, rfl, rfl⟩
theorem bool_no {b : Bool} {P : Prop} (h : b = true ↔ P) (hn : ¬P) : b = false := by
  cases b with
  | false => rfl
  | true => exact absurd (h.1 rfl) hn
theorem bool_ex (P : Prop) : ∃ b : Bool, b = true ↔ P := by
  by_cases h : P
  · exact ⟨true, ⟨fun _ => h, fun _ => rfl⟩⟩
  · exact ⟨false, ⟨(fun h2 => nomatch h2), fun h2 => absurd h2 h⟩⟩
set_option maxHeartbeats 1000000 in
theorem same_v (r s : Rt) (b : Bool) (w : World) (hr : RtM w r) (hs : RtM w s) (hn : r.hops.length ≤ 4611686018427387904) (hb : b = true ↔ SameR r s) : Calls Try.prog 15 #[r.val, s.val] w (Ret (.bool b) w) := by
  refine V_enter (vs := [_, _]) Try.func15 rfl Try.ntmps15 (Nat.le_of_ble_eq_true rfl) ?_
  repeat (first | refine Vx ?_ | (apply Ops_q; (case hon => exact Va); (case hd => rfl); (case hq => exact YlA)) | refine Vr ?_ | refine Vt ?_ | refine Vf ?_ | refine Vm ?_ | refine Ve ?_ | refine Vo ?_ | refine Vz ?_ | refine Vn ?_)
  (refine Ops_box (by exact Va) rfl rfl rfl ?_; intro w1 b1 n_b1; have k_b1 := n_b1.blk)
  repeat (first | refine Vx ?_ | (apply Ops_q; (case hon => exact Va); (case hd => rfl); (case hq => exact YlA)) | refine Vr ?_ | refine Vt ?_ | refine Vf ?_ | refine Vm ?_ | refine Ve ?_ | refine Vo ?_ | refine Vz ?_ | refine Vn ?_)
  (refine Ops_box (by exact Va) rfl rfl rfl ?_; intro w2 b2 n_b2; have k_b2 := n_b2.blk)
  replace k_b1 := k_b1.ext n_b2.ext
  have x2 := n_b1.ext.trans n_b2.ext
  clear n_b1 n_b2
  have p1 : Cells w2 ⟨b1, 0, none⟩ [.int .u32 r.p.a, .int .i64 r.p.n] := k_b1.part 0 2
  have p2 : Cells w2 ⟨b2, 0, none⟩ [.int .u32 s.p.a, .int .i64 s.p.n] := k_b2.part 0 2
  repeat (first | refine Vx ?_ | (apply Ops_q; (case hon => exact Va); (case hd => rfl); (case hq => exact YlA)) | refine Vr ?_ | refine Vt ?_ | refine Vf ?_ | refine Vm ?_ | refine Ve ?_ | refine Vo ?_ | refine Vz ?_ | refine Vn ?_)
  rw [eqPf_d]
  by_cases t1 : r.p = s.p
  rotate_left
  · have d : decide (r.p = s.p) = false := decide_eq_false t1
    refine Ops_know rfl rfl d ?_
    repeat (first | refine Vx ?_ | (apply Ops_q; (case hon => exact Va); (case hd => rfl); (case hq => exact YlA)) | refine Vr ?_ | refine Vt ?_ | refine Vf ?_ | refine Vm ?_ | refine Ve ?_ | refine Vo ?_ | refine Vz ?_ | refine Vn ?_)
    refine ret1 (by first | exact .inl rfl | exact .inr rfl) rfl rfl ?_
    obtain rfl := bool_no hb (fun h => t1 h.p)
    exact Ret_mk rfl x2
  have d : decide (r.p = s.p) = true := decide_eq_true t1
  refine Ops_know rfl rfl d ?_
  clear d p1 p2
  repeat (first | refine Vx ?_ | (apply Ops_q; (case hon => exact Va); (case hd => rfl); (case hq => exact YlA)) | refine Vr ?_ | refine Vt ?_ | refine Vf ?_ | refine Vm ?_ | refine Ve ?_ | refine Vo ?_ | refine Vz ?_ | refine Vn ?_)
  by_cases t2 : r.proto = s.proto
  rotate_left
  · have d : decide (r.proto = s.proto) = false := decide_eq_false t2
    refine Ops_know rfl rfl d ?_
    repeat (first | refine Vx ?_ | (apply Ops_q; (case hon => exact Va); (case hd => rfl); (case hq => exact YlA)) | refine Vr ?_ | refine Vt ?_ | refine Vf ?_ | refine Vm ?_ | refine Ve ?_ | refine Vo ?_ | refine Vz ?_ | refine Vn ?_)
    refine ret1 (by first | exact .inl rfl | exact .inr rfl) rfl rfl ?_
    obtain rfl := bool_no hb (fun h => t2 h.proto)
    exact Ret_mk rfl x2
  have d : decide (r.proto = s.proto) = true := decide_eq_true t2
  refine Ops_know rfl rfl d ?_
  clear d
  repeat (first | refine Vx ?_ | (apply Ops_q; (case hon => exact Va); (case hd => rfl); (case hq => exact YlA)) | refine Vr ?_ | refine Vt ?_ | refine Vf ?_ | refine Vm ?_ | refine Ve ?_ | refine Vo ?_ | refine Vz ?_ | refine Vn ?_)
  by_cases t3 : r.dist = s.dist
  rotate_left
  · have d : decide (r.dist = s.dist) = false := decide_eq_false t3
    refine Ops_know rfl rfl d ?_
    repeat (first | refine Vx ?_ | (apply Ops_q; (case hon => exact Va); (case hd => rfl); (case hq => exact YlA)) | refine Vr ?_ | refine Vt ?_ | refine Vf ?_ | refine Vm ?_ | refine Ve ?_ | refine Vo ?_ | refine Vz ?_ | refine Vn ?_)
    refine ret1 (by first | exact .inl rfl | exact .inr rfl) rfl rfl ?_
    obtain rfl := bool_no hb (fun h => t3 h.dist)
    exact Ret_mk rfl x2
  have d : decide (r.dist = s.dist) = true := decide_eq_true t3
  refine Ops_know rfl rfl d ?_
  clear d
  repeat (first | refine Vx ?_ | (apply Ops_q; (case hon => exact Va); (case hd => rfl); (case hq => exact YlA)) | refine Vr ?_ | refine Vt ?_ | refine Vf ?_ | refine Vm ?_ | refine Ve ?_ | refine Vo ?_ | refine Vz ?_ | refine Vn ?_)
  by_cases t4 : r.metric = s.metric
  rotate_left
  · have d : decide (r.metric = s.metric) = false := decide_eq_false t4
    refine Ops_know rfl rfl d ?_
    repeat (first | refine Vx ?_ | (apply Ops_q; (case hon => exact Va); (case hd => rfl); (case hq => exact YlA)) | refine Vr ?_ | refine Vt ?_ | refine Vf ?_ | refine Vm ?_ | refine Ve ?_ | refine Vo ?_ | refine Vz ?_ | refine Vn ?_)
    refine ret1 (by first | exact .inl rfl | exact .inr rfl) rfl rfl ?_
    obtain rfl := bool_no hb (fun h => t4 h.metric)
    exact Ret_mk rfl x2
  have d : decide (r.metric = s.metric) = true := decide_eq_true t4
  refine Ops_know rfl rfl d ?_
  clear d
  repeat (first | refine Vx ?_ | (apply Ops_q; (case hon => exact Va); (case hd => rfl); (case hq => exact YlA)) | refine Vr ?_ | refine Vt ?_ | refine Vf ?_ | refine Vm ?_ | refine Ve ?_ | refine Vo ?_ | refine Vz ?_ | refine Vn ?_)
  by_cases t5 : r.tag = s.tag
  rotate_left
  · have d : decide (r.tag = s.tag) = false := decide_eq_false t5
    refine Ops_know rfl rfl d ?_
    repeat (first | refine Vx ?_ | (apply Ops_q; (case hon => exact Va); (case hd => rfl); (case hq => exact YlA)) | refine Vr ?_ | refine Vt ?_ | refine Vf ?_ | refine Vm ?_ | refine Ve ?_ | refine Vo ?_ | refine Vz ?_ | refine Vn ?_)
    refine ret1 (by first | exact .inl rfl | exact .inr rfl) rfl rfl ?_
    obtain rfl := bool_no hb (fun h => t5 h.tag)
    exact Ret_mk rfl x2
  have d : decide (r.tag = s.tag) = true := decide_eq_true t5
  refine Ops_know rfl rfl d ?_
  clear d
  repeat (first | refine Vx ?_ | (apply Ops_q; (case hon => exact Va); (case hd => rfl); (case hq => exact YlA)) | refine Vr ?_ | refine Vt ?_ | refine Vf ?_ | refine Vm ?_ | refine Ve ?_ | refine Vo ?_ | refine Vz ?_ | refine Vn ?_)
  (apply Ops_q; (case hon => (exact Va)); (case hd => rfl); (case hq => exact Yl_call rfl (fun w_ e_ => sameHops_v r.ao s.ao r.hops s.hops r.c s.c w_ (hr.hops.ext (x2.trans e_)) (hs.hops.ext (x2.trans e_)) hn)))
  repeat (first | refine Vx ?_ | (apply Ops_q; (case hon => exact Va); (case hd => rfl); (case hq => exact YlA)) | refine Vr ?_ | refine Vt ?_ | refine Vf ?_ | refine Vm ?_ | refine Ve ?_ | refine Vo ?_ | refine Vz ?_ | refine Vn ?_)
  refine ret1 (by first | exact .inl rfl | exact .inr rfl) rfl rfl ?_
  have e : decide (r.hops = s.hops) = b := by
    cases b with
    | true => exact decide_eq_true (hb.1 rfl).hops
    | false => exact decide_eq_false (fun h => by have := hb.2 ⟨t1, t2, t3, t4, t5, h⟩; cases this)
  exact Ret_mk (by rw [e]) x2
/-- Two lists of equal routes. -/
def SameL (A B : List Rt) : Prop := A.length = B.length ∧ ∀ (i : Nat) r s, A[i]? = some r → B[i]? = some s → SameR r s
set_option maxHeartbeats 1000000 in
theorem sameL_v (ao bo : Option Addr) (A B : List Rt) (c d : Nat) (b : Bool) (w : World) (hA : Rts w ao A) (hB : Rts w bo B) (hn : A.length ≤ 4611686018427387904) (hnh : ∀ r ∈ A, r.hops.length ≤ 4611686018427387904) (hb : b = true ↔ SameL A B) :
    Calls Try.prog 19 #[.slice ao A.length c, .slice bo B.length d] w (Ret (.bool b) w) := by
  refine V_enter (vs := [_, _]) Try.func19 rfl Try.ntmps19 (Nat.le_of_ble_eq_true rfl) ?_
  repeat (first | refine Vx ?_ | (apply Ops_q; (case hon => exact Va); (case hd => rfl); (case hq => exact YlA)) | refine Vr ?_ | refine Vt ?_ | refine Vf ?_ | refine Vm ?_ | refine Ve ?_ | refine Vo ?_ | refine Vz ?_ | refine Vn ?_)
  refine V_cond rfl (fun h1 => ?_) (fun h1 => ?_)
  · have hne : A.length ≠ B.length := fun e => by
      have : ¬((A.length : Int) = (B.length : Int)) := by simpa using h1
      omega
    repeat (first | refine Vx ?_ | (apply Ops_q; (case hon => exact Va); (case hd => rfl); (case hq => exact YlA)) | refine Vr ?_ | refine Vt ?_ | refine Vf ?_ | refine Vm ?_ | refine Ve ?_ | refine Vo ?_ | refine Vz ?_ | refine Vn ?_)
    refine ret1 (by first | exact .inl rfl | exact .inr rfl) rfl rfl ?_
    obtain rfl := bool_no hb (fun h => hne h.1)
    exact Ret_mk rfl (Ext.refl _)
  have hlen : A.length = B.length := by
    have : (A.length : Int) = (B.length : Int) := by simpa using h1
    omega
  clear h1
  repeat (first | refine Vx ?_ | (apply Ops_q; (case hon => exact Va); (case hd => rfl); (case hq => exact YlA)) | refine Vr ?_ | refine Vt ?_ | refine Vf ?_ | refine Vm ?_ | refine Ve ?_ | refine Vo ?_ | refine Vz ?_ | refine Vn ?_)
  refine V_loop (fun k : Nat => [(14, .int .i64 k), (13, .int .i64 A.length), (12, .slice ao A.length c), (1, .slice bo B.length d)]) (fun k w' => Ext w w' ∧ k ≤ A.length ∧ ∀ j r s, j < k → A[j]? = some r → B[j]? = some s → SameR r s) (fun k => A.length - k) 0 (by repeat (first | exact trivial | refine ⟨rfl, ?_⟩)) ⟨Ext.refl _, Nat.zero_le _, fun j r s h => by omega⟩ ?_
  rintro k w1 ⟨e1, hk, hs⟩
  repeat (first | refine Vx ?_ | (apply Ops_q; (case hon => exact Va); (case hd => rfl); (case hq => exact YlA)) | refine Vr ?_ | refine Vt ?_ | refine Vf ?_ | refine Vm ?_ | refine Ve ?_ | refine Vo ?_ | refine Vz ?_ | refine Vn ?_)
  refine V_cond rfl (fun hg => ?_) (fun hg => ?_)
  · replace hg := of_decide_eq_true hg
    have hkl : k < A.length := by omega
    obtain ⟨x, hx⟩ : ∃ x, A[k]? = some x := ⟨_, List.getElem?_eq_getElem hkl⟩
    obtain ⟨y, hy⟩ : ∃ y, B[k]? = some y := ⟨_, List.getElem?_eq_getElem (by omega)⟩
    obtain ⟨ad, rfl, hc⟩ := hA.at hx
    obtain ⟨bd, rfl, hd⟩ := hB.at hy
    have hxm := hA.mem x (List.mem_of_getElem? hx)
    have hym := hB.mem y (List.mem_of_getElem? hy)
    have hxn := hnh x (List.mem_of_getElem? hx)
    have hc1 := hc.ext e1
    have hkb : k < B.length := by omega
    obtain ⟨b2, hb2⟩ := bool_ex (SameR x y)
    clear hc
    repeat (first | refine Vx ?_ | (apply Ops_q; (case hon => exact Va); (case hd => rfl); (case hq => exact YlA)) | refine Vr ?_ | refine Vt ?_ | refine Vf ?_ | refine Vm ?_ | refine Ve ?_ | refine Vo ?_ | refine Vz ?_ | refine Vn ?_)
    (apply Ops_q; (case hon => (exact Va)); (case hd => rfl); (case hq => exact Yl_indexS (j := k) rfl rfl (by omega)))
    repeat (first | refine Vx ?_ | (apply Ops_q; (case hon => exact Va); (case hd => rfl); (case hq => exact YlA)) | refine Vr ?_ | refine Vt ?_ | refine Vf ?_ | refine Vm ?_ | refine Ve ?_ | refine Vo ?_ | refine Vz ?_ | refine Vn ?_)
    (refine Ops_alloc (by exact Va) rfl ?_; intro w2 b6 n_b6; have k_b6 := n_b6.blk)
    repeat (first | refine Vx ?_ | (apply Ops_q; (case hon => exact Va); (case hd => rfl); (case hq => exact YlA)) | refine Vr ?_ | refine Vt ?_ | refine Vf ?_ | refine Vm ?_ | refine Ve ?_ | refine Vo ?_ | refine Vz ?_ | refine Vn ?_)
    (refine Ops_store (by exact Va) rfl rfl (by assumption) (by first | rfl | exact OneAll.h) ?_; intro w3 u_w3; have k_b6 := u_w3.blk)
    have e3 := u_w3.below (e1.trans n_b6.ext) (Nat.le_trans e1.size n_b6.ge)
    have hd1 := hd.ext e3
    clear u_w3 n_b6 hc1
    repeat (first | refine Vx ?_ | (apply Ops_q; (case hon => exact Va); (case hd => rfl); (case hq => exact YlA)) | refine Vr ?_ | refine Vt ?_ | refine Vf ?_ | refine Vm ?_ | refine Ve ?_ | refine Vo ?_ | refine Vz ?_ | refine Vn ?_)
    (apply Ops_q; (case hon => (exact Va)); (case hd => rfl); (case hq => exact Yl_indexS (j := k) rfl rfl (by omega)))
    repeat (first | refine Vx ?_ | (apply Ops_q; (case hon => exact Va); (case hd => rfl); (case hq => exact YlA)) | refine Vr ?_ | refine Vt ?_ | refine Vf ?_ | refine Vm ?_ | refine Ve ?_ | refine Vo ?_ | refine Vz ?_ | refine Vn ?_)
    (apply Ops_q; (case hon => (exact Va)); (case hd => rfl); (case hq => exact Yl_call rfl (fun w_ e_ => same_v x y b2 w_ (hxm.ext (e3.trans e_)) (hym.ext (e3.trans e_)) hxn hb2)))
    repeat (first | refine Vx ?_ | (apply Ops_q; (case hon => exact Va); (case hd => rfl); (case hq => exact YlA)) | refine Vr ?_ | refine Vt ?_ | refine Vf ?_ | refine Vm ?_ | refine Ve ?_ | refine Vo ?_ | refine Vz ?_ | refine Vn ?_)
    cases b2 with
    | true =>
      repeat (first | refine Vx ?_ | (apply Ops_q; (case hon => exact Va); (case hd => rfl); (case hq => exact YlA)) | refine Vr ?_ | refine Vt ?_ | refine Vf ?_ | refine Vm ?_ | refine Ve ?_ | refine Vo ?_ | refine Vz ?_ | refine Vn ?_)
      refine ⟨k + 1, (by repeat (first | exact trivial | refine ⟨rfl, ?_⟩)), ⟨e3, hkl, fun j r s hj hr hs' => ?_⟩, by omega⟩
      rcases Nat.lt_or_ge j k with h3 | h3
      · exact hs j r s h3 hr hs'
      · obtain rfl : j = k := by omega
        rw [hx] at hr; rw [hy] at hs'
        cases hr; cases hs'
        exact hb2.1 rfl
    | false =>
      repeat (first | refine Vx ?_ | (apply Ops_q; (case hon => exact Va); (case hd => rfl); (case hq => exact YlA)) | refine Vr ?_ | refine Vt ?_ | refine Vf ?_ | refine Vm ?_ | refine Ve ?_ | refine Vo ?_ | refine Vz ?_ | refine Vn ?_)
      refine ret1 (by first | exact .inl rfl | exact .inr rfl) rfl rfl ?_
      obtain rfl := bool_no hb (fun h => by have := hb2.2 (h.2 k x y hx hy); cases this)
      exact Ret_mk rfl e3
  replace hg := of_decide_eq_false hg
  obtain rfl : k = A.length := by omega
  repeat (first | refine Vx ?_ | (apply Ops_q; (case hon => exact Va); (case hd => rfl); (case hq => exact YlA)) | refine Vr ?_ | refine Vt ?_ | refine Vf ?_ | refine Vm ?_ | refine Ve ?_ | refine Vo ?_ | refine Vz ?_ | refine Vn ?_)
  refine ret1 (by first | exact .inl rfl | exact .inr rfl) rfl rfl ?_
  obtain rfl := hb.2 ⟨hlen, fun i r s hr hs' => hs i r s (List.getElem?_eq_some_iff.1 hr).1 hr hs'⟩
  exact Ret_mk rfl e1
/-! ### Small lists -/
def Large (L : List Rt) : Prop := (∃ r ∈ L, 3 < r.hops.length) ∨ 12 < L.length
theorem largeL_v (ao : Option Addr) (L : List Rt) (c : Nat) (b : Bool) (w : World) (hL : Rts w ao L) (hn : L.length ≤ 4611686018427387904) (hb : b = true ↔ Large L) :
    Calls Try.prog 9 #[.slice ao L.length c] w (Ret (.bool b) w) := by
  refine V_enter (vs := [_]) Try.func9 rfl Try.ntmps9 (Nat.le_of_ble_eq_true rfl) ?_
  repeat (first | refine Vx ?_ | (apply Ops_q; (case hon => exact Va); (case hd => rfl); (case hq => exact YlA)) | refine Vr ?_ | refine Vt ?_ | refine Vf ?_ | refine Vm ?_ | refine Ve ?_ | refine Vo ?_ | refine Vz ?_ | refine Vn ?_)
  refine V_loop (fun k : Nat => [(7, .int .i64 k), (6, .int .i64 L.length), (5, .slice ao L.length c), (0, .slice ao L.length c)]) (fun k w' => Ext w w' ∧ k ≤ L.length ∧ ∀ r ∈ L.take k, ¬3 < r.hops.length) (fun k => L.length - k) 0 (by repeat (first | exact trivial | refine ⟨rfl, ?_⟩)) ⟨Ext.refl _, Nat.zero_le _, fun r h => by simp at h⟩ ?_
  rintro k w1 ⟨e1, hk, hs⟩
  repeat (first | refine Vx ?_ | (apply Ops_q; (case hon => exact Va); (case hd => rfl); (case hq => exact YlA)) | refine Vr ?_ | refine Vt ?_ | refine Vf ?_ | refine Vm ?_ | refine Ve ?_ | refine Vo ?_ | refine Vz ?_ | refine Vn ?_)
  refine V_cond rfl (fun hg => ?_) (fun hg => ?_)
  · replace hg := of_decide_eq_true hg
    have hkl : k < L.length := by omega
    obtain ⟨x, hx⟩ : ∃ x, L[k]? = some x := ⟨_, List.getElem?_eq_getElem hkl⟩
    obtain ⟨ad, rfl, hc⟩ := hL.at hx
    have hc1 := hc.ext e1
    clear hc
    repeat (first | refine Vx ?_ | (apply Ops_q; (case hon => exact Va); (case hd => rfl); (case hq => exact YlA)) | refine Vr ?_ | refine Vt ?_ | refine Vf ?_ | refine Vm ?_ | refine Ve ?_ | refine Vo ?_ | refine Vz ?_ | refine Vn ?_)
    (apply Ops_q; (case hon => (exact Va)); (case hd => rfl); (case hq => exact Yl_indexS (j := k) rfl rfl (by omega)))
    repeat (first | refine Vx ?_ | (apply Ops_q; (case hon => exact Va); (case hd => rfl); (case hq => exact YlA)) | refine Vr ?_ | refine Vt ?_ | refine Vf ?_ | refine Vm ?_ | refine Ve ?_ | refine Vo ?_ | refine Vz ?_ | refine Vn ?_)
    (refine Ops_alloc (by exact Va) rfl ?_; intro w2 b4 n_b4; have k_b4 := n_b4.blk)
    repeat (first | refine Vx ?_ | (apply Ops_q; (case hon => exact Va); (case hd => rfl); (case hq => exact YlA)) | refine Vr ?_ | refine Vt ?_ | refine Vf ?_ | refine Vm ?_ | refine Ve ?_ | refine Vo ?_ | refine Vz ?_ | refine Vn ?_)
    (refine Ops_store (by exact Va) rfl rfl (by assumption) (by first | rfl | exact OneAll.h) ?_; intro w3 u_w3; have k_b4 := u_w3.blk)
    have e3 := u_w3.below (e1.trans n_b4.ext) (Nat.le_trans e1.size n_b4.ge)
    clear u_w3 n_b4 hc1
    repeat (first | refine Vx ?_ | (apply Ops_q; (case hon => exact Va); (case hd => rfl); (case hq => exact YlA)) | refine Vr ?_ | refine Vt ?_ | refine Vf ?_ | refine Vm ?_ | refine Ve ?_ | refine Vo ?_ | refine Vz ?_ | refine Vn ?_)
    by_cases t : 3 < x.hops.length
    · have d : decide ((3 : Int) < (x.hops.length : Int)) = true := decide_eq_true (by omega)
      refine V_yes rfl d ?_
      repeat (first | refine Vx ?_ | (apply Ops_q; (case hon => exact Va); (case hd => rfl); (case hq => exact YlA)) | refine Vr ?_ | refine Vt ?_ | refine Vf ?_ | refine Vm ?_ | refine Ve ?_ | refine Vo ?_ | refine Vz ?_ | refine Vn ?_)
      refine ret1 (by first | exact .inl rfl | exact .inr rfl) rfl rfl ?_
      obtain rfl := hb.2 (.inl ⟨x, List.mem_of_getElem? hx, t⟩)
      exact Ret_mk rfl e3
    · have d : decide ((3 : Int) < (x.hops.length : Int)) = false := decide_eq_false (by omega)
      refine V_no rfl d ?_
      repeat (first | refine Vx ?_ | (apply Ops_q; (case hon => exact Va); (case hd => rfl); (case hq => exact YlA)) | refine Vr ?_ | refine Vt ?_ | refine Vf ?_ | refine Vm ?_ | refine Ve ?_ | refine Vo ?_ | refine Vz ?_ | refine Vn ?_)
      refine ⟨k + 1, (by repeat (first | exact trivial | refine ⟨rfl, ?_⟩)), ⟨e3, hkl, fun r hr => ?_⟩, by omega⟩
      rw [List.take_add_one, hx] at hr
      rcases List.mem_append.1 hr with hr | hr
      · exact hs r hr
      · simp at hr; subst hr; exact t
  replace hg := of_decide_eq_false hg
  obtain rfl : k = L.length := by omega
  rw [List.take_length] at hs
  repeat (first | refine Vx ?_ | (apply Ops_q; (case hon => exact Va); (case hd => rfl); (case hq => exact YlA)) | refine Vr ?_ | refine Vt ?_ | refine Vf ?_ | refine Vm ?_ | refine Ve ?_ | refine Vo ?_ | refine Vz ?_ | refine Vn ?_)
  refine ret1 (by first | exact .inl rfl | exact .inr rfl) rfl rfl ?_
  have e : decide ((12 : Int) < (L.length : Int)) = b := by
    cases b with
    | true =>
      rcases hb.1 rfl with ⟨r, h1, h2⟩ | h
      · exact absurd h2 (hs r h1)
      · exact decide_eq_true (by omega)
    | false => exact decide_eq_false (fun h => by have := hb.2 (.inr (by omega)); cases this)
  exact Ret_mk (by rw [e]) e1
end Go.Proofs.Ytkdjbddjblahkaa

/-
  Routes (layers 48, 49): Check of the reference; active lists.
  Conditions: addresses and routers are numbers of 32 bits; lists are not too long for a machine.
-/
namespace Go.Proofs.Ytkdjbddjblahkaa
open Go.RowKit

section
variable {P : Program} {N : Fr} {m : Env} {w : World} {ty : TypeId} {pos : String} {after : Array Edge} {g : Option (Nat × Bool)} {dst : Option Tmp}
theorem Yl_sliceHr {t e : TypeId} {x y : Operand} {k : IntKind} {i c n0 b0 n : Nat} {ao : Option Addr} [ht : TSlice P t e] [hs : TSize P e n0 b0] (hx : ev m x = some (.slice ao n c)) (hy : ev m y = some (.int k (i : Int))) (hi : i ≤ n) (_ : n ≤ c) :
    Yl P N m w ⟨dst, .slice t x none (some y) none, ty, pos, after, g⟩ (.slice ao i c) := by
  refine Yl_of_run fun ac w' ha _ => ?_
  obtain ⟨inf, h1, h2⟩ := Option.map_eq_some_iff.1 hs.h
  have he : P.elem t = e := by simp [Program.elem, ht.h]
  have hu : P.underlying t = some (.slice (P.elem t)) := by rw [he]; exact ht.h
  have h0 : ao.map (fun a => a.add 0) = ao := by cases ao <;> simp [Addr.add]
  have := run_slice_h (P := P) w' t ao n c hu k i (by omega) (by omega)
  simp only [execOp, Option.map_none, Option.map_some, ha.ev hx, ha.ev hy]
  simp only [Sem.run_bind, run_sliceAt_slice w' t _ _ _ _ hu, this, sizeOf, typeInfo, he]
  simp [sliced, h1, h0, Result.andThen]
end
theorem Cells.sub {w : World} {a : Addr} {cs : List Value} (h : Cells w a cs) (o n : Nat) : Cells w (a.add o) ((cs.drop o).take n) := fun j v hj => by
  rw [List.getElem?_take] at hj
  split at hj
  · rw [List.getElem?_drop] at hj
    rw [add_add]; exact h _ v hj
  · cases hj
theorem hasR_v (ao : Option Addr) (L : List Rt) (n c : Nat) (p : Pf) (k : Int) (w : World) (hnl : n = L.length) (hL : Rts w ao L) (hn : L.length ≤ 4611686018427387904) :
    Calls Try.prog 85 #[.slice ao n c, p.val, .int .i64 k] w (Ret (.bool (hasK L p k)) w) := by
  subst hnl
  refine V_enter (vs := [_, _, _]) Try.func85 rfl Try.ntmps85 (Nat.le_of_ble_eq_true rfl) ?_
  repeat (first | refine Vx ?_ | (apply Ops_q; (case hon => exact Va); (case hd => rfl); (case hq => exact YlA)) | refine Vr ?_ | refine Vt ?_ | refine Vf ?_ | refine Vm ?_ | refine Ve ?_ | refine Vo ?_ | refine Vz ?_ | refine Vn ?_)
  (refine Ops_box (by exact Va) rfl rfl rfl ?_; intro w0 b4 n_b4; have k_b4 := n_b4.blk)
  have x0 := n_b4.ext
  clear n_b4
  have kk4 := k_b4
  repeat (first | refine Vx ?_ | (apply Ops_q; (case hon => exact Va); (case hd => rfl); (case hq => exact YlA)) | refine Vr ?_ | refine Vt ?_ | refine Vf ?_ | refine Vm ?_ | refine Ve ?_ | refine Vo ?_ | refine Vz ?_ | refine Vn ?_)
  refine V_loop (fun j : Nat => [(11, .int .i64 j), (10, .int .i64 L.length), (9, .slice ao L.length c), (4, .pointer (some ⟨b4, 0, none⟩)), (2, .int .i64 k)]) (fun j w' => Ext w0 w' ∧ j ≤ L.length ∧ hasK (L.take j) p k = false) (fun j => L.length - j) 0 (by repeat (first | exact trivial | refine ⟨rfl, ?_⟩)) ⟨Ext.refl _, Nat.zero_le _, rfl⟩ ?_
  rintro j w1 ⟨e1, hj, hs⟩
  repeat (first | refine Vx ?_ | (apply Ops_q; (case hon => exact Va); (case hd => rfl); (case hq => exact YlA)) | refine Vr ?_ | refine Vt ?_ | refine Vf ?_ | refine Vm ?_ | refine Ve ?_ | refine Vo ?_ | refine Vz ?_ | refine Vn ?_)
  refine V_cond rfl (fun hg => ?_) (fun hg => ?_)
  · replace hg := of_decide_eq_true hg
    have hjl : j < L.length := by omega
    obtain ⟨x, hx⟩ : ∃ x, L[j]? = some x := ⟨_, List.getElem?_eq_getElem hjl⟩
    obtain ⟨ad, rfl, hc⟩ := hL.at hx
    have hc1 := hc.ext (x0.trans e1)
    have hmem : x ∈ L := List.mem_of_getElem? hx
    clear hc k_b4
    repeat (first | refine Vx ?_ | (apply Ops_q; (case hon => exact Va); (case hd => rfl); (case hq => exact YlA)) | refine Vr ?_ | refine Vt ?_ | refine Vf ?_ | refine Vm ?_ | refine Ve ?_ | refine Vo ?_ | refine Vz ?_ | refine Vn ?_)
    (apply Ops_q; (case hon => (exact Va)); (case hd => rfl); (case hq => exact Yl_indexS (j := j) rfl rfl (by omega)))
    repeat (first | refine Vx ?_ | (apply Ops_q; (case hon => exact Va); (case hd => rfl); (case hq => exact YlA)) | refine Vr ?_ | refine Vt ?_ | refine Vf ?_ | refine Vm ?_ | refine Ve ?_ | refine Vo ?_ | refine Vz ?_ | refine Vn ?_)
    (refine Ops_alloc (by exact Va) rfl ?_; intro w2 b8 n_b8; have k_b8 := n_b8.blk)
    repeat (first | refine Vx ?_ | (apply Ops_q; (case hon => exact Va); (case hd => rfl); (case hq => exact YlA)) | refine Vr ?_ | refine Vt ?_ | refine Vf ?_ | refine Vm ?_ | refine Ve ?_ | refine Vo ?_ | refine Vz ?_ | refine Vn ?_)
    (refine Ops_store (by exact Va) rfl rfl (by assumption) (by first | rfl | exact OneAll.h) ?_; intro w3 u_w3; have k_b8 := u_w3.blk)
    have e3 := u_w3.below (e1.trans n_b8.ext) (Nat.le_trans e1.size n_b8.ge)
    clear u_w3 n_b8 hc1
    have q1 : Cells w3 ⟨b8, 0, none⟩ [.int .u32 x.p.a, .int .i64 x.p.n] := k_b8.part 0 2
    have q2 : Cells w3 ⟨b4, 0, none⟩ [.int .u32 p.a, .int .i64 p.n] := (kk4.ext e3).cells
    have hstep : ¬(x.p = p ∧ x.proto = k) → hasK (L.take (j + 1)) p k = false := fun h => by
      refine bool_no hasK_iff ?_
      rintro ⟨r, h1, h2⟩
      rw [List.take_add_one, hx] at h1
      rcases List.mem_append.1 h1 with h1 | h1
      · have := hasK_iff.2 ⟨r, h1, h2⟩
        rw [hs] at this; cases this
      · simp at h1; subst h1; exact h h2
    have hyes : x.p = p ∧ x.proto = k → hasK L p k = true := fun h => hasK_iff.2 ⟨x, hmem, h⟩
    repeat (first | refine Vx ?_ | (apply Ops_q; (case hon => exact Va); (case hd => rfl); (case hq => exact YlA)) | refine Vr ?_ | refine Vt ?_ | refine Vf ?_ | refine Vm ?_ | refine Ve ?_ | refine Vo ?_ | refine Vz ?_ | refine Vn ?_)
    rw [eqPf_d]
    by_cases t1 : x.p = p
    · have d1 : decide (x.p = p) = true := decide_eq_true t1
      refine Ops_know rfl rfl d1 ?_
      clear q1 q2
      repeat (first | refine Vx ?_ | (apply Ops_q; (case hon => exact Va); (case hd => rfl); (case hq => exact YlA)) | refine Vr ?_ | refine Vt ?_ | refine Vf ?_ | refine Vm ?_ | refine Ve ?_ | refine Vo ?_ | refine Vz ?_ | refine Vn ?_)
      by_cases t2 : x.proto = k
      · have d2 : decide (x.proto = k) = true := decide_eq_true t2
        refine V_yes rfl d2 ?_
        repeat (first | refine Vx ?_ | (apply Ops_q; (case hon => exact Va); (case hd => rfl); (case hq => exact YlA)) | refine Vr ?_ | refine Vt ?_ | refine Vf ?_ | refine Vm ?_ | refine Ve ?_ | refine Vo ?_ | refine Vz ?_ | refine Vn ?_)
        refine ret1 (by first | exact .inl rfl | exact .inr rfl) rfl rfl ?_
        exact Ret_mk (by rw [hyes ⟨t1, t2⟩]) (x0.trans e3)
      · have d2 : decide (x.proto = k) = false := decide_eq_false t2
        refine V_no rfl d2 ?_
        repeat (first | refine Vx ?_ | (apply Ops_q; (case hon => exact Va); (case hd => rfl); (case hq => exact YlA)) | refine Vr ?_ | refine Vt ?_ | refine Vf ?_ | refine Vm ?_ | refine Ve ?_ | refine Vo ?_ | refine Vz ?_ | refine Vn ?_)
        exact ⟨j + 1, (by repeat (first | exact trivial | refine ⟨rfl, ?_⟩)), ⟨e3, hjl, hstep (fun h => t2 h.2)⟩, by omega⟩
    · have d1 : decide (x.p = p) = false := decide_eq_false t1
      refine Ops_know rfl rfl d1 ?_
      repeat (first | refine Vx ?_ | (apply Ops_q; (case hon => exact Va); (case hd => rfl); (case hq => exact YlA)) | refine Vr ?_ | refine Vt ?_ | refine Vf ?_ | refine Vm ?_ | refine Ve ?_ | refine Vo ?_ | refine Vz ?_ | refine Vn ?_)
      exact ⟨j + 1, (by repeat (first | exact trivial | refine ⟨rfl, ?_⟩)), ⟨e3, hjl, hstep (fun h => t1 h.1)⟩, by omega⟩
  replace hg := of_decide_eq_false hg
  obtain rfl : j = L.length := by omega
  rw [List.take_length] at hs
  repeat (first | refine Vx ?_ | (apply Ops_q; (case hon => exact Va); (case hd => rfl); (case hq => exact YlA)) | refine Vr ?_ | refine Vt ?_ | refine Vf ?_ | refine Vm ?_ | refine Ve ?_ | refine Vo ?_ | refine Vz ?_ | refine Vn ?_)
  refine ret1 (by first | exact .inl rfl | exact .inr rfl) rfl rfl ?_
  exact Ret_mk (by rw [hs]) (x0.trans e1)
set_option maxHeartbeats 2000000 in
theorem checkR48_v (ao : Option Addr) (L : List Rt) (c : Nat) (w : World) (hL : Rts w ao L) (hnl : L.length ≤ 1000000000) (hcap : L.length ≤ c) (hnh : ∀ r ∈ L, r.hops.length ≤ 1000000000) : Calls Try.prog 63 #[.slice ao L.length c] w (Ret (.int .i64 (chkR L)) w) := by
  refine V_enter (vs := [_]) Try.func63 rfl Try.ntmps63 (Nat.le_of_ble_eq_true rfl) ?_
  repeat (first | refine Vx ?_ | (apply Ops_q; (case hon => exact Va); (case hd => rfl); (case hq => exact YlA)) | refine Vr ?_ | refine Vt ?_ | refine Vf ?_ | refine Vm ?_ | refine Ve ?_ | refine Vo ?_ | refine Vz ?_ | refine Vn ?_)
  by_cases t5 : 2000 < L.length
  · have d5 : decide ((2000 : Int) < (L.length : Int)) = true := decide_eq_true (by omega)
    refine V_yes rfl d5 ?_
    have e : chkR L = 4 := if_pos t5
    repeat (first | refine Vx ?_ | (apply Ops_q; (case hon => exact Va); (case hd => rfl); (case hq => exact YlA)) | refine Vr ?_ | refine Vt ?_ | refine Vf ?_ | refine Vm ?_ | refine Ve ?_ | refine Vo ?_ | refine Vz ?_ | refine Vn ?_)
    refine ret1 (by first | exact .inl rfl | exact .inr rfl) rfl rfl ?_
    exact Ret_mk (by rw [e]) (Ext.refl _)
  have d5 : decide ((2000 : Int) < (L.length : Int)) = false := decide_eq_false (by omega)
  refine V_no rfl d5 ?_
  rw [show chkR L = firstE (errC L) L.length from if_neg t5]
  clear d5
  repeat (first | refine Vx ?_ | (apply Ops_q; (case hon => exact Va); (case hd => rfl); (case hq => exact YlA)) | refine Vr ?_ | refine Vt ?_ | refine Vf ?_ | refine Vm ?_ | refine Ve ?_ | refine Vo ?_ | refine Vz ?_ | refine Vn ?_)
  refine V_loop (fun k : Nat => [(11, .int .i64 k), (10, .int .i64 L.length), (9, .slice ao L.length c), (0, .slice ao L.length c)])
    (fun k w' => k ≤ L.length ∧ Ext w w' ∧ firstE (errC L) k = 0) (fun k => L.length - k) 0 (by repeat (first | exact trivial | refine ⟨rfl, ?_⟩)) ⟨Nat.zero_le _, Ext.refl _, rfl⟩ ?_
  rintro k w2 ⟨hk, x2, hs⟩
  repeat (first | refine Vx ?_ | (apply Ops_q; (case hon => exact Va); (case hd => rfl); (case hq => exact YlA)) | refine Vr ?_ | refine Vt ?_ | refine Vf ?_ | refine Vm ?_ | refine Ve ?_ | refine Vo ?_ | refine Vz ?_ | refine Vn ?_)
  refine V_cond rfl (fun hg => ?_) (fun hg => ?_)
  · have hkl : k < L.length := by have := of_decide_eq_true hg; omega
    clear hg
    obtain ⟨r, hr⟩ : ∃ h, L[k]? = some h := ⟨_, List.getElem?_eq_getElem hkl⟩
    obtain ⟨ad, rfl, hc⟩ := hL.at hr
    have hc2 := hc.ext x2
    have hmem := List.mem_of_getElem? hr
    have hrm := hL.mem r hmem
    have hrn := hnh r hmem
    have hLk : ∀ w_, Ext w w_ → Rts w_ (some ad) (L.take k) := fun w_ e_ => ⟨by rw [List.map_take]; exact (hL.arr.ext e_).take k, fun r hr => (hL.mem r (List.mem_of_mem_take hr)).ext e_⟩
    have hlk : k = (L.take k).length := by rw [List.length_take]; omega
    have hlk2 : (L.take k).length ≤ 4611686018427387904 := by rw [← hlk]; omega
    repeat (first | refine Vx ?_ | (apply Ops_q; (case hon => exact Va); (case hd => rfl); (case hq => exact YlA)) | refine Vr ?_ | refine Vt ?_ | refine Vf ?_ | refine Vm ?_ | refine Ve ?_ | refine Vo ?_ | refine Vz ?_ | refine Vn ?_)
    (apply Ops_q; (case hon => (exact Va)); (case hd => rfl); (case hq => exact Yl_indexS (j := k) rfl rfl (by omega)))
    repeat (first | refine Vx ?_ | (apply Ops_q; (case hon => exact Va); (case hd => rfl); (case hq => exact YlA)) | refine Vr ?_ | refine Vt ?_ | refine Vf ?_ | refine Vm ?_ | refine Ve ?_ | refine Vo ?_ | refine Vz ?_ | refine Vn ?_)
    (refine Ops_alloc (by exact Va) rfl ?_; intro w3 b4 n_b4; have k_b4 := n_b4.blk)
    repeat (first | refine Vx ?_ | (apply Ops_q; (case hon => exact Va); (case hd => rfl); (case hq => exact YlA)) | refine Vr ?_ | refine Vt ?_ | refine Vf ?_ | refine Vm ?_ | refine Ve ?_ | refine Vo ?_ | refine Vz ?_ | refine Vn ?_)
    (refine Ops_store (by exact Va) rfl rfl (by assumption) (by first | rfl | exact OneAll.h) ?_; intro w4 u_w4; have k_b4 := u_w4.blk)
    have x4 := u_w4.below (x2.trans n_b4.ext) (Nat.le_trans x2.size n_b4.ge)
    clear u_w4 n_b4 hc hc2 hmem
    have hbad : ∀ c : Int, errC L k = c → c ≠ 0 → firstE (errC L) L.length = c := fun c h1 h2 => by rw [firstE_stop hs (by rw [h1]; exact h2) hkl, h1]
    repeat (first | refine Vx ?_ | (apply Ops_q; (case hon => exact Va); (case hd => rfl); (case hq => exact YlA)) | refine Vr ?_ | refine Vt ?_ | refine Vf ?_ | refine Vm ?_ | refine Ve ?_ | refine Vo ?_ | refine Vz ?_ | refine Vn ?_)
    (apply Ops_q; (case hon => (exact Va)); (case hd => rfl); (case hq => exact Yl_call rfl (fun w_ e_ => validR_v r w_ (hrm.ext (x4.trans e_)) hrn)))
    repeat (first | refine Vx ?_ | (apply Ops_q; (case hon => exact Va); (case hd => rfl); (case hq => exact YlA)) | refine Vr ?_ | refine Vt ?_ | refine Vf ?_ | refine Vm ?_ | refine Ve ?_ | refine Vo ?_ | refine Vz ?_ | refine Vn ?_)
    by_cases t1 : errT r = 0
    · have d1 : (!decide (errT r = 0)) = false := by rw [decide_eq_true t1]; rfl
      refine V_no rfl d1 ?_
      clear d1
      have hpr : Cells w4 ⟨b4, 0, none⟩ [.int .u32 r.p.a, .int .i64 r.p.n] := k_b4.part 0 2
      repeat (first | refine Vx ?_ | (apply Ops_q; (case hon => exact Va); (case hd => rfl); (case hq => exact YlA)) | refine Vr ?_ | refine Vt ?_ | refine Vf ?_ | refine Vm ?_ | refine Ve ?_ | refine Vo ?_ | refine Vz ?_ | refine Vn ?_)
      (apply Ops_q; (case hon => (exact Va)); (case hd => rfl); (case hq => exact Yl_sliceHr (i := k) rfl rfl (by omega) hcap))
      repeat (first | refine Vx ?_ | (apply Ops_q; (case hon => exact Va); (case hd => rfl); (case hq => exact YlA)) | refine Vr ?_ | refine Vt ?_ | refine Vf ?_ | refine Vm ?_ | refine Ve ?_ | refine Vo ?_ | refine Vz ?_ | refine Vn ?_)
      (apply Ops_q; (case hon => (exact Va)); (case hd => rfl); (case hq => exact Yl_call rfl (fun w_ e_ => hasR_v (some ad) (L.take k) k c r.p r.proto w_ hlk (hLk w_ (x4.trans e_)) hlk2)))
      repeat (first | refine Vx ?_ | (apply Ops_q; (case hon => exact Va); (case hd => rfl); (case hq => exact YlA)) | refine Vr ?_ | refine Vt ?_ | refine Vf ?_ | refine Vm ?_ | refine Ve ?_ | refine Vo ?_ | refine Vz ?_ | refine Vn ?_)
      cases hh : hasK (L.take k) r.p r.proto with
      | true =>
        repeat (first | refine Vx ?_ | (apply Ops_q; (case hon => exact Va); (case hd => rfl); (case hq => exact YlA)) | refine Vr ?_ | refine Vt ?_ | refine Vf ?_ | refine Vm ?_ | refine Ve ?_ | refine Vo ?_ | refine Vz ?_ | refine Vn ?_)
        refine ret1 (by first | exact .inl rfl | exact .inr rfl) rfl rfl ?_
        exact Ret_mk (by rw [hbad 7 (errC_h hr t1 hh) (by decide)]) x4
      | false =>
      clear hpr
      repeat (first | refine Vx ?_ | (apply Ops_q; (case hon => exact Va); (case hd => rfl); (case hq => exact YlA)) | refine Vr ?_ | refine Vt ?_ | refine Vf ?_ | refine Vm ?_ | refine Ve ?_ | refine Vo ?_ | refine Vz ?_ | refine Vn ?_)
      rcases Nat.eq_zero_or_pos k with rfl | hkp
      · have d3 : decide ((0 : Int) < ((0 : Nat) : Int)) = false := rfl
        repeat (first | refine Vx ?_ | (apply Ops_q; (case hon => exact Va); (case hd => rfl); (case hq => exact YlA)) | refine Vr ?_ | refine Vt ?_ | refine Vf ?_ | refine Vm ?_ | refine Ve ?_ | refine Vo ?_ | refine Vz ?_ | refine Vn ?_)
        exact ⟨0 + 1, (by repeat (first | exact trivial | refine ⟨rfl, ?_⟩)), ⟨hkl, x4, firstE_go hs (errC_zero hr t1 hh rfl)⟩, by omega⟩
      · have d3 : decide ((0 : Int) < (k : Int)) = true := decide_eq_true (by omega)
        obtain ⟨g, hg⟩ : ∃ g, L[k - 1]? = some g := ⟨_, List.getElem?_eq_getElem (by omega)⟩
        obtain ⟨ad', eA, hcg⟩ := hL.at hg
        cases eA
        have hcg4 := hcg.ext x4
        have ek : (k : Int) - 1 = ((k - 1 : Nat) : Int) := by omega
        refine Ops_know rfl rfl d3 ?_
        repeat (first | refine Vx ?_ | (apply Ops_q; (case hon => exact Va); (case hd => rfl); (case hq => exact YlA)) | refine Vr ?_ | refine Vt ?_ | refine Vf ?_ | refine Vm ?_ | refine Ve ?_ | refine Vo ?_ | refine Vz ?_ | refine Vn ?_)
        rw [ek]
        (apply Ops_q; (case hon => (exact Va)); (case hd => rfl); (case hq => exact Yl_indexS (j := k - 1) rfl rfl (by omega)))
        repeat (first | refine Vx ?_ | (apply Ops_q; (case hon => exact Va); (case hd => rfl); (case hq => exact YlA)) | refine Vr ?_ | refine Vt ?_ | refine Vf ?_ | refine Vm ?_ | refine Ve ?_ | refine Vo ?_ | refine Vz ?_ | refine Vn ?_)
        (apply Ops_q; (case hon => (exact Va)); (case hd => rfl); (case hq => exact Yl_call rfl (fun w_ e_ => before_v g r w_)))
        repeat (first | refine Vx ?_ | (apply Ops_q; (case hon => exact Va); (case hd => rfl); (case hq => exact YlA)) | refine Vr ?_ | refine Vt ?_ | refine Vf ?_ | refine Vm ?_ | refine Ve ?_ | refine Vo ?_ | refine Vz ?_ | refine Vn ?_)
        by_cases t4 : 0 ≤ cmpR g r
        · have d4 : (!decide (cmpR g r < 0)) = true := by rw [decide_eq_false (by omega)]; rfl
          refine V_yes rfl d4 ?_
          repeat (first | refine Vx ?_ | (apply Ops_q; (case hon => exact Va); (case hd => rfl); (case hq => exact YlA)) | refine Vr ?_ | refine Vt ?_ | refine Vf ?_ | refine Vm ?_ | refine Ve ?_ | refine Vo ?_ | refine Vz ?_ | refine Vn ?_)
          refine ret1 (by first | exact .inl rfl | exact .inr rfl) rfl rfl ?_
          exact Ret_mk (by rw [hbad 16 (errC_o hr hg t1 hh hkp t4) (by decide)]) x4
        · have d4 : (!decide (cmpR g r < 0)) = false := by rw [decide_eq_true (by omega)]; rfl
          refine V_no rfl d4 ?_
          repeat (first | refine Vx ?_ | (apply Ops_q; (case hon => exact Va); (case hd => rfl); (case hq => exact YlA)) | refine Vr ?_ | refine Vt ?_ | refine Vf ?_ | refine Vm ?_ | refine Ve ?_ | refine Vo ?_ | refine Vz ?_ | refine Vn ?_)
          exact ⟨k + 1, (by repeat (first | exact trivial | refine ⟨rfl, ?_⟩)), ⟨hkl, x4, firstE_go hs (errC_ok hr hg t1 hh t4)⟩, by omega⟩
    · have d1 : (!decide (errT r = 0)) = true := by rw [decide_eq_false t1]; rfl
      refine V_yes rfl d1 ?_
      repeat (first | refine Vx ?_ | (apply Ops_q; (case hon => exact Va); (case hd => rfl); (case hq => exact YlA)) | refine Vr ?_ | refine Vt ?_ | refine Vf ?_ | refine Vm ?_ | refine Ve ?_ | refine Vo ?_ | refine Vz ?_ | refine Vn ?_)
      refine ret1 (by first | exact .inl rfl | exact .inr rfl) rfl rfl ?_
      exact Ret_mk (by rw [hbad (errT r) (errC_t hr t1) t1]) x4
  · obtain rfl : k = L.length := by have := of_decide_eq_false hg; omega
    repeat (first | refine Vx ?_ | (apply Ops_q; (case hon => exact Va); (case hd => rfl); (case hq => exact YlA)) | refine Vr ?_ | refine Vt ?_ | refine Vf ?_ | refine Vm ?_ | refine Ve ?_ | refine Vo ?_ | refine Vz ?_ | refine Vn ?_)
    refine ret1 (by first | exact .inl rfl | exact .inr rfl) rfl rfl ?_
    exact Ret_mk (by rw [hs]) x2
/-! ### Active lists -/
/-- Route k has the prefix of the one before it. -/
def dupB (L : List Rt) (k : Nat) : Bool := match L[k - 1]?, L[k]? with
  | some a, some b => decide (0 < k ∧ a.p = b.p)
  | _, _ => false
def Actv (L : List Rt) : Prop := chkR L = 0 ∧ ∀ k, k < L.length → dupB L k = false
theorem dupB_at {L : List Rt} {k : Nat} {a b : Rt} (ha : L[k - 1]? = some a) (hb : L[k]? = some b) : dupB L k = decide (0 < k ∧ a.p = b.p) := by rw [dupB, ha, hb]
theorem dupB_zero (L : List Rt) : dupB L 0 = false := by
  unfold dupB
  split
  · simp
  · rfl
def actB (L : List Rt) : Bool := decide (chkR L = 0) && (List.range L.length).all fun k => !dupB L k
theorem actB_iff {L : List Rt} : actB L = true ↔ Actv L := by
  unfold actB Actv
  rw [Bool.and_eq_true, decide_eq_true_eq, List.all_eq_true]
  refine and_congr_right fun _ => ⟨fun h k hk => ?_, fun h k hk => ?_⟩
  · have := h k (List.mem_range.2 hk)
    simpa using this
  · have := h k (List.mem_range.1 hk)
    simpa using this
/-- The active list, or nothing. -/
def actL (L : List Rt) : List Rt := if actB L then L else []
theorem actL_yes {L : List Rt} (h : Actv L) : actL L = L := if_pos (actB_iff.2 h)
theorem actL_no {L : List Rt} (h : ¬Actv L) : actL L = [] := if_neg (fun h2 => h (actB_iff.1 h2))
/-- What list and List return: the list itself, or nil. -/
def ActR (ao : Option Addr) (L : List Rt) (c : Nat) (v : Value) : Prop := (Actv L → v = .slice ao L.length c) ∧ (¬Actv L → v = .slice none 0 0)
theorem actR_ex (ao : Option Addr) (L : List Rt) (c : Nat) : ∃ v, ActR ao L c v := by
  by_cases h : Actv L
  · exact ⟨_, fun _ => rfl, fun h2 => absurd h h2⟩
  · exact ⟨_, fun h2 => absurd h2 h, fun _ => rfl⟩
set_option maxHeartbeats 1000000 in
theorem list_v (ao : Option Addr) (L : List Rt) (c : Nat) (v : Value) (w : World) (hL : Rts w ao L) (hnl : L.length ≤ 1000000000) (hv : ActR ao L c v) : Calls Try.prog 28 #[.slice ao L.length c] w (Ret v w) := by
  refine V_enter (vs := [_]) Try.func28 rfl Try.ntmps28 (Nat.le_of_ble_eq_true rfl) ?_
  repeat (first | refine Vx ?_ | (apply Ops_q; (case hon => exact Va); (case hd => rfl); (case hq => exact YlA)) | refine Vr ?_ | refine Vt ?_ | refine Vf ?_ | refine Vm ?_ | refine Ve ?_ | refine Vo ?_ | refine Vz ?_ | refine Vn ?_)
  (apply Ops_q; (case hon => (exact Va)); (case hd => rfl); (case hq => exact Yl_call rfl (fun w_ e_ => checkRib_v ao L c w_ (hL.ext e_) hnl)))
  repeat (first | refine Vx ?_ | (apply Ops_q; (case hon => exact Va); (case hd => rfl); (case hq => exact YlA)) | refine Vr ?_ | refine Vt ?_ | refine Vf ?_ | refine Vm ?_ | refine Ve ?_ | refine Vo ?_ | refine Vz ?_ | refine Vn ?_)
  by_cases t1 : chkR L = 0
  · have d1 : (!decide (chkR L = 0)) = false := by rw [decide_eq_true t1]; rfl
    refine V_no rfl d1 ?_
    repeat (first | refine Vx ?_ | (apply Ops_q; (case hon => exact Va); (case hd => rfl); (case hq => exact YlA)) | refine Vr ?_ | refine Vt ?_ | refine Vf ?_ | refine Vm ?_ | refine Ve ?_ | refine Vo ?_ | refine Vz ?_ | refine Vn ?_)
    refine V_loop (fun k : Nat => [(3, .int .i64 k), (0, .slice ao L.length c)]) (fun k w' => w' = w ∧ 1 ≤ k ∧ ∀ j, j < k → j < L.length → dupB L j = false) (fun k => L.length - k) 1 (by repeat (first | exact trivial | refine ⟨rfl, ?_⟩)) ⟨rfl, Nat.le_refl _, fun j h _ => by rw [show j = 0 by omega]; exact dupB_zero L⟩ ?_
    rintro k w1 ⟨rfl, hk, hs⟩
    repeat (first | refine Vx ?_ | (apply Ops_q; (case hon => exact Va); (case hd => rfl); (case hq => exact YlA)) | refine Vr ?_ | refine Vt ?_ | refine Vf ?_ | refine Vm ?_ | refine Ve ?_ | refine Vo ?_ | refine Vz ?_ | refine Vn ?_)
    refine V_cond rfl (fun hg => ?_) (fun hg => ?_)
    · have hkl : k < L.length := by have := of_decide_eq_true hg; omega
      clear hg
      obtain ⟨b, hb⟩ : ∃ h, L[k]? = some h := ⟨_, List.getElem?_eq_getElem hkl⟩
      obtain ⟨a, ha⟩ : ∃ h, L[k - 1]? = some h := ⟨_, List.getElem?_eq_getElem (by omega)⟩
      obtain ⟨ad, rfl, hcb⟩ := hL.at hb
      obtain ⟨ad', eA, hca⟩ := hL.at ha
      cases eA
      have qa : Cells w1 ((ad.add ((k - 1) * 7)).add 0) [.int .u32 a.p.a, .int .i64 a.p.n] := hca.sub 0 2
      have qb : Cells w1 ((ad.add (k * 7)).add 0) [.int .u32 b.p.a, .int .i64 b.p.n] := hcb.sub 0 2
      have ek : (k : Int) - 1 = ((k - 1 : Nat) : Int) := by omega
      clear hca hcb
      repeat (first | refine Vx ?_ | (apply Ops_q; (case hon => exact Va); (case hd => rfl); (case hq => exact YlA)) | refine Vr ?_ | refine Vt ?_ | refine Vf ?_ | refine Vm ?_ | refine Ve ?_ | refine Vo ?_ | refine Vz ?_ | refine Vn ?_)
      rw [ek]
      (apply Ops_q; (case hon => (exact Va)); (case hd => rfl); (case hq => exact Yl_indexS (j := k - 1) rfl rfl (by omega)))
      repeat (first | refine Vx ?_ | (apply Ops_q; (case hon => exact Va); (case hd => rfl); (case hq => exact YlA)) | refine Vr ?_ | refine Vt ?_ | refine Vf ?_ | refine Vm ?_ | refine Ve ?_ | refine Vo ?_ | refine Vz ?_ | refine Vn ?_)
      (apply Ops_q; (case hon => (exact Va)); (case hd => rfl); (case hq => exact Yl_indexS (j := k) rfl rfl (by omega)))
      repeat (first | refine Vx ?_ | (apply Ops_q; (case hon => exact Va); (case hd => rfl); (case hq => exact YlA)) | refine Vr ?_ | refine Vt ?_ | refine Vf ?_ | refine Vm ?_ | refine Ve ?_ | refine Vo ?_ | refine Vz ?_ | refine Vn ?_)
      rw [eqPf_d]
      by_cases t2 : a.p = b.p
      · have d2 : decide (a.p = b.p) = true := decide_eq_true t2
        have hd : dupB L k = true := by rw [dupB_at ha hb]; exact decide_eq_true ⟨hk, t2⟩
        refine V_yes rfl d2 ?_
        repeat (first | refine Vx ?_ | (apply Ops_q; (case hon => exact Va); (case hd => rfl); (case hq => exact YlA)) | refine Vr ?_ | refine Vt ?_ | refine Vf ?_ | refine Vm ?_ | refine Ve ?_ | refine Vo ?_ | refine Vz ?_ | refine Vn ?_)
        refine ret1 (by first | exact .inl rfl | exact .inr rfl) rfl rfl ?_
        exact Ret_mk (hv.2 (fun h => by have := h.2 k hkl; rw [hd] at this; cases this)).symm (Ext.refl _)
      · have d2 : decide (a.p = b.p) = false := decide_eq_false t2
        refine V_no rfl d2 ?_
        repeat (first | refine Vx ?_ | (apply Ops_q; (case hon => exact Va); (case hd => rfl); (case hq => exact YlA)) | refine Vr ?_ | refine Vt ?_ | refine Vf ?_ | refine Vm ?_ | refine Ve ?_ | refine Vo ?_ | refine Vz ?_ | refine Vn ?_)
        refine ⟨k + 1, (by repeat (first | exact trivial | refine ⟨rfl, ?_⟩)), ⟨rfl, by omega, fun j hj hjl => ?_⟩, by omega⟩
        rcases Nat.lt_or_ge j k with h3 | h3
        · exact hs j h3 hjl
        · obtain rfl : j = k := by omega
          rw [dupB_at ha hb]; exact decide_eq_false (fun h => t2 h.2)
    · have hkl : L.length ≤ k := by have := of_decide_eq_false hg; omega
      repeat (first | refine Vx ?_ | (apply Ops_q; (case hon => exact Va); (case hd => rfl); (case hq => exact YlA)) | refine Vr ?_ | refine Vt ?_ | refine Vf ?_ | refine Vm ?_ | refine Ve ?_ | refine Vo ?_ | refine Vz ?_ | refine Vn ?_)
      refine ret1 (by first | exact .inl rfl | exact .inr rfl) rfl rfl ?_
      exact Ret_mk (hv.1 ⟨t1, fun j hj => hs j (by omega) hj⟩).symm (Ext.refl _)
  · have d1 : (!decide (chkR L = 0)) = true := by rw [decide_eq_false t1]; rfl
    refine V_yes rfl d1 ?_
    repeat (first | refine Vx ?_ | (apply Ops_q; (case hon => exact Va); (case hd => rfl); (case hq => exact YlA)) | refine Vr ?_ | refine Vt ?_ | refine Vf ?_ | refine Vm ?_ | refine Ve ?_ | refine Vo ?_ | refine Vz ?_ | refine Vn ?_)
    refine ret1 (by first | exact .inl rfl | exact .inr rfl) rfl rfl ?_
    exact Ret_mk (hv.2 (fun h => t1 h.1)).symm (Ext.refl _)
/-- The number of routes that Active keeps of the first k. -/
def actN (L : List Rt) : Nat → Nat
  | 0 => 0
  | k + 1 => if dupB L k then actN L k else actN L k + 1
theorem actN_le (L : List Rt) : ∀ k, actN L k ≤ k
  | 0 => Nat.le_refl _
  | k + 1 => by have := actN_le L k; rw [actN]; split <;> omega
theorem actN_eq {L : List Rt} : ∀ {k}, actN L k = k ↔ ∀ j, j < k → dupB L j = false
  | 0 => ⟨fun _ j h => absurd h (Nat.not_lt_zero j), fun _ => rfl⟩
  | k + 1 => by
    have h1 := actN_le L k
    have ih := actN_eq (L := L) (k := k)
    rw [actN]
    cases hd : dupB L k with
    | true =>
      rw [if_pos rfl]
      exact ⟨fun h => by omega, fun h => by have := h k (Nat.lt_succ_self k); rw [hd] at this; cases this⟩
    | false =>
      rw [if_neg (by decide)]
      constructor
      · intro h j hj
        rcases Nat.lt_or_ge j k with h3 | h3
        · exact ih.1 (by omega) j h3
        · rw [show j = k by omega]; exact hd
      · intro h
        have := ih.2 (fun j hj => h j (Nat.lt_succ_of_lt hj))
        omega
def ActvR (L : List Rt) (r : Value) (_w' : World) : Prop := ∃ ao n c, r = .slice ao n c ∧ (n < L.length ↔ ¬Actv L)
set_option maxHeartbeats 1000000 in
theorem active_v (ao : Option Addr) (L : List Rt) (c : Nat) (w : World) (hL : Rts w ao L) (hnl : L.length ≤ 1000000000) (hcap : L.length ≤ c) (hnh : ∀ r ∈ L, r.hops.length ≤ 1000000000) : Calls Try.prog 48 #[.slice ao L.length c] w (Gives (ActvR L) w) := by
  refine V_enter (vs := [_]) Try.func48 rfl Try.ntmps48 (Nat.le_of_ble_eq_true rfl) ?_
  repeat (first | refine Vx ?_ | (apply Ops_q; (case hon => exact Va); (case hd => rfl); (case hq => exact YlA)) | refine Vr ?_ | refine Vt ?_ | refine Vf ?_ | refine Vm ?_ | refine Ve ?_ | refine Vo ?_ | refine Vz ?_ | refine Vn ?_)
  (apply Ops_q; (case hon => (exact Va)); (case hd => rfl); (case hq => exact Yl_call rfl (fun w_ e_ => checkR48_v ao L c w_ (hL.ext e_) hnl hcap hnh)))
  repeat (first | refine Vx ?_ | (apply Ops_q; (case hon => exact Va); (case hd => rfl); (case hq => exact YlA)) | refine Vr ?_ | refine Vt ?_ | refine Vf ?_ | refine Vm ?_ | refine Ve ?_ | refine Vo ?_ | refine Vz ?_ | refine Vn ?_)
  by_cases t1 : chkR L = 0
  · have d1 : (!decide (chkR L = 0)) = false := by rw [decide_eq_true t1]; rfl
    refine V_no rfl d1 ?_
    repeat (first | refine Vx ?_ | (apply Ops_q; (case hon => exact Va); (case hd => rfl); (case hq => exact YlA)) | refine Vr ?_ | refine Vt ?_ | refine Vf ?_ | refine Vm ?_ | refine Ve ?_ | refine Vo ?_ | refine Vz ?_ | refine Vn ?_)
    refine V_loop (fun s : Nat × Value × List Rt => [(11, .int .i64 s.1), (10, .int .i64 L.length), (9, .slice ao L.length c), (0, .slice ao L.length c), (3, s.2.1)])
      (fun s w' => s.1 ≤ L.length ∧ Ext w w' ∧ Own w' w.heap.size 31 7 s.2.1 (s.2.2.map Rt.cells) ∧ s.2.2.length = actN L s.1) (fun s => L.length - s.1) (0, .slice none 0 0, []) (by repeat (first | exact trivial | refine ⟨rfl, ?_⟩)) ⟨Nat.zero_le _, Ext.refl _, Own.nil, rfl⟩ ?_
    rintro ⟨k, v, M⟩ w2 ⟨hk, x2, o2, hM⟩
    dsimp only at hk o2 hM ⊢
    repeat (first | refine Vx ?_ | (apply Ops_q; (case hon => exact Va); (case hd => rfl); (case hq => exact YlA)) | refine Vr ?_ | refine Vt ?_ | refine Vf ?_ | refine Vm ?_ | refine Ve ?_ | refine Vo ?_ | refine Vz ?_ | refine Vn ?_)
    refine V_cond rfl (fun hg => ?_) (fun hg => ?_)
    · have hkl : k < L.length := by have := of_decide_eq_true hg; omega
      clear hg
      obtain ⟨b, hb⟩ : ∃ h, L[k]? = some h := ⟨_, List.getElem?_eq_getElem hkl⟩
      obtain ⟨ad, rfl, hcb⟩ := hL.at hb
      have hcb2 := hcb.ext x2
      have hMk := actN_le L k
      have hlen : (M.map Rt.cells).length ≤ 1000000000 := by rw [List.length_map]; omega
      repeat (first | refine Vx ?_ | (apply Ops_q; (case hon => exact Va); (case hd => rfl); (case hq => exact YlA)) | refine Vr ?_ | refine Vt ?_ | refine Vf ?_ | refine Vm ?_ | refine Ve ?_ | refine Vo ?_ | refine Vz ?_ | refine Vn ?_)
      (apply Ops_q; (case hon => (exact Va)); (case hd => rfl); (case hq => exact Yl_indexS (j := k) rfl rfl (by omega)))
      repeat (first | refine Vx ?_ | (apply Ops_q; (case hon => exact Va); (case hd => rfl); (case hq => exact YlA)) | refine Vr ?_ | refine Vt ?_ | refine Vf ?_ | refine Vm ?_ | refine Ve ?_ | refine Vo ?_ | refine Vz ?_ | refine Vn ?_)
      (refine Ops_alloc (by exact Va) rfl ?_; intro w3 b5 n_b5; have k_b5 := n_b5.blk)
      repeat (first | refine Vx ?_ | (apply Ops_q; (case hon => exact Va); (case hd => rfl); (case hq => exact YlA)) | refine Vr ?_ | refine Vt ?_ | refine Vf ?_ | refine Vm ?_ | refine Ve ?_ | refine Vo ?_ | refine Vz ?_ | refine Vn ?_)
      (refine Ops_store (by exact Va) rfl rfl (by assumption) (by first | rfl | exact OneAll.h) ?_; intro w4 u_w4; have k_b5 := u_w4.blk)
      have y4 := u_w4.below n_b5.ext n_b5.ge
      have x4 := x2.trans y4
      have o4 := o2.ext y4
      clear u_w4 n_b5 hcb hcb2
      have happ : dupB L k = false → (M ++ [b]).length = actN L (k + 1) := fun h => by rw [actN, h, if_neg (by decide), List.length_append, hM]; rfl
      repeat (first | refine Vx ?_ | (apply Ops_q; (case hon => exact Va); (case hd => rfl); (case hq => exact YlA)) | refine Vr ?_ | refine Vt ?_ | refine Vf ?_ | refine Vm ?_ | refine Ve ?_ | refine Vo ?_ | refine Vz ?_ | refine Vn ?_)
      rcases Nat.eq_zero_or_pos k with hk0 | hkp
      · have d3 : decide ((k : Int) = 0) = true := decide_eq_true (by omega)
        have hd0 : dupB L k = false := by rw [hk0]; exact dupB_zero L
        refine Ops_know rfl rfl d3 ?_
        repeat (first | refine Vx ?_ | (apply Ops_q; (case hon => exact Va); (case hd => rfl); (case hq => exact YlA)) | refine Vr ?_ | refine Vt ?_ | refine Vf ?_ | refine Vm ?_ | refine Ve ?_ | refine Vo ?_ | refine Vz ?_ | refine Vn ?_)
        (refine Ops_lit (by exact Va) rfl rfl rfl ?_; intro w5 bl n_bl; have k_bl := n_bl.blk)
        have o5 := o4.ext n_bl.ext
        have x5 := x4.trans n_bl.ext
        repeat (first | refine Vx ?_ | (apply Ops_q; (case hon => exact Va); (case hd => rfl); (case hq => exact YlA)) | refine Vr ?_ | refine Vt ?_ | refine Vf ?_ | refine Vm ?_ | refine Ve ?_ | refine Vo ?_ | refine Vz ?_ | refine Vn ?_)
        (refine Ops_append1 (by exact Va) rfl rfl rfl rfl o5 k_bl.cells inferInstance inferInstance (by first | omega | (rw [List.length_map]; omega)) rfl x5.size ?_; intro v6 w6 o_v6 g_w6 d_v6)
        have x6 := grow_below x5 g_w6 (fun c hc => o5.ge hc)
        repeat (first | refine Vx ?_ | (apply Ops_q; (case hon => exact Va); (case hd => rfl); (case hq => exact YlA)) | refine Vr ?_ | refine Vt ?_ | refine Vf ?_ | refine Vm ?_ | refine Ve ?_ | refine Vo ?_ | refine Vz ?_ | refine Vn ?_)
        refine ⟨(k + 1, v6, M ++ [b]), (by repeat (first | exact trivial | refine ⟨rfl, ?_⟩)), ⟨hkl, x6, ?_, happ hd0⟩, by simp only; omega⟩
        dsimp only
        rw [List.map_append]; exact o_v6
      · have d3 : decide ((k : Int) = 0) = false := decide_eq_false (by omega)
        obtain ⟨a, ha⟩ : ∃ h, L[k - 1]? = some h := ⟨_, List.getElem?_eq_getElem (by omega)⟩
        obtain ⟨ad', eA, hca⟩ := hL.at ha
        cases eA
        have qa : Cells w4 ((ad.add ((k - 1) * 7)).add 0) [.int .u32 a.p.a, .int .i64 a.p.n] := (hca.ext x4).sub 0 2
        have qb : Cells w4 ⟨b5, 0, none⟩ [.int .u32 b.p.a, .int .i64 b.p.n] := k_b5.part 0 2
        have ek : (k : Int) - 1 = ((k - 1 : Nat) : Int) := by omega
        clear hca
        refine Ops_know rfl rfl d3 ?_
        repeat (first | refine Vx ?_ | (apply Ops_q; (case hon => exact Va); (case hd => rfl); (case hq => exact YlA)) | refine Vr ?_ | refine Vt ?_ | refine Vf ?_ | refine Vm ?_ | refine Ve ?_ | refine Vo ?_ | refine Vz ?_ | refine Vn ?_)
        rw [ek]
        (apply Ops_q; (case hon => (exact Va)); (case hd => rfl); (case hq => exact Yl_indexS (j := k - 1) rfl rfl (by omega)))
        repeat (first | refine Vx ?_ | (apply Ops_q; (case hon => exact Va); (case hd => rfl); (case hq => exact YlA)) | refine Vr ?_ | refine Vt ?_ | refine Vf ?_ | refine Vm ?_ | refine Ve ?_ | refine Vo ?_ | refine Vz ?_ | refine Vn ?_)
        rw [eqPf_d]
        clear qa qb
        by_cases t2 : a.p = b.p
        · have d2 : (!decide (a.p = b.p)) = false := by rw [decide_eq_true t2]; rfl
          have hd : dupB L k = true := by rw [dupB_at ha hb]; exact decide_eq_true ⟨hkp, t2⟩
          refine V_no rfl d2 ?_
          repeat (first | refine Vx ?_ | (apply Ops_q; (case hon => exact Va); (case hd => rfl); (case hq => exact YlA)) | refine Vr ?_ | refine Vt ?_ | refine Vf ?_ | refine Vm ?_ | refine Ve ?_ | refine Vo ?_ | refine Vz ?_ | refine Vn ?_)
          exact ⟨(k + 1, v, M), (by repeat (first | exact trivial | refine ⟨rfl, ?_⟩)), ⟨hkl, x4, o4, by dsimp only; rw [actN, hd, if_pos rfl]; exact hM⟩, by simp only; omega⟩
        · have d2 : (!decide (a.p = b.p)) = true := by rw [decide_eq_false t2]; rfl
          have hd : dupB L k = false := by rw [dupB_at ha hb]; exact decide_eq_false (fun h => t2 h.2)
          refine V_yes rfl d2 ?_
          repeat (first | refine Vx ?_ | (apply Ops_q; (case hon => exact Va); (case hd => rfl); (case hq => exact YlA)) | refine Vr ?_ | refine Vt ?_ | refine Vf ?_ | refine Vm ?_ | refine Ve ?_ | refine Vo ?_ | refine Vz ?_ | refine Vn ?_)
          (refine Ops_lit (by exact Va) rfl rfl rfl ?_; intro w5 bl n_bl; have k_bl := n_bl.blk)
          have o5 := o4.ext n_bl.ext
          have x5 := x4.trans n_bl.ext
          repeat (first | refine Vx ?_ | (apply Ops_q; (case hon => exact Va); (case hd => rfl); (case hq => exact YlA)) | refine Vr ?_ | refine Vt ?_ | refine Vf ?_ | refine Vm ?_ | refine Ve ?_ | refine Vo ?_ | refine Vz ?_ | refine Vn ?_)
          (refine Ops_append1 (by exact Va) rfl rfl rfl rfl o5 k_bl.cells inferInstance inferInstance (by first | omega | (rw [List.length_map]; omega)) rfl x5.size ?_; intro v6 w6 o_v6 g_w6 d_v6)
          have x6 := grow_below x5 g_w6 (fun c hc => o5.ge hc)
          repeat (first | refine Vx ?_ | (apply Ops_q; (case hon => exact Va); (case hd => rfl); (case hq => exact YlA)) | refine Vr ?_ | refine Vt ?_ | refine Vf ?_ | refine Vm ?_ | refine Ve ?_ | refine Vo ?_ | refine Vz ?_ | refine Vn ?_)
          refine ⟨(k + 1, v6, M ++ [b]), (by repeat (first | exact trivial | refine ⟨rfl, ?_⟩)), ⟨hkl, x6, ?_, happ hd⟩, by simp only; omega⟩
          dsimp only
          rw [List.map_append]; exact o_v6
    · obtain rfl : k = L.length := by have := of_decide_eq_false hg; omega
      obtain ⟨ao', c', rfl, _⟩ := o2.slice
      repeat (first | refine Vx ?_ | (apply Ops_q; (case hon => exact Va); (case hd => rfl); (case hq => exact YlA)) | refine Vr ?_ | refine Vt ?_ | refine Vf ?_ | refine Vm ?_ | refine Ve ?_ | refine Vo ?_ | refine Vz ?_ | refine Vn ?_)
      refine ret1 (by first | exact .inl rfl | exact .inr rfl) rfl rfl ?_
      refine Gives_mk (fun w' he => ⟨_, _, _, rfl, ?_⟩) x2
      rw [List.length_map, hM]
      have h1 := actN_le L L.length
      have h2 := actN_eq (L := L) (k := L.length)
      constructor
      · intro h h3
        have := h2.2 (fun j hj => h3.2 j hj)
        omega
      · intro h
        rcases Nat.lt_or_ge (actN L L.length) L.length with h3 | h3
        · exact h3
        · exact absurd ⟨t1, fun j hj => h2.1 (by omega) j hj⟩ h
  · have d1 : (!decide (chkR L = 0)) = true := by rw [decide_eq_false t1]; rfl
    refine V_yes rfl d1 ?_
    repeat (first | refine Vx ?_ | (apply Ops_q; (case hon => exact Va); (case hd => rfl); (case hq => exact YlA)) | refine Vr ?_ | refine Vt ?_ | refine Vf ?_ | refine Vm ?_ | refine Ve ?_ | refine Vo ?_ | refine Vz ?_ | refine Vn ?_)
    refine ret1 (by first | exact .inl rfl | exact .inr rfl) rfl rfl ?_
    refine Gives_mk (fun w' he => ⟨_, _, _, rfl, ⟨fun _ h => t1 h.1, fun _ => ?_⟩⟩) (Ext.refl _)
    rcases Nat.eq_zero_or_pos L.length with h | h
    · have : L = [] := List.length_eq_zero_iff.1 h
      subst this
      exact absurd rfl t1
    · exact h
theorem listR_v (ao : Option Addr) (L : List Rt) (c : Nat) (v : Value) (w : World) (hL : Rts w ao L) (hnl : L.length ≤ 1000000000) (hcap : L.length ≤ c) (hnh : ∀ r ∈ L, r.hops.length ≤ 1000000000) (hv : ActR ao L c v) : Calls Try.prog 34 #[.slice ao L.length c] w (Ret v w) := by
  refine V_enter (vs := [_]) Try.func34 rfl Try.ntmps34 (Nat.le_of_ble_eq_true rfl) ?_
  repeat (first | refine Vx ?_ | (apply Ops_q; (case hon => exact Va); (case hd => rfl); (case hq => exact YlA)) | refine Vr ?_ | refine Vt ?_ | refine Vf ?_ | refine Vm ?_ | refine Ve ?_ | refine Vo ?_ | refine Vz ?_ | refine Vn ?_)
  (refine Ops_callR (by exact Va) rfl rfl (fun w_ e_ => active_v ao L c w_ (hL.ext e_) hnl hcap hnh) ?_; intro va w1 w0_ e0_ e1_ r_va; have e_w1 := e0_.trans e1_; have b_va := e0_.size; clear e0_ e1_)
  obtain ⟨aa, n, ca, rfl, hn⟩ := r_va
  repeat (first | refine Vx ?_ | (apply Ops_q; (case hon => exact Va); (case hd => rfl); (case hq => exact YlA)) | refine Vr ?_ | refine Vt ?_ | refine Vf ?_ | refine Vm ?_ | refine Ve ?_ | refine Vo ?_ | refine Vz ?_ | refine Vn ?_)
  by_cases t1 : n < L.length
  · have d1 : decide ((n : Int) < (L.length : Int)) = true := decide_eq_true (by omega)
    refine V_yes rfl d1 ?_
    repeat (first | refine Vx ?_ | (apply Ops_q; (case hon => exact Va); (case hd => rfl); (case hq => exact YlA)) | refine Vr ?_ | refine Vt ?_ | refine Vf ?_ | refine Vm ?_ | refine Ve ?_ | refine Vo ?_ | refine Vz ?_ | refine Vn ?_)
    refine ret1 (by first | exact .inl rfl | exact .inr rfl) rfl rfl ?_
    exact Ret_mk (hv.2 (hn.1 t1)).symm e_w1
  · have d1 : decide ((n : Int) < (L.length : Int)) = false := decide_eq_false (by omega)
    refine V_no rfl d1 ?_
    repeat (first | refine Vx ?_ | (apply Ops_q; (case hon => exact Va); (case hd => rfl); (case hq => exact YlA)) | refine Vr ?_ | refine Vt ?_ | refine Vf ?_ | refine Vm ?_ | refine Ve ?_ | refine Vo ?_ | refine Vz ?_ | refine Vn ?_)
    refine ret1 (by first | exact .inl rfl | exact .inr rfl) rfl rfl ?_
    exact Ret_mk (hv.1 (Classical.byContradiction fun h => t1 (hn.2 h))).symm e_w1
end Go.Proofs.Ytkdjbddjblahkaa

/-
  Layer 6 (trie): the chapter's example; which entry a lookup returns.
  Conditions: addresses are below 2^32.
-/
namespace Go.Proofs.Ytkdjbddjblahkaa
open Go.RowKit

def lAw : List En := [⟨⟨167772160, 8⟩, 1⟩, ⟨⟨167837696, 16⟩, 2⟩]
theorem Ens.of_blk {w : World} {b : Nat} {t : TypeId} {cs : List Value} {L : List En} (h : Blk w b t cs) (e : (L.map En.cells).flatten = cs) : Ens w (some ⟨b, 0, none⟩) L := by
  refine fun k x hk => ⟨_, rfl, cells_flat (n0 := 3) ?_ (fun x hx => ?_) k x hk⟩
  · rw [e]; exact h.cells
  · obtain ⟨y, _, rfl⟩ := List.mem_map.1 hx
    rfl
theorem lookup_at {base b0 : Nat} {N : Nat → Nat → Option Nat} {E : Nat → Nat → Option Int} {cnt : Int} (a : Nat) (o : Option En) (w : World) (h : TrieM w base b0 N E cnt) (ha : a < 4294967296) (ho : lookE E a = o) :
    Calls Try.prog 43 #[.pointer (some ⟨b0, 0, none⟩), .int .u32 a] w (Ret (.tuple #[(o.getD En.zero).val, .bool o.isSome]) w) := by
  subst ho; exact lookup_v a w h ha
end Go.Proofs.Ytkdjbddjblahkaa

/-
  Layer 6 (trie): a lookup returns the entry with the longest prefix.
  Conditions: addresses are below 2^32.
-/
namespace Go.Proofs.Ytkdjbddjblahkaa
open Go.RowKit

def lu (E : Nat → Nat → Option Int) (a : Nat) : Nat → Option En
  | 0 => none
  | m + 1 => match E (top a m) m with
    | some v => some ⟨⟨top a m, m⟩, v⟩
    | none => lu E a m
theorem pre_last (E : Nat → Nat → Option Int) (a : Nat) : ∀ m, (pre E a m).getLast? = lu E a m
  | 0 => rfl
  | m + 1 => by
    rw [pre_succ, lu]
    cases h : E (top a m) m with
    | some v => simp [adds]
    | none => simp [adds, pre_last E a m]
theorem lu_none {E : Nat → Nat → Option Int} {a : Nat} : ∀ {m : Nat}, lu E a m = none → ∀ j, j < m → E (top a j) j = none
  | 0, _, j, hj => by omega
  | m + 1, h, j, hj => by
    rw [lu] at h
    cases hE : E (top a m) m with
    | some v => rw [hE] at h; cases h
    | none =>
      rw [hE] at h
      rcases Nat.lt_or_ge j m with h1 | h1
      · exact lu_none h j h1
      · obtain rfl : j = m := by omega
        exact hE
theorem lu_some {E : Nat → Nat → Option Int} {a : Nat} {e : En} : ∀ {m : Nat}, lu E a m = some e → ∃ j, j < m ∧ e.p = ⟨top a j, j⟩ ∧ E (top a j) j = some e.v ∧ ∀ i, j < i → i < m → E (top a i) i = none
  | 0, h => by cases h
  | m + 1, h => by
    rw [lu] at h
    cases hE : E (top a m) m with
    | some v =>
      rw [hE] at h
      cases h
      exact ⟨m, by omega, rfl, hE, fun i h1 h2 => by omega⟩
    | none =>
      rw [hE] at h
      obtain ⟨j, h1, h2, h3, h4⟩ := lu_some h
      refine ⟨j, by omega, h2, h3, fun i h5 h6 => ?_⟩
      rcases Nat.lt_or_ge i m with h7 | h7
      · exact h4 i h5 h7
      · obtain rfl : i = m := by omega
        exact hE
theorem setE_ne {E : Nat → Nat → Option Int} {p : Pf} {v : Int} {x k : Nat} (h : ¬(x = p.a ∧ k = p.n.toNat)) : setE E p v x k = E x k := by rw [setE, if_neg h]
theorem lu_setA {E : Nat → Nat → Option Int} {a : Nat} {p : Pf} {v : Int} {k : Nat} (hp : p = ⟨top a k, k⟩) : ∀ {m : Nat}, k < m → (∀ j, k < j → j < m → E (top a j) j = none) → lu (setE E p v) a m = some ⟨p, v⟩
  | 0, h, _ => by omega
  | m + 1, h, hn => by
    rw [lu]
    by_cases hk : m = k
    · subst hk
      rw [setE, if_pos (by rw [hp]; simp)]
      simp [hp]
    · rw [setE_ne (by rw [hp]; simp; intro _; exact hk), hn m (by omega) (by omega)]
      exact lu_setA hp (by omega) fun j h1 h2 => hn j h1 (by omega)
theorem lu_setB {E : Nat → Nat → Option Int} {a : Nat} {p : Pf} {v : Int} {k : Nat} (hp : p = ⟨top a k, k⟩) : ∀ {m : Nat}, (m ≤ k ∨ ∃ j, k < j ∧ j < m ∧ E (top a j) j ≠ none) → lu (setE E p v) a m = lu E a m
  | 0, _ => rfl
  | m + 1, h => by
    have hk : m ≠ k := by rcases h with h | ⟨j, h1, h2, _⟩ <;> omega
    rw [lu, lu, setE_ne (by rw [hp]; simp; intro _; exact hk)]
    cases hE : E (top a m) m with
    | some u => rfl
    | none =>
      refine lu_setB hp ?_
      rcases h with h | ⟨j, h1, h2, h3⟩
      · exact .inl (by omega)
      · rcases Nat.lt_or_ge j m with h7 | h7
        · exact .inr ⟨j, h1, h7, h3⟩
        · obtain rfl : j = m := by omega
          exact absurd hE h3
theorem lu_congr {E E' : Nat → Nat → Option Int} {a : Nat} : ∀ {m : Nat}, (∀ j, j < m → E' (top a j) j = E (top a j) j) → lu E' a m = lu E a m
  | 0, _ => rfl
  | m + 1, h => by
    rw [lu, lu, h m (by omega), lu_congr fun j hj => h j (by omega)]
/-- One step of the search for the longest. -/
def bestB (a : Nat) (o : Option En) (x : En) : Bool := x.p.has a && (o.isNone || decide ((o.getD En.zero).p.n ≤ x.p.n))
def bestS (a : Nat) (o : Option En) (x : En) : Option En := if bestB a o x then some x else o
def bestL (a : Nat) (L : List En) : Option En := L.foldl (bestS a) none
theorem look_put {E : Nat → Nat → Option Int} {a : Nat} {x : En} (hv : x.p.valid = true) : lookE (setE E x.p x.v) a = bestS a (lookE E a) x := by
  obtain ⟨v1, v2, v3⟩ := Pf.valid_iff.1 hv
  rw [lookE, lookE, pre_last, pre_last, bestS, bestB, Pf.has, hv, Bool.true_and]
  by_cases hh : top a x.p.n.toNat = x.p.a
  · rw [decide_eq_true hh, Bool.true_and]
    have hp : x.p = ⟨top a x.p.n.toNat, (x.p.n.toNat : Nat)⟩ := pf_eq hh.symm (show x.p.n = ((x.p.n.toNat : Nat) : Int) by omega)
    cases hl : lu E a 33 with
    | none =>
      rw [lu_setA hp (by omega) fun j h1 h2 => lu_none hl j h2]
      rfl
    | some e =>
      obtain ⟨j, h1, h2, h3, h4⟩ := lu_some hl
      have hn : e.p.n = j := by rw [h2]
      simp only [Option.isNone_some, Bool.false_or, Option.getD_some, hn]
      by_cases hjk : (j : Int) ≤ x.p.n
      · rw [decide_eq_true hjk, lu_setA hp (by omega) fun i h5 h6 => h4 i (by omega) h6]
        rfl
      · rw [decide_eq_false hjk, lu_setB hp (.inr ⟨j, by omega, h1, by rw [h3]; exact fun h => nomatch h⟩), hl]
        rfl
  · rw [decide_eq_false hh, Bool.false_and]
    refine lu_congr fun j hj => setE_ne ?_
    rintro ⟨e1, e2⟩
    subst e2
    exact hh e1
theorem look_best {a : Nat} {L : List En} (hok : allOk L = true) : lookE (ofS L).1 a = bestL a L := by
  have key : ∀ (L : List En) (s : St) (o : Option En), allOk L = true → lookE s.1 a = o → lookE (L.foldl putS s).1 a = L.foldl (bestS a) o := by
    intro L
    induction L with
    | nil => intro s o _ h; exact h
    | cons x r ih =>
      intro s o hok h
      unfold allOk at hok
      rw [List.all_cons, Bool.and_eq_true] at hok
      exact ih (putS s x) (bestS a o x) hok.2 (by rw [putS]; simp only; rw [look_put hok.1, h])
  have hz : ∀ m, lu (fun _ _ => none) a m = none := fun m => by
    induction m with
    | zero => rfl
    | succ m ih => rw [lu]; exact ih
  exact key L St.zero none hok (by rw [lookE, pre_last]; exact hz 33)
theorem best_step {a : Nat} {L : List En} {k : Nat} {x : En} (hx : L[k]? = some x) : bestL a (L.take (k + 1)) = bestS a (bestL a (L.take k)) x := by
  unfold bestL
  rw [List.take_add_one, hx, Option.toList_some, List.foldl_append]
  rfl
end Go.Proofs.Ytkdjbddjblahkaa

/-
  Routes (layer 49): the route with the longest prefix, by a trie of indices and by going through the list.
  Conditions: addresses and routers are numbers of 32 bits; lists are not too long for a machine.
-/
namespace Go.Proofs.Ytkdjbddjblahkaa
open Go.RowKit

def lgB (f : Rt → Bool) (a : Nat) (o : Option Rt) (r : Rt) : Bool := r.p.has a && f r && (match o with | some s => decide (s.p.n < r.p.n) | none => true)
/-- The index of the longest among the first k that are wanted. -/
def lgI (f : Rt → Bool) (a : Nat) (L : List Rt) : Nat → Option Nat
  | 0 => none
  | k + 1 => match L[k]? with
    | some r => if lgB f a ((lgI f a L k).bind fun i => L[i]?) r then some k else lgI f a L k
    | none => lgI f a L k
def lg (f : Rt → Bool) (a : Nat) (L : List Rt) : Option Nat := lgI f a L L.length
def numI (o : Option Nat) : Int := match o with
  | some i => (i : Int)
  | none => -1
theorem lgI_in {f : Rt → Bool} {a : Nat} {L : List Rt} {i : Nat} : ∀ {k}, lgI f a L k = some i → i < k ∧ ∃ r, L[i]? = some r ∧ r.p.has a = true ∧ f r = true
  | 0, h => by cases h
  | k + 1, h => by
    rw [lgI] at h
    split at h
    · rename_i r hr
      cases hc : lgB f a ((lgI f a L k).bind fun i => L[i]?) r with
      | true =>
        rw [if_pos hc] at h
        cases h
        unfold lgB at hc
        rw [Bool.and_eq_true, Bool.and_eq_true] at hc
        exact ⟨Nat.lt_succ_self _, r, hr, hc.1.1, hc.1.2⟩
      | false =>
        rw [if_neg (by rw [hc]; decide)] at h
        obtain ⟨h1, h2⟩ := lgI_in h
        exact ⟨by omega, h2⟩
    · obtain ⟨h1, h2⟩ := lgI_in h
      exact ⟨by omega, h2⟩
theorem lg_in {f : Rt → Bool} {a : Nat} {L : List Rt} {i : Nat} (h : lg f a L = some i) : i < L.length ∧ ∃ r, L[i]? = some r ∧ r.p.has a = true ∧ f r = true := lgI_in h
/-- The entries of the trie after k routes. -/
def entsI (f : Rt → Bool) (L : List Rt) : Nat → List En
  | 0 => []
  | k + 1 => match L[k]? with
    | some r => if f r then entsI f L k ++ [⟨r.p, k⟩] else entsI f L k
    | none => entsI f L k
theorem entsI_len (f : Rt → Bool) (L : List Rt) : ∀ k, (entsI f L k).length ≤ k
  | 0 => Nat.le_refl _
  | k + 1 => by
    have := entsI_len f L k
    rw [entsI]
    split
    · split
      · rw [List.length_append]; simp; omega
      · omega
    · omega
theorem entsI_ok {f : Rt → Bool} {L : List Rt} (hv : ∀ r ∈ L, r.p.valid = true) : ∀ k, allOk (entsI f L k) = true
  | 0 => rfl
  | k + 1 => by
    have ih := entsI_ok (f := f) hv k
    rw [entsI]
    split
    · rename_i r hr
      split
      · unfold allOk at ih ⊢
        rw [List.all_append, ih]
        simp [hv r (List.mem_of_getElem? hr)]
      · exact ih
    · exact ih
theorem ofS_app (A : List En) (x : En) : ofS (A ++ [x]) = putS (ofS A) x := by unfold ofS; rw [List.foldl_append]; rfl
theorem has_eq {p q : Pf} {a : Nat} (hp : p.has a = true) (hq : q.has a = true) (h : p.n = q.n) : p = q := by
  unfold Pf.has at hp hq
  rw [Bool.and_eq_true, decide_eq_true_eq] at hp hq
  refine pf_eq ?_ h
  rw [← hp.2, ← hq.2, h]
/-- No two routes have the same prefix. -/
def Dist (L : List Rt) : Prop := ∀ (i j : Nat) (r s : Rt), L[i]? = some r → L[j]? = some s → r.p = s.p → i = j
theorem best_lg {f : Rt → Bool} {a : Nat} {L : List Rt} (hD : Dist L) : ∀ k, k ≤ L.length → bestL a (entsI f L k) = (lgI f a L k).bind fun i => (L[i]?).map fun r => (⟨r.p, (i : Int)⟩ : En)
  | 0, _ => rfl
  | k + 1, hk => by
    have ih := best_lg (f := f) (a := a) hD k (by omega)
    obtain ⟨r, hr⟩ : ∃ r, L[k]? = some r := ⟨_, List.getElem?_eq_getElem (show k < L.length from hk)⟩
    rw [entsI, lgI, hr]
    dsimp only
    unfold lgB
    cases hf : f r with
    | false => rw [if_neg (by decide), Bool.and_false, Bool.false_and, if_neg (by decide)]; exact ih
    | true =>
      rw [if_pos rfl, Bool.and_true]
      have hb : bestL a (entsI f L k ++ [⟨r.p, (k : Int)⟩]) = bestS a (bestL a (entsI f L k)) ⟨r.p, (k : Int)⟩ := by unfold bestL; rw [List.foldl_append]; rfl
      rw [hb, ih, bestS, bestB]
      cases hh : r.p.has a with
      | false => rw [Bool.false_and, Bool.false_and, if_neg (by decide), if_neg (by decide)]
      | true =>
        rw [Bool.true_and, Bool.true_and]
        cases hl : lgI f a L k with
        | none =>
          simp [hr]
        | some i =>
          obtain ⟨h1, s, h2, h3, h4⟩ := lgI_in hl
          have hne : s.p.n ≠ r.p.n := fun e => by
            have := hD i k s r h2 hr (has_eq h3 hh e)
            omega
          simp only [Option.bind_some, h2, Option.map_some, Option.isNone_some, Bool.false_or, Option.getD_some]
          by_cases hlt : s.p.n < r.p.n
          · rw [if_pos (decide_eq_true (by omega)), if_pos (decide_eq_true hlt)]
            simp [hr]
          · rw [if_neg (by rw [decide_eq_false (by omega)]; decide), if_neg (by rw [decide_eq_false hlt]; decide)]
            simp [h2]
/-! ### The program -/
def lookV (E : Nat → Nat → Option Int) (a : Nat) : Int := match lookE E a with
  | some e => e.v
  | none => -1
theorem lookV_lg {f : Rt → Bool} {a : Nat} {L : List Rt} (hD : Dist L) (hv : ∀ r ∈ L, r.p.valid = true) : lookV (ofS (entsI f L L.length)).1 a = numI (lg f a L) := by
  unfold lookV lg numI
  rw [look_best (entsI_ok hv _), best_lg hD _ (Nat.le_refl _)]
  cases hl : lgI f a L L.length with
  | none => rfl
  | some i =>
    obtain ⟨_, r, h2, _⟩ := lgI_in hl
    simp [h2]
theorem longest_v {base b0 : Nat} {N : Nat → Nat → Option Nat} {E : Nat → Nat → Option Int} {cnt : Int} (a : Nat) (w : World) (h : TrieM w base b0 N E cnt) (ha : a < 4294967296) :
    Calls Try.prog 29 #[.pointer (some ⟨b0, 0, none⟩), .int .u32 a] w (Ret (.int .i64 (lookV E a)) w) := by
  refine V_enter (vs := [_, _]) Try.func29 rfl Try.ntmps29 (Nat.le_of_ble_eq_true rfl) ?_
  repeat (first | refine Vx ?_ | (apply Ops_q; (case hon => exact Va); (case hd => rfl); (case hq => exact YlA)) | refine Vr ?_ | refine Vt ?_ | refine Vf ?_ | refine Vm ?_ | refine Ve ?_ | refine Vo ?_ | refine Vz ?_ | refine Vn ?_)
  (apply Ops_q; (case hon => (exact Va)); (case hd => rfl); (case hq => exact Yl_call rfl (fun w_ e_ => lookup_v a w_ (h.ext e_) ha)))
  repeat (first | refine Vx ?_ | (apply Ops_q; (case hon => exact Va); (case hd => rfl); (case hq => exact YlA)) | refine Vr ?_ | refine Vt ?_ | refine Vf ?_ | refine Vm ?_ | refine Ve ?_ | refine Vo ?_ | refine Vz ?_ | refine Vn ?_)
  (refine Ops_alloc (by exact Va) rfl ?_; intro w1 b1 n_b1; have k_b1 := n_b1.blk)
  repeat (first | refine Vx ?_ | (apply Ops_q; (case hon => exact Va); (case hd => rfl); (case hq => exact YlA)) | refine Vr ?_ | refine Vt ?_ | refine Vf ?_ | refine Vm ?_ | refine Ve ?_ | refine Vo ?_ | refine Vz ?_ | refine Vn ?_)
  (refine Ops_store (by exact Va) rfl rfl (by assumption) (by first | rfl | exact OneAll.h) ?_; intro w2 u_w2; have k_b1 := u_w2.blk)
  have x2 := u_w2.below n_b1.ext n_b1.ge
  cases ho : lookE E a with
  | none =>
    repeat (first | refine Vx ?_ | (apply Ops_q; (case hon => exact Va); (case hd => rfl); (case hq => exact YlA)) | refine Vr ?_ | refine Vt ?_ | refine Vf ?_ | refine Vm ?_ | refine Ve ?_ | refine Vo ?_ | refine Vz ?_ | refine Vn ?_)
    refine ret1 (by first | exact .inl rfl | exact .inr rfl) rfl rfl ?_
    exact Ret_mk (by rw [lookV, ho]) x2
  | some e =>
    rw [ho] at k_b1
    repeat (first | refine Vx ?_ | (apply Ops_q; (case hon => exact Va); (case hd => rfl); (case hq => exact YlA)) | refine Vr ?_ | refine Vt ?_ | refine Vf ?_ | refine Vm ?_ | refine Ve ?_ | refine Vo ?_ | refine Vz ?_ | refine Vn ?_)
    refine ret1 (by first | exact .inl rfl | exact .inr rfl) rfl rfl ?_
    exact Ret_mk (by rw [lookV, ho]; rfl) x2
def TreeR (E : List En) (w0 : World) (r : Value) (w' : World) : Prop := ∃ b N, r = .pointer (some ⟨b, 0, none⟩) ∧ TrieM w' w0.heap.size b N (ofS E).1 (ofS E).2
set_option maxHeartbeats 1000000 in
theorem tree_v (gf : Nat) [hg : TFun Try.prog gf] (f : Rt → Bool) (ao : Option Addr) (L : List Rt) (c : Nat) (w : World) (hL : Rts w ao L) (hn : L.length ≤ 1000000) (hv : ∀ r ∈ L, r.p.valid = true)
    (hf : ∀ (r : Rt) (w' : World), Calls Try.prog gf #[r.val] w' (Ret (.bool (f r)) w')) :
    Calls Try.prog 30 #[.slice ao L.length c, .func (.func gf) #[] #[]] w (Gives (TreeR (entsI f L L.length) w) w) := by
  refine V_enter (vs := [_, _]) Try.func30 rfl Try.ntmps30 (Nat.le_of_ble_eq_true rfl) ?_
  repeat (first | refine Vx ?_ | (apply Ops_q; (case hon => exact Va); (case hd => rfl); (case hq => exact YlA)) | refine Vr ?_ | refine Vt ?_ | refine Vf ?_ | refine Vm ?_ | refine Ve ?_ | refine Vo ?_ | refine Vz ?_ | refine Vn ?_)
  (refine Ops_callR (by exact Va) rfl rfl (fun w_ e_ => new_v w_) ?_; intro v w1 w0_ e0_ e1_ r_v; have e_w1 := e0_.trans e1_; have b_v := e0_.size; clear e0_ e1_)
  obtain ⟨b, rfl, h⟩ := r_v
  have hg0 : ∀ c, Foot (N0 b) c → w.heap.size ≤ c := fun c hc => Nat.le_trans b_v (h.foot_ge hc)
  replace h : TrieM w1 w.heap.size b (N0 b) (fun _ _ => none) 0 := { h with ge := fun x k c hc => hg0 c ⟨x, k, hc⟩ }
  repeat (first | refine Vx ?_ | (apply Ops_q; (case hon => exact Va); (case hd => rfl); (case hq => exact YlA)) | refine Vr ?_ | refine Vt ?_ | refine Vf ?_ | refine Vm ?_ | refine Ve ?_ | refine Vo ?_ | refine Vz ?_ | refine Vn ?_)
  refine V_loop (fun s : Nat × (Nat → Nat → Option Nat) => [(11, .int .i64 s.1), (10, .int .i64 L.length), (9, .slice ao L.length c), (5, .pointer (some ⟨b, 0, none⟩)), (1, .func (.func gf) #[] #[])])
    (fun s w' => Ext w w' ∧ s.1 ≤ L.length ∧ TrieM w' w.heap.size b s.2 (ofS (entsI f L s.1)).1 (ofS (entsI f L s.1)).2) (fun s => L.length - s.1) (0, N0 b)
    (by repeat (first | exact trivial | refine ⟨rfl, ?_⟩)) ⟨e_w1, Nat.zero_le _, h⟩ ?_
  clear h hg0
  rintro ⟨k, N⟩ w2 ⟨e2, hk, h⟩
  dsimp only at hk h ⊢
  repeat (first | refine Vx ?_ | (apply Ops_q; (case hon => exact Va); (case hd => rfl); (case hq => exact YlA)) | refine Vr ?_ | refine Vt ?_ | refine Vf ?_ | refine Vm ?_ | refine Ve ?_ | refine Vo ?_ | refine Vz ?_ | refine Vn ?_)
  refine V_cond rfl (fun hgd => ?_) (fun hgd => ?_)
  · have hkl : k < L.length := by have := of_decide_eq_true hgd; omega
    clear hgd
    obtain ⟨x, hx⟩ : ∃ x, L[k]? = some x := ⟨_, List.getElem?_eq_getElem hkl⟩
    obtain ⟨ad, rfl, hc⟩ := hL.at hx
    have hmem : x ∈ L := List.mem_of_getElem? hx
    have hxm := hL.mem x hmem
    have hxv := hv x hmem
    have hc2 := hc.ext e2
    have hcnt := ofS_cnt (entsI f L k)
    have hlt := entsI_len f L k
    repeat (first | refine Vx ?_ | (apply Ops_q; (case hon => exact Va); (case hd => rfl); (case hq => exact YlA)) | refine Vr ?_ | refine Vt ?_ | refine Vf ?_ | refine Vm ?_ | refine Ve ?_ | refine Vo ?_ | refine Vz ?_ | refine Vn ?_)
    (apply Ops_q; (case hon => (exact Va)); (case hd => rfl); (case hq => exact Yl_indexS (j := k) rfl rfl (by omega)))
    repeat (first | refine Vx ?_ | (apply Ops_q; (case hon => exact Va); (case hd => rfl); (case hq => exact YlA)) | refine Vr ?_ | refine Vt ?_ | refine Vf ?_ | refine Vm ?_ | refine Ve ?_ | refine Vo ?_ | refine Vz ?_ | refine Vn ?_)
    (refine Ops_alloc (by exact Va) rfl ?_; intro w3 b7 n_b7; have k_b7 := n_b7.blk)
    have e3 := e2.trans n_b7.ext
    have g3 : w.heap.size ≤ b7 := Nat.le_trans e2.size n_b7.ge
    repeat (first | refine Vx ?_ | (apply Ops_q; (case hon => exact Va); (case hd => rfl); (case hq => exact YlA)) | refine Vr ?_ | refine Vt ?_ | refine Vf ?_ | refine Vm ?_ | refine Ve ?_ | refine Vo ?_ | refine Vz ?_ | refine Vn ?_)
    (refine Ops_store (by exact Va) rfl rfl (by assumption) (by first | rfl | exact OneAll.h) ?_; intro w4 u_w4; have k_b7 := u_w4.blk)
    have e4 := u_w4.below e3 g3
    have hf3 : ∀ c, Foot N c → c ≠ b7 := fun c hc e => by have := h.lt hc; have := n_b7.ge; omega
    have h4 : TrieM w4 w.heap.size b N (ofS (entsI f L k)).1 (ofS (entsI f L k)).2 := { h with node := fun x k c hc => u_w4.keep ((h.node x k c hc).ext n_b7.ext) (hf3 c ⟨x, k, hc⟩) }
    clear hc hc2 u_w4 n_b7 e3 h hmem
    repeat (first | refine Vx ?_ | (apply Ops_q; (case hon => exact Va); (case hd => rfl); (case hq => exact YlA)) | refine Vr ?_ | refine Vt ?_ | refine Vf ?_ | refine Vm ?_ | refine Ve ?_ | refine Vo ?_ | refine Vz ?_ | refine Vn ?_)
    refine Ops_q (by exact Va) rfl (Yl_callv (first := []) (cap := []) (vs := [x.val]) rfl rfl (fun w_ e_ => hf x w_)) ?_
    repeat (first | refine Vx ?_ | (apply Ops_q; (case hon => exact Va); (case hd => rfl); (case hq => exact YlA)) | refine Vr ?_ | refine Vt ?_ | refine Vf ?_ | refine Vm ?_ | refine Ve ?_ | refine Vo ?_ | refine Vz ?_ | refine Vn ?_)
    cases hfx : f x with
    | true =>
      have hst : entsI f L (k + 1) = entsI f L k ++ [⟨x.p, (k : Int)⟩] := by rw [entsI, hx]; dsimp only; rw [if_pos hfx]
      have hpart : Cells w4 ⟨b7, 0, none⟩ [.int .u32 x.p.a, .int .i64 x.p.n] := k_b7.part 0 2
      repeat (first | refine Vx ?_ | (apply Ops_q; (case hon => exact Va); (case hd => rfl); (case hq => exact YlA)) | refine Vr ?_ | refine Vt ?_ | refine Vf ?_ | refine Vm ?_ | refine Ve ?_ | refine Vo ?_ | refine Vz ?_ | refine Vn ?_)
      refine Ops_callM (S := Foot N) (R := fun w_ => PutR w.heap.size b N (ofS (entsI f L k)).1 (ofS (entsI f L k)).2 x.p k w_) (by exact Va) rfl rfl (fun w_ e_ => put_v x.p k w_ (h4.ext e_) hxm.pa hxv (Nat.le_trans e4.size e_.size) (by omega) (by omega)) ?_
      intro r w5 w0_ e0 m5 hR
      obtain ⟨rfl, N', h5, _⟩ := hR
      have e5 : Ext w w5 := Mod.ext_of (e4.trans e0) m5 (fun c hc => h4.foot_ge hc)
      repeat (first | refine Vx ?_ | (apply Ops_q; (case hon => exact Va); (case hd => rfl); (case hq => exact YlA)) | refine Vr ?_ | refine Vt ?_ | refine Vf ?_ | refine Vm ?_ | refine Ve ?_ | refine Vo ?_ | refine Vz ?_ | refine Vn ?_)
      refine ⟨(k + 1, N'), (by repeat (first | exact trivial | refine ⟨rfl, ?_⟩)), ⟨e5, hkl, ?_⟩, by simp only; omega⟩
      dsimp only
      rw [hst, ofS_app]; exact h5
    | false =>
      have hst : entsI f L (k + 1) = entsI f L k := by rw [entsI, hx]; dsimp only; rw [if_neg (by rw [hfx]; decide)]
      repeat (first | refine Vx ?_ | (apply Ops_q; (case hon => exact Va); (case hd => rfl); (case hq => exact YlA)) | refine Vr ?_ | refine Vt ?_ | refine Vf ?_ | refine Vm ?_ | refine Ve ?_ | refine Vo ?_ | refine Vz ?_ | refine Vn ?_)
      refine ⟨(k + 1, N), (by repeat (first | exact trivial | refine ⟨rfl, ?_⟩)), ⟨e4, hkl, ?_⟩, by simp only; omega⟩
      dsimp only
      rw [hst]; exact h4
  · obtain rfl : k = L.length := by have := of_decide_eq_false hgd; omega
    repeat (first | refine Vx ?_ | (apply Ops_q; (case hon => exact Va); (case hd => rfl); (case hq => exact YlA)) | refine Vr ?_ | refine Vt ?_ | refine Vf ?_ | refine Vm ?_ | refine Ve ?_ | refine Vo ?_ | refine Vz ?_ | refine Vn ?_)
    refine ret1 (by first | exact .inl rfl | exact .inr rfl) rfl rfl ?_
    exact Gives_mk (fun w' he => ⟨b, N, rfl, h.ext he⟩) e2
/-- A path-vector route. -/
def isV (r : Rt) : Bool := decide (r.proto = 6 ∨ r.proto = 7)
theorem vector_v (r : Rt) (w : World) : Calls Try.prog 50 #[r.val] w (Ret (.bool (isV r)) w) := by
  refine V_enter (vs := [_]) Try.func50 rfl Try.ntmps50 (Nat.le_of_ble_eq_true rfl) ?_
  repeat (first | refine Vx ?_ | (apply Ops_q; (case hon => exact Va); (case hd => rfl); (case hq => exact YlA)) | refine Vr ?_ | refine Vt ?_ | refine Vf ?_ | refine Vm ?_ | refine Ve ?_ | refine Vo ?_ | refine Vz ?_ | refine Vn ?_)
  (refine Ops_box (by exact Va) rfl rfl rfl ?_; intro w1 b1 n_b1; have k_b1 := n_b1.blk)
  have x1 := n_b1.ext
  clear n_b1
  repeat (first | refine Vx ?_ | (apply Ops_q; (case hon => exact Va); (case hd => rfl); (case hq => exact YlA)) | refine Vr ?_ | refine Vt ?_ | refine Vf ?_ | refine Vm ?_ | refine Ve ?_ | refine Vo ?_ | refine Vz ?_ | refine Vn ?_)
  by_cases t1 : r.proto = 6
  · have d1 : decide (r.proto = 6) = true := decide_eq_true t1
    refine Ops_know rfl rfl d1 ?_
    repeat (first | refine Vx ?_ | (apply Ops_q; (case hon => exact Va); (case hd => rfl); (case hq => exact YlA)) | refine Vr ?_ | refine Vt ?_ | refine Vf ?_ | refine Vm ?_ | refine Ve ?_ | refine Vo ?_ | refine Vz ?_ | refine Vn ?_)
    refine ret1 (by first | exact .inl rfl | exact .inr rfl) rfl rfl ?_
    exact Ret_mk (by rw [isV, decide_eq_true (Or.inl t1)]) x1
  · have d1 : decide (r.proto = 6) = false := decide_eq_false t1
    refine Ops_know rfl rfl d1 ?_
    repeat (first | refine Vx ?_ | (apply Ops_q; (case hon => exact Va); (case hd => rfl); (case hq => exact YlA)) | refine Vr ?_ | refine Vt ?_ | refine Vf ?_ | refine Vm ?_ | refine Ve ?_ | refine Vo ?_ | refine Vz ?_ | refine Vn ?_)
    refine ret1 (by first | exact .inl rfl | exact .inr rfl) rfl rfl ?_
    exact Ret_mk (by rw [isV, decide_eq_decide.2 (show r.proto = 7 ↔ (r.proto = 6 ∨ r.proto = 7) from ⟨.inr, fun h => h.resolve_left t1⟩)]) x1
theorem vectorR_v (r : Rt) (w : World) : Calls Try.prog 47 #[r.val] w (Ret (.bool (isV r)) w) := by
  refine V_enter (vs := [_]) Try.func47 rfl Try.ntmps47 (Nat.le_of_ble_eq_true rfl) ?_
  repeat (first | refine Vx ?_ | (apply Ops_q; (case hon => exact Va); (case hd => rfl); (case hq => exact YlA)) | refine Vr ?_ | refine Vt ?_ | refine Vf ?_ | refine Vm ?_ | refine Ve ?_ | refine Vo ?_ | refine Vz ?_ | refine Vn ?_)
  (refine Ops_box (by exact Va) rfl rfl rfl ?_; intro w1 b1 n_b1; have k_b1 := n_b1.blk)
  have x1 := n_b1.ext
  clear n_b1
  repeat (first | refine Vx ?_ | (apply Ops_q; (case hon => exact Va); (case hd => rfl); (case hq => exact YlA)) | refine Vr ?_ | refine Vt ?_ | refine Vf ?_ | refine Vm ?_ | refine Ve ?_ | refine Vo ?_ | refine Vz ?_ | refine Vn ?_)
  by_cases t1 : r.proto = 6
  · have d1 : decide (r.proto = 6) = true := decide_eq_true t1
    refine Ops_know rfl rfl d1 ?_
    repeat (first | refine Vx ?_ | (apply Ops_q; (case hon => exact Va); (case hd => rfl); (case hq => exact YlA)) | refine Vr ?_ | refine Vt ?_ | refine Vf ?_ | refine Vm ?_ | refine Ve ?_ | refine Vo ?_ | refine Vz ?_ | refine Vn ?_)
    refine ret1 (by first | exact .inl rfl | exact .inr rfl) rfl rfl ?_
    exact Ret_mk (by rw [isV, decide_eq_true (Or.inl t1)]) x1
  · have d1 : decide (r.proto = 6) = false := decide_eq_false t1
    refine Ops_know rfl rfl d1 ?_
    repeat (first | refine Vx ?_ | (apply Ops_q; (case hon => exact Va); (case hd => rfl); (case hq => exact YlA)) | refine Vr ?_ | refine Vt ?_ | refine Vf ?_ | refine Vm ?_ | refine Ve ?_ | refine Vo ?_ | refine Vz ?_ | refine Vn ?_)
    refine ret1 (by first | exact .inl rfl | exact .inr rfl) rfl rfl ?_
    exact Ret_mk (by rw [isV, decide_eq_decide.2 (show r.proto = 7 ↔ (r.proto = 6 ∨ r.proto = 7) from ⟨.inr, fun h => h.resolve_left t1⟩)]) x1
theorem wantAll_v (r : Rt) (w : World) : Calls Try.prog 31 #[r.val] w (Ret (.bool ((fun _ => true) r)) w) := by
  refine V_enter (vs := [_]) Try.func31 rfl Try.ntmps31 (Nat.le_of_ble_eq_true rfl) ?_
  repeat (first | refine Vx ?_ | (apply Ops_q; (case hon => exact Va); (case hd => rfl); (case hq => exact YlA)) | refine Vr ?_ | refine Vt ?_ | refine Vf ?_ | refine Vm ?_ | refine Ve ?_ | refine Vo ?_ | refine Vz ?_ | refine Vn ?_)
  (refine Ops_box (by exact Va) rfl rfl rfl ?_; intro w1 b1 n_b1; have k_b1 := n_b1.blk)
  repeat (first | refine Vx ?_ | (apply Ops_q; (case hon => exact Va); (case hd => rfl); (case hq => exact YlA)) | refine Vr ?_ | refine Vt ?_ | refine Vf ?_ | refine Vm ?_ | refine Ve ?_ | refine Vo ?_ | refine Vz ?_ | refine Vn ?_)
  refine ret1 (by first | exact .inl rfl | exact .inr rfl) rfl rfl ?_
  exact Ret_mk rfl n_b1.ext
theorem wantPlain_v (r : Rt) (w : World) : Calls Try.prog 49 #[r.val] w (Ret (.bool (!isV r)) w) := by
  refine V_enter (vs := [_]) Try.func49 rfl Try.ntmps49 (Nat.le_of_ble_eq_true rfl) ?_
  repeat (first | refine Vx ?_ | (apply Ops_q; (case hon => exact Va); (case hd => rfl); (case hq => exact YlA)) | refine Vr ?_ | refine Vt ?_ | refine Vf ?_ | refine Vm ?_ | refine Ve ?_ | refine Vo ?_ | refine Vz ?_ | refine Vn ?_)
  (refine Ops_box (by exact Va) rfl rfl rfl ?_; intro w1 b1 n_b1; have k_b1 := n_b1.blk)
  repeat (first | refine Vx ?_ | (apply Ops_q; (case hon => exact Va); (case hd => rfl); (case hq => exact YlA)) | refine Vr ?_ | refine Vt ?_ | refine Vf ?_ | refine Vm ?_ | refine Ve ?_ | refine Vo ?_ | refine Vz ?_ | refine Vn ?_)
  (apply Ops_q; (case hon => (exact Va)); (case hd => rfl); (case hq => exact Yl_call rfl (fun w_ e_ => vector_v r w_)))
  repeat (first | refine Vx ?_ | (apply Ops_q; (case hon => exact Va); (case hd => rfl); (case hq => exact YlA)) | refine Vr ?_ | refine Vt ?_ | refine Vf ?_ | refine Vm ?_ | refine Ve ?_ | refine Vo ?_ | refine Vz ?_ | refine Vn ?_)
  refine ret1 (by first | exact .inl rfl | exact .inr rfl) rfl rfl ?_
  exact Ret_mk rfl n_b1.ext
end Go.Proofs.Ytkdjbddjblahkaa

/-
  Routes (layer 49): the reference's longest and Find; the program's Find.
  Conditions: addresses and routers are numbers of 32 bits; lists are not too long for a machine.
-/
namespace Go.Proofs.Ytkdjbddjblahkaa
open Go.RowKit

def zeroR : Rt := ⟨⟨0, 0⟩, 0, 0, 0, 0, none, 0, []⟩
theorem zeroR_mem (w : World) : RtM w zeroR := ⟨Arr.nil, fun _ => rfl, Nat.le_refl _, by decide, fun _ h => nomatch h⟩
/-- The route of an index, or the zero route. -/
def rtO (L : List Rt) (o : Option Nat) : Rt := match o.bind fun i => L[i]? with
  | some r => r
  | none => zeroR
theorem rtO_some {L : List Rt} {i : Nat} {r : Rt} (h : L[i]? = some r) : rtO L (some i) = r := by unfold rtO; simp [h]
theorem rtO_mem {w : World} {ao : Option Addr} {L : List Rt} (h : Rts w ao L) (o : Option Nat) : RtM w (rtO L o) := by
  unfold rtO
  split
  · rename_i r hr
    obtain ⟨i, _, h2⟩ := Option.bind_eq_some_iff.1 hr
    exact h.mem r (List.mem_of_getElem? h2)
  · exact zeroR_mem w
theorem lgI_bind {f : Rt → Bool} {a : Nat} {L : List Rt} {k : Nat} : ((lgI f a L k).bind fun i => L[i]?).isSome = (lgI f a L k).isSome := by
  cases h : lgI f a L k with
  | none => rfl
  | some i => obtain ⟨_, r, h2, _⟩ := lgI_in h; simp [h2]
set_option maxHeartbeats 2000000 in
theorem longestR_v (ao : Option Addr) (L : List Rt) (c a : Nat) (all : Bool) (w : World) (hL : Rts w ao L) (hn : L.length ≤ 4611686018427387904) (ha : a < 4294967296) :
    Calls Try.prog 33 #[.slice ao L.length c, .int .u32 a, .bool all] w (Ret (.tuple #[(rtO L (lg (fun r => all || !isV r) a L)).val, .bool (lg (fun r => all || !isV r) a L).isSome]) w) := by
  unfold lg
  generalize hf : (fun r => all || !isV r) = f
  refine V_enter (vs := [_, _, _]) Try.func33 rfl Try.ntmps33 (Nat.le_of_ble_eq_true rfl) ?_
  repeat (first | refine Vx ?_ | (apply Ops_q; (case hon => exact Va); (case hd => rfl); (case hq => exact YlA)) | refine Vr ?_ | refine Vt ?_ | refine Vf ?_ | refine Vm ?_ | refine Ve ?_ | refine Vo ?_ | refine Vz ?_ | refine Vn ?_)
  (refine Ops_alloc (by exact Va) rfl ?_; intro w1 b6 n_b6; have k_b6 := n_b6.blk)
  have x1 := n_b6.ext
  have g6 := n_b6.ge
  clear n_b6
  repeat (first | refine Vx ?_ | (apply Ops_q; (case hon => exact Va); (case hd => rfl); (case hq => exact YlA)) | refine Vr ?_ | refine Vt ?_ | refine Vf ?_ | refine Vm ?_ | refine Ve ?_ | refine Vo ?_ | refine Vz ?_ | refine Vn ?_)
  (refine Ops_alloc (by exact Va) rfl ?_; intro w2 b8 n_b8; have k_b8 := n_b8.blk)
  have x2 := x1.trans n_b8.ext
  have g8 : w.heap.size ≤ b8 := Nat.le_trans x1.size n_b8.ge
  have n68 : b6 ≠ b8 := Nat.ne_of_lt (Nat.lt_of_lt_of_le k_b6.lt n_b8.ge)
  replace k_b6 := k_b6.ext n_b8.ext
  clear n_b8 x1
  repeat (first | refine Vx ?_ | (apply Ops_q; (case hon => exact Va); (case hd => rfl); (case hq => exact YlA)) | refine Vr ?_ | refine Vt ?_ | refine Vf ?_ | refine Vm ?_ | refine Ve ?_ | refine Vo ?_ | refine Vz ?_ | refine Vn ?_)
  (refine Ops_store (by exact Va) rfl rfl (by assumption) (by first | rfl | exact OneAll.h) ?_; intro w3 u_w3; have k_b8 := u_w3.blk)
  replace k_b6 := u_w3.keep k_b6 n68
  have x3 := u_w3.below x2 g8
  clear u_w3 x2
  repeat (first | refine Vx ?_ | (apply Ops_q; (case hon => exact Va); (case hd => rfl); (case hq => exact YlA)) | refine Vr ?_ | refine Vt ?_ | refine Vf ?_ | refine Vm ?_ | refine Ve ?_ | refine Vo ?_ | refine Vz ?_ | refine Vn ?_)
  refine V_loop (fun k : Nat => [(15, .int .i64 k), (14, .int .i64 L.length), (13, .slice ao L.length c), (8, .pointer (some ⟨b8, 0, none⟩)), (9, .bool (lgI f a L k).isSome), (6, .pointer (some ⟨b6, 0, none⟩)), (1, .int .u32 a), (2, .bool all)])
    (fun k w' => Ext w w' ∧ k ≤ L.length ∧ Blk w' b8 31 (rtO L (lgI f a L k)).cells ∧ Blk w' b6 31 zeroR.cells) (fun k => L.length - k) 0 (by repeat (first | exact trivial | refine ⟨rfl, ?_⟩)) ⟨x3, Nat.zero_le _, k_b8, k_b6⟩ ?_
  clear x3 k_b8 k_b6
  rintro k w4 ⟨x4, hk, k8, k6⟩
  repeat (first | refine Vx ?_ | (apply Ops_q; (case hon => exact Va); (case hd => rfl); (case hq => exact YlA)) | refine Vr ?_ | refine Vt ?_ | refine Vf ?_ | refine Vm ?_ | refine Ve ?_ | refine Vo ?_ | refine Vz ?_ | refine Vn ?_)
  refine V_cond rfl (fun hgd => ?_) (fun hgd => ?_)
  · have hkl : k < L.length := by have := of_decide_eq_true hgd; omega
    clear hgd
    obtain ⟨x, hx⟩ : ∃ x, L[k]? = some x := ⟨_, List.getElem?_eq_getElem hkl⟩
    obtain ⟨ad, rfl, hc⟩ := hL.at hx
    have hxm := hL.mem x (List.mem_of_getElem? hx)
    have hc4 := hc.ext x4
    have hsome := lgI_bind (f := f) (a := a) (L := L) (k := k)
    have hnext : lgI f a L (k + 1) = if lgB f a ((lgI f a L k).bind fun i => L[i]?) x then some k else lgI f a L k := by rw [lgI, hx]
    have hlgi : ∀ i, lgI f a L k = some i → ∃ s, L[i]? = some s := fun i h => by obtain ⟨_, s, h2, _⟩ := lgI_in h; exact ⟨s, h2⟩
    generalize ho : lgI f a L k = o at *
    have g8' := k8
    unfold Rt.cells at k8
    repeat (first | refine Vx ?_ | (apply Ops_q; (case hon => exact Va); (case hd => rfl); (case hq => exact YlA)) | refine Vr ?_ | refine Vt ?_ | refine Vf ?_ | refine Vm ?_ | refine Ve ?_ | refine Vo ?_ | refine Vz ?_ | refine Vn ?_)
    (apply Ops_q; (case hon => (exact Va)); (case hd => rfl); (case hq => exact Yl_indexS (j := k) rfl rfl (by omega)))
    repeat (first | refine Vx ?_ | (apply Ops_q; (case hon => exact Va); (case hd => rfl); (case hq => exact YlA)) | refine Vr ?_ | refine Vt ?_ | refine Vf ?_ | refine Vm ?_ | refine Ve ?_ | refine Vo ?_ | refine Vz ?_ | refine Vn ?_)
    (refine Ops_alloc (by exact Va) rfl ?_; intro w5 b11 n_b11; have k_b11 := n_b11.blk)
    repeat (first | refine Vx ?_ | (apply Ops_q; (case hon => exact Va); (case hd => rfl); (case hq => exact YlA)) | refine Vr ?_ | refine Vt ?_ | refine Vf ?_ | refine Vm ?_ | refine Ve ?_ | refine Vo ?_ | refine Vz ?_ | refine Vn ?_)
    (refine Ops_store (by exact Va) rfl rfl (by assumption) (by first | rfl | exact OneAll.h) ?_; intro w6 u_w6; have k_b11 := u_w6.blk)
    have y6 := u_w6.below n_b11.ext n_b11.ge
    have x6 := x4.trans y6
    replace k8 := k8.ext y6
    replace g8' := g8'.ext y6
    replace k6 := k6.ext y6
    clear u_w6 n_b11 hc hc4
    have q1 : Cells w6 ⟨b11, 0, none⟩ [.int .u32 x.p.a, .int .i64 x.p.n] := k_b11.part 0 2
    repeat (first | refine Vx ?_ | (apply Ops_q; (case hon => exact Va); (case hd => rfl); (case hq => exact YlA)) | refine Vr ?_ | refine Vt ?_ | refine Vf ?_ | refine Vm ?_ | refine Ve ?_ | refine Vo ?_ | refine Vz ?_ | refine Vn ?_)
    (apply Ops_q; (case hon => (exact Va)); (case hd => rfl); (case hq => exact Yl_call rfl (fun w_ e_ => contains_v x.p a w_ hxm.pa ha)))
    clear q1
    repeat (first | refine Vx ?_ | (apply Ops_q; (case hon => exact Va); (case hd => rfl); (case hq => exact YlA)) | refine Vr ?_ | refine Vt ?_ | refine Vf ?_ | refine Vm ?_ | refine Ve ?_ | refine Vo ?_ | refine Vz ?_ | refine Vn ?_)
    refine Ops_meet [(43, .bool (lgB f a (o.bind fun i => L[i]?) x)), (11, .pointer (some ⟨b11, 0, none⟩)), (15, .int .i64 k), (14, .int .i64 L.length), (13, .slice (some ad) L.length c), (8, .pointer (some ⟨b8, 0, none⟩)), (9, .bool o.isSome), (6, .pointer (some ⟨b6, 0, none⟩)), (1, .int .u32 a), (2, .bool all)] ?_ ?_
    · unfold lgB
      cases hh : x.p.has a with
      | false =>
        repeat (first | refine Vx ?_ | (apply Ops_q; (case hon => exact Va); (case hd => rfl); (case hq => exact YlA)) | refine Vr ?_ | refine Vt ?_ | refine Vf ?_ | refine Vm ?_ | refine Ve ?_ | refine Vo ?_ | refine Vz ?_ | refine Vn ?_)
        exact ⟨(by repeat (first | exact trivial | refine ⟨rfl, ?_⟩)), rfl⟩
      | true =>
        cases all with
        | true =>
          have hfx : f x = true := by rw [← hf]; rfl
          rw [hfx]
          repeat (first | refine Vx ?_ | (apply Ops_q; (case hon => exact Va); (case hd => rfl); (case hq => exact YlA)) | refine Vr ?_ | refine Vt ?_ | refine Vf ?_ | refine Vm ?_ | refine Ve ?_ | refine Vo ?_ | refine Vz ?_ | refine Vn ?_)
          cases o with
          | none =>
            repeat (first | refine Vx ?_ | (apply Ops_q; (case hon => exact Va); (case hd => rfl); (case hq => exact YlA)) | refine Vr ?_ | refine Vt ?_ | refine Vf ?_ | refine Vm ?_ | refine Ve ?_ | refine Vo ?_ | refine Vz ?_ | refine Vn ?_)
            exact ⟨(by repeat (first | exact trivial | refine ⟨rfl, ?_⟩)), rfl⟩
          | some i =>
            obtain ⟨s, hs⟩ := hlgi i rfl
            rw [rtO_some hs] at k8
            simp only [Option.bind_some, hs]
            repeat (first | refine Vx ?_ | (apply Ops_q; (case hon => exact Va); (case hd => rfl); (case hq => exact YlA)) | refine Vr ?_ | refine Vt ?_ | refine Vf ?_ | refine Vm ?_ | refine Ve ?_ | refine Vo ?_ | refine Vz ?_ | refine Vn ?_)
            exact ⟨(by repeat (first | exact trivial | refine ⟨rfl, ?_⟩)), rfl⟩
        | false =>
          have hfx : f x = !isV x := by rw [← hf]; rfl
          rw [hfx]
          repeat (first | refine Vx ?_ | (apply Ops_q; (case hon => exact Va); (case hd => rfl); (case hq => exact YlA)) | refine Vr ?_ | refine Vt ?_ | refine Vf ?_ | refine Vm ?_ | refine Ve ?_ | refine Vo ?_ | refine Vz ?_ | refine Vn ?_)
          (apply Ops_q; (case hon => (exact Va)); (case hd => rfl); (case hq => exact Yl_call rfl (fun w_ e_ => vectorR_v x w_)))
          cases isV x with
          | true =>
            repeat (first | refine Vx ?_ | (apply Ops_q; (case hon => exact Va); (case hd => rfl); (case hq => exact YlA)) | refine Vr ?_ | refine Vt ?_ | refine Vf ?_ | refine Vm ?_ | refine Ve ?_ | refine Vo ?_ | refine Vz ?_ | refine Vn ?_)
            exact ⟨(by repeat (first | exact trivial | refine ⟨rfl, ?_⟩)), rfl⟩
          | false =>
            repeat (first | refine Vx ?_ | (apply Ops_q; (case hon => exact Va); (case hd => rfl); (case hq => exact YlA)) | refine Vr ?_ | refine Vt ?_ | refine Vf ?_ | refine Vm ?_ | refine Ve ?_ | refine Vo ?_ | refine Vz ?_ | refine Vn ?_)
            cases o with
            | none =>
              repeat (first | refine Vx ?_ | (apply Ops_q; (case hon => exact Va); (case hd => rfl); (case hq => exact YlA)) | refine Vr ?_ | refine Vt ?_ | refine Vf ?_ | refine Vm ?_ | refine Ve ?_ | refine Vo ?_ | refine Vz ?_ | refine Vn ?_)
              exact ⟨(by repeat (first | exact trivial | refine ⟨rfl, ?_⟩)), rfl⟩
            | some i =>
              obtain ⟨s, hs⟩ := hlgi i rfl
              rw [rtO_some hs] at k8
              simp only [Option.bind_some, hs]
              repeat (first | refine Vx ?_ | (apply Ops_q; (case hon => exact Va); (case hd => rfl); (case hq => exact YlA)) | refine Vr ?_ | refine Vt ?_ | refine Vf ?_ | refine Vm ?_ | refine Ve ?_ | refine Vo ?_ | refine Vz ?_ | refine Vn ?_)
              exact ⟨(by repeat (first | exact trivial | refine ⟨rfl, ?_⟩)), rfl⟩
    · repeat (first | refine Vx ?_ | (apply Ops_q; (case hon => exact Va); (case hd => rfl); (case hq => exact YlA)) | refine Vr ?_ | refine Vt ?_ | refine Vf ?_ | refine Vm ?_ | refine Ve ?_ | refine Vo ?_ | refine Vz ?_ | refine Vn ?_)
      cases hb : lgB f a (o.bind fun i => L[i]?) x with
      | true =>
        rw [hb, if_pos rfl] at hnext
        repeat (first | refine Vx ?_ | (apply Ops_q; (case hon => exact Va); (case hd => rfl); (case hq => exact YlA)) | refine Vr ?_ | refine Vt ?_ | refine Vf ?_ | refine Vm ?_ | refine Ve ?_ | refine Vo ?_ | refine Vz ?_ | refine Vn ?_)
        refine Ops_store (by exact Va) rfl rfl k8 (by first | rfl | exact OneAll.h) ?_
        intro w7 u7
        have x7 := u7.below x6 g8
        have k6' := u7.keep k6 n68
        repeat (first | refine Vx ?_ | (apply Ops_q; (case hon => exact Va); (case hd => rfl); (case hq => exact YlA)) | refine Vr ?_ | refine Vt ?_ | refine Vf ?_ | refine Vm ?_ | refine Ve ?_ | refine Vo ?_ | refine Vz ?_ | refine Vn ?_)
        refine ⟨k + 1, by rw [hnext]; exact (by repeat (first | exact trivial | refine ⟨rfl, ?_⟩)), ⟨x7, hkl, ?_, k6'⟩, by omega⟩
        rw [hnext, rtO_some hx]; exact u7.blk
      | false =>
        rw [hb, if_neg (by decide)] at hnext
        repeat (first | refine Vx ?_ | (apply Ops_q; (case hon => exact Va); (case hd => rfl); (case hq => exact YlA)) | refine Vr ?_ | refine Vt ?_ | refine Vf ?_ | refine Vm ?_ | refine Ve ?_ | refine Vo ?_ | refine Vz ?_ | refine Vn ?_)
        exact ⟨k + 1, by rw [hnext]; exact (by repeat (first | exact trivial | refine ⟨rfl, ?_⟩)), ⟨x6, hkl, by rw [hnext]; exact g8', k6⟩, by omega⟩
  · obtain rfl : k = L.length := by have := of_decide_eq_false hgd; omega
    generalize lgI f a L L.length = o at *
    unfold Rt.cells at k8 k6
    repeat (first | refine Vx ?_ | (apply Ops_q; (case hon => exact Va); (case hd => rfl); (case hq => exact YlA)) | refine Vr ?_ | refine Vt ?_ | refine Vf ?_ | refine Vm ?_ | refine Ve ?_ | refine Vo ?_ | refine Vz ?_ | refine Vn ?_)
    refine Ops_store (by exact Va) rfl rfl k6 (by first | rfl | exact OneAll.h) ?_
    intro w7 u7
    have x7 := u7.below x4 g6
    have k7 := u7.blk
    repeat (first | refine Vx ?_ | (apply Ops_q; (case hon => exact Va); (case hd => rfl); (case hq => exact YlA)) | refine Vr ?_ | refine Vt ?_ | refine Vf ?_ | refine Vm ?_ | refine Ve ?_ | refine Vo ?_ | refine Vz ?_ | refine Vn ?_)
    refine retR2 (.inl rfl) rfl (res_agg rfl k7.cells) (by rfl) ?_
    exact Ret_mk rfl x7
end Go.Proofs.Ytkdjbddjblahkaa

/-
  Routes (layer 49), plain: which routes lead to which; depth; what a hop and a route resolve to.
-/
namespace Go.Proofs.Ytkdjbddjblahkaa
open Go.RowKit

/-- The index of the route that a hop leads to. -/
def nxI (V : List Rt) (h : Nh) : Option Nat := if h.iface = -1 then lg (fun r => !isV r) h.addr V else none
theorem nxI_lt {V : List Rt} {h : Nh} {i : Nat} (hi : nxI V h = some i) : i < V.length := by
  unfold nxI at hi
  split at hi
  · exact (lg_in hi).1
  · cases hi
def kids (V : List Rt) (i : Nat) : List Nat := match V[i]? with
  | some r => r.hops.filterMap (nxI V)
  | none => []
theorem kids_mem {V : List Rt} {i j : Nat} : j ∈ kids V i ↔ ∃ r h, V[i]? = some r ∧ h ∈ r.hops ∧ nxI V h = some j := by
  unfold kids
  cases hr : V[i]? with
  | none =>
    constructor
    · intro h; cases h
    · rintro ⟨r, h, e, _⟩; cases e
  | some r =>
    rw [List.mem_filterMap]
    constructor
    · rintro ⟨h, h1, h2⟩; exact ⟨r, h, rfl, h1, h2⟩
    · rintro ⟨r', h, e, h1, h2⟩; cases e; exact ⟨h, h1, h2⟩
theorem kids_lt {V : List Rt} {i j : Nat} (h : j ∈ kids V i) : j < V.length := by
  obtain ⟨_, _, _, _, h⟩ := kids_mem.1 h
  exact nxI_lt h
/-- One gets from i to j in one step or more. -/
inductive Rch (V : List Rt) : Nat → Nat → Prop
  | one {i j : Nat} : j ∈ kids V i → Rch V i j
  | step {i j k : Nat} : j ∈ kids V i → Rch V j k → Rch V i k
theorem Rch.trans {V : List Rt} {i j k : Nat} (h : Rch V i j) (h2 : Rch V j k) : Rch V i k := by
  induction h with
  | one h1 => exact .step h1 h2
  | step h1 _ ih => exact .step h1 (ih h2)
theorem Rch.snoc {V : List Rt} {i j k : Nat} (h : Rch V i j) (h2 : k ∈ kids V j) : Rch V i k := h.trans (.one h2)
theorem Rch.lt {V : List Rt} {i j : Nat} (h : Rch V i j) : j < V.length := by
  induction h with
  | one h1 => exact kids_lt h1
  | step _ _ ih => exact ih
/-- A closed set that holds the kids of i holds all that i leads to. -/
theorem Rch.closed {V : List Rt} {S : Nat → Prop} {i j : Nat} (h : Rch V i j) (hk : ∀ x ∈ kids V i, S x) (hc : ∀ x, S x → ∀ y ∈ kids V x, S y) : S j := by
  induction h with
  | one h1 => exact hk _ h1
  | step h1 _ ih => exact ih (hc _ (hk _ h1))
def samR (a b : Rt) : Bool := decide (a.p = b.p) && decide (a.proto = b.proto)
theorem samR_iff {a b : Rt} : samR a b = true ↔ a.p = b.p ∧ a.proto = b.proto := by unfold samR; rw [Bool.and_eq_true, decide_eq_true_eq, decide_eq_true_eq]
/-- Route i is r or leads to r. -/
def Loops (V : List Rt) (i : Nat) (r : Rt) : Prop := ∃ j, (j = i ∨ Rch V i j) ∧ ∃ s, V[j]? = some s ∧ samR s r = true
open Classical in
noncomputable def loopsB (V : List Rt) (i : Nat) (r : Rt) : Bool := decide (Loops V i r)
open Classical in
theorem loopsB_yes {V : List Rt} {i : Nat} {r : Rt} (h : Loops V i r) : loopsB V i r = true := decide_eq_true h
open Classical in
theorem loopsB_no {V : List Rt} {i : Nat} {r : Rt} (h : ¬Loops V i r) : loopsB V i r = false := decide_eq_false h
open Classical in
theorem loopsB_iff {V : List Rt} {i : Nat} {r : Rt} : loopsB V i r = true ↔ Loops V i r := by unfold loopsB; exact decide_eq_true_iff
theorem samR_self (r : Rt) : samR r r = true := samR_iff.2 ⟨rfl, rfl⟩
/-! ### The rank: how many routes one can get to -/
open Classical in
noncomputable def rkR (V : List Rt) (i : Nat) : Nat := ((List.range V.length).filter fun j => decide (j = i ∨ Rch V i j)).length
theorem filter_lt {p q : Nat → Bool} {x : Nat} : ∀ {L : List Nat}, (∀ y, p y = true → q y = true) → x ∈ L → q x = true → p x = false → (L.filter p).length < (L.filter q).length
  | [], _, h, _, _ => nomatch h
  | y :: L, hpq, hm, hq, hp => by
    have hle : (L.filter p).length ≤ (L.filter q).length := by
      rw [← List.countP_eq_length_filter, ← List.countP_eq_length_filter]
      exact List.countP_mono_left fun a _ h => hpq a h
    rcases List.mem_cons.1 hm with h | h
    · subst h
      rw [List.filter_cons, if_neg (by rw [hp]; decide), List.filter_cons, if_pos hq]
      exact Nat.lt_succ_of_le hle
    · have ih := filter_lt hpq h hq hp
      rw [List.filter_cons, List.filter_cons]
      cases h1 : p y with
      | true => rw [if_pos rfl, if_pos (hpq y h1)]; exact Nat.succ_lt_succ ih
      | false =>
        rw [if_neg (by decide)]
        split
        · exact Nat.lt_succ_of_lt ih
        · exact ih
theorem rkR_le (V : List Rt) (i : Nat) : rkR V i ≤ V.length := by
  unfold rkR
  exact Nat.le_trans (List.length_filter_le _ _) (by rw [List.length_range]; exact Nat.le_refl _)
open Classical in
theorem rkR_lt {V : List Rt} {i j : Nat} {r : Rt} (hr : V[i]? = some r) (hj : j ∈ kids V i) (hl : loopsB V j r = false) : rkR V j < rkR V i := by
  have hil : i < V.length := (List.getElem?_eq_some_iff.1 hr).1
  have hno : ¬(i = j ∨ Rch V j i) := fun h => by
    have : Loops V j r := ⟨i, h, r, hr, samR_self r⟩
    rw [loopsB_yes this] at hl; cases hl
  refine filter_lt (x := i) (fun y hy => ?_) (List.mem_range.2 hil) (decide_eq_true (.inl rfl)) (decide_eq_false hno)
  rcases of_decide_eq_true hy with h | h
  · exact decide_eq_true (.inr (h ▸ .one hj))
  · exact decide_eq_true (.inr (.step hj h))
open Classical in
theorem rkR_pos {V : List Rt} {i : Nat} (hi : i < V.length) : 0 < rkR V i := by
  unfold rkR
  refine List.length_pos_of_mem (List.mem_filter.2 ⟨List.mem_range.2 hi, decide_eq_true (.inl rfl)⟩)
/-! ### The depth -/
noncomputable def depS (V : List Rt) (r : Rt) (d : Nat → Int) (m : Int) (h : Nh) : Int := match nxI V h with
  | some j => if loopsB V j r then m else max m (1 + d j)
  | none => m
noncomputable def depF (V : List Rt) : Nat → Nat → Int
  | 0, _ => 0
  | n + 1, i => match V[i]? with
    | some r => r.hops.foldl (depS V r (depF V n)) 0
    | none => 0
theorem depS_congr {V : List Rt} {r : Rt} {d d' : Nat → Int} : ∀ {H : List Nh} {m : Int}, (∀ h ∈ H, ∀ j, nxI V h = some j → loopsB V j r = false → d j = d' j) → H.foldl (depS V r d) m = H.foldl (depS V r d') m
  | [], _, _ => rfl
  | h :: H, m, hd => by
    rw [List.foldl_cons, List.foldl_cons]
    have e : depS V r d m h = depS V r d' m h := by
      unfold depS
      split
      · rename_i j hj
        cases hl : loopsB V j r with
        | true => rw [if_pos rfl, if_pos rfl]
        | false => rw [if_neg (by decide), if_neg (by decide), hd h List.mem_cons_self j hj hl]
      · rfl
    rw [e]
    exact depS_congr fun h hh => hd h (List.mem_cons_of_mem _ hh)
theorem depF_stay {V : List Rt} : ∀ n i, rkR V i ≤ n → depF V n i = depF V (n + 1) i
  | 0, i, h => by
    rw [depF, depF]
    split
    · rename_i r hr
      have := rkR_pos (List.getElem?_eq_some_iff.1 hr).1
      omega
    · rfl
  | n + 1, i, h => by
    rw [depF, depF]
    cases hr : V[i]? with
    | none => rfl
    | some r =>
      refine depS_congr fun x hx j hj hl => depF_stay n j ?_
      have := rkR_lt hr (kids_mem.2 ⟨r, x, hr, hx, hj⟩) hl
      omega
noncomputable def dep (V : List Rt) (i : Nat) : Int := depF V V.length i
theorem dep_eq {V : List Rt} {i : Nat} {r : Rt} (hr : V[i]? = some r) : dep V i = r.hops.foldl (depS V r (dep V)) 0 := by
  have e := depF_stay V.length i (rkR_le V i)
  unfold dep
  rw [e, depF, hr]
theorem depS_mono {V : List Rt} {r : Rt} {d : Nat → Int} {m : Int} {h : Nh} : m ≤ depS V r d m h := by
  unfold depS
  split
  · split
    · exact Int.le_refl _
    · exact Int.le_max_left _ _
  · exact Int.le_refl _
theorem depS_fold {V : List Rt} {r : Rt} {d : Nat → Int} : ∀ {H : List Nh} {m : Int}, m ≤ H.foldl (depS V r d) m
  | [], _ => Int.le_refl _
  | _ :: _, _ => Int.le_trans depS_mono depS_fold
theorem depS_at {V : List Rt} {r : Rt} {d : Nat → Int} : ∀ {H : List Nh} {m : Int} {h : Nh} {j : Nat}, h ∈ H → nxI V h = some j → loopsB V j r = false → 1 + d j ≤ H.foldl (depS V r d) m
  | [], _, _, _, h, _, _ => nomatch h
  | x :: H, m, h, j, hm, hj, hl => by
    rw [List.foldl_cons]
    rcases List.mem_cons.1 hm with e | e
    · subst e
      refine Int.le_trans ?_ depS_fold
      unfold depS
      rw [hj]
      dsimp only
      rw [if_neg (by rw [hl]; decide)]
      exact Int.le_max_right _ _
    · exact depS_at e hj hl
theorem depS_le {V : List Rt} {r : Rt} {d : Nat → Int} {c : Int} : ∀ {H : List Nh} {m : Int}, m ≤ c → (∀ h ∈ H, ∀ j, nxI V h = some j → loopsB V j r = false → 1 + d j ≤ c) → H.foldl (depS V r d) m ≤ c
  | [], _, h, _ => h
  | x :: H, m, h, hd => by
    rw [List.foldl_cons]
    refine depS_le ?_ fun h hh => hd h (List.mem_cons_of_mem _ hh)
    unfold depS
    split
    · rename_i j hj
      cases hl : loopsB V j r with
      | true => rw [if_pos rfl]; exact h
      | false => rw [if_neg (by decide)]; exact Int.max_le.2 ⟨h, hd x List.mem_cons_self j hj hl⟩
    · exact h
theorem dep_nonneg (V : List Rt) (i : Nat) : 0 ≤ dep V i := by
  unfold dep
  cases V.length with
  | zero => exact Int.le_refl _
  | succ n =>
    rw [depF]
    split
    · exact depS_fold
    · exact Int.le_refl _
theorem dep_kid {V : List Rt} {i j : Nat} {r : Rt} {h : Nh} (hr : V[i]? = some r) (hh : h ∈ r.hops) (hj : nxI V h = some j) (hl : loopsB V j r = false) : 1 + dep V j ≤ dep V i := by
  rw [dep_eq hr]; exact depS_at hh hj hl
theorem dep_rank {V : List Rt} : ∀ n i, rkR V i ≤ n → dep V i ≤ n
  | 0, i, h => by
    unfold dep
    rw [depF_stay _ _ (rkR_le V i), depF]
    split
    · rename_i r hr
      have := rkR_pos (List.getElem?_eq_some_iff.1 hr).1
      omega
    · exact Int.le_refl _
  | n + 1, i, h => by
    cases hr : V[i]? with
    | none =>
      unfold dep
      rw [depF_stay _ _ (rkR_le V i), depF, hr]
      exact Int.natCast_nonneg _
    | some r =>
      rw [dep_eq hr]
      refine depS_le (Int.natCast_nonneg _) fun x hx j hj hl => ?_
      have h1 := rkR_lt hr (kids_mem.2 ⟨r, x, hr, hx, hj⟩) hl
      have := dep_rank (V := V) n j (by omega)
      omega
theorem dep_len (V : List Rt) (i : Nat) : dep V i ≤ V.length := dep_rank _ i (rkR_le V i)
/-! ### What hops and routes resolve to -/
def orH (h x : Nh) : Nh := ⟨if x.addr = 0 then h.addr else x.addr, x.iface, if x.router = 0 then h.router else x.router, min (x.weight * h.weight) 255, x.via⟩
noncomputable def hopS (V : List Rt) (rt : Rt → Int × List Nh) (r : Rt) (h : Nh) : Int × List Nh :=
  if 0 ≤ h.iface then (0, [⟨h.addr, h.iface, h.router, h.weight, r.p⟩])
  else match nxI V h with
    | none => (11, [])
    | some j => if loopsB V j r then (10, []) else if 16 ≤ dep V j then (24, []) else
      match V[j]? with
      | none => (0, [])
      | some s => if (rt s).1 ≠ 0 then ((rt s).1, []) else if (rt s).2 = [] then (11, []) else (0, (rt s).2.map (orH h))
/-- The error of the first hop. -/
def fstE (hp : Nh → Int × List Nh) (H : List Nh) : Int := match H with
  | [] => 0
  | h :: _ => (hp h).1
noncomputable def routeS (cb : List Nh → List Nh) (hp : Rt → Nh → Int × List Nh) (r : Rt) : Int × List Nh :=
  if r.hops.flatMap (fun h => (hp r h).2) = [] then (fstE (hp r) r.hops, []) else (0, cb (r.hops.flatMap fun h => (hp r h).2))
noncomputable def rouF (cb : List Nh → List Nh) (V : List Rt) : Nat → Rt → Int × List Nh
  | 0, _ => (0, [])
  | n + 1, r => routeS cb (hopS V (rouF cb V n)) r
theorem hopS_congr {V : List Rt} {f g : Rt → Int × List Nh} {r : Rt} {h : Nh} (hc : ∀ j s, nxI V h = some j → loopsB V j r = false → dep V j < 16 → V[j]? = some s → f s = g s) : hopS V f r h = hopS V g r h := by
  unfold hopS
  split
  · rfl
  · split
    · rfl
    · rename_i j hj
      cases hl : loopsB V j r with
      | true => rw [if_pos rfl, if_pos rfl]
      | false =>
        rw [if_neg Bool.false_ne_true, if_neg Bool.false_ne_true]
        by_cases hd : 16 ≤ dep V j
        · rw [if_pos hd, if_pos hd]
        · rw [if_neg hd, if_neg hd]
          cases hs : V[j]? with
          | none => rfl
          | some s => simp only [hc j s hj hl (by omega) hs]
theorem routeS_congr {cb : List Nh → List Nh} {f g : Rt → Nh → Int × List Nh} {r : Rt} (hc : ∀ h ∈ r.hops, f r h = g r h) : routeS cb f r = routeS cb g r := by
  have e : r.hops.flatMap (fun h => (f r h).2) = r.hops.flatMap (fun h => (g r h).2) := by
    unfold List.flatMap
    rw [List.map_congr_left fun h hh => by rw [hc h hh]]
  have e2 : fstE (f r) r.hops = fstE (g r) r.hops := by
    unfold fstE
    cases hh : r.hops with
    | nil => rfl
    | cons h H => exact congrArg Prod.fst (hc h (by rw [hh]; exact List.mem_cons_self))
  unfold routeS
  rw [e, e2]
theorem rouF_stay {cb : List Nh → List Nh} {V : List Rt} : ∀ (n : Nat) (i : Nat) (r : Rt), V[i]? = some r → dep V i < (n : Int) → rouF cb V n r = rouF cb V (n + 1) r
  | 0, i, _, _, h => by have := dep_nonneg V i; exact absurd h (by omega)
  | n + 1, i, r, hr, h => by
    rw [rouF, rouF]
    refine routeS_congr fun x hx => hopS_congr fun j s hj hl _ hs => rouF_stay n j s hs ?_
    have := dep_kid hr hx hj hl
    omega
noncomputable def rou (cb : List Nh → List Nh) (V : List Rt) (r : Rt) : Int × List Nh := rouF cb V 17 r
noncomputable def hopR (cb : List Nh → List Nh) (V : List Rt) (r : Rt) (h : Nh) : Int × List Nh := hopS V (rou cb V) r h
theorem rou_eq (cb : List Nh → List Nh) (V : List Rt) (r : Rt) : rou cb V r = routeS cb (hopR cb V) r := by
  unfold rou
  rw [rouF]
  exact routeS_congr fun h _ => hopS_congr fun j s _ _ hd hs => rouF_stay 16 j s hs hd
theorem hopS_len {V : List Rt} {f : Rt → Int × List Nh} {r : Rt} {h : Nh} (hf : ∀ s, (f s).2.length ≤ 64) : (hopS V f r h).2.length ≤ 64 := by
  unfold hopS
  split
  · simp
  · split
    · simp
    · split
      · simp
      · split
        · simp
        · split
          · simp
          · split
            · simp
            · split
              · simp
              · simp only [List.length_map]; exact hf _
theorem rou_len {cb : List Nh → List Nh} (hc : ∀ L, (cb L).length ≤ 64) (V : List Rt) (r : Rt) : (rou cb V r).2.length ≤ 64 := by
  rw [rou_eq]
  unfold routeS
  split
  · simp
  · exact hc _
theorem hopR_len {cb : List Nh → List Nh} (hc : ∀ L, (cb L).length ≤ 64) (V : List Rt) (r : Rt) (h : Nh) : (hopR cb V r h).2.length ≤ 64 := hopS_len (rou_len hc V)
end Go.Proofs.Ytkdjbddjblahkaa

/-
  More rules of the walk: make of a slice with one cell an element; a slice of one's own made shorter.
  No conditions beyond those that each rule states.
-/
namespace Go.Proofs.Ytkdjbddjblahkaa
open Go.RowKit

section
variable {P : Program} {N : Fr} {ops : Array Oper} {K : Env → World → Prop} {m : Env} {w : World} {rest : List Oper} {ty : TypeId} {pos : String} {after : Array Edge} {g : Option (Nat × Bool)}
theorem flatten_rep (z : Value) : ∀ n : Nat, (List.replicate n [z]).flatten = List.replicate n z
  | 0 => rfl
  | n + 1 => by rw [List.replicate_succ, List.flatten_cons, flatten_rep z n]; rfl
theorem Ops_make1 {dst : Nat} {t e : TypeId} {x y : Operand} {k k' : IntKind} {n b0 : Nat} {z : Value} [ht : TSlice P t e] [hs : TSize P e 1 b0] [hz : TZero P e z [z]]
    (hon : On N ops m ⟨some dst, .makeSlice t x y, ty, pos, after, g⟩) (hd : Nat.ble (dst + 1) N.n = true) (hx : ev m x = some (.int k (n : Int))) (hy : ev m y = some (.int k' (n : Int))) (hb : n * b0 ≤ 140737488355328) (h63 : n ≤ maxLen)
    (h : ∀ w1 b, Ext w w1 → w.heap.size ≤ b → Own w1 w.heap.size e 1 (.slice (some ⟨b, 0, none⟩) n n) (List.replicate n [z]) → Ops P N ops false K rest ((dst, .slice (some ⟨b, 0, none⟩) n n) :: m) w1) :
    Ops P N ops false K (⟨some dst, .makeSlice t x y, ty, pos, after, g⟩ :: rest) m w := by
  refine ⟨fun a w' ha hw => ?_⟩
  unfold wpList
  rw [if_pos (hon.out a ha)]
  refine .inl ?_
  obtain ⟨inf, hi, hsz⟩ := Option.map_eq_some_iff.1 hs.h
  simp only [Prod.mk.injEq] at hsz
  obtain ⟨inf', hi', hz'⟩ := Option.bind_eq_some_iff.1 hz.h
  obtain rfl := Option.some.inj (hi.symm.trans hi')
  have h63' : (n : Int) ≤ 9223372036854775807 := by
    have h := h63
    simp [maxLen] at h
    omega
  have hb' : (inf.bytes : Int) * (n : Int) ≤ 281474976710656 := by
    rw [hsz.2, ← Int.natCast_mul, Nat.mul_comm]; omega
  have hmc : madeCells z.cells (n * 1) = (List.replicate n z).toArray := by
    rw [hz.cells, Nat.mul_one]
    apply Array.ext_getElem?
    intro j
    by_cases hj : j < n
    · simp [madeCells, hj, Nat.mod_one]
    · simp [madeCells, hj]
  have hr : (execOp a.eval ⟨some dst, .makeSlice t x y, ty, pos, after, g⟩).run P w' = .ok (.value (.slice (some ⟨w'.heap.size, 0, none⟩) n n)) (w'.alloc (.cells (List.replicate n z).toArray e)) := by
    have := run_make (P := P) w' t e inf z ht.h hi hz' k k' n n (by omega) (Int.le_refl _) hb' h63'
    simp only [Int.toNat_natCast, hsz.1] at this
    rw [hmc] at this
    simp [execOp, ha.ev hx, ha.ev hy, this]
  unfold Oper.wp
  rw [hr]
  have hn := New.of hw e (List.replicate n z)
  refine (h _ _ hn.ext hn.ge ⟨⟨?_, .inr ⟨w'.heap.size, n, _, by rw [List.length_replicate], hn.ge, hn.blk, ?_, h63, ?_, ?_⟩⟩, fun u hu => ?_⟩).out _ _ (ha.put (Nat.le_of_ble_eq_true hd) _) (Ext.refl _)
  · rw [flatten_rep, List.length_replicate, List.length_replicate, Nat.mul_one]
  · rw [List.length_replicate]; exact Nat.le_refl _
  · simp
  · rw [flatten_rep]; simp
  · rw [(List.mem_replicate.1 hu).2]; rfl
end
/-- A slice of one's own, cut behind its first i elements. -/
theorem Own.cut {w : World} {base n0 g n c : Nat} {e : TypeId} {L : List (List Value)} (h : Own w base e n0 (.slice (some ⟨g, 0, none⟩) n c) L) {i : Nat} (hi : i ≤ L.length) : Own w base e n0 (.slice (some ⟨g, 0, none⟩) i c) (L.take i) := by
  obtain ⟨⟨h1, h2⟩, h3⟩ := h
  rcases h2 with ⟨h2, _⟩ | ⟨g', cap, cur, h2, h4, h5, h6, h7, h8, h9⟩
  · cases h2
  cases h2
  have hlen : ∀ x ∈ L.take i, x.length = n0 := fun x hx => h3 x (List.mem_of_mem_take hx)
  have hfl : ∀ M : List (List Value), (∀ x ∈ M, x.length = n0) → M.flatten.length = M.length * n0 := fun M hM => by
    induction M with
    | nil => simp
    | cons a r ih => rw [List.flatten_cons, List.length_append, ih (fun u hu => hM u (List.mem_cons_of_mem _ hu)), hM a (List.mem_cons_self ..), List.length_cons, Nat.succ_mul, Nat.add_comm]
  have hti : (L.take i).length = i := by rw [List.length_take]; omega
  have ht : (L.take i).flatten = L.flatten.take (i * n0) := by
    have h10 : L.flatten = (L.take i).flatten ++ (L.drop i).flatten := by rw [← List.flatten_append, List.take_append_drop]
    rw [h10, List.take_left' (by rw [hfl _ hlen, hti])]
  refine ⟨⟨by rw [hfl _ hlen, hti], .inr ⟨g, c, cur, by rw [hti], h4, h5, by rw [hti]; omega, h7, h8, ?_⟩⟩, hlen⟩
  rw [ht, hti, ← h9, List.take_take, Nat.min_eq_left (Nat.mul_le_mul_right _ hi)]
end Go.Proofs.Ytkdjbddjblahkaa

/-
  Routes (layer 49): the solver in memory; the next route of a hop; the walk through all that a route leads to.
  Conditions: addresses and routers are numbers of 32 bits; lists are not too long.
-/
namespace Go.Proofs.Ytkdjbddjblahkaa
open Go.RowKit

/-- Where a solver lies. -/
structure Sv where
  ao : Option Addr
  c : Nat
  tr : Nat
  N : Nat → Nat → Option Nat
  base : Nat
  b : Nat
  m1 : Nat
  m2 : Nat
  m3 : Nat
def Sv.cells (s : Sv) (n : Nat) : List Value := [.slice s.ao n s.c, .pointer (some ⟨s.tr, 0, none⟩), .map (some s.m1), .map (some s.m2), .map (some s.m3)]
/-- The list and the trie, which stay as they are. -/
structure Sv0 (V : List Rt) (s : Sv) (w0 : World) : Prop where
  rts : Rts w0 s.ao V
  tri : TrieM w0 s.base s.tr s.N (ofS (entsI (fun r => !isV r) V V.length)).1 (ofS (entsI (fun r => !isV r) V V.length)).2
  dist : Dist V
  val : ∀ r ∈ V, r.p.valid = true
  len : V.length ≤ 2000
  hops : ∀ r ∈ V, r.hops.length ≤ 64 ∧ ∀ h ∈ r.hops, ¬badH h
structure SvR (V : List Rt) (s : Sv) (w0 w : World) : Prop where
  s0 : Sv0 V s w0
  ext : Ext w0 w
  blk : Blk w s.b 67 (s.cells V.length)
  gb : w0.heap.size ≤ s.b
theorem SvR.grown {V : List Rt} {s : Sv} {w0 w w1 : World} (h : SvR V s w0 w) (he : Ext w w1) : SvR V s w0 w1 := ⟨h.s0, h.ext.trans he, h.blk.ext he, h.gb⟩
theorem SvR.row {V : List Rt} {s : Sv} {w0 w w1 : World} {g : Nat} (h : SvR V s w0 w) (hg : w.grownBy w1 (some g)) (h0 : w0.heap.size ≤ g) (hb : g ≠ s.b) : SvR V s w0 w1 :=
  ⟨h.s0, grow_below h.ext hg (fun k hk => by cases hk; exact h0), grow_blk hg h.blk (fun e => hb (by cases e; rfl)), h.gb⟩
theorem SvR.mod {V : List Rt} {s : Sv} {w0 w w1 : World} {S : Nat → Prop} (h : SvR V s w0 w) (hm : Mod S w w1) (h0 : ∀ c, S c → w0.heap.size ≤ c ∧ c ≠ s.b) : SvR V s w0 w1 :=
  ⟨h.s0, hm.ext_of h.ext (fun c hc => (h0 c hc).1), hm.blk h.blk (fun hb => (h0 _ hb).2 rfl), h.gb⟩
theorem SvR.rts {V : List Rt} {s : Sv} {w0 w : World} (h : SvR V s w0 w) : Rts w s.ao V := h.s0.rts.ext h.ext
theorem next_v {V : List Rt} {s : Sv} {w0 : World} (h : Nh) (w : World) (hs : SvR V s w0 w) (hh : h.ok) : Calls Try.prog 64 #[.pointer (some ⟨s.b, 0, none⟩), h.val] w (Ret (.int .i64 (numI (nxI V h))) w) := by
  have kb := hs.blk
  unfold Sv.cells at kb
  refine V_enter (vs := [_, _]) Try.func64 rfl Try.ntmps64 (Nat.le_of_ble_eq_true rfl) ?_
  repeat (first | refine Vx ?_ | (apply Ops_q; (case hon => exact Va); (case hd => rfl); (case hq => exact YlA)) | refine Vr ?_ | refine Vt ?_ | refine Vf ?_ | refine Vm ?_ | refine Ve ?_ | refine Vo ?_ | refine Vz ?_ | refine Vn ?_)
  (refine Ops_box (by exact Va) rfl rfl rfl ?_; intro w1 b3 n_b3; have k_b3 := n_b3.blk)
  replace kb := kb.ext n_b3.ext
  have x1 := n_b3.ext
  clear n_b3
  repeat (first | refine Vx ?_ | (apply Ops_q; (case hon => exact Va); (case hd => rfl); (case hq => exact YlA)) | refine Vr ?_ | refine Vt ?_ | refine Vf ?_ | refine Vm ?_ | refine Ve ?_ | refine Vo ?_ | refine Vz ?_ | refine Vn ?_)
  by_cases t : h.iface = -1
  · have d : (!decide (h.iface = -1)) = false := by rw [decide_eq_true t]; rfl
    refine V_no rfl d ?_
    clear d
    repeat (first | refine Vx ?_ | (apply Ops_q; (case hon => exact Va); (case hd => rfl); (case hq => exact YlA)) | refine Vr ?_ | refine Vt ?_ | refine Vf ?_ | refine Vm ?_ | refine Ve ?_ | refine Vo ?_ | refine Vz ?_ | refine Vn ?_)
    (apply Ops_q; (case hon => (exact Va)); (case hd => rfl); (case hq => exact Yl_call rfl (fun w_ e_ => longest_v h.addr w_ ((hs.s0.tri.ext hs.ext).ext (x1.trans e_)) hh.1)))
    repeat (first | refine Vx ?_ | (apply Ops_q; (case hon => exact Va); (case hd => rfl); (case hq => exact YlA)) | refine Vr ?_ | refine Vt ?_ | refine Vf ?_ | refine Vm ?_ | refine Ve ?_ | refine Vo ?_ | refine Vz ?_ | refine Vn ?_)
    refine ret1 (by first | exact .inl rfl | exact .inr rfl) rfl rfl ?_
    exact Ret_mk (by unfold nxI; rw [if_pos t, lookV_lg hs.s0.dist hs.s0.val]) x1
  · have d : (!decide (h.iface = -1)) = true := by rw [decide_eq_false t]; rfl
    refine V_yes rfl d ?_
    repeat (first | refine Vx ?_ | (apply Ops_q; (case hon => exact Va); (case hd => rfl); (case hq => exact YlA)) | refine Vr ?_ | refine Vt ?_ | refine Vf ?_ | refine Vm ?_ | refine Ve ?_ | refine Vo ?_ | refine Vz ?_ | refine Vn ?_)
    refine ret1 (by first | exact .inl rfl | exact .inr rfl) rfl rfl ?_
    exact Ret_mk (by unfold nxI; rw [if_neg t]; rfl) x1
/-! ### All that a route leads to -/
def bl (b : Bool) : List Value := [.bool b]
def Mkd (B : List Bool) (j : Nat) : Prop := B[j]? = some true
/-- What the walk from i has done to the marks. -/
structure Dfs (V : List Rt) (i : Nat) (H : List Nh) (B B' : List Bool) : Prop where
  len : B'.length = B.length
  mono : ∀ j, Mkd B j → Mkd B' j
  new : ∀ j, Mkd B' j → ¬Mkd B j → Rch V i j ∧ ∀ y ∈ kids V j, Mkd B' y
  own : ∀ h ∈ H, ∀ y, nxI V h = some y → Mkd B' y
theorem Dfs.refl (V : List Rt) (i : Nat) (B : List Bool) : Dfs V i [] B B := ⟨rfl, fun _ h => h, fun _ h h2 => absurd h h2, fun _ h => nomatch h⟩
/-- A hop that leads nowhere new. -/
theorem Dfs.stay {V : List Rt} {i : Nat} {H : List Nh} {B B' : List Bool} {h : Nh} (d : Dfs V i H B B') (hy : ∀ y, nxI V h = some y → Mkd B' y) : Dfs V i (H ++ [h]) B B' :=
  ⟨d.len, d.mono, d.new, fun x hx y e => by
    rcases List.mem_append.1 hx with hx | hx
    · exact d.own x hx y e
    · simp at hx; subst hx; exact hy y e⟩
theorem mkd_set {B : List Bool} {y j : Nat} (hy : y < B.length) : Mkd (B.set y true) j ↔ j = y ∨ Mkd B j := by
  unfold Mkd
  rw [List.getElem?_set]
  by_cases e : y = j
  · subst e; rw [if_pos rfl, if_pos hy]; simp
  · rw [if_neg e]
    constructor
    · intro h; exact .inr h
    · rintro (h | h)
      · exact absurd h.symm e
      · exact h
/-- A hop that leads to a new one, and the walk from there. -/
theorem Dfs.deep {V : List Rt} {i y : Nat} {r s : Rt} {H : List Nh} {B B1 B2 : List Bool} {h : Nh} (d : Dfs V i H B B1) (hr : V[i]? = some r) (hh : h ∈ r.hops) (hy : nxI V h = some y) (hs : V[y]? = some s) (hyl : y < B1.length) (d2 : Dfs V y s.hops (B1.set y true) B2) : Dfs V i (H ++ [h]) B B2 := by
  have m12 : ∀ j, Mkd B1 j → Mkd B2 j := fun j hj => d2.mono j ((mkd_set hyl).2 (.inr hj))
  have hym : Mkd B2 y := d2.mono y ((mkd_set hyl).2 (.inl rfl))
  have hk : y ∈ kids V i := kids_mem.2 ⟨r, h, hr, hh, hy⟩
  refine ⟨by rw [d2.len, List.length_set, d.len], fun j hj => m12 j (d.mono j hj), fun j hj hn => ?_, fun x hx z e => ?_⟩
  · by_cases h1 : Mkd B1 j
    · obtain ⟨q1, q2⟩ := d.new j h1 hn
      exact ⟨q1, fun z hz => m12 z (q2 z hz)⟩
    · by_cases h2 : j = y
      · subst h2
        refine ⟨.one hk, fun z hz => ?_⟩
        obtain ⟨s', x, e1, e2, e3⟩ := kids_mem.1 hz
        rw [hs] at e1; cases e1
        exact d2.own x e2 z e3
      · obtain ⟨q1, q2⟩ := d2.new j hj (fun h3 => ((mkd_set hyl).1 h3).elim h2 h1)
        exact ⟨.step hk q1, q2⟩
  · rcases List.mem_append.1 hx with hx | hx
    · exact m12 z (d.own x hx z e)
    · simp at hx; subst hx
      rw [hy] at e; cases e; exact hym
/-- From nothing marked: what is marked is what i leads to. -/
theorem Dfs.all {V : List Rt} {i : Nat} {r : Rt} {B B' : List Bool} (d : Dfs V i r.hops B B') (hr : V[i]? = some r) (h0 : ∀ j, ¬Mkd B j) (j : Nat) : Mkd B' j ↔ Rch V i j := by
  constructor
  · intro h; exact (d.new j h (h0 j)).1
  · intro h
    refine h.closed (S := Mkd B') (fun x hx => ?_) (fun x hx y hy => (d.new x hx (h0 x)).2 y hy)
    obtain ⟨r', g, e1, e2, e3⟩ := kids_mem.1 hx
    rw [hr] at e1; cases e1
    exact d.own g e2 x e3
def unm (B : List Bool) : Nat := (B.filter fun b => !b).length
theorem unm_set : ∀ {B : List Bool} {y : Nat}, B[y]? = some false → unm (B.set y true) + 1 = unm B
  | [], _, h => by simp at h
  | b :: B, 0, h => by
    simp at h; subst h
    simp [unm]
  | b :: B, y + 1, h => by
    have ih := unm_set (B := B) (y := y) (by simpa using h)
    unfold unm at *
    rw [List.set_cons_succ, List.filter_cons, List.filter_cons]
    split
    · simp only [List.length_cons]; omega
    · exact ih
theorem unm_mono : ∀ {B B' : List Bool}, B'.length = B.length → (∀ j, Mkd B j → Mkd B' j) → unm B' ≤ unm B
  | [], [], _, _ => Nat.le_refl _
  | [], _ :: _, h, _ => by simp at h
  | _ :: _, [], h, _ => by simp at h
  | b :: B, b' :: B', h, hm => by
    have ih := unm_mono (B := B) (B' := B') (by simpa using h) (fun j hj => by have := hm (j + 1) (by unfold Mkd at *; simpa using hj); unfold Mkd at *; simpa using this)
    have h0 : b = true → b' = true := fun e => by have := hm 0 (by unfold Mkd; simp [e]); unfold Mkd at this; simpa using this
    unfold unm at *
    rw [List.filter_cons, List.filter_cons]
    cases b <;> cases b' <;> simp_all <;> omega
def DfsR (V : List Rt) (i : Nat) (H : List Nh) (B : List Bool) (base g : Nat) (r : Value) (w' : World) : Prop := r = .tuple #[] ∧ ∃ B', Dfs V i H B B' ∧ Own w' base 4 1 (.slice (some ⟨g, 0, none⟩) B'.length B'.length) (B'.map bl)
end Go.Proofs.Ytkdjbddjblahkaa

/-
  Routes (layer 49): the walk through all that a route leads to.
  Conditions: addresses and routers are numbers of 32 bits; lists are not too long.
-/
namespace Go.Proofs.Ytkdjbddjblahkaa
open Go.RowKit

theorem Own.cellB {w : World} {base g n : Nat} {B : List Bool} (h : Own w base 4 1 (.slice (some ⟨g, 0, none⟩) n n) (B.map bl)) {y : Nat} {b : Bool} (hy : B[y]? = some b) : w.cell? ((⟨g, 0, none⟩ : Addr).add (y * 1)) = some (.bool b) := by
  obtain ⟨ao, c, e, ha⟩ := h.slice
  cases e
  obtain ⟨ad, e2, hc⟩ := ha y (bl b) (by rw [List.getElem?_map, hy]; rfl)
  cases e2
  have := hc 0 (.bool b) rfl
  simpa [Addr.add] using this
theorem addr_mul (g y : Nat) : (⟨g, 0, none⟩ : Addr).add (y * 1) = ⟨g, y * 1, none⟩ := by
  by_cases h : y = 0
  · subst h; rfl
  · simp [Addr.add, h]
theorem bl_set (B : List Bool) (y : Nat) : (B.map bl).set y [.bool true] = (B.set y true).map bl := by rw [List.map_set]; rfl
set_option maxHeartbeats 2000000 in
theorem visit_v {V : List Rt} {s : Sv} {w0 : World} {b2 b7 b8 g base : Nat} (f : Nat) : ∀ (i : Nat) (r : Rt) (B : List Bool) (w : World), unm B = f → V[i]? = some r → B.length = V.length → SvR V s w0 w →
    Blk w b2 61 [.pointer (some ⟨s.b, 0, none⟩)] → Blk w b7 124 [.slice (some ⟨g, 0, none⟩) V.length V.length] → Blk w b8 138 [.func (.func 99) #[] #[.pointer (some ⟨b2, 0, none⟩), .pointer (some ⟨b7, 0, none⟩), .pointer (some ⟨b8, 0, none⟩)]] →
    w0.heap.size ≤ g → g ≠ s.b → g ≠ b2 → g ≠ b7 → g ≠ b8 → Own w base 4 1 (.slice (some ⟨g, 0, none⟩) B.length B.length) (B.map bl) →
    Calls Try.prog 99 #[.int .i64 i, .pointer (some ⟨b2, 0, none⟩), .pointer (some ⟨b7, 0, none⟩), .pointer (some ⟨b8, 0, none⟩)] w (Does (fun c => c = g) (DfsR V i r.hops B base g) w) := by
  induction f using Nat.strongRecOn with
  | ind f ih =>
  intro i r B w hf hr hB hs k2 k7 k8 g0 gs g2 g7 g8 o
  have hS : ∀ c, c = g → w0.heap.size ≤ c ∧ c ≠ s.b := fun c e => by subst e; exact ⟨g0, gs⟩
  have hrm : r ∈ V := List.mem_of_getElem? hr
  have hil : i < V.length := (List.getElem?_eq_some_iff.1 hr).1
  have hV := hs.s0.len
  obtain ⟨hn64, hbad⟩ := hs.s0.hops r hrm
  have rm := hs.rts.mem r hrm
  obtain ⟨ad, ea, hc⟩ := hs.rts.at hr
  have kb := hs.blk
  unfold Sv.cells at kb
  rw [ea] at kb
  have q6 := hc 6 _ rfl
  clear hc
  refine V_enter (vs := [_, _, _, _]) Try.func99 rfl Try.ntmps99 (Nat.le_of_ble_eq_true rfl) ?_
  repeat (first | refine Vx ?_ | (apply Ops_q; (case hon => exact Va); (case hd => rfl); (case hq => exact YlA)) | refine Vr ?_ | refine Vt ?_ | refine Vf ?_ | refine Vm ?_ | refine Ve ?_ | refine Vo ?_ | refine Vz ?_ | refine Vn ?_)
  (apply Ops_q; (case hon => (exact Va)); (case hd => rfl); (case hq => exact Yl_indexS (j := i) rfl rfl (by omega)))
  repeat (first | refine Vx ?_ | (apply Ops_q; (case hon => exact Va); (case hd => rfl); (case hq => exact YlA)) | refine Vr ?_ | refine Vt ?_ | refine Vf ?_ | refine Vm ?_ | refine Ve ?_ | refine Vo ?_ | refine Vz ?_ | refine Vn ?_)
  clear q6 kb
  refine V_loop (fun z : Nat × List Bool => [(17, .int .i64 z.1), (16, .int .i64 r.hops.length), (15, .slice r.ao r.hops.length r.c), (1, .pointer (some ⟨b2, 0, none⟩)), (2, .pointer (some ⟨b7, 0, none⟩)), (3, .pointer (some ⟨b8, 0, none⟩))])
    (fun z w' => Mod (fun c => c = g) w w' ∧ z.1 ≤ r.hops.length ∧ Dfs V i (r.hops.take z.1) B z.2 ∧ Own w' base 4 1 (.slice (some ⟨g, 0, none⟩) z.2.length z.2.length) (z.2.map bl)) (fun z => r.hops.length - z.1) (0, B) (by repeat (first | exact trivial | refine ⟨rfl, ?_⟩)) ⟨.of_ext (Ext.refl _), Nat.zero_le _, Dfs.refl V i B, o⟩ ?_
  rintro ⟨k, B1⟩ w1 ⟨m1, hk, d1, o1⟩
  dsimp only at hk d1 o1 ⊢
  repeat (first | refine Vx ?_ | (apply Ops_q; (case hon => exact Va); (case hd => rfl); (case hq => exact YlA)) | refine Vr ?_ | refine Vt ?_ | refine Vf ?_ | refine Vm ?_ | refine Ve ?_ | refine Vo ?_ | refine Vz ?_ | refine Vn ?_)
  refine V_cond rfl (fun hg => ?_) (fun hg => ?_)
  · have hkl : k < r.hops.length := by have := of_decide_eq_true hg; omega
    clear hg
    obtain ⟨h, hh⟩ : ∃ x, r.hops[k]? = some x := ⟨_, List.getElem?_eq_getElem hkl⟩
    have hhm := List.mem_of_getElem? hh
    have hs1 := hs.mod m1 hS
    have k21 := m1.blk k2 (fun e => g2 e.symm)
    have k71 := m1.blk k7 (fun e => g7 e.symm)
    have k81 := m1.blk k8 (fun e => g8 e.symm)
    obtain ⟨ah, eh, hch⟩ := (hs1.rts.mem r hrm).hops.at hh
    have htk : r.hops.take (k + 1) = r.hops.take k ++ [h] := by rw [List.take_add_one, hh]; rfl
    have hl1 : B1.length = V.length := d1.len.trans hB
    rw [eh]
    repeat (first | refine Vx ?_ | (apply Ops_q; (case hon => exact Va); (case hd => rfl); (case hq => exact YlA)) | refine Vr ?_ | refine Vt ?_ | refine Vf ?_ | refine Vm ?_ | refine Ve ?_ | refine Vo ?_ | refine Vz ?_ | refine Vn ?_)
    (apply Ops_q; (case hon => (exact Va)); (case hd => rfl); (case hq => exact Yl_indexS (j := k) rfl rfl (by omega)))
    repeat (first | refine Vx ?_ | (apply Ops_q; (case hon => exact Va); (case hd => rfl); (case hq => exact YlA)) | refine Vr ?_ | refine Vt ?_ | refine Vf ?_ | refine Vm ?_ | refine Ve ?_ | refine Vo ?_ | refine Vz ?_ | refine Vn ?_)
    (refine Ops_alloc (by exact Va) rfl ?_; intro w2 b6 n_b6; have k_b6 := n_b6.blk)
    repeat (first | refine Vx ?_ | (apply Ops_q; (case hon => exact Va); (case hd => rfl); (case hq => exact YlA)) | refine Vr ?_ | refine Vt ?_ | refine Vf ?_ | refine Vm ?_ | refine Ve ?_ | refine Vo ?_ | refine Vz ?_ | refine Vn ?_)
    (refine Ops_store (by exact Va) rfl rfl (by assumption) (by first | rfl | exact OneAll.h) ?_; intro w3 u_w3; have k_b6 := u_w3.blk)
    have y3 := u_w3.below n_b6.ext n_b6.ge
    clear u_w3 n_b6 hch
    have hs3 := hs1.grown y3
    replace k21 := k21.ext y3
    replace k71 := k71.ext y3
    replace k81 := k81.ext y3
    have m3 := m1.ext y3
    have o3 := o1.ext y3
    clear hs1 o1
    repeat (first | refine Vx ?_ | (apply Ops_q; (case hon => exact Va); (case hd => rfl); (case hq => exact YlA)) | refine Vr ?_ | refine Vt ?_ | refine Vf ?_ | refine Vm ?_ | refine Ve ?_ | refine Vo ?_ | refine Vz ?_ | refine Vn ?_)
    (apply Ops_q; (case hon => (exact Va)); (case hd => rfl); (case hq => exact Yl_call rfl (fun w_ e_ => next_v h w_ (hs3.grown e_) (rm.ok h hhm))))
    repeat (first | refine Vx ?_ | (apply Ops_q; (case hon => exact Va); (case hd => rfl); (case hq => exact YlA)) | refine Vr ?_ | refine Vt ?_ | refine Vf ?_ | refine Vm ?_ | refine Ve ?_ | refine Vo ?_ | refine Vz ?_ | refine Vn ?_)
    cases hn : nxI V h with
    | none =>
      repeat (first | refine Vx ?_ | (apply Ops_q; (case hon => exact Va); (case hd => rfl); (case hq => exact YlA)) | refine Vr ?_ | refine Vt ?_ | refine Vf ?_ | refine Vm ?_ | refine Ve ?_ | refine Vo ?_ | refine Vz ?_ | refine Vn ?_)
      exact ⟨(k + 1, B1), by rw [← eh]; exact (by repeat (first | exact trivial | refine ⟨rfl, ?_⟩)), ⟨m3, hkl, by dsimp only; rw [htk]; exact d1.stay (fun y hy => by rw [hn] at hy; cases hy), o3⟩, by simp only; omega⟩
    | some y =>
      have hyl := nxI_lt hn
      obtain ⟨s', hs'⟩ : ∃ x, V[y]? = some x := ⟨_, List.getElem?_eq_getElem hyl⟩
      obtain ⟨by', hby⟩ : ∃ x, B1[y]? = some x := ⟨_, List.getElem?_eq_getElem (by omega)⟩
      have dn : decide ((0 : Int) ≤ (y : Int)) = true := decide_eq_true (by omega)
      unfold numI
      refine Ops_know rfl rfl dn ?_
      have qy := (hl1 ▸ o3).cellB hby
      repeat (first | refine Vx ?_ | (apply Ops_q; (case hon => exact Va); (case hd => rfl); (case hq => exact YlA)) | refine Vr ?_ | refine Vt ?_ | refine Vf ?_ | refine Vm ?_ | refine Ve ?_ | refine Vo ?_ | refine Vz ?_ | refine Vn ?_)
      (apply Ops_q; (case hon => (exact Va)); (case hd => rfl); (case hq => exact Yl_indexS (j := y) rfl rfl (by omega)))
      repeat (first | refine Vx ?_ | (apply Ops_q; (case hon => exact Va); (case hd => rfl); (case hq => exact YlA)) | refine Vr ?_ | refine Vt ?_ | refine Vf ?_ | refine Vm ?_ | refine Ve ?_ | refine Vo ?_ | refine Vz ?_ | refine Vn ?_)
      cases by' with
      | true =>
        repeat (first | refine Vx ?_ | (apply Ops_q; (case hon => exact Va); (case hd => rfl); (case hq => exact YlA)) | refine Vr ?_ | refine Vt ?_ | refine Vf ?_ | refine Vm ?_ | refine Ve ?_ | refine Vo ?_ | refine Vz ?_ | refine Vn ?_)
        exact ⟨(k + 1, B1), by rw [← eh]; exact (by repeat (first | exact trivial | refine ⟨rfl, ?_⟩)), ⟨m3, hkl, by dsimp only; rw [htk]; exact d1.stay (fun z hz => by rw [hn] at hz; cases hz; exact hby), o3⟩, by simp only; omega⟩
      | false =>
        repeat (first | refine Vx ?_ | (apply Ops_q; (case hon => exact Va); (case hd => rfl); (case hq => exact YlA)) | refine Vr ?_ | refine Vt ?_ | refine Vf ?_ | refine Vm ?_ | refine Ve ?_ | refine Vo ?_ | refine Vz ?_ | refine Vn ?_)
        (apply Ops_q; (case hon => (exact Va)); (case hd => rfl); (case hq => exact Yl_indexS (j := y) rfl rfl (by omega)))
        repeat (first | refine Vx ?_ | (apply Ops_q; (case hon => exact Va); (case hd => rfl); (case hq => exact YlA)) | refine Vr ?_ | refine Vt ?_ | refine Vf ?_ | refine Vm ?_ | refine Ve ?_ | refine Vo ?_ | refine Vz ?_ | refine Vn ?_)
        refine Ops_storeElem (i := y) (L := B1.map bl) (by exact Va) rfl rfl (addr_mul g y) (by rw [List.length_map]; exact o3) (by rw [List.length_map]; omega) rfl ?_
        intro w4 o4 u4
        rw [bl_set, List.length_map] at o4
        have m4 := m3.grow u4 (fun c e => by cases e; exact .inl rfl)
        have hs4 := hs.mod m4 hS
        have k24 := m4.blk k2 (fun e => g2 e.symm)
        have k74 := m4.blk k7 (fun e => g7 e.symm)
        have k84 := m4.blk k8 (fun e => g8 e.symm)
        have hle := unm_mono d1.len d1.mono
        have hlt := unm_set hby
        have hls : (B1.set y true).length = B1.length := List.length_set
        clear k21 k71 k81 o3 qy hs3
        repeat (first | refine Vx ?_ | (apply Ops_q; (case hon => exact Va); (case hd => rfl); (case hq => exact YlA)) | refine Vr ?_ | refine Vt ?_ | refine Vf ?_ | refine Vm ?_ | refine Ve ?_ | refine Vo ?_ | refine Vz ?_ | refine Vn ?_)
        refine Ops_callvM (S := fun c => c = g) (R := fun _ => DfsR V y s'.hops (B1.set y true) base g) (by exact Va) rfl rfl rfl (fun w_ e_ => ih (unm (B1.set y true)) (by omega) y s' (B1.set y true) w_ rfl hs' (hls.trans hl1) (hs4.grown e_) (k24.ext e_) (k74.ext e_) (k84.ext e_) g0 gs g2 g7 g8 (by rw [hls]; exact o4.ext e_)) ?_
        rintro v w5 w6 e6 m5 ⟨rfl, B2, d2, o5⟩
        have m6 : Mod (fun c => c = g) w w5 := (m4.ext e6).trans m5
        repeat (first | refine Vx ?_ | (apply Ops_q; (case hon => exact Va); (case hd => rfl); (case hq => exact YlA)) | refine Vr ?_ | refine Vt ?_ | refine Vf ?_ | refine Vm ?_ | refine Ve ?_ | refine Vo ?_ | refine Vz ?_ | refine Vn ?_)
        exact ⟨(k + 1, B2), by rw [← eh]; exact (by repeat (first | exact trivial | refine ⟨rfl, ?_⟩)), ⟨m6, hkl, by dsimp only; rw [htk]; exact d1.deep hr hhm hn hs' (by omega) d2, o5⟩, by simp only; omega⟩
  · obtain rfl : k = r.hops.length := by have := of_decide_eq_false hg; omega
    rw [List.take_length] at d1
    repeat (first | refine Vx ?_ | (apply Ops_q; (case hon => exact Va); (case hd => rfl); (case hq => exact YlA)) | refine Vr ?_ | refine Vt ?_ | refine Vf ?_ | refine Vm ?_ | refine Ve ?_ | refine Vo ?_ | refine Vz ?_ | refine Vn ?_)
    refine ret0 (by first | exact .inl rfl | exact .inr rfl) rfl ?_
    exact Does_mk (fun w' he => ⟨rfl, B1, d1, o1.ext he⟩) m1
end Go.Proofs.Ytkdjbddjblahkaa

/-
  Routes (layer 49): the solver's maps; leads, loops.
  Conditions: addresses and routers are numbers of 32 bits; lists are not too long.
-/
namespace Go.Proofs.Ytkdjbddjblahkaa
open Go.RowKit

def SvB (s : Sv) (k : Nat) : Prop := k = s.m1 ∨ k = s.m2 ∨ k = s.m3
open Classical in
noncomputable def rchB (V : List Rt) (i j : Nat) : Bool := decide (Rch V i j)
open Classical in
theorem rchB_iff {V : List Rt} {i j : Nat} : rchB V i j = true ↔ Rch V i j := by unfold rchB; exact decide_eq_true_iff
noncomputable def ways (V : List Rt) (i : Nat) : List Bool := (List.range V.length).map (rchB V i)
/-- A slice that says which routes i leads to; X: blocks that it is not in. -/
def WayV (V : List Rt) (X : Nat → Prop) (w : World) (i : Nat) (v : Value) : Prop := ∃ a c, v = .slice (some a) V.length c ∧ Arr w 1 (some a) ((ways V i).map bl) ∧ ¬X a.block ∧ a.block < w.heap.size
def ResV (V : List Rt) (cb : List Nh → List Nh) (X : Nat → Prop) (w : World) (r : Rt) (v : Value) : Prop :=
  ∃ ao c, v = .agg #[.slice ao (rou cb V r).2.length c, .int .i64 (rou cb V r).1] ∧ Nhs w ao (rou cb V r).2 ∧ ∀ a, ao = some a → ¬X a.block ∧ a.block < w.heap.size
def WaysF (V : List Rt) (X : Nat → Prop) (w : World) (F : Int → Option Value) : Prop := ∀ (k : Int) v, F k = some v → ∃ i : Nat, k = i ∧ WayV V X w i v
def DepsF (V : List Rt) (F : Int → Option Value) : Prop := ∀ (k : Int) v, F k = some v → ∃ i : Nat, k = i ∧ v = .int .i64 (dep V i)
def RessF (V : List Rt) (cb : List Nh → List Nh) (X : Nat → Prop) (w : World) (F : Int → Option Value) : Prop := ∀ (k : Int) v, F k = some v → ∃ (i : Nat) (r : Rt), k = i ∧ V[i]? = some r ∧ dep V i < 16 ∧ ResV V cb X w r v
structure SvM (V : List Rt) (cb : List Nh → List Nh) (s : Sv) (X : Nat → Prop) (w0 w : World) : Prop where
  r : SvR V s w0 w
  n12 : s.m1 ≠ s.m2
  n13 : s.m1 ≠ s.m3
  n23 : s.m2 ≠ s.m3
  gm : ∀ k, SvB s k → w0.heap.size ≤ k ∧ k ≠ s.b
  nX : ∀ k, X k → w0.heap.size ≤ k ∧ k ≠ s.b ∧ ¬SvB s k
  ways : ∃ F, MapI w s.m1 .i64 F ∧ WaysF V X w F
  deps : ∃ F, MapI w s.m2 .i64 F ∧ DepsF V F
  ress : ∃ F, MapI w s.m3 .i64 F ∧ RessF V cb X w F
section
variable {V : List Rt} {cb : List Nh → List Nh} {s : Sv} {X X' : Nat → Prop} {w0 w w1 : World}
theorem add_block (a : Addr) (n : Nat) : (a.add n).block = a.block := by unfold Addr.add; split <;> rfl
theorem arr_ne_map {n0 m : Nat} {k : IntKind} {F : Int → Option Value} {ao : Option Addr} {L : List (List Value)} (hM : MapI w m k F) (h : Arr w n0 ao L) (hg : w.grownBy w1 (some m)) : Arr w1 n0 ao L := fun j x hk => by
  obtain ⟨ad, rfl, hc⟩ := h j x hk
  refine ⟨ad, rfl, fun i u hi => ?_⟩
  have hc := hc i u hi
  have hlt := World.block_lt_of_cell? w _ hc
  have hne : ((ad.add (j * n0)).add i).block ≠ m := fun e => by
    obtain ⟨es, cl, hm, _⟩ := hM
    unfold World.cell? at hc
    rw [e, hm] at hc
    cases hc
  rw [World.cell?_of_block (hg.block _ hlt (fun e => hne (Option.some.inj e)))]; exact hc
theorem WayV.ext {i : Nat} {v : Value} (h : WayV V X w i v) (he : Ext w w1) : WayV V X w1 i v := by
  obtain ⟨a, c, h1, h2, h3, h4⟩ := h
  exact ⟨a, c, h1, h2.ext he, h3, Nat.lt_of_lt_of_le h4 he.size⟩
theorem ResV.ext {r : Rt} {v : Value} (h : ResV V cb X w r v) (he : Ext w w1) : ResV V cb X w1 r v := by
  obtain ⟨a, c, h1, h2, h3⟩ := h
  exact ⟨a, c, h1, h2.ext he, fun b hb => ⟨(h3 b hb).1, Nat.lt_of_lt_of_le (h3 b hb).2 he.size⟩⟩
/-- Blocks of X, or new ones, have changed. -/
theorem WayV.mod {S : Nat → Prop} {i : Nat} {v : Value} (h : WayV V X w i v) (hm : Mod S w w1) (hS : ∀ c, S c → X c) : WayV V X w1 i v := by
  obtain ⟨a, c, h1, h2, h3, h4⟩ := h
  exact ⟨a, c, h1, hm.arr h2 (fun b hb h5 => by cases hb; exact h3 (hS _ h5)), h3, Nat.lt_of_lt_of_le h4 hm.size⟩
theorem ResV.mod {S : Nat → Prop} {r : Rt} {v : Value} (h : ResV V cb X w r v) (hm : Mod S w w1) (hS : ∀ c, S c → X c) : ResV V cb X w1 r v := by
  obtain ⟨a, c, h1, h2, h3⟩ := h
  exact ⟨a, c, h1, hm.arr h2 (fun b hb h5 => (h3 b hb).1 (hS _ h5)), fun b hb => ⟨(h3 b hb).1, Nat.lt_of_lt_of_le (h3 b hb).2 hm.size⟩⟩
theorem WayV.map {m i : Nat} {k : IntKind} {F : Int → Option Value} {v : Value} (h : WayV V X w i v) (hM : MapI w m k F) (hg : w.grownBy w1 (some m)) : WayV V X w1 i v := by
  obtain ⟨a, c, h1, h2, h3, h4⟩ := h
  exact ⟨a, c, h1, arr_ne_map hM h2 hg, h3, Nat.lt_of_lt_of_le h4 hg.size⟩
theorem ResV.map {m : Nat} {r : Rt} {k : IntKind} {F : Int → Option Value} {v : Value} (h : ResV V cb X w r v) (hM : MapI w m k F) (hg : w.grownBy w1 (some m)) : ResV V cb X w1 r v := by
  obtain ⟨a, c, h1, h2, h3⟩ := h
  exact ⟨a, c, h1, arr_ne_map hM h2 hg, fun b hb => ⟨(h3 b hb).1, Nat.lt_of_lt_of_le (h3 b hb).2 hg.size⟩⟩
theorem WayV.toX {i : Nat} {v : Value} (h : WayV V X w i v) (hX : ∀ k, X' k → X k ∨ w.heap.size ≤ k) : WayV V X' w i v := by
  obtain ⟨a, c, h1, h2, h3, h4⟩ := h
  exact ⟨a, c, h1, h2, fun h5 => (hX _ h5).elim h3 (fun h6 => by omega), h4⟩
theorem ResV.toX {r : Rt} {v : Value} (h : ResV V cb X w r v) (hX : ∀ k, X' k → X k ∨ w.heap.size ≤ k) : ResV V cb X' w r v := by
  obtain ⟨a, c, h1, h2, h3⟩ := h
  exact ⟨a, c, h1, h2, fun b hb => ⟨fun h5 => (hX _ h5).elim (h3 b hb).1 (fun h6 => by have := (h3 b hb).2; omega), (h3 b hb).2⟩⟩
theorem SvM.ext (h : SvM V cb s X w0 w) (he : Ext w w1) : SvM V cb s X w0 w1 := by
  obtain ⟨F1, a1, a2⟩ := h.ways
  obtain ⟨F2, b1, b2⟩ := h.deps
  obtain ⟨F3, c1, c2⟩ := h.ress
  refine { h with r := h.r.grown he, ways := ⟨F1, a1.ext he, fun k v hk => ?_⟩, deps := ⟨F2, b1.ext he, b2⟩, ress := ⟨F3, c1.ext he, fun k v hk => ?_⟩ }
  · obtain ⟨i, q1, q2⟩ := a2 k v hk
    exact ⟨i, q1, q2.ext he⟩
  · obtain ⟨i, r, q1, q2, q3, q4⟩ := c2 k v hk
    exact ⟨i, r, q1, q2, q3, q4.ext he⟩
theorem MapI.mod {S : Nat → Prop} {m : Nat} {k : IntKind} {F : Int → Option Value} (h : MapI w m k F) (hm : Mod S w w1) (hS : ¬S m) : MapI w1 m k F := by
  have hlt := h.lt
  obtain ⟨es, cl, h1, h2⟩ := h
  exact ⟨es, cl, by rw [hm.other m hlt hS]; exact h1, h2⟩
theorem SvM.mod {S : Nat → Prop} (h : SvM V cb s X w0 w) (hm : Mod S w w1) (hS : ∀ c, S c → X c) : SvM V cb s X w0 w1 := by
  obtain ⟨F1, a1, a2⟩ := h.ways
  obtain ⟨F2, b1, b2⟩ := h.deps
  obtain ⟨F3, c1, c2⟩ := h.ress
  have hn : ∀ m, SvB s m → ¬S m := fun m h1 h2 => (h.nX m (hS m h2)).2.2 h1
  refine { h with r := h.r.mod hm (fun c hc => ⟨(h.nX c (hS c hc)).1, (h.nX c (hS c hc)).2.1⟩), ways := ⟨F1, a1.mod hm (hn _ (.inl rfl)), fun k v hk => ?_⟩, deps := ⟨F2, b1.mod hm (hn _ (.inr (.inl rfl))), b2⟩, ress := ⟨F3, c1.mod hm (hn _ (.inr (.inr rfl))), fun k v hk => ?_⟩ }
  · obtain ⟨i, q1, q2⟩ := a2 k v hk
    exact ⟨i, q1, q2.mod hm hS⟩
  · obtain ⟨i, r, q1, q2, q3, q4⟩ := c2 k v hk
    exact ⟨i, r, q1, q2, q3, q4.mod hm hS⟩
theorem SvM.lt (h : SvM V cb s X w0 w) {k : Nat} (hk : k = s.b ∨ SvB s k) : k < w.heap.size := by
  obtain ⟨F1, a1, a2⟩ := h.ways
  obtain ⟨F2, b1, b2⟩ := h.deps
  obtain ⟨F3, c1, c2⟩ := h.ress
  rcases hk with rfl | rfl | rfl | rfl
  · exact h.r.blk.lt
  · exact a1.lt
  · exact b1.lt
  · exact c1.lt
theorem SvM.toX (h : SvM V cb s X w0 w) (hX : ∀ k, X' k → X k ∨ w.heap.size ≤ k) : SvM V cb s X' w0 w := by
  obtain ⟨F1, a1, a2⟩ := h.ways
  obtain ⟨F3, c1, c2⟩ := h.ress
  refine { h with nX := fun k hk => ?_, ways := ⟨F1, a1, fun k v hk => ?_⟩, ress := ⟨F3, c1, fun k v hk => ?_⟩ }
  · rcases hX k hk with h1 | h1
    · exact h.nX k h1
    · refine ⟨Nat.le_trans h.r.ext.size h1, fun e => ?_, fun e => ?_⟩
      · have := h.lt (.inl e); omega
      · have := h.lt (.inr e); omega
  · obtain ⟨i, q1, q2⟩ := a2 k v hk
    exact ⟨i, q1, q2.toX hX⟩
  · obtain ⟨i, r, q1, q2, q3, q4⟩ := c2 k v hk
    exact ⟨i, r, q1, q2, q3, q4.toX hX⟩
theorem SvM.ne_b {b : Nat} {t : TypeId} {cs : List Value} (h : SvM V cb s X w0 w) (hB : Blk w b t cs) : ¬SvB s b := by
  obtain ⟨F1, ⟨_, _, a1, _⟩, a2⟩ := h.ways
  obtain ⟨F2, ⟨_, _, b1, _⟩, b2⟩ := h.deps
  obtain ⟨F3, ⟨_, _, c1, _⟩, c2⟩ := h.ress
  unfold Blk at hB
  rintro (rfl | rfl | rfl)
  · rw [a1] at hB; cases hB
  · rw [b1] at hB; cases hB
  · rw [c1] at hB; cases hB
theorem SvM.putWay {F : Int → Option Value} {i : Nat} {v : Value} (h : SvM V cb s X w0 w) (hg : w.grownBy w1 (some s.m1)) (hF : MapI w s.m1 .i64 F) (hFw : WaysF V X w F) (hM : MapI w1 s.m1 .i64 (fun y' => if y' = i then some v else F y')) (hv : WayV V X w i v) : SvM V cb s X w0 w1 := by
  obtain ⟨F2, b1, b2⟩ := h.deps
  obtain ⟨F3, c1, c2⟩ := h.ress
  have hgm := h.gm s.m1 (.inl rfl)
  refine { h with r := h.r.row hg hgm.1 hgm.2, ways := ⟨_, hM, fun k u hk => ?_⟩, deps := ⟨F2, b1.grow hg (fun e => h.n12 (Option.some.inj e).symm), b2⟩, ress := ⟨F3, c1.grow hg (fun e => h.n13 (Option.some.inj e).symm), fun k v hk => ?_⟩ }
  · split at hk
    · rename_i e
      cases hk
      exact ⟨i, e, hv.map hF hg⟩
    · obtain ⟨j, q1, q2⟩ := hFw k u hk
      exact ⟨j, q1, q2.map hF hg⟩
  · obtain ⟨i, r, q1, q2, q3, q4⟩ := c2 k v hk
    exact ⟨i, r, q1, q2, q3, q4.map hF hg⟩
theorem SvM.putDep {F : Int → Option Value} {i : Nat} (h : SvM V cb s X w0 w) (hg : w.grownBy w1 (some s.m2)) (hF : MapI w s.m2 .i64 F) (hFw : DepsF V F) (hM : MapI w1 s.m2 .i64 (fun y' => if y' = i then some (.int .i64 (dep V i)) else F y')) : SvM V cb s X w0 w1 := by
  obtain ⟨F1, a1, a2⟩ := h.ways
  obtain ⟨F3, c1, c2⟩ := h.ress
  have hgm := h.gm s.m2 (.inr (.inl rfl))
  refine { h with r := h.r.row hg hgm.1 hgm.2, ways := ⟨F1, a1.grow hg (fun e => h.n12 (Option.some.inj e)), fun k v hk => ?_⟩, deps := ⟨_, hM, fun k u hk => ?_⟩, ress := ⟨F3, c1.grow hg (fun e => h.n23 (Option.some.inj e).symm), fun k v hk => ?_⟩ }
  · obtain ⟨j, q1, q2⟩ := a2 k v hk
    exact ⟨j, q1, q2.map hF hg⟩
  · split at hk
    · rename_i e
      cases hk
      exact ⟨i, e, rfl⟩
    · exact hFw k u hk
  · obtain ⟨i, r, q1, q2, q3, q4⟩ := c2 k v hk
    exact ⟨i, r, q1, q2, q3, q4.map hF hg⟩
theorem SvM.putRes {F : Int → Option Value} {i : Nat} {r : Rt} {v : Value} (h : SvM V cb s X w0 w) (hg : w.grownBy w1 (some s.m3)) (hF : MapI w s.m3 .i64 F) (hFw : RessF V cb X w F) (hM : MapI w1 s.m3 .i64 (fun y' => if y' = i then some v else F y')) (hr : V[i]? = some r) (hd : dep V i < 16) (hv : ResV V cb X w r v) : SvM V cb s X w0 w1 := by
  obtain ⟨F1, a1, a2⟩ := h.ways
  obtain ⟨F2, b1, b2⟩ := h.deps
  have hgm := h.gm s.m3 (.inr (.inr rfl))
  refine { h with r := h.r.row hg hgm.1 hgm.2, ways := ⟨F1, a1.grow hg (fun e => h.n13 (Option.some.inj e)), fun k v hk => ?_⟩, deps := ⟨F2, b1.grow hg (fun e => h.n23 (Option.some.inj e)), b2⟩, ress := ⟨_, hM, fun k u hk => ?_⟩ }
  · obtain ⟨j, q1, q2⟩ := a2 k v hk
    exact ⟨j, q1, q2.map hF hg⟩
  · split at hk
    · rename_i e
      cases hk
      exact ⟨i, r, e, hr, hd, hv.map hF hg⟩
    · obtain ⟨j, r', q1, q2, q3, q4⟩ := hFw k u hk
      exact ⟨j, r', q1, q2, q3, q4.map hF hg⟩
end
end Go.Proofs.Ytkdjbddjblahkaa

/-
  Routes (layer 49): leads, loops.
  Conditions: addresses and routers are numbers of 32 bits; lists are not too long.
-/
namespace Go.Proofs.Ytkdjbddjblahkaa
open Go.RowKit

instance (f : Fn) (a c : Array Value) : TCells (.func f a c) [.func f a c] := ⟨rfl⟩
section
variable {V : List Rt} {cb : List Nh → List Nh} {s : Sv} {w0 : World}
def LeadR (V : List Rt) (cb : List Nh → List Nh) (s : Sv) (X : Nat → Prop) (w0 : World) (i : Nat) (v : Value) (w' : World) : Prop := SvM V cb s X w0 w' ∧ WayV V X w' i v
theorem getElem_ways {i j : Nat} (hj : j < V.length) : (ways V i)[j]? = some (rchB V i j) := by
  unfold ways
  rw [List.getElem?_map, List.getElem?_range hj]; rfl
theorem ways_len (i : Nat) : (ways V i).length = V.length := by unfold ways; rw [List.length_map, List.length_range]
theorem dfs_ways {i : Nat} {r : Rt} {B : List Bool} (d : Dfs V i r.hops (List.replicate V.length false) B) (hr : V[i]? = some r) : B = ways V i := by
  have hl : B.length = V.length := by rw [d.len, List.length_replicate]
  have ha := d.all hr (fun j h => by
    unfold Mkd at h
    rw [List.getElem?_replicate] at h
    split at h <;> simp at h)
  refine List.ext_getElem? fun j => ?_
  rcases Nat.lt_or_ge j V.length with hj | hj
  · rw [getElem_ways hj]
    obtain ⟨b, hb⟩ : ∃ b, B[j]? = some b := ⟨_, List.getElem?_eq_getElem (by omega)⟩
    rw [hb]
    congr 1
    have h1 := ha j
    unfold Mkd at h1
    rw [hb] at h1
    cases b with
    | true => exact (rchB_iff.2 (h1.1 rfl)).symm
    | false =>
      cases hr2 : rchB V i j with
      | false => rfl
      | true => have := h1.2 (rchB_iff.1 hr2); simp at this
  · rw [List.getElem?_eq_none (by omega), List.getElem?_eq_none (by rw [ways_len]; omega)]
set_option maxHeartbeats 2000000 in
theorem leads_v {X : Nat → Prop} (i : Nat) (r : Rt) (w : World) (h : SvM V cb s X w0 w) (hX : ∀ k, X k → k < w.heap.size) (hr : V[i]? = some r) :
    Calls Try.prog 88 #[.pointer (some ⟨s.b, 0, none⟩), .int .i64 i] w (Does (SvB s) (LeadR V cb s X w0 i) w) := by
  have hn := h.r.s0.len
  have kb := h.r.blk
  unfold Sv.cells at kb
  obtain ⟨F1, a1, a2⟩ := h.ways
  refine V_enter (vs := [_, _]) Try.func88 rfl Try.ntmps88 (Nat.le_of_ble_eq_true rfl) ?_
  repeat (first | refine Vx ?_ | (apply Ops_q; (case hon => exact Va); (case hd => rfl); (case hq => exact YlA)) | refine Vr ?_ | refine Vt ?_ | refine Vf ?_ | refine Vm ?_ | refine Ve ?_ | refine Vo ?_ | refine Vz ?_ | refine Vn ?_)
  (refine Ops_box (by exact Va) rfl rfl rfl ?_; intro w1 b2 n_b2; have k_b2 := n_b2.blk)
  replace kb := kb.ext n_b2.ext
  replace a1 := a1.ext n_b2.ext
  have x1 := n_b2.ext
  have g2 := n_b2.ge
  clear n_b2
  repeat (first | refine Vx ?_ | (apply Ops_q; (case hon => exact Va); (case hd => rfl); (case hq => exact YlA)) | refine Vr ?_ | refine Vt ?_ | refine Vf ?_ | refine Vm ?_ | refine Ve ?_ | refine Vo ?_ | refine Vz ?_ | refine Vn ?_)
  (apply Ops_q; (case hon => (exact Va)); (case hd => rfl); (case hq => exact Yl_lookup2 rfl rfl (a1)))
  repeat (first | refine Vx ?_ | (apply Ops_q; (case hon => exact Va); (case hd => rfl); (case hq => exact YlA)) | refine Vr ?_ | refine Vt ?_ | refine Vf ?_ | refine Vm ?_ | refine Ve ?_ | refine Vo ?_ | refine Vz ?_ | refine Vn ?_)
  cases hF : F1 (i : Int) with
  | some v =>
    obtain ⟨j, e, hv⟩ := a2 _ _ hF
    have e : i = j := by omega
    subst e
    repeat (first | refine Vx ?_ | (apply Ops_q; (case hon => exact Va); (case hd => rfl); (case hq => exact YlA)) | refine Vr ?_ | refine Vt ?_ | refine Vf ?_ | refine Vm ?_ | refine Ve ?_ | refine Vo ?_ | refine Vz ?_ | refine Vn ?_)
    refine ret1 (by first | exact .inl rfl | exact .inr rfl) rfl rfl ?_
    exact Does_mk (fun w' he => ⟨h.ext (x1.trans he), hv.ext (x1.trans he)⟩) (.of_ext x1)
  | none =>
    repeat (first | refine Vx ?_ | (apply Ops_q; (case hon => exact Va); (case hd => rfl); (case hq => exact YlA)) | refine Vr ?_ | refine Vt ?_ | refine Vf ?_ | refine Vm ?_ | refine Ve ?_ | refine Vo ?_ | refine Vz ?_ | refine Vn ?_)
    refine Ops_make1 (by exact Va) rfl rfl rfl (by omega) (by unfold maxLen; omega) ?_
    intro w2 g e2 hg o
    have x2 := x1.trans e2
    have k22 := k_b2.ext e2
    repeat (first | refine Vx ?_ | (apply Ops_q; (case hon => exact Va); (case hd => rfl); (case hq => exact YlA)) | refine Vr ?_ | refine Vt ?_ | refine Vf ?_ | refine Vm ?_ | refine Ve ?_ | refine Vo ?_ | refine Vz ?_ | refine Vn ?_)
    (refine Ops_alloc (by exact Va) rfl ?_; intro w3 b7 n_b7; have k_b7 := n_b7.blk)
    repeat (first | refine Vx ?_ | (apply Ops_q; (case hon => exact Va); (case hd => rfl); (case hq => exact YlA)) | refine Vr ?_ | refine Vt ?_ | refine Vf ?_ | refine Vm ?_ | refine Ve ?_ | refine Vo ?_ | refine Vz ?_ | refine Vn ?_)
    (refine Ops_store (by exact Va) rfl rfl (by assumption) (by first | rfl | exact OneAll.h) ?_; intro w4 u_w4; have k_b7 := u_w4.blk)
    have y4 := u_w4.below n_b7.ext n_b7.ge
    have h7 : w2.heap.size ≤ b7 := n_b7.ge
    clear u_w4 n_b7
    repeat (first | refine Vx ?_ | (apply Ops_q; (case hon => exact Va); (case hd => rfl); (case hq => exact YlA)) | refine Vr ?_ | refine Vt ?_ | refine Vf ?_ | refine Vm ?_ | refine Ve ?_ | refine Vo ?_ | refine Vz ?_ | refine Vn ?_)
    (refine Ops_alloc (by exact Va) rfl ?_; intro w5 b8 n_b8; have k_b8 := n_b8.blk)
    have hb8 : w4.heap.size ≤ b8 := n_b8.ge
    have l7 := k_b7.lt
    have x5 := y4.trans n_b8.ext
    replace k_b7 := k_b7.ext n_b8.ext
    clear n_b8
    repeat (first | refine Vx ?_ | (apply Ops_q; (case hon => exact Va); (case hd => rfl); (case hq => exact YlA)) | refine Vr ?_ | refine Vt ?_ | refine Vf ?_ | refine Vm ?_ | refine Ve ?_ | refine Vo ?_ | refine Vz ?_ | refine Vn ?_)
    refine Ops_store (by exact Va) rfl rfl k_b8 (by first | rfl | exact OneAll.h) ?_
    intro w6 u6
    have k8 := u6.blk
    have k7 := u6.keep k_b7 (by omega)
    have s2 := x2.size
    have s4 := y4.size
    have x6 : Ext w2 w6 := u6.below x5 (by omega)
    have k2 := k22.ext x6
    have l2 := k_b2.lt
    have lg : g < w2.heap.size := o.lt rfl
    have hm1 : s.m1 < w.heap.size := h.lt (.inr (.inl rfl))
    have hsb : s.b < w.heap.size := h.lt (.inl rfl)
    have sx1 := x1.size
    have xw6 := x2.trans x6
    have hw0 := h.r.ext.size
    replace o := o.ext x6
    clear u6 k_b8 k_b7 x5 y4 k22 k_b2
    rw [show List.replicate V.length [Value.bool false] = (List.replicate V.length false).map bl from by rw [List.map_replicate]; rfl] at o
    have hrl : (List.replicate V.length false).length = V.length := List.length_replicate
    repeat (first | refine Vx ?_ | (apply Ops_q; (case hon => exact Va); (case hd => rfl); (case hq => exact YlA)) | refine Vr ?_ | refine Vt ?_ | refine Vf ?_ | refine Vm ?_ | refine Ve ?_ | refine Vo ?_ | refine Vz ?_ | refine Vn ?_)
    refine Ops_callvM (S := fun c => c = g) (R := fun _ => DfsR V i r.hops (List.replicate V.length false) w1.heap.size g) (by exact Va) rfl rfl rfl (fun w_ e_ => visit_v _ i r _ w_ rfl hr hrl (h.r.grown (xw6.trans e_)) (k2.ext e_) (k7.ext e_) (k8.ext e_) (by omega) (by omega) (by omega) (by omega) (by omega) (by rw [hrl]; exact o.ext e_)) ?_
    rintro v w8 w7 e7 m8 ⟨rfl, B, d, o8⟩
    obtain rfl := dfs_ways d hr
    rw [ways_len] at o8
    have xw7 := xw6.trans e7
    have xw8 : Ext w w8 := m8.ext_of xw7 (fun c hc => by subst hc; omega)
    have hX2 : ∀ k, (X k ∨ k = g) → X k ∨ w.heap.size ≤ k := fun k hk => hk.imp id (fun e => by omega)
    have h8 : SvM V cb s X w0 w8 := (((h.toX (X' := fun k => X k ∨ k = g) hX2).ext xw7).mod m8 (fun c hc => .inr hc)).toX (fun k hk => .inl (.inl hk))
    have hv : WayV V X w8 i (.slice (some ⟨g, 0, none⟩) V.length V.length) := by
      obtain ⟨ao, c, e, ha⟩ := o8.slice
      rw [List.length_map, ways_len] at e
      cases e
      exact ⟨_, _, rfl, ha, fun hx => by have := hX _ hx; simp only at this; omega, o8.lt rfl⟩
    have kb8 := m8.blk ((kb.ext (e2.trans x6)).ext e7) (fun e => by omega)
    have k78 := m8.blk (k7.ext e7) (fun e => by omega)
    have k28 := m8.blk (k2.ext e7) (fun e => by omega)
    have a18 := (a1.ext (e2.trans (x6.trans e7))).mod m8 (fun e => by omega)
    have a28 : WaysF V X w8 F1 := fun k v hk => by
      obtain ⟨j, q1, q2⟩ := a2 k v hk
      exact ⟨j, q1, (((q2.toX (X' := fun k => X k ∨ k = g) hX2).ext xw7).mod m8 (fun c hc => .inr hc)).toX (fun k hk => .inl (.inl hk))⟩
    clear o8 o kb k7 k2 k8 a1
    repeat (first | refine Vx ?_ | (apply Ops_q; (case hon => exact Va); (case hd => rfl); (case hq => exact YlA)) | refine Vr ?_ | refine Vt ?_ | refine Vf ?_ | refine Vm ?_ | refine Ve ?_ | refine Vo ?_ | refine Vz ?_ | refine Vn ?_)
    refine V_region_mixed 6 (by kernel_rfl) (by kernel_rfl) rfl ?_
    repeat (first | refine Vx ?_ | (apply Ops_q; (case hon => exact Va); (case hd => rfl); (case hq => exact YlA)) | refine Vr ?_ | refine Vt ?_ | refine Vf ?_ | refine Vm ?_ | refine Ve ?_ | refine Vo ?_ | refine Vz ?_ | refine Vn ?_)
    refine Ops_mapUpdate (by exact Va) rfl rfl rfl a18 ?_
    intro w9 g9 a19
    have h9 := h8.putWay g9 a18 a28 a19 hv
    have k79 := grow_blk g9 k78 (fun e => by have := Option.some.inj e; omega)
    have hv9 := hv.map a18 g9
    repeat (first | refine Vx ?_ | (apply Ops_q; (case hon => exact Va); (case hd => rfl); (case hq => exact YlA)) | refine Vr ?_ | refine Vt ?_ | refine Vf ?_ | refine Vm ?_ | refine Ve ?_ | refine Vo ?_ | refine Vz ?_ | refine Vn ?_)
    refine ret1 (by first | exact .inl rfl | exact .inr rfl) rfl rfl ?_
    exact Does_mk (fun w' he => ⟨h9.ext he, hv9.ext he⟩) ((Mod.of_ext xw8).grow g9 (fun b e => .inl (.inl (Option.some.inj e).symm)))
end
end Go.Proofs.Ytkdjbddjblahkaa

/-
  Routes (layer 49): loops, depth.
  Conditions: addresses and routers are numbers of 32 bits; lists are not too long.
-/
namespace Go.Proofs.Ytkdjbddjblahkaa
open Go.RowKit

theorem eqPf_s {p q : Pf} : (decide ((p.a : Int) = (q.a : Int)) && decide (p.n = q.n)) = decide (p = q) := by rw [← Bool.decide_and]; exact decide_eq_decide.2 ⟨fun h => pf_eq (by omega) h.2, fun h => by subst h; exact ⟨rfl, rfl⟩⟩
theorem sam_v (x r : Rt) (b5 : Nat) (w : World) (k5 : Blk w b5 31 r.cells) : Calls Try.prog 87 #[x.val, .pointer (some ⟨b5, 0, none⟩)] w (Ret (.bool (samR x r)) w) := by
  unfold Rt.cells at k5
  refine V_enter (vs := [_, _]) Try.func87 rfl Try.ntmps87 (Nat.le_of_ble_eq_true rfl) ?_
  repeat (first | refine Vx ?_ | (apply Ops_q; (case hon => exact Va); (case hd => rfl); (case hq => exact YlA)) | refine Vr ?_ | refine Vt ?_ | refine Vf ?_ | refine Vm ?_ | refine Ve ?_ | refine Vo ?_ | refine Vz ?_ | refine Vn ?_)
  (refine Ops_box (by exact Va) rfl rfl rfl ?_; intro w1 b2 n_b2; have k_b2 := n_b2.blk)
  have x1 := n_b2.ext
  replace k5 := k5.ext x1
  clear n_b2
  have q1 : Cells w1 ⟨b2, 0, none⟩ [.int .u32 x.p.a, .int .i64 x.p.n] := k_b2.part 0 2
  have q2 : Cells w1 ⟨b5, 0, none⟩ [.int .u32 r.p.a, .int .i64 r.p.n] := k5.part 0 2
  repeat (first | refine Vx ?_ | (apply Ops_q; (case hon => exact Va); (case hd => rfl); (case hq => exact YlA)) | refine Vr ?_ | refine Vt ?_ | refine Vf ?_ | refine Vm ?_ | refine Ve ?_ | refine Vo ?_ | refine Vz ?_ | refine Vn ?_)
  rw [eqPf_d]
  clear q1 q2
  by_cases t : x.p = r.p
  · have d : decide (x.p = r.p) = true := decide_eq_true t
    refine Ops_know rfl rfl d ?_
    repeat (first | refine Vx ?_ | (apply Ops_q; (case hon => exact Va); (case hd => rfl); (case hq => exact YlA)) | refine Vr ?_ | refine Vt ?_ | refine Vf ?_ | refine Vm ?_ | refine Ve ?_ | refine Vo ?_ | refine Vz ?_ | refine Vn ?_)
    refine ret1 (by first | exact .inl rfl | exact .inr rfl) rfl rfl ?_
    exact Ret_mk (by unfold samR; rw [d]; rfl) x1
  · have d : decide (x.p = r.p) = false := decide_eq_false t
    refine Ops_know rfl rfl d ?_
    repeat (first | refine Vx ?_ | (apply Ops_q; (case hon => exact Va); (case hd => rfl); (case hq => exact YlA)) | refine Vr ?_ | refine Vt ?_ | refine Vf ?_ | refine Vm ?_ | refine Ve ?_ | refine Vo ?_ | refine Vz ?_ | refine Vn ?_)
    refine ret1 (by first | exact .inl rfl | exact .inr rfl) rfl rfl ?_
    exact Ret_mk (by unfold samR; rw [d]; rfl) x1
section
variable {V : List Rt} {cb : List Nh → List Nh} {s : Sv} {w0 : World}
def SolR (V : List Rt) (cb : List Nh → List Nh) (s : Sv) (X : Nat → Prop) (w0 : World) (u : Value) (v : Value) (w' : World) : Prop := v = u ∧ SvM V cb s X w0 w'
set_option maxHeartbeats 2000000 in
theorem loops_v {X : Nat → Prop} (i : Nat) (r ri : Rt) (w : World) (h : SvM V cb s X w0 w) (hX : ∀ k, X k → k < w.heap.size) (hr : V[i]? = some ri) :
    Calls Try.prog 65 #[.pointer (some ⟨s.b, 0, none⟩), .int .i64 i, r.val] w (Does (SvB s) (SolR V cb s X w0 (.bool (loopsB V i r))) w) := by
  have hil : i < V.length := (List.getElem?_eq_some_iff.1 hr).1
  have hV := h.r.s0.len
  obtain ⟨ad, ea, hc⟩ := h.r.rts.at hr
  have kb := h.r.blk
  unfold Sv.cells at kb
  rw [ea] at kb
  refine V_enter (vs := [_, _, _]) Try.func65 rfl Try.ntmps65 (Nat.le_of_ble_eq_true rfl) ?_
  repeat (first | refine Vx ?_ | (apply Ops_q; (case hon => exact Va); (case hd => rfl); (case hq => exact YlA)) | refine Vr ?_ | refine Vt ?_ | refine Vf ?_ | refine Vm ?_ | refine Ve ?_ | refine Vo ?_ | refine Vz ?_ | refine Vn ?_)
  (refine Ops_box (by exact Va) rfl rfl rfl ?_; intro w1 b5 n_b5; have k_b5 := n_b5.blk)
  have x1 := n_b5.ext
  have g5 := n_b5.ge
  have hs1 := h.ext x1
  replace kb := kb.ext x1
  replace hc := hc.ext x1
  clear n_b5
  repeat (first | refine Vx ?_ | (apply Ops_q; (case hon => exact Va); (case hd => rfl); (case hq => exact YlA)) | refine Vr ?_ | refine Vt ?_ | refine Vf ?_ | refine Vm ?_ | refine Ve ?_ | refine Vo ?_ | refine Vz ?_ | refine Vn ?_)
  (apply Ops_q; (case hon => (exact Va)); (case hd => rfl); (case hq => exact Yl_indexS (j := i) rfl rfl (by omega)))
  repeat (first | refine Vx ?_ | (apply Ops_q; (case hon => exact Va); (case hd => rfl); (case hq => exact YlA)) | refine Vr ?_ | refine Vt ?_ | refine Vf ?_ | refine Vm ?_ | refine Ve ?_ | refine Vo ?_ | refine Vz ?_ | refine Vn ?_)
  clear hc
  (apply Ops_q; (case hon => (exact Va)); (case hd => rfl); (case hq => exact Yl_callv rfl rfl (fun w_ e_ => sam_v ri r b5 w_ (k_b5.ext e_))))
  repeat (first | refine Vx ?_ | (apply Ops_q; (case hon => exact Va); (case hd => rfl); (case hq => exact YlA)) | refine Vr ?_ | refine Vt ?_ | refine Vf ?_ | refine Vm ?_ | refine Ve ?_ | refine Vo ?_ | refine Vz ?_ | refine Vn ?_)
  cases hh : samR ri r with
  | true =>
    repeat (first | refine Vx ?_ | (apply Ops_q; (case hon => exact Va); (case hd => rfl); (case hq => exact YlA)) | refine Vr ?_ | refine Vt ?_ | refine Vf ?_ | refine Vm ?_ | refine Ve ?_ | refine Vo ?_ | refine Vz ?_ | refine Vn ?_)
    refine ret1 (by first | exact .inl rfl | exact .inr rfl) rfl rfl ?_
    exact Does_mk (fun w' he => ⟨by rw [loopsB_yes ⟨i, .inl rfl, ri, hr, hh⟩], hs1.ext he⟩) (.of_ext x1)
  | false =>
    repeat (first | refine Vx ?_ | (apply Ops_q; (case hon => exact Va); (case hd => rfl); (case hq => exact YlA)) | refine Vr ?_ | refine Vt ?_ | refine Vf ?_ | refine Vm ?_ | refine Ve ?_ | refine Vo ?_ | refine Vz ?_ | refine Vn ?_)
    refine Ops_callM (S := SvB s) (R := fun _ => LeadR V cb s X w0 i) (by exact Va) rfl rfl (fun w_ e_ => leads_v i ri w_ (hs1.ext e_) (fun k hk => Nat.lt_of_lt_of_le (hX k hk) (x1.trans e_).size) hr) ?_
    rintro v w3 w2 e2 m3 ⟨h3, a, c, rfl, hA, _, _⟩
    have k53 := m3.blk (k_b5.ext e2) ((hs1.ext e2).ne_b (k_b5.ext e2))
    have m13 : Mod (SvB s) w w3 := (Mod.of_ext (x1.trans e2)).trans m3
    have kb3 := h3.r.blk
    unfold Sv.cells at kb3
    rw [ea] at kb3
    clear kb k_b5 m3 e2
    repeat (first | refine Vx ?_ | (apply Ops_q; (case hon => exact Va); (case hd => rfl); (case hq => exact YlA)) | refine Vr ?_ | refine Vt ?_ | refine Vf ?_ | refine Vm ?_ | refine Ve ?_ | refine Vo ?_ | refine Vz ?_ | refine Vn ?_)
    refine V_loop (fun k : Nat => [(24, .int .i64 k), (23, .int .i64 V.length), (22, .slice (some a) V.length c), (7, .func (.func 87) #[] #[.pointer (some ⟨b5, 0, none⟩)]), (0, .pointer (some ⟨s.b, 0, none⟩))])
      (fun k w' => Ext w3 w' ∧ k ≤ V.length ∧ ∀ j x, j < k → Rch V i j → V[j]? = some x → samR x r = false) (fun k => V.length - k) 0 (by repeat (first | exact trivial | refine ⟨rfl, ?_⟩)) ⟨Ext.refl _, Nat.zero_le _, fun j x hj => absurd hj (Nat.not_lt_zero _)⟩ ?_
    rintro k w4 ⟨x4, hk, hs⟩
    repeat (first | refine Vx ?_ | (apply Ops_q; (case hon => exact Va); (case hd => rfl); (case hq => exact YlA)) | refine Vr ?_ | refine Vt ?_ | refine Vf ?_ | refine Vm ?_ | refine Ve ?_ | refine Vo ?_ | refine Vz ?_ | refine Vn ?_)
    refine V_cond rfl (fun hg => ?_) (fun hg => ?_)
    · have hkl : k < V.length := by have := of_decide_eq_true hg; omega
      clear hg
      obtain ⟨x, hx⟩ : ∃ x, V[k]? = some x := ⟨_, List.getElem?_eq_getElem hkl⟩
      obtain ⟨ad', e', hcx⟩ := (h3.r.grown x4).rts.at hx
      rw [ea] at e'
      cases e'
      have kb4 := kb3.ext x4
      have k54 := k53.ext x4
      have q : w4.cell? (a.add (k * 1)) = some (.bool (rchB V i k)) := by
        obtain ⟨a', e1, h1⟩ := (hA.ext x4) k (bl (rchB V i k)) (by rw [List.getElem?_map, getElem_ways hkl]; rfl)
        cases e1
        have := h1 0 (.bool (rchB V i k)) rfl
        simpa [Addr.add] using this
      repeat (first | refine Vx ?_ | (apply Ops_q; (case hon => exact Va); (case hd => rfl); (case hq => exact YlA)) | refine Vr ?_ | refine Vt ?_ | refine Vf ?_ | refine Vm ?_ | refine Ve ?_ | refine Vo ?_ | refine Vz ?_ | refine Vn ?_)
      (apply Ops_q; (case hon => (exact Va)); (case hd => rfl); (case hq => exact Yl_indexS (j := k) rfl rfl (by omega)))
      repeat (first | refine Vx ?_ | (apply Ops_q; (case hon => exact Va); (case hd => rfl); (case hq => exact YlA)) | refine Vr ?_ | refine Vt ?_ | refine Vf ?_ | refine Vm ?_ | refine Ve ?_ | refine Vo ?_ | refine Vz ?_ | refine Vn ?_)
      clear q
      cases hb : rchB V i k with
      | false =>
        repeat (first | refine Vx ?_ | (apply Ops_q; (case hon => exact Va); (case hd => rfl); (case hq => exact YlA)) | refine Vr ?_ | refine Vt ?_ | refine Vf ?_ | refine Vm ?_ | refine Ve ?_ | refine Vo ?_ | refine Vz ?_ | refine Vn ?_)
        refine ⟨k + 1, (by repeat (first | exact trivial | refine ⟨rfl, ?_⟩)), ⟨x4, hkl, fun j y hj h1 h2 => ?_⟩, by omega⟩
        rcases Nat.lt_or_ge j k with h5 | h5
        · exact hs j y h5 h1 h2
        · obtain rfl : j = k := by omega
          rw [rchB_iff.2 h1] at hb; cases hb
      | true =>
        repeat (first | refine Vx ?_ | (apply Ops_q; (case hon => exact Va); (case hd => rfl); (case hq => exact YlA)) | refine Vr ?_ | refine Vt ?_ | refine Vf ?_ | refine Vm ?_ | refine Ve ?_ | refine Vo ?_ | refine Vz ?_ | refine Vn ?_)
        (apply Ops_q; (case hon => (exact Va)); (case hd => rfl); (case hq => exact Yl_indexS (j := k) rfl rfl (by omega)))
        repeat (first | refine Vx ?_ | (apply Ops_q; (case hon => exact Va); (case hd => rfl); (case hq => exact YlA)) | refine Vr ?_ | refine Vt ?_ | refine Vf ?_ | refine Vm ?_ | refine Ve ?_ | refine Vo ?_ | refine Vz ?_ | refine Vn ?_)
        (apply Ops_q; (case hon => (exact Va)); (case hd => rfl); (case hq => exact Yl_callv rfl rfl (fun w_ e_ => sam_v x r b5 w_ (k54.ext e_))))
        repeat (first | refine Vx ?_ | (apply Ops_q; (case hon => exact Va); (case hd => rfl); (case hq => exact YlA)) | refine Vr ?_ | refine Vt ?_ | refine Vf ?_ | refine Vm ?_ | refine Ve ?_ | refine Vo ?_ | refine Vz ?_ | refine Vn ?_)
        cases hh2 : samR x r with
        | true =>
          repeat (first | refine Vx ?_ | (apply Ops_q; (case hon => exact Va); (case hd => rfl); (case hq => exact YlA)) | refine Vr ?_ | refine Vt ?_ | refine Vf ?_ | refine Vm ?_ | refine Ve ?_ | refine Vo ?_ | refine Vz ?_ | refine Vn ?_)
          refine ret1 (by first | exact .inl rfl | exact .inr rfl) rfl rfl ?_
          exact Does_mk (fun w' he => ⟨by rw [loopsB_yes ⟨k, .inr (rchB_iff.1 hb), x, hx, hh2⟩], h3.ext (x4.trans he)⟩) (m13.ext x4)
        | false =>
          repeat (first | refine Vx ?_ | (apply Ops_q; (case hon => exact Va); (case hd => rfl); (case hq => exact YlA)) | refine Vr ?_ | refine Vt ?_ | refine Vf ?_ | refine Vm ?_ | refine Ve ?_ | refine Vo ?_ | refine Vz ?_ | refine Vn ?_)
          refine ⟨k + 1, (by repeat (first | exact trivial | refine ⟨rfl, ?_⟩)), ⟨x4, hkl, fun j y hj h1 h2 => ?_⟩, by omega⟩
          rcases Nat.lt_or_ge j k with h5 | h5
          · exact hs j y h5 h1 h2
          · obtain rfl : j = k := by omega
            rw [hx] at h2; cases h2; exact hh2
    · obtain rfl : k = V.length := by have := of_decide_eq_false hg; omega
      repeat (first | refine Vx ?_ | (apply Ops_q; (case hon => exact Va); (case hd => rfl); (case hq => exact YlA)) | refine Vr ?_ | refine Vt ?_ | refine Vf ?_ | refine Vm ?_ | refine Ve ?_ | refine Vo ?_ | refine Vz ?_ | refine Vn ?_)
      refine ret1 (by first | exact .inl rfl | exact .inr rfl) rfl rfl ?_
      refine Does_mk (fun w' he => ⟨?_, h3.ext (x4.trans he)⟩) (m13.ext x4)
      rw [loopsB_no]
      rintro ⟨j, hj, x, h1, h2⟩
      rcases hj with rfl | hj
      · rw [hr] at h1; cases h1; rw [hh] at h2; cases h2
      · rw [hs j x hj.lt hj h1] at h2; cases h2
end
end Go.Proofs.Ytkdjbddjblahkaa

/-
  Routes (layer 49): depth.
  Conditions: addresses and routers are numbers of 32 bits; lists are not too long.
-/
namespace Go.Proofs.Ytkdjbddjblahkaa
open Go.RowKit

section
variable {V : List Rt} {cb : List Nh → List Nh} {s : Sv} {w0 : World}
set_option maxHeartbeats 2000000 in
theorem depth_v {X : Nat → Prop} (f : Nat) : ∀ (i : Nat) (r : Rt) (w : World), rkR V i = f → V[i]? = some r → SvM V cb s X w0 w → (∀ k, X k → k < w.heap.size) →
    Calls Try.prog 66 #[.pointer (some ⟨s.b, 0, none⟩), .int .i64 i] w (Does (SvB s) (SolR V cb s X w0 (.int .i64 (dep V i))) w) := by
  induction f using Nat.strongRecOn with
  | ind f ih =>
  intro i r w hf hr h hX
  have hil : i < V.length := (List.getElem?_eq_some_iff.1 hr).1
  have hV := h.r.s0.len
  have hrm : r ∈ V := List.mem_of_getElem? hr
  obtain ⟨hn64, hbad⟩ := h.r.s0.hops r hrm
  have rm := h.r.rts.mem r hrm
  obtain ⟨ad, ea, hc⟩ := h.r.rts.at hr
  have kb := h.r.blk
  unfold Sv.cells at kb
  obtain ⟨F2, b1, b2⟩ := h.deps
  refine V_enter (vs := [_, _]) Try.func66 rfl Try.ntmps66 (Nat.le_of_ble_eq_true rfl) ?_
  repeat (first | refine Vx ?_ | (apply Ops_q; (case hon => exact Va); (case hd => rfl); (case hq => exact YlA)) | refine Vr ?_ | refine Vt ?_ | refine Vf ?_ | refine Vm ?_ | refine Ve ?_ | refine Vo ?_ | refine Vz ?_ | refine Vn ?_)
  (apply Ops_q; (case hon => (exact Va)); (case hd => rfl); (case hq => exact Yl_lookup2 rfl rfl (b1)))
  repeat (first | refine Vx ?_ | (apply Ops_q; (case hon => exact Va); (case hd => rfl); (case hq => exact YlA)) | refine Vr ?_ | refine Vt ?_ | refine Vf ?_ | refine Vm ?_ | refine Ve ?_ | refine Vo ?_ | refine Vz ?_ | refine Vn ?_)
  cases hF : F2 (i : Int) with
  | some v =>
    obtain ⟨j, e, rfl⟩ := b2 _ _ hF
    have e : i = j := by omega
    subst e
    repeat (first | refine Vx ?_ | (apply Ops_q; (case hon => exact Va); (case hd => rfl); (case hq => exact YlA)) | refine Vr ?_ | refine Vt ?_ | refine Vf ?_ | refine Vm ?_ | refine Ve ?_ | refine Vo ?_ | refine Vz ?_ | refine Vn ?_)
    refine ret1 (by first | exact .inl rfl | exact .inr rfl) rfl rfl ?_
    exact Does_mk (fun w' he => ⟨rfl, h.ext he⟩) (.of_ext (Ext.refl _))
  | none =>
    rw [ea] at kb
    have q6 := hc 6 _ rfl
    clear hc
    repeat (first | refine Vx ?_ | (apply Ops_q; (case hon => exact Va); (case hd => rfl); (case hq => exact YlA)) | refine Vr ?_ | refine Vt ?_ | refine Vf ?_ | refine Vm ?_ | refine Ve ?_ | refine Vo ?_ | refine Vz ?_ | refine Vn ?_)
    (apply Ops_q; (case hon => (exact Va)); (case hd => rfl); (case hq => exact Yl_indexS (j := i) rfl rfl (by omega)))
    repeat (first | refine Vx ?_ | (apply Ops_q; (case hon => exact Va); (case hd => rfl); (case hq => exact YlA)) | refine Vr ?_ | refine Vt ?_ | refine Vf ?_ | refine Vm ?_ | refine Ve ?_ | refine Vo ?_ | refine Vz ?_ | refine Vn ?_)
    clear q6 kb b1 b2
    refine V_loop (fun k : Nat => [(31, .int .i64 k), (30, .int .i64 r.hops.length), (29, .slice r.ao r.hops.length r.c), (7, .int .i64 ((r.hops.take k).foldl (depS V r (dep V)) 0)), (0, .pointer (some ⟨s.b, 0, none⟩)), (1, .int .i64 i)])
      (fun k w' => Mod (SvB s) w w' ∧ k ≤ r.hops.length ∧ SvM V cb s X w0 w') (fun k => r.hops.length - k) 0 (by repeat (first | exact trivial | refine ⟨rfl, ?_⟩)) ⟨.of_ext (Ext.refl _), Nat.zero_le _, h⟩ ?_
    rintro k w1 ⟨m1, hk, h1⟩
    repeat (first | refine Vx ?_ | (apply Ops_q; (case hon => exact Va); (case hd => rfl); (case hq => exact YlA)) | refine Vr ?_ | refine Vt ?_ | refine Vf ?_ | refine Vm ?_ | refine Ve ?_ | refine Vo ?_ | refine Vz ?_ | refine Vn ?_)
    refine V_cond rfl (fun hg => ?_) (fun hg => ?_)
    · have hkl : k < r.hops.length := by have := of_decide_eq_true hg; omega
      clear hg
      obtain ⟨x, hx⟩ : ∃ x, r.hops[k]? = some x := ⟨_, List.getElem?_eq_getElem hkl⟩
      have hxm := List.mem_of_getElem? hx
      obtain ⟨ah, eh, hch⟩ := (h1.r.rts.mem r hrm).hops.at hx
      have hfold : (r.hops.take (k + 1)).foldl (depS V r (dep V)) 0 = depS V r (dep V) ((r.hops.take k).foldl (depS V r (dep V)) 0) x := by rw [List.take_add_one, hx, List.foldl_append]; rfl
      have hm0 : 0 ≤ (r.hops.take k).foldl (depS V r (dep V)) 0 := depS_fold
      generalize (r.hops.take k).foldl (depS V r (dep V)) 0 = mm at *
      have hXs : ∀ c, X c → c < w1.heap.size := fun c hc => Nat.lt_of_lt_of_le (hX c hc) m1.size
      rw [eh]
      repeat (first | refine Vx ?_ | (apply Ops_q; (case hon => exact Va); (case hd => rfl); (case hq => exact YlA)) | refine Vr ?_ | refine Vt ?_ | refine Vf ?_ | refine Vm ?_ | refine Ve ?_ | refine Vo ?_ | refine Vz ?_ | refine Vn ?_)
      (apply Ops_q; (case hon => (exact Va)); (case hd => rfl); (case hq => exact Yl_indexS (j := k) rfl rfl (by omega)))
      repeat (first | refine Vx ?_ | (apply Ops_q; (case hon => exact Va); (case hd => rfl); (case hq => exact YlA)) | refine Vr ?_ | refine Vt ?_ | refine Vf ?_ | refine Vm ?_ | refine Ve ?_ | refine Vo ?_ | refine Vz ?_ | refine Vn ?_)
      (refine Ops_alloc (by exact Va) rfl ?_; intro w2 b9 n_b9; have k_b9 := n_b9.blk)
      repeat (first | refine Vx ?_ | (apply Ops_q; (case hon => exact Va); (case hd => rfl); (case hq => exact YlA)) | refine Vr ?_ | refine Vt ?_ | refine Vf ?_ | refine Vm ?_ | refine Ve ?_ | refine Vo ?_ | refine Vz ?_ | refine Vn ?_)
      (refine Ops_store (by exact Va) rfl rfl (by assumption) (by first | rfl | exact OneAll.h) ?_; intro w3 u_w3; have k_b9 := u_w3.blk)
      have y3 := u_w3.below n_b9.ext n_b9.ge
      clear u_w3 n_b9 hch
      have h3 := h1.ext y3
      have m3 := m1.ext y3
      have hX3 : ∀ c, X c → c < w3.heap.size := fun c hc => Nat.lt_of_lt_of_le (hXs c hc) y3.size
      repeat (first | refine Vx ?_ | (apply Ops_q; (case hon => exact Va); (case hd => rfl); (case hq => exact YlA)) | refine Vr ?_ | refine Vt ?_ | refine Vf ?_ | refine Vm ?_ | refine Ve ?_ | refine Vo ?_ | refine Vz ?_ | refine Vn ?_)
      (apply Ops_q; (case hon => (exact Va)); (case hd => rfl); (case hq => exact Yl_call rfl (fun w_ e_ => next_v x w_ (h3.r.grown e_) (rm.ok x hxm))))
      clear k_b9
      repeat (first | refine Vx ?_ | (apply Ops_q; (case hon => exact Va); (case hd => rfl); (case hq => exact YlA)) | refine Vr ?_ | refine Vt ?_ | refine Vf ?_ | refine Vm ?_ | refine Ve ?_ | refine Vo ?_ | refine Vz ?_ | refine Vn ?_)
      cases hn : nxI V x with
      | none =>
        repeat (first | refine Vx ?_ | (apply Ops_q; (case hon => exact Va); (case hd => rfl); (case hq => exact YlA)) | refine Vr ?_ | refine Vt ?_ | refine Vf ?_ | refine Vm ?_ | refine Ve ?_ | refine Vo ?_ | refine Vz ?_ | refine Vn ?_)
        exact ⟨k + 1, by rw [hfold, depS, hn, ← eh]; exact (by repeat (first | exact trivial | refine ⟨rfl, ?_⟩)), ⟨m3, hkl, h3⟩, by omega⟩
      | some y =>
        have hyl := nxI_lt hn
        obtain ⟨ry, hy⟩ : ∃ z, V[y]? = some z := ⟨_, List.getElem?_eq_getElem hyl⟩
        have dn : decide ((0 : Int) ≤ (y : Int)) = true := decide_eq_true (by omega)
        unfold numI
        refine Ops_know rfl rfl dn ?_
        have kb3 := h3.r.blk
        unfold Sv.cells at kb3
        rw [ea] at kb3
        obtain ⟨ad', e', hci⟩ := h3.r.rts.at hr
        rw [ea] at e'
        cases e'
        repeat (first | refine Vx ?_ | (apply Ops_q; (case hon => exact Va); (case hd => rfl); (case hq => exact YlA)) | refine Vr ?_ | refine Vt ?_ | refine Vf ?_ | refine Vm ?_ | refine Ve ?_ | refine Vo ?_ | refine Vz ?_ | refine Vn ?_)
        (apply Ops_q; (case hon => (exact Va)); (case hd => rfl); (case hq => exact Yl_indexS (j := i) rfl rfl (by omega)))
        repeat (first | refine Vx ?_ | (apply Ops_q; (case hon => exact Va); (case hd => rfl); (case hq => exact YlA)) | refine Vr ?_ | refine Vt ?_ | refine Vf ?_ | refine Vm ?_ | refine Ve ?_ | refine Vo ?_ | refine Vz ?_ | refine Vn ?_)
        refine Ops_callM (S := SvB s) (R := fun _ => SolR V cb s X w0 (.bool (loopsB V y r))) (by exact Va) rfl rfl (fun w_ e_ => loops_v y r ry w_ (h3.ext e_) (fun c hc => Nat.lt_of_lt_of_le (hX3 c hc) e_.size) hy) ?_
        rintro v w5 w4 e4 m5 ⟨rfl, h5⟩
        have m15 : Mod (SvB s) w w5 := (m3.ext e4).trans m5
        have hX5 : ∀ c, X c → c < w5.heap.size := fun c hc => Nat.lt_of_lt_of_le (hX c hc) m15.size
        clear hci kb3 dn
        cases hl : loopsB V y r with
        | true =>
          repeat (first | refine Vx ?_ | (apply Ops_q; (case hon => exact Va); (case hd => rfl); (case hq => exact YlA)) | refine Vr ?_ | refine Vt ?_ | refine Vf ?_ | refine Vm ?_ | refine Ve ?_ | refine Vo ?_ | refine Vz ?_ | refine Vn ?_)
          exact ⟨k + 1, by rw [hfold, depS, hn, ← eh]; dsimp only; rw [if_pos hl]; exact (by repeat (first | exact trivial | refine ⟨rfl, ?_⟩)), ⟨m15, hkl, h5⟩, by omega⟩
        | false =>
          repeat (first | refine Vx ?_ | (apply Ops_q; (case hon => exact Va); (case hd => rfl); (case hq => exact YlA)) | refine Vr ?_ | refine Vt ?_ | refine Vf ?_ | refine Vm ?_ | refine Ve ?_ | refine Vo ?_ | refine Vz ?_ | refine Vn ?_)
          have hrk := rkR_lt hr (kids_mem.2 ⟨r, x, hr, hxm, hn⟩) hl
          refine Ops_callM (S := SvB s) (R := fun _ => SolR V cb s X w0 (.int .i64 (dep V y))) (by exact Va) rfl rfl (fun w_ e_ => ih (rkR V y) (by omega) y ry w_ rfl hy (h5.ext e_) (fun c hc => Nat.lt_of_lt_of_le (hX5 c hc) e_.size)) ?_
          rintro v w7 w6 e6 m7 ⟨rfl, h7⟩
          have m17 : Mod (SvB s) w w7 := (m15.ext e6).trans m7
          have hd0 := dep_nonneg V y
          have hd1 := dep_len V y
          repeat (first | refine Vx ?_ | (apply Ops_q; (case hon => exact Va); (case hd => rfl); (case hq => exact YlA)) | refine Vr ?_ | refine Vt ?_ | refine Vf ?_ | refine Vm ?_ | refine Ve ?_ | refine Vo ?_ | refine Vz ?_ | refine Vn ?_)
          exact ⟨k + 1, by rw [hfold, depS, hn, ← eh]; dsimp only; rw [if_neg (by rw [hl]; decide)]; exact (by repeat (first | exact trivial | refine ⟨rfl, ?_⟩)), ⟨m17, hkl, h7⟩, by omega⟩
    · obtain rfl : k = r.hops.length := by have := of_decide_eq_false hg; omega
      rw [List.take_length, ← dep_eq hr]
      have kb1 := h1.r.blk
      unfold Sv.cells at kb1
      obtain ⟨F2, b1, b2⟩ := h1.deps
      repeat (first | refine Vx ?_ | (apply Ops_q; (case hon => exact Va); (case hd => rfl); (case hq => exact YlA)) | refine Vr ?_ | refine Vt ?_ | refine Vf ?_ | refine Vm ?_ | refine Ve ?_ | refine Vo ?_ | refine Vz ?_ | refine Vn ?_)
      refine Ops_mapUpdate (by exact Va) rfl rfl rfl b1 ?_
      intro w9 g9 b9
      have h9 := h1.putDep g9 b1 b2 b9
      repeat (first | refine Vx ?_ | (apply Ops_q; (case hon => exact Va); (case hd => rfl); (case hq => exact YlA)) | refine Vr ?_ | refine Vt ?_ | refine Vf ?_ | refine Vm ?_ | refine Ve ?_ | refine Vo ?_ | refine Vz ?_ | refine Vn ?_)
      refine ret1 (by first | exact .inl rfl | exact .inr rfl) rfl rfl ?_
      exact Does_mk (fun w' he => ⟨rfl, h9.ext he⟩) (m1.grow g9 (fun b e => .inl (.inr (.inl (Option.some.inj e).symm))))
end
end Go.Proofs.Ytkdjbddjblahkaa

/-
  Regions that draw their order and hold one call among the first operations that may change what is there: what the others yield does not hang on it.
  No conditions beyond those that each rule states.
-/
namespace Go.Proofs.Ytkdjbddjblahkaa
open Go.RowKit

section
variable {P : Program} {md : Region.Mode} {ops : Array Oper}
/-- In every world that has grown from w0 the operation is a call that leaves a value of which R is known, in a world of C. -/
def LateC (P : Program) (w0 : World) (C : World → Prop) (R : Value → World → Prop) (o : Oper) (a : Act) : Prop :=
  ∀ w', Ext w0 w' → ∃ f vs, (execOp a.eval o).run P w' = .ok (.enter f vs) w' ∧ Calls P f vs w' (fun e w'' => ∃ x, e = .returned x ∧ C w'' ∧ R x w'')
def yC (P : Program) (C : World → Prop) (o : Oper) (a : Act) (v : Value) : Prop := ∀ w', C w' → o.quietAt P a (Ext w') w' v
def callY (P : Program) (w0 : World) (C : World → Prop) (R : Value → World → Prop) (d : Nat) (o : Oper) (a : Act) (v : Value) : Prop :=
  if o.dst = some d then v = undef ∧ LateC P w0 C R o a else yC P C o a v
theorem same_callY (P : Program) (w0 : World) (C : World → Prop) (R : Value → World → Prop) (d : Nat) : Same (callY P w0 C R d) := fun o a a' v he h => by
  unfold callY at *
  split at h
  · rename_i hd
    rw [if_pos hd]
    refine ⟨h.1, fun w' hw' => ?_⟩
    rw [he]; exact h.2 w' hw'
  · rename_i hd
    rw [if_neg hd]
    intro w' hw'
    have := h w' hw'
    unfold Oper.quietAt at *
    rwa [he]

theorem call_any {n s d : Nat} (early : Nat → Bool) {Q1 : Act → Prop} {Q : Exit → Act → World → Prop} {w0 : World} {C : World → Prop} {R : Value → World → Prop} {pre : Array Oper} (hCe : ∀ w w', C w → Ext w w' → C w') (hR : ∀ x w w', Ext w w' → R x w → R x w') (hn : n ≤ ops.size) (hP : ∀ i o, i < n → ops[i]? = some o → pre[i]? = some o)
    (hA : ∀ i, n ≤ i → i < ops.size → ∀ j, j < n → early j = true ∨ reach ops md 9 i j = true)
    (hE : ∀ i o, ops[i]? = some o → i < n → ∀ e ∈ o.after, e.on < i)
    (hG : ∀ i o, ops[i]? = some o → i < n → ∀ g, o.guard = some g → g.1 < n ∧ ∀ o', ops[g.1]? = some o' → o'.dst ≠ some d)
    (hsel : ∀ (j : Nat) (o : Oper) cs b, ops[j]? = some o → j < n → o.op ≠ .select cs b)
    (hD : ∀ i o, ops[i]? = some o → i < n → d ∉ o.looksAt ops)
    (hg0 : ∀ i o, ops[i]? = some o → i < n → o.dst = some d → o.guard = none)
    (hin : ∃ i o, i < n ∧ ops[i]? = some o ∧ o.dst = some d)
    (huniq : ∀ i o i' o', ops[i]? = some o → i < n → o.dst = some d → ops[i']? = some o' → i' < n → o'.dst = some d → i = i')
    (last : ∀ a' a w, C w → Q1 a' → But [d] a' a → (∃ x, a.tmps[d]? = some x ∧ R x w) → wpAny P md ops Q s (upto ops.size n) a w) :
    ∀ (f : Nat) (L L' : Array Bool) (a' a : Act) (w : World), C w → L'.size = n → L.size = ops.size → (∀ j, j < n → L[j]? = L'[j]?) → (∀ j, n ≤ j → j < ops.size → L[j]? = some false) → cnt n L' = f →
      (∀ j, j < n → early j = true → L[j]? = some true) → Closed ops md L → But [d] a' a → d < a.tmps.size → ((∀ i o, L[i]? = some true → i < n → ops[i]? = some o → o.dst ≠ some d) → Ext w0 w) → ((∃ i o, L[i]? = some true ∧ i < n ∧ ops[i]? = some o ∧ o.dst = some d) → ∃ x, a.tmps[d]? = some x ∧ R x w) →
      anyY md pre (callY P w0 C R d) Q1 f L' a' → wpAny P md ops Q (f + s) L a w := by
  intro f
  induction f with
  | zero =>
    intro L L' a' a w hC hs' hs h1 h2 hc hea hcl hbut hDs hX hm h
    have hlist : ∀ j, j < n → L[j]? = some true := fun j hj => by
      rw [h1 j hj]
      have := List.countP_eq_zero.1 hc j (List.mem_range.2 hj)
      have hlt : j < L'.size := by omega
      simp [hlt] at this
      simp [hlt, this]
    have hL : L = upto ops.size n := by
      refine Array.ext_getElem? fun j => ?_
      rcases Nat.lt_or_ge j ops.size with hj | hj
      · rw [upto_get _ _ _ hj]
        rcases Nat.lt_or_ge j n with hjn | hjn
        · rw [hlist j hjn]; simp [hjn]
        · rw [h2 j hjn hj]; simp; omega
      · rw [Array.getElem?_eq_none (by omega), Array.getElem?_eq_none (by rw [upto_size]; omega)]
    rw [Nat.zero_add]
    obtain ⟨i, o, hi, ho, hd⟩ := hin
    have hm' := hm ⟨i, o, hlist i hi, hi, ho, hd⟩
    rw [hL]
    exact last a' a w hC h.2 hbut hm'
  | succ f ih =>
    intro L L' a' a w hC hs' hs h1 h2 hc hea hcl hbut hDs hX hm h
    rw [Nat.succ_add]
    have un : ∃ j, j < n ∧ L'[j]? = some false ∧ ∀ k, k < j → L'[k]? = some true := by
      have hpos : 0 < cnt n L' := by omega
      obtain ⟨j, hj, hjf⟩ := List.countP_pos_iff.1 hpos
      have hjn := List.mem_range.1 hj
      have hjl : j < L'.size := by omega
      have hjf' : L'[j]? = some false := by simp [hjl] at hjf ⊢; exact hjf
      clear hj hjf hjl
      induction j using Nat.strongRecOn with
      | ind j ihj =>
        by_cases hall : ∀ k, k < j → L'[k]? = some true
        · exact ⟨j, hjn, hjf', hall⟩
        · obtain ⟨k, hk⟩ := Classical.not_forall.1 hall
          obtain ⟨hkj, hk⟩ := Classical.not_imp.1 hk
          have hkl : k < L'.size := by omega
          refine ihj k hkj (by omega) ?_
          rw [Array.getElem?_eq_getElem hkl] at hk ⊢
          cases hb : L'[k] with
          | true => rw [hb] at hk; exact absurd rfl hk
          | false => rfl
    obtain ⟨j0, hj0, hjf, hbelow⟩ := un
    have on_lt : ∀ {i : Nat} {o : Oper} {e : Edge}, ops[i]? = some o → i < n → e ∈ o.after → L.getD e.on false = L'.getD e.on false := fun ho hi he => by
      have h4 := hE _ _ ho hi _ he
      rename_i i0 o0 e0
      have h3 := h1 e0.on (by omega)
      rw [Array.getD_eq_getD_getElem?, Array.getD_eq_getD_getElem?, h3]
    have lt_n : ∀ i, i ∈ Region.ready md ops L → i < n := fun i hi => by
      obtain ⟨_, o, ho, hall⟩ := mem_ready.1 hi
      rcases Nat.lt_or_ge i n with h3 | h3
      · exact h3
      · have hlt : i < ops.size := by
          rcases Nat.lt_or_ge i ops.size with h' | h'
          · exact h'
          · rw [Array.getElem?_eq_none h'] at ho; cases ho
        rcases hA i h3 hlt j0 hj0 with h4 | h4
        · have := hea j0 hj0 h4
          rw [h1 j0 hj0, hjf] at this; cases this
        · have := reach_listed hcl 9 i j0 (fun o' ho' => by obtain rfl := Option.some.inj (ho.symm.trans ho'); exact hall) h4
          rw [getD_of ((h1 j0 hj0).trans hjf)] at this
          cases this
    refine ⟨fun hr => ?_, fun i hi => ?_⟩
    · exfalso
      have hmem : j0 ∈ Region.ready md ops L := by
        have hlt : j0 < ops.size := by omega
        refine mem_ready.2 ⟨getD_of ((h1 j0 hj0).trans hjf) _, ops[j0], Array.getElem?_eq_getElem hlt, fun e he _ => ?_⟩
        have hlt' := hE j0 _ (Array.getElem?_eq_getElem hlt) hj0 e he
        exact getD_of ((h1 _ (by omega)).trans (hbelow _ hlt')) _
      rw [hr] at hmem; cases hmem
    · have hin' := lt_n i hi
      have hcl' := hcl.set hi
      obtain ⟨hun, o, ho, hall⟩ := mem_ready.1 hi
      have hpo : pre[i]? = some o := hP i o hin' ho
      have hun' : L'.getD i true = false := by
        have := h1 i hin'
        simp only [Array.getD_eq_getD_getElem?, ← this] at hun ⊢; exact hun
      have hi' : i ∈ Region.ready md pre L' := mem_ready.2 ⟨hun', o, hpo, fun e he hb => by rw [← on_lt ho hin' he]; exact hall e he hb⟩
      have hq := (stepY_iff hpo).1 (h.2 i hi')
      obtain ⟨v, hv, hK⟩ := hq
      have hset : ∀ j, j < n → (L.setIfInBounds i true)[j]? = (L'.setIfInBounds i true)[j]? := fun j hj => by
        by_cases e : i = j
        · subst e
          have hl1 : i < L.size := by omega
          have hl2 : i < L'.size := by omega
          simp [hl1, hl2]
        · rw [Array.getElem?_setIfInBounds_ne e, Array.getElem?_setIfInBounds_ne e]; exact h1 j hj
      have hset2 : ∀ j, n ≤ j → j < ops.size → (L.setIfInBounds i true)[j]? = some false := fun j hj hjs => by
        rw [Array.getElem?_setIfInBounds_ne (by omega)]; exact h2 j hj hjs
      have hea' : ∀ j, j < n → early j = true → (L.setIfInBounds i true)[j]? = some true := fun j hj he => by
        by_cases e : i = j
        · subst e
          have hl1 : i < L.size := by omega
          simp [hl1]
        · rw [Array.getElem?_setIfInBounds_ne e]; exact hea j hj he
      have hc' : cnt n (L'.setIfInBounds i true) = f := by have := cnt_set n L' i hin' hun'; omega
      have old : ∀ k, (L.setIfInBounds i true)[k]? = some true → k ≠ i → L[k]? = some true := fun k hk hki => by
        rwa [Array.getElem?_setIfInBounds_ne (Ne.symm hki)] at hk
      have newi : (L.setIfInBounds i true)[i]? = some true := by
        have hl1 : i < L.size := by omega
        simp [hl1]
      have keepi : ∀ k, L[k]? = some true → (L.setIfInBounds i true)[k]? = some true := fun k hk => by
        by_cases e : i = k
        · subst e; exact newi
        · rw [Array.getElem?_setIfInBounds_ne e]; exact hk
      have hex : execOp a.eval o = execOp a'.eval o := hbut.exec o (fun cs b => hsel i o cs b ho hin') (fun x hx => by rw [List.mem_singleton.1 hx]; exact hD i o ho hin')
      unfold wpOp
      simp only [ho]
      by_cases hdo : o.dst = some d
      · have hgn := hg0 i o ho hin' hdo
        have hwt : ∀ y, Region.wanted o y = true := fun y => by unfold Region.wanted; rw [hgn]
        rw [if_pos (hwt _)]
        rcases hv with ⟨_, hy⟩ | ⟨hwn, _⟩
        · unfold callY at hy
          rw [if_pos hdo] at hy
          obtain ⟨rfl, hl⟩ := hy
          have hX' : Ext w0 w := hX (fun k ok hk hkn hok hkd => by
            obtain rfl := huniq i o k ok ho hin' hdo hok hkn hkd
            rw [getD_of hk] at hun; cases hun)
          obtain ⟨f', vs, hrun, hcall⟩ := hl w hX'
          rw [← hex] at hrun
          refine .inl ?_
          unfold Oper.wp
          rw [hrun]
          refine Calls.mono hcall fun e w'' hg => ?_
          obtain ⟨x, rfl, hCw, hRx⟩ := hg
          show wpAny P md ops Q (f + s) (L.setIfInBounds i true) (a.put o.dst x) w''
          rw [hdo] at hK ⊢
          have hb2 : But [d] (a'.put (some d) undef) (a.put (some d) x) := by
            refine ⟨hbut.defers, by simp [Act.put, hbut.size], fun k hk => ?_⟩
            have hne : d ≠ k := fun e => hk (by rw [e]; exact List.mem_singleton.2 rfl)
            simp only [Act.put]
            rw [Array.getElem?_setIfInBounds_ne hne, Array.getElem?_setIfInBounds_ne hne]
            exact hbut.slot k hk
          exact ih _ _ _ _ w'' hCw (by simpa using hs') (by simpa using hs) hset hset2 hc' hea' hcl' hb2 (by simp [Act.put, hDs]) (fun hno => absurd hdo (hno i o newi hin' ho)) (fun _ => ⟨x, by simp [Act.put, hDs], hRx⟩) hK
        · rw [hwt] at hwn; cases hwn
      · have hw : Region.wanted o (yielded pre a'.tmps) = Region.wanted o (yielded ops a.tmps) := by
          unfold Region.wanted
          cases hg : o.guard with
          | none => rfl
          | some gd =>
            obtain ⟨hg1, hg2⟩ := hG i o ho hin' gd hg
            have hlt : gd.1 < ops.size := by omega
            have hog := Array.getElem?_eq_getElem hlt
            have hpg := hP _ _ hg1 hog
            have hy : yielded pre a'.tmps gd.1 = yielded ops a.tmps gd.1 := by
              simp only [yielded, hpg, hog, Option.bind_some]
              cases hd : (ops[gd.1]'hlt).dst with
              | none => rfl
              | some d' =>
                have hdD : d' ∉ [d] := fun hdD => hg2 _ hog (by rw [hd, List.mem_singleton.1 hdD])
                simp only [Option.bind_some, hbut.slot d' hdD]
            simp only [hy]
        have made : ∀ u w'', Ext w w'' → (∃ k o, (L.setIfInBounds i true)[k]? = some true ∧ k < n ∧ ops[k]? = some o ∧ o.dst = some d) → ∃ x, (a.put o.dst u).tmps[d]? = some x ∧ R x w'' := fun u w'' hw'' ⟨k, ok, hk, hkn, hok, hkd⟩ => by
          have hki : k ≠ i := fun e => by subst e; obtain rfl := Option.some.inj (ho.symm.trans hok); exact hdo hkd
          obtain ⟨x, m1, m2⟩ := hm ⟨k, ok, old k hk hki, hkn, hok, hkd⟩
          refine ⟨x, ?_, hR x _ _ hw'' m2⟩
          cases hdst : o.dst with
          | none => exact m1
          | some y =>
            have : y ≠ d := fun e => hdo (by rw [hdst, e])
            simp only [Act.put]
            rw [Array.getElem?_setIfInBounds_ne this]; exact m1
        have szP : ∀ u, d < (a.put o.dst u).tmps.size := fun u => by cases o.dst <;> simp [Act.put, hDs]
        rcases hv with ⟨hwn, hy⟩ | ⟨hwn, hvu⟩
        · unfold callY at hy
          rw [if_neg hdo] at hy
          rw [hw] at hwn
          rw [if_pos hwn]
          refine .inl (Oper.wp_of_quiet (C := fun w'' => Ext w w'') (K := fun x => x = a.put o.dst v) (Ext.refl w) (fun a1 w1 hw1 e => ?_) ?_)
          · subst e
            exact ih _ _ (a'.put o.dst v) _ w1 (hCe _ _ hC hw1) (by simpa using hs') (by simpa using hs) hset hset2 hc' hea' hcl' (hbut.put _ _) (szP v) (fun hno => (hX (fun k ok hk hkn hok => hno k ok (keepi k hk) hkn hok)).trans hw1) (made v w1 hw1) hK
          · refine ⟨v, fun w1 hw1 => ?_, rfl⟩
            have hq1 := hy w1 (hCe _ _ hC hw1)
            unfold Oper.quietAt at hq1 ⊢
            rw [← hex] at hq1
            generalize (execOp a.eval o).run P w1 = r at *
            cases r with
            | ok nx w2 =>
              cases nx <;> simp only [Oper.quietUpon] at hq1 ⊢ <;> first | exact hq1 | exact ⟨hq1.1, hq1.2.mono fun e w3 h3 => ⟨h3.1, hw1.trans h3.2⟩⟩
            | halt x w2 => simp only [Oper.quietUpon] at hq1
        · rw [hw] at hwn
          rw [if_neg (by rw [hwn]; exact Bool.false_ne_true)]
          subst hvu
          exact ih _ _ (a'.put o.dst undef) _ w hC (by simpa using hs') (by simpa using hs) hset hset2 hc' hea' hcl' (hbut.put _ _) (szP _) (fun hno => hX (fun k ok hk hkn hok => hno k ok (keepi k hk) hkn hok)) (made undef w (Ext.refl w)) hK

theorem wp_call {ro : Option Nat} {l : List Oper} {n d id : Nat} {Q1 : Act → Prop} {Q : Exit → Act → World → Prop} {w0 w : World} {a : Act} {C : World → Prop} {R : Value → World → Prop} (hCe : ∀ w w', C w → Ext w w' → C w') (hC0 : ∀ w, Ext w0 w → C w) (hR : ∀ x w w', Ext w w' → R x w → R x w') (hnd : NoDef ro l) (hQ : ¬LetsOut Q) (hm : P.follows .mixedOrders = true) (hB : lateB l.toArray n d false = true)
    (hd : d < a.tmps.size) (hw : Ext w0 w)
    (h : listY (l.take n).toArray (callY P w0 C R d) Q1 (l.take n) a)
    (last : ∀ a' a w, C w → Q1 a' → But [d] a' a → (∃ x, a.tmps[d]? = some x ∧ R x w) → wpList P l.toArray Q (l.drop n) a w) :
    WpR ro P (.region id l.toArray true) Q a w := by
  simp only [lateB, Bool.and_eq_true] at hB
  obtain ⟨⟨⟨⟨⟨⟨b1, b0⟩, b2⟩, b3⟩, b4⟩, b5⟩, b6⟩ := hB
  have hn : n ≤ l.toArray.size := Nat.le_of_ble_eq_true b1
  have hnl : n ≤ l.length := by simpa using hn
  have at3 : ∀ i o, l.toArray[i]? = some o → _ := fun i o ho => by
    have hlt : i < l.toArray.size := by
      rcases Nat.lt_or_ge i l.toArray.size with h' | h'
      · exact h'
      · rw [Array.getElem?_eq_none h'] at ho; cases ho
    have := List.all_eq_true.1 b3 i (List.mem_range.2 hlt)
    simp only [ho] at this
    exact this
  have pre3 : ∀ i o, l.toArray[i]? = some o → i < n → _ := fun i o ho hi => by
    have := at3 i o ho
    rw [if_pos (Nat.ble_eq_true_of_le hi)] at this
    simp only [Bool.and_eq_true] at this
    exact this
  have hP : ∀ i o, i < n → l.toArray[i]? = some o → (l.take n).toArray[i]? = some o := fun i o hi ho => by
    have : l[i]? = some o := by simpa using ho
    simp [hi, this]
  have hE : ∀ i o, l.toArray[i]? = some o → i < n → ∀ e ∈ o.after, e.on < i := fun i o ho hi e he =>
    Nat.le_of_ble_eq_true (Array.all_eq_true_iff_forall_mem.1 (pre3 i o ho hi).1.1.1 e he)
  have hG : ∀ i o, l.toArray[i]? = some o → i < n → ∀ g, o.guard = some g → g.1 < n ∧ ∀ o', l.toArray[g.1]? = some o' → o'.dst ≠ some d := fun i o ho hi g hg => by
    have h2 := (pre3 i o ho hi).1.1.2
    rw [hg] at h2
    simp only [Bool.and_eq_true] at h2
    refine ⟨Nat.le_of_ble_eq_true h2.1, fun o' ho' => ?_⟩
    have h3 := h2.2
    rw [ho'] at h3
    simpa using h3
  have hD : ∀ i o, l.toArray[i]? = some o → i < n → d ∉ o.looksAt l.toArray := fun i o ho hi => by
    have h2 := (pre3 i o ho hi).1.2
    simpa using h2
  have hlate : ∀ i o, l.toArray[i]? = some o → i < n → o.dst = some d → o.guard = none ∧ ∀ i' o', l.toArray[i']? = some o' → i' < n → o'.dst = some d → i = i' := fun i o ho hi hdo => by
    have h2 := (pre3 i o ho hi).2
    rw [if_pos (by rw [hdo]; simp)] at h2
    simp only [Bool.and_eq_true] at h2
    refine ⟨by simpa using h2.1, fun i' o' ho' hi' hdo' => ?_⟩
    have h3 := List.all_eq_true.1 h2.2 i' (List.mem_range.2 hi')
    simp only [Bool.or_eq_true] at h3
    rcases h3 with h3 | h3
    · exact Nat.eq_of_beq_eq_true h3
    · rw [ho'] at h3
      simp [hdo'] at h3
  have hA : ∀ i, n ≤ i → i < l.toArray.size → ∀ j, j < n → (fun j => false && Nat.beq j 0) j = true ∨ reach l.toArray .any 9 i j = true := fun i hi his j hj => by
    have := at3 i _ (Array.getElem?_eq_getElem his)
    rw [if_neg (fun hb => by have := Nat.le_of_ble_eq_true hb; omega)] at this
    exact Bool.or_eq_true_iff.1 (List.all_eq_true.1 this j (List.mem_range.2 hj))
  have hr : ∀ k, n ≤ k → k < l.toArray.size → Region.ready .any l.toArray (upto l.toArray.size k) = [k] := fun k hk hks => by
    have := List.all_eq_true.1 b4 k (List.mem_range.2 hks)
    simp only [Bool.or_eq_true] at this
    rcases this with h' | h'
    · have := Nat.le_of_ble_eq_true h'; omega
    · split at h'
      · rename_i k' he
        rw [he, Nat.eq_of_beq_eq_true h']
      · cases h'
  have he : Region.ready .any l.toArray (upto l.toArray.size l.toArray.size) = [] := by simpa using b5
  have hex : ∃ i o, i < n ∧ l.toArray[i]? = some o ∧ o.dst = some d := by
    obtain ⟨i, hi, h2⟩ := List.any_eq_true.1 b6
    have hi' := List.mem_range.1 hi
    have hlt : i < l.toArray.size := by omega
    rw [Array.getElem?_eq_getElem hlt] at h2
    exact ⟨i, _, hi', Array.getElem?_eq_getElem hlt, by simpa using h2⟩
  simp only [Region.lexB, Bool.and_eq_true] at b2
  have hdl : (l.drop n).length = l.toArray.size - n := by simp
  have hlen : (l.take n).length = n := by simp; omega
  refine wpR_region_any (by simpa using hnd) hQ hm ?_
  have quiet := anyY_lex (md := .any) (same_callY P w0 C R d) b2.1 (l.take n) 0 (Array.replicate (l.take n).toArray.size false) a (by simp) (by simpa using b2.2) h
  have key := call_any (P := P) (md := .any) (ops := l.toArray) (pre := (l.take n).toArray) (n := n) (s := (l.drop n).length) (d := d) (fun j => false && Nat.beq j 0) (Q := Q) (Q1 := Q1) (w0 := w0) (R := R)
    hCe hR hn hP hA hE hG (fun j o cs b ho _ => Region.noSelect_spec b0 j o cs b ho) hD (fun i o ho hi hdo => (hlate i o ho hi hdo).1) hex (fun i o i' o' ho hi hd ho' hi' hd' => (hlate i o ho hi hd).2 i' o' ho' hi' hd')
    (fun a' a1 w1 hw1 q1 hb hmd => one_any hr he (l.drop n) n (Nat.le_refl _) (by rw [hdl]; omega) (fun j => by simp) a1 w1
      (last a' a1 w1 hw1 q1 hb hmd))
  have hall : ∀ k : Nat, (Array.replicate l.toArray.size false)[k]? ≠ some true := fun k hk => by
    simp only [Array.getElem?_replicate] at hk
    split at hk <;> simp at hk
  have hcnt : cnt n (Array.replicate (l.take n).toArray.size false) = (l.take n).length := by
    unfold cnt
    rw [List.countP_eq_length.2]
    · rw [hlen]; simp
    · intro j hj
      have := List.mem_range.1 hj
      have h2 : j < (l.take n).toArray.size := by simp; omega
      simp only [Array.getD_eq_getD_getElem?, Array.getElem?_replicate]
      rw [if_pos h2]; rfl
  have hsame : ∀ j, j < n → (Array.replicate l.toArray.size false)[j]? = (Array.replicate (l.take n).toArray.size false)[j]? := fun j hj => by
    have h1 : j < l.length := by omega
    have h2 : j < (l.take n).length := by omega
    simp only [Array.getElem?_replicate]
    rw [if_pos (by simpa using h1), if_pos (by simpa using h2)]
  have hclosed : Closed l.toArray .any (Array.replicate l.toArray.size false) := fun (k : Nat) o hk => by
    simp only [Array.getD_eq_getD_getElem?, Array.getElem?_replicate] at hk
    split at hk <;> simp at hk
  have e : (l.take n).length + (l.drop n).length = l.toArray.size := by rw [hlen, hdl]; omega
  have := key (l.take n).length (Array.replicate l.toArray.size false) (Array.replicate (l.take n).toArray.size false) a a { w with drawn := w.drawn + 1 } (hC0 _ hw.draw) (by simp; omega) (by simp)
    hsame (fun j _ hj => by simp only [Array.getElem?_replicate]; rw [if_pos hj]) hcnt (fun j _ h => by cases h) hclosed ⟨rfl, rfl, fun _ _ => rfl⟩ hd (fun _ => hw.draw) (fun ⟨i, o, hi, _⟩ => absurd hi (hall i)) quiet
  rwa [e] at this

end

section
variable {P : Program} {N : Fr} {m : Env} {w : World} {C : World → Prop}
/-- Operations without guards that yield the same values in every world of C; K is known of the frame behind them. -/
def YsC (P : Program) (N : Fr) (C : World → Prop) (d : Nat) (K : Env → Prop) : List Oper → Env → Prop
  | [], m => K m
  | o :: r, m => ∃ d' v, o.dst = some d' ∧ Nat.ble (d' + 1) N.n = true ∧ Nat.beq d' d = false ∧ o.guard = none ∧ (∀ w, C w → Yl P N m w o v) ∧ YsC P N C d K r ((d', v) :: m)
theorem YsC.nil {d : Nat} {K : Env → Prop} {l : List Oper} (hl : l = []) (h : K m) : YsC P N C d K l m := by subst hl; exact h
theorem YsC.cons {d d' : Nat} {o : Oper} {r : List Oper} {v : Value} {K : Env → Prop} (h1 : o.dst = some d') (h2 : Nat.ble (d' + 1) N.n = true) (h3 : Nat.beq d' d = false) (h4 : o.guard = none) (h5 : ∀ w, C w → Yl P N m w o v) (h6 : YsC P N C d K r ((d', v) :: m)) : YsC P N C d K (o :: r) m :=
  ⟨d', v, h1, h2, h3, h4, h5, h6⟩
theorem listY_ys {ops : Array Oper} {Q : Act → Prop} {w0 : World} {R : Value → World → Prop} {d : Nat} {K : Env → Prop} (hQ : ∀ M a, K M → Agree N M a → Q a) : ∀ (l : List Oper) (m : Env) (a : Act), YsC P N C d K l m → Agree N m a → listY ops (callY P w0 C R d) Q l a
  | [], m, a, h, ha => hQ m a h ha
  | o :: r, m, a, h, ha => by
    obtain ⟨d', v, h1, h2, h3, h4, h5, h6⟩ := h
    unfold listY
    rw [if_pos (by unfold Region.wanted; rw [h4])]
    refine ⟨v, ?_, ?_⟩
    · unfold callY
      rw [if_neg (fun e => by rw [h1] at e; cases e; rw [Nat.beq_refl] at h3; cases h3)]
      exact fun w' hw' => (h5 w' hw').out a w' ha (Ext.refl _)
    · rw [h1]
      exact listY_ys hQ r _ _ h6 (ha.put (Nat.le_of_ble_eq_true h2) v)
/-- A region that draws its order, with a call at place i0 among its first n operations. -/
theorem V_callC (n i0 : Nat) {Q : Exit → Env → World → Prop} {id : Nat} {l : List Oper} {d : Nat} {f : FuncId} {xs : Array Operand} {ats : Array TypeId} {ty : TypeId} {pos : String} {after : Array Edge} {R : Value → World → Prop} [hf : TFun P f]
    (hCe : ∀ w w', C w → Ext w w' → C w') (hC0 : ∀ w', Ext w w' → C w') (hR : ∀ x w w', Ext w w' → R x w → R x w')
    (hm : P.follows .mixedOrders = true) (ho : l.take n = l.take i0 ++ ⟨some d, .call { callee := .value (.func f), args := xs, argTypes := ats }, ty, pos, after, none⟩ :: (l.take n).drop (i0 + 1)) (hB : lateB l.toArray n d false = true) (hd : Nat.ble (d + 1) N.n = true)
    (h : YsC P N C d (fun M1 => ∃ vs, evs M1 xs.toList = some vs ∧ (∀ w', Ext w w' → Calls P f vs.toArray w' (fun e w'' => ∃ x, e = .returned x ∧ C w'' ∧ R x w'')) ∧
      YsC P N C d (fun M2 => ∀ x w2, C w2 → R x w2 → Ops P N l.toArray false (fun m w => Q .normal m w) (l.drop n) ((d, x) :: M2) w2) ((l.take n).drop (i0 + 1)) ((d, undef) :: M1)) (l.take i0) m)
    (hnd : NoDef N.ro l := by first | exact .inl rfl | exact .inr (by kernel_rfl)) :
    V P N (.region id l.toArray true) Q m w := by
  have hlt : d < N.n := Nat.le_of_ble_eq_true hd
  refine ⟨fun a w' ha hw => wpR_mono (Q := fun e a w => e = .normal ∧ lift N Q .normal a w) (fun e a w ⟨h1, h2⟩ => by rw [h1]; exact h2) ?_⟩
  refine wp_call (w0 := w) (C := C) (R := R) hCe hC0 hR hnd noLet hm hB (by rw [ha.size]; exact hlt) hw (Q1 := fun a' => ∃ M2, (∀ x w2, C w2 → R x w2 → Ops P N l.toArray false (fun m w => Q .normal m w) (l.drop n) ((d, x) :: M2) w2) ∧ Agree N M2 a') ?_ ?_
  · generalize hL : (l.take n).toArray = A
    rw [ho]
    refine listY_append _ _ _ (listY_ys (fun M1 a1 ⟨vs, hx, hc, h2⟩ ag1 => ?_) _ _ _ h ha)
    unfold listY
    rw [if_pos (by unfold Region.wanted; rfl)]
    refine ⟨undef, ?_, ?_⟩
    · unfold callY
      rw [if_pos rfl]
      refine ⟨rfl, fun w1 hw1 => ⟨f, vs.toArray, ?_, hc w1 hw1⟩⟩
      have e1 : xs.map a1.eval = vs.toArray := map_evs ag1 hx
      rw [execOp_call_go, e1]
      simpa using hf.h vs.toArray w1
    · exact listY_ys (fun M2 _ h3 ag2 => ⟨M2, h3, ag2⟩) _ _ _ h2 (ag1.put hlt undef)
  · rintro a' a1 w1 hw1 ⟨M2, h, ag⟩ hb ⟨x, hx, hR1⟩
    have ag1 : Agree N ((d, x) :: M2) a1 := by
      refine ⟨by rw [hb.defers]; exact ag.defers, by rw [hb.size]; exact ag.size, fun i v hi => ?_⟩
      by_cases e : d = i
      · subst e
        rw [look_same] at hi; cases hi; exact hx
      · rw [look_other _ _ e] at hi
        rw [hb.slot i (fun h => e (List.mem_singleton.1 h).symm)]
        exact ag.slot i v hi
    have h5 := (h x w1 hw1 hR1).out a1 w1 ag1 (Ext.refl _)
    have mono : ∀ (l' : List Oper) (a : Act) (w0 : World), wpList P l.toArray (fun e a' w'' => e = .normal ∧ ∃ m' w1, Q .normal m' w1 ∧ Agree N m' a' ∧ Ext w1 w'') l' a w0 → wpList P l.toArray (fun e a w => e = .normal ∧ lift N Q .normal a w) l' a w0 := by
      intro l'
      induction l' with
      | nil => exact fun a w0 ⟨_, m', w1, q, ag, ex⟩ => ⟨rfl, m', w1, q, ag, ex⟩
      | cons o r ih =>
        intro a w0 h6
        unfold wpList at h6 ⊢
        split
        · rename_i hwn
          rw [if_pos hwn] at h6
          rcases h6 with h6 | h6
          · exact .inl (wp_normal (fun a1 w1 hh => ih a1 w1 hh) h6)
          · obtain ⟨_, _, _, h7, _⟩ := h6; cases h7
        · rename_i hwn
          rw [if_neg hwn] at h6
          exact ih _ _ h6
    exact mono _ _ _ h5
end
end Go.Proofs.Ytkdjbddjblahkaa

/-
  Part 5 of the texts that the proof of this claim leans on: rules of a walk, contracts of functions, plain facts. Each piece says below what it proves.
  No conditions beyond those that each lemma states.
-/
import Derived.Test.YtjpnaofoeeegeaaT4

/-
  Stride tables (layer 8): counts of bits; comparisons of tables; the search for a value below -1.
  Conditions: the lists are not too long for a machine.
-/
namespace Go.Proofs.Ytjpnaofoeeegeaa
open Go.RowKit

/-! ### Bits -/
theorem and_one64 (x n : Nat) (hx : x < 18446744073709551616) : bits .and .u64 ((x : Int) / 2 ^ ((n : Nat) : Int).toNat) 1 = ((x / 2 ^ n % 2 : Nat) : Int) := by
  have h : x / 2 ^ n < 18446744073709551616 := Nat.lt_of_le_of_lt (Nat.div_le_self _ _) hx
  rw [Int.toNat_natCast, cast_div, show (1 : Int) = ((1 : Nat) : Int) from rfl, u64_and_nat _ _ h (by omega), nat_mask1]
theorem rank_v (x k : Nat) (w : World) (hx : x < 18446744073709551616) (hk : k ≤ 64) : Calls Try.prog 45 #[.int .u64 x, .int .i64 k] w (Ret (.int .i64 (rankN x k)) w) := by
  have hcl : ∀ w, Calls Try.prog 83 #[.int .i64 k, .int .i64 64] w (Ret (.int .i64 k) w) := fun w => by
    have e : min (max (k : Int) 0) 64 = (k : Int) := by omega
    exact (clamp_any k 64 w).mono fun e' w' ⟨h1, h2⟩ => ⟨by rw [h1, e], h2 ▸ Ext.refl _⟩
  refine V_enter (vs := [_, _]) Try.func45 rfl Try.ntmps45 (Nat.le_of_ble_eq_true rfl) ?_
  repeat (first | refine Vx ?_ | (apply Ops_q; (case hon => exact Va); (case hd => rfl); (case hq => exact YlA)) | refine Vr ?_ | refine Vt ?_ | refine Vf ?_ | refine Vm ?_ | refine Ve ?_ | refine Vo ?_ | refine Vz ?_ | refine Vn ?_)
  (apply Ops_q; (case hon => (exact Va)); (case hd => rfl); (case hq => exact Yl_call rfl (fun w_ e_ => hcl w_)))
  repeat (first | refine Vx ?_ | (apply Ops_q; (case hon => exact Va); (case hd => rfl); (case hq => exact YlA)) | refine Vr ?_ | refine Vt ?_ | refine Vf ?_ | refine Vm ?_ | refine Ve ?_ | refine Vo ?_ | refine Vz ?_ | refine Vn ?_)
  refine V_loop (fun j : Nat => [(9, .int .i64 j), (8, .int .i64 k), (5, .int .i64 (rankN x j)), (0, .int .u64 x)]) (fun j w' => w' = w ∧ j ≤ k) (fun j => k - j) 0 (by repeat (first | exact trivial | refine ⟨rfl, ?_⟩)) ⟨rfl, Nat.zero_le _⟩ ?_
  rintro j w1 ⟨rfl, hj⟩
  repeat (first | refine Vx ?_ | (apply Ops_q; (case hon => exact Va); (case hd => rfl); (case hq => exact YlA)) | refine Vr ?_ | refine Vt ?_ | refine Vf ?_ | refine Vm ?_ | refine Ve ?_ | refine Vo ?_ | refine Vz ?_ | refine Vn ?_)
  refine V_cond rfl (fun hg => ?_) (fun hg => ?_)
  · have hjk : j < k := by have := of_decide_eq_true hg; omega
    clear hg
    have hb := and_one64 x j hx
    have hr := rankN_le x j
    have h2 : x / 2 ^ j % 2 < 2 := Nat.mod_lt _ (by omega)
    have hin : InK .i64 (bits .and .u64 ((x : Int) / 2 ^ ((j : Nat) : Int).toNat) 1) := by rw [hb]; simp only [InK]; omega
    have hin2 : InK .i64 ((rankN x j : Int) + bits .and .u64 ((x : Int) / 2 ^ ((j : Nat) : Int).toNat) 1) := by rw [hb]; simp only [InK]; omega
    have he : (rankN x j : Int) + bits .and .u64 ((x : Int) / 2 ^ ((j : Nat) : Int).toNat) 1 = ((rankN x (j + 1) : Nat) : Int) := by rw [hb, rankN, Int.natCast_add]
    repeat (first | refine Vx ?_ | (apply Ops_q; (case hon => exact Va); (case hd => rfl); (case hq => exact YlA)) | refine Vr ?_ | refine Vt ?_ | refine Vf ?_ | refine Vm ?_ | refine Ve ?_ | refine Vo ?_ | refine Vz ?_ | refine Vn ?_)
    rw [he]
    refine ⟨j + 1, (by repeat (first | exact trivial | refine ⟨rfl, ?_⟩)), ⟨rfl, hjk⟩, by omega⟩
  · obtain rfl : j = k := by have := of_decide_eq_false hg; omega
    repeat (first | refine Vx ?_ | (apply Ops_q; (case hon => exact Va); (case hd => rfl); (case hq => exact YlA)) | refine Vr ?_ | refine Vt ?_ | refine Vf ?_ | refine Vm ?_ | refine Ve ?_ | refine Vo ?_ | refine Vz ?_ | refine Vn ?_)
    refine ret1 (by first | exact .inl rfl | exact .inr rfl) rfl rfl ?_
    exact Ret_mk rfl (Ext.refl _)
theorem ones_v (x : Nat) (w : World) (hx : x < 18446744073709551616) : Calls Try.prog 105 #[.int .u64 x] w (Ret (.int .i64 (rankN x 64)) w) := by
  refine V_enter (vs := [_]) Try.func105 rfl Try.ntmps105 (Nat.le_of_ble_eq_true rfl) ?_
  repeat (first | refine Vx ?_ | (apply Ops_q; (case hon => exact Va); (case hd => rfl); (case hq => exact YlA)) | refine Vr ?_ | refine Vt ?_ | refine Vf ?_ | refine Vm ?_ | refine Ve ?_ | refine Vo ?_ | refine Vz ?_ | refine Vn ?_)
  (apply Ops_q; (case hon => (exact Va)); (case hd => rfl); (case hq => exact Yl_call rfl (fun w_ e_ => rank_v x 64 w_ hx (Nat.le_refl _))))
  repeat (first | refine Vx ?_ | (apply Ops_q; (case hon => exact Va); (case hd => rfl); (case hq => exact YlA)) | refine Vr ?_ | refine Vt ?_ | refine Vf ?_ | refine Vm ?_ | refine Ve ?_ | refine Vo ?_ | refine Vz ?_ | refine Vn ?_)
  refine ret1 (by first | exact .inl rfl | exact .inr rfl) rfl rfl ?_
  exact Ret_mk rfl (Ext.refl _)
/-! ### Tables in memory -/
def Nds (w : World) (ao : Option Addr) (N : List Nd) : Prop := Arr w 4 ao (N.map Nd.cells)
def Ins (w : World) (ao : Option Addr) (L : List Int) : Prop := Arr w 1 ao (L.map ic)
section
variable {w w' : World} {ao : Option Addr} {N : List Nd} {L : List Int} {k : Nat}
theorem Nds.ext (h : Nds w ao N) (he : Ext w w') : Nds w' ao N := Arr.ext h he
theorem Ins.ext (h : Ins w ao L) (he : Ext w w') : Ins w' ao L := Arr.ext h he
theorem Nds.at {x : Nd} (h : Nds w ao N) (hk : N[k]? = some x) : ∃ ad, ao = some ad ∧ Cells w (ad.add (k * 4)) [.int .u64 x.inner, .int .u64 x.leaf, .int .i64 x.nodes, .int .i64 x.first] := h k x.cells (by rw [List.getElem?_map, hk]; rfl)
theorem Ins.at {x : Int} (h : Ins w ao L) (hk : L[k]? = some x) : ∃ ad, ao = some ad ∧ w.cell? (ad.add (k * 1)) = some (.int .i64 x) := by
  obtain ⟨ad, h1, h2⟩ := h k (ic x) (by rw [List.getElem?_map, hk]; rfl)
  refine ⟨ad, h1, ?_⟩
  have := h2 0 _ rfl
  rw [add_add, Nat.add_zero] at this; exact this
end
theorem World_cell_ext {w w' : World} {a : Addr} {v : Value} (h : w.cell? a = some v) (he : Ext w w') : w'.cell? a = some v := he.cell h
instance eqNd (a b c d a' b' c' d' : Int) : TEqv Try.prog 73 (.agg #[.int .u64 a, .int .u64 b, .int .i64 c, .int .i64 d]) (.agg #[.int .u64 a', .int .u64 b', .int .i64 c', .int .i64 d']) (decide (a = a' ∧ b = b' ∧ c = c' ∧ d = d')) := ⟨fun w => by
  have u3 := Try.underlying3
  have a3 := Try.isAgg3
  have u4 := Try.underlying53
  have a4 : ∀ w, (isAgg 53).run Try.prog w = .ok false w := fun _ => by kernel_rfl
  have hS : Try.prog.underlying 73 = some (.struct (Try.prog.fieldsOf 73)) := by kernel_rfl
  show (Op.equalIn (9999 + 1) 73 _ _).run _ _ = _
  rw [run_equalIn_agg w 9999 73 _ _ hS (by kernel_rfl)]
  simp only [Program.fieldsOf, Try.underlying73]
  go_simp
  by_cases h1 : a = a' <;> by_cases h2 : b = b' <;> by_cases h3 : c = c' <;> by_cases h4 : d = d' <;> simp [h1, h2, h3, h4], by kernel_rfl⟩
theorem eqNd_dec (x y : Nd) : decide ((x.inner : Int) = (y.inner : Int) ∧ (x.leaf : Int) = (y.leaf : Int) ∧ x.nodes = y.nodes ∧ x.first = y.first) = decide (x = y) := by
  by_cases h : x = y
  · subst h; simp
  · rw [decide_eq_false h, decide_eq_false]
    rintro ⟨h1, h2, h3, h4⟩
    refine h ?_
    obtain ⟨a, b, c, d⟩ := x
    obtain ⟨a', b', c', d'⟩ := y
    dsimp only at h1 h2 h3 h4
    rw [show a = a' by omega, show b = b' by omega, h3, h4]
theorem sameNodesR_v (ao bo : Option Addr) (A B : List Nd) (c d : Nat) (w : World) (hA : Nds w ao A) (hB : Nds w bo B) (hn : A.length ≤ 4611686018427387904) : Calls Try.prog 50 #[.slice ao A.length c, .slice bo B.length d] w (Ret (.bool (decide (A = B))) w) := by
  refine V_enter (vs := [_, _]) Try.func50 rfl Try.ntmps50 (Nat.le_of_ble_eq_true rfl) ?_
  repeat (first | refine Vx ?_ | (apply Ops_q; (case hon => exact Va); (case hd => rfl); (case hq => exact YlA)) | refine Vr ?_ | refine Vt ?_ | refine Vf ?_ | refine Vm ?_ | refine Ve ?_ | refine Vo ?_ | refine Vz ?_ | refine Vn ?_)
  refine V_cond rfl (fun h1 => ?_) (fun h1 => ?_)
  · have hne : A.length ≠ B.length := fun e => by
      have : ¬((A.length : Int) = (B.length : Int)) := by simpa using h1
      omega
    repeat (first | refine Vx ?_ | (apply Ops_q; (case hon => exact Va); (case hd => rfl); (case hq => exact YlA)) | refine Vr ?_ | refine Vt ?_ | refine Vf ?_ | refine Vm ?_ | refine Ve ?_ | refine Vo ?_ | refine Vz ?_ | refine Vn ?_)
    refine ret1 (by first | exact .inl rfl | exact .inr rfl) rfl rfl ?_
    exact Ret_mk (by rw [decide_eq_false (fun e => hne (by rw [e]))]) (Ext.refl _)
  have hlen : A.length = B.length := by
    have : (A.length : Int) = (B.length : Int) := by simpa using h1
    omega
  clear h1
  repeat (first | refine Vx ?_ | (apply Ops_q; (case hon => exact Va); (case hd => rfl); (case hq => exact YlA)) | refine Vr ?_ | refine Vt ?_ | refine Vf ?_ | refine Vm ?_ | refine Ve ?_ | refine Vo ?_ | refine Vz ?_ | refine Vn ?_)
  refine V_loop (fun k : Nat => [(14, .int .i64 k), (13, .int .i64 A.length), (12, .slice ao A.length c), (1, .slice bo B.length d)]) (fun k w' => Ext w w' ∧ k ≤ A.length ∧ ∀ j, j < k → A[j]? = B[j]?) (fun k => A.length - k) 0 (by repeat (first | exact trivial | refine ⟨rfl, ?_⟩)) ⟨Ext.refl _, Nat.zero_le _, fun j h => by omega⟩ ?_
  rintro k w1 ⟨e1, hk, hs⟩
  repeat (first | refine Vx ?_ | (apply Ops_q; (case hon => exact Va); (case hd => rfl); (case hq => exact YlA)) | refine Vr ?_ | refine Vt ?_ | refine Vf ?_ | refine Vm ?_ | refine Ve ?_ | refine Vo ?_ | refine Vz ?_ | refine Vn ?_)
  refine V_cond rfl (fun hg => ?_) (fun hg => ?_)
  · replace hg := of_decide_eq_true hg
    have hkl : k < A.length := by omega
    clear hg
    obtain ⟨x, hx⟩ : ∃ x, A[k]? = some x := ⟨_, List.getElem?_eq_getElem hkl⟩
    obtain ⟨y, hy⟩ : ∃ y, B[k]? = some y := ⟨_, List.getElem?_eq_getElem (by omega)⟩
    obtain ⟨ad, rfl, hc⟩ := hA.at hx
    obtain ⟨bd, rfl, hd⟩ := hB.at hy
    have hkb : k < B.length := by omega
    have hc1 : Cells w1 (ad.add (k * 4)) [.int .u64 x.inner, .int .u64 x.leaf, .int .i64 x.nodes, .int .i64 x.first] := hc.ext e1
    repeat (first | refine Vx ?_ | (apply Ops_q; (case hon => exact Va); (case hd => rfl); (case hq => exact YlA)) | refine Vr ?_ | refine Vt ?_ | refine Vf ?_ | refine Vm ?_ | refine Ve ?_ | refine Vo ?_ | refine Vz ?_ | refine Vn ?_)
    (apply Ops_q; (case hon => (exact Va)); (case hd => rfl); (case hq => exact Yl_indexS (j := k) rfl rfl (by omega)))
    repeat (first | refine Vx ?_ | (apply Ops_q; (case hon => exact Va); (case hd => rfl); (case hq => exact YlA)) | refine Vr ?_ | refine Vt ?_ | refine Vf ?_ | refine Vm ?_ | refine Ve ?_ | refine Vo ?_ | refine Vz ?_ | refine Vn ?_)
    (refine Ops_alloc (by exact Va) rfl ?_; intro w2 b2 n_b2; have k_b2 := n_b2.blk)
    repeat (first | refine Vx ?_ | (apply Ops_q; (case hon => exact Va); (case hd => rfl); (case hq => exact YlA)) | refine Vr ?_ | refine Vt ?_ | refine Vf ?_ | refine Vm ?_ | refine Ve ?_ | refine Vo ?_ | refine Vz ?_ | refine Vn ?_)
    (refine Ops_store (by exact Va) rfl rfl (by assumption) (by first | rfl | exact OneAll.h) ?_; intro w3 u_w3; have k_b2 := u_w3.blk)
    have e3 := u_w3.below (e1.trans n_b2.ext) (Nat.le_trans e1.size n_b2.ge)
    have hd1 : Cells w3 (bd.add (k * 4)) [.int .u64 y.inner, .int .u64 y.leaf, .int .i64 y.nodes, .int .i64 y.first] := hd.ext e3
    repeat (first | refine Vx ?_ | (apply Ops_q; (case hon => exact Va); (case hd => rfl); (case hq => exact YlA)) | refine Vr ?_ | refine Vt ?_ | refine Vf ?_ | refine Vm ?_ | refine Ve ?_ | refine Vo ?_ | refine Vz ?_ | refine Vn ?_)
    (apply Ops_q; (case hon => (exact Va)); (case hd => rfl); (case hq => exact Yl_indexS (j := k) rfl rfl (by omega)))
    repeat (first | refine Vx ?_ | (apply Ops_q; (case hon => exact Va); (case hd => rfl); (case hq => exact YlA)) | refine Vr ?_ | refine Vt ?_ | refine Vf ?_ | refine Vm ?_ | refine Ve ?_ | refine Vo ?_ | refine Vz ?_ | refine Vn ?_)
    rw [eqNd_dec]
    refine V_cond rfl (fun h2 => ?_) (fun h2 => ?_)
    · have hne : x ≠ y := by simpa using h2
      repeat (first | refine Vx ?_ | (apply Ops_q; (case hon => exact Va); (case hd => rfl); (case hq => exact YlA)) | refine Vr ?_ | refine Vt ?_ | refine Vf ?_ | refine Vm ?_ | refine Ve ?_ | refine Vo ?_ | refine Vz ?_ | refine Vn ?_)
      refine ret1 (by first | exact .inl rfl | exact .inr rfl) rfl rfl ?_
      exact Ret_mk (by rw [decide_eq_false (fun e => hne (by rw [e, hy] at hx; exact (Option.some.inj hx).symm))]) e3
    · have heq : x = y := by simpa using h2
      repeat (first | refine Vx ?_ | (apply Ops_q; (case hon => exact Va); (case hd => rfl); (case hq => exact YlA)) | refine Vr ?_ | refine Vt ?_ | refine Vf ?_ | refine Vm ?_ | refine Ve ?_ | refine Vo ?_ | refine Vz ?_ | refine Vn ?_)
      refine ⟨k + 1, (by repeat (first | exact trivial | refine ⟨rfl, ?_⟩)), ⟨e3, hkl, fun j hj => ?_⟩, by omega⟩
      rcases Nat.lt_or_ge j k with c | c
      · exact hs j c
      · rw [show j = k by omega, hx, hy, heq]
  · replace hg := of_decide_eq_false hg
    obtain rfl : k = A.length := by omega
    repeat (first | refine Vx ?_ | (apply Ops_q; (case hon => exact Va); (case hd => rfl); (case hq => exact YlA)) | refine Vr ?_ | refine Vt ?_ | refine Vf ?_ | refine Vm ?_ | refine Ve ?_ | refine Vo ?_ | refine Vz ?_ | refine Vn ?_)
    refine ret1 (by first | exact .inl rfl | exact .inr rfl) rfl rfl ?_
    refine Ret_mk ?_ e1
    rw [decide_eq_true]
    refine List.ext_getElem? fun j => ?_
    rcases Nat.lt_or_ge j A.length with c | c
    · exact hs j c
    · rw [List.getElem?_eq_none c, List.getElem?_eq_none (by omega)]
theorem equalNodes_v (ao bo : Option Addr) (A B : List Nd) (c d : Nat) (w : World) (hA : Nds w ao A) (hB : Nds w bo B) (hn : A.length ≤ 4611686018427387904) : Calls Try.prog 108 #[.slice ao A.length c, .slice bo B.length d] w (Ret (.bool (decide (A = B))) w) := by
  refine V_enter (vs := [_, _]) Try.func108 rfl Try.ntmps108 (Nat.le_of_ble_eq_true rfl) ?_
  repeat (first | refine Vx ?_ | (apply Ops_q; (case hon => exact Va); (case hd => rfl); (case hq => exact YlA)) | refine Vr ?_ | refine Vt ?_ | refine Vf ?_ | refine Vm ?_ | refine Ve ?_ | refine Vo ?_ | refine Vz ?_ | refine Vn ?_)
  refine V_cond rfl (fun h1 => ?_) (fun h1 => ?_)
  · have hne : A.length ≠ B.length := fun e => by
      have : ¬((A.length : Int) = (B.length : Int)) := by simpa using h1
      omega
    repeat (first | refine Vx ?_ | (apply Ops_q; (case hon => exact Va); (case hd => rfl); (case hq => exact YlA)) | refine Vr ?_ | refine Vt ?_ | refine Vf ?_ | refine Vm ?_ | refine Ve ?_ | refine Vo ?_ | refine Vz ?_ | refine Vn ?_)
    refine ret1 (by first | exact .inl rfl | exact .inr rfl) rfl rfl ?_
    exact Ret_mk (by rw [decide_eq_false (fun e => hne (by rw [e]))]) (Ext.refl _)
  have hlen : A.length = B.length := by
    have : (A.length : Int) = (B.length : Int) := by simpa using h1
    omega
  clear h1
  repeat (first | refine Vx ?_ | (apply Ops_q; (case hon => exact Va); (case hd => rfl); (case hq => exact YlA)) | refine Vr ?_ | refine Vt ?_ | refine Vf ?_ | refine Vm ?_ | refine Ve ?_ | refine Vo ?_ | refine Vz ?_ | refine Vn ?_)
  refine V_loop (fun k : Nat => [(13, .int .i64 k), (12, .int .i64 A.length), (0, .slice ao A.length c), (1, .slice bo B.length d)]) (fun k w' => Ext w w' ∧ k ≤ A.length ∧ ∀ j, j < k → A[j]? = B[j]?) (fun k => A.length - k) 0 (by repeat (first | exact trivial | refine ⟨rfl, ?_⟩)) ⟨Ext.refl _, Nat.zero_le _, fun j h => by omega⟩ ?_
  rintro k w1 ⟨e1, hk, hs⟩
  repeat (first | refine Vx ?_ | (apply Ops_q; (case hon => exact Va); (case hd => rfl); (case hq => exact YlA)) | refine Vr ?_ | refine Vt ?_ | refine Vf ?_ | refine Vm ?_ | refine Ve ?_ | refine Vo ?_ | refine Vz ?_ | refine Vn ?_)
  refine V_cond rfl (fun hg => ?_) (fun hg => ?_)
  · replace hg := of_decide_eq_true hg
    have hkl : k < A.length := by omega
    clear hg
    obtain ⟨x, hx⟩ : ∃ x, A[k]? = some x := ⟨_, List.getElem?_eq_getElem hkl⟩
    obtain ⟨y, hy⟩ : ∃ y, B[k]? = some y := ⟨_, List.getElem?_eq_getElem (by omega)⟩
    obtain ⟨ad, rfl, hc⟩ := hA.at hx
    obtain ⟨bd, rfl, hd⟩ := hB.at hy
    have hkb : k < B.length := by omega
    have hc1 : Cells w1 (ad.add (k * 4)) [.int .u64 x.inner, .int .u64 x.leaf, .int .i64 x.nodes, .int .i64 x.first] := hc.ext e1
    have hd1 : Cells w1 (bd.add (k * 4)) [.int .u64 y.inner, .int .u64 y.leaf, .int .i64 y.nodes, .int .i64 y.first] := hd.ext e1
    repeat (first | refine Vx ?_ | (apply Ops_q; (case hon => exact Va); (case hd => rfl); (case hq => exact YlA)) | refine Vr ?_ | refine Vt ?_ | refine Vf ?_ | refine Vm ?_ | refine Ve ?_ | refine Vo ?_ | refine Vz ?_ | refine Vn ?_)
    (apply Ops_q; (case hon => (exact Va)); (case hd => rfl); (case hq => exact Yl_indexS (j := k) rfl rfl (by omega)))
    repeat (first | refine Vx ?_ | (apply Ops_q; (case hon => exact Va); (case hd => rfl); (case hq => exact YlA)) | refine Vr ?_ | refine Vt ?_ | refine Vf ?_ | refine Vm ?_ | refine Ve ?_ | refine Vo ?_ | refine Vz ?_ | refine Vn ?_)
    (apply Ops_q; (case hon => (exact Va)); (case hd => rfl); (case hq => exact Yl_indexS (j := k) rfl rfl (by omega)))
    repeat (first | refine Vx ?_ | (apply Ops_q; (case hon => exact Va); (case hd => rfl); (case hq => exact YlA)) | refine Vr ?_ | refine Vt ?_ | refine Vf ?_ | refine Vm ?_ | refine Ve ?_ | refine Vo ?_ | refine Vz ?_ | refine Vn ?_)
    rw [eqNd_dec]
    refine V_cond rfl (fun h2 => ?_) (fun h2 => ?_)
    · have hne : x ≠ y := by simpa using h2
      repeat (first | refine Vx ?_ | (apply Ops_q; (case hon => exact Va); (case hd => rfl); (case hq => exact YlA)) | refine Vr ?_ | refine Vt ?_ | refine Vf ?_ | refine Vm ?_ | refine Ve ?_ | refine Vo ?_ | refine Vz ?_ | refine Vn ?_)
      refine ret1 (by first | exact .inl rfl | exact .inr rfl) rfl rfl ?_
      exact Ret_mk (by rw [decide_eq_false (fun e => hne (by rw [e, hy] at hx; exact (Option.some.inj hx).symm))]) e1
    · have heq : x = y := by simpa using h2
      repeat (first | refine Vx ?_ | (apply Ops_q; (case hon => exact Va); (case hd => rfl); (case hq => exact YlA)) | refine Vr ?_ | refine Vt ?_ | refine Vf ?_ | refine Vm ?_ | refine Ve ?_ | refine Vo ?_ | refine Vz ?_ | refine Vn ?_)
      refine ⟨k + 1, (by repeat (first | exact trivial | refine ⟨rfl, ?_⟩)), ⟨e1, hkl, fun j hj => ?_⟩, by omega⟩
      rcases Nat.lt_or_ge j k with c | c
      · exact hs j c
      · rw [show j = k by omega, hx, hy, heq]
  · replace hg := of_decide_eq_false hg
    obtain rfl : k = A.length := by omega
    repeat (first | refine Vx ?_ | (apply Ops_q; (case hon => exact Va); (case hd => rfl); (case hq => exact YlA)) | refine Vr ?_ | refine Vt ?_ | refine Vf ?_ | refine Vm ?_ | refine Ve ?_ | refine Vo ?_ | refine Vz ?_ | refine Vn ?_)
    refine ret1 (by first | exact .inl rfl | exact .inr rfl) rfl rfl ?_
    refine Ret_mk ?_ e1
    rw [decide_eq_true]
    refine List.ext_getElem? fun j => ?_
    rcases Nat.lt_or_ge j A.length with c | c
    · exact hs j c
    · rw [List.getElem?_eq_none c, List.getElem?_eq_none (by omega)]
theorem sameIntsR_v (ao bo : Option Addr) (A B : List Int) (c d : Nat) (w : World) (hA : Ins w ao A) (hB : Ins w bo B) (hn : A.length ≤ 4611686018427387904) : Calls Try.prog 51 #[.slice ao A.length c, .slice bo B.length d] w (Ret (.bool (decide (A = B))) w) := by
  refine V_enter (vs := [_, _]) Try.func51 rfl Try.ntmps51 (Nat.le_of_ble_eq_true rfl) ?_
  repeat (first | refine Vx ?_ | (apply Ops_q; (case hon => exact Va); (case hd => rfl); (case hq => exact YlA)) | refine Vr ?_ | refine Vt ?_ | refine Vf ?_ | refine Vm ?_ | refine Ve ?_ | refine Vo ?_ | refine Vz ?_ | refine Vn ?_)
  refine V_cond rfl (fun h1 => ?_) (fun h1 => ?_)
  · have hne : A.length ≠ B.length := fun e => by
      have : ¬((A.length : Int) = (B.length : Int)) := by simpa using h1
      omega
    repeat (first | refine Vx ?_ | (apply Ops_q; (case hon => exact Va); (case hd => rfl); (case hq => exact YlA)) | refine Vr ?_ | refine Vt ?_ | refine Vf ?_ | refine Vm ?_ | refine Ve ?_ | refine Vo ?_ | refine Vz ?_ | refine Vn ?_)
    refine ret1 (by first | exact .inl rfl | exact .inr rfl) rfl rfl ?_
    exact Ret_mk (by rw [decide_eq_false (fun e => hne (by rw [e]))]) (Ext.refl _)
  have hlen : A.length = B.length := by
    have : (A.length : Int) = (B.length : Int) := by simpa using h1
    omega
  clear h1
  repeat (first | refine Vx ?_ | (apply Ops_q; (case hon => exact Va); (case hd => rfl); (case hq => exact YlA)) | refine Vr ?_ | refine Vt ?_ | refine Vf ?_ | refine Vm ?_ | refine Ve ?_ | refine Vo ?_ | refine Vz ?_ | refine Vn ?_)
  refine V_loop (fun k : Nat => [(14, .int .i64 k), (13, .int .i64 A.length), (12, .slice ao A.length c), (1, .slice bo B.length d)]) (fun k w' => Ext w w' ∧ k ≤ A.length ∧ ∀ j, j < k → A[j]? = B[j]?) (fun k => A.length - k) 0 (by repeat (first | exact trivial | refine ⟨rfl, ?_⟩)) ⟨Ext.refl _, Nat.zero_le _, fun j h => by omega⟩ ?_
  rintro k w1 ⟨e1, hk, hs⟩
  repeat (first | refine Vx ?_ | (apply Ops_q; (case hon => exact Va); (case hd => rfl); (case hq => exact YlA)) | refine Vr ?_ | refine Vt ?_ | refine Vf ?_ | refine Vm ?_ | refine Ve ?_ | refine Vo ?_ | refine Vz ?_ | refine Vn ?_)
  refine V_cond rfl (fun hg => ?_) (fun hg => ?_)
  · replace hg := of_decide_eq_true hg
    have hkl : k < A.length := by omega
    clear hg
    obtain ⟨x, hx⟩ : ∃ x, A[k]? = some x := ⟨_, List.getElem?_eq_getElem hkl⟩
    obtain ⟨y, hy⟩ : ∃ y, B[k]? = some y := ⟨_, List.getElem?_eq_getElem (by omega)⟩
    obtain ⟨ad, rfl, hc⟩ := hA.at hx
    obtain ⟨bd, rfl, hd⟩ := hB.at hy
    have hkb : k < B.length := by omega
    have hc1 := World_cell_ext hc e1
    have hd1 := World_cell_ext hd e1
    repeat (first | refine Vx ?_ | (apply Ops_q; (case hon => exact Va); (case hd => rfl); (case hq => exact YlA)) | refine Vr ?_ | refine Vt ?_ | refine Vf ?_ | refine Vm ?_ | refine Ve ?_ | refine Vo ?_ | refine Vz ?_ | refine Vn ?_)
    (apply Ops_q; (case hon => (exact Va)); (case hd => rfl); (case hq => exact Yl_indexS (j := k) rfl rfl (by omega)))
    repeat (first | refine Vx ?_ | (apply Ops_q; (case hon => exact Va); (case hd => rfl); (case hq => exact YlA)) | refine Vr ?_ | refine Vt ?_ | refine Vf ?_ | refine Vm ?_ | refine Ve ?_ | refine Vo ?_ | refine Vz ?_ | refine Vn ?_)
    (apply Ops_q; (case hon => (exact Va)); (case hd => rfl); (case hq => exact Yl_indexS (j := k) rfl rfl (by omega)))
    repeat (first | refine Vx ?_ | (apply Ops_q; (case hon => exact Va); (case hd => rfl); (case hq => exact YlA)) | refine Vr ?_ | refine Vt ?_ | refine Vf ?_ | refine Vm ?_ | refine Ve ?_ | refine Vo ?_ | refine Vz ?_ | refine Vn ?_)
    refine V_cond rfl (fun h2 => ?_) (fun h2 => ?_)
    · have hne : x ≠ y := by simpa using h2
      repeat (first | refine Vx ?_ | (apply Ops_q; (case hon => exact Va); (case hd => rfl); (case hq => exact YlA)) | refine Vr ?_ | refine Vt ?_ | refine Vf ?_ | refine Vm ?_ | refine Ve ?_ | refine Vo ?_ | refine Vz ?_ | refine Vn ?_)
      refine ret1 (by first | exact .inl rfl | exact .inr rfl) rfl rfl ?_
      exact Ret_mk (by rw [decide_eq_false (fun e => hne (by rw [e, hy] at hx; exact (Option.some.inj hx).symm))]) e1
    · have heq : x = y := by simpa using h2
      repeat (first | refine Vx ?_ | (apply Ops_q; (case hon => exact Va); (case hd => rfl); (case hq => exact YlA)) | refine Vr ?_ | refine Vt ?_ | refine Vf ?_ | refine Vm ?_ | refine Ve ?_ | refine Vo ?_ | refine Vz ?_ | refine Vn ?_)
      refine ⟨k + 1, (by repeat (first | exact trivial | refine ⟨rfl, ?_⟩)), ⟨e1, hkl, fun j hj => ?_⟩, by omega⟩
      rcases Nat.lt_or_ge j k with c | c
      · exact hs j c
      · rw [show j = k by omega, hx, hy, heq]
  · replace hg := of_decide_eq_false hg
    obtain rfl : k = A.length := by omega
    repeat (first | refine Vx ?_ | (apply Ops_q; (case hon => exact Va); (case hd => rfl); (case hq => exact YlA)) | refine Vr ?_ | refine Vt ?_ | refine Vf ?_ | refine Vm ?_ | refine Ve ?_ | refine Vo ?_ | refine Vz ?_ | refine Vn ?_)
    refine ret1 (by first | exact .inl rfl | exact .inr rfl) rfl rfl ?_
    refine Ret_mk ?_ e1
    rw [decide_eq_true]
    refine List.ext_getElem? fun j => ?_
    rcases Nat.lt_or_ge j A.length with c | c
    · exact hs j c
    · rw [List.getElem?_eq_none c, List.getElem?_eq_none (by omega)]
theorem equalInts_v (ao bo : Option Addr) (A B : List Int) (c d : Nat) (w : World) (hA : Ins w ao A) (hB : Ins w bo B) (hn : A.length ≤ 4611686018427387904) : Calls Try.prog 109 #[.slice ao A.length c, .slice bo B.length d] w (Ret (.bool (decide (A = B))) w) := by
  refine V_enter (vs := [_, _]) Try.func109 rfl Try.ntmps109 (Nat.le_of_ble_eq_true rfl) ?_
  repeat (first | refine Vx ?_ | (apply Ops_q; (case hon => exact Va); (case hd => rfl); (case hq => exact YlA)) | refine Vr ?_ | refine Vt ?_ | refine Vf ?_ | refine Vm ?_ | refine Ve ?_ | refine Vo ?_ | refine Vz ?_ | refine Vn ?_)
  refine V_cond rfl (fun h1 => ?_) (fun h1 => ?_)
  · have hne : A.length ≠ B.length := fun e => by
      have : ¬((A.length : Int) = (B.length : Int)) := by simpa using h1
      omega
    repeat (first | refine Vx ?_ | (apply Ops_q; (case hon => exact Va); (case hd => rfl); (case hq => exact YlA)) | refine Vr ?_ | refine Vt ?_ | refine Vf ?_ | refine Vm ?_ | refine Ve ?_ | refine Vo ?_ | refine Vz ?_ | refine Vn ?_)
    refine ret1 (by first | exact .inl rfl | exact .inr rfl) rfl rfl ?_
    exact Ret_mk (by rw [decide_eq_false (fun e => hne (by rw [e]))]) (Ext.refl _)
  have hlen : A.length = B.length := by
    have : (A.length : Int) = (B.length : Int) := by simpa using h1
    omega
  clear h1
  repeat (first | refine Vx ?_ | (apply Ops_q; (case hon => exact Va); (case hd => rfl); (case hq => exact YlA)) | refine Vr ?_ | refine Vt ?_ | refine Vf ?_ | refine Vm ?_ | refine Ve ?_ | refine Vo ?_ | refine Vz ?_ | refine Vn ?_)
  refine V_loop (fun k : Nat => [(13, .int .i64 k), (12, .int .i64 A.length), (0, .slice ao A.length c), (1, .slice bo B.length d)]) (fun k w' => Ext w w' ∧ k ≤ A.length ∧ ∀ j, j < k → A[j]? = B[j]?) (fun k => A.length - k) 0 (by repeat (first | exact trivial | refine ⟨rfl, ?_⟩)) ⟨Ext.refl _, Nat.zero_le _, fun j h => by omega⟩ ?_
  rintro k w1 ⟨e1, hk, hs⟩
  repeat (first | refine Vx ?_ | (apply Ops_q; (case hon => exact Va); (case hd => rfl); (case hq => exact YlA)) | refine Vr ?_ | refine Vt ?_ | refine Vf ?_ | refine Vm ?_ | refine Ve ?_ | refine Vo ?_ | refine Vz ?_ | refine Vn ?_)
  refine V_cond rfl (fun hg => ?_) (fun hg => ?_)
  · replace hg := of_decide_eq_true hg
    have hkl : k < A.length := by omega
    clear hg
    obtain ⟨x, hx⟩ : ∃ x, A[k]? = some x := ⟨_, List.getElem?_eq_getElem hkl⟩
    obtain ⟨y, hy⟩ : ∃ y, B[k]? = some y := ⟨_, List.getElem?_eq_getElem (by omega)⟩
    obtain ⟨ad, rfl, hc⟩ := hA.at hx
    obtain ⟨bd, rfl, hd⟩ := hB.at hy
    have hkb : k < B.length := by omega
    have hc1 := World_cell_ext hc e1
    have hd1 := World_cell_ext hd e1
    repeat (first | refine Vx ?_ | (apply Ops_q; (case hon => exact Va); (case hd => rfl); (case hq => exact YlA)) | refine Vr ?_ | refine Vt ?_ | refine Vf ?_ | refine Vm ?_ | refine Ve ?_ | refine Vo ?_ | refine Vz ?_ | refine Vn ?_)
    (apply Ops_q; (case hon => (exact Va)); (case hd => rfl); (case hq => exact Yl_indexS (j := k) rfl rfl (by omega)))
    repeat (first | refine Vx ?_ | (apply Ops_q; (case hon => exact Va); (case hd => rfl); (case hq => exact YlA)) | refine Vr ?_ | refine Vt ?_ | refine Vf ?_ | refine Vm ?_ | refine Ve ?_ | refine Vo ?_ | refine Vz ?_ | refine Vn ?_)
    (apply Ops_q; (case hon => (exact Va)); (case hd => rfl); (case hq => exact Yl_indexS (j := k) rfl rfl (by omega)))
    repeat (first | refine Vx ?_ | (apply Ops_q; (case hon => exact Va); (case hd => rfl); (case hq => exact YlA)) | refine Vr ?_ | refine Vt ?_ | refine Vf ?_ | refine Vm ?_ | refine Ve ?_ | refine Vo ?_ | refine Vz ?_ | refine Vn ?_)
    refine V_cond rfl (fun h2 => ?_) (fun h2 => ?_)
    · have hne : x ≠ y := by simpa using h2
      repeat (first | refine Vx ?_ | (apply Ops_q; (case hon => exact Va); (case hd => rfl); (case hq => exact YlA)) | refine Vr ?_ | refine Vt ?_ | refine Vf ?_ | refine Vm ?_ | refine Ve ?_ | refine Vo ?_ | refine Vz ?_ | refine Vn ?_)
      refine ret1 (by first | exact .inl rfl | exact .inr rfl) rfl rfl ?_
      exact Ret_mk (by rw [decide_eq_false (fun e => hne (by rw [e, hy] at hx; exact (Option.some.inj hx).symm))]) e1
    · have heq : x = y := by simpa using h2
      repeat (first | refine Vx ?_ | (apply Ops_q; (case hon => exact Va); (case hd => rfl); (case hq => exact YlA)) | refine Vr ?_ | refine Vt ?_ | refine Vf ?_ | refine Vm ?_ | refine Ve ?_ | refine Vo ?_ | refine Vz ?_ | refine Vn ?_)
      refine ⟨k + 1, (by repeat (first | exact trivial | refine ⟨rfl, ?_⟩)), ⟨e1, hkl, fun j hj => ?_⟩, by omega⟩
      rcases Nat.lt_or_ge j k with c | c
      · exact hs j c
      · rw [show j = k by omega, hx, hy, heq]
  · replace hg := of_decide_eq_false hg
    obtain rfl : k = A.length := by omega
    repeat (first | refine Vx ?_ | (apply Ops_q; (case hon => exact Va); (case hd => rfl); (case hq => exact YlA)) | refine Vr ?_ | refine Vt ?_ | refine Vf ?_ | refine Vm ?_ | refine Ve ?_ | refine Vo ?_ | refine Vz ?_ | refine Vn ?_)
    refine ret1 (by first | exact .inl rfl | exact .inr rfl) rfl rfl ?_
    refine Ret_mk ?_ e1
    rw [decide_eq_true]
    refine List.ext_getElem? fun j => ?_
    rcases Nat.lt_or_ge j A.length with c | c
    · exact hs j c
    · rw [List.getElem?_eq_none c, List.getElem?_eq_none (by omega)]
end Go.Proofs.Ytjpnaofoeeegeaa


/-
  Stride tables (layer 8), plain: tables whose numbers agree; the compressed form's numbers, places and leaves.
  No conditions beyond those that each lemma states.
-/
namespace Go.Proofs.Ytjpnaofoeeegeaa

/-- The node numbers, and the leaf numbers, before node i. -/
def ndC (N : List Nd) (i : Nat) : Nat := 1 + ((N.take i).map fun n => rankN n.inner 64).sum
def lfC (N : List Nd) (i : Nat) : Nat := ((N.take i).map fun n => rankN n.leaf 64).sum
structure Reg (N : List Nd) (L : List Int) : Prop where
  at_ : ∀ i n, N[i]? = some n → n.nodes = (ndC N i : Int) ∧ n.first = (lfC N i : Int) ∧ n.inner &&& n.leaf = 0
  nd : ndC N N.length = N.length
  lf : lfC N N.length = L.length
  vals : ∀ v ∈ L, -1 ≤ v
theorem rank_mono (x : Nat) {a : Nat} : ∀ {b}, a ≤ b → rankN x a ≤ rankN x b
  | 0, h => by rw [Nat.le_zero.1 h]; exact Nat.le_refl _
  | b + 1, h => by
    rcases Nat.lt_or_ge a (b + 1) with h1 | h1
    · exact Nat.le_trans (rank_mono x (Nat.le_of_lt_succ h1)) (by rw [rankN]; exact Nat.le_add_right _ _)
    · rw [show a = b + 1 by omega]; exact Nat.le_refl _
theorem rank_lt {x a b : Nat} (h : a < b) (hb : x / 2 ^ a % 2 = 1) : rankN x a < rankN x b := by
  have := rank_mono x (show a + 1 ≤ b from h)
  rw [rankN, hb] at this; omega
section
variable {N : List Nd} {L : List Int} {i : Nat} {n : Nd}
theorem ndC_step (h : N[i]? = some n) : ndC N (i + 1) = ndC N i + rankN n.inner 64 := by
  unfold ndC; rw [List.take_add_one, h, List.map_append, List.sum_append]; simp; omega
theorem lfC_step (h : N[i]? = some n) : lfC N (i + 1) = lfC N i + rankN n.leaf 64 := by
  unfold lfC; rw [List.take_add_one, h, List.map_append, List.sum_append]; simp
theorem ndC_mono (N : List Nd) {i : Nat} : ∀ {j}, i ≤ j → ndC N i ≤ ndC N j
  | 0, h => by rw [Nat.le_zero.1 h]; exact Nat.le_refl _
  | j + 1, h => by
    rcases Nat.lt_or_ge i (j + 1) with h1 | h1
    · refine Nat.le_trans (ndC_mono N (Nat.le_of_lt_succ h1)) ?_
      cases hj : N[j]? with
      | some n => rw [ndC_step hj]; exact Nat.le_add_right _ _
      | none => unfold ndC; rw [List.take_add_one, hj, Option.toList_none, List.append_nil]; exact Nat.le_refl _
    · rw [show i = j + 1 by omega]; exact Nat.le_refl _
theorem lfC_mono (N : List Nd) {i : Nat} : ∀ {j}, i ≤ j → lfC N i ≤ lfC N j
  | 0, h => by rw [Nat.le_zero.1 h]; exact Nat.le_refl _
  | j + 1, h => by
    rcases Nat.lt_or_ge i (j + 1) with h1 | h1
    · refine Nat.le_trans (lfC_mono N (Nat.le_of_lt_succ h1)) ?_
      cases hj : N[j]? with
      | some n => rw [lfC_step hj]; exact Nat.le_add_right _ _
      | none => unfold lfC; rw [List.take_add_one, hj, Option.toList_none, List.append_nil]; exact Nat.le_refl _
    · rw [show i = j + 1 by omega]; exact Nat.le_refl _
/-- An inner digit's node is one of the table's. -/
theorem Reg.kid (h : Reg N L) (hi : N[i]? = some n) {x : Nat} (hx : x < 64) (hb : n.inner / 2 ^ x % 2 = 1) : ndC N i + rankN n.inner x < N.length := by
  have h1 := rank_lt hx hb
  have h2 := ndC_step hi
  have h3 := ndC_mono N (show i + 1 ≤ N.length from (List.getElem?_eq_some_iff.1 hi).1)
  rw [h.nd] at h3
  omega
/-- A digit's leaf is one of the table's. -/
theorem Reg.leaf (h : Reg N L) (hi : N[i]? = some n) {k : Nat} (hk : k ≤ 64) (hp : 0 < rankN n.leaf k) : lfC N i + rankN n.leaf k - 1 < L.length := by
  have h1 := rank_mono n.leaf hk
  have h2 := lfC_step hi
  have h3 := lfC_mono N (show i + 1 ≤ N.length from (List.getElem?_eq_some_iff.1 hi).1)
  rw [h.lf] at h3
  omega
theorem Reg.lf_le (h : Reg N L) (hi : i ≤ N.length) : lfC N i ≤ L.length := by have := lfC_mono N hi; rw [h.lf] at this; exact this
end
/-! ### The compressed form's numbers -/
section
variable {f : Nat → Int} {n i : Nat} {p : Nat × Nat}
/-- All nodes of the form are there: what 'IsCf' says, at its number of nodes. -/
structure CfAt (f : Nat → Int) (n : Nat) : Prop where
  eq : n = (rowF f n).length
theorem CfAt.len (h : CfAt f n) : (ndsF f n).length = n := nds_len (Nat.le_of_eq h.eq)
theorem CfAt.place (h : CfAt f n) (hi : i < n) : ∃ p, (rowF f i)[i]? = some p := row_lt (Nat.le_of_eq h.eq) hi
theorem CfAt.node (h : CfAt f n) (hp : (rowF f i)[i]? = some p) (hi : i < n) : (ndsF f n)[i]? = some (ndF f i p) := nds_at (Nat.le_of_eq h.eq) hi hp
theorem CfAt.nums (h : CfAt f n) : ∀ i, i ≤ n → ndC (ndsF f n) i = (rowF f i).length ∧ lfC (ndsF f n) i = (lvF f i).length
  | 0, _ => ⟨rfl, rfl⟩
  | i + 1, hi => by
    obtain ⟨p, hp⟩ := h.place (show i < n from hi)
    obtain ⟨h1, h2⟩ := h.nums i (by omega)
    have hn := h.node hp hi
    rw [ndC_step hn, lfC_step hn, h1, h2, row_step hp, lv_step hp, List.length_append, List.length_append, kdP_len, lvP_len]
    unfold ndF
    dsimp only
    rw [mkW_rank _ _ _ (Nat.le_refl _), mkW_rank _ _ _ (Nat.le_refl _)]
    exact ⟨rfl, rfl⟩
theorem st_in {x : Nat} (h : inB f p x = true) : stB f p x = false := by
  have hK : digK f p x = some none := by
    unfold inB at h
    split at h
    · assumption
    · cases h
  unfold stB; rw [hK]
theorem in_and_st (f : Nat → Int) (p : Nat × Nat) : mkW (inB f p) 64 &&& mkW (stB f p) 64 = 0 := by
  refine Nat.eq_of_testBit_eq fun i => ?_
  rw [Nat.testBit_and, Nat.zero_testBit]
  have e1 := testBit_val (mkW (inB f p) 64) i
  have e2 := testBit_val (mkW (stB f p) 64) i
  rw [mkW_bit] at e1 e2
  cases hi : inB f p i with
  | false =>
    rw [hi, Bool.and_false] at e1
    have : (mkW (inB f p) 64).testBit i = false := by
      cases hb : (mkW (inB f p) 64).testBit i with
      | false => rfl
      | true => rw [hb] at e1; cases e1
    rw [this]; rfl
  | true =>
    rw [st_in hi, Bool.and_false] at e2
    have : (mkW (stB f p) 64).testBit i = false := by
      cases hb : (mkW (stB f p) 64).testBit i with
      | false => rfl
      | true => rw [hb] at e2; cases e2
    rw [this, Bool.and_false]
theorem lvP_vals {P : Int → Prop} (hf : ∀ a, a < 4294967296 → P (f a)) (hp : PlOk p) : ∀ x, x ≤ 64 → ∀ v ∈ lvP f p x, P v
  | 0, _, v, hv => by cases hv
  | x + 1, hx, v, hv => by
    rw [lvP] at hv
    split at hv
    · rename_i u hu
      split at hv
      · exact lvP_vals hf hp x (by omega) v hv
      · rcases List.mem_append.1 hv with hv | hv
        · exact lvP_vals hf hp x (by omega) v hv
        · rw [List.mem_singleton.1 hv]
          have h1 := dig_in (base := p.1) hp.1 (show x < 64 by omega)
          have h2 := hp.2
          have h3 := nsz_pos (p.2 + 1)
          unfold digK at hu
          split at hu
          · split at hu
            · cases hu; exact hf _ (by omega)
            · cases hu
          · cases hu
    · exact lvP_vals hf hp x (by omega) v hv
theorem lv_vals {P : Int → Prop} (hf : ∀ a, a < 4294967296 → P (f a)) : ∀ i, ∀ v ∈ lvF f i, P v
  | 0, v, hv => by cases hv
  | i + 1, v, hv => by
    rw [lvF] at hv
    split at hv
    · rename_i p hp
      rcases List.mem_append.1 hv with hv | hv
      · exact lv_vals hf i v hv
      · exact lvP_vals hf (plOk_row f i p (List.mem_of_getElem? hp)) 64 (Nat.le_refl _) v hv
    · exact lv_vals hf i v hv
/-- The form of a function with no value below -1 is one whose numbers agree. -/
theorem CfAt.reg (h : CfAt f n) (hf : ∀ a, a < 4294967296 → -1 ≤ f a) : Reg (ndsF f n) (lvF f n) := by
  have hn := h.nums n (Nat.le_refl _)
  refine ⟨fun i x hx => ?_, ?_, ?_, lv_vals hf n⟩
  · have hi : i < n := by have := (List.getElem?_eq_some_iff.1 hx).1; rw [h.len] at this; exact this
    obtain ⟨p, hp⟩ := h.place hi
    rw [h.node hp hi] at hx
    cases hx
    obtain ⟨h1, h2⟩ := h.nums i (Nat.le_of_lt hi)
    exact ⟨by rw [h1]; rfl, by rw [h2]; rfl, in_and_st f p⟩
  · rw [h.len, hn.1]; exact h.eq.symm
  · rw [h.len, hn.2]
/-- A digit's bit. -/
theorem CfAt.bit (f : Nat → Int) (i : Nat) (p : Nat × Nat) {x : Nat} (hx : x < 64) : (ndF f i p).inner / 2 ^ x % 2 = if inB f p x then 1 else 0 := by
  unfold ndF
  dsimp only
  rw [mkW_bit, decide_eq_true hx, Bool.true_and]
/-- The place of an inner digit's node. -/
theorem CfAt.kid (_h : CfAt f n) (hp : (rowF f i)[i]? = some p) {x : Nat} (hx : x < 64) (hin : inB f p x = true) : (rowF f (i + 1))[(rowF f i).length + rankN (ndF f i p).inner x]? = some (digLo p.2 p.1 x, p.2 + 1) := by
  unfold ndF
  dsimp only
  rw [mkW_rank _ _ _ (Nat.le_of_lt hx), row_step hp, List.getElem?_append_right (Nat.le_add_right _ _), Nat.add_sub_cancel_left]
  exact kdP_at hin hx
theorem CfAt.kid_lt (h : CfAt f n) (hi : i < n) (hp : (rowF f i)[i]? = some p) {x : Nat} (hx : x < 64) (hin : inB f p x = true) : (rowF f i).length + rankN (ndF f i p).inner x < n ∧ i < (rowF f i).length + rankN (ndF f i p).inner x := by
  have h1 := h.kid hp hx hin
  have h2 := get_prefix (row_pre f (show i + 1 ≤ n from hi)) h1
  have h3 := (List.getElem?_eq_some_iff.1 h2).1
  rw [← h.eq] at h3
  exact ⟨h3, Nat.lt_of_lt_of_le (List.getElem?_eq_some_iff.1 hp).1 (Nat.le_add_right _ _)⟩
/-- A place stands in the row from then on. -/
theorem CfAt.stands (_h : CfAt f n) {j k : Nat} {q : Nat × Nat} (hk : (rowF f k)[j]? = some q) (hkn : k ≤ j) : (rowF f j)[j]? = some q := get_prefix (row_pre f hkn) hk
/-- A digit that is not inner has a leaf: its own, or the last one before it. -/
theorem CfAt.leaf (_h : CfAt f n) (hi : i < n) (hp : (rowF f i)[i]? = some p) {x : Nat} (hx : x < 64) (hin : inB f p x = false) : 0 < rankN (ndF f i p).leaf (x + 1) ∧
    ∀ v, digK f p x = some (some v) → (lvF f n)[(lvF f i).length + rankN (ndF f i p).leaf (x + 1) - 1]? = some v := by
  have e : rankN (ndF f i p).leaf (x + 1) = cntW (stB f p) (x + 1) := by unfold ndF; dsimp only; exact mkW_rank _ _ _ hx
  rw [e]
  refine ⟨?_, fun v hv => ?_⟩
  · cases hok : digOk p.2 x with
    | true =>
      have hK : ∃ v, digK f p x = some (some v) := by
        have hne : digK f p x ≠ some none := fun e => by unfold inB at hin; rw [e] at hin; cases hin
        unfold digK at hne ⊢
        rw [if_pos hok] at hne ⊢
        split at hne
        · rename_i hf; rw [if_pos hf]; exact ⟨_, rfl⟩
        · exact absurd rfl hne
      obtain ⟨v, hv⟩ := hK
      exact (lvP_at hv (Nat.lt_succ_self x)).1
    | false =>
      have hpk := plOk_row f i p (List.mem_of_getElem? hp)
      obtain ⟨e5, _⟩ := digTo_skip (base := p.1) hpk.1 hok
      obtain ⟨pb, pd⟩ := p
      dsimp only at e5 hok
      subst e5
      have h0 : digK f (pb, 5) 0 = some (some (f (digLo 5 pb 0))) := by
        unfold digK
        have hf : flat f (digLo 5 pb 0) (digLo 5 pb 0 + nsz (5 + 1)) = true := flat_one f _
        dsimp only
        rw [if_pos (show digOk 5 0 = true from rfl), hf]; rfl
      have := (lvP_at h0 (show 0 < 1 by omega)).1
      exact Nat.lt_of_lt_of_le this (cntW_mono _ (by omega))
  · obtain ⟨h1, h2⟩ := lvP_at hv hx
    have h3 : (lvF f (i + 1))[(lvF f i).length + cntW (stB f p) (x + 1) - 1]? = some v := by
      rw [lv_step hp, List.getElem?_append_right (by omega), show (lvF f i).length + cntW (stB f p) (x + 1) - 1 - (lvF f i).length = cntW (stB f p) (x + 1) - 1 by omega]
      exact h2
    exact get_prefix (lv_pre f hi) h3
end
end Go.Proofs.Ytjpnaofoeeegeaa


/-
  Stride tables (layer 8): regular, leaf.
  Conditions: the lists are not too long for a machine; the words are words of 64 bits.
-/
namespace Go.Proofs.Ytjpnaofoeeegeaa
open Go.RowKit

theorem neg_v (v : Int) (w : World) : Calls Try.prog 107 #[.int .i64 v] w (Ret (.bool (decide (v < -1))) w) := by
  refine V_enter (vs := [_]) Try.func107 rfl Try.ntmps107 (Nat.le_of_ble_eq_true rfl) ?_
  repeat (first | refine Vx ?_ | (apply Ops_q; (case hon => exact Va); (case hd => rfl); (case hq => exact YlA)) | refine Vr ?_ | refine Vt ?_ | refine Vf ?_ | refine Vm ?_ | refine Ve ?_ | refine Vo ?_ | refine Vz ?_ | refine Vn ?_)
  refine ret1 (by first | exact .inl rfl | exact .inr rfl) rfl rfl ?_
  exact Ret_mk rfl (Ext.refl _)
theorem indexNeg_v (ao : Option Addr) (L : List Int) (c : Nat) (w : World) (hL : Ins w ao L) (hn : L.length ≤ 4611686018427387904) :
    Calls Try.prog 121 #[.slice ao L.length c, .func (.func 107) #[] #[]] w (Gives (fun r _ => ∃ k : Int, r = .int .i64 k ∧ -1 ≤ k ∧ k ≤ 4611686018427387904 ∧ (0 ≤ k ↔ ∃ v ∈ L, v < -1)) w) := by
  refine V_enter (vs := [_, _]) Try.func121 rfl Try.ntmps121 (Nat.le_of_ble_eq_true rfl) ?_
  repeat (first | refine Vx ?_ | (apply Ops_q; (case hon => exact Va); (case hd => rfl); (case hq => exact YlA)) | refine Vr ?_ | refine Vt ?_ | refine Vf ?_ | refine Vm ?_ | refine Ve ?_ | refine Vo ?_ | refine Vz ?_ | refine Vn ?_)
  refine V_loop (fun k : Nat => [(8, .int .i64 k), (7, .int .i64 L.length), (0, .slice ao L.length c), (1, .func (.func 107) #[] #[])]) (fun k w' => w' = w ∧ k ≤ L.length ∧ ∀ v ∈ L.take k, ¬v < -1) (fun k => L.length - k) 0 (by repeat (first | exact trivial | refine ⟨rfl, ?_⟩)) ⟨rfl, Nat.zero_le _, fun v h => by cases h⟩ ?_
  rintro k w1 ⟨rfl, hk, hs⟩
  repeat (first | refine Vx ?_ | (apply Ops_q; (case hon => exact Va); (case hd => rfl); (case hq => exact YlA)) | refine Vr ?_ | refine Vt ?_ | refine Vf ?_ | refine Vm ?_ | refine Ve ?_ | refine Vo ?_ | refine Vz ?_ | refine Vn ?_)
  refine V_cond rfl (fun hg => ?_) (fun hg => ?_)
  · have hkl : k < L.length := by have := of_decide_eq_true hg; omega
    clear hg
    obtain ⟨x, hx⟩ : ∃ x, L[k]? = some x := ⟨_, List.getElem?_eq_getElem hkl⟩
    obtain ⟨ad, rfl, hc⟩ := hL.at hx
    repeat (first | refine Vx ?_ | (apply Ops_q; (case hon => exact Va); (case hd => rfl); (case hq => exact YlA)) | refine Vr ?_ | refine Vt ?_ | refine Vf ?_ | refine Vm ?_ | refine Ve ?_ | refine Vo ?_ | refine Vz ?_ | refine Vn ?_)
    (apply Ops_q; (case hon => (exact Va)); (case hd => rfl); (case hq => exact Yl_indexS (j := k) rfl rfl (by omega)))
    repeat (first | refine Vx ?_ | (apply Ops_q; (case hon => exact Va); (case hd => rfl); (case hq => exact YlA)) | refine Vr ?_ | refine Vt ?_ | refine Vf ?_ | refine Vm ?_ | refine Ve ?_ | refine Vo ?_ | refine Vz ?_ | refine Vn ?_)
    (apply Ops_q; (case hon => (exact Va)); (case hd => rfl); (case hq => exact Yl_callv rfl rfl (fun w_ e_ => neg_v x w_)))
    repeat (first | refine Vx ?_ | (apply Ops_q; (case hon => exact Va); (case hd => rfl); (case hq => exact YlA)) | refine Vr ?_ | refine Vt ?_ | refine Vf ?_ | refine Vm ?_ | refine Ve ?_ | refine Vo ?_ | refine Vz ?_ | refine Vn ?_)
    refine V_cond rfl (fun hx2 => ?_) (fun hx2 => ?_)
    · have hx3 := of_decide_eq_true hx2
      clear hx2
      repeat (first | refine Vx ?_ | (apply Ops_q; (case hon => exact Va); (case hd => rfl); (case hq => exact YlA)) | refine Vr ?_ | refine Vt ?_ | refine Vf ?_ | refine Vm ?_ | refine Ve ?_ | refine Vo ?_ | refine Vz ?_ | refine Vn ?_)
      refine ret1 (by first | exact .inl rfl | exact .inr rfl) rfl rfl ?_
      exact Gives_mk (fun _ _ => ⟨_, rfl, by omega, by omega, ⟨fun _ => ⟨x, List.mem_of_getElem? hx, hx3⟩, fun _ => by omega⟩⟩) (Ext.refl _)
    · have hx3 := of_decide_eq_false hx2
      clear hx2
      repeat (first | refine Vx ?_ | (apply Ops_q; (case hon => exact Va); (case hd => rfl); (case hq => exact YlA)) | refine Vr ?_ | refine Vt ?_ | refine Vf ?_ | refine Vm ?_ | refine Ve ?_ | refine Vo ?_ | refine Vz ?_ | refine Vn ?_)
      refine ⟨k + 1, (by repeat (first | exact trivial | refine ⟨rfl, ?_⟩)), ⟨rfl, hkl, fun v hv => ?_⟩, by omega⟩
      rw [List.take_add_one, hx, List.mem_append] at hv
      rcases hv with hv | hv
      · exact hs v hv
      · simp at hv; rw [hv]; exact hx3
  · obtain rfl : k = L.length := by have := of_decide_eq_false hg; omega
    rw [List.take_length] at hs
    repeat (first | refine Vx ?_ | (apply Ops_q; (case hon => exact Va); (case hd => rfl); (case hq => exact YlA)) | refine Vr ?_ | refine Vt ?_ | refine Vf ?_ | refine Vm ?_ | refine Ve ?_ | refine Vo ?_ | refine Vz ?_ | refine Vn ?_)
    refine ret1 (by first | exact .inl rfl | exact .inr rfl) rfl rfl ?_
    exact Gives_mk (fun _ _ => ⟨_, rfl, by omega, by omega, ⟨fun h => by omega, fun ⟨v, h1, h2⟩ => absurd h2 (hs v h1)⟩⟩) (Ext.refl _)
theorem containsNeg_v (ao : Option Addr) (L : List Int) (c : Nat) (w : World) (hL : Ins w ao L) (hn : L.length ≤ 4611686018427387904) :
    Calls Try.prog 106 #[.slice ao L.length c, .func (.func 107) #[] #[]] w (Gives (fun r _ => ∃ b : Bool, r = .bool b ∧ (b = true ↔ ∃ v ∈ L, v < -1)) w) := by
  refine V_enter (vs := [_, _]) Try.func106 rfl Try.ntmps106 (Nat.le_of_ble_eq_true rfl) ?_
  repeat (first | refine Vx ?_ | (apply Ops_q; (case hon => exact Va); (case hd => rfl); (case hq => exact YlA)) | refine Vr ?_ | refine Vt ?_ | refine Vf ?_ | refine Vm ?_ | refine Ve ?_ | refine Vo ?_ | refine Vz ?_ | refine Vn ?_)
  (refine Ops_callR (by exact Va) rfl rfl (fun w_ e_ => indexNeg_v ao L c w_ (hL.ext e_) hn) ?_; intro v w1 w0_ e0_ e1_ r_v; have e_w1 := e0_.trans e1_; have b_v := e0_.size; clear e0_ e1_)
  obtain ⟨k, rfl, hk1, hk2, hk⟩ := r_v
  repeat (first | refine Vx ?_ | (apply Ops_q; (case hon => exact Va); (case hd => rfl); (case hq => exact YlA)) | refine Vr ?_ | refine Vt ?_ | refine Vf ?_ | refine Vm ?_ | refine Ve ?_ | refine Vo ?_ | refine Vz ?_ | refine Vn ?_)
  refine ret1 (by first | exact .inl rfl | exact .inr rfl) rfl rfl ?_
  exact Gives_mk (fun _ _ => ⟨_, rfl, by rw [decide_eq_true_eq]; exact hk⟩) e_w1
theorem ndC_le (N : List Nd) : ∀ i, ndC N i ≤ 1 + i * 64
  | 0 => by simp [ndC]
  | i + 1 => by
    have h1 := ndC_le N i
    cases hj : N[i]? with
    | some n => rw [ndC_step hj]; have := rankN_le n.inner 64; omega
    | none => unfold ndC at h1 ⊢; rw [List.take_add_one, hj, Option.toList_none, List.append_nil]; omega
theorem lfC_le (N : List Nd) : ∀ i, lfC N i ≤ i * 64
  | 0 => by simp [lfC]
  | i + 1 => by
    have h1 := lfC_le N i
    cases hj : N[i]? with
    | some n => rw [lfC_step hj]; have := rankN_le n.leaf 64; omega
    | none => unfold lfC at h1 ⊢; rw [List.take_add_one, hj, Option.toList_none, List.append_nil]; omega
/-- The words are words. -/
def NdW (N : List Nd) : Prop := ∀ x ∈ N, x.inner < 18446744073709551616 ∧ x.leaf < 18446744073709551616
theorem int_le {v : Int} (h : ¬v < -1) : -1 ≤ v := by omega
set_option maxHeartbeats 1000000 in
theorem regular_v (aN aL : Option Addr) (N : List Nd) (L : List Int) (cN cL : Nat) (w : World) (hN : Nds w aN N) (hL : Ins w aL L) (hW : NdW N) (hn : N.length ≤ 80000000000) (hl : L.length ≤ 4611686018427387904) :
    Calls Try.prog 89 #[.agg #[.slice aN N.length cN, .slice aL L.length cL]] w (Gives (fun r _ => ∃ b : Bool, r = .bool b ∧ (b = true ↔ Reg N L)) w) := by
  refine V_enter (vs := [_]) Try.func89 rfl Try.ntmps89 (Nat.le_of_ble_eq_true rfl) ?_
  repeat (first | refine Vx ?_ | (apply Ops_q; (case hon => exact Va); (case hd => rfl); (case hq => exact YlA)) | refine Vr ?_ | refine Vt ?_ | refine Vf ?_ | refine Vm ?_ | refine Ve ?_ | refine Vo ?_ | refine Vz ?_ | refine Vn ?_)
  (refine Ops_box (by exact Va) rfl rfl rfl ?_; intro w1 b1 n_b1; have k_b1 := n_b1.blk)
  have x1 := n_b1.ext
  clear n_b1
  repeat (first | refine Vx ?_ | (apply Ops_q; (case hon => exact Va); (case hd => rfl); (case hq => exact YlA)) | refine Vr ?_ | refine Vt ?_ | refine Vf ?_ | refine Vm ?_ | refine Ve ?_ | refine Vo ?_ | refine Vz ?_ | refine Vn ?_)
  refine V_loop (fun k : Nat => [(10, .int .i64 k), (9, .int .i64 N.length), (8, .slice aN N.length cN), (3, .int .i64 (ndC N k)), (4, .int .i64 (lfC N k)), (1, .pointer (some ⟨b1, 0, none⟩))])
    (fun k w' => Ext w1 w' ∧ k ≤ N.length ∧ ∀ i x, i < k → N[i]? = some x → x.nodes = (ndC N i : Int) ∧ x.first = (lfC N i : Int) ∧ x.inner &&& x.leaf = 0) (fun k => N.length - k) 0 (by repeat (first | exact trivial | refine ⟨rfl, ?_⟩)) ⟨Ext.refl _, Nat.zero_le _, fun i x h => by omega⟩ ?_
  rintro k w2 ⟨x2, hk, hs⟩
  repeat (first | refine Vx ?_ | (apply Ops_q; (case hon => exact Va); (case hd => rfl); (case hq => exact YlA)) | refine Vr ?_ | refine Vt ?_ | refine Vf ?_ | refine Vm ?_ | refine Ve ?_ | refine Vo ?_ | refine Vz ?_ | refine Vn ?_)
  refine V_cond rfl (fun hg => ?_) (fun hg => ?_)
  · have hkl : k < N.length := by have := of_decide_eq_true hg; omega
    clear hg
    obtain ⟨x, hx⟩ : ∃ x, N[k]? = some x := ⟨_, List.getElem?_eq_getElem hkl⟩
    obtain ⟨ad, rfl, hc⟩ := hN.at hx
    obtain ⟨hw1, hw2⟩ := hW x (List.mem_of_getElem? hx)
    have hc1 : Cells w2 (ad.add (k * 4)) [.int .u64 x.inner, .int .u64 x.leaf, .int .i64 x.nodes, .int .i64 x.first] := hc.ext (x1.trans x2)
    have q1 := ndC_le N k
    have q2 := lfC_le N k
    have q3 := rankN_le x.inner 64
    have q4 := rankN_le x.leaf 64
    have s1 := ndC_step hx
    have s2 := lfC_step hx
    have e1 : (ndC N k : Int) + (rankN x.inner 64 : Int) = ((ndC N (k + 1) : Nat) : Int) := by rw [s1, Int.natCast_add]
    have e2 : (lfC N k : Int) + (rankN x.leaf 64 : Int) = ((lfC N (k + 1) : Nat) : Int) := by rw [s2, Int.natCast_add]
    repeat (first | refine Vx ?_ | (apply Ops_q; (case hon => exact Va); (case hd => rfl); (case hq => exact YlA)) | refine Vr ?_ | refine Vt ?_ | refine Vf ?_ | refine Vm ?_ | refine Ve ?_ | refine Vo ?_ | refine Vz ?_ | refine Vn ?_)
    (apply Ops_q; (case hon => (exact Va)); (case hd => rfl); (case hq => exact Yl_indexS (j := k) rfl rfl (by omega)))
    repeat (first | refine Vx ?_ | (apply Ops_q; (case hon => exact Va); (case hd => rfl); (case hq => exact YlA)) | refine Vr ?_ | refine Vt ?_ | refine Vf ?_ | refine Vm ?_ | refine Ve ?_ | refine Vo ?_ | refine Vz ?_ | refine Vn ?_)
    (refine Ops_alloc (by exact Va) rfl ?_; intro w3 b3 n_b3; have k_b3 := n_b3.blk)
    repeat (first | refine Vx ?_ | (apply Ops_q; (case hon => exact Va); (case hd => rfl); (case hq => exact YlA)) | refine Vr ?_ | refine Vt ?_ | refine Vf ?_ | refine Vm ?_ | refine Ve ?_ | refine Vo ?_ | refine Vz ?_ | refine Vn ?_)
    (refine Ops_store (by exact Va) rfl rfl (by assumption) (by first | rfl | exact OneAll.h) ?_; intro w4 u_w4; have k_b3 := u_w4.blk)
    have x4 := u_w4.below (x2.trans n_b3.ext) (Nat.le_trans x2.size n_b3.ge)
    clear u_w4 n_b3
    have hbad : ∀ b : Bool, b = false → ¬(x.nodes = (ndC N k : Int) ∧ x.first = (lfC N k : Int) ∧ x.inner &&& x.leaf = 0) → ∀ w', Ext w4 w' → ∃ b' : Bool, Value.bool b = Value.bool b' ∧ (b' = true ↔ Reg N L) := fun b hb hno _ _ => ⟨b, rfl, by rw [hb]; exact ⟨(fun h => by cases h), fun h => absurd (h.at_ k x hx) hno⟩⟩
    repeat (first | refine Vx ?_ | (apply Ops_q; (case hon => exact Va); (case hd => rfl); (case hq => exact YlA)) | refine Vr ?_ | refine Vt ?_ | refine Vf ?_ | refine Vm ?_ | refine Ve ?_ | refine Vo ?_ | refine Vz ?_ | refine Vn ?_)
    by_cases t1 : x.nodes = (ndC N k : Int)
    · have d1 : (!decide (x.nodes = (ndC N k : Int))) = false := by rw [decide_eq_true t1]; rfl
      refine Ops_know rfl rfl d1 ?_
      repeat (first | refine Vx ?_ | (apply Ops_q; (case hon => exact Va); (case hd => rfl); (case hq => exact YlA)) | refine Vr ?_ | refine Vt ?_ | refine Vf ?_ | refine Vm ?_ | refine Ve ?_ | refine Vo ?_ | refine Vz ?_ | refine Vn ?_)
      by_cases t2 : x.first = (lfC N k : Int)
      · have d2 : (!decide (x.first = (lfC N k : Int))) = false := by rw [decide_eq_true t2]; rfl
        refine Ops_know rfl rfl d2 ?_
        repeat (first | refine Vx ?_ | (apply Ops_q; (case hon => exact Va); (case hd => rfl); (case hq => exact YlA)) | refine Vr ?_ | refine Vt ?_ | refine Vf ?_ | refine Vm ?_ | refine Ve ?_ | refine Vo ?_ | refine Vz ?_ | refine Vn ?_)
        have ea : bits .and .u64 (x.inner : Int) (x.leaf : Int) = ((x.inner &&& x.leaf : Nat) : Int) := u64_and_nat _ _ hw1 hw2
        rw [ea]
        by_cases t3 : x.inner &&& x.leaf = 0
        · have d3 : (!decide (((x.inner &&& x.leaf : Nat) : Int) = 0)) = false := by rw [decide_eq_true (by omega)]; rfl
          refine V_no rfl d3 ?_
          repeat (first | refine Vx ?_ | (apply Ops_q; (case hon => exact Va); (case hd => rfl); (case hq => exact YlA)) | refine Vr ?_ | refine Vt ?_ | refine Vf ?_ | refine Vm ?_ | refine Ve ?_ | refine Vo ?_ | refine Vz ?_ | refine Vn ?_)
          (apply Ops_q; (case hon => (exact Va)); (case hd => rfl); (case hq => exact Yl_call rfl (fun w_ e_ => ones_v x.inner w_ hw1)))
          repeat (first | refine Vx ?_ | (apply Ops_q; (case hon => exact Va); (case hd => rfl); (case hq => exact YlA)) | refine Vr ?_ | refine Vt ?_ | refine Vf ?_ | refine Vm ?_ | refine Ve ?_ | refine Vo ?_ | refine Vz ?_ | refine Vn ?_)
          rw [e1]
          (apply Ops_q; (case hon => (exact Va)); (case hd => rfl); (case hq => exact Yl_call rfl (fun w_ e_ => ones_v x.leaf w_ hw2)))
          repeat (first | refine Vx ?_ | (apply Ops_q; (case hon => exact Va); (case hd => rfl); (case hq => exact YlA)) | refine Vr ?_ | refine Vt ?_ | refine Vf ?_ | refine Vm ?_ | refine Ve ?_ | refine Vo ?_ | refine Vz ?_ | refine Vn ?_)
          rw [e2]
          refine ⟨k + 1, (by repeat (first | exact trivial | refine ⟨rfl, ?_⟩)), ⟨x4, hkl, fun i y hi hy => ?_⟩, by omega⟩
          rcases Nat.lt_or_ge i k with h1 | h1
          · exact hs i y h1 hy
          · obtain rfl : i = k := by omega
            rw [hx] at hy; cases hy
            exact ⟨t1, t2, t3⟩
        · have d3 : (!decide (((x.inner &&& x.leaf : Nat) : Int) = 0)) = true := by rw [decide_eq_false (by omega)]; rfl
          refine V_yes rfl d3 ?_
          repeat (first | refine Vx ?_ | (apply Ops_q; (case hon => exact Va); (case hd => rfl); (case hq => exact YlA)) | refine Vr ?_ | refine Vt ?_ | refine Vf ?_ | refine Vm ?_ | refine Ve ?_ | refine Vo ?_ | refine Vz ?_ | refine Vn ?_)
          refine ret1 (by first | exact .inl rfl | exact .inr rfl) rfl rfl ?_
          exact Gives_mk (hbad false rfl (fun h => t3 h.2.2)) (x1.trans x4)
      · have d2 : (!decide (x.first = (lfC N k : Int))) = true := by rw [decide_eq_false t2]; rfl
        refine Ops_know rfl rfl d2 ?_
        repeat (first | refine Vx ?_ | (apply Ops_q; (case hon => exact Va); (case hd => rfl); (case hq => exact YlA)) | refine Vr ?_ | refine Vt ?_ | refine Vf ?_ | refine Vm ?_ | refine Ve ?_ | refine Vo ?_ | refine Vz ?_ | refine Vn ?_)
        refine ret1 (by first | exact .inl rfl | exact .inr rfl) rfl rfl ?_
        exact Gives_mk (hbad false rfl (fun h => t2 h.2.1)) (x1.trans x4)
    · have d1 : (!decide (x.nodes = (ndC N k : Int))) = true := by rw [decide_eq_false t1]; rfl
      refine Ops_know rfl rfl d1 ?_
      repeat (first | refine Vx ?_ | (apply Ops_q; (case hon => exact Va); (case hd => rfl); (case hq => exact YlA)) | refine Vr ?_ | refine Vt ?_ | refine Vf ?_ | refine Vm ?_ | refine Ve ?_ | refine Vo ?_ | refine Vz ?_ | refine Vn ?_)
      refine ret1 (by first | exact .inl rfl | exact .inr rfl) rfl rfl ?_
      exact Gives_mk (hbad false rfl (fun h => t1 h.1)) (x1.trans x4)
  · obtain rfl : k = N.length := by have := of_decide_eq_false hg; omega
    replace k_b1 := k_b1.ext x2
    have hat : ∀ i x, N[i]? = some x → x.nodes = (ndC N i : Int) ∧ x.first = (lfC N i : Int) ∧ x.inner &&& x.leaf = 0 := fun i x h => hs i x (List.getElem?_eq_some_iff.1 h).1 h
    have hxe := x1.trans x2
    repeat (first | refine Vx ?_ | (apply Ops_q; (case hon => exact Va); (case hd => rfl); (case hq => exact YlA)) | refine Vr ?_ | refine Vt ?_ | refine Vf ?_ | refine Vm ?_ | refine Ve ?_ | refine Vo ?_ | refine Vz ?_ | refine Vn ?_)
    by_cases t1 : ndC N N.length = N.length
    · have d1 : decide ((ndC N N.length : Int) = (N.length : Int)) = true := decide_eq_true (by omega)
      refine Ops_know rfl rfl d1 ?_
      repeat (first | refine Vx ?_ | (apply Ops_q; (case hon => exact Va); (case hd => rfl); (case hq => exact YlA)) | refine Vr ?_ | refine Vt ?_ | refine Vf ?_ | refine Vm ?_ | refine Ve ?_ | refine Vo ?_ | refine Vz ?_ | refine Vn ?_)
      by_cases t2 : lfC N N.length = L.length
      · have d2 : decide ((lfC N N.length : Int) = (L.length : Int)) = true := decide_eq_true (by omega)
        refine Ops_know rfl rfl d2 ?_
        repeat (first | refine Vx ?_ | (apply Ops_q; (case hon => exact Va); (case hd => rfl); (case hq => exact YlA)) | refine Vr ?_ | refine Vt ?_ | refine Vf ?_ | refine Vm ?_ | refine Ve ?_ | refine Vo ?_ | refine Vz ?_ | refine Vn ?_)
        (refine Ops_callR (by exact Va) rfl rfl (fun w_ e_ => containsNeg_v aL L cL w_ (hL.ext (hxe.trans e_)) hl) ?_; intro v w3 w0_ e0_ e1_ r_v; have e_w3 := e0_.trans e1_; have b_v := e0_.size; clear e0_ e1_)
        obtain ⟨b, rfl, hb⟩ := r_v
        repeat (first | refine Vx ?_ | (apply Ops_q; (case hon => exact Va); (case hd => rfl); (case hq => exact YlA)) | refine Vr ?_ | refine Vt ?_ | refine Vf ?_ | refine Vm ?_ | refine Ve ?_ | refine Vo ?_ | refine Vz ?_ | refine Vn ?_)
        refine ret1 (by first | exact .inl rfl | exact .inr rfl) rfl rfl ?_
        refine Gives_mk (fun _ _ => ⟨_, rfl, ?_⟩) (hxe.trans e_w3)
        constructor
        · intro h
          have h2 : b = false := by simpa using h
          exact ⟨hat, t1, t2, fun v hv => int_le fun h3 => by rw [h2] at hb; exact absurd (hb.2 ⟨v, hv, h3⟩) (by decide)⟩
        · intro h
          have : b ≠ true := fun h2 => by
            obtain ⟨v, h3, h4⟩ := hb.1 h2
            have := h.vals v h3; omega
          simpa using this
      · have d2 : decide ((lfC N N.length : Int) = (L.length : Int)) = false := decide_eq_false (by omega)
        refine Ops_know rfl rfl d2 ?_
        repeat (first | refine Vx ?_ | (apply Ops_q; (case hon => exact Va); (case hd => rfl); (case hq => exact YlA)) | refine Vr ?_ | refine Vt ?_ | refine Vf ?_ | refine Vm ?_ | refine Ve ?_ | refine Vo ?_ | refine Vz ?_ | refine Vn ?_)
        refine ret1 (by first | exact .inl rfl | exact .inr rfl) rfl rfl ?_
        exact Gives_mk (fun _ _ => ⟨_, rfl, ⟨(fun h => by cases h), fun h => absurd h.lf t2⟩⟩) hxe
    · have d1 : decide ((ndC N N.length : Int) = (N.length : Int)) = false := decide_eq_false (by omega)
      refine Ops_know rfl rfl d1 ?_
      repeat (first | refine Vx ?_ | (apply Ops_q; (case hon => exact Va); (case hd => rfl); (case hq => exact YlA)) | refine Vr ?_ | refine Vt ?_ | refine Vf ?_ | refine Vm ?_ | refine Ve ?_ | refine Vo ?_ | refine Vz ?_ | refine Vn ?_)
      refine ret1 (by first | exact .inl rfl | exact .inr rfl) rfl rfl ?_
      exact Gives_mk (fun _ _ => ⟨_, rfl, ⟨(fun h => by cases h), fun h => absurd h.nd t1⟩⟩) hxe
/-! ### leaf -/
/-- The value of a leaf, if there is one. -/
def leafV (L : List Int) (lf k : Nat) : Int := if k = 0 then 0 else (L[lf + k - 1]?).getD 0
theorem leaf_v (aN aL : Option Addr) (n : Nat) (L : List Int) (cN cL : Nat) (x : Nd) (lf k : Nat) (w : World) (hL : Ins w aL L) (hx : x.leaf < 18446744073709551616) (hf : x.first = (lf : Int)) (hk : k < 64) (hin : 0 < rankN x.leaf (k + 1) → lf + rankN x.leaf (k + 1) - 1 < L.length) (hl : L.length ≤ 4611686018427387904) (hlf : lf ≤ 4611686018427387904) :
    Calls Try.prog 44 #[.agg #[.slice aN n cN, .slice aL L.length cL], .agg #[.int .u64 x.inner, .int .u64 x.leaf, .int .i64 x.nodes, .int .i64 x.first], .int .i64 k] w
      (Ret (.tuple #[.int .i64 (leafV L lf (rankN x.leaf (k + 1))), .bool (!decide (rankN x.leaf (k + 1) = 0))]) w) := by
  rw [hf]
  have q1 := rankN_le x.leaf (k + 1)
  have ek : (k : Int) + 1 = ((k + 1 : Nat) : Int) := by omega
  refine V_enter (vs := [_, _, _]) Try.func44 rfl Try.ntmps44 (Nat.le_of_ble_eq_true rfl) ?_
  repeat (first | refine Vx ?_ | (apply Ops_q; (case hon => exact Va); (case hd => rfl); (case hq => exact YlA)) | refine Vr ?_ | refine Vt ?_ | refine Vf ?_ | refine Vm ?_ | refine Ve ?_ | refine Vo ?_ | refine Vz ?_ | refine Vn ?_)
  (refine Ops_box (by exact Va) rfl rfl rfl ?_; intro w1 b1 n_b1; have k_b1 := n_b1.blk)
  repeat (first | refine Vx ?_ | (apply Ops_q; (case hon => exact Va); (case hd => rfl); (case hq => exact YlA)) | refine Vr ?_ | refine Vt ?_ | refine Vf ?_ | refine Vm ?_ | refine Ve ?_ | refine Vo ?_ | refine Vz ?_ | refine Vn ?_)
  (refine Ops_box (by exact Va) rfl rfl rfl ?_; intro w2 b2 n_b2; have k_b2 := n_b2.blk)
  replace k_b1 := k_b1.ext n_b2.ext
  have x2 := n_b1.ext.trans n_b2.ext
  clear n_b1 n_b2
  repeat (first | refine Vx ?_ | (apply Ops_q; (case hon => exact Va); (case hd => rfl); (case hq => exact YlA)) | refine Vr ?_ | refine Vt ?_ | refine Vf ?_ | refine Vm ?_ | refine Ve ?_ | refine Vo ?_ | refine Vz ?_ | refine Vn ?_)
  rw [ek]
  (apply Ops_q; (case hon => (exact Va)); (case hd => rfl); (case hq => exact Yl_call rfl (fun w_ e_ => rank_v x.leaf (k + 1) w_ hx (by omega))))
  generalize hr : rankN x.leaf (k + 1) = r at *
  repeat (first | refine Vx ?_ | (apply Ops_q; (case hon => exact Va); (case hd => rfl); (case hq => exact YlA)) | refine Vr ?_ | refine Vt ?_ | refine Vf ?_ | refine Vm ?_ | refine Ve ?_ | refine Vo ?_ | refine Vz ?_ | refine Vn ?_)
  refine V_cond rfl (fun h0 => ?_) (fun h0 => ?_)
  · have h0' : r = 0 := by have := of_decide_eq_true h0; omega
    repeat (first | refine Vx ?_ | (apply Ops_q; (case hon => exact Va); (case hd => rfl); (case hq => exact YlA)) | refine Vr ?_ | refine Vt ?_ | refine Vf ?_ | refine Vm ?_ | refine Ve ?_ | refine Vo ?_ | refine Vz ?_ | refine Vn ?_)
    refine ret2 (by first | exact .inl rfl | exact .inr rfl) rfl rfl rfl ?_
    exact Ret_mk (by rw [leafV, if_pos h0', decide_eq_true h0']; rfl) x2
  · have h0' : r ≠ 0 := by have := of_decide_eq_false h0; omega
    clear h0
    obtain ⟨v, hv⟩ : ∃ v, L[lf + r - 1]? = some v := ⟨_, List.getElem?_eq_getElem (hin (by omega))⟩
    obtain ⟨ad, rfl, hc⟩ := hL.at hv
    have hc2 := World_cell_ext hc x2
    have ei : (lf : Int) + (r : Int) - 1 = ((lf + r - 1 : Nat) : Int) := by omega
    have hlt : lf + r - 1 < L.length := hin (by omega)
    repeat (first | refine Vx ?_ | (apply Ops_q; (case hon => exact Va); (case hd => rfl); (case hq => exact YlA)) | refine Vr ?_ | refine Vt ?_ | refine Vf ?_ | refine Vm ?_ | refine Ve ?_ | refine Vo ?_ | refine Vz ?_ | refine Vn ?_)
    rw [ei]
    (apply Ops_q; (case hon => (exact Va)); (case hd => rfl); (case hq => exact Yl_indexS (j := lf + r - 1) rfl rfl (by omega)))
    repeat (first | refine Vx ?_ | (apply Ops_q; (case hon => exact Va); (case hd => rfl); (case hq => exact YlA)) | refine Vr ?_ | refine Vt ?_ | refine Vf ?_ | refine Vm ?_ | refine Ve ?_ | refine Vo ?_ | refine Vz ?_ | refine Vn ?_)
    refine ret2 (by first | exact .inl rfl | exact .inr rfl) rfl rfl rfl ?_
    exact Ret_mk (by rw [leafV, if_neg h0', hv, decide_eq_false h0']; rfl) x2
end Go.Proofs.Ytjpnaofoeeegeaa


/-
  Stride tables (layer 8): compress, walked.
  Conditions: the runs are those of some function, in order.
-/
namespace Go.Proofs.Ytjpnaofoeeegeaa
open Go.RowKit

set_option maxHeartbeats 4000000 in
theorem compress_v (g : Nat → Int) (ao : Option Addr) (R : List Rn) (c : Nat) (w0 : World) (hL : Rns w0 ao R) (hR : Canon g R 4294967296) :
    Calls Try.prog 36 #[.slice ao R.length c] w0 (Gives (CfR g w0) w0) := by
  have hRn := hR.len
  refine VD_enter (vs := [_]) Try.func36 rfl Try.ntmps36 (Nat.le_of_ble_eq_true rfl) ?_
  refine VD_seq ?_
  repeat (first | refine Vx ?_ | (apply Ops_q; (case hon => exact Va); (case hd => rfl); (case hq => exact YlA)) | refine Vr ?_ | refine Vt ?_ | refine Vf ?_ | refine Vm ?_ | refine Ve ?_ | refine Vo ?_ | refine Vz ?_ | refine Vn ?_)
  (refine Ops_box (by exact Va) rfl rfl rfl ?_; intro w1 b1 n_b1; have k_b1 := n_b1.blk)
  repeat (first | refine Vx ?_ | (apply Ops_q; (case hon => exact Va); (case hd => rfl); (case hq => exact YlA)) | refine Vr ?_ | refine Vt ?_ | refine Vf ?_ | refine Vm ?_ | refine Ve ?_ | refine Vo ?_ | refine Vz ?_ | refine Vn ?_)
  (refine Ops_alloc (by exact Va) rfl ?_; intro w2 b2 n_b2; have k_b2 := n_b2.blk)
  repeat (first | refine Vx ?_ | (apply Ops_q; (case hon => exact Va); (case hd => rfl); (case hq => exact YlA)) | refine Vr ?_ | refine Vt ?_ | refine Vf ?_ | refine Vm ?_ | refine Ve ?_ | refine Vo ?_ | refine Vz ?_ | refine Vn ?_)
  refine VD_seq ?_
  repeat (first | refine Vx ?_ | (apply Ops_q; (case hon => exact Va); (case hd => rfl); (case hq => exact YlA)) | refine Vr ?_ | refine Vt ?_ | refine Vf ?_ | refine Vm ?_ | refine Ve ?_ | refine Vo ?_ | refine Vz ?_ | refine Vn ?_)
  (refine Ops_alloc (by exact Va) rfl ?_; intro w3 b3 n_b3; have k_b3 := n_b3.blk)
  repeat (first | refine Vx ?_ | (apply Ops_q; (case hon => exact Va); (case hd => rfl); (case hq => exact YlA)) | refine Vr ?_ | refine Vt ?_ | refine Vf ?_ | refine Vm ?_ | refine Ve ?_ | refine Vo ?_ | refine Vz ?_ | refine Vn ?_)
  refine VD_seq ?_
  repeat (first | refine Vx ?_ | (apply Ops_q; (case hon => exact Va); (case hd => rfl); (case hq => exact YlA)) | refine Vr ?_ | refine Vt ?_ | refine Vf ?_ | refine Vm ?_ | refine Ve ?_ | refine Vo ?_ | refine Vz ?_ | refine Vn ?_)
  (refine Ops_lit (by exact Va) rfl rfl rfl ?_; intro w4 bq n_bq; have k_bq := n_bq.blk)
  repeat (first | refine Vx ?_ | (apply Ops_q; (case hon => exact Va); (case hd => rfl); (case hq => exact YlA)) | refine Vr ?_ | refine Vt ?_ | refine Vf ?_ | refine Vm ?_ | refine Ve ?_ | refine Vo ?_ | refine Vz ?_ | refine Vn ?_)
  (refine Ops_alloc (by exact Va) rfl ?_; intro w5 b4 n_b4; have k_b4 := n_b4.blk)
  repeat (first | refine Vx ?_ | (apply Ops_q; (case hon => exact Va); (case hd => rfl); (case hq => exact YlA)) | refine Vr ?_ | refine Vt ?_ | refine Vf ?_ | refine Vm ?_ | refine Ve ?_ | refine Vo ?_ | refine Vz ?_ | refine Vn ?_)
  (refine Ops_store (by exact Va) rfl rfl (by assumption) (by first | rfl | exact OneAll.h) ?_; intro w6 u_w6; have k_b4 := u_w6.blk)
  repeat (first | refine Vx ?_ | (apply Ops_q; (case hon => exact Va); (case hd => rfl); (case hq => exact YlA)) | refine Vr ?_ | refine Vt ?_ | refine Vf ?_ | refine Vm ?_ | refine Ve ?_ | refine Vo ?_ | refine Vz ?_ | refine Vn ?_)
  have x2 := n_b1.ext.trans n_b2.ext
  have x3 := x2.trans n_b3.ext
  have x4 := x3.trans n_bq.ext
  have x5 := x4.trans n_b4.ext
  have e25 := n_b3.ext.trans (n_bq.ext.trans n_b4.ext)
  have hcs0 : CS w0 ao R c b1 b2 b3 b4 (.slice none 0 0) (.slice none 0 0) (.slice (some ⟨bq, 0, none⟩) 1 1) [] [] [(0, 0)] w6 := by
    have h1 := k_b1.ext (n_b2.ext.trans e25)
    have h2 := k_b2.ext e25
    have h3 := k_b3.ext (n_bq.ext.trans n_b4.ext)
    have oR : Own w5 w0.heap.size 120 2 (.slice (some ⟨bq, 0, none⟩) 1 1) ([(0, 0)].map plC) := ((own_litN n_bq rfl).mono x3.size).ext n_b4.ext
    have h23 : b2 ≠ b3 := Nat.ne_of_lt (Nat.lt_of_lt_of_le k_b2.lt n_b3.ge)
    have g2 : w0.heap.size ≤ b2 := Nat.le_trans n_b1.ext.size n_b2.ge
    have g3 : w0.heap.size ≤ b3 := Nat.le_trans x2.size n_b3.ge
    have g4 : w0.heap.size ≤ b4 := Nat.le_trans x4.size n_b4.ge
    exact ⟨u_w6.below x5 g4, u_w6.keep h1 (blk_ne h1 n_b4.blk rfl), u_w6.keep h2 (blk_ne h2 n_b4.blk rfl), u_w6.keep h3 (blk_ne h3 n_b4.blk rfl), k_b4, h23, g3, g4, g2, Own.nil, Own.nil, oR.upd u_w6 (own_blk_ne oR n_b4.blk rfl)⟩
  clear k_b1 k_b2 k_b3 k_bq k_b4 n_b1 n_b2 n_b3 n_bq n_b4 u_w6 x2 x3 x4 x5 e25
  refine VD_seqD ?_
  refine VD_seq ?_
  repeat (first | refine Vx ?_ | (apply Ops_q; (case hon => exact Va); (case hd => rfl); (case hq => exact YlA)) | refine Vr ?_ | refine Vt ?_ | refine Vf ?_ | refine Vm ?_ | refine Ve ?_ | refine Vo ?_ | refine Vz ?_ | refine Vn ?_)
  refine VD_block ?_
  refine VD_loop (fun s : Nat × Value × Value × Value => [(5, .int .i64 s.1), (1, .pointer (some ⟨b1, 0, none⟩)), (2, .pointer (some ⟨b2, 0, none⟩)), (3, .pointer (some ⟨b3, 0, none⟩)), (4, .pointer (some ⟨b4, 0, none⟩))])
    (fun s Ds w => CS w0 ao R c b1 b2 b3 b4 s.2.1 s.2.2.1 s.2.2.2 (ndsF g s.1) (lvF g s.1) (rowF g s.1) w ∧ s.1 ≤ (rowF g s.1).length ∧ Marks Ds w ∧ ∀ D ∈ Ds, w0.heap.size ≤ D) (fun s => plW 0 - s.1)
    (0, .slice none 0 0, .slice none 0 0, .slice (some ⟨bq, 0, none⟩) 1 1) (by repeat (first | exact trivial | refine ⟨rfl, ?_⟩)) ⟨hcs0, Nat.zero_le _, Marks.nil, fun _ h => nomatch h⟩ ?_
  clear hcs0
  rintro ⟨i, vN, vL, vR⟩ Ds w1 ⟨hcs, hi, hM, hD⟩
  dsimp only at hcs hi ⊢
  obtain ⟨p0, hp0⟩ : ∃ p0, (rowF g i)[0]? = some p0 := ⟨(0, 0), get_prefix (row_pre g (Nat.zero_le i)) rfl⟩
  have hrne : (rowF g i).map plC ≠ [] := fun e => by rw [List.map_eq_nil_iff] at e; rw [e] at hp0; simp at hp0
  obtain ⟨gR, capR, hvR, _⟩ := hcs.oR.addr hrne
  rw [List.length_map] at hvR
  obtain ⟨aL, cL, hvL, _⟩ := hcs.oL.slice
  rw [List.length_map] at hvL
  have hrl := row_len_le hi
  rw [plW_zero] at hrl
  have hlv := lv_le g i
  subst hvR
  have k4 := hcs.k4
  refine VD_seq ?_
  repeat (first | refine Vx ?_ | (apply Ops_q; (case hon => exact Va); (case hd => rfl); (case hq => exact YlA)) | refine Vr ?_ | refine Vt ?_ | refine Vf ?_ | refine Vm ?_ | refine Ve ?_ | refine Vo ?_ | refine Vz ?_ | refine Vn ?_)
  refine V_cond rfl (fun hg => ?_) (fun hg => ?_)
  · replace hg := of_decide_eq_true hg
    have hil : i < (rowF g i).length := by omega
    clear hg
    obtain ⟨p, hp⟩ : ∃ p, (rowF g i)[i]? = some p := ⟨_, List.getElem?_eq_getElem hil⟩
    have hpk := plOk_row g i p (List.mem_of_getElem? hp)
    repeat (first | refine Vx ?_ | (apply Ops_q; (case hon => exact Va); (case hd => rfl); (case hq => exact YlA)) | refine Vr ?_ | refine Vt ?_ | refine Vf ?_ | refine Vm ?_ | refine Ve ?_ | refine Vo ?_ | refine Vz ?_ | refine Vn ?_)
    refine VD_seqD ?_
    refine VD_block ?_
    subst hvL
    have k3 := hcs.k3
    have k4 := hcs.k4
    refine VD_seq ?_
    repeat (first | refine Vx ?_ | (apply Ops_q; (case hon => exact Va); (case hd => rfl); (case hq => exact YlA)) | refine Vr ?_ | refine Vt ?_ | refine Vf ?_ | refine Vm ?_ | refine Ve ?_ | refine Vo ?_ | refine Vz ?_ | refine Vn ?_)
    (refine Ops_alloc (by exact Va) rfl ?_; intro w2 b6 n_b6; have k_b6 := n_b6.blk)
    repeat (first | refine Vx ?_ | (apply Ops_q; (case hon => exact Va); (case hd => rfl); (case hq => exact YlA)) | refine Vr ?_ | refine Vt ?_ | refine Vf ?_ | refine Vm ?_ | refine Ve ?_ | refine Vo ?_ | refine Vz ?_ | refine Vn ?_)
    (refine Ops_store (by exact Va) rfl rfl (by assumption) (by first | rfl | exact OneAll.h) ?_; intro w3 u_w3; have k_b6 := u_w3.blk)
    repeat (first | refine Vx ?_ | (apply Ops_q; (case hon => exact Va); (case hd => rfl); (case hq => exact YlA)) | refine Vr ?_ | refine Vt ?_ | refine Vf ?_ | refine Vm ?_ | refine Ve ?_ | refine Vo ?_ | refine Vz ?_ | refine Vn ?_)
    refine VD_seq ?_
    repeat (first | refine Vx ?_ | (apply Ops_q; (case hon => exact Va); (case hd => rfl); (case hq => exact YlA)) | refine Vr ?_ | refine Vt ?_ | refine Vf ?_ | refine Vm ?_ | refine Ve ?_ | refine Vo ?_ | refine Vz ?_ | refine Vn ?_)
    (refine Ops_alloc (by exact Va) rfl ?_; intro w4 b7 n_b7; have k_b7 := n_b7.blk)
    repeat (first | refine Vx ?_ | (apply Ops_q; (case hon => exact Va); (case hd => rfl); (case hq => exact YlA)) | refine Vr ?_ | refine Vt ?_ | refine Vf ?_ | refine Vm ?_ | refine Ve ?_ | refine Vo ?_ | refine Vz ?_ | refine Vn ?_)
    (refine Ops_alloc (by exact Va) rfl ?_; intro w5 b8 n_b8; have k_b8 := n_b8.blk)
    have h7 := k_b7.ext n_b8.ext
    have h87 : b8 ≠ b7 := Ne.symm (Nat.ne_of_lt (Nat.lt_of_lt_of_le k_b7.lt n_b8.ge))
    replace k_b7 := h7
    repeat (first | refine Vx ?_ | (apply Ops_q; (case hon => exact Va); (case hd => rfl); (case hq => exact YlA)) | refine Vr ?_ | refine Vt ?_ | refine Vf ?_ | refine Vm ?_ | refine Ve ?_ | refine Vo ?_ | refine Vz ?_ | refine Vn ?_)
    (refine Ops_store (by exact Va) rfl rfl (by assumption) (by first | rfl | exact OneAll.h) ?_; intro w6 u_w6; have k_b7 := u_w6.blk)
    have k8' := u_w6.keep n_b8.blk h87
    replace k_b8 := k8'
    repeat (first | refine Vx ?_ | (apply Ops_q; (case hon => exact Va); (case hd => rfl); (case hq => exact YlA)) | refine Vr ?_ | refine Vt ?_ | refine Vf ?_ | refine Vm ?_ | refine Ve ?_ | refine Vo ?_ | refine Vz ?_ | refine Vn ?_)
    (refine Ops_store (by exact Va) rfl rfl (by assumption) (by first | rfl | exact OneAll.h) ?_; intro w7 u_w7; have k_b8 := u_w7.blk)
    replace k_b7 := u_w7.keep k_b7 (Ne.symm h87)
    have y2 := hcs.ext.trans n_b6.ext
    have hcs2 := hcs.mono n_b6.ext
    have hN6 : vN.ownBlock ≠ some b6 := fun e => by have := hcs.oN.lt e; have := n_b6.ge; omega
    have hL6 : (Value.slice aL (lvF g i).length cL).ownBlock ≠ some b6 := fun e => by have := hcs.oL.lt e; have := n_b6.ge; omega
    have g6 : w0.heap.size ≤ b6 := Nat.le_trans hcs.ext.size n_b6.ge
    have hcs3 := hcs2.upd u_w3 n_b6.blk g6 rfl rfl rfl hN6 hL6 rfl
    have hcs5 := hcs3.mono (n_b7.ext.trans n_b8.ext)
    have g7 : w0.heap.size ≤ b7 := Nat.le_trans hcs3.ext.size n_b7.ge
    have g8 : w0.heap.size ≤ b8 := Nat.le_trans (hcs3.ext.trans n_b7.ext).size n_b8.ge
    have hN7 : vN.ownBlock ≠ some b7 := fun e => by have := hcs3.oN.lt e; have := n_b7.ge; omega
    have hL7 : (Value.slice aL (lvF g i).length cL).ownBlock ≠ some b7 := fun e => by have := hcs3.oL.lt e; have := n_b7.ge; omega
    have hL8 : (Value.slice aL (lvF g i).length cL).ownBlock ≠ some b8 := fun e => by have := (hcs3.oL.ext n_b7.ext).lt e; have := n_b8.ge; omega
    have hN8 : vN.ownBlock ≠ some b8 := fun e => by have := (hcs3.oN.ext n_b7.ext).lt e; have := n_b8.ge; omega
    have hcs6 := hcs5.upd u_w6 h7 g7 rfl rfl rfl hN7 hL7 rfl
    have hcs7 := hcs6.upd u_w7 k8' g8 rfl rfl rfl hN8 hL8 rfl
    have h6a := k_b6.ext (n_b7.ext.trans n_b8.ext)
    have h6b := u_w6.keep h6a (blk_ne h6a h7 rfl)
    have h6c := u_w7.keep h6b (blk_ne h6b k8' rfl)
    have hM7 : Marks Ds w7 := ((((hM.ext n_b6.ext).upd u_w3 n_b6.blk).ext (n_b7.ext.trans n_b8.ext)).upd u_w6 h7).upd u_w7 k8'
    clear hcs hcs2 hcs3 hcs5 hcs6 h6a h6b u_w3 u_w6 u_w7 n_b6 n_b7 n_b8 k_b6 h7 k8' y2 hN7 hL8 hN8 hL6 hM k3 k4
    have k4 := hcs7.k4
    repeat (first | refine Vx ?_ | (apply Ops_q; (case hon => exact Va); (case hd => rfl); (case hq => exact YlA)) | refine Vr ?_ | refine Vt ?_ | refine Vf ?_ | refine Vm ?_ | refine Ve ?_ | refine Vo ?_ | refine Vz ?_ | refine Vn ?_)
    refine VD_seqD ?_
    refine VD_seq ?_
    have hpc : Cells w7 ((⟨gR, 0, none⟩ : Addr).add (i * 2)) [.int .u64 p.1, .int .i64 p.2] := by
      obtain ⟨ao', c', e1, hA⟩ := hcs7.oR.slice
      injection e1 with e1 _ _
      subst e1
      obtain ⟨ad, e2, hc⟩ := hA i (plC p) (by rw [List.getElem?_map, hp]; rfl)
      cases e2
      exact hc
    repeat (first | refine Vx ?_ | (apply Ops_q; (case hon => exact Va); (case hd => rfl); (case hq => exact YlA)) | refine Vr ?_ | refine Vt ?_ | refine Vf ?_ | refine Vm ?_ | refine Ve ?_ | refine Vo ?_ | refine Vz ?_ | refine Vn ?_)
    (apply Ops_q; (case hon => (exact Va)); (case hd => rfl); (case hq => exact Yl_indexS (j := i) rfl rfl (by omega)))
    repeat (first | refine Vx ?_ | (apply Ops_q; (case hon => exact Va); (case hd => rfl); (case hq => exact YlA)) | refine Vr ?_ | refine Vt ?_ | refine Vf ?_ | refine Vm ?_ | refine Ve ?_ | refine Vo ?_ | refine Vz ?_ | refine Vn ?_)
    (refine Ops_callR (by exact Va) rfl rfl (fun w_ e_ => below_v p w_) ?_; intro vf w8 w0_ e0_ e1_ r_vf; have e_w8 := e0_.trans e1_; have b_vf := e0_.size; clear e0_ e1_)
    obtain ⟨bb, rfl, kb, hbb⟩ := r_vf
    repeat (first | refine Vx ?_ | (apply Ops_q; (case hon => exact Va); (case hd => rfl); (case hq => exact YlA)) | refine Vr ?_ | refine Vt ?_ | refine Vf ?_ | refine Vm ?_ | refine Ve ?_ | refine Vo ?_ | refine Vz ?_ | refine Vn ?_)
    refine VD_block ?_
    have hcs8 := hcs7.mono e_w8
    have h68 := h6c.ext e_w8
    have h78 := k_b7.ext e_w8
    have h88 := k_b8.ext e_w8
    have hR8 : (Value.slice (some ⟨gR, 0, none⟩) (rowF g i).length capR).ownBlock ≠ some bb := fun e => by have := hcs7.oR.lt e; have := b_vf; have := hbb; omega
    have hM8 := hM7.ext e_w8
    have hI0 : CR g w0 ao R c b1 b2 b3 b4 b6 b7 b8 bb Ds vN i p 0 (.slice aL (lvF g i).length cL) (.slice (some ⟨gR, 0, none⟩) (rowF g i).length capR) 0 false w8 :=
      ⟨by rw [lvP, kdP, List.append_nil, List.append_nil]; exact hcs8, h68, h78, h88, kb, g6, g7, g8, hN6, hL7, hR8, hM8⟩
    clear hcs7 hcs8 h68 h78 h88 hM7 h6c k_b7 k_b8 kb
    refine VD_sub (m1 := [(31, .func (.func 93) #[] #[.pointer (some ⟨bb, 0, none⟩)]), (5, .int .i64 i), (6, .pointer (some ⟨b6, 0, none⟩)), (7, .pointer (some ⟨b7, 0, none⟩)), (8, .pointer (some ⟨b8, 0, none⟩)), (1, .pointer (some ⟨b1, 0, none⟩)), (2, .pointer (some ⟨b2, 0, none⟩)), (3, .pointer (some ⟨b3, 0, none⟩)), (4, .pointer (some ⟨b4, 0, none⟩))]) (by repeat (first | exact trivial | refine ⟨rfl, ?_⟩)) ?_
    have hl0 : ∀ l, w8.heap.size ≤ l → w0.heap.size ≤ l := fun l hl => Nat.le_trans hI0.cs.ext.size hl
    refine VD_range (K := 64) (vs := fun k => [.int .i64 k, partV p k]) rfl (fun args w => TFun.h args w) (below_iter bb p hpk) (fun _ => rfl) rfl
      (fun k w => ∃ vL vR last any, CR g w0 ao R c b1 b2 b3 b4 b6 b7 b8 bb Ds vN i p k vL vR last any w ∧ lstOk g p k last any) (fun _ => False)
      (fun s : Nat × Nat => [(10, .pointer (some ⟨s.2, 0, none⟩)), (9, .int .i64 s.1), (6, .pointer (some ⟨b6, 0, none⟩)), (7, .pointer (some ⟨b7, 0, none⟩)), (8, .pointer (some ⟨b8, 0, none⟩)), (1, .pointer (some ⟨b1, 0, none⟩)), (2, .pointer (some ⟨b2, 0, none⟩)), (3, .pointer (some ⟨b3, 0, none⟩)), (4, .pointer (some ⟨b4, 0, none⟩))])
      (fun k s w => s.1 = k ∧ (∃ vL vR last any, CR g w0 ao R c b1 b2 b3 b4 b6 b7 b8 bb Ds vN i p k vL vR last any w ∧ lstOk g p k last any) ∧ Blk w s.2 125 [.int .u64 (digLo p.2 p.1 k), .int .i64 ((p.2 : Int) + 1), .bool (digOk p.2 k)])
      (fun k w1 w2 ⟨vL, vR, last, any, h, hlt⟩ he => ⟨vL, vR, last, any, h.ext he, hlt⟩) (fun _ _ h _ => h)
      (fun k s w1 w2 ⟨e, ⟨vL, vR, last, any, h, hlt⟩, hb⟩ he => ⟨e, ⟨vL, vR, last, any, h.ext he, hlt⟩, hb.ext he⟩)
      (fun l k w1 w2 hl ⟨vL, vR, last, any, h, hlt⟩ ht => ⟨vL, vR, last, any, h.turn ht (hl0 l hl), hlt⟩) (fun _ _ _ _ h _ => h)
      (fun l k s w1 w2 hl ⟨e, ⟨vL, vR, last, any, h, hlt⟩, hb⟩ ht => ⟨e, ⟨vL, vR, last, any, h.turn ht (hl0 l hl), hlt⟩, ht.blk hb⟩)
      (fun k w1 ⟨vL, vR, last, any, h, _⟩ => h.kb) ⟨_, _, _, _, hI0, rfl⟩ ?_ ?_ ?_ (fun _ _ _ h => h.elim)
    · -- the loop's variables
      rintro l D r k w9 hk hl ⟨vL, vR, last, any, h, hlt⟩ hr
      show V _ _ _ _ ((33, _) :: (32, _) :: _) _
      repeat (first | refine Vx ?_ | (apply Ops_q; (case hon => exact Va); (case hd => rfl); (case hq => exact YlA)) | refine Vr ?_ | refine Vt ?_ | refine Vf ?_ | refine Vm ?_ | refine Ve ?_ | refine Vo ?_ | refine Vz ?_ | refine Vn ?_)
      (refine Ops_alloc (by exact Va) rfl ?_; intro wa b10 n_b10; have k_b10 := n_b10.blk)
      repeat (first | refine Vx ?_ | (apply Ops_q; (case hon => exact Va); (case hd => rfl); (case hq => exact YlA)) | refine Vr ?_ | refine Vt ?_ | refine Vf ?_ | refine Vm ?_ | refine Ve ?_ | refine Vo ?_ | refine Vz ?_ | refine Vn ?_)
      (refine Ops_store (by exact Va) rfl rfl (by assumption) (by first | rfl | exact OneAll.h) ?_; intro wb u_wb; have k_b10 := u_wb.blk)
      have xb : Ext w9 wb := u_wb.below n_b10.ext n_b10.ge
      repeat (first | refine Vx ?_ | (apply Ops_q; (case hon => exact Va); (case hd => rfl); (case hq => exact YlA)) | refine Vr ?_ | refine Vt ?_ | refine Vf ?_ | refine Vm ?_ | refine Ve ?_ | refine Vo ?_ | refine Vz ?_ | refine Vn ?_)
      exact ⟨rfl, hr.ext xb, (k, b10), (by repeat (first | exact trivial | refine ⟨rfl, ?_⟩)), rfl, ⟨vL, vR, last, any, h.ext xb, hlt⟩, k_b10⟩
    · -- a round
      rintro l D r k ⟨kk, b10⟩ w9 hk hl ⟨e, ⟨vL, vR, last, any, h, hlst⟩, k10⟩ hr
      dsimp only at e k10 ⊢
      subst e
      have hdig := dig_in (base := p.1) hpk.1 hk
      have h32 := hpk.2
      have hnp := nsz_pos (p.2 + 1)
      have hlt32 : digLo p.2 p.1 kk < 4294967296 := by omega
      obtain ⟨r1, hr1, hr2, _⟩ := hR.find hlt32
      have k1 := h.cs.k1
      have hpw := pow_in hk
      repeat (first | refine Vx ?_ | (apply Ops_q; (case hon => exact Va); (case hd => rfl); (case hq => exact YlA)) | refine Vr ?_ | refine Vt ?_ | refine Vf ?_ | refine Vm ?_ | refine Ve ?_ | refine Vo ?_ | refine Vz ?_ | refine Vn ?_)
      (apply Ops_q; (case hon => (exact Va)); (case hd => rfl); (case hq => exact Yl_call rfl (fun w_ e_ => findS_v ao R c (digLo p.2 p.1 kk) w_ (hL.ext (h.cs.ext.trans e_)) hR (Nat.le_of_ble_eq_true rfl) hRn)))
      repeat (first | refine Vx ?_ | (apply Ops_q; (case hon => exact Va); (case hd => rfl); (case hq => exact YlA)) | refine Vr ?_ | refine Vt ?_ | refine Vf ?_ | refine Vm ?_ | refine Ve ?_ | refine Vo ?_ | refine Vz ?_ | refine Vn ?_)
      refine Ops_meet [(60, .bool (inB g p kk)), (11, .int .i64 ((cntR R (digLo p.2 p.1 kk) - 1 : Nat) : Int)), (9, .int .i64 kk), (10, .pointer (some ⟨b10, 0, none⟩)), (6, .pointer (some ⟨b6, 0, none⟩)), (7, .pointer (some ⟨b7, 0, none⟩)), (8, .pointer (some ⟨b8, 0, none⟩)), (1, .pointer (some ⟨b1, 0, none⟩)), (2, .pointer (some ⟨b2, 0, none⟩)), (3, .pointer (some ⟨b3, 0, none⟩)), (4, .pointer (some ⟨b4, 0, none⟩))] ?_ ?_
      · cases hok : digOk p.2 kk with
        | false =>
          rw [(dnone_of hok).2]
          repeat (first | refine Vx ?_ | (apply Ops_q; (case hon => exact Va); (case hd => rfl); (case hq => exact YlA)) | refine Vr ?_ | refine Vt ?_ | refine Vf ?_ | refine Vm ?_ | refine Ve ?_ | refine Vo ?_ | refine Vz ?_ | refine Vn ?_)
          exact ⟨(by repeat (first | exact trivial | refine ⟨rfl, ?_⟩)), rfl⟩
        | true =>
          rw [hok] at k10
          by_cases h5 : p.2 < 5
          · have hd5 : decide ((p.2 : Int) + 1 ≤ 5) = true := decide_eq_true (by omega)
            have hd6 : p.2 + 1 ≤ 6 := by omega
            have ed : ((p.2 : Int) + 1) = ((p.2 + 1 : Nat) : Int) := by omega
            have hpart : Cells w9 ⟨b10, 0, none⟩ [.int .u64 (digLo p.2 p.1 kk), .int .i64 ((p.2 : Int) + 1)] := k10.part 0 2
            have es : ((digLo p.2 p.1 kk : Nat) : Int) + ((nsz (p.2 + 1) : Nat) : Int) - 1 = ((digLo p.2 p.1 kk + nsz (p.2 + 1) - 1 : Nat) : Int) := by omega
            have hin : (!decide (((cntR R (digLo p.2 p.1 kk) - 1 : Nat) : Int) = ((cntR R (digLo p.2 p.1 kk + nsz (p.2 + 1) - 1) - 1 : Nat) : Int))) = inB g p kk := by
              have hff := hR.find_flat (show digLo p.2 p.1 kk < digLo p.2 p.1 kk + nsz (p.2 + 1) by omega) (show digLo p.2 p.1 kk + nsz (p.2 + 1) ≤ 4294967296 by omega)
              have c1 := hR.cnt_pos (by omega) (digLo p.2 p.1 kk)
              have c2 := hR.cnt_pos (by omega) (digLo p.2 p.1 kk + nsz (p.2 + 1) - 1)
              cases hb : inB g p kk with
              | true =>
                have := (inB_of hpk.1 hb).2.2.1
                rw [decide_eq_false (fun e => this (hff.1 (by omega)))]; rfl
              | false =>
                have := hff.2 (leaf_of hb hok).2
                rw [this, decide_eq_true rfl]; rfl
            repeat (first | refine Vx ?_ | (apply Ops_q; (case hon => exact Va); (case hd => rfl); (case hq => exact YlA)) | refine Vr ?_ | refine Vt ?_ | refine Vf ?_ | refine Vm ?_ | refine Ve ?_ | refine Vo ?_ | refine Vz ?_ | refine Vn ?_)
            refine Ops_know rfl rfl hd5 ?_
            repeat (first | refine Vx ?_ | (apply Ops_q; (case hon => exact Va); (case hd => rfl); (case hq => exact YlA)) | refine Vr ?_ | refine Vt ?_ | refine Vf ?_ | refine Vm ?_ | refine Ve ?_ | refine Vo ?_ | refine Vz ?_ | refine Vn ?_)
            rw [ed]
            (apply Ops_q; (case hon => (exact Va)); (case hd => rfl); (case hq => exact Yl_call rfl (fun w_ e_ => sizeS_v ((digLo p.2 p.1 kk : Nat) : Int) (p.2 + 1) w_ hd6)))
            repeat (first | refine Vx ?_ | (apply Ops_q; (case hon => exact Va); (case hd => rfl); (case hq => exact YlA)) | refine Vr ?_ | refine Vt ?_ | refine Vf ?_ | refine Vm ?_ | refine Ve ?_ | refine Vo ?_ | refine Vz ?_ | refine Vn ?_)
            rw [es]
            (apply Ops_q; (case hon => (exact Va)); (case hd => rfl); (case hq => exact Yl_call rfl (fun w_ e_ => findS_v ao R c (digLo p.2 p.1 kk + nsz (p.2 + 1) - 1) w_ (hL.ext (h.cs.ext.trans e_)) hR (Nat.le_of_ble_eq_true rfl) hRn)))
            repeat (first | refine Vx ?_ | (apply Ops_q; (case hon => exact Va); (case hd => rfl); (case hq => exact YlA)) | refine Vr ?_ | refine Vt ?_ | refine Vf ?_ | refine Vm ?_ | refine Ve ?_ | refine Vo ?_ | refine Vz ?_ | refine Vn ?_)
            rw [hin]
            exact ⟨(by repeat (first | exact trivial | refine ⟨rfl, ?_⟩)), rfl⟩
          · have e5 : p.2 = 5 := by have := hpk.1; omega
            have hd5 : decide ((p.2 : Int) + 1 ≤ 5) = false := decide_eq_false (by omega)
            have hin : inB g p kk = false := by
              obtain ⟨pb, pd⟩ := p
              dsimp only at e5; subst e5
              exact inB_five g pb kk
            rw [hin]
            repeat (first | refine Vx ?_ | (apply Ops_q; (case hon => exact Va); (case hd => rfl); (case hq => exact YlA)) | refine Vr ?_ | refine Vt ?_ | refine Vf ?_ | refine Vm ?_ | refine Ve ?_ | refine Vo ?_ | refine Vz ?_ | refine Vn ?_)
            refine Ops_know rfl rfl hd5 ?_
            repeat (first | refine Vx ?_ | (apply Ops_q; (case hon => exact Va); (case hd => rfl); (case hq => exact YlA)) | refine Vr ?_ | refine Vt ?_ | refine Vf ?_ | refine Vm ?_ | refine Ve ?_ | refine Vo ?_ | refine Vz ?_ | refine Vn ?_)
            exact ⟨(by repeat (first | exact trivial | refine ⟨rfl, ?_⟩)), rfl⟩
      · repeat (first | refine Vx ?_ | (apply Ops_q; (case hon => exact Va); (case hd => rfl); (case hq => exact YlA)) | refine Vr ?_ | refine Vt ?_ | refine Vf ?_ | refine Vm ?_ | refine Ve ?_ | refine Vo ?_ | refine Vz ?_ | refine Vn ?_)
        refine V_cond rfl (fun hin => ?_) (fun hin => ?_)
        · obtain ⟨hok, h5, hnf, hK⟩ := inB_of hpk.1 hin
          have k6 := h.k6
          have hor := or_step hk hin
          have hkl := kdP_le g p kk
          have hlen : ((rowF g i ++ kdP g p kk).map plC).length ≤ 75418890689 := by rw [List.length_map, List.length_append]; omega
          refine V_seq ?_
          refine V_region_mixed 6 (by kernel_rfl) (by kernel_rfl) rfl ?_
          repeat (first | refine Vx ?_ | (apply Ops_q; (case hon => exact Va); (case hd => rfl); (case hq => exact YlA)) | refine Vr ?_ | refine Vt ?_ | refine Vf ?_ | refine Vm ?_ | refine Ve ?_ | refine Vo ?_ | refine Vz ?_ | refine Vn ?_)
          rw [hor]
          (refine Ops_store (by exact Va) rfl rfl (by assumption) (by first | rfl | exact OneAll.h) ?_; intro wa u_wa; have k_b6 := u_wa.blk)
          have hra := hr.upd u_wa h.k6
          have k10a := u_wa.keep k10 (blk_ne k10 h.k6 rfl)
          have hpart : Cells wa ⟨b10, 0, none⟩ [.int .u64 (digLo p.2 p.1 kk), .int .i64 ((p.2 : Int) + 1)] := k10a.part 0 2
          have csa := h.cs.upd u_wa h.k6 h.g6 rfl rfl rfl h.nN (own_blk_ne h.cs.oL h.k6 rfl) rfl
          have k4 := csa.k4
          repeat (first | refine Vx ?_ | (apply Ops_q; (case hon => exact Va); (case hd => rfl); (case hq => exact YlA)) | refine Vr ?_ | refine Vt ?_ | refine Vf ?_ | refine Vm ?_ | refine Ve ?_ | refine Vo ?_ | refine Vz ?_ | refine Vn ?_)
          (refine Ops_lit (by exact Va) rfl rfl rfl ?_; intro wb bl n_bl; have k_bl := n_bl.blk)
          have csb := csa.mono n_bl.ext
          repeat (first | refine Vx ?_ | (apply Ops_q; (case hon => exact Va); (case hd => rfl); (case hq => exact YlA)) | refine Vr ?_ | refine Vt ?_ | refine Vf ?_ | refine Vm ?_ | refine Ve ?_ | refine Vo ?_ | refine Vz ?_ | refine Vn ?_)
          (refine Ops_append1 (by exact Va) rfl rfl rfl rfl csb.oR k_bl.cells inferInstance inferInstance (by first | omega | (rw [List.length_map]; omega)) rfl csb.ext.size ?_; intro vR2 wc o_vR2 g_wc d_vR2)
          obtain ⟨aN, cN, rfl, _⟩ := o_vR2.slice
          have k4c := grow_blk g_wc csb.k4 (fun e => own_blk_ne csb.oR csb.k4 rfl e.symm)
          repeat (first | refine Vx ?_ | (apply Ops_q; (case hon => exact Va); (case hd => rfl); (case hq => exact YlA)) | refine Vr ?_ | refine Vt ?_ | refine Vf ?_ | refine Vm ?_ | refine Ve ?_ | refine Vo ?_ | refine Vz ?_ | refine Vn ?_)
          (refine Ops_store (by exact Va) rfl rfl (by assumption) (by first | rfl | exact OneAll.h) ?_; intro wd u_wd; have k_b4 := u_wd.blk)
          have hfin := h.inner hin hK u_wa n_bl.ext g_wc o_vR2 d_vR2 u_wd
          have hrd := ((hra.ext n_bl.ext).own csb.oR g_wc).upd u_wd k4c
          repeat (first | refine Vx ?_ | (apply Ops_q; (case hon => exact Va); (case hd => rfl); (case hq => exact YlA)) | refine Vr ?_ | refine Vt ?_ | refine Vf ?_ | refine Vm ?_ | refine Ve ?_ | refine Vo ?_ | refine Vz ?_ | refine Vn ?_)
          refine ⟨hrd, _, _, last, any, hfin, ?_⟩
          unfold lstOk
          rw [(step_in hin hK).2.1]; exact hlst
        · -- a leaf, or a digit without addresses
          obtain ⟨t1, t2⟩ := step_out hin
          obtain ⟨adR, rfl, hcR⟩ := hL.at hr1
          have hc9 : w9.cell? ((adR.add ((cntR R (digLo p.2 p.1 kk) - 1) * 2)).add 1) = some (.int .i64 r1.2) := (hcR.ext h.cs.ext) 1 _ rfl
          have hjl := (List.getElem?_eq_some_iff.1 hr1).1
          have k7 := h.k7
          have k8 := h.k8
          have hN7 : vN.ownBlock ≠ some b7 := own_blk_ne h.cs.oN k7 rfl
          repeat (first | refine Vx ?_ | (apply Ops_q; (case hon => exact Va); (case hd => rfl); (case hq => exact YlA)) | refine Vr ?_ | refine Vt ?_ | refine Vf ?_ | refine Vm ?_ | refine Ve ?_ | refine Vo ?_ | refine Vz ?_ | refine Vn ?_)
          (apply Ops_q; (case hon => (exact Va)); (case hd => rfl); (case hq => exact Yl_indexS (j := cntR R (digLo p.2 p.1 kk) - 1) rfl rfl (by omega)))
          repeat (first | refine Vx ?_ | (apply Ops_q; (case hon => exact Va); (case hd => rfl); (case hq => exact YlA)) | refine Vr ?_ | refine Vt ?_ | refine Vf ?_ | refine Vm ?_ | refine Ve ?_ | refine Vo ?_ | refine Vz ?_ | refine Vn ?_)
          cases hok : digOk p.2 kk with
          | false =>
            have hnK := (dnone_of (f := g) hok).1
            obtain ⟨u1, u2⟩ := step_none hnK
            obtain ⟨e5, _⟩ := digTo_skip (base := p.1) hpk.1 hok
            have hne : lvP g p kk ≠ [] := by
              obtain ⟨pb, pd⟩ := p
              dsimp only at e5 hok
              subst e5
              refine lvP_five g pb ?_
              rcases Nat.eq_zero_or_pos kk with e0 | e0
              · rw [e0] at hok; cases hok
              · exact e0
            cases any with
            | false => exact absurd (List.getLast?_eq_none_iff.1 hlst) hne
            | true =>
              have hne2 : (!decide (last = last)) = false := by simp
              repeat (first | refine Vx ?_ | (apply Ops_q; (case hon => exact Va); (case hd => rfl); (case hq => exact YlA)) | refine Vr ?_ | refine Vt ?_ | refine Vf ?_ | refine Vm ?_ | refine Ve ?_ | refine Vo ?_ | refine Vz ?_ | refine Vn ?_)
              refine V_no rfl hne2 ?_
              repeat (first | refine Vx ?_ | (apply Ops_q; (case hon => exact Va); (case hd => rfl); (case hq => exact YlA)) | refine Vr ?_ | refine Vt ?_ | refine Vf ?_ | refine Vm ?_ | refine Ve ?_ | refine Vo ?_ | refine Vz ?_ | refine Vn ?_)
              (refine Ops_store (by exact Va) rfl rfl (by assumption) (by first | rfl | exact OneAll.h) ?_; intro wa u_wa; have k_b7 := u_wa.blk)
              have k8a := u_wa.keep h.k8 (blk_ne h.k8 h.k7 rfl)
              repeat (first | refine Vx ?_ | (apply Ops_q; (case hon => exact Va); (case hd => rfl); (case hq => exact YlA)) | refine Vr ?_ | refine Vt ?_ | refine Vf ?_ | refine Vm ?_ | refine Ve ?_ | refine Vo ?_ | refine Vz ?_ | refine Vn ?_)
              (refine Ops_store (by exact Va) rfl rfl (by assumption) (by first | rfl | exact OneAll.h) ?_; intro wb u_wb; have k_b8 := u_wb.blk)
              have hfin := (h.same t1 u1 t2 u2).setLast u_wa u_wb hN7
              have hrd := (hr.upd u_wa h.k7).upd u_wb k8a
              repeat (first | refine Vx ?_ | (apply Ops_q; (case hon => exact Va); (case hd => rfl); (case hq => exact YlA)) | refine Vr ?_ | refine Vt ?_ | refine Vf ?_ | refine Vm ?_ | refine Ve ?_ | refine Vo ?_ | refine Vz ?_ | refine Vn ?_)
              exact ⟨hrd, _, _, last, true, hfin, by unfold lstOk; rw [u1]; exact hlst⟩
          | true =>
            obtain ⟨hK, _⟩ := leaf_of hin hok
            rw [← hr2] at hK
            repeat (first | refine Vx ?_ | (apply Ops_q; (case hon => exact Va); (case hd => rfl); (case hq => exact YlA)) | refine Vr ?_ | refine Vt ?_ | refine Vf ?_ | refine Vm ?_ | refine Ve ?_ | refine Vo ?_ | refine Vz ?_ | refine Vn ?_)
            refine Ops_meet [(87, .bool (stB g p kk)), (12, .int .i64 r1.2), (9, .int .i64 kk), (10, .pointer (some ⟨b10, 0, none⟩)), (6, .pointer (some ⟨b6, 0, none⟩)), (7, .pointer (some ⟨b7, 0, none⟩)), (8, .pointer (some ⟨b8, 0, none⟩)), (1, .pointer (some ⟨b1, 0, none⟩)), (2, .pointer (some ⟨b2, 0, none⟩)), (3, .pointer (some ⟨b3, 0, none⟩)), (4, .pointer (some ⟨b4, 0, none⟩))] ?_ ?_
            · cases any with
              | false =>
                have hst : stB g p kk = true := (step_new hK (by rw [show (lvP g p kk).getLast? = none from hlst]; simp)).2
                rw [hst]
                repeat (first | refine Vx ?_ | (apply Ops_q; (case hon => exact Va); (case hd => rfl); (case hq => exact YlA)) | refine Vr ?_ | refine Vt ?_ | refine Vf ?_ | refine Vm ?_ | refine Ve ?_ | refine Vo ?_ | refine Vz ?_ | refine Vn ?_)
                exact ⟨(by repeat (first | exact trivial | refine ⟨rfl, ?_⟩)), rfl⟩
              | true =>
                have hst : stB g p kk = !decide (r1.2 = last) := by
                  have hl1 : (lvP g p kk).getLast? = some last := hlst
                  by_cases he : r1.2 = last
                  · rw [(step_same hK (by rw [hl1, he])).2, decide_eq_true he]; rfl
                  · rw [(step_new hK (by rw [hl1]; exact fun e => he (Option.some.inj e).symm)).2, decide_eq_false he]; rfl
                rw [hst]
                repeat (first | refine Vx ?_ | (apply Ops_q; (case hon => exact Va); (case hd => rfl); (case hq => exact YlA)) | refine Vr ?_ | refine Vt ?_ | refine Vf ?_ | refine Vm ?_ | refine Ve ?_ | refine Vo ?_ | refine Vz ?_ | refine Vn ?_)
                exact ⟨(by repeat (first | exact trivial | refine ⟨rfl, ?_⟩)), rfl⟩
            · repeat (first | refine Vx ?_ | (apply Ops_q; (case hon => exact Va); (case hd => rfl); (case hq => exact YlA)) | refine Vr ?_ | refine Vt ?_ | refine Vf ?_ | refine Vm ?_ | refine Ve ?_ | refine Vo ?_ | refine Vz ?_ | refine Vn ?_)
              refine V_cond rfl (fun hst => ?_) (fun hst => ?_)
              · have hl' : (lvP g p kk).getLast? ≠ some r1.2 := fun e => by rw [(step_same hK e).2] at hst; cases hst
                obtain ⟨s1, _⟩ := step_new hK hl'
                have k6 := h.k6
                have hor := or_step hk hst
                have hkl := lvP_le g p kk
                have hlen : ((lvF g i ++ lvP g p kk).map ic).length ≤ 4826809000064 := by rw [List.length_map, List.length_append]; omega
                refine V_seq ?_
                refine V_region_mixed 6 (by kernel_rfl) (by kernel_rfl) rfl ?_
                repeat (first | refine Vx ?_ | (apply Ops_q; (case hon => exact Va); (case hd => rfl); (case hq => exact YlA)) | refine Vr ?_ | refine Vt ?_ | refine Vf ?_ | refine Vm ?_ | refine Ve ?_ | refine Vo ?_ | refine Vz ?_ | refine Vn ?_)
                rw [hor]
                (refine Ops_store (by exact Va) rfl rfl (by assumption) (by first | rfl | exact OneAll.h) ?_; intro wa u_wa; have k_b6 := u_wa.blk)
                have hra := hr.upd u_wa h.k6
                have csa := h.cs.upd u_wa h.k6 h.g6 rfl rfl rfl h.nN (own_blk_ne h.cs.oL h.k6 rfl) rfl
                have k3 := csa.k3
                repeat (first | refine Vx ?_ | (apply Ops_q; (case hon => exact Va); (case hd => rfl); (case hq => exact YlA)) | refine Vr ?_ | refine Vt ?_ | refine Vf ?_ | refine Vm ?_ | refine Ve ?_ | refine Vo ?_ | refine Vz ?_ | refine Vn ?_)
                (refine Ops_lit (by exact Va) rfl rfl rfl ?_; intro wb bl n_bl; have k_bl := n_bl.blk)
                have csb := csa.mono n_bl.ext
                repeat (first | refine Vx ?_ | (apply Ops_q; (case hon => exact Va); (case hd => rfl); (case hq => exact YlA)) | refine Vr ?_ | refine Vt ?_ | refine Vf ?_ | refine Vm ?_ | refine Ve ?_ | refine Vo ?_ | refine Vz ?_ | refine Vn ?_)
                (refine Ops_append1 (by exact Va) rfl rfl rfl rfl csb.oL k_bl.cells inferInstance inferInstance (by first | omega | (rw [List.length_map]; omega)) rfl csb.ext.size ?_; intro vL2 wc o_vL2 g_wc d_vL2)
                obtain ⟨aN, cN, rfl, _⟩ := o_vL2.slice
                have k3c := grow_blk g_wc csb.k3 (fun e => own_blk_ne csb.oL csb.k3 rfl e.symm)
                repeat (first | refine Vx ?_ | (apply Ops_q; (case hon => exact Va); (case hd => rfl); (case hq => exact YlA)) | refine Vr ?_ | refine Vt ?_ | refine Vf ?_ | refine Vm ?_ | refine Ve ?_ | refine Vo ?_ | refine Vz ?_ | refine Vn ?_)
                (refine Ops_store (by exact Va) rfl rfl (by assumption) (by first | rfl | exact OneAll.h) ?_; intro wd u_wd; have k_b3 := u_wd.blk)
                have hfin0 := h.newLeaf t1 s1 t2 u_wa n_bl.ext g_wc o_vL2 d_vL2 u_wd
                have hrd := ((hra.ext n_bl.ext).own csb.oL g_wc).upd u_wd k3c
                have k7d := hfin0.k7
                have k8d := hfin0.k8
                repeat (first | refine Vx ?_ | (apply Ops_q; (case hon => exact Va); (case hd => rfl); (case hq => exact YlA)) | refine Vr ?_ | refine Vt ?_ | refine Vf ?_ | refine Vm ?_ | refine Ve ?_ | refine Vo ?_ | refine Vz ?_ | refine Vn ?_)
                (refine Ops_store (by exact Va) rfl rfl (by assumption) (by first | rfl | exact OneAll.h) ?_; intro we u_we; have k_b7 := u_we.blk)
                have k8a := u_we.keep hfin0.k8 (blk_ne hfin0.k8 hfin0.k7 rfl)
                repeat (first | refine Vx ?_ | (apply Ops_q; (case hon => exact Va); (case hd => rfl); (case hq => exact YlA)) | refine Vr ?_ | refine Vt ?_ | refine Vf ?_ | refine Vm ?_ | refine Ve ?_ | refine Vo ?_ | refine Vz ?_ | refine Vn ?_)
                (refine Ops_store (by exact Va) rfl rfl (by assumption) (by first | rfl | exact OneAll.h) ?_; intro wf u_wf; have k_b8 := u_wf.blk)
                have hfin := hfin0.setLast u_we u_wf (own_blk_ne hfin0.cs.oN hfin0.k7 rfl)
                have hrf := (hrd.upd u_we hfin0.k7).upd u_wf k8a
                repeat (first | refine Vx ?_ | (apply Ops_q; (case hon => exact Va); (case hd => rfl); (case hq => exact YlA)) | refine Vr ?_ | refine Vt ?_ | refine Vf ?_ | refine Vm ?_ | refine Ve ?_ | refine Vo ?_ | refine Vz ?_ | refine Vn ?_)
                exact ⟨hrf, _, _, r1.2, true, hfin, by unfold lstOk; rw [s1]; simp⟩
              · have hl' : (lvP g p kk).getLast? = some r1.2 := Classical.byContradiction fun e => by rw [(step_new hK e).2] at hst; cases hst
                obtain ⟨u1, _⟩ := step_same hK hl'
                have u2 : mkW (stB g p) (kk + 1) = mkW (stB g p) kk := by rw [mkW, hst]; rfl
                repeat (first | refine Vx ?_ | (apply Ops_q; (case hon => exact Va); (case hd => rfl); (case hq => exact YlA)) | refine Vr ?_ | refine Vt ?_ | refine Vf ?_ | refine Vm ?_ | refine Ve ?_ | refine Vo ?_ | refine Vz ?_ | refine Vn ?_)
                (refine Ops_store (by exact Va) rfl rfl (by assumption) (by first | rfl | exact OneAll.h) ?_; intro wa u_wa; have k_b7 := u_wa.blk)
                have k8a := u_wa.keep h.k8 (blk_ne h.k8 h.k7 rfl)
                repeat (first | refine Vx ?_ | (apply Ops_q; (case hon => exact Va); (case hd => rfl); (case hq => exact YlA)) | refine Vr ?_ | refine Vt ?_ | refine Vf ?_ | refine Vm ?_ | refine Ve ?_ | refine Vo ?_ | refine Vz ?_ | refine Vn ?_)
                (refine Ops_store (by exact Va) rfl rfl (by assumption) (by first | rfl | exact OneAll.h) ?_; intro wb u_wb; have k_b8 := u_wb.blk)
                have hfin := (h.same t1 u1 t2 u2).setLast u_wa u_wb hN7
                have hrd := (hr.upd u_wa h.k7).upd u_wb k8a
                repeat (first | refine Vx ?_ | (apply Ops_q; (case hon => exact Va); (case hd => rfl); (case hq => exact YlA)) | refine Vr ?_ | refine Vt ?_ | refine Vf ?_ | refine Vm ?_ | refine Ve ?_ | refine Vo ?_ | refine Vz ?_ | refine Vn ?_)
                exact ⟨hrd, _, _, r1.2, true, hfin, by unfold lstOk; rw [u1]; exact hl'⟩
    · -- the node is ready
      rintro D w9 hDl ⟨vL, vR, last, any, h, _⟩ hdD
      refine blockD_normal ?_
      refine thenD_normal ?_
      have k6 := h.k6
      have k3 := h.cs.k3
      have hlen : ((ndsF g i).map Nd.cells).length ≤ 75418890625 := by rw [List.length_map, nds_len hi]; omega
      refine VD_of ?_
      repeat (first | refine Vx ?_ | (apply Ops_q; (case hon => exact Va); (case hd => rfl); (case hq => exact YlA)) | refine Vr ?_ | refine Vt ?_ | refine Vf ?_ | refine Vm ?_ | refine Ve ?_ | refine Vo ?_ | refine Vz ?_ | refine Vn ?_)
      (refine Ops_lit (by exact Va) rfl rfl rfl ?_; intro wb bl n_bl; have k_bl := n_bl.blk)
      have csb := h.cs.mono n_bl.ext
      repeat (first | refine Vx ?_ | (apply Ops_q; (case hon => exact Va); (case hd => rfl); (case hq => exact YlA)) | refine Vr ?_ | refine Vt ?_ | refine Vf ?_ | refine Vm ?_ | refine Ve ?_ | refine Vo ?_ | refine Vz ?_ | refine Vn ?_)
      (refine Ops_append1 (by exact Va) rfl rfl rfl rfl csb.oN k_bl.cells inferInstance inferInstance (by first | omega | (rw [List.length_map]; omega)) rfl csb.ext.size ?_; intro vN2 wc o_vN2 g_wc d_vN2)
      obtain ⟨aN, cN, rfl, _⟩ := o_vN2.slice
      obtain ⟨aL2, cL2, rfl, _⟩ := csb.oL.slice
      have k3c := grow_blk g_wc csb.k3 (fun e => own_blk_ne csb.oN csb.k3 rfl e.symm)
      repeat (first | refine Vx ?_ | (apply Ops_q; (case hon => exact Va); (case hd => rfl); (case hq => exact YlA)) | refine Vr ?_ | refine Vt ?_ | refine Vf ?_ | refine Vm ?_ | refine Ve ?_ | refine Vo ?_ | refine Vz ?_ | refine Vn ?_)
      (refine Ops_store (by exact Va) rfl rfl (by assumption) (by first | rfl | exact OneAll.h) ?_; intro wd u_wd; have k_b3 := u_wd.blk)
      have hcd := csb.pushN (N' := ndsF g (i + 1)) g_wc (by rw [nds_step hp, List.map_append]; exact o_vN2) u_wd
      rw [← lv_step hp, ← row_step hp] at hcd
      have hMd : Marks Ds wd := ((h.mks.ext n_bl.ext).own csb.oN g_wc).upd u_wd k3c
      have hD9 : D ∉ Ds := fun hc => by have := lt_some (hM8.at_ D hc); omega
      have hdd : wd.heap[D]? = some (.deferred (some [])) := by
        have h1 : Marks [D] w9 := ⟨by simp, fun E hE => by rw [List.mem_singleton.1 hE]; exact hdD⟩
        exact (((h1.ext n_bl.ext).own csb.oN g_wc).upd u_wd k3c).at_ D (List.mem_singleton.2 rfl)
      have hi2 : i + 1 ≤ (rowF g (i + 1)).length := by rw [row_step hp, List.length_append]; omega
      repeat (first | refine Vx ?_ | (apply Ops_q; (case hon => exact Va); (case hd => rfl); (case hq => exact YlA)) | refine Vr ?_ | refine Vt ?_ | refine Vf ?_ | refine Vm ?_ | refine Ve ?_ | refine Vo ?_ | refine Vz ?_ | refine Vn ?_)
      refine blockD_normal ?_
      refine thenD_normal ?_
      refine VD_of ?_
      repeat (first | refine Vx ?_ | (apply Ops_q; (case hon => exact Va); (case hd => rfl); (case hq => exact YlA)) | refine Vr ?_ | refine Vt ?_ | refine Vf ?_ | refine Vm ?_ | refine Ve ?_ | refine Vo ?_ | refine Vz ?_ | refine Vn ?_)
      refine ⟨(i + 1, _, _, _), (by repeat (first | exact trivial | refine ⟨rfl, ?_⟩)), ⟨hcd, hi2, hMd.cons hdd hD9, fun E hE => ?_⟩, ?_⟩
      · rcases List.mem_cons.1 hE with rfl | hE
        · exact hl0 _ hDl
        · exact hD E hE
      · dsimp only; rw [plW_zero]; omega
  · replace hg := of_decide_eq_false hg
    have hie : i = (rowF g i).length := by omega
    clear hg
    repeat (first | refine Vx ?_ | (apply Ops_q; (case hon => exact Va); (case hd => rfl); (case hq => exact YlA)) | refine Vr ?_ | refine Vt ?_ | refine Vf ?_ | refine Vm ?_ | refine Ve ?_ | refine Vo ?_ | refine Vz ?_ | refine Vn ?_)
    refine thenD_exit ?_
    refine blockD_hit ?_
    refine thenD_normal ?_
    subst hvL
    have k2 := hcs.k2
    have k3 := hcs.k3
    obtain ⟨aN, cN, rfl, _⟩ := hcs.oN.slice
    refine VD_seq ?_
    repeat (first | refine Vx ?_ | (apply Ops_q; (case hon => exact Va); (case hd => rfl); (case hq => exact YlA)) | refine Vr ?_ | refine Vt ?_ | refine Vf ?_ | refine Vm ?_ | refine Ve ?_ | refine Vo ?_ | refine Vz ?_ | refine Vn ?_)
    (refine Ops_store (by exact Va) rfl rfl (by assumption) (by first | rfl | exact OneAll.h) ?_; intro wb u_wb; have k_b2 := u_wb.blk)
    have hMb := hM.upd u_wb hcs.k2
    have oNb := hcs.oN.upd u_wb (own_blk_ne hcs.oN hcs.k2 rfl)
    have oLb := hcs.oL.upd u_wb (own_blk_ne hcs.oL hcs.k2 rfl)
    have xb := u_wb.below hcs.ext hcs.g2
    repeat (first | refine Vx ?_ | (apply Ops_q; (case hon => exact Va); (case hd => rfl); (case hq => exact YlA)) | refine Vr ?_ | refine Vt ?_ | refine Vf ?_ | refine Vm ?_ | refine Ve ?_ | refine Vo ?_ | refine Vz ?_ | refine Vn ?_)
    refine VD_of (V_ret ?_)
    refine retR1D (.inl rfl) rfl hMb fun w' hm => ⟨res_agg rfl (hMb.blk hm k_b2).cells, ?_⟩
    exact ⟨_, rfl, Marks.ge_mod hD xb hm, _, _, _, _, rfl, ⟨i, hie, rfl, rfl⟩, hMb.own_mod hm oNb, hMb.own_mod hm oLb⟩
end Go.Proofs.Ytjpnaofoeeegeaa


/-
  Stride tables (layer 8): expand.
  Conditions: the table's numbers agree.
-/
namespace Go.Proofs.Ytjpnaofoeeegeaa
open Go.RowKit

/-- The table lies below a block. -/
structure TabM (w : World) (base0 : Nat) (aN aL : Option Addr) (N : List Nd) (L : List Int) : Prop where
  hN : ∀ k x, N[k]? = some x → ∃ ad, aN = some ad ∧ ad.block < base0 ∧ Cells w (ad.add (k * 4)) x.cells
  hL : ∀ k x, L[k]? = some x → ∃ ad, aL = some ad ∧ ad.block < base0 ∧ Cells w (ad.add (k * 1)) (ic x)
theorem add_block (a : Addr) (n : Nat) : (a.add n).block = a.block := by unfold Addr.add; split <;> rfl
theorem cell_lt {w : World} {a : Addr} {v : Value} (h : w.cell? a = some v) : a.block < w.heap.size := by
  unfold World.cell? at h
  rcases Nat.lt_or_ge a.block w.heap.size with h1 | h1
  · exact h1
  · rw [Array.getElem?_eq_none h1] at h; cases h
section
variable {w w' : World} {base0 : Nat} {aN aL : Option Addr} {N : List Nd} {L : List Int} {S : Nat → Prop}
theorem TabM.of (hN : Nds w aN N) (hL : Ins w aL L) (hb : w.heap.size ≤ base0) : TabM w base0 aN aL N L := by
  refine ⟨fun k x hx => ?_, fun k x hx => ?_⟩
  · obtain ⟨ad, h1, h2⟩ := hN.at hx
    have h3 := cell_lt (h2 0 _ rfl)
    rw [add_block, add_block] at h3
    exact ⟨ad, h1, by omega, h2⟩
  · obtain ⟨ad, h1, h2⟩ := hL k (ic x) (by rw [List.getElem?_map, hx]; rfl)
    have h3 := cell_lt (h2 0 _ rfl)
    rw [add_block, add_block] at h3
    exact ⟨ad, h1, by omega, h2⟩
theorem TabM.mod (h : TabM w base0 aN aL N L) (hm : Mod S w w') (hS : ∀ c, S c → base0 ≤ c) : TabM w' base0 aN aL N L := by
  refine ⟨fun k x hx => ?_, fun k x hx => ?_⟩
  · obtain ⟨ad, h1, h2, h3⟩ := h.hN k x hx
    exact ⟨ad, h1, h2, hm.cells h3 (fun hc => by have := hS _ hc; rw [add_block] at this; omega)⟩
  · obtain ⟨ad, h1, h2, h3⟩ := h.hL k x hx
    exact ⟨ad, h1, h2, hm.cells h3 (fun hc => by have := hS _ hc; rw [add_block] at this; omega)⟩
theorem TabM.ins (h : TabM w base0 aN aL N L) : Ins w aL L := fun k u hk => by
  rw [List.getElem?_map] at hk
  obtain ⟨x, hx, rfl⟩ := Option.map_eq_some_iff.1 hk
  obtain ⟨ad, h1, _, h3⟩ := h.hL k x hx
  exact ⟨ad, h1, h3⟩
end
section
variable {w w1 : World} {base n0 : Nat} {e : TypeId} {v : Value} {LL : List (List Value)}
theorem blk_modOwn {b : Nat} {t : TypeId} {cs : List Value} (m : Mod (fun c => v.ownBlock = some c) w w1) (o : Own w base e n0 v LL) (hB : Blk w b t cs) (ht : Nat.beq e t = false) : Blk w1 b t cs :=
  m.blk hB (own_blk_ne o hB ht)
theorem rec_modOwn {l D : Nat} {r : Loop} (m : Mod (fun c => v.ownBlock = some c) w w1) (o : Own w base e n0 v LL) (h : Rec w l D r) : Rec w1 l D r :=
  h.mod m (fun hc => by obtain ⟨cur, h1⟩ := own_cells_at o hc; rw [h.lp] at h1; cases h1) (fun hc => by obtain ⟨cur, h1⟩ := own_cells_at o hc; rw [h.dfr] at h1; cases h1)
theorem marks_modOwn {Ds : List Nat} (m : Mod (fun c => v.ownBlock = some c) w w1) (o : Own w base e n0 v LL) (h : Marks Ds w) : Marks Ds w1 :=
  h.mod m (fun D hD hc => by obtain ⟨cur, h1⟩ := own_cells_at o hc; rw [h.at_ D hD] at h1; cases h1)
end
/-- The table is the form of g, and the node is the one of place p. -/
def XpGood (g : Nat → Int) (N : List Nd) (L : List Int) (node : Nat) (p : Nat × Nat) : Prop := CfAt g N.length ∧ N = ndsF g N.length ∧ L = lvF g N.length ∧ (rowF g node)[node]? = some p
section
variable {g : Nat → Int} {N : List Nd} {L : List Int} {node : Nat} {p : Nat × Nat}
theorem XpGood.nd (h : XpGood g N L node p) (hn : node < N.length) : N[node]? = some (ndF g node p) := by
  obtain ⟨h1, h2, _, h4⟩ := h
  have := h1.node h4 hn
  rw [← h2] at this; exact this
theorem XpGood.kid (h : XpGood g N L node p) (hn : node < N.length) {x : Nd} (hx : N[node]? = some x) {k : Nat} (hk : k < 64) (hb : x.inner / 2 ^ k % 2 = 1) :
    inB g p k = true ∧ node < ndC N node + rankN x.inner k ∧ XpGood g N L (ndC N node + rankN x.inner k) (digLo p.2 p.1 k, p.2 + 1) := by
  have h0 := h.nd hn
  rw [hx] at h0
  cases h0
  obtain ⟨h1, h2, h3, h4⟩ := h
  have hbit := CfAt.bit g node p hk
  rw [hb] at hbit
  have hin : inB g p k = true := by
    cases hc : inB g p k with
    | true => rfl
    | false => rw [hc] at hbit; simp at hbit
  have hnum := (h1.nums node (Nat.le_of_lt hn)).1
  rw [← h2] at hnum
  obtain ⟨k1, k2⟩ := h1.kid_lt hn h4 hk hin
  rw [hnum]
  exact ⟨hin, k2, h1, h2, h3, h1.stands (h1.kid h4 hk hin) k2⟩
theorem XpGood.leaf (h : XpGood g N L node p) (hn : node < N.length) {x : Nd} (hx : N[node]? = some x) {k : Nat} (hk : k < 64) (hb : x.inner / 2 ^ k % 2 ≠ 1) :
    0 < rankN x.leaf (k + 1) ∧ (digOk p.2 k = true → leafV L (lfC N node) (rankN x.leaf (k + 1)) = g (digLo p.2 p.1 k) ∧ Flat g (digLo p.2 p.1 k) (digLo p.2 p.1 k + nsz (p.2 + 1))) := by
  have h0 := h.nd hn
  rw [hx] at h0
  cases h0
  obtain ⟨h1, h2, h3, h4⟩ := h
  have hbit := CfAt.bit g node p hk
  have hin : inB g p k = false := by
    cases hc : inB g p k with
    | false => rfl
    | true => rw [hc] at hbit; exact absurd hbit hb
  have hnum := (h1.nums node (Nat.le_of_lt hn)).2
  rw [← h2] at hnum
  obtain ⟨k1, k2⟩ := h1.leaf hn h4 hk hin
  refine ⟨k1, fun hok => ?_⟩
  obtain ⟨hK, hF⟩ := leaf_of hin hok
  have := k2 _ hK
  rw [← h3, ← hnum] at this
  exact ⟨by rw [leafV, if_neg (by omega), this]; rfl, hF⟩
theorem XpGood.ok (h : XpGood g N L node p) : PlOk p := plOk_row g node p (List.mem_of_getElem? h.2.2.2)
end
/-- What expand returns. -/
def XpR (base0 : Nat) (N : List Nd) (L : List Int) (g0 : Nat → Int) (v : Value) (base d node : Nat) (w0 : World) (r : Value) (w' : World) : Prop :=
  ∃ (v' : Value) (ok : Bool), r = .tuple #[v', .bool ok] ∧
    (ok = true → ∃ (R : List Rn) (g1 : Nat → Int), Own w' base0 94 2 v' (R.map rnC) ∧ Canon g1 R (base + nsz d) ∧ (∀ a, a < base → g1 a = g0 a) ∧ (∀ g, XpGood g N L node (base, d) → ∀ a, base ≤ a → a < base + nsz d → g1 a = g a) ∧
      ∀ c, v'.ownBlock = some c → v.ownBlock = some c ∨ w0.heap.size ≤ c) ∧
    (ok = false → v' = .slice none 0 0 ∧ ∀ g, ¬XpGood g N L node (base, d))
/-- The state between rounds. -/
structure XS (w0 : World) (base0 : Nat) (aN aL : Option Addr) (N : List Nd) (L : List Int) (cN cL node base d : Nat) (x : Nd) (v0 : Value) (b4 b5 b6 b8 b9 b10 bb : Nat) (Ds : List Nat) (v : Value) (R : List Rn) (w : World) : Prop where
  md : Mod (fun c => v0.ownBlock = some c) w0 w
  k4 : Blk w b4 32 [.slice aN N.length cN, .slice aL L.length cL]
  k5 : Blk w b5 64 [v]
  k6 : Blk w b6 3 [.int .i64 node]
  k8 : Blk w b8 64 [.slice none 0 0]
  k9 : Blk w b9 4 [.bool false]
  k10 : Blk w b10 73 [.int .u64 x.inner, .int .u64 x.leaf, .int .i64 x.nodes, .int .i64 x.first]
  kb : Blk w bb 120 [.int .u64 base, .int .i64 d]
  own : Own w base0 94 2 v (R.map rnC)
  fr : ∀ c, v.ownBlock = some c → v0.ownBlock = some c ∨ w0.heap.size ≤ c
  mks : Marks Ds w
  n58 : b5 ≠ b8
  g5 : w0.heap.size ≤ b5
  g8 : w0.heap.size ≤ b8
  g9 : w0.heap.size ≤ b9
section
variable {w0 w w1 w2 : World} {base0 : Nat} {aN aL : Option Addr} {N : List Nd} {L : List Int} {cN cL node base d : Nat} {x : Nd} {v0 v v' : Value} {b4 b5 b6 b8 b9 b10 bb : Nat} {Ds : List Nat} {R R' : List Rn}
theorem XS.ext (h : XS w0 base0 aN aL N L cN cL node base d x v0 b4 b5 b6 b8 b9 b10 bb Ds v R w) (he : Ext w w1) : XS w0 base0 aN aL N L cN cL node base d x v0 b4 b5 b6 b8 b9 b10 bb Ds v R w1 :=
  ⟨h.md.ext he, h.k4.ext he, h.k5.ext he, h.k6.ext he, h.k8.ext he, h.k9.ext he, h.k10.ext he, h.kb.ext he, h.own.ext he, h.fr, h.mks.ext he, h.n58, h.g5, h.g8, h.g9⟩
theorem XS.turn {l : Nat} (h : XS w0 base0 aN aL N L cN cL node base d x v0 b4 b5 b6 b8 b9 b10 bb Ds v R w) (ht : Turn l w w1) (hl : w0.heap.size ≤ l) : XS w0 base0 aN aL N L cN cL node base d x v0 b4 b5 b6 b8 b9 b10 bb Ds v R w1 :=
  ⟨ht.mod h.md hl, ht.blk h.k4, ht.blk h.k5, ht.blk h.k6, ht.blk h.k8, ht.blk h.k9, ht.blk h.k10, ht.blk h.kb, ht.own h.own, h.fr, h.mks.turn ht, h.n58, h.g5, h.g8, h.g9⟩
/-- A call that works on the runs, and the store of its result. -/
theorem XS.call (h : XS w0 base0 aN aL N L cN cL node base d x v0 b4 b5 b6 b8 b9 b10 bb Ds v R w) (m : Mod (fun c => v.ownBlock = some c) w w1) (o' : Own w1 base0 94 2 v' (R'.map rnC))
    (hf : ∀ c, v'.ownBlock = some c → v.ownBlock = some c ∨ w.heap.size ≤ c) (u : Upd w1 w2 b5 64 [v']) : XS w0 base0 aN aL N L cN cL node base d x v0 b4 b5 b6 b8 b9 b10 bb Ds v' R' w2 := by
  have k5' := blk_modOwn m h.own h.k5 rfl
  have kp : ∀ {b : Nat} {t : TypeId} {cs : List Value}, Blk w b t cs → Nat.beq 94 t = false → b ≠ b5 → Blk w2 b t cs := fun hB ht hn => u.keep (blk_modOwn m h.own hB ht) hn
  refine ⟨(h.md.trans' m h.fr).upd u (.inr h.g5), kp h.k4 rfl (blk_ne h.k4 h.k5 rfl), u.blk, kp h.k6 rfl (blk_ne h.k6 h.k5 rfl), kp h.k8 rfl (Ne.symm h.n58), kp h.k9 rfl (blk_ne h.k9 h.k5 rfl), kp h.k10 rfl (blk_ne h.k10 h.k5 rfl), kp h.kb rfl (blk_ne h.kb h.k5 rfl),
    o'.upd u (own_blk_ne o' k5' rfl), fun c hc => ?_, (marks_modOwn m h.own h.mks).upd u k5', h.n58, h.g5, h.g8, h.g9⟩
  rcases hf c hc with h1 | h1
  · exact h.fr c h1
  · exact .inr (Nat.le_trans h.md.size h1)
theorem XS.keepRec {l D : Nat} {r : Loop} (h : XS w0 base0 aN aL N L cN cL node base d x v0 b4 b5 b6 b8 b9 b10 bb Ds v R w) (hr : Rec w l D r) (m : Mod (fun c => v.ownBlock = some c) w w1) (u : Upd w1 w2 b5 64 [v']) : Rec w2 l D r :=
  (rec_modOwn m h.own hr).upd u (blk_modOwn m h.own h.k5 rfl)
/-- The results are set to what they are. -/
theorem XS.fail (h : XS w0 base0 aN aL N L cN cL node base d x v0 b4 b5 b6 b8 b9 b10 bb Ds v R w) (u : Upd w w1 b8 64 [.slice none 0 0]) (u2 : Upd w1 w2 b9 4 [.bool false]) : XS w0 base0 aN aL N L cN cL node base d x v0 b4 b5 b6 b8 b9 b10 bb Ds v R w2 := by
  have k9 := u.keep h.k9 (blk_ne h.k9 h.k8 rfl)
  have kp : ∀ {b : Nat} {t : TypeId} {cs : List Value}, Blk w b t cs → b ≠ b8 → b ≠ b9 → Blk w2 b t cs := fun hB h1 h2 => u2.keep (u.keep hB h1) h2
  exact ⟨(h.md.upd u (.inr h.g8)).upd u2 (.inr h.g9), kp h.k4 (blk_ne h.k4 h.k8 rfl) (blk_ne h.k4 h.k9 rfl), kp h.k5 h.n58 (blk_ne h.k5 h.k9 rfl), kp h.k6 (blk_ne h.k6 h.k8 rfl) (blk_ne h.k6 h.k9 rfl), u2.keep u.blk (blk_ne h.k8 h.k9 rfl), u2.blk,
    kp h.k10 (blk_ne h.k10 h.k8 rfl) (blk_ne h.k10 h.k9 rfl), kp h.kb (blk_ne h.kb h.k8 rfl) (blk_ne h.kb h.k9 rfl), (h.own.upd u (own_blk_ne h.own h.k8 rfl)).upd u2 (own_blk_ne (h.own.upd u (own_blk_ne h.own h.k8 rfl)) k9 rfl), h.fr, (h.mks.upd u h.k8).upd u2 k9, h.n58, h.g5, h.g8, h.g9⟩
theorem XS.recFail {l D : Nat} {r : Loop} (h : XS w0 base0 aN aL N L cN cL node base d x v0 b4 b5 b6 b8 b9 b10 bb Ds v R w) (hr : Rec w l D r) (u : Upd w w1 b8 64 [.slice none 0 0]) (u2 : Upd w1 w2 b9 4 [.bool false]) : Rec w2 l D r :=
  (hr.upd u h.k8).upd u2 (u.keep h.k9 (blk_ne h.k9 h.k8 rfl))
end
end Go.Proofs.Ytjpnaofoeeegeaa


/-
  Stride tables (layer 8): expand, walked.
  Conditions: the table's numbers agree.
-/
namespace Go.Proofs.Ytjpnaofoeeegeaa
open Go.RowKit

set_option maxHeartbeats 4000000 in
theorem expand_v (aN aL : Option Addr) (N : List Nd) (L : List Int) (cN cL base0 : Nat) (hReg : Reg N L) (hW : NdW N) (hn : N.length ≤ 80000000000) (hl9 : L.length ≤ 4611686018427387904) : ∀ (m d : Nat), d + m = 6 → ∀ (base node : Nat) (v0 : Value) (R0 : List Rn) (g0 : Nat → Int) (w0 : World),
    TabM w0 base0 aN aL N L → node < N.length → (d ≤ 5 → base + nsz d ≤ 4294967296) → Own w0 base0 94 2 v0 (R0.map rnC) → base0 ≤ w0.heap.size → Canon g0 R0 base → base ≤ 4294967296 →
    Calls Try.prog 90 #[.agg #[.slice aN N.length cN, .slice aL L.length cL], v0, .int .i64 node, .agg #[.int .u64 base, .int .i64 d]] w0 (Does (fun c => v0.ownBlock = some c) (XpR base0 N L g0 v0 base d node w0) w0) := by
  intro m
  induction m with
  | zero =>
    intro d hd base node v0 R0 g0 w0 hT hnode hb32 hO hb0 hC hb
    obtain rfl : d = 6 := by omega
    have hd5 : decide ((5 : Int) < ((6 : Nat) : Int)) = true := rfl
    obtain ⟨a0, c0, rfl, _⟩ := hO.slice
    refine VD_enter (vs := [_, _, _, _]) Try.func90 rfl Try.ntmps90 (Nat.le_of_ble_eq_true rfl) ?_
    refine VD_seq ?_
    repeat (first | refine Vx ?_ | (apply Ops_q; (case hon => exact Va); (case hd => rfl); (case hq => exact YlA)) | refine Vr ?_ | refine Vt ?_ | refine Vf ?_ | refine Vm ?_ | refine Ve ?_ | refine Vo ?_ | refine Vz ?_ | refine Vn ?_)
    (refine Ops_box (by exact Va) rfl rfl rfl ?_; intro w1 b4 n_b4; have k_b4 := n_b4.blk)
    repeat (first | refine Vx ?_ | (apply Ops_q; (case hon => exact Va); (case hd => rfl); (case hq => exact YlA)) | refine Vr ?_ | refine Vt ?_ | refine Vf ?_ | refine Vm ?_ | refine Ve ?_ | refine Vo ?_ | refine Vz ?_ | refine Vn ?_)
    (refine Ops_box (by exact Va) rfl rfl rfl ?_; intro w2 b5 n_b5; have k_b5 := n_b5.blk)
    repeat (first | refine Vx ?_ | (apply Ops_q; (case hon => exact Va); (case hd => rfl); (case hq => exact YlA)) | refine Vr ?_ | refine Vt ?_ | refine Vf ?_ | refine Vm ?_ | refine Ve ?_ | refine Vo ?_ | refine Vz ?_ | refine Vn ?_)
    (refine Ops_box (by exact Va) rfl rfl rfl ?_; intro w3 b6 n_b6; have k_b6 := n_b6.blk)
    repeat (first | refine Vx ?_ | (apply Ops_q; (case hon => exact Va); (case hd => rfl); (case hq => exact YlA)) | refine Vr ?_ | refine Vt ?_ | refine Vf ?_ | refine Vm ?_ | refine Ve ?_ | refine Vo ?_ | refine Vz ?_ | refine Vn ?_)
    (refine Ops_box (by exact Va) rfl rfl rfl ?_; intro w4 b7 n_b7; have k_b7 := n_b7.blk)
    repeat (first | refine Vx ?_ | (apply Ops_q; (case hon => exact Va); (case hd => rfl); (case hq => exact YlA)) | refine Vr ?_ | refine Vt ?_ | refine Vf ?_ | refine Vm ?_ | refine Ve ?_ | refine Vo ?_ | refine Vz ?_ | refine Vn ?_)
    (refine Ops_alloc (by exact Va) rfl ?_; intro w5 b8 n_b8; have k_b8 := n_b8.blk)
    repeat (first | refine Vx ?_ | (apply Ops_q; (case hon => exact Va); (case hd => rfl); (case hq => exact YlA)) | refine Vr ?_ | refine Vt ?_ | refine Vf ?_ | refine Vm ?_ | refine Ve ?_ | refine Vo ?_ | refine Vz ?_ | refine Vn ?_)
    (refine Ops_alloc (by exact Va) rfl ?_; intro w6 b9 n_b9; have k_b9 := n_b9.blk)
    have z4 := n_b4.ext.trans (n_b5.ext.trans (n_b6.ext.trans n_b7.ext))
    have z5 := z4.trans n_b8.ext
    have z6 := z5.trans n_b9.ext
    have g8 : w0.heap.size ≤ b8 := Nat.le_trans z4.size n_b8.ge
    have g9 : w0.heap.size ≤ b9 := Nat.le_trans z5.size n_b9.ge
    replace k_b7 := k_b7.ext (n_b8.ext.trans n_b9.ext)
    replace k_b8 := k_b8.ext n_b9.ext
    clear n_b4 n_b5 n_b6 n_b7 n_b8 n_b9 z4 z5
    repeat (first | refine Vx ?_ | (apply Ops_q; (case hon => exact Va); (case hd => rfl); (case hq => exact YlA)) | refine Vr ?_ | refine Vt ?_ | refine Vf ?_ | refine Vm ?_ | refine Ve ?_ | refine Vo ?_ | refine Vz ?_ | refine Vn ?_)
    refine VD_seq ?_
    repeat (first | refine Vx ?_ | (apply Ops_q; (case hon => exact Va); (case hd => rfl); (case hq => exact YlA)) | refine Vr ?_ | refine Vt ?_ | refine Vf ?_ | refine Vm ?_ | refine Ve ?_ | refine Vo ?_ | refine Vz ?_ | refine Vn ?_)
    have k8x := k_b8
    (refine Ops_store (by exact Va) rfl rfl (by assumption) (by first | rfl | exact OneAll.h) ?_; intro w7 u_w7; have k_b8 := u_w7.blk)
    have k9x := u_w7.keep k_b9 (blk_ne k_b9 k8x rfl)
    have y7 := u_w7.below z6 g8
    repeat (first | refine Vx ?_ | (apply Ops_q; (case hon => exact Va); (case hd => rfl); (case hq => exact YlA)) | refine Vr ?_ | refine Vt ?_ | refine Vf ?_ | refine Vm ?_ | refine Ve ?_ | refine Vo ?_ | refine Vz ?_ | refine Vn ?_)
    (refine Ops_store (by exact Va) rfl rfl (by assumption) (by first | rfl | exact OneAll.h) ?_; intro w8 u_w8; have k_b9 := u_w8.blk)
    have y8 := u_w8.below y7 g9
    have k8y := u_w8.keep k_b8 (blk_ne k_b8 k9x rfl)
    repeat (first | refine Vx ?_ | (apply Ops_q; (case hon => exact Va); (case hd => rfl); (case hq => exact YlA)) | refine Vr ?_ | refine Vt ?_ | refine Vf ?_ | refine Vm ?_ | refine Ve ?_ | refine Vo ?_ | refine Vz ?_ | refine Vn ?_)
    have hno : ∀ g, ¬XpGood g N L node (base, 6) := fun g hg => by have := hg.ok.1; dsimp only at this; omega
    have hmd : Mod (fun c => (Value.slice a0 (R0.map rnC).length c0).ownBlock = some c) w0 w8 := Mod.of_ext y8
    show retD Try.prog Try.f90 79 (Does (fun c => (Value.slice a0 (R0.map rnC).length c0).ownBlock = some c) (XpR base0 N L g0 (Value.slice a0 (R0.map rnC).length c0) base 6 node w0) w0) .ret [] _ w8
    · refine retR2D (.inl rfl) rfl Marks.nil fun w' hm => ⟨res_one rfl ((Marks.nil.blk hm k8y).cell rfl), res_one rfl ((Marks.nil.blk hm k_b9).cell rfl), ?_⟩
      exact ⟨_, rfl, hmd.trans' hm (fun c hc => nomatch hc), _, false, rfl, (fun h => nomatch h), fun _ => ⟨rfl, hno⟩⟩
  | succ m ih =>
    intro d hd base node v0 R0 g0 w0 hT hnode hb32 hO hb0 hC hb
    have hd5 : d ≤ 5 := by omega
    have hd5' : decide ((5 : Int) < (d : Int)) = false := decide_eq_false (by omega)
    have hpk : PlOk (base, d) := ⟨hd5, hb32 hd5⟩
    obtain ⟨x, hx⟩ : ∃ x, N[node]? = some x := ⟨_, List.getElem?_eq_getElem hnode⟩
    obtain ⟨hx1, hx2⟩ := hW x (List.mem_of_getElem? hx)
    obtain ⟨hxn, hxf, _⟩ := hReg.at_ node x hx
    obtain ⟨a0, c0, rfl, _⟩ := hO.slice
    refine VD_enter (vs := [_, _, _, _]) Try.func90 rfl Try.ntmps90 (Nat.le_of_ble_eq_true rfl) ?_
    refine VD_seq ?_
    repeat (first | refine Vx ?_ | (apply Ops_q; (case hon => exact Va); (case hd => rfl); (case hq => exact YlA)) | refine Vr ?_ | refine Vt ?_ | refine Vf ?_ | refine Vm ?_ | refine Ve ?_ | refine Vo ?_ | refine Vz ?_ | refine Vn ?_)
    (refine Ops_box (by exact Va) rfl rfl rfl ?_; intro w1 b4 n_b4; have k_b4 := n_b4.blk)
    repeat (first | refine Vx ?_ | (apply Ops_q; (case hon => exact Va); (case hd => rfl); (case hq => exact YlA)) | refine Vr ?_ | refine Vt ?_ | refine Vf ?_ | refine Vm ?_ | refine Ve ?_ | refine Vo ?_ | refine Vz ?_ | refine Vn ?_)
    (refine Ops_box (by exact Va) rfl rfl rfl ?_; intro w2 b5 n_b5; have k_b5 := n_b5.blk)
    repeat (first | refine Vx ?_ | (apply Ops_q; (case hon => exact Va); (case hd => rfl); (case hq => exact YlA)) | refine Vr ?_ | refine Vt ?_ | refine Vf ?_ | refine Vm ?_ | refine Ve ?_ | refine Vo ?_ | refine Vz ?_ | refine Vn ?_)
    (refine Ops_box (by exact Va) rfl rfl rfl ?_; intro w3 b6 n_b6; have k_b6 := n_b6.blk)
    repeat (first | refine Vx ?_ | (apply Ops_q; (case hon => exact Va); (case hd => rfl); (case hq => exact YlA)) | refine Vr ?_ | refine Vt ?_ | refine Vf ?_ | refine Vm ?_ | refine Ve ?_ | refine Vo ?_ | refine Vz ?_ | refine Vn ?_)
    (refine Ops_box (by exact Va) rfl rfl rfl ?_; intro w4 b7 n_b7; have k_b7 := n_b7.blk)
    repeat (first | refine Vx ?_ | (apply Ops_q; (case hon => exact Va); (case hd => rfl); (case hq => exact YlA)) | refine Vr ?_ | refine Vt ?_ | refine Vf ?_ | refine Vm ?_ | refine Ve ?_ | refine Vo ?_ | refine Vz ?_ | refine Vn ?_)
    (refine Ops_alloc (by exact Va) rfl ?_; intro w5 b8 n_b8; have k_b8 := n_b8.blk)
    repeat (first | refine Vx ?_ | (apply Ops_q; (case hon => exact Va); (case hd => rfl); (case hq => exact YlA)) | refine Vr ?_ | refine Vt ?_ | refine Vf ?_ | refine Vm ?_ | refine Ve ?_ | refine Vo ?_ | refine Vz ?_ | refine Vn ?_)
    (refine Ops_alloc (by exact Va) rfl ?_; intro w6 b9 n_b9; have k_b9 := n_b9.blk)
    have y5 := n_b9.ext
    have y4 := n_b8.ext.trans y5
    have y3 := n_b7.ext.trans y4
    have y2 := n_b6.ext.trans y3
    have y1 := n_b5.ext.trans y2
    have h58 : b5 ≠ b8 := Nat.ne_of_lt (Nat.lt_of_lt_of_le (k_b5.ext (n_b6.ext.trans n_b7.ext)).lt n_b8.ge)
    have z1 := n_b4.ext
    have z2 := z1.trans n_b5.ext
    have z4 := z2.trans (n_b6.ext.trans n_b7.ext)
    have z5 := z4.trans n_b8.ext
    have z6 := z5.trans n_b9.ext
    have g5 : w0.heap.size ≤ b5 := Nat.le_trans z1.size n_b5.ge
    have g8 : w0.heap.size ≤ b8 := Nat.le_trans z4.size n_b8.ge
    have g9 : w0.heap.size ≤ b9 := Nat.le_trans z5.size n_b9.ge
    replace k_b4 := k_b4.ext y1
    replace k_b5 := k_b5.ext y2
    replace k_b6 := k_b6.ext y3
    replace k_b7 := k_b7.ext y4
    replace k_b8 := k_b8.ext y5
    clear n_b4 n_b5 n_b6 n_b7 n_b8 n_b9 y1 y2 y3 y4 y5 z1 z2 z4 z5
    have hfr0 : ∀ c, (Value.slice a0 (R0.map rnC).length c0).ownBlock = some c → (Value.slice a0 (R0.map rnC).length c0).ownBlock = some c ∨ w0.heap.size ≤ c := fun c hc => .inl hc
    repeat (first | refine Vx ?_ | (apply Ops_q; (case hon => exact Va); (case hd => rfl); (case hq => exact YlA)) | refine Vr ?_ | refine Vt ?_ | refine Vf ?_ | refine Vm ?_ | refine Ve ?_ | refine Vo ?_ | refine Vz ?_ | refine Vn ?_)
    generalize Value.slice a0 (R0.map rnC).length c0 = v0 at *
    refine VD_seq ?_
    repeat (first | refine Vx ?_ | (apply Ops_q; (case hon => exact Va); (case hd => rfl); (case hq => exact YlA)) | refine Vr ?_ | refine Vt ?_ | refine Vf ?_ | refine Vm ?_ | refine Ve ?_ | refine Vo ?_ | refine Vz ?_ | refine Vn ?_)
    refine V_no rfl hd5' ?_
    repeat (first | refine Vx ?_ | (apply Ops_q; (case hon => exact Va); (case hd => rfl); (case hq => exact YlA)) | refine Vr ?_ | refine Vt ?_ | refine Vf ?_ | refine Vm ?_ | refine Ve ?_ | refine Vo ?_ | refine Vz ?_ | refine Vn ?_)
    obtain ⟨adN, rfl, _, hcN⟩ := hT.hN node x hx
    replace hcN : Cells w6 (adN.add (node * 4)) [.int .u64 x.inner, .int .u64 x.leaf, .int .i64 x.nodes, .int .i64 x.first] := hcN.ext z6
    refine VD_seq ?_
    repeat (first | refine Vx ?_ | (apply Ops_q; (case hon => exact Va); (case hd => rfl); (case hq => exact YlA)) | refine Vr ?_ | refine Vt ?_ | refine Vf ?_ | refine Vm ?_ | refine Ve ?_ | refine Vo ?_ | refine Vz ?_ | refine Vn ?_)
    (apply Ops_q; (case hon => (exact Va)); (case hd => rfl); (case hq => exact Yl_indexS (j := node) rfl rfl (by omega)))
    repeat (first | refine Vx ?_ | (apply Ops_q; (case hon => exact Va); (case hd => rfl); (case hq => exact YlA)) | refine Vr ?_ | refine Vt ?_ | refine Vf ?_ | refine Vm ?_ | refine Ve ?_ | refine Vo ?_ | refine Vz ?_ | refine Vn ?_)
    (refine Ops_alloc (by exact Va) rfl ?_; intro w7 b10 n_b10; have k_b10 := n_b10.blk)
    repeat (first | refine Vx ?_ | (apply Ops_q; (case hon => exact Va); (case hd => rfl); (case hq => exact YlA)) | refine Vr ?_ | refine Vt ?_ | refine Vf ?_ | refine Vm ?_ | refine Ve ?_ | refine Vo ?_ | refine Vz ?_ | refine Vn ?_)
    (refine Ops_store (by exact Va) rfl rfl (by assumption) (by first | rfl | exact OneAll.h) ?_; intro w8 u_w8; have k_b10 := u_w8.blk)
    have y8 : Ext w6 w8 := u_w8.below n_b10.ext n_b10.ge
    replace k_b7 := k_b7.ext y8
    repeat (first | refine Vx ?_ | (apply Ops_q; (case hon => exact Va); (case hd => rfl); (case hq => exact YlA)) | refine Vr ?_ | refine Vt ?_ | refine Vf ?_ | refine Vm ?_ | refine Ve ?_ | refine Vo ?_ | refine Vz ?_ | refine Vn ?_)
    refine VD_seqD ?_
    refine VD_seq ?_
    repeat (first | refine Vx ?_ | (apply Ops_q; (case hon => exact Va); (case hd => rfl); (case hq => exact YlA)) | refine Vr ?_ | refine Vt ?_ | refine Vf ?_ | refine Vm ?_ | refine Ve ?_ | refine Vo ?_ | refine Vz ?_ | refine Vn ?_)
    (refine Ops_callR (by exact Va) rfl rfl (fun w_ e_ => below_v (base, d) w_) ?_; intro vf w9 w0_ e0_ e1_ r_vf; have e_w9 := e0_.trans e1_; have b_vf := e0_.size; clear e0_ e1_)
    obtain ⟨bb, rfl, kb, hbb⟩ := r_vf
    repeat (first | refine Vx ?_ | (apply Ops_q; (case hon => exact Va); (case hd => rfl); (case hq => exact YlA)) | refine Vr ?_ | refine Vt ?_ | refine Vf ?_ | refine Vm ?_ | refine Ve ?_ | refine Vo ?_ | refine Vz ?_ | refine Vn ?_)
    refine VD_block ?_
    have hI0 : XS w0 base0 (some adN) aL N L cN cL node base d x v0 b4 b5 b6 b8 b9 b10 bb [] v0 R0 w9 :=
      ⟨Mod.of_ext (z6.trans (y8.trans e_w9)), k_b4.ext (y8.trans e_w9), k_b5.ext (y8.trans e_w9), k_b6.ext (y8.trans e_w9), k_b8.ext (y8.trans e_w9), k_b9.ext (y8.trans e_w9), k_b10.ext e_w9, kb, hO.ext (z6.trans (y8.trans e_w9)), fun c hc => .inl hc, Marks.nil, h58, g5, g8, g9⟩
    clear k_b4 k_b5 k_b6 k_b7 k_b8 k_b9 k_b10 kb hcN
    refine VD_sub (m1 := [(26, .func (.func 93) #[] #[.pointer (some ⟨bb, 0, none⟩)]), (4, .pointer (some ⟨b4, 0, none⟩)), (5, .pointer (some ⟨b5, 0, none⟩)), (6, .pointer (some ⟨b6, 0, none⟩)), (8, .pointer (some ⟨b8, 0, none⟩)), (9, .pointer (some ⟨b9, 0, none⟩)), (10, .pointer (some ⟨b10, 0, none⟩))]) (by repeat (first | exact trivial | refine ⟨rfl, ?_⟩)) ?_
    have hl0 : ∀ l, w9.heap.size ≤ l → w0.heap.size ≤ l := fun l hl => Nat.le_trans hI0.md.size hl
    refine VD_range (K := 64) (vs := fun k => [.int .i64 k, partV (base, d) k]) rfl (fun args w => TFun.h args w) (below_iter bb (base, d) hpk) (fun _ => rfl) rfl
      (fun k w => ∃ v R g1, XS w0 base0 (some adN) aL N L cN cL node base d x v0 b4 b5 b6 b8 b9 b10 bb [] v R w ∧ Canon g1 R (digTo d base k) ∧ (∀ a, a < base → g1 a = g0 a) ∧ (∀ g, XpGood g N L node (base, d) → ∀ a, base ≤ a → a < digTo d base k → g1 a = g a))
      (fun w => (∃ v R, XS w0 base0 (some adN) aL N L cN cL node base d x v0 b4 b5 b6 b8 b9 b10 bb [] v R w) ∧ ∀ g, ¬XpGood g N L node (base, d))
      (fun s : Nat × Nat => [(12, .pointer (some ⟨s.2, 0, none⟩)), (11, .int .i64 s.1), (4, .pointer (some ⟨b4, 0, none⟩)), (5, .pointer (some ⟨b5, 0, none⟩)), (6, .pointer (some ⟨b6, 0, none⟩)), (8, .pointer (some ⟨b8, 0, none⟩)), (9, .pointer (some ⟨b9, 0, none⟩)), (10, .pointer (some ⟨b10, 0, none⟩))])
      (fun k s w => s.1 = k ∧ (∃ v R g1, XS w0 base0 (some adN) aL N L cN cL node base d x v0 b4 b5 b6 b8 b9 b10 bb [] v R w ∧ Canon g1 R (digTo d base k) ∧ (∀ a, a < base → g1 a = g0 a) ∧ (∀ g, XpGood g N L node (base, d) → ∀ a, base ≤ a → a < digTo d base k → g1 a = g a)) ∧ Blk w s.2 125 [.int .u64 (digLo d base k), .int .i64 ((d : Int) + 1), .bool (digOk d k)])
      (fun k w1 w2 ⟨v, R, g1, h, h2⟩ he => ⟨v, R, g1, h.ext he, h2⟩) (fun w1 w2 ⟨⟨v, R, h⟩, h2⟩ he => ⟨⟨v, R, h.ext he⟩, h2⟩)
      (fun k s w1 w2 ⟨e, ⟨v, R, g1, h, h2⟩, hb⟩ he => ⟨e, ⟨v, R, g1, h.ext he, h2⟩, hb.ext he⟩)
      (fun l k w1 w2 hl ⟨v, R, g1, h, h2⟩ ht => ⟨v, R, g1, h.turn ht (hl0 l hl), h2⟩) (fun l w1 w2 hl ⟨⟨v, R, h⟩, h2⟩ ht => ⟨⟨v, R, h.turn ht (hl0 l hl)⟩, h2⟩)
      (fun l k s w1 w2 hl ⟨e, ⟨v, R, g1, h, h2⟩, hb⟩ ht => ⟨e, ⟨v, R, g1, h.turn ht (hl0 l hl), h2⟩, ht.blk hb⟩)
      (fun k w1 ⟨v, R, g1, h, _⟩ => h.kb) ⟨_, _, g0, hI0, by rw [digTo_zero]; exact hC, fun _ _ => rfl, fun g _ a h1 h2 => by rw [digTo_zero] at h2; omega⟩ ?_ ?_ ?_ ?_
    · -- the loop's variables
      rintro l D r k w9 hk hl ⟨v, R, g1, h, h2⟩ hr
      show V _ _ _ _ ((28, _) :: (27, _) :: _) _
      repeat (first | refine Vx ?_ | (apply Ops_q; (case hon => exact Va); (case hd => rfl); (case hq => exact YlA)) | refine Vr ?_ | refine Vt ?_ | refine Vf ?_ | refine Vm ?_ | refine Ve ?_ | refine Vo ?_ | refine Vz ?_ | refine Vn ?_)
      (refine Ops_alloc (by exact Va) rfl ?_; intro wa b12 n_b12; have k_b12 := n_b12.blk)
      repeat (first | refine Vx ?_ | (apply Ops_q; (case hon => exact Va); (case hd => rfl); (case hq => exact YlA)) | refine Vr ?_ | refine Vt ?_ | refine Vf ?_ | refine Vm ?_ | refine Ve ?_ | refine Vo ?_ | refine Vz ?_ | refine Vn ?_)
      (refine Ops_store (by exact Va) rfl rfl (by assumption) (by first | rfl | exact OneAll.h) ?_; intro wb u_wb; have k_b12 := u_wb.blk)
      have xb : Ext w9 wb := u_wb.below n_b12.ext n_b12.ge
      repeat (first | refine Vx ?_ | (apply Ops_q; (case hon => exact Va); (case hd => rfl); (case hq => exact YlA)) | refine Vr ?_ | refine Vt ?_ | refine Vf ?_ | refine Vm ?_ | refine Ve ?_ | refine Vo ?_ | refine Vz ?_ | refine Vn ?_)
      exact ⟨rfl, hr.ext xb, (k, b12), (by repeat (first | exact trivial | refine ⟨rfl, ?_⟩)), rfl, ⟨v, R, g1, h.ext xb, h2⟩, k_b12⟩
    · -- a round
      rintro l D r k ⟨kk, b12⟩ w9 hk hl ⟨e, ⟨v, R, g1, h, hC1, hA1, hG1⟩, k12⟩ hr
      dsimp only at e k12 ⊢
      subst e
      have hdig := dig_in (base := base) hd5 hk
      have hb32' := hb32 hd5
      have hnp := nsz_pos (d + 1)
      have hbv := and_one64 x.inner kk hx1
      have k10 := h.k10
      by_cases hbit : x.inner / 2 ^ kk % 2 = 1
      · have hd1 : decide (bits .and .u64 ((x.inner : Int) / 2 ^ ((kk : Nat) : Int).toNat) 1 = 1) = true := by rw [hbv, hbit]; rfl
        have hkl := hReg.kid hx hk hbit
        have hgk : ∀ g, XpGood g N L node (base, d) → inB g (base, d) kk = true ∧ node < ndC N node + rankN x.inner kk ∧ XpGood g N L (ndC N node + rankN x.inner kk) (digLo d base kk, d + 1) := fun g hg => hg.kid hnode hx hk hbit
        have ekid : x.nodes + (rankN x.inner kk : Int) = ((ndC N node + rankN x.inner kk : Nat) : Int) := by rw [hxn, Int.natCast_add]
        generalize hkid : ndC N node + rankN x.inner kk = kid at *
        have hin : InK .i64 (x.nodes + (rankN x.inner kk : Int)) := by rw [ekid]; simp only [InK]; omega
        clear hkid hbv
        repeat (first | refine Vx ?_ | (apply Ops_q; (case hon => exact Va); (case hd => rfl); (case hq => exact YlA)) | refine Vr ?_ | refine Vt ?_ | refine Vf ?_ | refine Vm ?_ | refine Ve ?_ | refine Vo ?_ | refine Vz ?_ | refine Vn ?_)
        refine V_yes rfl hd1 ?_
        repeat (first | refine Vx ?_ | (apply Ops_q; (case hon => exact Va); (case hd => rfl); (case hq => exact YlA)) | refine Vr ?_ | refine Vt ?_ | refine Vf ?_ | refine Vm ?_ | refine Ve ?_ | refine Vo ?_ | refine Vz ?_ | refine Vn ?_)
        (apply Ops_q; (case hon => (exact Va)); (case hd => rfl); (case hq => exact Yl_call rfl (fun w_ e_ => rank_v x.inner kk w_ hx1 (Nat.le_of_lt hk))))
        repeat (first | refine Vx ?_ | (apply Ops_q; (case hon => exact Va); (case hd => rfl); (case hq => exact YlA)) | refine Vr ?_ | refine Vt ?_ | refine Vf ?_ | refine Vm ?_ | refine Ve ?_ | refine Vo ?_ | refine Vz ?_ | refine Vn ?_)
        rw [ekid]
        have k6 := h.k6
        cases hok : digOk d kk with
        | false =>
          rw [hok] at k12
          have hno : ∀ g, ¬XpGood g N L node (base, d) := fun g hg => by
            have h1 := (inB_of hd5 (hgk g hg).1).1
            dsimp only at h1
            rw [hok] at h1; cases h1
          have k8h := h.k8
          repeat (first | refine Vx ?_ | (apply Ops_q; (case hon => exact Va); (case hd => rfl); (case hq => exact YlA)) | refine Vr ?_ | refine Vt ?_ | refine Vf ?_ | refine Vm ?_ | refine Ve ?_ | refine Vo ?_ | refine Vz ?_ | refine Vn ?_)
          (refine Ops_store (by exact Va) rfl rfl (by assumption) (by first | rfl | exact OneAll.h) ?_; intro wx u_wx; have k_b8 := u_wx.blk)
          have k9x := u_wx.keep h.k9 (blk_ne h.k9 h.k8 rfl)
          repeat (first | refine Vx ?_ | (apply Ops_q; (case hon => exact Va); (case hd => rfl); (case hq => exact YlA)) | refine Vr ?_ | refine Vt ?_ | refine Vf ?_ | refine Vm ?_ | refine Ve ?_ | refine Vo ?_ | refine Vz ?_ | refine Vn ?_)
          (refine Ops_store (by exact Va) rfl rfl (by assumption) (by first | rfl | exact OneAll.h) ?_; intro wy u_wy; have k_b9 := u_wy.blk)
          have hfs := h.fail u_wx u_wy
          have hfr := h.recFail hr u_wx u_wy
          repeat (first | refine Vx ?_ | (apply Ops_q; (case hon => exact Va); (case hd => rfl); (case hq => exact YlA)) | refine Vr ?_ | refine Vt ?_ | refine Vf ?_ | refine Vm ?_ | refine Ve ?_ | refine Vo ?_ | refine Vz ?_ | refine Vn ?_)
          exact ⟨hfr, ⟨_, _, hfs⟩, hno⟩
        | true =>
          obtain ⟨t1, t2⟩ := digTo_ok (base := base) hd5 hok
          rw [hok] at k12
          by_cases hle : kid ≤ node
          · have hd2 : decide ((kid : Int) ≤ (node : Int)) = true := decide_eq_true (by omega)
            have hno : ∀ g, ¬XpGood g N L node (base, d) := fun g hg => by
              have h1 := (hgk g hg).2.1
              omega
            repeat (first | refine Vx ?_ | (apply Ops_q; (case hon => exact Va); (case hd => rfl); (case hq => exact YlA)) | refine Vr ?_ | refine Vt ?_ | refine Vf ?_ | refine Vm ?_ | refine Ve ?_ | refine Vo ?_ | refine Vz ?_ | refine Vn ?_)
            refine V_yes rfl hd2 ?_
            have k8h := h.k8
            repeat (first | refine Vx ?_ | (apply Ops_q; (case hon => exact Va); (case hd => rfl); (case hq => exact YlA)) | refine Vr ?_ | refine Vt ?_ | refine Vf ?_ | refine Vm ?_ | refine Ve ?_ | refine Vo ?_ | refine Vz ?_ | refine Vn ?_)
            (refine Ops_store (by exact Va) rfl rfl (by assumption) (by first | rfl | exact OneAll.h) ?_; intro wx u_wx; have k_b8 := u_wx.blk)
            have k9x := u_wx.keep h.k9 (blk_ne h.k9 h.k8 rfl)
            repeat (first | refine Vx ?_ | (apply Ops_q; (case hon => exact Va); (case hd => rfl); (case hq => exact YlA)) | refine Vr ?_ | refine Vt ?_ | refine Vf ?_ | refine Vm ?_ | refine Ve ?_ | refine Vo ?_ | refine Vz ?_ | refine Vn ?_)
            (refine Ops_store (by exact Va) rfl rfl (by assumption) (by first | rfl | exact OneAll.h) ?_; intro wy u_wy; have k_b9 := u_wy.blk)
            have hfs := h.fail u_wx u_wy
            have hfr := h.recFail hr u_wx u_wy
            repeat (first | refine Vx ?_ | (apply Ops_q; (case hon => exact Va); (case hd => rfl); (case hq => exact YlA)) | refine Vr ?_ | refine Vt ?_ | refine Vf ?_ | refine Vm ?_ | refine Ve ?_ | refine Vo ?_ | refine Vz ?_ | refine Vn ?_)
            exact ⟨hfr, ⟨_, _, hfs⟩, hno⟩
          · have hd2 : decide ((kid : Int) ≤ (node : Int)) = false := decide_eq_false (by omega)
            have ed : ((d : Int) + 1) = ((d + 1 : Nat) : Int) := by omega
            have hpart : Cells w9 ⟨b12, 0, none⟩ [.int .u64 (digLo d base kk), .int .i64 ((d : Int) + 1)] := k12.part 0 2
            have k4 := h.k4
            have k5 := h.k5
            have hT9 : TabM w9 base0 (some adN) aL N L := hT.mod h.md (fun c hc => hO.ge hc)
            have hS : ∀ c, v.ownBlock = some c → base0 ≤ c := fun c hc => h.own.ge hc
            have hCd : Canon g1 R (digLo d base kk) := by rw [← t1]; exact hC1
            repeat (first | refine Vx ?_ | (apply Ops_q; (case hon => exact Va); (case hd => rfl); (case hq => exact YlA)) | refine Vr ?_ | refine Vt ?_ | refine Vf ?_ | refine Vm ?_ | refine Ve ?_ | refine Vo ?_ | refine Vz ?_ | refine Vn ?_)
            refine V_no rfl hd2 ?_
            repeat (first | refine Vx ?_ | (apply Ops_q; (case hon => exact Va); (case hd => rfl); (case hq => exact YlA)) | refine Vr ?_ | refine Vt ?_ | refine Vf ?_ | refine Vm ?_ | refine Ve ?_ | refine Vo ?_ | refine Vz ?_ | refine Vn ?_)
            rw [ed]
            refine Ops_callM (S := fun c => v.ownBlock = some c) (R := fun w0' => XpR base0 N L g1 v (digLo d base kk) (d + 1) kid w0') (by exact Va) rfl rfl (fun w_ e_ => ih (d + 1) (by omega) (digLo d base kk) kid v R g1 w_ (hT9.mod (Mod.of_ext (S := fun c => v.ownBlock = some c) e_) hS) hkl (fun _ => by omega) (h.own.ext e_) (Nat.le_trans hb0 (Nat.le_trans h.md.size e_.size)) hCd (by omega)) ?_
            intro vr w10 w0_ e0 m10 hR
            obtain ⟨v', ok, rfl, hok1, hok0⟩ := hR
            have m : Mod (fun c => v.ownBlock = some c) w9 w10 := (Mod.of_ext e0).trans m10
            have k5' := blk_modOwn m h.own h.k5 rfl
            cases ok with
            | false =>
              obtain ⟨rfl, hno'⟩ := hok0 rfl
              have hno : ∀ g, ¬XpGood g N L node (base, d) := fun g hg => hno' g (hgk g hg).2.2
              repeat (first | refine Vx ?_ | (apply Ops_q; (case hon => exact Va); (case hd => rfl); (case hq => exact YlA)) | refine Vr ?_ | refine Vt ?_ | refine Vf ?_ | refine Vm ?_ | refine Ve ?_ | refine Vo ?_ | refine Vz ?_ | refine Vn ?_)
              (refine Ops_store (by exact Va) rfl rfl (by assumption) (by first | rfl | exact OneAll.h) ?_; intro w11 u_w11; have k_b5 := u_w11.blk)
              have h2 := h.call (R' := []) m Own.nil (fun c hc => nomatch hc) u_w11
              have hr2 := h.keepRec hr m u_w11
              have k8h := h2.k8
              repeat (first | refine Vx ?_ | (apply Ops_q; (case hon => exact Va); (case hd => rfl); (case hq => exact YlA)) | refine Vr ?_ | refine Vt ?_ | refine Vf ?_ | refine Vm ?_ | refine Ve ?_ | refine Vo ?_ | refine Vz ?_ | refine Vn ?_)
              (refine Ops_store (by exact Va) rfl rfl (by assumption) (by first | rfl | exact OneAll.h) ?_; intro wx u_wx; have k_b8 := u_wx.blk)
              have k9x := u_wx.keep h2.k9 (blk_ne h2.k9 h2.k8 rfl)
              repeat (first | refine Vx ?_ | (apply Ops_q; (case hon => exact Va); (case hd => rfl); (case hq => exact YlA)) | refine Vr ?_ | refine Vt ?_ | refine Vf ?_ | refine Vm ?_ | refine Ve ?_ | refine Vo ?_ | refine Vz ?_ | refine Vn ?_)
              (refine Ops_store (by exact Va) rfl rfl (by assumption) (by first | rfl | exact OneAll.h) ?_; intro wy u_wy; have k_b9 := u_wy.blk)
              have hfs := h2.fail u_wx u_wy
              have hfr := h2.recFail hr2 u_wx u_wy
              repeat (first | refine Vx ?_ | (apply Ops_q; (case hon => exact Va); (case hd => rfl); (case hq => exact YlA)) | refine Vr ?_ | refine Vt ?_ | refine Vf ?_ | refine Vm ?_ | refine Ve ?_ | refine Vo ?_ | refine Vz ?_ | refine Vn ?_)
              exact ⟨hfr, ⟨_, _, hfs⟩, hno⟩
            | true =>
              obtain ⟨R', g2, o', hC2, hA2, hG2, hf2⟩ := hok1 rfl
              have hf3 : ∀ c, v'.ownBlock = some c → v.ownBlock = some c ∨ w9.heap.size ≤ c := fun c hc => (hf2 c hc).imp id (fun h1 => Nat.le_trans e0.size h1)
              obtain ⟨a', c', rfl, _⟩ := o'.slice
              repeat (first | refine Vx ?_ | (apply Ops_q; (case hon => exact Va); (case hd => rfl); (case hq => exact YlA)) | refine Vr ?_ | refine Vt ?_ | refine Vf ?_ | refine Vm ?_ | refine Ve ?_ | refine Vo ?_ | refine Vz ?_ | refine Vn ?_)
              (refine Ops_store (by exact Va) rfl rfl (by assumption) (by first | rfl | exact OneAll.h) ?_; intro w11 u_w11; have k_b5 := u_w11.blk)
              have h2 := h.call m o' hf3 u_w11
              have hr2 := h.keepRec hr m u_w11
              repeat (first | refine Vx ?_ | (apply Ops_q; (case hon => exact Va); (case hd => rfl); (case hq => exact YlA)) | refine Vr ?_ | refine Vt ?_ | refine Vf ?_ | refine Vm ?_ | refine Ve ?_ | refine Vo ?_ | refine Vz ?_ | refine Vn ?_)
              refine ⟨hr2, _, _, g2, h2, by rw [t2]; exact hC2, fun a ha => ?_, fun g hg a ha1 ha2 => ?_⟩
              · rw [hA2 a (by omega)]; exact hA1 a ha
              · rw [t2] at ha2
                rcases Nat.lt_or_ge a (digLo d base kk) with h1 | h1
                · rw [hA2 a h1]; exact hG1 g hg a ha1 (by rw [t1]; exact h1)
                · exact hG2 g (hgk g hg).2.2 a h1 ha2
      · have hd1 : decide (bits .and .u64 ((x.inner : Int) / 2 ^ ((kk : Nat) : Int).toNat) 1 = 1) = false := by rw [hbv]; exact decide_eq_false (by omega)
        have hgl : ∀ g, XpGood g N L node (base, d) → 0 < rankN x.leaf (kk + 1) ∧ (digOk d kk = true → leafV L (lfC N node) (rankN x.leaf (kk + 1)) = g (digLo d base kk) ∧ Flat g (digLo d base kk) (digLo d base kk + nsz (d + 1))) := fun g hg => hg.leaf hnode hx hk hbit
        have hT9 : TabM w9 base0 (some adN) aL N L := hT.mod h.md (fun c hc => hO.ge hc)
        have hlf := hReg.leaf hx (show kk + 1 ≤ 64 from hk)
        have hlfl := hReg.lf_le (Nat.le_of_lt hnode)
        have hlk : lfC N node ≤ 4611686018427387904 := Nat.le_trans hlfl hl9
        have hleaf := fun (w_ : World) (e_ : Ext w9 w_) => leaf_v (some adN) aL N.length L cN cL x (lfC N node) kk w_ (hT9.ins.ext e_) hx2 hxf hk hlf hl9 hlk
        generalize hlv : leafV L (lfC N node) (rankN x.leaf (kk + 1)) = value at *
        have k4 := h.k4
        clear hbv hlfl hlk hlf
        repeat (first | refine Vx ?_ | (apply Ops_q; (case hon => exact Va); (case hd => rfl); (case hq => exact YlA)) | refine Vr ?_ | refine Vt ?_ | refine Vf ?_ | refine Vm ?_ | refine Ve ?_ | refine Vo ?_ | refine Vz ?_ | refine Vn ?_)
        refine V_no rfl hd1 ?_
        repeat (first | refine Vx ?_ | (apply Ops_q; (case hon => exact Va); (case hd => rfl); (case hq => exact YlA)) | refine Vr ?_ | refine Vt ?_ | refine Vf ?_ | refine Vm ?_ | refine Ve ?_ | refine Vo ?_ | refine Vz ?_ | refine Vn ?_)
        (apply Ops_q; (case hon => (exact Va)); (case hd => rfl); (case hq => exact Yl_call rfl (fun w_ e_ => hleaf w_ e_)))
        generalize hrk : rankN x.leaf (kk + 1) = rk at *
        repeat (first | refine Vx ?_ | (apply Ops_q; (case hon => exact Va); (case hd => rfl); (case hq => exact YlA)) | refine Vr ?_ | refine Vt ?_ | refine Vf ?_ | refine Vm ?_ | refine Ve ?_ | refine Vo ?_ | refine Vz ?_ | refine Vn ?_)
        by_cases hz : rk = 0
        · have hd2 : (!(!decide (rk = 0))) = true := by rw [decide_eq_true hz]; rfl
          have hno : ∀ g, ¬XpGood g N L node (base, d) := fun g hg => by
            have h1 := (hgl g hg).1
            omega
          refine V_yes rfl hd2 ?_
          have k8h := h.k8
          repeat (first | refine Vx ?_ | (apply Ops_q; (case hon => exact Va); (case hd => rfl); (case hq => exact YlA)) | refine Vr ?_ | refine Vt ?_ | refine Vf ?_ | refine Vm ?_ | refine Ve ?_ | refine Vo ?_ | refine Vz ?_ | refine Vn ?_)
          (refine Ops_store (by exact Va) rfl rfl (by assumption) (by first | rfl | exact OneAll.h) ?_; intro wx u_wx; have k_b8 := u_wx.blk)
          have k9x := u_wx.keep h.k9 (blk_ne h.k9 h.k8 rfl)
          repeat (first | refine Vx ?_ | (apply Ops_q; (case hon => exact Va); (case hd => rfl); (case hq => exact YlA)) | refine Vr ?_ | refine Vt ?_ | refine Vf ?_ | refine Vm ?_ | refine Ve ?_ | refine Vo ?_ | refine Vz ?_ | refine Vn ?_)
          (refine Ops_store (by exact Va) rfl rfl (by assumption) (by first | rfl | exact OneAll.h) ?_; intro wy u_wy; have k_b9 := u_wy.blk)
          have hfs := h.fail u_wx u_wy
          have hfr := h.recFail hr u_wx u_wy
          repeat (first | refine Vx ?_ | (apply Ops_q; (case hon => exact Va); (case hd => rfl); (case hq => exact YlA)) | refine Vr ?_ | refine Vt ?_ | refine Vf ?_ | refine Vm ?_ | refine Ve ?_ | refine Vo ?_ | refine Vz ?_ | refine Vn ?_)
          exact ⟨hfr, ⟨_, _, hfs⟩, hno⟩
        · have hd2 : (!(!decide (rk = 0))) = false := by rw [decide_eq_false hz]; rfl
          refine V_no rfl hd2 ?_
          cases hok : digOk d kk with
          | false =>
            rw [hok] at k12
            obtain ⟨_, t2⟩ := digTo_skip (base := base) hd5 hok
            repeat (first | refine Vx ?_ | (apply Ops_q; (case hon => exact Va); (case hd => rfl); (case hq => exact YlA)) | refine Vr ?_ | refine Vt ?_ | refine Vf ?_ | refine Vm ?_ | refine Ve ?_ | refine Vo ?_ | refine Vz ?_ | refine Vn ?_)
            exact ⟨hr, _, _, g1, h, by rw [t2]; exact hC1, hA1, fun g hg a ha1 ha2 => hG1 g hg a ha1 (by rw [← t2]; exact ha2)⟩
          | true =>
            obtain ⟨t1, t2⟩ := digTo_ok (base := base) hd5 hok
            rw [hok] at k12
            have k5 := h.k5
            have hCd : Canon g1 R (digLo d base kk) := by rw [← t1]; exact hC1
            have hRl := hCd.len
            repeat (first | refine Vx ?_ | (apply Ops_q; (case hon => exact Va); (case hd => rfl); (case hq => exact YlA)) | refine Vr ?_ | refine Vt ?_ | refine Vf ?_ | refine Vm ?_ | refine Ve ?_ | refine Vo ?_ | refine Vz ?_ | refine Vn ?_)
            refine Ops_callM (S := fun c => v.ownBlock = some c) (R := fun w0' => ExtR base0 (extR R (digLo d base kk) value) v w0') (by exact Va) rfl rfl (fun w_ e_ => extend_v R (digLo d base kk) value w_ (h.own.ext e_) (Nat.le_trans hb0 (Nat.le_trans h.md.size e_.size)) (by omega)) ?_
            intro v' w10 w0_ e0 m10 hR
            obtain ⟨o', hf2⟩ := hR
            have m : Mod (fun c => v.ownBlock = some c) w9 w10 := (Mod.of_ext e0).trans m10
            have k5' := blk_modOwn m h.own h.k5 rfl
            have hf3 : ∀ c, v'.ownBlock = some c → v.ownBlock = some c ∨ w9.heap.size ≤ c := fun c hc => (hf2 c hc).imp id (fun h1 => Nat.le_trans e0.size h1)
            obtain ⟨a', c', rfl, _⟩ := o'.slice
            repeat (first | refine Vx ?_ | (apply Ops_q; (case hon => exact Va); (case hd => rfl); (case hq => exact YlA)) | refine Vr ?_ | refine Vt ?_ | refine Vf ?_ | refine Vm ?_ | refine Ve ?_ | refine Vo ?_ | refine Vz ?_ | refine Vn ?_)
            (refine Ops_store (by exact Va) rfl rfl (by assumption) (by first | rfl | exact OneAll.h) ?_; intro w11 u_w11; have k_b5 := u_w11.blk)
            have h2 := h.call m o' hf3 u_w11
            have hr2 := h.keepRec hr m u_w11
            have hC2 := hCd.ext (g' := fun a => if a < digLo d base kk then g1 a else value) (v := value) (show digLo d base kk < digLo d base kk + nsz (d + 1) by omega) (fun a ha => if_pos ha) (fun a h1 _ => if_neg (by omega))
            repeat (first | refine Vx ?_ | (apply Ops_q; (case hon => exact Va); (case hd => rfl); (case hq => exact YlA)) | refine Vr ?_ | refine Vt ?_ | refine Vf ?_ | refine Vm ?_ | refine Ve ?_ | refine Vo ?_ | refine Vz ?_ | refine Vn ?_)
            refine ⟨hr2, _, _, _, h2, by rw [t2]; exact hC2, fun a ha => ?_, fun g hg a ha1 ha2 => ?_⟩
            · rw [if_pos (by omega)]; exact hA1 a ha
            · rw [t2] at ha2
              rcases Nat.lt_or_ge a (digLo d base kk) with h1 | h1
              · rw [if_pos h1]; exact hG1 g hg a ha1 (by rw [t1]; exact h1)
              · obtain ⟨q1, q2⟩ := (hgl g hg).2 hok
                rw [if_neg (by omega), q1]; exact (q2 a h1 ha2).symm
    · -- all digits are through
      rintro D w10 hDl ⟨v, R, g1, h, hC1, hA1, hG1⟩ hdD
      refine blockD_normal ?_
      refine thenD_normal ?_
      have k5 := h.k5
      have k8 := h.k8
      have k9 := h.k9
      obtain ⟨a', c', rfl, _⟩ := h.own.slice
      refine VD_seq ?_
      repeat (first | refine Vx ?_ | (apply Ops_q; (case hon => exact Va); (case hd => rfl); (case hq => exact YlA)) | refine Vr ?_ | refine Vt ?_ | refine Vf ?_ | refine Vm ?_ | refine Ve ?_ | refine Vo ?_ | refine Vz ?_ | refine Vn ?_)
      (refine Ops_store (by exact Va) rfl rfl (by assumption) (by first | rfl | exact OneAll.h) ?_; intro wa u_wa; have k_b8 := u_wa.blk)
      have k9a := u_wa.keep h.k9 (blk_ne h.k9 h.k8 rfl)
      repeat (first | refine Vx ?_ | (apply Ops_q; (case hon => exact Va); (case hd => rfl); (case hq => exact YlA)) | refine Vr ?_ | refine Vt ?_ | refine Vf ?_ | refine Vm ?_ | refine Ve ?_ | refine Vo ?_ | refine Vz ?_ | refine Vn ?_)
      (refine Ops_store (by exact Va) rfl rfl (by assumption) (by first | rfl | exact OneAll.h) ?_; intro wb u_wb; have k_b9 := u_wb.blk)
      have k8b := u_wb.keep k_b8 (blk_ne k_b8 k9a rfl)
      have hM : Marks [D] wb := by
        have h1 : Marks [D] w10 := ⟨by simp, fun E hE => by rw [List.mem_singleton.1 hE]; exact hdD⟩
        exact (h1.upd u_wa h.k8).upd u_wb k9a
      have ob := (h.own.upd u_wa (own_blk_ne h.own h.k8 rfl)).upd u_wb (own_blk_ne (h.own.upd u_wa (own_blk_ne h.own h.k8 rfl)) k9a rfl)
      have hmd := (h.md.upd u_wa (.inr h.g8)).upd u_wb (.inr h.g9)
      rw [digTo_end base hd5] at hC1 hG1
      repeat (first | refine Vx ?_ | (apply Ops_q; (case hon => exact Va); (case hd => rfl); (case hq => exact YlA)) | refine Vr ?_ | refine Vt ?_ | refine Vf ?_ | refine Vm ?_ | refine Ve ?_ | refine Vo ?_ | refine Vz ?_ | refine Vn ?_)
      refine VD_of (V_ret ?_)
      refine retR2D (.inl rfl) rfl hM fun w' hm => ⟨res_one rfl ((hM.blk hm k8b).cell rfl), res_one rfl ((hM.blk hm k_b9).cell rfl), ?_⟩
      exact ⟨_, rfl, hmd.trans' hm (fun c hc => .inr (by rw [List.mem_singleton.1 hc]; exact Nat.le_trans hI0.md.size hDl)), _, true, rfl, fun _ => ⟨R, g1, hM.own_mod hm ob, hC1, hA1, hG1, h.fr⟩, fun h => nomatch h⟩
    · -- a digit fails
      rintro D w10 hDl ⟨⟨v, R, h⟩, hno⟩ hdD
      have hM : Marks [D] w10 := ⟨by simp, fun E hE => by rw [List.mem_singleton.1 hE]; exact hdD⟩
      show retD Try.prog Try.f90 79 (Does (fun c => v0.ownBlock = some c) (XpR base0 N L g0 v0 base d node w0) w0) .ret [D] _ w10
      · refine retR2D (.inl rfl) rfl hM fun w' hm => ⟨res_one rfl ((hM.blk hm h.k8).cell rfl), res_one rfl ((hM.blk hm h.k9).cell rfl), ?_⟩
        exact ⟨_, rfl, h.md.trans' hm (fun c hc => .inr (by rw [List.mem_singleton.1 hc]; exact Nat.le_trans hI0.md.size hDl)), _, false, rfl, (fun h => nomatch h), fun _ => ⟨rfl, hno⟩⟩
end Go.Proofs.Ytjpnaofoeeegeaa


/-
  Stride tables (layer 8), plain: the way of an address through the compressed form; forms that are equal are forms of the same function.
  No conditions beyond those that each lemma states.
-/
namespace Go.Proofs.Ytjpnaofoeeegeaa

/-- Digit i of an address. -/
def digN (a i : Nat) : Nat := a * 16 / 2 ^ (30 - 6 * i) % 64
theorem digN_lt (a i : Nat) : digN a i < 64 := Nat.mod_lt _ (by omega)
/-- A place begins at a multiple of its size. -/
def PlAl (p : Nat × Nat) : Prop := p.1 % nsz p.2 = 0
theorem kd_al {f : Nat → Int} {p : Nat × Nat} (hp : PlOk p) (ha : PlAl p) : ∀ x, x ≤ 64 → ∀ q ∈ kdP f p x, PlAl q
  | 0, _, q, hq => by cases hq
  | x + 1, hx, q, hq => by
    rw [kdP] at hq
    split at hq
    · rename_i hin
      rcases List.mem_append.1 hq with hq | hq
      · exact kd_al hp ha x (by omega) q hq
      · rw [List.mem_singleton.1 hq]
        have h5 : p.2 < 5 := by
          rcases Nat.lt_or_ge p.2 5 with h | h
          · exact h
          · obtain ⟨b, d⟩ := p
            have := hp.1
            dsimp only at h this
            obtain rfl : d = 5 := by omega
            rw [inB_five] at hin; cases hin
        unfold PlAl at ha ⊢
        dsimp only
        rw [digLo, if_pos h5]
        rw [nsz_step h5] at ha
        have h1 : p.1 % nsz (p.2 + 1) = 0 := by
          rw [← Nat.mod_mul_left_mod p.1 64 (nsz (p.2 + 1)), ha]; exact Nat.zero_mod _
        rw [Nat.add_mul_mod_self_right]; exact h1
    · exact kd_al hp ha x (by omega) q hq
theorem row_al (f : Nat → Int) : ∀ i, ∀ p ∈ rowF f i, PlAl p
  | 0, p, hp => by rw [List.mem_singleton.1 hp]; rfl
  | i + 1, p, hp => by
    rw [rowF] at hp
    split at hp
    · rename_i q hq
      rcases List.mem_append.1 hp with hp | hp
      · exact row_al f i p hp
      · exact kd_al (plOk_row f i q (List.mem_of_getElem? hq)) (row_al f i q (List.mem_of_getElem? hq)) 64 (Nat.le_refl _) p hp
    · exact row_al f i p hp
/-- The digit of an address in a place. -/
theorem digN_at {p : Nat × Nat} {a : Nat} (hd : p.2 ≤ 5) (al : PlAl p) (h1 : p.1 ≤ a) (h2 : a < p.1 + nsz p.2) :
    digOk p.2 (digN a p.2) = true ∧ digLo p.2 p.1 (digN a p.2) ≤ a ∧ a < digLo p.2 p.1 (digN a p.2) + nsz (p.2 + 1) := by
  obtain ⟨base, d⟩ := p
  unfold PlAl at al
  dsimp only at hd al h1 h2 ⊢
  rcases Nat.lt_or_ge d 5 with h5 | h5
  · have hs := nsz_step h5
    have hp := nsz_pos (d + 1)
    have e : a * 16 / 2 ^ (30 - 6 * d) = a / nsz (d + 1) := by
      have e1 : 2 ^ (30 - 6 * d) = nsz (d + 1) * 16 := by unfold nsz; rw [show (16 : Nat) = 2 ^ 4 from rfl, ← Nat.pow_add]; congr 1; omega
      rw [e1, Nat.mul_div_mul_right _ _ (by omega)]
    have ed : digN a d = (a - base) / nsz (d + 1) := by
      unfold digN
      rw [e]
      obtain ⟨k, hk⟩ := Nat.dvd_of_mod_eq_zero al
      rw [hs] at hk h2
      have e2 : a = (a - base) + nsz (d + 1) * (64 * k) := by rw [Nat.mul_comm (nsz (d + 1)), Nat.mul_assoc, Nat.mul_comm k, ← Nat.mul_assoc, ← hk]; omega
      have e3 : a / nsz (d + 1) = (a - base) / nsz (d + 1) + 64 * k := by
        conv => lhs; rw [e2]
        rw [Nat.add_mul_div_left _ _ hp]
      have e4 : (a - base) / nsz (d + 1) < 64 := Nat.div_lt_of_lt_mul (by rw [Nat.mul_comm]; omega)
      rw [e3, Nat.add_mul_mod_self_left, Nat.mod_eq_of_lt e4]
    rw [ed, digLo, if_pos h5, digOk, decide_eq_true h5]
    have h3 := Nat.div_mul_le_self (a - base) (nsz (d + 1))
    have h4 := Nat.lt_div_mul_add (a := a - base) hp
    exact ⟨rfl, by omega, by omega⟩
  · obtain rfl : d = 5 := by omega
    rw [nsz_five] at h2 al
    have e : digN a 5 = 16 * (a - base) := by unfold digN; rw [show 2 ^ (30 - 6 * 5) = 1 from rfl, Nat.div_one]; omega
    rw [e, digLo, if_neg (by omega), digOk, nsz_six]
    refine ⟨by simp, by omega, by omega⟩
/-- How many nodes the way of an address visits. -/
def dep (f : Nat → Int) (a : Nat) : Nat → Nat × Nat → Nat
  | 0, _ => 0
  | m + 1, p => if inB f p (digN a p.2) then 1 + dep f a m (digLo p.2 p.1 (digN a p.2), p.2 + 1) else 1
theorem dep_le (f : Nat → Int) (a : Nat) : ∀ m p, dep f a m p ≤ m
  | 0, _ => Nat.le_refl _
  | m + 1, p => by
    have := dep_le f a m (digLo p.2 p.1 (digN a p.2), p.2 + 1)
    rw [dep]; split <;> omega
theorem dep_pos (f : Nat → Int) (a : Nat) (m : Nat) (p : Nat × Nat) : 1 ≤ dep f a (m + 1) p := by rw [dep]; split <;> omega
section
variable {f : Nat → Int} {n i a : Nat} {p : Nat × Nat}
/-- The value of the digit of an address, where it is not inner. -/
theorem digK_val {x : Nat} (_hd : p.2 ≤ 5) (hin : inB f p x = false) (hok : digOk p.2 x = true) (h1 : digLo p.2 p.1 x ≤ a) (h2 : a < digLo p.2 p.1 x + nsz (p.2 + 1)) : digK f p x = some (some (f a)) := by
  have hne : digK f p x ≠ some none := fun e => by unfold inB at hin; rw [e] at hin; cases hin
  unfold digK at hne ⊢
  rw [if_pos hok] at hne ⊢
  split at hne
  · rename_i hf
    rw [if_pos hf, flat_iff.1 hf a h1 h2]
  · exact absurd rfl hne
/-- Each value of the function is a leaf of its form. -/
theorem CfAt.mem (h : CfAt f n) : ∀ m d, d + m = 5 → ∀ i p, i < n → (rowF f i)[i]? = some p → p.2 = d → p.1 ≤ a → a < p.1 + nsz p.2 → f a ∈ lvF f n := by
  intro m
  induction m with
  | zero =>
    intro d hd i p hi hp hpd h1 h2
    have hk := plOk_row f i p (List.mem_of_getElem? hp)
    obtain ⟨x, hx, hok, hl, hh⟩ := dig_of hk.1 h1 h2
    have hin : inB f p x = false := by
      obtain ⟨b, d'⟩ := p
      dsimp only at hpd
      obtain rfl : d' = 5 := by omega
      exact inB_five f b x
    have := (h.leaf hi hp hx hin).2 _ (digK_val hk.1 hin hok hl hh)
    exact List.mem_of_getElem? this
  | succ m ih =>
    intro d hd i p hi hp hpd h1 h2
    have hk := plOk_row f i p (List.mem_of_getElem? hp)
    obtain ⟨x, hx, hok, hl, hh⟩ := dig_of hk.1 h1 h2
    cases hin : inB f p x with
    | false =>
      have := (h.leaf hi hp hx hin).2 _ (digK_val hk.1 hin hok hl hh)
      exact List.mem_of_getElem? this
    | true =>
      obtain ⟨k1, k2⟩ := h.kid_lt hi hp hx hin
      exact ih (d + 1) (by omega) _ _ k1 (h.stands (h.kid hp hx hin) k2) (by dsimp only; omega) hl hh
theorem CfAt.root (h : CfAt f n) : 0 < n := by
  have : 1 ≤ (rowF f n).length := (row_pre f (Nat.zero_le n)).length_le
  have := h.eq; omega
theorem CfAt.mem_all (h : CfAt f n) (ha : a < 4294967296) : f a ∈ lvF f n := h.mem 5 0 rfl 0 (0, 0) h.root rfl rfl (Nat.zero_le _) (by rw [nsz_zero]; dsimp only; omega)
end
/-- The value that the form has for an address, by its way. -/
theorem way_eq {f g : Nat → Int} {n a : Nat} (hf : CfAt f n) (hg : CfAt g n) (hN : ndsF f n = ndsF g n) (hL : lvF f n = lvF g n) : ∀ m d, d + m = 5 → ∀ i p, i < n → (rowF f i)[i]? = some p → (rowF g i)[i]? = some p → p.2 = d → p.1 ≤ a → a < p.1 + nsz p.2 → f a = g a := by
  have key : ∀ i p x, i < n → (rowF f i)[i]? = some p → (rowF g i)[i]? = some p → x < 64 → inB f p x = inB g p x ∧ rankN (ndF f i p).leaf (x + 1) = rankN (ndF g i p).leaf (x + 1) ∧ (rowF f i).length = (rowF g i).length ∧ (lvF f i).length = (lvF g i).length ∧ rankN (ndF f i p).inner x = rankN (ndF g i p).inner x := by
    intro i p x hi hp hq hx
    have h1 := hf.node hp hi
    have h2 := hg.node hq hi
    rw [hN, h2] at h1
    have e := Option.some.inj h1
    have b1 := CfAt.bit f i p hx
    have b2 := CfAt.bit g i p hx
    rw [← e, b2] at b1
    obtain ⟨q1, q2⟩ := hf.nums i (Nat.le_of_lt hi)
    obtain ⟨q3, q4⟩ := hg.nums i (Nat.le_of_lt hi)
    rw [hN] at q1 q2
    refine ⟨?_, by rw [e], by rw [← q1, ← q3], by rw [← q2, ← q4], by rw [e]⟩
    cases h3 : inB f p x <;> cases h4 : inB g p x <;> rw [h3, h4] at b1 <;> first | rfl | (exact absurd b1 (by decide))
  have lf : ∀ i p x, i < n → (rowF f i)[i]? = some p → (rowF g i)[i]? = some p → x < 64 → p.2 ≤ 5 → inB f p x = false → digOk p.2 x = true → digLo p.2 p.1 x ≤ a → a < digLo p.2 p.1 x + nsz (p.2 + 1) → f a = g a := by
    intro i p x hi hp hq hx hd hin hok hl hh
    obtain ⟨k1, k2, k3, k4, _⟩ := key i p x hi hp hq hx
    have v1 := (hf.leaf hi hp hx hin).2 _ (digK_val hd hin hok hl hh)
    have v2 := (hg.leaf hi hq hx (by rw [← k1]; exact hin)).2 _ (digK_val hd (by rw [← k1]; exact hin) hok hl hh)
    rw [k2, k4, hL, v2] at v1
    exact (Option.some.inj v1).symm
  intro m
  induction m with
  | zero =>
    intro d hd i p hi hp hq hpd h1 h2
    have hk := plOk_row f i p (List.mem_of_getElem? hp)
    obtain ⟨x, hx, hok, hl, hh⟩ := dig_of hk.1 h1 h2
    have hin : inB f p x = false := by
      obtain ⟨b, d'⟩ := p
      dsimp only at hpd
      obtain rfl : d' = 5 := by omega
      exact inB_five f b x
    exact lf i p x hi hp hq hx hk.1 hin hok hl hh
  | succ m ih =>
    intro d hd i p hi hp hq hpd h1 h2
    have hk := plOk_row f i p (List.mem_of_getElem? hp)
    obtain ⟨x, hx, hok, hl, hh⟩ := dig_of hk.1 h1 h2
    cases hin : inB f p x with
    | false => exact lf i p x hi hp hq hx hk.1 hin hok hl hh
    | true =>
      obtain ⟨k1, k2, k3, k4, k5⟩ := key i p x hi hp hq hx
      obtain ⟨c1, c2⟩ := hf.kid_lt hi hp hx hin
      have c3 := hf.stands (hf.kid hp hx hin) c2
      have c4 := hg.stands (hg.kid hq hx (by rw [← k1]; exact hin)) (by rw [← k3, ← k5]; exact c2)
      rw [← k3, ← k5] at c4
      exact ih (d + 1) (by omega) _ _ c1 c3 c4 (by dsimp only; omega) hl hh
/-- Equal forms are forms of the same function. -/
theorem isCf_inj {f g : Nat → Int} {N : List Nd} {L : List Int} (hf : IsCf f N L) (hg : IsCf g N L) {a : Nat} (ha : a < 4294967296) : f a = g a := by
  obtain ⟨n, h1, h2, h3⟩ := hf.ex
  obtain ⟨k, h4, h5, h6⟩ := hg.ex
  have c1 : CfAt f n := ⟨h1⟩
  have c2 : CfAt g k := ⟨h4⟩
  have e : n = k := by rw [← c1.len, ← c2.len, ← h2, ← h5]
  subst e
  exact way_eq c1 c2 (h2 ▸ h5) (h3 ▸ h6) 5 0 rfl 0 (0, 0) c1.root rfl rfl rfl (Nat.zero_le _) (by rw [nsz_zero]; dsimp only; omega)
theorem isCf_len {f : Nat → Int} {N : List Nd} {L : List Int} (h : IsCf f N L) : CfAt f N.length ∧ N = ndsF f N.length ∧ L = lvF f N.length := by
  obtain ⟨n, h1, h2, h3⟩ := h.ex
  have c1 : CfAt f n := ⟨h1⟩
  have e : N.length = n := by rw [h2, c1.len]
  rw [e]; exact ⟨c1, h2, h3⟩
end Go.Proofs.Ytjpnaofoeeegeaa


/-
  Regions that draw their order, walked along each order that their edges leave: for small regions with calls behind guards.
  No conditions beyond those that each rule states.
-/
namespace Go.Proofs.Ytjpnaofoeeegeaa
open Go.RowKit

section
variable {P : Program} {N : Fr} {ops : Array Oper} {Q : Exit → Env → World → Prop} {m : Env} {w : World} {f : Nat} {L : Array Bool}
/-- The rest of a region, when the operations of L are through and f are left. -/
structure Dr (P : Program) (N : Fr) (ops : Array Oper) (Q : Exit → Env → World → Prop) (f : Nat) (L : Array Bool) (m : Env) (w : World) : Prop where
  out : ∀ a w', Agree N m a → Ext w w' → wpAny P .any ops (fun e a w => e = .normal ∧ lift N Q .normal a w) f L a w'
/-- Operation i is next. -/
structure DrOp (P : Program) (N : Fr) (ops : Array Oper) (Q : Exit → Env → World → Prop) (f : Nat) (L : Array Bool) (i : Nat) (m : Env) (w : World) : Prop where
  out : ∀ a w', Agree N m a → Ext w w' → wpOp P ops (fun e a w => e = .normal ∧ lift N Q .normal a w) i (wpAny P .any ops (fun e a w => e = .normal ∧ lift N Q .normal a w) f (L.setIfInBounds i true)) a w'
def DrAll (P : Program) (N : Fr) (ops : Array Oper) (Q : Exit → Env → World → Prop) (f : Nat) (L : Array Bool) (m : Env) (w : World) : List Nat → Prop
  | [] => True
  | i :: r => DrOp P N ops Q f L i m w ∧ DrAll P N ops Q f L m w r
theorem drAll_mem : ∀ {R : List Nat}, DrAll P N ops Q f L m w R → ∀ i ∈ R, DrOp P N ops Q f L i m w
  | [], _, i, hi => by cases hi
  | j :: r, h, i, hi => by
    rcases List.mem_cons.1 hi with rfl | hi
    · exact h.1
    · exact drAll_mem h.2 i hi
theorem V_dr {id : Nat} {l : List Oper} (hm : P.follows .mixedOrders = true) (h : Dr P N l.toArray Q l.length (Array.replicate l.length false) m w)
    (hnd : NoDef N.ro l := by first | exact .inl rfl | exact .inr (by kernel_rfl)) : V P N (.region id l.toArray true) Q m w :=
  ⟨fun a w' ha hw => wpR_mono (Q := fun e a w => e = .normal ∧ lift N Q .normal a w) (fun e a w ⟨h1, h2⟩ => by rw [h1]; exact h2) (wpR_region_any (by simpa using hnd) noLet hm (by simpa using h.out a _ ha hw.draw))⟩
theorem Dr_end (hr : Region.ready .any ops L = []) (h : Q .normal m w) : Dr P N ops Q 0 L m w := ⟨fun _ _ ha hw => ⟨hr, rfl, m, w, h, ha, hw⟩⟩
theorem Dr_step (R : List Nat) (hr : Region.ready .any ops L = R) (hne : R.isEmpty = false) (h : DrAll P N ops Q f L m w R) : Dr P N ops Q (f + 1) L m w := ⟨fun a w' ha hw => by
  refine ⟨fun h0 => ?_, fun i hi => ?_⟩
  · rw [hr] at h0; subst h0; cases hne
  · rw [hr] at hi
    exact (drAll_mem h i hi).out a w' ha hw⟩
theorem DrOp_q {i dst : Nat} {op : Op} {ty : TypeId} {pos : String} {after : Array Edge} {g : Option (Nat × Bool)} {v : Value} (hi : ops[i]? = some ⟨some dst, op, ty, pos, after, g⟩)
    (hon : On N ops m ⟨some dst, op, ty, pos, after, g⟩) (hd : Nat.ble (dst + 1) N.n = true) (hq : Yl P N m w ⟨some dst, op, ty, pos, after, g⟩ v) (h : Dr P N ops Q f (L.setIfInBounds i true) ((dst, v) :: m) w) : DrOp P N ops Q f L i m w := ⟨fun a w' ha hw => by
  unfold wpOp
  simp only [hi]
  rw [if_pos (hon.out a ha)]
  exact .inl (Oper.wp_of_quiet (C := Ext w) (K := fun a1 => Agree N ((dst, v) :: m) a1) hw (fun a1 w1 hw1 ha1 => h.out a1 w1 ha1 hw1) ⟨v, fun w1 hw1 => quietAt_mono (fun _ h3 => hw1.trans h3) (hq.out a w1 ha hw1), ha.put (Nat.le_of_ble_eq_true hd) v⟩)⟩
/-- A call whose result lies in new memory. -/
theorem DrOp_callR {i dst : Nat} {f' : FuncId} {xs : Array Operand} {ats : Array TypeId} {ty : TypeId} {pos : String} {after : Array Edge} {g : Option (Nat × Bool)} {vs : List Value} {R : World → Value → World → Prop} [hf : TFun P f'] (hi : ops[i]? = some ⟨some dst, .call { callee := .value (.func f'), args := xs, argTypes := ats }, ty, pos, after, g⟩)
    (hon : On N ops m ⟨some dst, .call { callee := .value (.func f'), args := xs, argTypes := ats }, ty, pos, after, g⟩) (hd : Nat.ble (dst + 1) N.n = true) (hx : evs m xs.toList = some vs)
    (hc : ∀ w', Ext w w' → Calls P f' vs.toArray w' (Gives (R w') w'))
    (h : ∀ v w1 w0, Ext w w0 → Ext w0 w1 → R w0 v w1 → Dr P N ops Q f (L.setIfInBounds i true) ((dst, v) :: m) w1) : DrOp P N ops Q f L i m w := ⟨fun a w' ha hw => by
  unfold wpOp
  simp only [hi]
  rw [if_pos (hon.out a ha)]
  refine .inl ?_
  have e1 : xs.map a.eval = vs.toArray := map_evs ha hx
  have hr : (execOp a.eval ⟨some dst, .call { callee := .value (.func f'), args := xs, argTypes := ats }, ty, pos, after, g⟩).run P w' = .ok (.enter f' vs.toArray) w' := by
    rw [execOp_call_go, e1]
    simpa using hf.h vs.toArray w'
  unfold Oper.wp
  rw [hr]
  refine Calls.mono (hc w' hw) fun e w2 hg => ?_
  obtain ⟨v, rfl, he, hR⟩ := hg
  exact (h v w2 w' hw he hR).out _ _ (ha.put (Nat.le_of_ble_eq_true hd) v) (Ext.refl _)⟩
end
end Go.Proofs.Ytjpnaofoeeegeaa


/-
  Stride tables (layer 8): same, decode, Check.
  Conditions: the lists are not too long for a machine; the words are words of 64 bits.
-/
namespace Go.Proofs.Ytjpnaofoeeegeaa
open Go.RowKit

theorem ownS {α : Type} {w : World} {base n0 : Nat} {e : TypeId} {v : Value} {f : α → List Value} {L : List α} (h : Own w base e n0 v (L.map f)) : ∃ ao c, v = .slice ao L.length c ∧ Arr w n0 ao (L.map f) := by
  obtain ⟨ao, c, h1, h2⟩ := h.slice
  exact ⟨ao, c, by rw [h1, List.length_map], h2⟩
theorem sameS_v (a1 a2 a3 a4 : Option Addr) (N1 N2 : List Nd) (L1 L2 : List Int) (c1 c2 c3 c4 : Nat) (w : World) (h1 : Nds w a1 N1) (h2 : Nds w a2 N2) (h3 : Ins w a3 L1) (h4 : Ins w a4 L2) (hn : N1.length ≤ 4611686018427387904) (hl : L1.length ≤ 4611686018427387904) :
    Calls Try.prog 91 #[.agg #[.slice a1 N1.length c1, .slice a3 L1.length c3], .agg #[.slice a2 N2.length c2, .slice a4 L2.length c4]] w (Ret (.bool (decide (N1 = N2 ∧ L1 = L2))) w) := by
  refine V_enter (vs := [_, _]) Try.func91 rfl Try.ntmps91 (Nat.le_of_ble_eq_true rfl) ?_
  repeat (first | refine Vx ?_ | (apply Ops_q; (case hon => exact Va); (case hd => rfl); (case hq => exact YlA)) | refine Vr ?_ | refine Vt ?_ | refine Vf ?_ | refine Vm ?_ | refine Ve ?_ | refine Vo ?_ | refine Vz ?_ | refine Vn ?_)
  (refine Ops_box (by exact Va) rfl rfl rfl ?_; intro w1 b1 n_b1; have k_b1 := n_b1.blk)
  repeat (first | refine Vx ?_ | (apply Ops_q; (case hon => exact Va); (case hd => rfl); (case hq => exact YlA)) | refine Vr ?_ | refine Vt ?_ | refine Vf ?_ | refine Vm ?_ | refine Ve ?_ | refine Vo ?_ | refine Vz ?_ | refine Vn ?_)
  (refine Ops_box (by exact Va) rfl rfl rfl ?_; intro w2 b2 n_b2; have k_b2 := n_b2.blk)
  replace k_b1 := k_b1.ext n_b2.ext
  have x2 := n_b1.ext.trans n_b2.ext
  clear n_b1 n_b2
  repeat (first | refine Vx ?_ | (apply Ops_q; (case hon => exact Va); (case hd => rfl); (case hq => exact YlA)) | refine Vr ?_ | refine Vt ?_ | refine Vf ?_ | refine Vm ?_ | refine Ve ?_ | refine Vo ?_ | refine Vz ?_ | refine Vn ?_)
  (apply Ops_q; (case hon => (exact Va)); (case hd => rfl); (case hq => exact Yl_call rfl (fun w_ e_ => equalNodes_v a1 a2 N1 N2 c1 c2 w_ (h1.ext (x2.trans e_)) (h2.ext (x2.trans e_)) hn)))
  repeat (first | refine Vx ?_ | (apply Ops_q; (case hon => exact Va); (case hd => rfl); (case hq => exact YlA)) | refine Vr ?_ | refine Vt ?_ | refine Vf ?_ | refine Vm ?_ | refine Ve ?_ | refine Vo ?_ | refine Vz ?_ | refine Vn ?_)
  by_cases t1 : N1 = N2
  · rw [decide_eq_true t1]
    repeat (first | refine Vx ?_ | (apply Ops_q; (case hon => exact Va); (case hd => rfl); (case hq => exact YlA)) | refine Vr ?_ | refine Vt ?_ | refine Vf ?_ | refine Vm ?_ | refine Ve ?_ | refine Vo ?_ | refine Vz ?_ | refine Vn ?_)
    (apply Ops_q; (case hon => (exact Va)); (case hd => rfl); (case hq => exact Yl_call rfl (fun w_ e_ => equalInts_v a3 a4 L1 L2 c3 c4 w_ (h3.ext (x2.trans e_)) (h4.ext (x2.trans e_)) hl)))
    repeat (first | refine Vx ?_ | (apply Ops_q; (case hon => exact Va); (case hd => rfl); (case hq => exact YlA)) | refine Vr ?_ | refine Vt ?_ | refine Vf ?_ | refine Vm ?_ | refine Ve ?_ | refine Vo ?_ | refine Vz ?_ | refine Vn ?_)
    refine ret1 (by first | exact .inl rfl | exact .inr rfl) rfl rfl ?_
    exact Ret_mk (by simp [t1]) x2
  · rw [decide_eq_false t1]
    repeat (first | refine Vx ?_ | (apply Ops_q; (case hon => exact Va); (case hd => rfl); (case hq => exact YlA)) | refine Vr ?_ | refine Vt ?_ | refine Vf ?_ | refine Vm ?_ | refine Ve ?_ | refine Vo ?_ | refine Vz ?_ | refine Vn ?_)
    refine ret1 (by first | exact .inl rfl | exact .inr rfl) rfl rfl ?_
    exact Ret_mk (by simp [t1]) x2
/-- No value below -1. -/
def GeM (g : Nat → Int) : Prop := ∀ a, a < 4294967296 → -1 ≤ g a
theorem IsCf.ge {g : Nat → Int} {N : List Nd} {L : List Int} (h : IsCf g N L) (hR : Reg N L) : GeM g := fun a ha => by
  obtain ⟨c, _, h3⟩ := isCf_len h
  have := c.mem_all ha
  rw [← h3] at this
  exact hR.vals _ this
theorem IsCf.reg {g : Nat → Int} {N : List Nd} {L : List Int} (h : IsCf g N L) (hg : GeM g) : Reg N L := by
  obtain ⟨c, h2, h3⟩ := isCf_len h
  have := c.reg hg
  rw [← h2, ← h3] at this; exact this
theorem IsCf.ne {g : Nat → Int} {N : List Nd} {L : List Int} (h : IsCf g N L) : 0 < N.length := (isCf_len h).1.root
theorem IsCf.good {g : Nat → Int} {N : List Nd} {L : List Int} (h : IsCf g N L) : XpGood g N L 0 (0, 0) := by
  obtain ⟨c, h2, h3⟩ := isCf_len h
  exact ⟨c, h2, h3, rfl⟩
theorem cfSize {g : Nat → Int} {N : List Nd} {L : List Int} (h : IsCf g N L) : N.length ≤ 4611686018427387904 ∧ L.length ≤ 4611686018427387904 := by
  obtain ⟨c, h2, h3⟩ := isCf_len h
  have h4 := row_len_le (Nat.le_of_eq c.eq)
  rw [← c.eq, plW_zero] at h4
  have h5 := lv_le g N.length
  rw [← h3] at h5
  omega
/-- What decode returns. -/
def DecR (N : List Nd) (L : List Int) (w0 : World) (r : Value) (w' : World) : Prop :=
  ∃ (v : Value) (ok : Bool), r = .tuple #[v, .bool ok] ∧ (ok = true → ∃ (R : List Rn) (g : Nat → Int), Own w' w0.heap.size 94 2 v (R.map rnC) ∧ Canon g R 4294967296 ∧ IsCf g N L ∧ GeM g) ∧
    (ok = false → ∀ g, GeM g → ¬IsCf g N L)
set_option maxHeartbeats 2000000 in
theorem decode_v (aN aL : Option Addr) (N : List Nd) (L : List Int) (cN cL : Nat) (w : World) (hN : Nds w aN N) (hL : Ins w aL L) (hW : NdW N) (hn : N.length ≤ 80000000000) (hl : L.length ≤ 4611686018427387904) :
    Calls Try.prog 56 #[.agg #[.slice aN N.length cN, .slice aL L.length cL]] w (Gives (DecR N L w) w) := by
  refine V_enter (vs := [_]) Try.func56 rfl Try.ntmps56 (Nat.le_of_ble_eq_true rfl) ?_
  repeat (first | refine Vx ?_ | (apply Ops_q; (case hon => exact Va); (case hd => rfl); (case hq => exact YlA)) | refine Vr ?_ | refine Vt ?_ | refine Vf ?_ | refine Vm ?_ | refine Ve ?_ | refine Vo ?_ | refine Vz ?_ | refine Vn ?_)
  (refine Ops_box (by exact Va) rfl rfl rfl ?_; intro w1 b1 n_b1; have k_b1 := n_b1.blk)
  have x1 := n_b1.ext
  clear n_b1
  repeat (first | refine Vx ?_ | (apply Ops_q; (case hon => exact Va); (case hd => rfl); (case hq => exact YlA)) | refine Vr ?_ | refine Vt ?_ | refine Vf ?_ | refine Vm ?_ | refine Ve ?_ | refine Vo ?_ | refine Vz ?_ | refine Vn ?_)
  by_cases h0 : N.length = 0
  · have d0 : decide ((N.length : Int) = 0) = true := decide_eq_true (by omega)
    refine Ops_know rfl rfl d0 ?_
    repeat (first | refine Vx ?_ | (apply Ops_q; (case hon => exact Va); (case hd => rfl); (case hq => exact YlA)) | refine Vr ?_ | refine Vt ?_ | refine Vf ?_ | refine Vm ?_ | refine Ve ?_ | refine Vo ?_ | refine Vz ?_ | refine Vn ?_)
    refine ret2 (by first | exact .inl rfl | exact .inr rfl) rfl rfl rfl ?_
    exact Gives_mk (fun _ _ => ⟨_, false, rfl, (fun h => nomatch h), fun _ g _ hc => by have := hc.ne; omega⟩) x1
  have d0 : decide ((N.length : Int) = 0) = false := decide_eq_false (by omega)
  have hn0 : 0 < N.length := by omega
  clear h0
  refine Ops_know rfl rfl d0 ?_
  repeat (first | refine Vx ?_ | (apply Ops_q; (case hon => exact Va); (case hd => rfl); (case hq => exact YlA)) | refine Vr ?_ | refine Vt ?_ | refine Vf ?_ | refine Vm ?_ | refine Ve ?_ | refine Vo ?_ | refine Vz ?_ | refine Vn ?_)
  (refine Ops_callR (by exact Va) rfl rfl (fun w_ e_ => regular_v aN aL N L cN cL w_ (hN.ext (x1.trans e_)) (hL.ext (x1.trans e_)) hW hn hl) ?_; intro vr w2 w0_ e0_ e1_ r_vr; have e_w2 := e0_.trans e1_; have b_vr := e0_.size; clear e0_ e1_)
  obtain ⟨br, rfl, hbr⟩ := r_vr
  have x2 := x1.trans e_w2
  replace k_b1 := k_b1.ext e_w2
  clear b_vr e_w2
  cases br with
  | false =>
    repeat (first | refine Vx ?_ | (apply Ops_q; (case hon => exact Va); (case hd => rfl); (case hq => exact YlA)) | refine Vr ?_ | refine Vt ?_ | refine Vf ?_ | refine Vm ?_ | refine Ve ?_ | refine Vo ?_ | refine Vz ?_ | refine Vn ?_)
    refine ret2 (by first | exact .inl rfl | exact .inr rfl) rfl rfl rfl ?_
    exact Gives_mk (fun _ _ => ⟨_, false, rfl, (fun h => nomatch h), fun _ g hg hc => by have := hbr.2 (hc.reg hg); cases this⟩) x2
  | true =>
    have hReg := hbr.1 rfl
    clear hbr
    repeat (first | refine Vx ?_ | (apply Ops_q; (case hon => exact Va); (case hd => rfl); (case hq => exact YlA)) | refine Vr ?_ | refine Vt ?_ | refine Vf ?_ | refine Vm ?_ | refine Ve ?_ | refine Vo ?_ | refine Vz ?_ | refine Vn ?_)
    refine Ops_callM (S := fun c => (Value.slice none 0 0).ownBlock = some c) (R := fun w0' => XpR w2.heap.size N L (fun _ => 0) (.slice none 0 0) 0 0 0 w0') (by exact Va) rfl rfl (fun w_ e_ => expand_v aN aL N L cN cL w2.heap.size hReg hW hn hl 6 0 rfl 0 0 (.slice none 0 0) [] (fun _ => 0) w_ (TabM.mod (TabM.of (hN.ext x2) (hL.ext x2) (Nat.le_refl _)) (Mod.of_ext (S := fun _ => False) e_) (fun _ h => h.elim)) hn0 (fun _ => by decide) Own.nil e_.size (Canon.zero _) (by decide)) ?_
    intro vr w3 w0_ e0 m3 hR
    obtain ⟨v', ok, rfl, hok1, hok0⟩ := hR
    have e3 : Ext w2 w3 := Mod.ext_of e0 m3 (fun c hc => nomatch hc)
    have x3 := x2.trans e3
    replace k_b1 := k_b1.ext e3
    clear e0 m3
    cases ok with
    | false =>
      obtain ⟨rfl, hno⟩ := hok0 rfl
      repeat (first | refine Vx ?_ | (apply Ops_q; (case hon => exact Va); (case hd => rfl); (case hq => exact YlA)) | refine Vr ?_ | refine Vt ?_ | refine Vf ?_ | refine Vm ?_ | refine Ve ?_ | refine Vo ?_ | refine Vz ?_ | refine Vn ?_)
      refine ret2 (by first | exact .inl rfl | exact .inr rfl) rfl rfl rfl ?_
      exact Gives_mk (fun _ _ => ⟨_, false, rfl, (fun h => nomatch h), fun _ g _ hc => hno g hc.good⟩) x3
    | true =>
      obtain ⟨R, g, o', hC, _, hG, _⟩ := hok1 rfl
      have hC' : Canon g R 4294967296 := hC
      have hRl := hC'.len
      obtain ⟨aR, cR, rfl, hAR⟩ := o'.slice
      rw [List.length_map] at o' ⊢
      have o3 : Own w3 w.heap.size 94 2 (.slice aR R.length cR) (R.map rnC) := o'.mono x2.size
      have hAR' : Rns w3 aR R := hAR
      have hcomp := fun (w_ : World) (e_ : Ext w3 w_) => compress_v g aR R cR w_ (hAR'.ext e_) hC'
      clear o' hAR hok1 hok0
      have hfin : ∀ (w4 : World) (N' : List Nd) (L' : List Int), Ext w3 w4 → IsCf g N' L' → ∀ w5, Ext w4 w5 → Gives (DecR N L w) w (.returned (.tuple #[.slice aR R.length cR, .bool (decide (N' = N ∧ L' = L))])) w5 := fun w4 N' L' e4 hc' w5 e5 => by
        refine ⟨_, rfl, x3.trans (e4.trans e5), _, _, rfl, fun hd => ?_, fun hd g2 hg2 hc2 => ?_⟩
        · obtain ⟨rfl, rfl⟩ := of_decide_eq_true hd
          exact ⟨R, g, o3.ext (e4.trans e5), hC', hc', hc'.ge hReg⟩
        · refine of_decide_eq_false hd ?_
          have hsame : ∀ a, a < 4294967296 → g2 a = g a := fun a ha => (hG g2 hc2.good a (Nat.zero_le _) (by rw [nsz_zero]; omega)).symm
          exact isCf_unique hc' (isCf_congr hsame hc2)
      have hsm := fun (a1 a3 : Option Addr) (N' : List Nd) (L' : List Int) (c1 c3 : Nat) (w4 : World) (e4 : Ext w3 w4) (h1 : Nds w4 a1 N') (h3 : Ins w4 a3 L') (q1 : N'.length ≤ 4611686018427387904) (q2 : L'.length ≤ 4611686018427387904) (w_ : World) (e_ : Ext w4 w_) =>
        sameS_v a1 aN a3 aL N' N L' L c1 cN c3 cL w_ (h1.ext e_) (hN.ext (x3.trans (e4.trans e_))) (h3.ext e_) (hL.ext (x3.trans (e4.trans e_))) q1 q2
      repeat (first | refine Vx ?_ | (apply Ops_q; (case hon => exact Va); (case hd => rfl); (case hq => exact YlA)) | refine Vt ?_ | refine Vf ?_ | refine Vm ?_ | refine Ve ?_ | refine Vo ?_ | refine Vz ?_ | refine Vn ?_)
      refine V_dr (by kernel_rfl) ?_
      refine Dr_step [0, 1] (by kernel_rfl) rfl ⟨?_, ?_, trivial⟩
      · (apply DrOp_q; (case hi => rfl); (case hon => exact Va); (case hd => rfl); (case hq => exact YlA))
        refine Dr_step [1] (by kernel_rfl) rfl ⟨?_, trivial⟩
        (apply DrOp_q; (case hi => rfl); (case hon => exact Va); (case hd => rfl); (case hq => exact YlA))
        refine Dr_step [2] (by kernel_rfl) rfl ⟨?_, trivial⟩
        (apply DrOp_q; (case hi => rfl); (case hon => exact Va); (case hd => rfl); (case hq => exact YlA))
        refine Dr_step [3, 5] (by kernel_rfl) rfl ⟨?_, ?_, trivial⟩
        · (apply DrOp_q; (case hi => rfl); (case hon => exact Va); (case hd => rfl); (case hq => exact YlA))
          refine Dr_step [4, 5] (by kernel_rfl) rfl ⟨?_, ?_, trivial⟩
          · refine DrOp_callR (R := fun w0' => CfR g w0') rfl Va rfl rfl (fun w_ e_ => hcomp w_ e_) ?_
            intro vc w4 w0c e0c e1c hRc
            obtain ⟨vN, vL, N', L', rfl, hcf, oN, oL⟩ := hRc
            have e4 := e0c.trans e1c
            have k_b1 := k_b1.ext e4
            obtain ⟨q1, q2⟩ := cfSize hcf
            obtain ⟨a1, c1, rfl, hA1⟩ := ownS oN
            obtain ⟨a3, c3, rfl, hA3⟩ := ownS oL
            refine Dr_step [5] (by kernel_rfl) rfl ⟨?_, trivial⟩
            (apply DrOp_q; (case hi => rfl); (case hon => exact Va); (case hd => rfl); (case hq => exact YlA))
            refine Dr_step [6] (by kernel_rfl) rfl ⟨?_, trivial⟩
            (apply DrOp_q; (case hi => rfl); (case hon => exact Va); (case hd => rfl); (case hq => exact Yl_call rfl (hsm a1 a3 N' L' c1 c3 w4 e4 hA1 hA3 q1 q2)))
            refine Dr_step [7, 8] (by kernel_rfl) rfl ⟨?_, ?_, trivial⟩
            · (apply DrOp_q; (case hi => rfl); (case hon => exact Va); (case hd => rfl); (case hq => exact YlA))
              refine Dr_step [8] (by kernel_rfl) rfl ⟨?_, trivial⟩
              (apply DrOp_q; (case hi => rfl); (case hon => exact Va); (case hd => rfl); (case hq => exact YlA))
              refine Dr_step [9] (by kernel_rfl) rfl ⟨?_, trivial⟩
              (apply DrOp_q; (case hi => rfl); (case hon => exact Va); (case hd => rfl); (case hq => exact YlA))
              refine Dr_end (by kernel_rfl) ?_
              repeat (first | refine Vx ?_ | (apply Ops_q; (case hon => exact Va); (case hd => rfl); (case hq => exact YlA)) | refine Vr ?_ | refine Vt ?_ | refine Vf ?_ | refine Vm ?_ | refine Ve ?_ | refine Vo ?_ | refine Vz ?_ | refine Vn ?_)
              refine ret2 (by first | exact .inl rfl | exact .inr rfl) rfl rfl rfl ?_
              exact hfin w4 N' L' e4 hcf
            · (apply DrOp_q; (case hi => rfl); (case hon => exact Va); (case hd => rfl); (case hq => exact YlA))
              refine Dr_step [7] (by kernel_rfl) rfl ⟨?_, trivial⟩
              (apply DrOp_q; (case hi => rfl); (case hon => exact Va); (case hd => rfl); (case hq => exact YlA))
              refine Dr_step [9] (by kernel_rfl) rfl ⟨?_, trivial⟩
              (apply DrOp_q; (case hi => rfl); (case hon => exact Va); (case hd => rfl); (case hq => exact YlA))
              refine Dr_end (by kernel_rfl) ?_
              repeat (first | refine Vx ?_ | (apply Ops_q; (case hon => exact Va); (case hd => rfl); (case hq => exact YlA)) | refine Vr ?_ | refine Vt ?_ | refine Vf ?_ | refine Vm ?_ | refine Ve ?_ | refine Vo ?_ | refine Vz ?_ | refine Vn ?_)
              refine ret2 (by first | exact .inl rfl | exact .inr rfl) rfl rfl rfl ?_
              exact hfin w4 N' L' e4 hcf
          · (apply DrOp_q; (case hi => rfl); (case hon => exact Va); (case hd => rfl); (case hq => exact YlA))
            refine Dr_step [4] (by kernel_rfl) rfl ⟨?_, trivial⟩
            refine DrOp_callR (R := fun w0' => CfR g w0') rfl Va rfl rfl (fun w_ e_ => hcomp w_ e_) ?_
            intro vc w4 w0c e0c e1c hRc
            obtain ⟨vN, vL, N', L', rfl, hcf, oN, oL⟩ := hRc
            have e4 := e0c.trans e1c
            have k_b1 := k_b1.ext e4
            obtain ⟨q1, q2⟩ := cfSize hcf
            obtain ⟨a1, c1, rfl, hA1⟩ := ownS oN
            obtain ⟨a3, c3, rfl, hA3⟩ := ownS oL
            refine Dr_step [6] (by kernel_rfl) rfl ⟨?_, trivial⟩
            (apply DrOp_q; (case hi => rfl); (case hon => exact Va); (case hd => rfl); (case hq => exact Yl_call rfl (hsm a1 a3 N' L' c1 c3 w4 e4 hA1 hA3 q1 q2)))
            refine Dr_step [7, 8] (by kernel_rfl) rfl ⟨?_, ?_, trivial⟩
            · (apply DrOp_q; (case hi => rfl); (case hon => exact Va); (case hd => rfl); (case hq => exact YlA))
              refine Dr_step [8] (by kernel_rfl) rfl ⟨?_, trivial⟩
              (apply DrOp_q; (case hi => rfl); (case hon => exact Va); (case hd => rfl); (case hq => exact YlA))
              refine Dr_step [9] (by kernel_rfl) rfl ⟨?_, trivial⟩
              (apply DrOp_q; (case hi => rfl); (case hon => exact Va); (case hd => rfl); (case hq => exact YlA))
              refine Dr_end (by kernel_rfl) ?_
              repeat (first | refine Vx ?_ | (apply Ops_q; (case hon => exact Va); (case hd => rfl); (case hq => exact YlA)) | refine Vr ?_ | refine Vt ?_ | refine Vf ?_ | refine Vm ?_ | refine Ve ?_ | refine Vo ?_ | refine Vz ?_ | refine Vn ?_)
              refine ret2 (by first | exact .inl rfl | exact .inr rfl) rfl rfl rfl ?_
              exact hfin w4 N' L' e4 hcf
            · (apply DrOp_q; (case hi => rfl); (case hon => exact Va); (case hd => rfl); (case hq => exact YlA))
              refine Dr_step [7] (by kernel_rfl) rfl ⟨?_, trivial⟩
              (apply DrOp_q; (case hi => rfl); (case hon => exact Va); (case hd => rfl); (case hq => exact YlA))
              refine Dr_step [9] (by kernel_rfl) rfl ⟨?_, trivial⟩
              (apply DrOp_q; (case hi => rfl); (case hon => exact Va); (case hd => rfl); (case hq => exact YlA))
              refine Dr_end (by kernel_rfl) ?_
              repeat (first | refine Vx ?_ | (apply Ops_q; (case hon => exact Va); (case hd => rfl); (case hq => exact YlA)) | refine Vr ?_ | refine Vt ?_ | refine Vf ?_ | refine Vm ?_ | refine Ve ?_ | refine Vo ?_ | refine Vz ?_ | refine Vn ?_)
              refine ret2 (by first | exact .inl rfl | exact .inr rfl) rfl rfl rfl ?_
              exact hfin w4 N' L' e4 hcf
        · (apply DrOp_q; (case hi => rfl); (case hon => exact Va); (case hd => rfl); (case hq => exact YlA))
          refine Dr_step [3] (by kernel_rfl) rfl ⟨?_, trivial⟩
          (apply DrOp_q; (case hi => rfl); (case hon => exact Va); (case hd => rfl); (case hq => exact YlA))
          refine Dr_step [4] (by kernel_rfl) rfl ⟨?_, trivial⟩
          refine DrOp_callR (R := fun w0' => CfR g w0') rfl Va rfl rfl (fun w_ e_ => hcomp w_ e_) ?_
          intro vc w4 w0c e0c e1c hRc
          obtain ⟨vN, vL, N', L', rfl, hcf, oN, oL⟩ := hRc
          have e4 := e0c.trans e1c
          have k_b1 := k_b1.ext e4
          obtain ⟨q1, q2⟩ := cfSize hcf
          obtain ⟨a1, c1, rfl, hA1⟩ := ownS oN
          obtain ⟨a3, c3, rfl, hA3⟩ := ownS oL
          refine Dr_step [6] (by kernel_rfl) rfl ⟨?_, trivial⟩
          (apply DrOp_q; (case hi => rfl); (case hon => exact Va); (case hd => rfl); (case hq => exact Yl_call rfl (hsm a1 a3 N' L' c1 c3 w4 e4 hA1 hA3 q1 q2)))
          refine Dr_step [7, 8] (by kernel_rfl) rfl ⟨?_, ?_, trivial⟩
          · (apply DrOp_q; (case hi => rfl); (case hon => exact Va); (case hd => rfl); (case hq => exact YlA))
            refine Dr_step [8] (by kernel_rfl) rfl ⟨?_, trivial⟩
            (apply DrOp_q; (case hi => rfl); (case hon => exact Va); (case hd => rfl); (case hq => exact YlA))
            refine Dr_step [9] (by kernel_rfl) rfl ⟨?_, trivial⟩
            (apply DrOp_q; (case hi => rfl); (case hon => exact Va); (case hd => rfl); (case hq => exact YlA))
            refine Dr_end (by kernel_rfl) ?_
            repeat (first | refine Vx ?_ | (apply Ops_q; (case hon => exact Va); (case hd => rfl); (case hq => exact YlA)) | refine Vr ?_ | refine Vt ?_ | refine Vf ?_ | refine Vm ?_ | refine Ve ?_ | refine Vo ?_ | refine Vz ?_ | refine Vn ?_)
            refine ret2 (by first | exact .inl rfl | exact .inr rfl) rfl rfl rfl ?_
            exact hfin w4 N' L' e4 hcf
          · (apply DrOp_q; (case hi => rfl); (case hon => exact Va); (case hd => rfl); (case hq => exact YlA))
            refine Dr_step [7] (by kernel_rfl) rfl ⟨?_, trivial⟩
            (apply DrOp_q; (case hi => rfl); (case hon => exact Va); (case hd => rfl); (case hq => exact YlA))
            refine Dr_step [9] (by kernel_rfl) rfl ⟨?_, trivial⟩
            (apply DrOp_q; (case hi => rfl); (case hon => exact Va); (case hd => rfl); (case hq => exact YlA))
            refine Dr_end (by kernel_rfl) ?_
            repeat (first | refine Vx ?_ | (apply Ops_q; (case hon => exact Va); (case hd => rfl); (case hq => exact YlA)) | refine Vr ?_ | refine Vt ?_ | refine Vf ?_ | refine Vm ?_ | refine Ve ?_ | refine Vo ?_ | refine Vz ?_ | refine Vn ?_)
            refine ret2 (by first | exact .inl rfl | exact .inr rfl) rfl rfl rfl ?_
            exact hfin w4 N' L' e4 hcf
      · (apply DrOp_q; (case hi => rfl); (case hon => exact Va); (case hd => rfl); (case hq => exact YlA))
        refine Dr_step [0, 2] (by kernel_rfl) rfl ⟨?_, ?_, trivial⟩
        · (apply DrOp_q; (case hi => rfl); (case hon => exact Va); (case hd => rfl); (case hq => exact YlA))
          refine Dr_step [2] (by kernel_rfl) rfl ⟨?_, trivial⟩
          (apply DrOp_q; (case hi => rfl); (case hon => exact Va); (case hd => rfl); (case hq => exact YlA))
          refine Dr_step [3, 5] (by kernel_rfl) rfl ⟨?_, ?_, trivial⟩
          · (apply DrOp_q; (case hi => rfl); (case hon => exact Va); (case hd => rfl); (case hq => exact YlA))
            refine Dr_step [4, 5] (by kernel_rfl) rfl ⟨?_, ?_, trivial⟩
            · refine DrOp_callR (R := fun w0' => CfR g w0') rfl Va rfl rfl (fun w_ e_ => hcomp w_ e_) ?_
              intro vc w4 w0c e0c e1c hRc
              obtain ⟨vN, vL, N', L', rfl, hcf, oN, oL⟩ := hRc
              have e4 := e0c.trans e1c
              have k_b1 := k_b1.ext e4
              obtain ⟨q1, q2⟩ := cfSize hcf
              obtain ⟨a1, c1, rfl, hA1⟩ := ownS oN
              obtain ⟨a3, c3, rfl, hA3⟩ := ownS oL
              refine Dr_step [5] (by kernel_rfl) rfl ⟨?_, trivial⟩
              (apply DrOp_q; (case hi => rfl); (case hon => exact Va); (case hd => rfl); (case hq => exact YlA))
              refine Dr_step [6] (by kernel_rfl) rfl ⟨?_, trivial⟩
              (apply DrOp_q; (case hi => rfl); (case hon => exact Va); (case hd => rfl); (case hq => exact Yl_call rfl (hsm a1 a3 N' L' c1 c3 w4 e4 hA1 hA3 q1 q2)))
              refine Dr_step [7, 8] (by kernel_rfl) rfl ⟨?_, ?_, trivial⟩
              · (apply DrOp_q; (case hi => rfl); (case hon => exact Va); (case hd => rfl); (case hq => exact YlA))
                refine Dr_step [8] (by kernel_rfl) rfl ⟨?_, trivial⟩
                (apply DrOp_q; (case hi => rfl); (case hon => exact Va); (case hd => rfl); (case hq => exact YlA))
                refine Dr_step [9] (by kernel_rfl) rfl ⟨?_, trivial⟩
                (apply DrOp_q; (case hi => rfl); (case hon => exact Va); (case hd => rfl); (case hq => exact YlA))
                refine Dr_end (by kernel_rfl) ?_
                repeat (first | refine Vx ?_ | (apply Ops_q; (case hon => exact Va); (case hd => rfl); (case hq => exact YlA)) | refine Vr ?_ | refine Vt ?_ | refine Vf ?_ | refine Vm ?_ | refine Ve ?_ | refine Vo ?_ | refine Vz ?_ | refine Vn ?_)
                refine ret2 (by first | exact .inl rfl | exact .inr rfl) rfl rfl rfl ?_
                exact hfin w4 N' L' e4 hcf
              · (apply DrOp_q; (case hi => rfl); (case hon => exact Va); (case hd => rfl); (case hq => exact YlA))
                refine Dr_step [7] (by kernel_rfl) rfl ⟨?_, trivial⟩
                (apply DrOp_q; (case hi => rfl); (case hon => exact Va); (case hd => rfl); (case hq => exact YlA))
                refine Dr_step [9] (by kernel_rfl) rfl ⟨?_, trivial⟩
                (apply DrOp_q; (case hi => rfl); (case hon => exact Va); (case hd => rfl); (case hq => exact YlA))
                refine Dr_end (by kernel_rfl) ?_
                repeat (first | refine Vx ?_ | (apply Ops_q; (case hon => exact Va); (case hd => rfl); (case hq => exact YlA)) | refine Vr ?_ | refine Vt ?_ | refine Vf ?_ | refine Vm ?_ | refine Ve ?_ | refine Vo ?_ | refine Vz ?_ | refine Vn ?_)
                refine ret2 (by first | exact .inl rfl | exact .inr rfl) rfl rfl rfl ?_
                exact hfin w4 N' L' e4 hcf
            · (apply DrOp_q; (case hi => rfl); (case hon => exact Va); (case hd => rfl); (case hq => exact YlA))
              refine Dr_step [4] (by kernel_rfl) rfl ⟨?_, trivial⟩
              refine DrOp_callR (R := fun w0' => CfR g w0') rfl Va rfl rfl (fun w_ e_ => hcomp w_ e_) ?_
              intro vc w4 w0c e0c e1c hRc
              obtain ⟨vN, vL, N', L', rfl, hcf, oN, oL⟩ := hRc
              have e4 := e0c.trans e1c
              have k_b1 := k_b1.ext e4
              obtain ⟨q1, q2⟩ := cfSize hcf
              obtain ⟨a1, c1, rfl, hA1⟩ := ownS oN
              obtain ⟨a3, c3, rfl, hA3⟩ := ownS oL
              refine Dr_step [6] (by kernel_rfl) rfl ⟨?_, trivial⟩
              (apply DrOp_q; (case hi => rfl); (case hon => exact Va); (case hd => rfl); (case hq => exact Yl_call rfl (hsm a1 a3 N' L' c1 c3 w4 e4 hA1 hA3 q1 q2)))
              refine Dr_step [7, 8] (by kernel_rfl) rfl ⟨?_, ?_, trivial⟩
              · (apply DrOp_q; (case hi => rfl); (case hon => exact Va); (case hd => rfl); (case hq => exact YlA))
                refine Dr_step [8] (by kernel_rfl) rfl ⟨?_, trivial⟩
                (apply DrOp_q; (case hi => rfl); (case hon => exact Va); (case hd => rfl); (case hq => exact YlA))
                refine Dr_step [9] (by kernel_rfl) rfl ⟨?_, trivial⟩
                (apply DrOp_q; (case hi => rfl); (case hon => exact Va); (case hd => rfl); (case hq => exact YlA))
                refine Dr_end (by kernel_rfl) ?_
                repeat (first | refine Vx ?_ | (apply Ops_q; (case hon => exact Va); (case hd => rfl); (case hq => exact YlA)) | refine Vr ?_ | refine Vt ?_ | refine Vf ?_ | refine Vm ?_ | refine Ve ?_ | refine Vo ?_ | refine Vz ?_ | refine Vn ?_)
                refine ret2 (by first | exact .inl rfl | exact .inr rfl) rfl rfl rfl ?_
                exact hfin w4 N' L' e4 hcf
              · (apply DrOp_q; (case hi => rfl); (case hon => exact Va); (case hd => rfl); (case hq => exact YlA))
                refine Dr_step [7] (by kernel_rfl) rfl ⟨?_, trivial⟩
                (apply DrOp_q; (case hi => rfl); (case hon => exact Va); (case hd => rfl); (case hq => exact YlA))
                refine Dr_step [9] (by kernel_rfl) rfl ⟨?_, trivial⟩
                (apply DrOp_q; (case hi => rfl); (case hon => exact Va); (case hd => rfl); (case hq => exact YlA))
                refine Dr_end (by kernel_rfl) ?_
                repeat (first | refine Vx ?_ | (apply Ops_q; (case hon => exact Va); (case hd => rfl); (case hq => exact YlA)) | refine Vr ?_ | refine Vt ?_ | refine Vf ?_ | refine Vm ?_ | refine Ve ?_ | refine Vo ?_ | refine Vz ?_ | refine Vn ?_)
                refine ret2 (by first | exact .inl rfl | exact .inr rfl) rfl rfl rfl ?_
                exact hfin w4 N' L' e4 hcf
          · (apply DrOp_q; (case hi => rfl); (case hon => exact Va); (case hd => rfl); (case hq => exact YlA))
            refine Dr_step [3] (by kernel_rfl) rfl ⟨?_, trivial⟩
            (apply DrOp_q; (case hi => rfl); (case hon => exact Va); (case hd => rfl); (case hq => exact YlA))
            refine Dr_step [4] (by kernel_rfl) rfl ⟨?_, trivial⟩
            refine DrOp_callR (R := fun w0' => CfR g w0') rfl Va rfl rfl (fun w_ e_ => hcomp w_ e_) ?_
            intro vc w4 w0c e0c e1c hRc
            obtain ⟨vN, vL, N', L', rfl, hcf, oN, oL⟩ := hRc
            have e4 := e0c.trans e1c
            have k_b1 := k_b1.ext e4
            obtain ⟨q1, q2⟩ := cfSize hcf
            obtain ⟨a1, c1, rfl, hA1⟩ := ownS oN
            obtain ⟨a3, c3, rfl, hA3⟩ := ownS oL
            refine Dr_step [6] (by kernel_rfl) rfl ⟨?_, trivial⟩
            (apply DrOp_q; (case hi => rfl); (case hon => exact Va); (case hd => rfl); (case hq => exact Yl_call rfl (hsm a1 a3 N' L' c1 c3 w4 e4 hA1 hA3 q1 q2)))
            refine Dr_step [7, 8] (by kernel_rfl) rfl ⟨?_, ?_, trivial⟩
            · (apply DrOp_q; (case hi => rfl); (case hon => exact Va); (case hd => rfl); (case hq => exact YlA))
              refine Dr_step [8] (by kernel_rfl) rfl ⟨?_, trivial⟩
              (apply DrOp_q; (case hi => rfl); (case hon => exact Va); (case hd => rfl); (case hq => exact YlA))
              refine Dr_step [9] (by kernel_rfl) rfl ⟨?_, trivial⟩
              (apply DrOp_q; (case hi => rfl); (case hon => exact Va); (case hd => rfl); (case hq => exact YlA))
              refine Dr_end (by kernel_rfl) ?_
              repeat (first | refine Vx ?_ | (apply Ops_q; (case hon => exact Va); (case hd => rfl); (case hq => exact YlA)) | refine Vr ?_ | refine Vt ?_ | refine Vf ?_ | refine Vm ?_ | refine Ve ?_ | refine Vo ?_ | refine Vz ?_ | refine Vn ?_)
              refine ret2 (by first | exact .inl rfl | exact .inr rfl) rfl rfl rfl ?_
              exact hfin w4 N' L' e4 hcf
            · (apply DrOp_q; (case hi => rfl); (case hon => exact Va); (case hd => rfl); (case hq => exact YlA))
              refine Dr_step [7] (by kernel_rfl) rfl ⟨?_, trivial⟩
              (apply DrOp_q; (case hi => rfl); (case hon => exact Va); (case hd => rfl); (case hq => exact YlA))
              refine Dr_step [9] (by kernel_rfl) rfl ⟨?_, trivial⟩
              (apply DrOp_q; (case hi => rfl); (case hon => exact Va); (case hd => rfl); (case hq => exact YlA))
              refine Dr_end (by kernel_rfl) ?_
              repeat (first | refine Vx ?_ | (apply Ops_q; (case hon => exact Va); (case hd => rfl); (case hq => exact YlA)) | refine Vr ?_ | refine Vt ?_ | refine Vf ?_ | refine Vm ?_ | refine Ve ?_ | refine Vo ?_ | refine Vz ?_ | refine Vn ?_)
              refine ret2 (by first | exact .inl rfl | exact .inr rfl) rfl rfl rfl ?_
              exact hfin w4 N' L' e4 hcf
        · (apply DrOp_q; (case hi => rfl); (case hon => exact Va); (case hd => rfl); (case hq => exact YlA))
          refine Dr_step [0, 3, 5] (by kernel_rfl) rfl ⟨?_, ?_, ?_, trivial⟩
          · (apply DrOp_q; (case hi => rfl); (case hon => exact Va); (case hd => rfl); (case hq => exact YlA))
            refine Dr_step [3, 5] (by kernel_rfl) rfl ⟨?_, ?_, trivial⟩
            · (apply DrOp_q; (case hi => rfl); (case hon => exact Va); (case hd => rfl); (case hq => exact YlA))
              refine Dr_step [4, 5] (by kernel_rfl) rfl ⟨?_, ?_, trivial⟩
              · refine DrOp_callR (R := fun w0' => CfR g w0') rfl Va rfl rfl (fun w_ e_ => hcomp w_ e_) ?_
                intro vc w4 w0c e0c e1c hRc
                obtain ⟨vN, vL, N', L', rfl, hcf, oN, oL⟩ := hRc
                have e4 := e0c.trans e1c
                have k_b1 := k_b1.ext e4
                obtain ⟨q1, q2⟩ := cfSize hcf
                obtain ⟨a1, c1, rfl, hA1⟩ := ownS oN
                obtain ⟨a3, c3, rfl, hA3⟩ := ownS oL
                refine Dr_step [5] (by kernel_rfl) rfl ⟨?_, trivial⟩
                (apply DrOp_q; (case hi => rfl); (case hon => exact Va); (case hd => rfl); (case hq => exact YlA))
                refine Dr_step [6] (by kernel_rfl) rfl ⟨?_, trivial⟩
                (apply DrOp_q; (case hi => rfl); (case hon => exact Va); (case hd => rfl); (case hq => exact Yl_call rfl (hsm a1 a3 N' L' c1 c3 w4 e4 hA1 hA3 q1 q2)))
                refine Dr_step [7, 8] (by kernel_rfl) rfl ⟨?_, ?_, trivial⟩
                · (apply DrOp_q; (case hi => rfl); (case hon => exact Va); (case hd => rfl); (case hq => exact YlA))
                  refine Dr_step [8] (by kernel_rfl) rfl ⟨?_, trivial⟩
                  (apply DrOp_q; (case hi => rfl); (case hon => exact Va); (case hd => rfl); (case hq => exact YlA))
                  refine Dr_step [9] (by kernel_rfl) rfl ⟨?_, trivial⟩
                  (apply DrOp_q; (case hi => rfl); (case hon => exact Va); (case hd => rfl); (case hq => exact YlA))
                  refine Dr_end (by kernel_rfl) ?_
                  repeat (first | refine Vx ?_ | (apply Ops_q; (case hon => exact Va); (case hd => rfl); (case hq => exact YlA)) | refine Vr ?_ | refine Vt ?_ | refine Vf ?_ | refine Vm ?_ | refine Ve ?_ | refine Vo ?_ | refine Vz ?_ | refine Vn ?_)
                  refine ret2 (by first | exact .inl rfl | exact .inr rfl) rfl rfl rfl ?_
                  exact hfin w4 N' L' e4 hcf
                · (apply DrOp_q; (case hi => rfl); (case hon => exact Va); (case hd => rfl); (case hq => exact YlA))
                  refine Dr_step [7] (by kernel_rfl) rfl ⟨?_, trivial⟩
                  (apply DrOp_q; (case hi => rfl); (case hon => exact Va); (case hd => rfl); (case hq => exact YlA))
                  refine Dr_step [9] (by kernel_rfl) rfl ⟨?_, trivial⟩
                  (apply DrOp_q; (case hi => rfl); (case hon => exact Va); (case hd => rfl); (case hq => exact YlA))
                  refine Dr_end (by kernel_rfl) ?_
                  repeat (first | refine Vx ?_ | (apply Ops_q; (case hon => exact Va); (case hd => rfl); (case hq => exact YlA)) | refine Vr ?_ | refine Vt ?_ | refine Vf ?_ | refine Vm ?_ | refine Ve ?_ | refine Vo ?_ | refine Vz ?_ | refine Vn ?_)
                  refine ret2 (by first | exact .inl rfl | exact .inr rfl) rfl rfl rfl ?_
                  exact hfin w4 N' L' e4 hcf
              · (apply DrOp_q; (case hi => rfl); (case hon => exact Va); (case hd => rfl); (case hq => exact YlA))
                refine Dr_step [4] (by kernel_rfl) rfl ⟨?_, trivial⟩
                refine DrOp_callR (R := fun w0' => CfR g w0') rfl Va rfl rfl (fun w_ e_ => hcomp w_ e_) ?_
                intro vc w4 w0c e0c e1c hRc
                obtain ⟨vN, vL, N', L', rfl, hcf, oN, oL⟩ := hRc
                have e4 := e0c.trans e1c
                have k_b1 := k_b1.ext e4
                obtain ⟨q1, q2⟩ := cfSize hcf
                obtain ⟨a1, c1, rfl, hA1⟩ := ownS oN
                obtain ⟨a3, c3, rfl, hA3⟩ := ownS oL
                refine Dr_step [6] (by kernel_rfl) rfl ⟨?_, trivial⟩
                (apply DrOp_q; (case hi => rfl); (case hon => exact Va); (case hd => rfl); (case hq => exact Yl_call rfl (hsm a1 a3 N' L' c1 c3 w4 e4 hA1 hA3 q1 q2)))
                refine Dr_step [7, 8] (by kernel_rfl) rfl ⟨?_, ?_, trivial⟩
                · (apply DrOp_q; (case hi => rfl); (case hon => exact Va); (case hd => rfl); (case hq => exact YlA))
                  refine Dr_step [8] (by kernel_rfl) rfl ⟨?_, trivial⟩
                  (apply DrOp_q; (case hi => rfl); (case hon => exact Va); (case hd => rfl); (case hq => exact YlA))
                  refine Dr_step [9] (by kernel_rfl) rfl ⟨?_, trivial⟩
                  (apply DrOp_q; (case hi => rfl); (case hon => exact Va); (case hd => rfl); (case hq => exact YlA))
                  refine Dr_end (by kernel_rfl) ?_
                  repeat (first | refine Vx ?_ | (apply Ops_q; (case hon => exact Va); (case hd => rfl); (case hq => exact YlA)) | refine Vr ?_ | refine Vt ?_ | refine Vf ?_ | refine Vm ?_ | refine Ve ?_ | refine Vo ?_ | refine Vz ?_ | refine Vn ?_)
                  refine ret2 (by first | exact .inl rfl | exact .inr rfl) rfl rfl rfl ?_
                  exact hfin w4 N' L' e4 hcf
                · (apply DrOp_q; (case hi => rfl); (case hon => exact Va); (case hd => rfl); (case hq => exact YlA))
                  refine Dr_step [7] (by kernel_rfl) rfl ⟨?_, trivial⟩
                  (apply DrOp_q; (case hi => rfl); (case hon => exact Va); (case hd => rfl); (case hq => exact YlA))
                  refine Dr_step [9] (by kernel_rfl) rfl ⟨?_, trivial⟩
                  (apply DrOp_q; (case hi => rfl); (case hon => exact Va); (case hd => rfl); (case hq => exact YlA))
                  refine Dr_end (by kernel_rfl) ?_
                  repeat (first | refine Vx ?_ | (apply Ops_q; (case hon => exact Va); (case hd => rfl); (case hq => exact YlA)) | refine Vr ?_ | refine Vt ?_ | refine Vf ?_ | refine Vm ?_ | refine Ve ?_ | refine Vo ?_ | refine Vz ?_ | refine Vn ?_)
                  refine ret2 (by first | exact .inl rfl | exact .inr rfl) rfl rfl rfl ?_
                  exact hfin w4 N' L' e4 hcf
            · (apply DrOp_q; (case hi => rfl); (case hon => exact Va); (case hd => rfl); (case hq => exact YlA))
              refine Dr_step [3] (by kernel_rfl) rfl ⟨?_, trivial⟩
              (apply DrOp_q; (case hi => rfl); (case hon => exact Va); (case hd => rfl); (case hq => exact YlA))
              refine Dr_step [4] (by kernel_rfl) rfl ⟨?_, trivial⟩
              refine DrOp_callR (R := fun w0' => CfR g w0') rfl Va rfl rfl (fun w_ e_ => hcomp w_ e_) ?_
              intro vc w4 w0c e0c e1c hRc
              obtain ⟨vN, vL, N', L', rfl, hcf, oN, oL⟩ := hRc
              have e4 := e0c.trans e1c
              have k_b1 := k_b1.ext e4
              obtain ⟨q1, q2⟩ := cfSize hcf
              obtain ⟨a1, c1, rfl, hA1⟩ := ownS oN
              obtain ⟨a3, c3, rfl, hA3⟩ := ownS oL
              refine Dr_step [6] (by kernel_rfl) rfl ⟨?_, trivial⟩
              (apply DrOp_q; (case hi => rfl); (case hon => exact Va); (case hd => rfl); (case hq => exact Yl_call rfl (hsm a1 a3 N' L' c1 c3 w4 e4 hA1 hA3 q1 q2)))
              refine Dr_step [7, 8] (by kernel_rfl) rfl ⟨?_, ?_, trivial⟩
              · (apply DrOp_q; (case hi => rfl); (case hon => exact Va); (case hd => rfl); (case hq => exact YlA))
                refine Dr_step [8] (by kernel_rfl) rfl ⟨?_, trivial⟩
                (apply DrOp_q; (case hi => rfl); (case hon => exact Va); (case hd => rfl); (case hq => exact YlA))
                refine Dr_step [9] (by kernel_rfl) rfl ⟨?_, trivial⟩
                (apply DrOp_q; (case hi => rfl); (case hon => exact Va); (case hd => rfl); (case hq => exact YlA))
                refine Dr_end (by kernel_rfl) ?_
                repeat (first | refine Vx ?_ | (apply Ops_q; (case hon => exact Va); (case hd => rfl); (case hq => exact YlA)) | refine Vr ?_ | refine Vt ?_ | refine Vf ?_ | refine Vm ?_ | refine Ve ?_ | refine Vo ?_ | refine Vz ?_ | refine Vn ?_)
                refine ret2 (by first | exact .inl rfl | exact .inr rfl) rfl rfl rfl ?_
                exact hfin w4 N' L' e4 hcf
              · (apply DrOp_q; (case hi => rfl); (case hon => exact Va); (case hd => rfl); (case hq => exact YlA))
                refine Dr_step [7] (by kernel_rfl) rfl ⟨?_, trivial⟩
                (apply DrOp_q; (case hi => rfl); (case hon => exact Va); (case hd => rfl); (case hq => exact YlA))
                refine Dr_step [9] (by kernel_rfl) rfl ⟨?_, trivial⟩
                (apply DrOp_q; (case hi => rfl); (case hon => exact Va); (case hd => rfl); (case hq => exact YlA))
                refine Dr_end (by kernel_rfl) ?_
                repeat (first | refine Vx ?_ | (apply Ops_q; (case hon => exact Va); (case hd => rfl); (case hq => exact YlA)) | refine Vr ?_ | refine Vt ?_ | refine Vf ?_ | refine Vm ?_ | refine Ve ?_ | refine Vo ?_ | refine Vz ?_ | refine Vn ?_)
                refine ret2 (by first | exact .inl rfl | exact .inr rfl) rfl rfl rfl ?_
                exact hfin w4 N' L' e4 hcf
          · (apply DrOp_q; (case hi => rfl); (case hon => exact Va); (case hd => rfl); (case hq => exact YlA))
            refine Dr_step [0, 4, 5] (by kernel_rfl) rfl ⟨?_, ?_, ?_, trivial⟩
            · (apply DrOp_q; (case hi => rfl); (case hon => exact Va); (case hd => rfl); (case hq => exact YlA))
              refine Dr_step [4, 5] (by kernel_rfl) rfl ⟨?_, ?_, trivial⟩
              · refine DrOp_callR (R := fun w0' => CfR g w0') rfl Va rfl rfl (fun w_ e_ => hcomp w_ e_) ?_
                intro vc w4 w0c e0c e1c hRc
                obtain ⟨vN, vL, N', L', rfl, hcf, oN, oL⟩ := hRc
                have e4 := e0c.trans e1c
                have k_b1 := k_b1.ext e4
                obtain ⟨q1, q2⟩ := cfSize hcf
                obtain ⟨a1, c1, rfl, hA1⟩ := ownS oN
                obtain ⟨a3, c3, rfl, hA3⟩ := ownS oL
                refine Dr_step [5] (by kernel_rfl) rfl ⟨?_, trivial⟩
                (apply DrOp_q; (case hi => rfl); (case hon => exact Va); (case hd => rfl); (case hq => exact YlA))
                refine Dr_step [6] (by kernel_rfl) rfl ⟨?_, trivial⟩
                (apply DrOp_q; (case hi => rfl); (case hon => exact Va); (case hd => rfl); (case hq => exact Yl_call rfl (hsm a1 a3 N' L' c1 c3 w4 e4 hA1 hA3 q1 q2)))
                refine Dr_step [7, 8] (by kernel_rfl) rfl ⟨?_, ?_, trivial⟩
                · (apply DrOp_q; (case hi => rfl); (case hon => exact Va); (case hd => rfl); (case hq => exact YlA))
                  refine Dr_step [8] (by kernel_rfl) rfl ⟨?_, trivial⟩
                  (apply DrOp_q; (case hi => rfl); (case hon => exact Va); (case hd => rfl); (case hq => exact YlA))
                  refine Dr_step [9] (by kernel_rfl) rfl ⟨?_, trivial⟩
                  (apply DrOp_q; (case hi => rfl); (case hon => exact Va); (case hd => rfl); (case hq => exact YlA))
                  refine Dr_end (by kernel_rfl) ?_
                  repeat (first | refine Vx ?_ | (apply Ops_q; (case hon => exact Va); (case hd => rfl); (case hq => exact YlA)) | refine Vr ?_ | refine Vt ?_ | refine Vf ?_ | refine Vm ?_ | refine Ve ?_ | refine Vo ?_ | refine Vz ?_ | refine Vn ?_)
                  refine ret2 (by first | exact .inl rfl | exact .inr rfl) rfl rfl rfl ?_
                  exact hfin w4 N' L' e4 hcf
                · (apply DrOp_q; (case hi => rfl); (case hon => exact Va); (case hd => rfl); (case hq => exact YlA))
                  refine Dr_step [7] (by kernel_rfl) rfl ⟨?_, trivial⟩
                  (apply DrOp_q; (case hi => rfl); (case hon => exact Va); (case hd => rfl); (case hq => exact YlA))
                  refine Dr_step [9] (by kernel_rfl) rfl ⟨?_, trivial⟩
                  (apply DrOp_q; (case hi => rfl); (case hon => exact Va); (case hd => rfl); (case hq => exact YlA))
                  refine Dr_end (by kernel_rfl) ?_
                  repeat (first | refine Vx ?_ | (apply Ops_q; (case hon => exact Va); (case hd => rfl); (case hq => exact YlA)) | refine Vr ?_ | refine Vt ?_ | refine Vf ?_ | refine Vm ?_ | refine Ve ?_ | refine Vo ?_ | refine Vz ?_ | refine Vn ?_)
                  refine ret2 (by first | exact .inl rfl | exact .inr rfl) rfl rfl rfl ?_
                  exact hfin w4 N' L' e4 hcf
              · (apply DrOp_q; (case hi => rfl); (case hon => exact Va); (case hd => rfl); (case hq => exact YlA))
                refine Dr_step [4] (by kernel_rfl) rfl ⟨?_, trivial⟩
                refine DrOp_callR (R := fun w0' => CfR g w0') rfl Va rfl rfl (fun w_ e_ => hcomp w_ e_) ?_
                intro vc w4 w0c e0c e1c hRc
                obtain ⟨vN, vL, N', L', rfl, hcf, oN, oL⟩ := hRc
                have e4 := e0c.trans e1c
                have k_b1 := k_b1.ext e4
                obtain ⟨q1, q2⟩ := cfSize hcf
                obtain ⟨a1, c1, rfl, hA1⟩ := ownS oN
                obtain ⟨a3, c3, rfl, hA3⟩ := ownS oL
                refine Dr_step [6] (by kernel_rfl) rfl ⟨?_, trivial⟩
                (apply DrOp_q; (case hi => rfl); (case hon => exact Va); (case hd => rfl); (case hq => exact Yl_call rfl (hsm a1 a3 N' L' c1 c3 w4 e4 hA1 hA3 q1 q2)))
                refine Dr_step [7, 8] (by kernel_rfl) rfl ⟨?_, ?_, trivial⟩
                · (apply DrOp_q; (case hi => rfl); (case hon => exact Va); (case hd => rfl); (case hq => exact YlA))
                  refine Dr_step [8] (by kernel_rfl) rfl ⟨?_, trivial⟩
                  (apply DrOp_q; (case hi => rfl); (case hon => exact Va); (case hd => rfl); (case hq => exact YlA))
                  refine Dr_step [9] (by kernel_rfl) rfl ⟨?_, trivial⟩
                  (apply DrOp_q; (case hi => rfl); (case hon => exact Va); (case hd => rfl); (case hq => exact YlA))
                  refine Dr_end (by kernel_rfl) ?_
                  repeat (first | refine Vx ?_ | (apply Ops_q; (case hon => exact Va); (case hd => rfl); (case hq => exact YlA)) | refine Vr ?_ | refine Vt ?_ | refine Vf ?_ | refine Vm ?_ | refine Ve ?_ | refine Vo ?_ | refine Vz ?_ | refine Vn ?_)
                  refine ret2 (by first | exact .inl rfl | exact .inr rfl) rfl rfl rfl ?_
                  exact hfin w4 N' L' e4 hcf
                · (apply DrOp_q; (case hi => rfl); (case hon => exact Va); (case hd => rfl); (case hq => exact YlA))
                  refine Dr_step [7] (by kernel_rfl) rfl ⟨?_, trivial⟩
                  (apply DrOp_q; (case hi => rfl); (case hon => exact Va); (case hd => rfl); (case hq => exact YlA))
                  refine Dr_step [9] (by kernel_rfl) rfl ⟨?_, trivial⟩
                  (apply DrOp_q; (case hi => rfl); (case hon => exact Va); (case hd => rfl); (case hq => exact YlA))
                  refine Dr_end (by kernel_rfl) ?_
                  repeat (first | refine Vx ?_ | (apply Ops_q; (case hon => exact Va); (case hd => rfl); (case hq => exact YlA)) | refine Vr ?_ | refine Vt ?_ | refine Vf ?_ | refine Vm ?_ | refine Ve ?_ | refine Vo ?_ | refine Vz ?_ | refine Vn ?_)
                  refine ret2 (by first | exact .inl rfl | exact .inr rfl) rfl rfl rfl ?_
                  exact hfin w4 N' L' e4 hcf
            · refine DrOp_callR (R := fun w0' => CfR g w0') rfl Va rfl rfl (fun w_ e_ => hcomp w_ e_) ?_
              intro vc w4 w0c e0c e1c hRc
              obtain ⟨vN, vL, N', L', rfl, hcf, oN, oL⟩ := hRc
              have e4 := e0c.trans e1c
              have k_b1 := k_b1.ext e4
              obtain ⟨q1, q2⟩ := cfSize hcf
              obtain ⟨a1, c1, rfl, hA1⟩ := ownS oN
              obtain ⟨a3, c3, rfl, hA3⟩ := ownS oL
              refine Dr_step [0, 5] (by kernel_rfl) rfl ⟨?_, ?_, trivial⟩
              · (apply DrOp_q; (case hi => rfl); (case hon => exact Va); (case hd => rfl); (case hq => exact YlA))
                refine Dr_step [5] (by kernel_rfl) rfl ⟨?_, trivial⟩
                (apply DrOp_q; (case hi => rfl); (case hon => exact Va); (case hd => rfl); (case hq => exact YlA))
                refine Dr_step [6] (by kernel_rfl) rfl ⟨?_, trivial⟩
                (apply DrOp_q; (case hi => rfl); (case hon => exact Va); (case hd => rfl); (case hq => exact Yl_call rfl (hsm a1 a3 N' L' c1 c3 w4 e4 hA1 hA3 q1 q2)))
                refine Dr_step [7, 8] (by kernel_rfl) rfl ⟨?_, ?_, trivial⟩
                · (apply DrOp_q; (case hi => rfl); (case hon => exact Va); (case hd => rfl); (case hq => exact YlA))
                  refine Dr_step [8] (by kernel_rfl) rfl ⟨?_, trivial⟩
                  (apply DrOp_q; (case hi => rfl); (case hon => exact Va); (case hd => rfl); (case hq => exact YlA))
                  refine Dr_step [9] (by kernel_rfl) rfl ⟨?_, trivial⟩
                  (apply DrOp_q; (case hi => rfl); (case hon => exact Va); (case hd => rfl); (case hq => exact YlA))
                  refine Dr_end (by kernel_rfl) ?_
                  repeat (first | refine Vx ?_ | (apply Ops_q; (case hon => exact Va); (case hd => rfl); (case hq => exact YlA)) | refine Vr ?_ | refine Vt ?_ | refine Vf ?_ | refine Vm ?_ | refine Ve ?_ | refine Vo ?_ | refine Vz ?_ | refine Vn ?_)
                  refine ret2 (by first | exact .inl rfl | exact .inr rfl) rfl rfl rfl ?_
                  exact hfin w4 N' L' e4 hcf
                · (apply DrOp_q; (case hi => rfl); (case hon => exact Va); (case hd => rfl); (case hq => exact YlA))
                  refine Dr_step [7] (by kernel_rfl) rfl ⟨?_, trivial⟩
                  (apply DrOp_q; (case hi => rfl); (case hon => exact Va); (case hd => rfl); (case hq => exact YlA))
                  refine Dr_step [9] (by kernel_rfl) rfl ⟨?_, trivial⟩
                  (apply DrOp_q; (case hi => rfl); (case hon => exact Va); (case hd => rfl); (case hq => exact YlA))
                  refine Dr_end (by kernel_rfl) ?_
                  repeat (first | refine Vx ?_ | (apply Ops_q; (case hon => exact Va); (case hd => rfl); (case hq => exact YlA)) | refine Vr ?_ | refine Vt ?_ | refine Vf ?_ | refine Vm ?_ | refine Ve ?_ | refine Vo ?_ | refine Vz ?_ | refine Vn ?_)
                  refine ret2 (by first | exact .inl rfl | exact .inr rfl) rfl rfl rfl ?_
                  exact hfin w4 N' L' e4 hcf
              · (apply DrOp_q; (case hi => rfl); (case hon => exact Va); (case hd => rfl); (case hq => exact YlA))
                refine Dr_step [0, 6] (by kernel_rfl) rfl ⟨?_, ?_, trivial⟩
                · (apply DrOp_q; (case hi => rfl); (case hon => exact Va); (case hd => rfl); (case hq => exact YlA))
                  refine Dr_step [6] (by kernel_rfl) rfl ⟨?_, trivial⟩
                  (apply DrOp_q; (case hi => rfl); (case hon => exact Va); (case hd => rfl); (case hq => exact Yl_call rfl (hsm a1 a3 N' L' c1 c3 w4 e4 hA1 hA3 q1 q2)))
                  refine Dr_step [7, 8] (by kernel_rfl) rfl ⟨?_, ?_, trivial⟩
                  · (apply DrOp_q; (case hi => rfl); (case hon => exact Va); (case hd => rfl); (case hq => exact YlA))
                    refine Dr_step [8] (by kernel_rfl) rfl ⟨?_, trivial⟩
                    (apply DrOp_q; (case hi => rfl); (case hon => exact Va); (case hd => rfl); (case hq => exact YlA))
                    refine Dr_step [9] (by kernel_rfl) rfl ⟨?_, trivial⟩
                    (apply DrOp_q; (case hi => rfl); (case hon => exact Va); (case hd => rfl); (case hq => exact YlA))
                    refine Dr_end (by kernel_rfl) ?_
                    repeat (first | refine Vx ?_ | (apply Ops_q; (case hon => exact Va); (case hd => rfl); (case hq => exact YlA)) | refine Vr ?_ | refine Vt ?_ | refine Vf ?_ | refine Vm ?_ | refine Ve ?_ | refine Vo ?_ | refine Vz ?_ | refine Vn ?_)
                    refine ret2 (by first | exact .inl rfl | exact .inr rfl) rfl rfl rfl ?_
                    exact hfin w4 N' L' e4 hcf
                  · (apply DrOp_q; (case hi => rfl); (case hon => exact Va); (case hd => rfl); (case hq => exact YlA))
                    refine Dr_step [7] (by kernel_rfl) rfl ⟨?_, trivial⟩
                    (apply DrOp_q; (case hi => rfl); (case hon => exact Va); (case hd => rfl); (case hq => exact YlA))
                    refine Dr_step [9] (by kernel_rfl) rfl ⟨?_, trivial⟩
                    (apply DrOp_q; (case hi => rfl); (case hon => exact Va); (case hd => rfl); (case hq => exact YlA))
                    refine Dr_end (by kernel_rfl) ?_
                    repeat (first | refine Vx ?_ | (apply Ops_q; (case hon => exact Va); (case hd => rfl); (case hq => exact YlA)) | refine Vr ?_ | refine Vt ?_ | refine Vf ?_ | refine Vm ?_ | refine Ve ?_ | refine Vo ?_ | refine Vz ?_ | refine Vn ?_)
                    refine ret2 (by first | exact .inl rfl | exact .inr rfl) rfl rfl rfl ?_
                    exact hfin w4 N' L' e4 hcf
                · (apply DrOp_q; (case hi => rfl); (case hon => exact Va); (case hd => rfl); (case hq => exact Yl_call rfl (hsm a1 a3 N' L' c1 c3 w4 e4 hA1 hA3 q1 q2)))
                  refine Dr_step [0, 7] (by kernel_rfl) rfl ⟨?_, ?_, trivial⟩
                  · (apply DrOp_q; (case hi => rfl); (case hon => exact Va); (case hd => rfl); (case hq => exact YlA))
                    refine Dr_step [7, 8] (by kernel_rfl) rfl ⟨?_, ?_, trivial⟩
                    · (apply DrOp_q; (case hi => rfl); (case hon => exact Va); (case hd => rfl); (case hq => exact YlA))
                      refine Dr_step [8] (by kernel_rfl) rfl ⟨?_, trivial⟩
                      (apply DrOp_q; (case hi => rfl); (case hon => exact Va); (case hd => rfl); (case hq => exact YlA))
                      refine Dr_step [9] (by kernel_rfl) rfl ⟨?_, trivial⟩
                      (apply DrOp_q; (case hi => rfl); (case hon => exact Va); (case hd => rfl); (case hq => exact YlA))
                      refine Dr_end (by kernel_rfl) ?_
                      repeat (first | refine Vx ?_ | (apply Ops_q; (case hon => exact Va); (case hd => rfl); (case hq => exact YlA)) | refine Vr ?_ | refine Vt ?_ | refine Vf ?_ | refine Vm ?_ | refine Ve ?_ | refine Vo ?_ | refine Vz ?_ | refine Vn ?_)
                      refine ret2 (by first | exact .inl rfl | exact .inr rfl) rfl rfl rfl ?_
                      exact hfin w4 N' L' e4 hcf
                    · (apply DrOp_q; (case hi => rfl); (case hon => exact Va); (case hd => rfl); (case hq => exact YlA))
                      refine Dr_step [7] (by kernel_rfl) rfl ⟨?_, trivial⟩
                      (apply DrOp_q; (case hi => rfl); (case hon => exact Va); (case hd => rfl); (case hq => exact YlA))
                      refine Dr_step [9] (by kernel_rfl) rfl ⟨?_, trivial⟩
                      (apply DrOp_q; (case hi => rfl); (case hon => exact Va); (case hd => rfl); (case hq => exact YlA))
                      refine Dr_end (by kernel_rfl) ?_
                      repeat (first | refine Vx ?_ | (apply Ops_q; (case hon => exact Va); (case hd => rfl); (case hq => exact YlA)) | refine Vr ?_ | refine Vt ?_ | refine Vf ?_ | refine Vm ?_ | refine Ve ?_ | refine Vo ?_ | refine Vz ?_ | refine Vn ?_)
                      refine ret2 (by first | exact .inl rfl | exact .inr rfl) rfl rfl rfl ?_
                      exact hfin w4 N' L' e4 hcf
                  · (apply DrOp_q; (case hi => rfl); (case hon => exact Va); (case hd => rfl); (case hq => exact YlA))
                    refine Dr_step [0] (by kernel_rfl) rfl ⟨?_, trivial⟩
                    (apply DrOp_q; (case hi => rfl); (case hon => exact Va); (case hd => rfl); (case hq => exact YlA))
                    refine Dr_step [8] (by kernel_rfl) rfl ⟨?_, trivial⟩
                    (apply DrOp_q; (case hi => rfl); (case hon => exact Va); (case hd => rfl); (case hq => exact YlA))
                    refine Dr_step [9] (by kernel_rfl) rfl ⟨?_, trivial⟩
                    (apply DrOp_q; (case hi => rfl); (case hon => exact Va); (case hd => rfl); (case hq => exact YlA))
                    refine Dr_end (by kernel_rfl) ?_
                    repeat (first | refine Vx ?_ | (apply Ops_q; (case hon => exact Va); (case hd => rfl); (case hq => exact YlA)) | refine Vr ?_ | refine Vt ?_ | refine Vf ?_ | refine Vm ?_ | refine Ve ?_ | refine Vo ?_ | refine Vz ?_ | refine Vn ?_)
                    refine ret2 (by first | exact .inl rfl | exact .inr rfl) rfl rfl rfl ?_
                    exact hfin w4 N' L' e4 hcf
            · (apply DrOp_q; (case hi => rfl); (case hon => exact Va); (case hd => rfl); (case hq => exact YlA))
              refine Dr_step [0, 4] (by kernel_rfl) rfl ⟨?_, ?_, trivial⟩
              · (apply DrOp_q; (case hi => rfl); (case hon => exact Va); (case hd => rfl); (case hq => exact YlA))
                refine Dr_step [4] (by kernel_rfl) rfl ⟨?_, trivial⟩
                refine DrOp_callR (R := fun w0' => CfR g w0') rfl Va rfl rfl (fun w_ e_ => hcomp w_ e_) ?_
                intro vc w4 w0c e0c e1c hRc
                obtain ⟨vN, vL, N', L', rfl, hcf, oN, oL⟩ := hRc
                have e4 := e0c.trans e1c
                have k_b1 := k_b1.ext e4
                obtain ⟨q1, q2⟩ := cfSize hcf
                obtain ⟨a1, c1, rfl, hA1⟩ := ownS oN
                obtain ⟨a3, c3, rfl, hA3⟩ := ownS oL
                refine Dr_step [6] (by kernel_rfl) rfl ⟨?_, trivial⟩
                (apply DrOp_q; (case hi => rfl); (case hon => exact Va); (case hd => rfl); (case hq => exact Yl_call rfl (hsm a1 a3 N' L' c1 c3 w4 e4 hA1 hA3 q1 q2)))
                refine Dr_step [7, 8] (by kernel_rfl) rfl ⟨?_, ?_, trivial⟩
                · (apply DrOp_q; (case hi => rfl); (case hon => exact Va); (case hd => rfl); (case hq => exact YlA))
                  refine Dr_step [8] (by kernel_rfl) rfl ⟨?_, trivial⟩
                  (apply DrOp_q; (case hi => rfl); (case hon => exact Va); (case hd => rfl); (case hq => exact YlA))
                  refine Dr_step [9] (by kernel_rfl) rfl ⟨?_, trivial⟩
                  (apply DrOp_q; (case hi => rfl); (case hon => exact Va); (case hd => rfl); (case hq => exact YlA))
                  refine Dr_end (by kernel_rfl) ?_
                  repeat (first | refine Vx ?_ | (apply Ops_q; (case hon => exact Va); (case hd => rfl); (case hq => exact YlA)) | refine Vr ?_ | refine Vt ?_ | refine Vf ?_ | refine Vm ?_ | refine Ve ?_ | refine Vo ?_ | refine Vz ?_ | refine Vn ?_)
                  refine ret2 (by first | exact .inl rfl | exact .inr rfl) rfl rfl rfl ?_
                  exact hfin w4 N' L' e4 hcf
                · (apply DrOp_q; (case hi => rfl); (case hon => exact Va); (case hd => rfl); (case hq => exact YlA))
                  refine Dr_step [7] (by kernel_rfl) rfl ⟨?_, trivial⟩
                  (apply DrOp_q; (case hi => rfl); (case hon => exact Va); (case hd => rfl); (case hq => exact YlA))
                  refine Dr_step [9] (by kernel_rfl) rfl ⟨?_, trivial⟩
                  (apply DrOp_q; (case hi => rfl); (case hon => exact Va); (case hd => rfl); (case hq => exact YlA))
                  refine Dr_end (by kernel_rfl) ?_
                  repeat (first | refine Vx ?_ | (apply Ops_q; (case hon => exact Va); (case hd => rfl); (case hq => exact YlA)) | refine Vr ?_ | refine Vt ?_ | refine Vf ?_ | refine Vm ?_ | refine Ve ?_ | refine Vo ?_ | refine Vz ?_ | refine Vn ?_)
                  refine ret2 (by first | exact .inl rfl | exact .inr rfl) rfl rfl rfl ?_
                  exact hfin w4 N' L' e4 hcf
              · refine DrOp_callR (R := fun w0' => CfR g w0') rfl Va rfl rfl (fun w_ e_ => hcomp w_ e_) ?_
                intro vc w4 w0c e0c e1c hRc
                obtain ⟨vN, vL, N', L', rfl, hcf, oN, oL⟩ := hRc
                have e4 := e0c.trans e1c
                have k_b1 := k_b1.ext e4
                obtain ⟨q1, q2⟩ := cfSize hcf
                obtain ⟨a1, c1, rfl, hA1⟩ := ownS oN
                obtain ⟨a3, c3, rfl, hA3⟩ := ownS oL
                refine Dr_step [0, 6] (by kernel_rfl) rfl ⟨?_, ?_, trivial⟩
                · (apply DrOp_q; (case hi => rfl); (case hon => exact Va); (case hd => rfl); (case hq => exact YlA))
                  refine Dr_step [6] (by kernel_rfl) rfl ⟨?_, trivial⟩
                  (apply DrOp_q; (case hi => rfl); (case hon => exact Va); (case hd => rfl); (case hq => exact Yl_call rfl (hsm a1 a3 N' L' c1 c3 w4 e4 hA1 hA3 q1 q2)))
                  refine Dr_step [7, 8] (by kernel_rfl) rfl ⟨?_, ?_, trivial⟩
                  · (apply DrOp_q; (case hi => rfl); (case hon => exact Va); (case hd => rfl); (case hq => exact YlA))
                    refine Dr_step [8] (by kernel_rfl) rfl ⟨?_, trivial⟩
                    (apply DrOp_q; (case hi => rfl); (case hon => exact Va); (case hd => rfl); (case hq => exact YlA))
                    refine Dr_step [9] (by kernel_rfl) rfl ⟨?_, trivial⟩
                    (apply DrOp_q; (case hi => rfl); (case hon => exact Va); (case hd => rfl); (case hq => exact YlA))
                    refine Dr_end (by kernel_rfl) ?_
                    repeat (first | refine Vx ?_ | (apply Ops_q; (case hon => exact Va); (case hd => rfl); (case hq => exact YlA)) | refine Vr ?_ | refine Vt ?_ | refine Vf ?_ | refine Vm ?_ | refine Ve ?_ | refine Vo ?_ | refine Vz ?_ | refine Vn ?_)
                    refine ret2 (by first | exact .inl rfl | exact .inr rfl) rfl rfl rfl ?_
                    exact hfin w4 N' L' e4 hcf
                  · (apply DrOp_q; (case hi => rfl); (case hon => exact Va); (case hd => rfl); (case hq => exact YlA))
                    refine Dr_step [7] (by kernel_rfl) rfl ⟨?_, trivial⟩
                    (apply DrOp_q; (case hi => rfl); (case hon => exact Va); (case hd => rfl); (case hq => exact YlA))
                    refine Dr_step [9] (by kernel_rfl) rfl ⟨?_, trivial⟩
                    (apply DrOp_q; (case hi => rfl); (case hon => exact Va); (case hd => rfl); (case hq => exact YlA))
                    refine Dr_end (by kernel_rfl) ?_
                    repeat (first | refine Vx ?_ | (apply Ops_q; (case hon => exact Va); (case hd => rfl); (case hq => exact YlA)) | refine Vr ?_ | refine Vt ?_ | refine Vf ?_ | refine Vm ?_ | refine Ve ?_ | refine Vo ?_ | refine Vz ?_ | refine Vn ?_)
                    refine ret2 (by first | exact .inl rfl | exact .inr rfl) rfl rfl rfl ?_
                    exact hfin w4 N' L' e4 hcf
                · (apply DrOp_q; (case hi => rfl); (case hon => exact Va); (case hd => rfl); (case hq => exact Yl_call rfl (hsm a1 a3 N' L' c1 c3 w4 e4 hA1 hA3 q1 q2)))
                  refine Dr_step [0, 7] (by kernel_rfl) rfl ⟨?_, ?_, trivial⟩
                  · (apply DrOp_q; (case hi => rfl); (case hon => exact Va); (case hd => rfl); (case hq => exact YlA))
                    refine Dr_step [7, 8] (by kernel_rfl) rfl ⟨?_, ?_, trivial⟩
                    · (apply DrOp_q; (case hi => rfl); (case hon => exact Va); (case hd => rfl); (case hq => exact YlA))
                      refine Dr_step [8] (by kernel_rfl) rfl ⟨?_, trivial⟩
                      (apply DrOp_q; (case hi => rfl); (case hon => exact Va); (case hd => rfl); (case hq => exact YlA))
                      refine Dr_step [9] (by kernel_rfl) rfl ⟨?_, trivial⟩
                      (apply DrOp_q; (case hi => rfl); (case hon => exact Va); (case hd => rfl); (case hq => exact YlA))
                      refine Dr_end (by kernel_rfl) ?_
                      repeat (first | refine Vx ?_ | (apply Ops_q; (case hon => exact Va); (case hd => rfl); (case hq => exact YlA)) | refine Vr ?_ | refine Vt ?_ | refine Vf ?_ | refine Vm ?_ | refine Ve ?_ | refine Vo ?_ | refine Vz ?_ | refine Vn ?_)
                      refine ret2 (by first | exact .inl rfl | exact .inr rfl) rfl rfl rfl ?_
                      exact hfin w4 N' L' e4 hcf
                    · (apply DrOp_q; (case hi => rfl); (case hon => exact Va); (case hd => rfl); (case hq => exact YlA))
                      refine Dr_step [7] (by kernel_rfl) rfl ⟨?_, trivial⟩
                      (apply DrOp_q; (case hi => rfl); (case hon => exact Va); (case hd => rfl); (case hq => exact YlA))
                      refine Dr_step [9] (by kernel_rfl) rfl ⟨?_, trivial⟩
                      (apply DrOp_q; (case hi => rfl); (case hon => exact Va); (case hd => rfl); (case hq => exact YlA))
                      refine Dr_end (by kernel_rfl) ?_
                      repeat (first | refine Vx ?_ | (apply Ops_q; (case hon => exact Va); (case hd => rfl); (case hq => exact YlA)) | refine Vr ?_ | refine Vt ?_ | refine Vf ?_ | refine Vm ?_ | refine Ve ?_ | refine Vo ?_ | refine Vz ?_ | refine Vn ?_)
                      refine ret2 (by first | exact .inl rfl | exact .inr rfl) rfl rfl rfl ?_
                      exact hfin w4 N' L' e4 hcf
                  · (apply DrOp_q; (case hi => rfl); (case hon => exact Va); (case hd => rfl); (case hq => exact YlA))
                    refine Dr_step [0] (by kernel_rfl) rfl ⟨?_, trivial⟩
                    (apply DrOp_q; (case hi => rfl); (case hon => exact Va); (case hd => rfl); (case hq => exact YlA))
                    refine Dr_step [8] (by kernel_rfl) rfl ⟨?_, trivial⟩
                    (apply DrOp_q; (case hi => rfl); (case hon => exact Va); (case hd => rfl); (case hq => exact YlA))
                    refine Dr_step [9] (by kernel_rfl) rfl ⟨?_, trivial⟩
                    (apply DrOp_q; (case hi => rfl); (case hon => exact Va); (case hd => rfl); (case hq => exact YlA))
                    refine Dr_end (by kernel_rfl) ?_
                    repeat (first | refine Vx ?_ | (apply Ops_q; (case hon => exact Va); (case hd => rfl); (case hq => exact YlA)) | refine Vr ?_ | refine Vt ?_ | refine Vf ?_ | refine Vm ?_ | refine Ve ?_ | refine Vo ?_ | refine Vz ?_ | refine Vn ?_)
                    refine ret2 (by first | exact .inl rfl | exact .inr rfl) rfl rfl rfl ?_
                    exact hfin w4 N' L' e4 hcf
          · (apply DrOp_q; (case hi => rfl); (case hon => exact Va); (case hd => rfl); (case hq => exact YlA))
            refine Dr_step [0, 3] (by kernel_rfl) rfl ⟨?_, ?_, trivial⟩
            · (apply DrOp_q; (case hi => rfl); (case hon => exact Va); (case hd => rfl); (case hq => exact YlA))
              refine Dr_step [3] (by kernel_rfl) rfl ⟨?_, trivial⟩
              (apply DrOp_q; (case hi => rfl); (case hon => exact Va); (case hd => rfl); (case hq => exact YlA))
              refine Dr_step [4] (by kernel_rfl) rfl ⟨?_, trivial⟩
              refine DrOp_callR (R := fun w0' => CfR g w0') rfl Va rfl rfl (fun w_ e_ => hcomp w_ e_) ?_
              intro vc w4 w0c e0c e1c hRc
              obtain ⟨vN, vL, N', L', rfl, hcf, oN, oL⟩ := hRc
              have e4 := e0c.trans e1c
              have k_b1 := k_b1.ext e4
              obtain ⟨q1, q2⟩ := cfSize hcf
              obtain ⟨a1, c1, rfl, hA1⟩ := ownS oN
              obtain ⟨a3, c3, rfl, hA3⟩ := ownS oL
              refine Dr_step [6] (by kernel_rfl) rfl ⟨?_, trivial⟩
              (apply DrOp_q; (case hi => rfl); (case hon => exact Va); (case hd => rfl); (case hq => exact Yl_call rfl (hsm a1 a3 N' L' c1 c3 w4 e4 hA1 hA3 q1 q2)))
              refine Dr_step [7, 8] (by kernel_rfl) rfl ⟨?_, ?_, trivial⟩
              · (apply DrOp_q; (case hi => rfl); (case hon => exact Va); (case hd => rfl); (case hq => exact YlA))
                refine Dr_step [8] (by kernel_rfl) rfl ⟨?_, trivial⟩
                (apply DrOp_q; (case hi => rfl); (case hon => exact Va); (case hd => rfl); (case hq => exact YlA))
                refine Dr_step [9] (by kernel_rfl) rfl ⟨?_, trivial⟩
                (apply DrOp_q; (case hi => rfl); (case hon => exact Va); (case hd => rfl); (case hq => exact YlA))
                refine Dr_end (by kernel_rfl) ?_
                repeat (first | refine Vx ?_ | (apply Ops_q; (case hon => exact Va); (case hd => rfl); (case hq => exact YlA)) | refine Vr ?_ | refine Vt ?_ | refine Vf ?_ | refine Vm ?_ | refine Ve ?_ | refine Vo ?_ | refine Vz ?_ | refine Vn ?_)
                refine ret2 (by first | exact .inl rfl | exact .inr rfl) rfl rfl rfl ?_
                exact hfin w4 N' L' e4 hcf
              · (apply DrOp_q; (case hi => rfl); (case hon => exact Va); (case hd => rfl); (case hq => exact YlA))
                refine Dr_step [7] (by kernel_rfl) rfl ⟨?_, trivial⟩
                (apply DrOp_q; (case hi => rfl); (case hon => exact Va); (case hd => rfl); (case hq => exact YlA))
                refine Dr_step [9] (by kernel_rfl) rfl ⟨?_, trivial⟩
                (apply DrOp_q; (case hi => rfl); (case hon => exact Va); (case hd => rfl); (case hq => exact YlA))
                refine Dr_end (by kernel_rfl) ?_
                repeat (first | refine Vx ?_ | (apply Ops_q; (case hon => exact Va); (case hd => rfl); (case hq => exact YlA)) | refine Vr ?_ | refine Vt ?_ | refine Vf ?_ | refine Vm ?_ | refine Ve ?_ | refine Vo ?_ | refine Vz ?_ | refine Vn ?_)
                refine ret2 (by first | exact .inl rfl | exact .inr rfl) rfl rfl rfl ?_
                exact hfin w4 N' L' e4 hcf
            · (apply DrOp_q; (case hi => rfl); (case hon => exact Va); (case hd => rfl); (case hq => exact YlA))
              refine Dr_step [0, 4] (by kernel_rfl) rfl ⟨?_, ?_, trivial⟩
              · (apply DrOp_q; (case hi => rfl); (case hon => exact Va); (case hd => rfl); (case hq => exact YlA))
                refine Dr_step [4] (by kernel_rfl) rfl ⟨?_, trivial⟩
                refine DrOp_callR (R := fun w0' => CfR g w0') rfl Va rfl rfl (fun w_ e_ => hcomp w_ e_) ?_
                intro vc w4 w0c e0c e1c hRc
                obtain ⟨vN, vL, N', L', rfl, hcf, oN, oL⟩ := hRc
                have e4 := e0c.trans e1c
                have k_b1 := k_b1.ext e4
                obtain ⟨q1, q2⟩ := cfSize hcf
                obtain ⟨a1, c1, rfl, hA1⟩ := ownS oN
                obtain ⟨a3, c3, rfl, hA3⟩ := ownS oL
                refine Dr_step [6] (by kernel_rfl) rfl ⟨?_, trivial⟩
                (apply DrOp_q; (case hi => rfl); (case hon => exact Va); (case hd => rfl); (case hq => exact Yl_call rfl (hsm a1 a3 N' L' c1 c3 w4 e4 hA1 hA3 q1 q2)))
                refine Dr_step [7, 8] (by kernel_rfl) rfl ⟨?_, ?_, trivial⟩
                · (apply DrOp_q; (case hi => rfl); (case hon => exact Va); (case hd => rfl); (case hq => exact YlA))
                  refine Dr_step [8] (by kernel_rfl) rfl ⟨?_, trivial⟩
                  (apply DrOp_q; (case hi => rfl); (case hon => exact Va); (case hd => rfl); (case hq => exact YlA))
                  refine Dr_step [9] (by kernel_rfl) rfl ⟨?_, trivial⟩
                  (apply DrOp_q; (case hi => rfl); (case hon => exact Va); (case hd => rfl); (case hq => exact YlA))
                  refine Dr_end (by kernel_rfl) ?_
                  repeat (first | refine Vx ?_ | (apply Ops_q; (case hon => exact Va); (case hd => rfl); (case hq => exact YlA)) | refine Vr ?_ | refine Vt ?_ | refine Vf ?_ | refine Vm ?_ | refine Ve ?_ | refine Vo ?_ | refine Vz ?_ | refine Vn ?_)
                  refine ret2 (by first | exact .inl rfl | exact .inr rfl) rfl rfl rfl ?_
                  exact hfin w4 N' L' e4 hcf
                · (apply DrOp_q; (case hi => rfl); (case hon => exact Va); (case hd => rfl); (case hq => exact YlA))
                  refine Dr_step [7] (by kernel_rfl) rfl ⟨?_, trivial⟩
                  (apply DrOp_q; (case hi => rfl); (case hon => exact Va); (case hd => rfl); (case hq => exact YlA))
                  refine Dr_step [9] (by kernel_rfl) rfl ⟨?_, trivial⟩
                  (apply DrOp_q; (case hi => rfl); (case hon => exact Va); (case hd => rfl); (case hq => exact YlA))
                  refine Dr_end (by kernel_rfl) ?_
                  repeat (first | refine Vx ?_ | (apply Ops_q; (case hon => exact Va); (case hd => rfl); (case hq => exact YlA)) | refine Vr ?_ | refine Vt ?_ | refine Vf ?_ | refine Vm ?_ | refine Ve ?_ | refine Vo ?_ | refine Vz ?_ | refine Vn ?_)
                  refine ret2 (by first | exact .inl rfl | exact .inr rfl) rfl rfl rfl ?_
                  exact hfin w4 N' L' e4 hcf
              · refine DrOp_callR (R := fun w0' => CfR g w0') rfl Va rfl rfl (fun w_ e_ => hcomp w_ e_) ?_
                intro vc w4 w0c e0c e1c hRc
                obtain ⟨vN, vL, N', L', rfl, hcf, oN, oL⟩ := hRc
                have e4 := e0c.trans e1c
                have k_b1 := k_b1.ext e4
                obtain ⟨q1, q2⟩ := cfSize hcf
                obtain ⟨a1, c1, rfl, hA1⟩ := ownS oN
                obtain ⟨a3, c3, rfl, hA3⟩ := ownS oL
                refine Dr_step [0, 6] (by kernel_rfl) rfl ⟨?_, ?_, trivial⟩
                · (apply DrOp_q; (case hi => rfl); (case hon => exact Va); (case hd => rfl); (case hq => exact YlA))
                  refine Dr_step [6] (by kernel_rfl) rfl ⟨?_, trivial⟩
                  (apply DrOp_q; (case hi => rfl); (case hon => exact Va); (case hd => rfl); (case hq => exact Yl_call rfl (hsm a1 a3 N' L' c1 c3 w4 e4 hA1 hA3 q1 q2)))
                  refine Dr_step [7, 8] (by kernel_rfl) rfl ⟨?_, ?_, trivial⟩
                  · (apply DrOp_q; (case hi => rfl); (case hon => exact Va); (case hd => rfl); (case hq => exact YlA))
                    refine Dr_step [8] (by kernel_rfl) rfl ⟨?_, trivial⟩
                    (apply DrOp_q; (case hi => rfl); (case hon => exact Va); (case hd => rfl); (case hq => exact YlA))
                    refine Dr_step [9] (by kernel_rfl) rfl ⟨?_, trivial⟩
                    (apply DrOp_q; (case hi => rfl); (case hon => exact Va); (case hd => rfl); (case hq => exact YlA))
                    refine Dr_end (by kernel_rfl) ?_
                    repeat (first | refine Vx ?_ | (apply Ops_q; (case hon => exact Va); (case hd => rfl); (case hq => exact YlA)) | refine Vr ?_ | refine Vt ?_ | refine Vf ?_ | refine Vm ?_ | refine Ve ?_ | refine Vo ?_ | refine Vz ?_ | refine Vn ?_)
                    refine ret2 (by first | exact .inl rfl | exact .inr rfl) rfl rfl rfl ?_
                    exact hfin w4 N' L' e4 hcf
                  · (apply DrOp_q; (case hi => rfl); (case hon => exact Va); (case hd => rfl); (case hq => exact YlA))
                    refine Dr_step [7] (by kernel_rfl) rfl ⟨?_, trivial⟩
                    (apply DrOp_q; (case hi => rfl); (case hon => exact Va); (case hd => rfl); (case hq => exact YlA))
                    refine Dr_step [9] (by kernel_rfl) rfl ⟨?_, trivial⟩
                    (apply DrOp_q; (case hi => rfl); (case hon => exact Va); (case hd => rfl); (case hq => exact YlA))
                    refine Dr_end (by kernel_rfl) ?_
                    repeat (first | refine Vx ?_ | (apply Ops_q; (case hon => exact Va); (case hd => rfl); (case hq => exact YlA)) | refine Vr ?_ | refine Vt ?_ | refine Vf ?_ | refine Vm ?_ | refine Ve ?_ | refine Vo ?_ | refine Vz ?_ | refine Vn ?_)
                    refine ret2 (by first | exact .inl rfl | exact .inr rfl) rfl rfl rfl ?_
                    exact hfin w4 N' L' e4 hcf
                · (apply DrOp_q; (case hi => rfl); (case hon => exact Va); (case hd => rfl); (case hq => exact Yl_call rfl (hsm a1 a3 N' L' c1 c3 w4 e4 hA1 hA3 q1 q2)))
                  refine Dr_step [0, 7] (by kernel_rfl) rfl ⟨?_, ?_, trivial⟩
                  · (apply DrOp_q; (case hi => rfl); (case hon => exact Va); (case hd => rfl); (case hq => exact YlA))
                    refine Dr_step [7, 8] (by kernel_rfl) rfl ⟨?_, ?_, trivial⟩
                    · (apply DrOp_q; (case hi => rfl); (case hon => exact Va); (case hd => rfl); (case hq => exact YlA))
                      refine Dr_step [8] (by kernel_rfl) rfl ⟨?_, trivial⟩
                      (apply DrOp_q; (case hi => rfl); (case hon => exact Va); (case hd => rfl); (case hq => exact YlA))
                      refine Dr_step [9] (by kernel_rfl) rfl ⟨?_, trivial⟩
                      (apply DrOp_q; (case hi => rfl); (case hon => exact Va); (case hd => rfl); (case hq => exact YlA))
                      refine Dr_end (by kernel_rfl) ?_
                      repeat (first | refine Vx ?_ | (apply Ops_q; (case hon => exact Va); (case hd => rfl); (case hq => exact YlA)) | refine Vr ?_ | refine Vt ?_ | refine Vf ?_ | refine Vm ?_ | refine Ve ?_ | refine Vo ?_ | refine Vz ?_ | refine Vn ?_)
                      refine ret2 (by first | exact .inl rfl | exact .inr rfl) rfl rfl rfl ?_
                      exact hfin w4 N' L' e4 hcf
                    · (apply DrOp_q; (case hi => rfl); (case hon => exact Va); (case hd => rfl); (case hq => exact YlA))
                      refine Dr_step [7] (by kernel_rfl) rfl ⟨?_, trivial⟩
                      (apply DrOp_q; (case hi => rfl); (case hon => exact Va); (case hd => rfl); (case hq => exact YlA))
                      refine Dr_step [9] (by kernel_rfl) rfl ⟨?_, trivial⟩
                      (apply DrOp_q; (case hi => rfl); (case hon => exact Va); (case hd => rfl); (case hq => exact YlA))
                      refine Dr_end (by kernel_rfl) ?_
                      repeat (first | refine Vx ?_ | (apply Ops_q; (case hon => exact Va); (case hd => rfl); (case hq => exact YlA)) | refine Vr ?_ | refine Vt ?_ | refine Vf ?_ | refine Vm ?_ | refine Ve ?_ | refine Vo ?_ | refine Vz ?_ | refine Vn ?_)
                      refine ret2 (by first | exact .inl rfl | exact .inr rfl) rfl rfl rfl ?_
                      exact hfin w4 N' L' e4 hcf
                  · (apply DrOp_q; (case hi => rfl); (case hon => exact Va); (case hd => rfl); (case hq => exact YlA))
                    refine Dr_step [0] (by kernel_rfl) rfl ⟨?_, trivial⟩
                    (apply DrOp_q; (case hi => rfl); (case hon => exact Va); (case hd => rfl); (case hq => exact YlA))
                    refine Dr_step [8] (by kernel_rfl) rfl ⟨?_, trivial⟩
                    (apply DrOp_q; (case hi => rfl); (case hon => exact Va); (case hd => rfl); (case hq => exact YlA))
                    refine Dr_step [9] (by kernel_rfl) rfl ⟨?_, trivial⟩
                    (apply DrOp_q; (case hi => rfl); (case hon => exact Va); (case hd => rfl); (case hq => exact YlA))
                    refine Dr_end (by kernel_rfl) ?_
                    repeat (first | refine Vx ?_ | (apply Ops_q; (case hon => exact Va); (case hd => rfl); (case hq => exact YlA)) | refine Vr ?_ | refine Vt ?_ | refine Vf ?_ | refine Vm ?_ | refine Ve ?_ | refine Vo ?_ | refine Vz ?_ | refine Vn ?_)
                    refine ret2 (by first | exact .inl rfl | exact .inr rfl) rfl rfl rfl ?_
                    exact hfin w4 N' L' e4 hcf
end Go.Proofs.Ytjpnaofoeeegeaa


/-
  Stride tables (layer 8): Check, Lookup, Size.
  Conditions: the lists are not too long for a machine; the words are words of 64 bits.
-/
namespace Go.Proofs.Ytjpnaofoeeegeaa
open Go.RowKit

/-- What Check says of a table: OK for the forms of functions with no value below -1. -/
def ChkC (N : List Nd) (L : List Int) (v : Int) : Prop := (v = 0 ∧ ∃ g, GeM g ∧ IsCf g N L) ∨ (v = (if N.length = 0 then 3 else 1) ∧ ∀ g, GeM g → ¬IsCf g N L)
theorem checkS_v (aN aL : Option Addr) (N : List Nd) (L : List Int) (cN cL : Nat) (w : World) (hN : Nds w aN N) (hL : Ins w aL L) (hW : NdW N) (hn : N.length ≤ 80000000000) (hl : L.length ≤ 4611686018427387904) :
    Calls Try.prog 29 #[.agg #[.slice aN N.length cN, .slice aL L.length cL]] w (Gives (fun r _ => ∃ v, r = .int .i64 v ∧ ChkC N L v) w) := by
  refine V_enter (vs := [_]) Try.func29 rfl Try.ntmps29 (Nat.le_of_ble_eq_true rfl) ?_
  repeat (first | refine Vx ?_ | (apply Ops_q; (case hon => exact Va); (case hd => rfl); (case hq => exact YlA)) | refine Vr ?_ | refine Vt ?_ | refine Vf ?_ | refine Vm ?_ | refine Ve ?_ | refine Vo ?_ | refine Vz ?_ | refine Vn ?_)
  (refine Ops_box (by exact Va) rfl rfl rfl ?_; intro w1 b1 n_b1; have k_b1 := n_b1.blk)
  have x1 := n_b1.ext
  clear n_b1
  repeat (first | refine Vx ?_ | (apply Ops_q; (case hon => exact Va); (case hd => rfl); (case hq => exact YlA)) | refine Vr ?_ | refine Vt ?_ | refine Vf ?_ | refine Vm ?_ | refine Ve ?_ | refine Vo ?_ | refine Vz ?_ | refine Vn ?_)
  refine V_cond rfl (fun h0 => ?_) (fun h0 => ?_)
  · have h0' : N.length = 0 := by have := of_decide_eq_true h0; omega
    repeat (first | refine Vx ?_ | (apply Ops_q; (case hon => exact Va); (case hd => rfl); (case hq => exact YlA)) | refine Vr ?_ | refine Vt ?_ | refine Vf ?_ | refine Vm ?_ | refine Ve ?_ | refine Vo ?_ | refine Vz ?_ | refine Vn ?_)
    refine ret1 (by first | exact .inl rfl | exact .inr rfl) rfl rfl ?_
    exact Gives_mk (fun _ _ => ⟨_, rfl, .inr ⟨by rw [if_pos h0'], fun g _ hc => by have := hc.ne; omega⟩⟩) x1
  · have h0' : ¬N.length = 0 := by have := of_decide_eq_false h0; omega
    clear h0
    repeat (first | refine Vx ?_ | (apply Ops_q; (case hon => exact Va); (case hd => rfl); (case hq => exact YlA)) | refine Vr ?_ | refine Vt ?_ | refine Vf ?_ | refine Vm ?_ | refine Ve ?_ | refine Vo ?_ | refine Vz ?_ | refine Vn ?_)
    (refine Ops_callR (by exact Va) rfl rfl (fun w_ e_ => decode_v aN aL N L cN cL w_ (hN.ext (x1.trans e_)) (hL.ext (x1.trans e_)) hW hn hl) ?_; intro vr w2 w0_ e0_ e1_ r_vr; have e_w2 := e0_.trans e1_; have b_vr := e0_.size; clear e0_ e1_)
    obtain ⟨v, ok, rfl, h1, h2⟩ := r_vr
    cases ok with
    | true =>
      obtain ⟨R, g, _, _, hc, hg⟩ := h1 rfl
      repeat (first | refine Vx ?_ | (apply Ops_q; (case hon => exact Va); (case hd => rfl); (case hq => exact YlA)) | refine Vr ?_ | refine Vt ?_ | refine Vf ?_ | refine Vm ?_ | refine Ve ?_ | refine Vo ?_ | refine Vz ?_ | refine Vn ?_)
      refine ret1 (by first | exact .inl rfl | exact .inr rfl) rfl rfl ?_
      exact Gives_mk (fun _ _ => ⟨_, rfl, .inl ⟨rfl, g, hg, hc⟩⟩) (x1.trans e_w2)
    | false =>
      have h3 := h2 rfl
      repeat (first | refine Vx ?_ | (apply Ops_q; (case hon => exact Va); (case hd => rfl); (case hq => exact YlA)) | refine Vr ?_ | refine Vt ?_ | refine Vf ?_ | refine Vm ?_ | refine Ve ?_ | refine Vo ?_ | refine Vz ?_ | refine Vn ?_)
      refine ret1 (by first | exact .inl rfl | exact .inr rfl) rfl rfl ?_
      exact Gives_mk (fun _ _ => ⟨_, rfl, .inr ⟨by rw [if_neg h0'], h3⟩⟩) (x1.trans e_w2)
theorem digitS_v (a i : Nat) (w : World) (ha : a < 4294967296) (hi : i ≤ 5) : Calls Try.prog 43 #[.int .u32 a, .int .i64 i] w (Ret (.int .i64 (digN a i)) w) := by
  refine V_enter (vs := [_, _]) Try.func43 rfl Try.ntmps43 (Nat.le_of_ble_eq_true rfl) ?_
  have e30 : (30 : Int) - 6 * (i : Int) = ((30 - 6 * i : Nat) : Int) := by omega
  have ea : (a : Int) * 2 ^ (4 : Int).toNat = ((a * 16 : Nat) : Int) := by rw [Int.natCast_mul]; rfl
  have hk4 : InK .u64 ((a : Int) * 2 ^ (4 : Int).toNat) := by rw [ea]; simp only [InK]; omega
  have ed : bits .and .u64 ((a : Int) * 2 ^ (4 : Int).toNat / 2 ^ ((30 : Int) - 6 * (i : Int)).toNat) 63 = ((digN a i : Nat) : Int) := by
    have hlt : a * 16 / 2 ^ (30 - 6 * i) < 18446744073709551616 := Nat.lt_of_le_of_lt (Nat.div_le_self _ _) (by omega)
    rw [e30, ea, Int.toNat_natCast, cast_div, show (63 : Int) = ((63 : Nat) : Int) from rfl, u64_and_nat _ _ hlt (by omega)]
    unfold digN
    rw [show (63 : Nat) = 2 ^ 6 - 1 from rfl, Nat.and_two_pow_sub_one_eq_mod]
  have hdl := digN_lt a i
  have hin : InK .i64 (bits .and .u64 ((a : Int) * 2 ^ (4 : Int).toNat / 2 ^ ((30 : Int) - 6 * (i : Int)).toNat) 63) := by rw [ed]; simp only [InK]; omega
  clear ea e30
  repeat (first | refine Vx ?_ | (apply Ops_q; (case hon => exact Va); (case hd => rfl); (case hq => exact YlA)) | refine Vr ?_ | refine Vt ?_ | refine Vf ?_ | refine Vm ?_ | refine Ve ?_ | refine Vo ?_ | refine Vz ?_ | refine Vn ?_)
  rw [ed]
  refine ret1 (by first | exact .inl rfl | exact .inr rfl) rfl rfl ?_
  exact Ret_mk rfl (Ext.refl _)
/-- What Lookup returns. -/
def LkC (N : List Nd) (L : List Int) (a : Nat) (r : Value) : Prop := (∃ g, GeM g ∧ IsCf g N L ∧ r = .tuple #[.int .i64 (g a), .int .i64 (dep g a 6 (0, 0))]) ∨ ((∀ g, GeM g → ¬IsCf g N L) ∧ r = .tuple #[.int .i64 (-1), .int .i64 0])
theorem XpGood.out {g : Nat → Int} {N : List Nd} {L : List Int} {node : Nat} {p : Nat × Nat} (h : XpGood g N L node p) (hn : node < N.length) {x : Nd} (hx : N[node]? = some x) {k : Nat} (hk : k < 64) (hb : x.inner / 2 ^ k % 2 ≠ 1) : inB g p k = false := by
  have h0 := h.nd hn
  rw [hx] at h0
  cases h0
  have hbit := CfAt.bit g node p hk
  cases hc : inB g p k with
  | false => rfl
  | true => rw [hc] at hbit; exact absurd hbit hb
theorem XpGood.al {g : Nat → Int} {N : List Nd} {L : List Int} {node : Nat} {p : Nat × Nat} (h : XpGood g N L node p) : PlAl p := row_al g node p (List.mem_of_getElem? h.2.2.2)
/-- One step of an address' way. -/
theorem way_leaf {g : Nat → Int} {N : List Nd} {L : List Int} {node base i a : Nat} (hG : XpGood g N L node (base, i)) (hnode : node < N.length) {x : Nd} (hx : N[node]? = some x) (h1 : base ≤ a) (h2 : a < base + nsz i) (hd : dep g a 6 (0, 0) = i + dep g a (6 - i) (base, i)) (hb : x.inner / 2 ^ digN a i % 2 ≠ 1) :
    0 < rankN x.leaf (digN a i + 1) ∧ leafV L (lfC N node) (rankN x.leaf (digN a i + 1)) = g a ∧ dep g a 6 (0, 0) = i + 1 := by
  have hi : i ≤ 5 := hG.ok.1
  obtain ⟨hok, hl, hh⟩ := digN_at hi hG.al h1 h2
  have hk := digN_lt a i
  obtain ⟨q1, q2⟩ := hG.leaf hnode hx hk hb
  obtain ⟨q3, q4⟩ := q2 hok
  have hin := hG.out hnode hx hk hb
  refine ⟨q1, by rw [q3]; exact (q4 a hl hh).symm, ?_⟩
  rw [hd]
  obtain ⟨m, hm⟩ : ∃ m, 6 - i = m + 1 := ⟨5 - i, by omega⟩
  rw [hm, dep]
  dsimp only
  rw [hin]; rfl
theorem way_kid {g : Nat → Int} {N : List Nd} {L : List Int} {node base i a : Nat} (hG : XpGood g N L node (base, i)) (hnode : node < N.length) {x : Nd} (hx : N[node]? = some x) (h1 : base ≤ a) (h2 : a < base + nsz i) (hd : dep g a 6 (0, 0) = i + dep g a (6 - i) (base, i)) (hb : x.inner / 2 ^ digN a i % 2 = 1) (hR : Reg N L) :
    i + 1 ≤ 5 ∧ ndC N node + rankN x.inner (digN a i) < N.length ∧ XpGood g N L (ndC N node + rankN x.inner (digN a i)) (digLo i base (digN a i), i + 1) ∧ digLo i base (digN a i) ≤ a ∧ a < digLo i base (digN a i) + nsz (i + 1) ∧ dep g a 6 (0, 0) = i + 1 + dep g a (6 - (i + 1)) (digLo i base (digN a i), i + 1) := by
  have hi : i ≤ 5 := hG.ok.1
  obtain ⟨hok, hl, hh⟩ := digN_at hi hG.al h1 h2
  have hk := digN_lt a i
  obtain ⟨hin, _, hG2⟩ := hG.kid hnode hx hk hb
  have h5 := (inB_of hi hin).2.1
  refine ⟨h5, hR.kid hx hk hb, hG2, hl, hh, ?_⟩
  rw [hd]
  obtain ⟨m, hm⟩ : ∃ m, 6 - i = m + 1 := ⟨5 - i, by omega⟩
  rw [hm, dep, show 6 - (i + 1) = m by omega]
  dsimp only
  rw [hin]
  simp only [if_true]
  omega
set_option maxHeartbeats 1000000 in
theorem lookupS_v (aN aL : Option Addr) (N : List Nd) (L : List Int) (cN cL a : Nat) (w : World) (hN : Nds w aN N) (hL : Ins w aL L) (hW : NdW N) (hn : N.length ≤ 80000000000) (hl : L.length ≤ 4611686018427387904) (ha : a < 4294967296) :
    Calls Try.prog 16 #[.agg #[.slice aN N.length cN, .slice aL L.length cL], .int .u32 a] w (Gives (fun r _ => LkC N L a r) w) := by
  refine V_enter (vs := [_, _]) Try.func16 rfl Try.ntmps16 (Nat.le_of_ble_eq_true rfl) ?_
  repeat (first | refine Vx ?_ | (apply Ops_q; (case hon => exact Va); (case hd => rfl); (case hq => exact YlA)) | refine Vr ?_ | refine Vt ?_ | refine Vf ?_ | refine Vm ?_ | refine Ve ?_ | refine Vo ?_ | refine Vz ?_ | refine Vn ?_)
  (refine Ops_box (by exact Va) rfl rfl rfl ?_; intro w1 b2 n_b2; have k_b2 := n_b2.blk)
  have x1 := n_b2.ext
  clear n_b2
  repeat (first | refine Vx ?_ | (apply Ops_q; (case hon => exact Va); (case hd => rfl); (case hq => exact YlA)) | refine Vr ?_ | refine Vt ?_ | refine Vf ?_ | refine Vm ?_ | refine Ve ?_ | refine Vo ?_ | refine Vz ?_ | refine Vn ?_)
  (refine Ops_callR (by exact Va) rfl rfl (fun w_ e_ => checkS_v aN aL N L cN cL w_ (hN.ext (x1.trans e_)) (hL.ext (x1.trans e_)) hW hn hl) ?_; intro vr w2 w0_ e0_ e1_ r_vr; have e_w2 := e0_.trans e1_; have b_vr := e0_.size; clear e0_ e1_)
  obtain ⟨v, rfl, hv⟩ := r_vr
  have x2 := x1.trans e_w2
  replace k_b2 := k_b2.ext e_w2
  clear b_vr e_w2 x1
  rcases hv with ⟨rfl, g, hg, hc⟩ | ⟨rfl, hno⟩
  · have hR := hc.reg hg
    repeat (first | refine Vx ?_ | (apply Ops_q; (case hon => exact Va); (case hd => rfl); (case hq => exact YlA)) | refine Vr ?_ | refine Vt ?_ | refine Vf ?_ | refine Vm ?_ | refine Ve ?_ | refine Vo ?_ | refine Vz ?_ | refine Vn ?_)
    refine V_loop (fun s : Nat × Nat × Nat => [(15, .int .i64 s.1), (6, .int .i64 s.2.1), (2, .pointer (some ⟨b2, 0, none⟩)), (1, .int .u32 a)])
      (fun s w' => Ext w2 w' ∧ s.1 ≤ 5 ∧ s.2.1 < N.length ∧ XpGood g N L s.2.1 (s.2.2, s.1) ∧ s.2.2 ≤ a ∧ a < s.2.2 + nsz s.1 ∧ dep g a 6 (0, 0) = s.1 + dep g a (6 - s.1) (s.2.2, s.1)) (fun s => 6 - s.1) (0, 0, 0) (by repeat (first | exact trivial | refine ⟨rfl, ?_⟩))
      ⟨Ext.refl _, Nat.zero_le _, hc.ne, hc.good, Nat.zero_le _, by dsimp only; rw [nsz_zero]; omega, by dsimp only; rw [Nat.zero_add]⟩ ?_
    rintro ⟨i, node, base⟩ w3 ⟨x3, hi, hnode, hG, h1, h2, hd⟩
    dsimp only at hi hnode hG h1 h2 hd ⊢
    obtain ⟨x, hx⟩ : ∃ x, N[node]? = some x := ⟨_, List.getElem?_eq_getElem hnode⟩
    obtain ⟨hx1, hx2⟩ := hW x (List.mem_of_getElem? hx)
    obtain ⟨hxn, hxf, _⟩ := hR.at_ node x hx
    obtain ⟨adN, rfl, hcN⟩ := hN.at hx
    have hcN3 : Cells w3 (adN.add (node * 4)) [.int .u64 x.inner, .int .u64 x.leaf, .int .i64 x.nodes, .int .i64 x.first] := hcN.ext (x2.trans x3)
    have hdk := digN_lt a i
    have hb := and_one64 x.inner (digN a i) hx1
    have hlf : 0 < rankN x.leaf (digN a i + 1) → lfC N node + rankN x.leaf (digN a i + 1) - 1 < L.length := hR.leaf hx (show digN a i + 1 ≤ 64 from hdk)
    have hlfl := hR.lf_le (Nat.le_of_lt hnode)
    have hwl := way_leaf hG hnode hx h1 h2 hd
    have hwk := fun hb => way_kid hG hnode hx h1 h2 hd hb hR
    have hd6 : decide ((i : Int) < 6) = true := decide_eq_true (by omega)
    have hlk : lfC N node ≤ 4611686018427387904 := Nat.le_trans hlfl hl
    have hdig := fun (w_ : World) => digitS_v a i w_ ha hi
    have hleaf := fun (w_ : World) (h : Ins w_ aL L) => leaf_v (some adN) aL N.length L cN cL x (lfC N node) (digN a i) w_ h hx2 hxf hdk hlf hl hlk
    generalize hdd : digN a i = dg at *
    have e1 : x.nodes + (rankN x.inner dg : Int) = ((ndC N node + rankN x.inner dg : Nat) : Int) := by rw [hxn, Int.natCast_add]
    have k2 := k_b2.ext x3
    clear hdd hlf hlfl hlk
    repeat (first | refine Vx ?_ | (apply Ops_q; (case hon => exact Va); (case hd => rfl); (case hq => exact YlA)) | refine Vr ?_ | refine Vt ?_ | refine Vf ?_ | refine Vm ?_ | refine Ve ?_ | refine Vo ?_ | refine Vz ?_ | refine Vn ?_)
    refine V_yes rfl hd6 ?_
    repeat (first | refine Vx ?_ | (apply Ops_q; (case hon => exact Va); (case hd => rfl); (case hq => exact YlA)) | refine Vt ?_ | refine Vf ?_ | refine Vm ?_ | refine Ve ?_ | refine Vo ?_ | refine Vz ?_ | refine Vn ?_)
    refine V_draw1 9 (by kernel_rfl) (by kernel_rfl) rfl rfl ?_
    repeat (first | refine Vx ?_ | (apply Ops_q; (case hon => exact Va); (case hd => rfl); (case hq => exact YlA)) | refine Vr ?_ | refine Vt ?_ | refine Vf ?_ | refine Vm ?_ | refine Ve ?_ | refine Vo ?_ | refine Vz ?_ | refine Vn ?_)
    (apply Ops_q; (case hon => (exact Va)); (case hd => rfl); (case hq => exact Yl_indexS (j := node) rfl rfl (by omega)))
    repeat (first | refine Vx ?_ | (apply Ops_q; (case hon => exact Va); (case hd => rfl); (case hq => exact YlA)) | refine Vr ?_ | refine Vt ?_ | refine Vf ?_ | refine Vm ?_ | refine Ve ?_ | refine Vo ?_ | refine Vz ?_ | refine Vn ?_)
    (apply Ops_q; (case hon => (exact Va)); (case hd => rfl); (case hq => exact Yl_call rfl (fun w_ e_ => hdig w_)))
    repeat (first | refine Vx ?_ | (apply Ops_q; (case hon => exact Va); (case hd => rfl); (case hq => exact YlA)) | refine Vr ?_ | refine Vt ?_ | refine Vf ?_ | refine Vm ?_ | refine Ve ?_ | refine Vo ?_ | refine Vz ?_ | refine Vn ?_)
    (intro w4 b8 n_b8; have k_b8 := n_b8.blk)
    repeat (first | refine Vx ?_ | (apply Ops_q; (case hon => exact Va); (case hd => rfl); (case hq => exact YlA)) | refine Vr ?_ | refine Vt ?_ | refine Vf ?_ | refine Vm ?_ | refine Ve ?_ | refine Vo ?_ | refine Vz ?_ | refine Vn ?_)
    (refine Ops_store (by exact Va) rfl rfl (by assumption) (by first | rfl | exact OneAll.h) ?_; intro w5 u_w5; have k_b8 := u_w5.blk)
    have x5 : Ext w3 w5 := u_w5.below n_b8.ext n_b8.ge
    replace k2 := k2.ext x5
    clear u_w5 n_b8
    repeat (first | refine Vx ?_ | (apply Ops_q; (case hon => exact Va); (case hd => rfl); (case hq => exact YlA)) | refine Vr ?_ | refine Vt ?_ | refine Vf ?_ | refine Vm ?_ | refine Ve ?_ | refine Vo ?_ | refine Vz ?_ | refine Vn ?_)
    by_cases hbit : x.inner / 2 ^ dg % 2 = 1
    · obtain ⟨q1, q2, q3, q4, q5, q6⟩ := hwk hbit
      have hd1 : decide (bits .and .u64 ((x.inner : Int) / 2 ^ ((dg : Nat) : Int).toNat) 1 = 0) = false := by rw [hb, hbit]; rfl
      have hin : InK .i64 (x.nodes + (rankN x.inner dg : Int)) := by rw [e1]; simp only [InK]; omega
      clear hwl hb
      refine V_no rfl hd1 ?_
      repeat (first | refine Vx ?_ | (apply Ops_q; (case hon => exact Va); (case hd => rfl); (case hq => exact YlA)) | refine Vr ?_ | refine Vt ?_ | refine Vf ?_ | refine Vm ?_ | refine Ve ?_ | refine Vo ?_ | refine Vz ?_ | refine Vn ?_)
      (apply Ops_q; (case hon => (exact Va)); (case hd => rfl); (case hq => exact Yl_call rfl (fun w_ e_ => rank_v x.inner dg w_ hx1 (Nat.le_of_lt hdk))))
      repeat (first | refine Vx ?_ | (apply Ops_q; (case hon => exact Va); (case hd => rfl); (case hq => exact YlA)) | refine Vr ?_ | refine Vt ?_ | refine Vf ?_ | refine Vm ?_ | refine Ve ?_ | refine Vo ?_ | refine Vz ?_ | refine Vn ?_)
      rw [e1]
      exact ⟨(i + 1, ndC N node + rankN x.inner dg, digLo i base dg), (by repeat (first | exact trivial | refine ⟨rfl, ?_⟩)), ⟨x3.trans x5, q1, q2, q3, q4, q5, q6⟩, by simp only; omega⟩
    · obtain ⟨q1, q2, q3⟩ := hwl hbit
      have hd1 : decide (bits .and .u64 ((x.inner : Int) / 2 ^ ((dg : Nat) : Int).toNat) 1 = 0) = true := by rw [hb]; exact decide_eq_true (by omega)
      clear hwk hb
      refine V_yes rfl hd1 ?_
      repeat (first | refine Vx ?_ | (apply Ops_q; (case hon => exact Va); (case hd => rfl); (case hq => exact YlA)) | refine Vr ?_ | refine Vt ?_ | refine Vf ?_ | refine Vm ?_ | refine Ve ?_ | refine Vo ?_ | refine Vz ?_ | refine Vn ?_)
      (apply Ops_q; (case hon => (exact Va)); (case hd => rfl); (case hq => exact Yl_call rfl (fun w_ e_ => hleaf w_ (hL.ext (x2.trans (x3.trans (x5.trans e_)))))))
      rw [q2]
      repeat (first | refine Vx ?_ | (apply Ops_q; (case hon => exact Va); (case hd => rfl); (case hq => exact YlA)) | refine Vr ?_ | refine Vt ?_ | refine Vf ?_ | refine Vm ?_ | refine Ve ?_ | refine Vo ?_ | refine Vz ?_ | refine Vn ?_)
      refine ret2 (by first | exact .inl rfl | exact .inr rfl) rfl rfl rfl ?_
      exact Gives_mk (fun _ _ => .inl ⟨g, hg, hc, by rw [q3, Int.natCast_add]; rfl⟩) (x2.trans (x3.trans x5))
  · have hd : (!decide ((if N.length = 0 then (3 : Int) else 1) = 0)) = true := by split <;> rfl
    repeat (first | refine Vx ?_ | (apply Ops_q; (case hon => exact Va); (case hd => rfl); (case hq => exact YlA)) | refine Vr ?_ | refine Vt ?_ | refine Vf ?_ | refine Vm ?_ | refine Ve ?_ | refine Vo ?_ | refine Vz ?_ | refine Vn ?_)
    refine V_yes rfl hd ?_
    repeat (first | refine Vx ?_ | (apply Ops_q; (case hon => exact Va); (case hd => rfl); (case hq => exact YlA)) | refine Vr ?_ | refine Vt ?_ | refine Vf ?_ | refine Vm ?_ | refine Ve ?_ | refine Vo ?_ | refine Vz ?_ | refine Vn ?_)
    refine ret2 (by first | exact .inl rfl | exact .inr rfl) rfl rfl rfl ?_
    exact Gives_mk (fun _ _ => .inr ⟨hno, rfl⟩) x2
end Go.Proofs.Ytjpnaofoeeegeaa


/-
  Part 2 of the texts that the proof of this claim leans on: rules of a walk, contracts of functions, plain facts. Each piece says below what it proves.
  No conditions beyond those that each lemma states.
-/
import Derived.Test.YtjpnaofoeeegeaaT1

/-
  Layer 6 (trie): the walk of Put.
  Conditions: addresses are below 2^32.
-/
namespace Go.Proofs.Ytjpnaofoeeegeaa
open Go.RowKit

def setE (E : Nat → Nat → Option Int) (p : Pf) (v : Int) : Nat → Nat → Option Int := fun x k => if x = p.a ∧ k = p.n.toNat then some v else E x k
section
variable {w w1 : World} {base b0 : Nat} {N : Nat → Nat → Option Nat} {E : Nat → Nat → Option Int} {n : Int}
theorem kid_add_same (N : Nat → Nat → Option Nat) {x k bit b' : Nat} (hk : k < 32) : kid (addN N (kidA x k bit) (k + 1) b') x k bit = some b' := by
  rw [kid, if_pos hk, addN, if_pos ⟨rfl, rfl⟩]
theorem kid_add_other (N : Nat → Nat → Option Nat) {x k bit bit' b' : Nat} (hk : k < 32) (hx : top x k = x) (hb : bit < 2) (hb' : bit' < 2) (hne : bit' ≠ bit) : kid (addN N (kidA x k bit) (k + 1) b') x k bit' = kid N x k bit' := by
  rw [kid, if_pos hk, kid, if_pos hk, addN, if_neg]
  rintro ⟨e, _⟩
  exact hne (kid_inj hk hx hx hb' hb e).2
theorem foot_add {N : Nat → Nat → Option Nat} {x k b' c : Nat} (h : Foot (addN N x k b') c) : Foot N c ∨ c = b' := by
  obtain ⟨y, j, h⟩ := h
  unfold addN at h
  split at h
  · cases h; exact .inr rfl
  · exact .inl ⟨y, j, h⟩
end
/-- What Put leaves. -/
def PutR (base b0 : Nat) (N : Nat → Nat → Option Nat) (E : Nat → Nat → Option Int) (n : Int) (p : Pf) (v : Int) (w : World) (r : Value) (w' : World) : Prop :=
  r = .tuple #[.bool (at_ E p).isNone, .int .i64 0] ∧ ∃ N', TrieM w' base b0 N' (setE E p v) (if (at_ E p).isNone then n + 1 else n) ∧ ∀ c, Foot N' c → Foot N c ∨ w.heap.size ≤ c
theorem put_bad (b0 : Nat) (p : Pf) (v : Int) (w : World) (ha : p.a < 4294967296) (hv : p.valid = false) :
    Calls Try.prog 41 #[.pointer (some ⟨b0, 0, none⟩), p.val, .int .i64 v] w (Ret (.tuple #[.bool false, .int .i64 1]) w) := by
  refine V_enter (vs := [_, _, _]) Try.func41 rfl Try.ntmps41 (Nat.le_of_ble_eq_true rfl) ?_
  repeat (first | refine Vx ?_ | (apply Ops_q; (case hon => exact Va); (case hd => rfl); (case hq => exact YlA)) | refine Vr ?_ | refine Vt ?_ | refine Vf ?_ | refine Vm ?_ | refine Ve ?_ | refine Vo ?_ | refine Vz ?_ | refine Vn ?_)
  (refine Ops_box (by exact Va) rfl rfl rfl ?_; intro w1 b1 n_b1; have k_b1 := n_b1.blk)
  repeat (first | refine Vx ?_ | (apply Ops_q; (case hon => exact Va); (case hd => rfl); (case hq => exact YlA)) | refine Vr ?_ | refine Vt ?_ | refine Vf ?_ | refine Vm ?_ | refine Ve ?_ | refine Vo ?_ | refine Vz ?_ | refine Vn ?_)
  (apply Ops_q; (case hon => (exact Va)); (case hd => rfl); (case hq => exact Yl_call rfl (fun w_ e_ => valid_v p w_ ha)))
  rw [hv]
  repeat (first | refine Vx ?_ | (apply Ops_q; (case hon => exact Va); (case hd => rfl); (case hq => exact YlA)) | refine Vr ?_ | refine Vt ?_ | refine Vf ?_ | refine Vm ?_ | refine Ve ?_ | refine Vo ?_ | refine Vz ?_ | refine Vn ?_)
  refine ret2 (by first | exact .inl rfl | exact .inr rfl) rfl rfl rfl ?_
  exact Ret_mk rfl n_b1.ext
set_option maxHeartbeats 1000000 in
theorem put_v {base b0 : Nat} {N : Nat → Nat → Option Nat} {E : Nat → Nat → Option Int} {n : Int} (p : Pf) (v : Int) (w : World) (h : TrieM w base b0 N E n) (ha : p.a < 4294967296) (hv : p.valid = true) (hbase : base ≤ w.heap.size) (hn0 : 0 ≤ n) (hn1 : n ≤ 4611686018427387904) :
    Calls Try.prog 41 #[.pointer (some ⟨b0, 0, none⟩), p.val, .int .i64 v] w (Does (Foot N) (PutR base b0 N E n p v w) w) := by
  obtain ⟨v1, v2, v3⟩ := Pf.valid_iff.1 hv
  obtain ⟨len, hlen⟩ : ∃ len : Nat, p.n = len := ⟨p.n.toNat, by omega⟩
  have hat : at_ E p = E p.a len := by rw [at_, hlen, Int.toNat_natCast]
  rw [hlen, Int.toNat_natCast] at v3
  have hl32 : len ≤ 32 := by omega
  refine V_enter (vs := [_, _, _]) Try.func41 rfl Try.ntmps41 (Nat.le_of_ble_eq_true rfl) ?_
  repeat (first | refine Vx ?_ | (apply Ops_q; (case hon => exact Va); (case hd => rfl); (case hq => exact YlA)) | refine Vr ?_ | refine Vt ?_ | refine Vf ?_ | refine Vm ?_ | refine Ve ?_ | refine Vo ?_ | refine Vz ?_ | refine Vn ?_)
  (refine Ops_box (by exact Va) rfl rfl rfl ?_; intro w1 b1 n_b1; have k_b1 := n_b1.blk)
  rw [hlen] at k_b1
  have hst : N (top p.a 0) 0 = some b0 := by rw [top_zero _ ha, h.root]
  have hf1 : ¬Foot N b1 := fun hf => by have := h.lt hf; have := n_b1.ge; omega
  replace h := h.ext n_b1.ext
  repeat (first | refine Vx ?_ | (apply Ops_q; (case hon => exact Va); (case hd => rfl); (case hq => exact YlA)) | refine Vr ?_ | refine Vt ?_ | refine Vf ?_ | refine Vm ?_ | refine Ve ?_ | refine Vo ?_ | refine Vz ?_ | refine Vn ?_)
  have hpv : (⟨p.a, (len : Int)⟩ : Pf).valid = true := by rw [← hlen]; exact hv
  (apply Ops_q; (case hon => (exact Va)); (case hd => rfl); (case hq => exact Yl_call rfl (fun w_ e_ => valid_v (⟨p.a, (len : Int)⟩ : Pf) w_ ha)))
  rw [hpv]
  repeat (first | refine Vx ?_ | (apply Ops_q; (case hon => exact Va); (case hd => rfl); (case hq => exact YlA)) | refine Vr ?_ | refine Vt ?_ | refine Vf ?_ | refine Vm ?_ | refine Ve ?_ | refine Vo ?_ | refine Vz ?_ | refine Vn ?_)
  refine V_loop (fun s : Nat × Nat × (Nat → Nat → Option Nat) => [(22, .int .i64 s.1), (8, .pointer (some ⟨s.2.1, 0, none⟩)), (21, .int .i64 len), (4, .pointer (some ⟨b1, 0, none⟩)), (0, .pointer (some ⟨b0, 0, none⟩)), (2, .int .i64 v)])
    (fun s w' => Mod (Foot N) w w' ∧ s.1 ≤ len ∧ TrieM w' base b0 s.2.2 E n ∧ Blk w' b1 40 [.int .u32 p.a, .int .i64 len] ∧ s.2.2 (top p.a s.1) s.1 = some s.2.1 ∧ (∀ c, Foot s.2.2 c → Foot N c ∨ w.heap.size ≤ c) ∧ ¬Foot s.2.2 b1) (fun s => len - s.1) (0, b0, N)
    (by repeat (first | exact trivial | refine ⟨rfl, ?_⟩)) ⟨.of_ext n_b1.ext, Nat.zero_le _, h, k_b1, hst, fun c hc => .inl hc, hf1⟩ ?_
  clear h hf1 hst k_b1
  rintro ⟨k, b, M⟩ w2 ⟨m2, hk, h, k_b1, hb, hf, hf1⟩
  dsimp only at hk h hb hf hf1 ⊢
  repeat (first | refine Vx ?_ | (apply Ops_q; (case hon => exact Va); (case hd => rfl); (case hq => exact YlA)) | refine Vr ?_ | refine Vt ?_ | refine Vf ?_ | refine Vm ?_ | refine Ve ?_ | refine Vo ?_ | refine Vz ?_ | refine Vn ?_)
  refine V_cond rfl (fun hg => ?_) (fun hg => ?_)
  · replace hg := of_decide_eq_true hg
    have hkl : k < len := by omega
    have hk32 : k < 32 := by omega
    have hkc := h.kid_cell hb (bit_lt p.a k)
    have hb2 := bit_lt p.a k
    have hcan := h.can _ _ _ hb
    have hkid := top_kid p.a hk32
    repeat (first | refine Vx ?_ | (apply Ops_q; (case hon => exact Va); (case hd => rfl); (case hq => exact YlA)) | refine Vr ?_ | refine Vt ?_ | refine Vf ?_ | refine Vm ?_ | refine Ve ?_ | refine Vo ?_ | refine Vz ?_ | refine Vn ?_)
    (apply Ops_q; (case hon => (exact Va)); (case hd => rfl); (case hq => exact Yl_call rfl (fun w_ e_ => bit_v p.a k w_ ha)))
    repeat (first | refine Vx ?_ | (apply Ops_q; (case hon => exact Va); (case hd => rfl); (case hq => exact YlA)) | refine Vr ?_ | refine Vt ?_ | refine Vf ?_ | refine Vm ?_ | refine Ve ?_ | refine Vo ?_ | refine Vz ?_ | refine Vn ?_)
    (apply Ops_q; (case hon => (exact Va)); (case hd => rfl); (case hq => exact Yl_indexA (j := (bitAt p.a k)) rfl rfl (by first | exact Nat.le_of_ble_eq_true rfl | omega)))
    repeat (first | refine Vx ?_ | (apply Ops_q; (case hon => exact Va); (case hd => rfl); (case hq => exact YlA)) | refine Vr ?_ | refine Vt ?_ | refine Vf ?_ | refine Vm ?_ | refine Ve ?_ | refine Vo ?_ | refine Vz ?_ | refine Vn ?_)
    refine V_meet1 (fun M : Nat → Nat → Option Nat => [(22, .int .i64 k), (8, .pointer (some ⟨b, 0, none⟩)), (10, .int .i64 (bitAt p.a k)), (21, .int .i64 len), (4, .pointer (some ⟨b1, 0, none⟩)), (0, .pointer (some ⟨b0, 0, none⟩)), (2, .int .i64 v)])
      (fun M w' => Mod (Foot N) w w' ∧ TrieM w' base b0 M E n ∧ Blk w' b1 40 [.int .u32 p.a, .int .i64 len] ∧ M (top p.a k) k = some b ∧ (∃ b', M (top p.a (k + 1)) (k + 1) = some b') ∧ (∀ c, Foot M c → Foot N c ∨ w.heap.size ≤ c) ∧ ¬Foot M b1) ?_ ?_
    · cases hkb : kid M (top p.a k) k (bitAt p.a k) with
      | some b' =>
        rw [ptrV_some]
        repeat (first | refine Vx ?_ | (apply Ops_q; (case hon => exact Va); (case hd => rfl); (case hq => exact YlA)) | refine Vr ?_ | refine Vt ?_ | refine Vf ?_ | refine Vm ?_ | refine Ve ?_ | refine Vo ?_ | refine Vz ?_ | refine Vn ?_)
        refine ⟨M, (by repeat (first | exact trivial | refine ⟨rfl, ?_⟩)), m2, h, k_b1, hb, ⟨b', ?_⟩, hf, hf1⟩
        rw [kid, if_pos hk32, ← hkid] at hkb; exact hkb
      | none =>
        rw [ptrV_none]
        have hnone : M (kidA (top p.a k) k (bitAt p.a k)) (k + 1) = none := by rw [kid, if_pos hk32] at hkb; exact hkb
        rw [hkid]
        generalize bitAt p.a k = bit at *
        generalize top p.a k = x at *
        repeat (first | refine Vx ?_ | (apply Ops_q; (case hon => exact Va); (case hd => rfl); (case hq => exact YlA)) | refine Vr ?_ | refine Vt ?_ | refine Vf ?_ | refine Vm ?_ | refine Ve ?_ | refine Vo ?_ | refine Vz ?_ | refine Vn ?_)
        (refine Ops_box (by exact Va) rfl rfl rfl ?_; intro w3 b3 n_b3; have k_b3 := n_b3.blk)
        have hB := h.node _ _ _ hb
        have hne : b ≠ b3 := fun e => by have := hB.lt; have := n_b3.ge; omega
        have hB3 : Blk w3 b (nodeT k) (ptrV (kid M x k 0) :: ptrV (kid M x k 1) :: .bool (E x k).isSome :: .int .i64 ((E x k).getD 0) :: nodeL k n) := hB.ext n_b3.ext
        have g3 : w.heap.size ≤ b3 := Nat.le_trans m2.size n_b3.ge
        have hbS : Foot N b ∨ w.heap.size ≤ b := hf b ⟨_, _, hb⟩
        have hne1 : b1 ≠ b := fun e => hf1 (by rw [e]; exact ⟨_, _, hb⟩)
        have hfin : ∀ w4, Upd w3 w4 b (nodeT k) (nodeC (addN M (kidA x k bit) (k + 1) b3) E x k (nodeL k n)) → ∃ M', Mod (Foot N) w w4 ∧ TrieM w4 base b0 M' E n ∧ Blk w4 b1 40 [.int .u32 p.a, .int .i64 len] ∧ M' x k = some b ∧ (∃ b', M' (kidA x k bit) (k + 1) = some b') ∧ (∀ c, Foot M' c → Foot N c ∨ w.heap.size ≤ c) ∧ ¬Foot M' b1 := fun w4 u => by
          refine ⟨addN M (kidA x k bit) (k + 1) b3, (m2.ext n_b3.ext).upd u hbS, ?_, ?_, ?_, ⟨b3, ?_⟩, fun c hc => ?_, fun hc => ?_⟩
          · refine h.addNode hb hk32 hb2 hnone n_b3.ge (Nat.le_trans hbase g3) (fun c hc hcb => by rw [u.other c hcb, n_b3.ext.block c hc]) (u.keep k_b3 (Ne.symm hne)) u.blk
          · exact u.keep (k_b1.ext n_b3.ext) hne1
          · rw [addN, if_neg (fun e => by omega)]; exact hb
          · rw [addN, if_pos ⟨rfl, rfl⟩]
          · rcases foot_add hc with hc | rfl
            · exact hf c hc
            · exact .inr g3
          · rcases foot_add hc with hc | e
            · exact hf1 hc
            · have := k_b1.lt; have := n_b3.ge; omega
        repeat (first | refine Vx ?_ | (apply Ops_q; (case hon => exact Va); (case hd => rfl); (case hq => exact YlA)) | refine Vr ?_ | refine Vt ?_ | refine Vf ?_ | refine Vm ?_ | refine Ve ?_ | refine Vo ?_ | refine Vz ?_ | refine Vn ?_)
        rcases (by omega : bit = 0 ∨ bit = 1) with rfl | rfl
        · (apply Ops_q; (case hon => (exact Va)); (case hd => rfl); (case hq => exact Yl_indexA (j := 0) rfl rfl (by first | exact Nat.le_of_ble_eq_true rfl | omega)))
          (refine Ops_store (by exact Va) rfl rfl hB3 (by rfl) ?_; intro w4 u_w4)
          have e1 : nodeC (addN M (kidA x k 0) (k + 1) b3) E x k (nodeL k n) = .pointer (some ⟨b3, 0, none⟩) :: ptrV (kid M x k 1) :: .bool (E x k).isSome :: .int .i64 ((E x k).getD 0) :: nodeL k n := by
            rw [nodeC, kid_add_same M hk32, kid_add_other M hk32 hcan.2.1 hb2 (by omega) (by omega)]; rfl
          rw [← e1] at u_w4
          obtain ⟨M', h1⟩ := hfin w4 u_w4
          repeat (first | refine Vx ?_ | (apply Ops_q; (case hon => exact Va); (case hd => rfl); (case hq => exact YlA)) | refine Vr ?_ | refine Vt ?_ | refine Vf ?_ | refine Vm ?_ | refine Ve ?_ | refine Vo ?_ | refine Vz ?_ | refine Vn ?_)
          exact ⟨M', (by repeat (first | exact trivial | refine ⟨rfl, ?_⟩)), h1⟩
        · (apply Ops_q; (case hon => (exact Va)); (case hd => rfl); (case hq => exact Yl_indexA (j := 1) rfl rfl (by first | exact Nat.le_of_ble_eq_true rfl | omega)))
          (refine Ops_store (by exact Va) rfl rfl hB3 (by rfl) ?_; intro w4 u_w4)
          have e1 : nodeC (addN M (kidA x k 1) (k + 1) b3) E x k (nodeL k n) = ptrV (kid M x k 0) :: .pointer (some ⟨b3, 0, none⟩) :: .bool (E x k).isSome :: .int .i64 ((E x k).getD 0) :: nodeL k n := by
            rw [nodeC, kid_add_same M hk32, kid_add_other M hk32 hcan.2.1 hb2 (by omega) (by omega)]; rfl
          rw [← e1] at u_w4
          obtain ⟨M', h1⟩ := hfin w4 u_w4
          repeat (first | refine Vx ?_ | (apply Ops_q; (case hon => exact Va); (case hd => rfl); (case hq => exact YlA)) | refine Vr ?_ | refine Vt ?_ | refine Vf ?_ | refine Vm ?_ | refine Ve ?_ | refine Vo ?_ | refine Vz ?_ | refine Vn ?_)
          exact ⟨M', (by repeat (first | exact trivial | refine ⟨rfl, ?_⟩)), h1⟩
    · clear hkc h hb hf hf1 m2 k_b1
      rintro M w3 ⟨m3, h, k_b1, hb, ⟨b', hb'⟩, hf, hf1⟩
      have hkc := h.kid_cell hb (bit_lt p.a k)
      rw [h.kid_eq p.a hk32, hb', ptrV_some] at hkc
      repeat (first | refine Vx ?_ | (apply Ops_q; (case hon => exact Va); (case hd => rfl); (case hq => exact YlA)) | refine Vr ?_ | refine Vt ?_ | refine Vf ?_ | refine Vm ?_ | refine Ve ?_ | refine Vo ?_ | refine Vz ?_ | refine Vn ?_)
      (apply Ops_q; (case hon => (exact Va)); (case hd => rfl); (case hq => exact Yl_indexA (j := (bitAt p.a k)) rfl rfl (by first | exact Nat.le_of_ble_eq_true rfl | omega)))
      repeat (first | refine Vx ?_ | (apply Ops_q; (case hon => exact Va); (case hd => rfl); (case hq => exact YlA)) | refine Vr ?_ | refine Vt ?_ | refine Vf ?_ | refine Vm ?_ | refine Ve ?_ | refine Vo ?_ | refine Vz ?_ | refine Vn ?_)
      exact ⟨(k + 1, b', M), (by repeat (first | exact trivial | refine ⟨rfl, ?_⟩)), ⟨m3, hkl, h, k_b1, hb', hf, hf1⟩, by simp only; omega⟩
  replace hg := of_decide_eq_false hg
  obtain rfl : k = len := by omega
  rw [v3] at hb
  have h1 := h.has_cell hb
  have hB : Blk w2 b (nodeT k) (ptrV (kid M p.a k 0) :: ptrV (kid M p.a k 1) :: .bool (E p.a k).isSome :: .int .i64 ((E p.a k).getD 0) :: nodeL k n) := h.node _ _ _ hb
  have hbS : Foot N b ∨ w.heap.size ≤ b := hf b ⟨_, _, hb⟩
  repeat (first | refine Vx ?_ | (apply Ops_q; (case hon => exact Va); (case hd => rfl); (case hq => exact YlA)) | refine Vr ?_ | refine Vt ?_ | refine Vf ?_ | refine Vm ?_ | refine Ve ?_ | refine Vo ?_ | refine Vz ?_ | refine Vn ?_)
  (refine Ops_store (by exact Va) rfl rfl hB (by rfl) ?_; intro w3 u_w3)
  repeat (first | refine Vx ?_ | (apply Ops_q; (case hon => exact Va); (case hd => rfl); (case hq => exact YlA)) | refine Vr ?_ | refine Vt ?_ | refine Vf ?_ | refine Vm ?_ | refine Ve ?_ | refine Vo ?_ | refine Vz ?_ | refine Vn ?_)
  have hB3 := u_w3.blk
  (refine Ops_store (by exact Va) rfl rfl hB3 (by rfl) ?_; intro w4 u_w4)
  have m4 := (m2.upd u_w3 hbS).upd u_w4 hbS
  have hsE : setE E p v p.a k = some v := by rw [setE, hlen, Int.toNat_natCast, if_pos ⟨rfl, rfl⟩]
  have h4 : TrieM w4 base b0 M (setE E p v) n := h.setE hb (fun c hc => by rw [u_w4.other c hc, u_w3.other c hc]) (by unfold nodeC; rw [hsE]; exact u_w4.blk) (fun x' k' hne => by
    rw [setE, if_neg]
    rw [hlen, Int.toNat_natCast]; exact hne)
  repeat (first | refine Vx ?_ | (apply Ops_q; (case hon => exact Va); (case hd => rfl); (case hq => exact YlA)) | refine Vr ?_ | refine Vt ?_ | refine Vf ?_ | refine Vm ?_ | refine Ve ?_ | refine Vo ?_ | refine Vz ?_ | refine Vn ?_)
  refine V_cond rfl (fun h5 => ?_) (fun h5 => ?_)
  · have h6 : (at_ E p).isNone = true := by rw [hat]; simpa using h5
    have hR := h4.n_cell
    have hB0 : Blk w4 b0 138 (ptrV (kid M 0 0 0) :: ptrV (kid M 0 0 1) :: .bool (setE E p v 0 0).isSome :: .int .i64 ((setE E p v 0 0).getD 0) :: [.int .i64 n]) := h4.node _ _ _ h4.root
    repeat (first | refine Vx ?_ | (apply Ops_q; (case hon => exact Va); (case hd => rfl); (case hq => exact YlA)) | refine Vr ?_ | refine Vt ?_ | refine Vf ?_ | refine Vm ?_ | refine Ve ?_ | refine Vo ?_ | refine Vz ?_ | refine Vn ?_)
    (refine Ops_store (by exact Va) rfl rfl hB0 (by rfl) ?_; intro w5 u_w5)
    have h7 := h4.setN u_w5.other u_w5.blk
    have m5 := m4.upd u_w5 (hf b0 ⟨_, _, h4.root⟩)
    repeat (first | refine Vx ?_ | (apply Ops_q; (case hon => exact Va); (case hd => rfl); (case hq => exact YlA)) | refine Vr ?_ | refine Vt ?_ | refine Vf ?_ | refine Vm ?_ | refine Ve ?_ | refine Vo ?_ | refine Vz ?_ | refine Vn ?_)
    refine ret2 (by first | exact .inl rfl | exact .inr rfl) rfl rfl rfl ?_
    refine Does_mk (fun w' he => ⟨by rw [hat]; cases hE : E p.a k <;> rw [hE] at h5 <;> simp at h5 ⊢, M, ?_, hf⟩) m5
    rw [h6]; exact h7.ext he
  · have h6 : (at_ E p).isNone = false := by rw [hat]; simpa using h5
    repeat (first | refine Vx ?_ | (apply Ops_q; (case hon => exact Va); (case hd => rfl); (case hq => exact YlA)) | refine Vr ?_ | refine Vt ?_ | refine Vf ?_ | refine Vm ?_ | refine Ve ?_ | refine Vo ?_ | refine Vz ?_ | refine Vn ?_)
    refine ret2 (by first | exact .inl rfl | exact .inr rfl) rfl rfl rfl ?_
    refine Does_mk (fun w' he => ⟨by rw [hat]; cases hE : E p.a k <;> rw [hE] at h5 <;> simp at h5 ⊢, M, ?_, hf⟩) m4
    rw [h6]; exact h4.ext he
end Go.Proofs.Ytjpnaofoeeegeaa


/-
  Regions that draw their order and hold one operation among the first that makes memory out of what the others give (the literal of a slice).
  No conditions beyond those that each rule states.
-/
namespace Go.Proofs.Ytjpnaofoeeegeaa
open Go.RowKit

section
variable {P : Program} {md : Region.Mode} {ops : Array Oper}
/-- In every world that has grown from w0 the operation leaves a value of which R is known, and a world that has grown. -/
def Late (P : Program) (w0 : World) (R : Value → World → Prop) (o : Oper) (a : Act) : Prop :=
  ∀ w', Ext w0 w' → ∃ x w'', (execOp a.eval o).run P w' = .ok (.value x) w'' ∧ Ext w' w'' ∧ R x w''
def lateY (P : Program) (w0 : World) (R : Value → World → Prop) (d : Nat) (o : Oper) (a : Act) (v : Value) : Prop :=
  if o.dst = some d then v = undef ∧ Late P w0 R o a else yW P w0 o a v
theorem same_lateY (P : Program) (w0 : World) (R : Value → World → Prop) (d : Nat) : Same (lateY P w0 R d) := fun o a a' v he h => by
  unfold lateY at *
  split at h
  · rename_i hd
    rw [if_pos hd]
    refine ⟨h.1, fun w' hw' => ?_⟩
    rw [he]; exact h.2 w' hw'
  · rename_i hd
    rw [if_neg hd]
    exact same_yW P w0 o a a' v he h

theorem late_any {n s d : Nat} (early : Nat → Bool) {Q1 : Act → Prop} {Q : Exit → Act → World → Prop} {w0 : World} {R : Value → World → Prop} {pre : Array Oper} (hR : ∀ x w w', Ext w w' → R x w → R x w') (hn : n ≤ ops.size) (hP : ∀ i o, i < n → ops[i]? = some o → pre[i]? = some o)
    (hA : ∀ i, n ≤ i → i < ops.size → ∀ j, j < n → early j = true ∨ reach ops md 9 i j = true)
    (hE : ∀ i o, ops[i]? = some o → i < n → ∀ e ∈ o.after, e.on < i)
    (hG : ∀ i o, ops[i]? = some o → i < n → ∀ g, o.guard = some g → g.1 < n ∧ ∀ o', ops[g.1]? = some o' → o'.dst ≠ some d)
    (hsel : ∀ (j : Nat) (o : Oper) cs b, ops[j]? = some o → j < n → o.op ≠ .select cs b)
    (hD : ∀ i o, ops[i]? = some o → i < n → d ∉ o.looksAt ops)
    (hg0 : ∀ i o, ops[i]? = some o → i < n → o.dst = some d → o.guard = none)
    (hin : ∃ i o, i < n ∧ ops[i]? = some o ∧ o.dst = some d)
    (last : ∀ a' a w, Ext w0 w → Q1 a' → But [d] a' a → (∃ x, a.tmps[d]? = some x ∧ R x w) → wpAny P md ops Q s (upto ops.size n) a w) :
    ∀ (f : Nat) (L L' : Array Bool) (a' a : Act) (w : World), Ext w0 w → L'.size = n → L.size = ops.size → (∀ j, j < n → L[j]? = L'[j]?) → (∀ j, n ≤ j → j < ops.size → L[j]? = some false) → cnt n L' = f →
      (∀ j, j < n → early j = true → L[j]? = some true) → Closed ops md L → But [d] a' a → d < a.tmps.size → ((∃ i o, L[i]? = some true ∧ i < n ∧ ops[i]? = some o ∧ o.dst = some d) → ∃ x, a.tmps[d]? = some x ∧ R x w) →
      anyY md pre (lateY P w0 R d) Q1 f L' a' → wpAny P md ops Q (f + s) L a w := by
  intro f
  induction f with
  | zero =>
    intro L L' a' a w hC hs' hs h1 h2 hc hea hcl hbut hDs hm h
    have hlist : ∀ j, j < n → L[j]? = some true := fun j hj => by
      rw [h1 j hj]
      have := List.countP_eq_zero.1 hc j (List.mem_range.2 hj)
      have hlt : j < L'.size := by omega
      simp [hlt] at this
      simp [hlt, this]
    have hL : L = upto ops.size n := by
      refine Array.ext_getElem? fun j => ?_
      rcases Nat.lt_or_ge j ops.size with hj | hj
      · rw [upto_get _ _ _ hj]
        rcases Nat.lt_or_ge j n with hjn | hjn
        · rw [hlist j hjn]; simp [hjn]
        · rw [h2 j hjn hj]; simp; omega
      · rw [Array.getElem?_eq_none (by omega), Array.getElem?_eq_none (by rw [upto_size]; omega)]
    rw [Nat.zero_add]
    obtain ⟨i, o, hi, ho, hd⟩ := hin
    have hm' := hm ⟨i, o, hlist i hi, hi, ho, hd⟩
    rw [hL]
    exact last a' a w hC h.2 hbut hm'
  | succ f ih =>
    intro L L' a' a w hC hs' hs h1 h2 hc hea hcl hbut hDs hm h
    rw [Nat.succ_add]
    have un : ∃ j, j < n ∧ L'[j]? = some false ∧ ∀ k, k < j → L'[k]? = some true := by
      have hpos : 0 < cnt n L' := by omega
      obtain ⟨j, hj, hjf⟩ := List.countP_pos_iff.1 hpos
      have hjn := List.mem_range.1 hj
      have hjl : j < L'.size := by omega
      have hjf' : L'[j]? = some false := by simp [hjl] at hjf ⊢; exact hjf
      clear hj hjf hjl
      induction j using Nat.strongRecOn with
      | ind j ihj =>
        by_cases hall : ∀ k, k < j → L'[k]? = some true
        · exact ⟨j, hjn, hjf', hall⟩
        · obtain ⟨k, hk⟩ := Classical.not_forall.1 hall
          obtain ⟨hkj, hk⟩ := Classical.not_imp.1 hk
          have hkl : k < L'.size := by omega
          refine ihj k hkj (by omega) ?_
          rw [Array.getElem?_eq_getElem hkl] at hk ⊢
          cases hb : L'[k] with
          | true => rw [hb] at hk; exact absurd rfl hk
          | false => rfl
    obtain ⟨j0, hj0, hjf, hbelow⟩ := un
    have on_lt : ∀ {i : Nat} {o : Oper} {e : Edge}, ops[i]? = some o → i < n → e ∈ o.after → L.getD e.on false = L'.getD e.on false := fun ho hi he => by
      have h4 := hE _ _ ho hi _ he
      rename_i i0 o0 e0
      have h3 := h1 e0.on (by omega)
      rw [Array.getD_eq_getD_getElem?, Array.getD_eq_getD_getElem?, h3]
    have lt_n : ∀ i, i ∈ Region.ready md ops L → i < n := fun i hi => by
      obtain ⟨_, o, ho, hall⟩ := mem_ready.1 hi
      rcases Nat.lt_or_ge i n with h3 | h3
      · exact h3
      · have hlt : i < ops.size := by
          rcases Nat.lt_or_ge i ops.size with h' | h'
          · exact h'
          · rw [Array.getElem?_eq_none h'] at ho; cases ho
        rcases hA i h3 hlt j0 hj0 with h4 | h4
        · have := hea j0 hj0 h4
          rw [h1 j0 hj0, hjf] at this; cases this
        · have := reach_listed hcl 9 i j0 (fun o' ho' => by obtain rfl := Option.some.inj (ho.symm.trans ho'); exact hall) h4
          rw [getD_of ((h1 j0 hj0).trans hjf)] at this
          cases this
    refine ⟨fun hr => ?_, fun i hi => ?_⟩
    · exfalso
      have hmem : j0 ∈ Region.ready md ops L := by
        have hlt : j0 < ops.size := by omega
        refine mem_ready.2 ⟨getD_of ((h1 j0 hj0).trans hjf) _, ops[j0], Array.getElem?_eq_getElem hlt, fun e he _ => ?_⟩
        have hlt' := hE j0 _ (Array.getElem?_eq_getElem hlt) hj0 e he
        exact getD_of ((h1 _ (by omega)).trans (hbelow _ hlt')) _
      rw [hr] at hmem; cases hmem
    · have hin' := lt_n i hi
      have hcl' := hcl.set hi
      obtain ⟨hun, o, ho, hall⟩ := mem_ready.1 hi
      have hpo : pre[i]? = some o := hP i o hin' ho
      have hun' : L'.getD i true = false := by
        have := h1 i hin'
        simp only [Array.getD_eq_getD_getElem?, ← this] at hun ⊢; exact hun
      have hi' : i ∈ Region.ready md pre L' := mem_ready.2 ⟨hun', o, hpo, fun e he hb => by rw [← on_lt ho hin' he]; exact hall e he hb⟩
      have hq := (stepY_iff hpo).1 (h.2 i hi')
      obtain ⟨v, hv, hK⟩ := hq
      have hset : ∀ j, j < n → (L.setIfInBounds i true)[j]? = (L'.setIfInBounds i true)[j]? := fun j hj => by
        by_cases e : i = j
        · subst e
          have hl1 : i < L.size := by omega
          have hl2 : i < L'.size := by omega
          simp [hl1, hl2]
        · rw [Array.getElem?_setIfInBounds_ne e, Array.getElem?_setIfInBounds_ne e]; exact h1 j hj
      have hset2 : ∀ j, n ≤ j → j < ops.size → (L.setIfInBounds i true)[j]? = some false := fun j hj hjs => by
        rw [Array.getElem?_setIfInBounds_ne (by omega)]; exact h2 j hj hjs
      have hea' : ∀ j, j < n → early j = true → (L.setIfInBounds i true)[j]? = some true := fun j hj he => by
        by_cases e : i = j
        · subst e
          have hl1 : i < L.size := by omega
          simp [hl1]
        · rw [Array.getElem?_setIfInBounds_ne e]; exact hea j hj he
      have hc' : cnt n (L'.setIfInBounds i true) = f := by have := cnt_set n L' i hin' hun'; omega
      have old : ∀ k, (L.setIfInBounds i true)[k]? = some true → k ≠ i → L[k]? = some true := fun k hk hki => by
        rwa [Array.getElem?_setIfInBounds_ne (Ne.symm hki)] at hk
      have hex : execOp a.eval o = execOp a'.eval o := hbut.exec o (fun cs b => hsel i o cs b ho hin') (fun x hx => by rw [List.mem_singleton.1 hx]; exact hD i o ho hin')
      unfold wpOp
      simp only [ho]
      by_cases hdo : o.dst = some d
      · have hgn := hg0 i o ho hin' hdo
        have hwt : ∀ y, Region.wanted o y = true := fun y => by unfold Region.wanted; rw [hgn]
        rw [if_pos (hwt _)]
        rcases hv with ⟨_, hy⟩ | ⟨hwn, _⟩
        · unfold lateY at hy
          rw [if_pos hdo] at hy
          obtain ⟨rfl, hl⟩ := hy
          obtain ⟨x, w'', hrun, hext, hRx⟩ := hl w hC
          rw [← hex] at hrun
          refine .inl ?_
          unfold Oper.wp
          rw [hrun]
          show wpAny P md ops Q (f + s) (L.setIfInBounds i true) (a.put o.dst x) w''
          rw [hdo] at hK ⊢
          have hb2 : But [d] (a'.put (some d) undef) (a.put (some d) x) := by
            refine ⟨hbut.defers, by simp [Act.put, hbut.size], fun k hk => ?_⟩
            have hne : d ≠ k := fun e => hk (by rw [e]; exact List.mem_singleton.2 rfl)
            simp only [Act.put]
            rw [Array.getElem?_setIfInBounds_ne hne, Array.getElem?_setIfInBounds_ne hne]
            exact hbut.slot k hk
          exact ih _ _ _ _ w'' (hC.trans hext) (by simpa using hs') (by simpa using hs) hset hset2 hc' hea' hcl' hb2 (by simp [Act.put, hDs]) (fun _ => ⟨x, by simp [Act.put, hDs], hRx⟩) hK
        · rw [hwt] at hwn; cases hwn
      · have hw : Region.wanted o (yielded pre a'.tmps) = Region.wanted o (yielded ops a.tmps) := by
          unfold Region.wanted
          cases hg : o.guard with
          | none => rfl
          | some gd =>
            obtain ⟨hg1, hg2⟩ := hG i o ho hin' gd hg
            have hlt : gd.1 < ops.size := by omega
            have hog := Array.getElem?_eq_getElem hlt
            have hpg := hP _ _ hg1 hog
            have hy : yielded pre a'.tmps gd.1 = yielded ops a.tmps gd.1 := by
              simp only [yielded, hpg, hog, Option.bind_some]
              cases hd : (ops[gd.1]'hlt).dst with
              | none => rfl
              | some d' =>
                have hdD : d' ∉ [d] := fun hdD => hg2 _ hog (by rw [hd, List.mem_singleton.1 hdD])
                simp only [Option.bind_some, hbut.slot d' hdD]
            simp only [hy]
        have made : ∀ u w'', Ext w w'' → (∃ k o, (L.setIfInBounds i true)[k]? = some true ∧ k < n ∧ ops[k]? = some o ∧ o.dst = some d) → ∃ x, (a.put o.dst u).tmps[d]? = some x ∧ R x w'' := fun u w'' hw'' ⟨k, ok, hk, hkn, hok, hkd⟩ => by
          have hki : k ≠ i := fun e => by subst e; obtain rfl := Option.some.inj (ho.symm.trans hok); exact hdo hkd
          obtain ⟨x, m1, m2⟩ := hm ⟨k, ok, old k hk hki, hkn, hok, hkd⟩
          refine ⟨x, ?_, hR x _ _ hw'' m2⟩
          cases hdst : o.dst with
          | none => exact m1
          | some y =>
            have : y ≠ d := fun e => hdo (by rw [hdst, e])
            simp only [Act.put]
            rw [Array.getElem?_setIfInBounds_ne this]; exact m1
        have szP : ∀ u, d < (a.put o.dst u).tmps.size := fun u => by cases o.dst <;> simp [Act.put, hDs]
        rcases hv with ⟨hwn, hy⟩ | ⟨hwn, hvu⟩
        · unfold lateY at hy
          rw [if_neg hdo] at hy
          rw [hw] at hwn
          rw [if_pos hwn]
          refine .inl (Oper.wp_of_quiet (C := fun w'' => Ext w w'') (K := fun x => x = a.put o.dst v) (Ext.refl w) (fun a1 w1 hw1 e => ?_) ?_)
          · subst e
            exact ih _ _ (a'.put o.dst v) _ w1 (hC.trans hw1) (by simpa using hs') (by simpa using hs) hset hset2 hc' hea' hcl' (hbut.put _ _) (szP v) (made v w1 hw1) hK
          · refine ⟨v, fun w1 hw1 => ?_, rfl⟩
            have hq1 := hy w1 (hC.trans hw1)
            unfold Oper.quietAt at hq1 ⊢
            rw [← hex] at hq1
            generalize (execOp a.eval o).run P w1 = r at *
            cases r with
            | ok nx w2 =>
              cases nx <;> simp only [Oper.quietUpon] at hq1 ⊢ <;> first | exact hq1 | exact ⟨hq1.1, hq1.2.mono fun e w3 h3 => ⟨h3.1, hw1.trans h3.2⟩⟩
            | halt x w2 => simp only [Oper.quietUpon] at hq1
        · rw [hw] at hwn
          rw [if_neg (by rw [hwn]; exact Bool.false_ne_true)]
          subst hvu
          exact ih _ _ (a'.put o.dst undef) _ w hC (by simpa using hs') (by simpa using hs) hset hset2 hc' hea' hcl' (hbut.put _ _) (szP _) (made undef w (Ext.refl w)) hK

/-! ### The test -/
def lateB (ops : Array Oper) (n d : Nat) (m0 : Bool) : Bool :=
  Nat.ble n ops.size && Region.noSelect ops && Region.lexB .any (ops.toList.take n).toArray &&
  (List.range ops.size).all (fun i => match ops[i]? with
    | none => true
    | some o => if Nat.ble (i + 1) n then (o.after.all fun e => Nat.ble (e.on + 1) i) &&
        (match o.guard with
          | none => true
          | some g => Nat.ble (g.1 + 1) n && (match ops[g.1]? with
            | none => true
            | some o' => !(o'.dst == some d))) &&
        !(o.looksAt ops).contains d &&
        (if o.dst == some d then o.guard.isNone && (List.range n).all fun i' => Nat.beq i i' || (match ops[i']? with
            | some o' => !(o'.dst == some d)
            | none => true) else true)
      else (List.range n).all fun j => (m0 && Nat.beq j 0) || reach ops .any 9 i j) &&
  (List.range ops.size).all (fun k => Nat.ble (k + 1) n || (match Region.ready .any ops (upto ops.size k) with
    | [k'] => Nat.beq k' k
    | _ => false)) &&
  (Region.ready .any ops (upto ops.size ops.size)).isEmpty &&
  (List.range n).any (fun i => match ops[i]? with
    | some o => o.dst == some d
    | none => false)

theorem rep_getD {m j : Nat} (h : j < m) : (Array.replicate m false).getD j true = false := by
  simp only [Array.getD_eq_getD_getElem?, Array.getElem?_replicate]
  rw [if_pos h]; rfl
theorem rep_set {m : Nat} (h : 0 < m) : ((Array.replicate m false).setIfInBounds 0 true)[0]? = some true := by
  rw [Array.getElem?_setIfInBounds]
  simp [h]
theorem wp_late {ro : Option Nat} {l : List Oper} {n d id : Nat} {Q1 : Act → Prop} {Q : Exit → Act → World → Prop} {w0 w : World} {a : Act} {R : Value → World → Prop} (m0 : Bool) (hR : ∀ x w w', Ext w w' → R x w → R x w') (hnd : NoDef ro l) (hQ : ¬LetsOut Q) (hm : P.follows .mixedOrders = true) (hB : lateB l.toArray n d m0 = true)
    (h0 : m0 = true → (∃ d0 x ty pos after r, l = ⟨some d0, .move x, ty, pos, after, none⟩ :: r ∧ d0 ≠ d) ∧ 0 < n ∧ Region.free .any l.toArray (Array.replicate l.toArray.size false) 0 = true ∧ (Region.ready .any l.toArray (Array.replicate l.toArray.size false)).contains 0 = true ∧ ∀ c a w, ¬Q (.panic c) a w)
    (hd : d < a.tmps.size) (hw : Ext w0 w)
    (h : listY (l.take n).toArray (lateY P w0 R d) Q1 (l.take n) a)
    (last : ∀ a' a w, Ext w0 w → Q1 a' → But [d] a' a → (∃ x, a.tmps[d]? = some x ∧ R x w) → wpList P l.toArray Q (l.drop n) a w) :
    WpR ro P (.region id l.toArray true) Q a w := by
  simp only [lateB, Bool.and_eq_true] at hB
  obtain ⟨⟨⟨⟨⟨⟨b1, b0⟩, b2⟩, b3⟩, b4⟩, b5⟩, b6⟩ := hB
  have hn : n ≤ l.toArray.size := Nat.le_of_ble_eq_true b1
  have hnl : n ≤ l.length := by simpa using hn
  have at3 : ∀ i o, l.toArray[i]? = some o → _ := fun i o ho => by
    have hlt : i < l.toArray.size := by
      rcases Nat.lt_or_ge i l.toArray.size with h' | h'
      · exact h'
      · rw [Array.getElem?_eq_none h'] at ho; cases ho
    have := List.all_eq_true.1 b3 i (List.mem_range.2 hlt)
    simp only [ho] at this
    exact this
  have pre3 : ∀ i o, l.toArray[i]? = some o → i < n → _ := fun i o ho hi => by
    have := at3 i o ho
    rw [if_pos (Nat.ble_eq_true_of_le hi)] at this
    simp only [Bool.and_eq_true] at this
    exact this
  have hP : ∀ i o, i < n → l.toArray[i]? = some o → (l.take n).toArray[i]? = some o := fun i o hi ho => by
    have : l[i]? = some o := by simpa using ho
    simp [hi, this]
  have hE : ∀ i o, l.toArray[i]? = some o → i < n → ∀ e ∈ o.after, e.on < i := fun i o ho hi e he =>
    Nat.le_of_ble_eq_true (Array.all_eq_true_iff_forall_mem.1 (pre3 i o ho hi).1.1.1 e he)
  have hG : ∀ i o, l.toArray[i]? = some o → i < n → ∀ g, o.guard = some g → g.1 < n ∧ ∀ o', l.toArray[g.1]? = some o' → o'.dst ≠ some d := fun i o ho hi g hg => by
    have h2 := (pre3 i o ho hi).1.1.2
    rw [hg] at h2
    simp only [Bool.and_eq_true] at h2
    refine ⟨Nat.le_of_ble_eq_true h2.1, fun o' ho' => ?_⟩
    have h3 := h2.2
    rw [ho'] at h3
    simpa using h3
  have hD : ∀ i o, l.toArray[i]? = some o → i < n → d ∉ o.looksAt l.toArray := fun i o ho hi => by
    have h2 := (pre3 i o ho hi).1.2
    simpa using h2
  have hlate : ∀ i o, l.toArray[i]? = some o → i < n → o.dst = some d → o.guard = none ∧ ∀ i' o', l.toArray[i']? = some o' → i' < n → o'.dst = some d → i = i' := fun i o ho hi hdo => by
    have h2 := (pre3 i o ho hi).2
    rw [if_pos (by rw [hdo]; simp)] at h2
    simp only [Bool.and_eq_true] at h2
    refine ⟨by simpa using h2.1, fun i' o' ho' hi' hdo' => ?_⟩
    have h3 := List.all_eq_true.1 h2.2 i' (List.mem_range.2 hi')
    simp only [Bool.or_eq_true] at h3
    rcases h3 with h3 | h3
    · exact Nat.eq_of_beq_eq_true h3
    · rw [ho'] at h3
      simp [hdo'] at h3
  have hA : ∀ i, n ≤ i → i < l.toArray.size → ∀ j, j < n → (fun j => m0 && Nat.beq j 0) j = true ∨ reach l.toArray .any 9 i j = true := fun i hi his j hj => by
    have := at3 i _ (Array.getElem?_eq_getElem his)
    rw [if_neg (fun hb => by have := Nat.le_of_ble_eq_true hb; omega)] at this
    exact Bool.or_eq_true_iff.1 (List.all_eq_true.1 this j (List.mem_range.2 hj))
  have hr : ∀ k, n ≤ k → k < l.toArray.size → Region.ready .any l.toArray (upto l.toArray.size k) = [k] := fun k hk hks => by
    have := List.all_eq_true.1 b4 k (List.mem_range.2 hks)
    simp only [Bool.or_eq_true] at this
    rcases this with h' | h'
    · have := Nat.le_of_ble_eq_true h'; omega
    · split at h'
      · rename_i k' he
        rw [he, Nat.eq_of_beq_eq_true h']
      · cases h'
  have he : Region.ready .any l.toArray (upto l.toArray.size l.toArray.size) = [] := by simpa using b5
  have hex : ∃ i o, i < n ∧ l.toArray[i]? = some o ∧ o.dst = some d := by
    obtain ⟨i, hi, h2⟩ := List.any_eq_true.1 b6
    have hi' := List.mem_range.1 hi
    have hlt : i < l.toArray.size := by omega
    rw [Array.getElem?_eq_getElem hlt] at h2
    exact ⟨i, _, hi', Array.getElem?_eq_getElem hlt, by simpa using h2⟩
  simp only [Region.lexB, Bool.and_eq_true] at b2
  have hdl : (l.drop n).length = l.toArray.size - n := by simp
  have hlen : (l.take n).length = n := by simp; omega
  refine wpR_region_any (by simpa using hnd) hQ hm ?_
  have quiet := anyY_lex (md := .any) (same_lateY P w0 R d) b2.1 (l.take n) 0 (Array.replicate (l.take n).toArray.size false) a (by simp) (by simpa using b2.2) h
  have key := late_any (P := P) (md := .any) (ops := l.toArray) (pre := (l.take n).toArray) (n := n) (s := (l.drop n).length) (d := d) (fun j => m0 && Nat.beq j 0) (Q := Q) (Q1 := Q1) (w0 := w0) (R := R)
    hR hn hP hA hE hG (fun j o cs b ho _ => Region.noSelect_spec b0 j o cs b ho) hD (fun i o ho hi hdo => (hlate i o ho hi hdo).1) hex
    (fun a' a1 w1 hw1 q1 hb hmd => one_any hr he (l.drop n) n (Nat.le_refl _) (by rw [hdl]; omega) (fun j => by simp) a1 w1
      (last a' a1 w1 hw1 q1 hb hmd))
  have hall : ∀ k : Nat, (Array.replicate l.toArray.size false)[k]? ≠ some true := fun k hk => by
    simp only [Array.getElem?_replicate] at hk
    split at hk <;> simp at hk
  have hcnt : cnt n (Array.replicate (l.take n).toArray.size false) = (l.take n).length := by
    unfold cnt
    rw [List.countP_eq_length.2]
    · rw [hlen]; simp
    · intro j hj
      have := List.mem_range.1 hj
      have h2 : j < (l.take n).toArray.size := by simp; omega
      simp only [Array.getD_eq_getD_getElem?, Array.getElem?_replicate]
      rw [if_pos h2]; rfl
  have hsame : ∀ j, j < n → (Array.replicate l.toArray.size false)[j]? = (Array.replicate (l.take n).toArray.size false)[j]? := fun j hj => by
    have h1 : j < l.length := by omega
    have h2 : j < (l.take n).length := by omega
    simp only [Array.getElem?_replicate]
    rw [if_pos (by simpa using h1), if_pos (by simpa using h2)]
  have hclosed : Closed l.toArray .any (Array.replicate l.toArray.size false) := fun (k : Nat) o hk => by
    simp only [Array.getD_eq_getD_getElem?, Array.getElem?_replicate] at hk
    split at hk <;> simp at hk
  have e : (l.take n).length + (l.drop n).length = l.toArray.size := by rw [hlen, hdl]; omega
  cases hm0 : m0 with
  | false =>
    have := key (l.take n).length (Array.replicate l.toArray.size false) (Array.replicate (l.take n).toArray.size false) a a { w with drawn := w.drawn + 1 } hw.draw (by simp; omega) (by simp)
      hsame (fun j _ hj => by simp only [Array.getElem?_replicate]; rw [if_pos hj]) hcnt (fun j _ h => by rw [hm0] at h; cases h) hclosed ⟨rfl, rfl, fun _ _ => rfl⟩ hd (fun ⟨i, o, hi, _⟩ => absurd hi (hall i)) quiet
    rwa [e] at this
  | true =>
    obtain ⟨⟨d0, x, ty, pos, after, r, hl, hd0⟩, hn0, hf, hrd, hQ⟩ := h0 hm0
    have ho0 : l.toArray[0]? = some ⟨some d0, .move x, ty, pos, after, none⟩ := by rw [hl]; rfl
    have hp0 := hP 0 _ hn0 ho0
    have hl1 : (l.take n).length = (n - 1) + 1 := by omega
    have hrun : ∀ (a : Act) (w : World), (execOp a.eval ⟨some d0, .move x, ty, pos, after, none⟩).run P w = .ok (.value (a.eval x)) w := fun a w => by simp [execOp]
    have hsz1 : 0 < l.toArray.size := by omega
    have hsz2 : 0 < (l.take n).toArray.size := by simp; omega
    have hrd' : 0 ∈ Region.ready .any (l.take n).toArray (Array.replicate (l.take n).toArray.size false) := by
      obtain ⟨_, o, ho, hall⟩ := mem_ready.1 (by simpa using hrd : 0 ∈ Region.ready .any l.toArray (Array.replicate l.toArray.size false))
      obtain rfl := Option.some.inj (ho0.symm.trans ho)
      refine mem_ready.2 ⟨rep_getD hsz2, _, hp0, fun ed hed hb => ?_⟩
      have := hE 0 _ ho0 hn0 ed hed
      omega
    rw [hl1] at quiet
    obtain ⟨v, hv, hK⟩ := (stepY_iff hp0).1 (quiet.2 0 hrd')
    have hv' : v = a.eval x := by
      rcases hv with ⟨_, hy⟩ | ⟨hwn, _⟩
      · unfold lateY at hy
        rw [if_neg (fun e => hd0 (by cases e; rfl))] at hy
        have := hy w0 (Ext.refl w0)
        unfold Oper.quietAt at this
        rw [hrun] at this
        simp only [Oper.quietUpon] at this
        exact this.2.symm
      · unfold Region.wanted at hwn; simp at hwn
    subst hv'
    have e' : l.toArray.size = (n - 1 + (l.drop n).length) + 1 := by omega
    suffices h9 : ∀ z, z = (n - 1 + (l.drop n).length) + 1 → wpAny P .any l.toArray Q z (Array.replicate l.toArray.size false) a { w with drawn := w.drawn + 1 } from h9 _ e'
    intro z hz
    subst hz
    refine wpAny_take ho0 b0 hf hrd (fun c a w hq => absurd hq (hQ c _ w)) (.inl ⟨by unfold Region.wanted; rfl, fun w => hrun a w⟩) ?_
    refine key (n - 1) _ _ _ _ { w with drawn := w.drawn + 1 } hw.draw (by rw [Array.size_setIfInBounds, Array.size_replicate, List.size_toArray]; exact hlen) (by rw [Array.size_setIfInBounds, Array.size_replicate]) (fun j hj => ?_) (fun j hj hjs => ?_) ?_ (fun j hj hea => ?_) (fun k o hk ho ed hed hb => ?_) ⟨rfl, rfl, fun _ _ => rfl⟩ (by show d < (a.tmps.setIfInBounds d0 _).size; rw [Array.size_setIfInBounds]; exact hd) (fun ⟨i, o, hi, hin, ho, hdo⟩ => ?_) hK
    · by_cases ej : 0 = j
      · subst ej; rw [rep_set hsz1, rep_set hsz2]
      · rw [Array.getElem?_setIfInBounds_ne ej, Array.getElem?_setIfInBounds_ne ej]; exact hsame j hj
    · rw [Array.getElem?_setIfInBounds_ne (by omega)]
      simp only [Array.getElem?_replicate]; rw [if_pos hjs]
    · have := cnt_set n (Array.replicate (l.take n).toArray.size false) 0 hn0 (rep_getD hsz2)
      omega
    · rw [hm0, Bool.true_and] at hea
      obtain rfl := Nat.eq_of_beq_eq_true hea
      exact rep_set hsz1
    · by_cases ek : 0 = k
      · subst ek
        have := hE 0 _ ho hn0 ed hed
        omega
      · rw [getD_set_ne false ek] at hk
        exact absurd (hclosed k o hk ho ed hed hb) (by
          intro _
          simp only [Array.getD_eq_getD_getElem?, Array.getElem?_replicate] at hk
          split at hk <;> simp at hk)
    · by_cases ei : 0 = i
      · subst ei
        obtain rfl := Option.some.inj (ho0.symm.trans ho)
        exact absurd (by cases hdo; rfl) hd0
      · rw [Array.getElem?_setIfInBounds_ne ei] at hi
        exact absurd hi (hall i)
end

section
variable {P : Program} {N : Fr} {m : Env} {w : World}
theorem listY_append {ops : Array Oper} {Y : Oper → Act → Value → Prop} {Q : Act → Prop} : ∀ (l1 l2 : List Oper) (a : Act), listY ops Y (fun a => listY ops Y Q l2 a) l1 a → listY ops Y Q (l1 ++ l2) a
  | [], _, _, h => h
  | o :: r, l2, a, h => by
    rw [List.cons_append]
    unfold listY at h ⊢
    split
    · rename_i hw
      rw [if_pos hw] at h
      obtain ⟨v, h1, h2⟩ := h
      exact ⟨v, h1, listY_append r l2 _ h2⟩
    · rename_i hw
      rw [if_neg hw] at h
      exact listY_append r l2 _ h
theorem listY_late {ops : Array Oper} {Q : Act → Prop} {w0 : World} {R : Value → World → Prop} {d : Nat} : ∀ (l : List Oper) (a : Act), (∀ o ∈ l, o.dst ≠ some d) → listY ops (yW P w0) Q l a → listY ops (lateY P w0 R d) Q l a
  | [], _, _, h => h
  | o :: r, a, hd, h => by
    have hr := fun o' ho' => hd o' (List.mem_cons_of_mem _ ho')
    unfold listY at h ⊢
    split
    · rename_i hw
      rw [if_pos hw] at h
      obtain ⟨v, h1, h2⟩ := h
      refine ⟨v, ?_, listY_late r _ hr h2⟩
      unfold lateY
      rw [if_neg (hd o (List.mem_cons_self ..))]; exact h1
    · rename_i hw
      rw [if_neg hw] at h
      exact listY_late r _ hr h
theorem run_lit {dst : Option Tmp} {t e : TypeId} {k : Nat} {ps : Array (Nat × Operand)} {pvs : List (Nat × Value)} {out zs : List Value} {z : Value} {n0 b0 : Nat} {ty : TypeId} {pos : String} {after : Array Edge} {g : Option (Nat × Bool)} [ht : TSlice P t e] [hs : TSize P e n0 b0] [hz : TZero P e z zs]
    {a : Act} (ha : Agree N m a) (hx : evp m ps.toList = some pvs) (hp : TParts n0 0 pvs out) (hn : (Nat.ble 1 (k * n0) && Nat.ble (k * n0) 16777216 && Nat.beq pvs.length k) = true) (w' : World) :
    (execOp a.eval ⟨dst, .buildSlice t k ps, ty, pos, after, g⟩).run P w' = .ok (.value (.slice (some ⟨w'.heap.size, 0, none⟩) k k)) (w'.alloc (.cells out.toArray e)) := by
  simp only [Bool.and_eq_true] at hn
  have n1 := Nat.le_of_ble_eq_true hn.1.1
  have n2 := Nat.le_of_ble_eq_true hn.1.2
  have n3 := Nat.eq_of_beq_eq_true hn.2
  obtain ⟨inf, hi, hsz⟩ := Option.map_eq_some_iff.1 hs.h
  simp only [Prod.mk.injEq] at hsz
  obtain ⟨inf', hi', hz'⟩ := Option.bind_eq_some_iff.1 hz.h
  obtain rfl := Option.some.inj (hi.symm.trans hi')
  have hfill : Instr.fill (fun i => some (i * inf.size, inf.size)) ((Array.range (k * inf.size)).map (z.cells[· % z.cells.size]!)) pvs = some out.toArray := by
    rw [hsz.1]
    have := hp.fill [] ((Array.range (k * n0)).map (z.cells[· % z.cells.size]!)).toList (by simp) (by simp [n3])
    rw [List.nil_append, List.nil_append, Array.toArray_toList] at this
    exact this
  have e1 : ps.map (fun p => (p.1, a.eval p.2)) = pvs.toArray := by rw [← ha.evp hx, ← Array.toList_map]
  have := run_buildSlice (P := P) w' t e k pvs.toArray out.toArray inf z ht.h hi hz' (by rw [hsz.1]; omega) (by rw [hsz.1]; omega) hfill
  simp only [execOp, e1]
  simp [this]
/-- A region that draws its order, with the literal of a slice at place i0 among its first n operations. -/
theorem V_lit0 (m0 : Bool) (n i0 : Nat) (out : List Value) {Q : Exit → Env → World → Prop} {id : Nat} {l : List Oper} {d : Nat} {t e : TypeId} {k : Nat} {ps : Array (Nat × Operand)} {ty : TypeId} {pos : String} {after : Array Edge} {zs : List Value} {z : Value} {n0 b0 : Nat} [ht : TSlice P t e] [hs : TSize P e n0 b0] [hz : TZero P e z zs]
    (hm : P.follows .mixedOrders = true) (ho : l.take n = l.take i0 ++ ⟨some d, .buildSlice t k ps, ty, pos, after, none⟩ :: (l.take n).drop (i0 + 1)) (hB : lateB l.toArray n d m0 = true)
    (h0 : m0 = true → (∃ d0 x ty pos after r, l = ⟨some d0, .move x, ty, pos, after, none⟩ :: r ∧ d0 ≠ d) ∧ 0 < n ∧ Region.free .any l.toArray (Array.replicate l.toArray.size false) 0 = true ∧ (Region.ready .any l.toArray (Array.replicate l.toArray.size false)).contains 0 = true) (hd : Nat.ble (d + 1) N.n = true)
    (hne : ((l.take i0).all (fun o => !(o.dst == some d)) && ((l.take n).drop (i0 + 1)).all (fun o => !(o.dst == some d))) = true)
    (h : Ops P N (l.take n).toArray true (fun m1 _ => ∃ pvs, evp m1 ps.toList = some pvs ∧ TParts n0 0 pvs out ∧ (Nat.ble 1 (k * n0) && Nat.ble (k * n0) 16777216 && Nat.beq pvs.length k) = true ∧
      Ops P N (l.take n).toArray true (fun m2 _ => ∀ w2 b, New w w2 b e out → Ops P N l.toArray false (fun m w => Q .normal m w) (l.drop n) ((d, .slice (some ⟨b, 0, none⟩) k k) :: m2) w2) ((l.take n).drop (i0 + 1)) ((d, undef) :: m1) w) (l.take i0) m w)
    (hnd : NoDef N.ro l := by first | exact .inl rfl | exact .inr (by kernel_rfl)) :
    V P N (.region id l.toArray true) Q m w := by
  have hlt : d < N.n := Nat.le_of_ble_eq_true hd
  simp only [Bool.and_eq_true] at hne
  have hne1 : ∀ o ∈ l.take i0, o.dst ≠ some d := fun o ho e => by
    have := List.all_eq_true.1 hne.1 o ho
    rw [e] at this; simp at this
  have hne2 : ∀ o ∈ (l.take n).drop (i0 + 1), o.dst ≠ some d := fun o ho e => by
    have := List.all_eq_true.1 hne.2 o ho
    rw [e] at this; simp at this
  refine ⟨fun a w' ha hw => wpR_mono (Q := fun e a w => e = .normal ∧ lift N Q .normal a w) (fun e a w ⟨h1, h2⟩ => by rw [h1]; exact h2) ?_⟩
  refine wp_late m0 (w0 := w) (R := fun x w2 => ∃ b, x = .slice (some ⟨b, 0, none⟩) k k ∧ w.heap.size ≤ b ∧ Blk w2 b e out) (fun x w1 w2 he ⟨b, h1, h2, h3⟩ => ⟨b, h1, h2, h3.ext he⟩) hnd noLet hm hB (fun h => by
      obtain ⟨h1, h2, h3, h4⟩ := h0 h
      exact ⟨h1, h2, h3, h4, fun c a w hq => nomatch hq.1⟩) (by rw [ha.size]; exact hlt) hw
    (Q1 := fun a' => ∃ m2, (∀ w2 b, New w w2 b e out → Ops P N l.toArray false (fun m w => Q .normal m w) (l.drop n) ((d, .slice (some ⟨b, 0, none⟩) k k) :: m2) w2) ∧ Agree N m2 a') ?_ ?_
  · generalize hL : (l.take n).toArray = A at h ⊢
    rw [ho]
    refine listY_append _ _ _ (listY_mono (fun a1 ⟨m1, ⟨pvs, p1, p2, p3, h2⟩, ag1⟩ => ?_) _ _ (listY_late _ _ hne1 (h.out a ha)))
    unfold listY
    rw [if_pos (by unfold Region.wanted; rfl)]
    refine ⟨undef, ?_, ?_⟩
    · unfold lateY
      rw [if_pos rfl]
      refine ⟨rfl, fun w1 hw1 => ⟨_, _, run_lit ag1 p1 p2 p3 w1, (Ext.refl _).alloc _, w1.heap.size, rfl, hw1.size, alloc_heap _ _⟩⟩
    · exact listY_late _ _ hne2 (h2.out _ (ag1.put hlt undef))
  · rintro a' a1 w1 hw1 ⟨m2, h2, ag⟩ hb ⟨x, hx, b, rfl, hbl, hB1⟩
    have ag1 : Agree N ((d, .slice (some ⟨b, 0, none⟩) k k) :: m2) a1 := by
      refine ⟨by rw [hb.defers]; exact ag.defers, by rw [hb.size]; exact ag.size, fun i v hi => ?_⟩
      by_cases e : d = i
      · subst e
        rw [look_same] at hi; cases hi; exact hx
      · rw [look_other _ _ e] at hi
        rw [hb.slot i (fun h => e (List.mem_singleton.1 h).symm)]
        exact ag.slot i v hi
    have h5 := (h2 w1 b ⟨hw1, hbl, hB1⟩).out a1 w1 ag1 (Ext.refl _)
    have mono : ∀ (l' : List Oper) (a : Act) (w0 : World), wpList P l.toArray (fun e a' w'' => e = .normal ∧ ∃ m' w1, Q .normal m' w1 ∧ Agree N m' a' ∧ Ext w1 w'') l' a w0 → wpList P l.toArray (fun e a w => e = .normal ∧ lift N Q .normal a w) l' a w0 := by
      intro l'
      induction l' with
      | nil => exact fun a w0 ⟨_, m', w1, q, ag, ex⟩ => ⟨rfl, m', w1, q, ag, ex⟩
      | cons o r ih =>
        intro a w0 h6
        unfold wpList at h6 ⊢
        split
        · rename_i hwn
          rw [if_pos hwn] at h6
          rcases h6 with h6 | h6
          · exact .inl (wp_normal (fun a1 w1 hh => ih a1 w1 hh) h6)
          · obtain ⟨_, _, _, h7, _⟩ := h6; cases h7
        · rename_i hwn
          rw [if_neg hwn] at h6
          exact ih _ _ h6
    exact mono _ _ _ h5
theorem V_lit (n i0 : Nat) (out : List Value) {Q : Exit → Env → World → Prop} {id : Nat} {l : List Oper} {d : Nat} {t e : TypeId} {k : Nat} {ps : Array (Nat × Operand)} {ty : TypeId} {pos : String} {after : Array Edge} {zs : List Value} {z : Value} {n0 b0 : Nat} [ht : TSlice P t e] [hs : TSize P e n0 b0] [hz : TZero P e z zs]
    (hm : P.follows .mixedOrders = true) (ho : l.take n = l.take i0 ++ ⟨some d, .buildSlice t k ps, ty, pos, after, none⟩ :: (l.take n).drop (i0 + 1)) (hB : lateB l.toArray n d false = true) (hd : Nat.ble (d + 1) N.n = true)
    (hne : ((l.take i0).all (fun o => !(o.dst == some d)) && ((l.take n).drop (i0 + 1)).all (fun o => !(o.dst == some d))) = true)
    (h : Ops P N (l.take n).toArray true (fun m1 _ => ∃ pvs, evp m1 ps.toList = some pvs ∧ TParts n0 0 pvs out ∧ (Nat.ble 1 (k * n0) && Nat.ble (k * n0) 16777216 && Nat.beq pvs.length k) = true ∧
      Ops P N (l.take n).toArray true (fun m2 _ => ∀ w2 b, New w w2 b e out → Ops P N l.toArray false (fun m w => Q .normal m w) (l.drop n) ((d, .slice (some ⟨b, 0, none⟩) k k) :: m2) w2) ((l.take n).drop (i0 + 1)) ((d, undef) :: m1) w) (l.take i0) m w)
    (hnd : NoDef N.ro l := by first | exact .inl rfl | exact .inr (by kernel_rfl)) :
    V P N (.region id l.toArray true) Q m w :=
  V_lit0 false n i0 out hm ho hB (fun h => nomatch h) hd hne h hnd
/-- The same, where the first operation is a plain move that some of the last do not wait for. -/
theorem V_litM (n i0 : Nat) (out : List Value) {Q : Exit → Env → World → Prop} {id : Nat} {l : List Oper} {d d0 : Nat} {x : Operand} {r : List Oper} {ty0 : TypeId} {pos0 : String} {after0 : Array Edge} {t e : TypeId} {k : Nat} {ps : Array (Nat × Operand)} {ty : TypeId} {pos : String} {after : Array Edge} {zs : List Value} {z : Value} {n0 b0 : Nat} [ht : TSlice P t e] [hs : TSize P e n0 b0] [hz : TZero P e z zs]
    (hm : P.follows .mixedOrders = true) (ho : l.take n = l.take i0 ++ ⟨some d, .buildSlice t k ps, ty, pos, after, none⟩ :: (l.take n).drop (i0 + 1)) (hB : lateB l.toArray n d true = true)
    (hl : l = ⟨some d0, .move x, ty0, pos0, after0, none⟩ :: r) (hd0 : (!(Nat.beq d0 d) && Nat.ble 1 n) = true) (hf : (Region.free .any l.toArray (Array.replicate l.toArray.size false) 0 && (Region.ready .any l.toArray (Array.replicate l.toArray.size false)).contains 0) = true) (hd : Nat.ble (d + 1) N.n = true)
    (hne : ((l.take i0).all (fun o => !(o.dst == some d)) && ((l.take n).drop (i0 + 1)).all (fun o => !(o.dst == some d))) = true)
    (h : Ops P N (l.take n).toArray true (fun m1 _ => ∃ pvs, evp m1 ps.toList = some pvs ∧ TParts n0 0 pvs out ∧ (Nat.ble 1 (k * n0) && Nat.ble (k * n0) 16777216 && Nat.beq pvs.length k) = true ∧
      Ops P N (l.take n).toArray true (fun m2 _ => ∀ w2 b, New w w2 b e out → Ops P N l.toArray false (fun m w => Q .normal m w) (l.drop n) ((d, .slice (some ⟨b, 0, none⟩) k k) :: m2) w2) ((l.take n).drop (i0 + 1)) ((d, undef) :: m1) w) (l.take i0) m w)
    (hnd : NoDef N.ro l := by first | exact .inl rfl | exact .inr (by kernel_rfl)) :
    V P N (.region id l.toArray true) Q m w := by
  simp only [Bool.and_eq_true] at hd0 hf
  refine V_lit0 true n i0 out hm ho hB (fun _ => ⟨⟨d0, x, ty0, pos0, after0, r, hl, fun e => ?_⟩, Nat.le_of_ble_eq_true hd0.2, hf.1, hf.2⟩) hd hne h hnd
  subst e
  have := hd0.1
  rw [Nat.beq_refl] at this; cases this
end
end Go.Proofs.Ytjpnaofoeeegeaa


/-
  Layer 6 (trie): the walks of add, down, Above, Lookup.
  Conditions: addresses are below 2^32.
-/
namespace Go.Proofs.Ytjpnaofoeeegeaa
open Go.RowKit

instance : OneAll [] := ⟨rfl⟩
instance (k : IntKind) (n : Int) (l : List Value) [h : OneAll l] : OneAll (.int k n :: l) := ⟨by rw [List.all_cons, h.h]; rfl⟩
instance (b : Bool) (l : List Value) [h : OneAll l] : OneAll (.bool b :: l) := ⟨by rw [List.all_cons, h.h]; rfl⟩
instance (a : Option Addr) (l : List Value) [h : OneAll l] : OneAll (.pointer a :: l) := ⟨by rw [List.all_cons, h.h]; rfl⟩
instance (a : Option Addr) (n c : Nat) (l : List Value) [h : OneAll l] : OneAll (.slice a n c :: l) := ⟨by rw [List.all_cons, h.h]; rfl⟩
/-- An entry, as Go's struct has it. -/
structure En where
  p : Pf
  v : Int
deriving DecidableEq
def En.cells (e : En) : List Value := [.int .u32 e.p.a, .int .i64 e.p.n, .int .i64 e.v]
abbrev En.val (e : En) : Value := .agg #[.int .u32 e.p.a, .int .i64 e.p.n, .int .i64 e.v]
/-- What add appends. -/
def adds (p : Pf) (o : Option Int) : List En := match o with
  | some v => [⟨p, v⟩]
  | none => []
/-- The blocks of a list under construction. -/
def LFoot (bl : Nat) (v : Value) (c : Nat) : Prop := c = bl ∨ v.ownBlock = some c
/-- A list under construction. -/
structure Acc (w : World) (base bl : Nat) (v : Value) (M : List En) : Prop where
  blk : Blk w bl 140 [v]
  own : Own w base 42 3 v (M.map En.cells)
  ne : v.ownBlock ≠ some bl
def AccR (base bl : Nat) (v : Value) (M : List En) (w : World) (r : Value) (w' : World) : Prop := r = .tuple #[] ∧ ∃ v', Acc w' base bl v' M ∧ ∀ c, v'.ownBlock = some c → v.ownBlock = some c ∨ w.heap.size ≤ c
theorem add_v {base bl nb : Nat} {v : Value} {M : List En} (p : Pf) (o : Option Int) (w : World) (h : Acc w base bl v M) (h1 : w.cell? ⟨nb, 2, none⟩ = some (.bool o.isSome)) (h2 : w.cell? ⟨nb, 3, none⟩ = some (.int .i64 (o.getD 0)))
    (hbase : base ≤ w.heap.size) (hM : (M.length + 1) * 24 ≤ 140737488355328) :
    Calls Try.prog 82 #[.pointer (some ⟨bl, 0, none⟩), p.val, .pointer (some ⟨nb, 0, none⟩)] w (Does (LFoot bl v) (AccR base bl v (M ++ adds p o) w) w) := by
  obtain ⟨hB, hO, hne⟩ := h
  refine V_enter (vs := [_, _, _]) Try.func82 rfl Try.ntmps82 (Nat.le_of_ble_eq_true rfl) ?_
  repeat (first | refine Vx ?_ | (apply Ops_q; (case hon => exact Va); (case hd => rfl); (case hq => exact YlA)) | refine Vr ?_ | refine Vt ?_ | refine Vf ?_ | refine Vm ?_ | refine Ve ?_ | refine Vo ?_ | refine Vz ?_ | refine Vn ?_)
  (refine Ops_box (by exact Va) rfl rfl rfl ?_; intro w1 b1 n_b1; have k_b1 := n_b1.blk)
  have g1 := hB.ext n_b1.ext
  have o1 := hO.ext n_b1.ext
  have c1 := n_b1.ext.cell h1
  have c2 := n_b1.ext.cell h2
  repeat (first | refine Vx ?_ | (apply Ops_q; (case hon => exact Va); (case hd => rfl); (case hq => exact YlA)) | refine Vr ?_ | refine Vt ?_ | refine Vf ?_ | refine Vm ?_ | refine Ve ?_ | refine Vo ?_ | refine Vz ?_ | refine Vn ?_)
  cases o with
  | none =>
    repeat (first | refine Vx ?_ | (apply Ops_q; (case hon => exact Va); (case hd => rfl); (case hq => exact YlA)) | refine Vr ?_ | refine Vt ?_ | refine Vf ?_ | refine Vm ?_ | refine Ve ?_ | refine Vo ?_ | refine Vz ?_ | refine Vn ?_)
    refine ret0 (by first | exact .inl rfl | exact .inr rfl) rfl ?_
    exact Does_mk (fun w' he => ⟨rfl, v, ⟨g1.ext he, by rw [adds, List.append_nil]; exact o1.ext he, hne⟩, fun c hc => .inl hc⟩) (.of_ext n_b1.ext)
  | some x =>
    repeat (first | refine Vx ?_ | (apply Ops_q; (case hon => exact Va); (case hd => rfl); (case hq => exact YlA)) | refine Vr ?_ | refine Vt ?_ | refine Vf ?_ | refine Vm ?_ | refine Ve ?_ | refine Vo ?_ | refine Vz ?_ | refine Vn ?_)
    refine V_litM 12 11 [.int .u32 p.a, .int .i64 p.n, .int .i64 x] (by kernel_rfl) rfl (by kernel_rfl) rfl rfl (by kernel_rfl) rfl rfl ?_
    repeat (first | refine Vx ?_ | (apply Ops_q; (case hon => exact Va); (case hd => rfl); (case hq => exact YlA)) | refine Vr ?_ | refine Vt ?_ | refine Vf ?_ | refine Vm ?_ | refine Ve ?_ | refine Vo ?_ | refine Vz ?_ | refine Vn ?_)
    refine ⟨_, rfl, inferInstance, rfl, ?_⟩
    repeat (first | refine Vx ?_ | (apply Ops_q; (case hon => exact Va); (case hd => rfl); (case hq => exact YlA)) | refine Vr ?_ | refine Vt ?_ | refine Vf ?_ | refine Vm ?_ | refine Ve ?_ | refine Vo ?_ | refine Vz ?_ | refine Vn ?_)
    intro w2 b2 n_b2
    have k_b2 := n_b2.blk
    have o2 := o1.ext n_b2.ext
    have g2 := g1.ext n_b2.ext
    have e2 := n_b1.ext.trans n_b2.ext
    have ne2 : bl ≠ b2 := fun e => by have := g1.lt; have := n_b2.ge; omega
    (refine Ops_append1 (by exact Va) rfl rfl rfl rfl o2 k_b2.cells inferInstance inferInstance (by first | omega | (rw [List.length_map]; omega)) rfl (Nat.le_trans hbase e2.size) ?_; intro v' w3 o_v' g_w3 d_v')
    have g3 := grow_blk g_w3 g2 (fun e => hne e.symm)
    have hnv : v'.ownBlock ≠ some bl := dis_app d_v' hne g2.lt
    obtain ⟨ao', c', rfl, _⟩ := o_v'.slice
    repeat (first | refine Vx ?_ | (apply Ops_q; (case hon => exact Va); (case hd => rfl); (case hq => exact YlA)) | refine Vr ?_ | refine Vt ?_ | refine Vf ?_ | refine Vm ?_ | refine Ve ?_ | refine Vo ?_ | refine Vz ?_ | refine Vn ?_)
    (refine Ops_store (by exact Va) rfl rfl g3 (by rfl) ?_; intro w4 u_w4)
    have o4 := o_v'.upd u_w4 hnv
    have m4 : Mod (LFoot bl v) w w4 := ((Mod.of_ext e2).grow g_w3 (fun b hb => .inl (.inr hb))).upd u_w4 (.inl (.inl rfl))
    repeat (first | refine Vx ?_ | (apply Ops_q; (case hon => exact Va); (case hd => rfl); (case hq => exact YlA)) | refine Vr ?_ | refine Vt ?_ | refine Vf ?_ | refine Vm ?_ | refine Ve ?_ | refine Vo ?_ | refine Vz ?_ | refine Vn ?_)
    refine ret0 (by first | exact .inl rfl | exact .inr rfl) rfl ?_
    refine Does_mk (fun w' he => ⟨rfl, _, ⟨u_w4.blk.ext he, ?_, hnv⟩, fun c hc => ?_⟩) m4
    · have := o4.ext he
      rw [List.map_append]; exact this
    · rcases d_v' with h5 | ⟨b, h5, h6⟩
      · exact .inl (by rw [← h5]; exact hc)
      · rw [h5] at hc; cases hc
        exact .inr (Nat.le_trans e2.size h6)

theorem TrieM.mod {w w1 : World} {base b0 : Nat} {N : Nat → Nat → Option Nat} {E : Nat → Nat → Option Int} {n : Int} {S : Nat → Prop} (h : TrieM w base b0 N E n) (hm : Mod S w w1) (hs : ∀ c, Foot N c → ¬S c) : TrieM w1 base b0 N E n :=
  { h with node := fun x k b hb => hm.blk (h.node x k b hb) (hs b ⟨x, k, hb⟩) }
/-- The entries along a path. -/
def pre (E : Nat → Nat → Option Int) (a k : Nat) : List En := (List.range k).flatMap fun j => adds ⟨top a j, j⟩ (E (top a j) j)
theorem pre_succ (E : Nat → Nat → Option Int) (a k : Nat) : pre E a (k + 1) = pre E a k ++ adds ⟨top a k, k⟩ (E (top a k) k) := by
  unfold pre
  rw [List.range_succ, List.flatMap_append]
  simp
theorem adds_len (p : Pf) (o : Option Int) : (adds p o).length ≤ 1 := by unfold adds; split <;> simp
theorem pre_len (E : Nat → Nat → Option Int) (a : Nat) : ∀ k, (pre E a k).length ≤ k
  | 0 => by simp [pre]
  | k + 1 => by
    have := pre_len E a k
    have h2 := adds_len ⟨top a k, k⟩ (E (top a k) k)
    rw [pre_succ, List.length_append]
    omega
theorem pre_none {E : Nat → Nat → Option Int} {a k : Nat} (m : Nat) (h : ∀ j, k ≤ j → j < m → E (top a j) j = none) (hk : k ≤ m) : pre E a m = pre E a k := by
  induction m with
  | zero => obtain rfl : k = 0 := by omega
            rfl
  | succ m ih =>
    rcases Nat.lt_or_ge k (m + 1) with h1 | h1
    · rw [pre_succ, ih (fun j h2 h3 => h j h2 (by omega)) (by omega), h m (by omega) (by omega), adds, List.append_nil]
    · obtain rfl : k = m + 1 := by omega
      rfl
theorem room {m p k n : Nat} (hp : p ≤ k) (hk : k ≤ n) (hn : n ≤ 32) (hM : (m + 33) * 24 ≤ 140737488355328) : (m + p + 1) * 24 ≤ 140737488355328 :=
  Nat.le_trans (Nat.mul_le_mul_right 24 (by omega : m + p + 1 ≤ m + 33)) hM
def addF (bl : Nat) : Value := .func (.func 82) #[.pointer (some ⟨bl, 0, none⟩)] #[]
set_option maxHeartbeats 1000000 in
theorem down_v {base b0 base2 bl : Nat} {N : Nat → Nat → Option Nat} {E : Nat → Nat → Option Int} {cnt : Int} {v : Value} {M : List En} (a n : Nat) (w : World) (h : TrieM w base b0 N E cnt) (hA : Acc w base2 bl v M) (ha : a < 4294967296) (hn : n ≤ 32)
    (hd1 : ¬Foot N bl) (hd2 : ∀ c, v.ownBlock = some c → ¬Foot N c) (hbase : base2 ≤ w.heap.size) (hM : (M.length + 33) * 24 ≤ 140737488355328) :
    Calls Try.prog 81 #[.pointer (some ⟨b0, 0, none⟩), .int .u32 a, .int .i64 n, addF bl] w (Does (LFoot bl v) (AccR base2 bl v (M ++ pre E a (n + 1)) w) w) := by
  have hst : N (top a 0) 0 = some b0 := by rw [top_zero _ ha, h.root]
  have hdis : ∀ c, Foot N c → ¬LFoot bl v c := fun c hc hl => hl.elim (fun e => hd1 (e ▸ hc)) (fun e => hd2 c e hc)
  unfold addF
  refine V_enter (vs := [_, _, _, _]) Try.func81 rfl Try.ntmps81 (Nat.le_of_ble_eq_true rfl) ?_
  repeat (first | refine Vx ?_ | (apply Ops_q; (case hon => exact Va); (case hd => rfl); (case hq => exact YlA)) | refine Vr ?_ | refine Vt ?_ | refine Vf ?_ | refine Vm ?_ | refine Ve ?_ | refine Vo ?_ | refine Vz ?_ | refine Vn ?_)
  refine V_loop (fun s : Nat × Value => [(9, .int .i64 s.1), (8, ptrV (N (top a s.1) s.1)), (1, .int .u32 a), (2, .int .i64 n), (3, .func (.func 82) #[.pointer (some ⟨bl, 0, none⟩)] #[])])
    (fun s w' => Mod (LFoot bl v) w w' ∧ s.1 ≤ n ∧ Acc w' base2 bl s.2 (M ++ pre E a s.1) ∧ ∀ c, s.2.ownBlock = some c → v.ownBlock = some c ∨ w.heap.size ≤ c) (fun s => n - s.1) (0, v)
    ⟨rfl, by rw [hst]; exact rfl, rfl, rfl, rfl, trivial⟩ ⟨.of_ext (Ext.refl _), Nat.zero_le _, by simpa [pre] using hA, fun c hc => .inl hc⟩ ?_
  rintro ⟨k, v'⟩ w1 ⟨m1, hk, hA, hv⟩
  dsimp only at hk hA hv ⊢
  have h1 := h.mod m1 hdis
  cases hnk : N (top a k) k with
  | none =>
    rw [ptrV_none]
    repeat (first | refine Vx ?_ | (apply Ops_q; (case hon => exact Va); (case hd => rfl); (case hq => exact YlA)) | refine Vr ?_ | refine Vt ?_ | refine Vf ?_ | refine Vm ?_ | refine Ve ?_ | refine Vo ?_ | refine Vz ?_ | refine Vn ?_)
    refine ret0 (by first | exact .inl rfl | exact .inr rfl) rfl ?_
    refine Does_mk (fun w' he => ⟨rfl, v', ?_, hv⟩) m1
    have : pre E a (n + 1) = pre E a k := pre_none (n + 1) (fun j h2 h3 => h.at_none (h.none_below a hnk h2 (by omega))) (by omega)
    rw [this]
    exact ⟨hA.blk.ext he, hA.own.ext he, hA.ne⟩
  | some b =>
    rw [ptrV_some]
    have hkc := h1.kid_cell hnk (bit_lt a k)
    have hb2 := bit_lt a k
    repeat (first | refine Vx ?_ | (apply Ops_q; (case hon => exact Va); (case hd => rfl); (case hq => exact YlA)) | refine Vr ?_ | refine Vt ?_ | refine Vf ?_ | refine Vm ?_ | refine Ve ?_ | refine Vo ?_ | refine Vz ?_ | refine Vn ?_)
    (apply Ops_q; (case hon => (exact Va)); (case hd => rfl); (case hq => exact Yl_call rfl (fun w_ e_ => make_v a k w_ ha (by omega))))
    repeat (first | refine Vx ?_ | (apply Ops_q; (case hon => exact Va); (case hd => rfl); (case hq => exact YlA)) | refine Vr ?_ | refine Vt ?_ | refine Vf ?_ | refine Vm ?_ | refine Ve ?_ | refine Vo ?_ | refine Vz ?_ | refine Vn ?_)
    (refine Ops_alloc (by exact Va) rfl ?_; intro w2 b2 n_b2; have k_b2 := n_b2.blk)
    have g2 : w.heap.size ≤ b2 := Nat.le_trans m1.size n_b2.ge
    repeat (first | refine Vx ?_ | (apply Ops_q; (case hon => exact Va); (case hd => rfl); (case hq => exact YlA)) | refine Vr ?_ | refine Vt ?_ | refine Vf ?_ | refine Vm ?_ | refine Ve ?_ | refine Vo ?_ | refine Vz ?_ | refine Vn ?_)
    (refine Ops_store (by exact Va) rfl rfl (by assumption) (by first | rfl | exact OneAll.h) ?_; intro w3 u_w3; have k_b2 := u_w3.blk)
    have m3 : Mod (LFoot bl v) w w3 := (m1.ext n_b2.ext).upd u_w3 (.inr g2)
    have h3 := h.mod m3 hdis
    have hpl := pre_len E a k
    have hbl2 : bl ≠ b2 := fun e => by have := hA.blk.lt; have := n_b2.ge; omega
    have hvb : v'.ownBlock ≠ some b2 := fun e => by have := hA.own.lt e; have := n_b2.ge; omega
    have hA3 : Acc w3 base2 bl v' (M ++ pre E a k) := ⟨u_w3.keep (hA.blk.ext n_b2.ext) hbl2, (hA.own.ext n_b2.ext).upd u_w3 hvb, hA.ne⟩
    have hlen : (M ++ pre E a k).length = M.length + (pre E a k).length := List.length_append ..
    have hadd := fun w_ (e_ : Ext w3 w_) => add_v (base := base2) (bl := bl) (nb := b) (v := v') (M := M ++ pre E a k) ⟨top a k, k⟩ (E (top a k) k) w_ ⟨hA3.blk.ext e_, hA3.own.ext e_, hA3.ne⟩ (e_.cell (h3.has_cell hnk)) (e_.cell (h3.val_cell hnk)) (Nat.le_trans hbase (Nat.le_trans m3.size e_.size)) (hlen ▸ room hpl hk hn hM)
    repeat (first | refine Vx ?_ | (apply Ops_q; (case hon => exact Va); (case hd => rfl); (case hq => exact YlA)) | refine Vr ?_ | refine Vt ?_ | refine Vf ?_ | refine Vm ?_ | refine Ve ?_ | refine Vo ?_ | refine Vz ?_ | refine Vn ?_)
    refine Ops_callvM (S := LFoot bl v') (R := fun w_ => AccR base2 bl v' ((M ++ pre E a k) ++ adds ⟨top a k, k⟩ (E (top a k) k)) w_) (first := [.pointer (some ⟨bl, 0, none⟩)]) (cap := []) (by exact Va) rfl rfl rfl hadd ?_
    intro r w4 w0_ e0 m4 hR
    obtain ⟨rfl, v2, hA4, hv2⟩ := hR
    have m4' : Mod (LFoot bl v) w w4 := (m3.ext e0).trans' m4 (fun c hc => hc.elim (fun e => .inl (.inl e)) (fun e => (hv c e).elim (fun e2 => .inl (.inr e2)) (fun e2 => .inr e2)))
    have hv4 : ∀ c, v2.ownBlock = some c → v.ownBlock = some c ∨ w.heap.size ≤ c := fun c hc => (hv2 c hc).elim (fun e => hv c e) (fun e => .inr (Nat.le_trans (Nat.le_trans m3.size e0.size) e))
    rw [List.append_assoc, ← pre_succ] at hA4
    have h4 := h.mod m4' hdis
    repeat (first | refine Vx ?_ | (apply Ops_q; (case hon => exact Va); (case hd => rfl); (case hq => exact YlA)) | refine Vr ?_ | refine Vt ?_ | refine Vf ?_ | refine Vm ?_ | refine Ve ?_ | refine Vo ?_ | refine Vz ?_ | refine Vn ?_)
    refine V_cond rfl (fun hg => ?_) (fun hg => ?_)
    · have : k = n := by have := of_decide_eq_true hg; omega
      subst this
      repeat (first | refine Vx ?_ | (apply Ops_q; (case hon => exact Va); (case hd => rfl); (case hq => exact YlA)) | refine Vr ?_ | refine Vt ?_ | refine Vf ?_ | refine Vm ?_ | refine Ve ?_ | refine Vo ?_ | refine Vz ?_ | refine Vn ?_)
      refine ret0 (by first | exact .inl rfl | exact .inr rfl) rfl ?_
      exact Does_mk (fun w' he => ⟨rfl, v2, ⟨hA4.blk.ext he, hA4.own.ext he, hA4.ne⟩, hv4⟩) m4'
    · have hkn : k < n := by have := of_decide_eq_false hg; omega
      have hkc4 := h4.kid_cell hnk (bit_lt a k)
      rw [h4.kid_eq a (by omega)] at hkc4
      repeat (first | refine Vx ?_ | (apply Ops_q; (case hon => exact Va); (case hd => rfl); (case hq => exact YlA)) | refine Vr ?_ | refine Vt ?_ | refine Vf ?_ | refine Vm ?_ | refine Ve ?_ | refine Vo ?_ | refine Vz ?_ | refine Vn ?_)
      (apply Ops_q; (case hon => (exact Va)); (case hd => rfl); (case hq => exact Yl_call rfl (fun w_ e_ => bit_v a k w_ ha)))
      repeat (first | refine Vx ?_ | (apply Ops_q; (case hon => exact Va); (case hd => rfl); (case hq => exact YlA)) | refine Vr ?_ | refine Vt ?_ | refine Vf ?_ | refine Vm ?_ | refine Ve ?_ | refine Vo ?_ | refine Vz ?_ | refine Vn ?_)
      (apply Ops_q; (case hon => (exact Va)); (case hd => rfl); (case hq => exact Yl_indexA (j := (bitAt a k)) rfl rfl (by first | exact Nat.le_of_ble_eq_true rfl | omega)))
      repeat (first | refine Vx ?_ | (apply Ops_q; (case hon => exact Va); (case hd => rfl); (case hq => exact YlA)) | refine Vr ?_ | refine Vt ?_ | refine Vf ?_ | refine Vm ?_ | refine Ve ?_ | refine Vo ?_ | refine Vz ?_ | refine Vn ?_)
      exact ⟨(k + 1, v2), (by repeat (first | exact trivial | refine ⟨rfl, ?_⟩)), ⟨m4', hkn, hA4, hv4⟩, by simp only; omega⟩
def aboveL (E : Nat → Nat → Option Int) (p : Pf) : List En := if p.valid then pre E p.a (p.n.toNat + 1) else []
theorem above_v {base b0 : Nat} {N : Nat → Nat → Option Nat} {E : Nat → Nat → Option Int} {cnt : Int} (p : Pf) (w : World) (h : TrieM w base b0 N E cnt) (ha : p.a < 4294967296) :
    Calls Try.prog 42 #[.pointer (some ⟨b0, 0, none⟩), p.val] w (Gives (fun r w' => Own w' w.heap.size 42 3 r ((aboveL E p).map En.cells)) w) := by
  refine V_enter (vs := [_, _]) Try.func42 rfl Try.ntmps42 (Nat.le_of_ble_eq_true rfl) ?_
  repeat (first | refine Vx ?_ | (apply Ops_q; (case hon => exact Va); (case hd => rfl); (case hq => exact YlA)) | refine Vr ?_ | refine Vt ?_ | refine Vf ?_ | refine Vm ?_ | refine Ve ?_ | refine Vo ?_ | refine Vz ?_ | refine Vn ?_)
  (refine Ops_box (by exact Va) rfl rfl rfl ?_; intro w1 b1 n_b1; have k_b1 := n_b1.blk)
  repeat (first | refine Vx ?_ | (apply Ops_q; (case hon => exact Va); (case hd => rfl); (case hq => exact YlA)) | refine Vr ?_ | refine Vt ?_ | refine Vf ?_ | refine Vm ?_ | refine Ve ?_ | refine Vo ?_ | refine Vz ?_ | refine Vn ?_)
  (apply Ops_q; (case hon => (exact Va)); (case hd => rfl); (case hq => exact Yl_call rfl (fun w_ e_ => valid_v p w_ ha)))
  repeat (first | refine Vx ?_ | (apply Ops_q; (case hon => exact Va); (case hd => rfl); (case hq => exact YlA)) | refine Vr ?_ | refine Vt ?_ | refine Vf ?_ | refine Vm ?_ | refine Ve ?_ | refine Vo ?_ | refine Vz ?_ | refine Vn ?_)
  cases hv : p.valid with
  | false =>
    repeat (first | refine Vx ?_ | (apply Ops_q; (case hon => exact Va); (case hd => rfl); (case hq => exact YlA)) | refine Vr ?_ | refine Vt ?_ | refine Vf ?_ | refine Vm ?_ | refine Ve ?_ | refine Vo ?_ | refine Vz ?_ | refine Vn ?_)
    refine ret1 (by first | exact .inl rfl | exact .inr rfl) rfl rfl ?_
    exact Gives_mk (fun w' he => by rw [aboveL, hv]; exact Own.nil) n_b1.ext
  | true =>
    obtain ⟨v1, v2, v3⟩ := Pf.valid_iff.1 hv
    obtain ⟨len, hlen⟩ : ∃ len : Nat, p.n = len := ⟨p.n.toNat, by omega⟩
    have hAb : aboveL E p = pre E p.a (len + 1) := by rw [aboveL, if_pos hv, hlen, Int.toNat_natCast]
    rw [hlen] at k_b1
    repeat (first | refine Vx ?_ | (apply Ops_q; (case hon => exact Va); (case hd => rfl); (case hq => exact YlA)) | refine Vr ?_ | refine Vt ?_ | refine Vf ?_ | refine Vm ?_ | refine Ve ?_ | refine Vo ?_ | refine Vz ?_ | refine Vn ?_)
    (refine Ops_alloc (by exact Va) rfl ?_; intro w2 b2 n_b2; have k_b2 := n_b2.blk)
    replace k_b1 := k_b1.ext n_b2.ext
    have e2 := n_b1.ext.trans n_b2.ext
    have g2 : w.heap.size ≤ b2 := Nat.le_trans n_b1.ext.size n_b2.ge
    have h2 := h.ext e2
    repeat (first | refine Vx ?_ | (apply Ops_q; (case hon => exact Va); (case hd => rfl); (case hq => exact YlA)) | refine Vr ?_ | refine Vt ?_ | refine Vf ?_ | refine Vm ?_ | refine Ve ?_ | refine Vo ?_ | refine Vz ?_ | refine Vn ?_)
    (refine Ops_callM (by exact Va) rfl rfl (fun w_ e_ => down_v (base2 := w.heap.size) (M := []) p.a len w_ (h2.ext e_) ⟨k_b2.ext e_, Own.nil, fun e => by cases e⟩ ha (by omega) (fun hf => by have := h.lt hf; omega) (fun c hc => by cases hc) (Nat.le_trans e2.size e_.size) (by decide)) ?_)
    intro r w3 w0_ e0 m3 hR
    obtain ⟨rfl, v', hA, _⟩ := hR
    have e3 : Ext w w3 := Mod.ext_of (e2.trans e0) m3 (fun c hc => hc.elim (fun e => e ▸ g2) (fun e => by cases e))
    have hc : w3.cell? ⟨b2, 0, none⟩ = some v' := hA.blk.cell rfl
    have hO := hA.own
    repeat (first | refine Vx ?_ | (apply Ops_q; (case hon => exact Va); (case hd => rfl); (case hq => exact YlA)) | refine Vr ?_ | refine Vt ?_ | refine Vf ?_ | refine Vm ?_ | refine Ve ?_ | refine Vo ?_ | refine Vz ?_ | refine Vn ?_)
    refine ret1 (by first | exact .inl rfl | exact .inr rfl) rfl rfl ?_
    exact Gives_mk (fun w' he => by rw [hAb]; exact hO.ext he) e3
end Go.Proofs.Ytjpnaofoeeegeaa


/-
  Layer 6 (trie): the walks of walk, Under, All, Lookup, Of.
  Conditions: addresses are below 2^32.
-/
namespace Go.Proofs.Ytjpnaofoeeegeaa
open Go.RowKit

theorem last_kid {x k : Nat} (hx : top x k = x) (hk : k < 32) (hl : x < 4294967296) : top (x + (2 ^ (32 - k) - 1)) (k + 1) = kidA x k 1 := by
  have h2 : x = x / 2 ^ (32 - k) * 2 ^ (32 - k) := by unfold top at hx; exact hx.symm
  unfold kidA top
  rw [show 32 - (k + 1) = 31 - k by omega, pow_up hk] at *
  have hp : 0 < 2 ^ (31 - k) := Nat.two_pow_pos _
  generalize 2 ^ (31 - k) = p at *
  generalize x / (2 * p) = q at *
  subst h2
  have e : q * (2 * p) + (2 * p - 1) = (p - 1) + (2 * q + 1) * p := by
    rw [Nat.add_mul, Nat.mul_assoc 2 q p, Nat.mul_left_comm 2 q p]; omega
  rw [e, Nat.add_mul_div_right _ _ hp, Nat.div_eq_of_lt (by omega), Nat.zero_add, Nat.add_mul, Nat.mul_assoc 2 q p, Nat.mul_left_comm 2 q p]
/-- The entries below a prefix, in preorder. -/
def sub (E : Nat → Nat → Option Int) : Nat → Nat → Nat → List En
  | 0, x, k => adds ⟨x, k⟩ (E x k)
  | f + 1, x, k => adds ⟨x, k⟩ (E x k) ++ (sub E f (kidA x k 0) (k + 1) ++ sub E f (kidA x k 1) (k + 1))
end Go.Proofs.Ytjpnaofoeeegeaa


/-
  Layer 6 (trie): the walks of Lookup and Of.
  Conditions: addresses are below 2^32.
-/
namespace Go.Proofs.Ytjpnaofoeeegeaa
open Go.RowKit

def En.zero : En := ⟨⟨0, 0⟩, 0⟩
def lookE (E : Nat → Nat → Option Int) (a : Nat) : Option En := (pre E a 33).getLast?
theorem lookup_v {base b0 : Nat} {N : Nat → Nat → Option Nat} {E : Nat → Nat → Option Int} {cnt : Int} (a : Nat) (w : World) (h : TrieM w base b0 N E cnt) (ha : a < 4294967296) :
    Calls Try.prog 15 #[.pointer (some ⟨b0, 0, none⟩), .int .u32 a] w (Ret (.tuple #[((lookE E a).getD En.zero).val, .bool (lookE E a).isSome]) w) := by
  have hab : aboveL E ⟨a, 32⟩ = pre E a 33 := by
    rw [aboveL, if_pos (Pf.valid_iff.2 ⟨by simp, by simp, by simpa using top_full a⟩)]; rfl
  have hpl := pre_len E a 33
  refine V_enter (vs := [_, _]) Try.func15 rfl Try.ntmps15 (Nat.le_of_ble_eq_true rfl) ?_
  repeat (first | refine Vx ?_ | (apply Ops_q; (case hon => exact Va); (case hd => rfl); (case hq => exact YlA)) | refine Vr ?_ | refine Vt ?_ | refine Vf ?_ | refine Vm ?_ | refine Ve ?_ | refine Vo ?_ | refine Vz ?_ | refine Vn ?_)
  (refine Ops_alloc (by exact Va) rfl ?_; intro w1 b1 n_b1; have k_b1 := n_b1.blk)
  repeat (first | refine Vx ?_ | (apply Ops_q; (case hon => exact Va); (case hd => rfl); (case hq => exact YlA)) | refine Vr ?_ | refine Vt ?_ | refine Vf ?_ | refine Vm ?_ | refine Ve ?_ | refine Vo ?_ | refine Vz ?_ | refine Vn ?_)
  (refine Ops_callR (by exact Va) rfl rfl (fun w_ e_ => above_v ⟨a, 32⟩ w_ (h.ext (n_b1.ext.trans e_)) ha) ?_; intro v w2 w0_ e0_ e1_ r_v; have e_w2 := e0_.trans e1_; have b_v := e0_.size; clear e0_ e1_)
  rw [hab] at r_v
  have e2 := n_b1.ext.trans e_w2
  have g1 := n_b1.ge
  obtain ⟨ao, c, rfl, hA⟩ := r_v.slice
  rw [List.length_map]
  replace k_b1 := k_b1.ext e_w2
  clear r_v
  generalize hL : pre E a 33 = L at *
  repeat (first | refine Vx ?_ | (apply Ops_q; (case hon => exact Va); (case hd => rfl); (case hq => exact YlA)) | refine Vr ?_ | refine Vt ?_ | refine Vf ?_ | refine Vm ?_ | refine Ve ?_ | refine Vo ?_ | refine Vz ?_ | refine Vn ?_)
  refine V_cond rfl (fun hg => ?_) (fun hg => ?_)
  · have hnil : L = [] := List.length_eq_zero_iff.1 (by have := of_decide_eq_true hg; omega)
    have hlk : lookE E a = none := by rw [lookE, hL, hnil]; rfl
    repeat (first | refine Vx ?_ | (apply Ops_q; (case hon => exact Va); (case hd => rfl); (case hq => exact YlA)) | refine Vr ?_ | refine Vt ?_ | refine Vf ?_ | refine Vm ?_ | refine Ve ?_ | refine Vo ?_ | refine Vz ?_ | refine Vn ?_)
    (refine Ops_store (by exact Va) rfl rfl (by assumption) (by first | rfl | exact OneAll.h) ?_; intro w3 u_w3; have k_b1 := u_w3.blk)
    have e3 := u_w3.below e2 g1
    repeat (first | refine Vx ?_ | (apply Ops_q; (case hon => exact Va); (case hd => rfl); (case hq => exact YlA)) | refine Vr ?_ | refine Vt ?_ | refine Vf ?_ | refine Vm ?_ | refine Ve ?_ | refine Vo ?_ | refine Vz ?_ | refine Vn ?_)
    refine retR2 (by first | exact .inl rfl | exact .inr rfl) rfl (res_agg rfl k_b1.cells) rfl ?_
    exact Ret_mk (by rw [hlk]; rfl) e3
  · have hpos : 0 < L.length := by have := of_decide_eq_false hg; omega
    obtain ⟨x, hx⟩ : ∃ x, L[L.length - 1]? = some x := ⟨_, List.getElem?_eq_getElem (by omega)⟩
    have hlk : lookE E a = some x := by rw [lookE, hL, List.getLast?_eq_getElem?, hx]
    obtain ⟨ad, rfl, hc⟩ := hA (L.length - 1) x.cells (by rw [List.getElem?_map, hx]; rfl)
    obtain ⟨m, hm⟩ : ∃ m : Nat, ((L.length : Int) - 1) = m := ⟨L.length - 1, by omega⟩
    have hm' : L.length - 1 = m := by omega
    rw [hm'] at hc
    have hc2 : Cells w2 (ad.add (m * 3)) [.int .u32 x.p.a, .int .i64 x.p.n, .int .i64 x.v] := hc
    clear hc
    repeat (first | refine Vx ?_ | (apply Ops_q; (case hon => exact Va); (case hd => rfl); (case hq => exact YlA)) | refine Vr ?_ | refine Vt ?_ | refine Vf ?_ | refine Vm ?_ | refine Ve ?_ | refine Vo ?_ | refine Vz ?_ | refine Vn ?_)
    rw [hm]
    (apply Ops_q; (case hon => (exact Va)); (case hd => rfl); (case hq => exact Yl_indexS (j := m) rfl rfl (by omega)))
    repeat (first | refine Vx ?_ | (apply Ops_q; (case hon => exact Va); (case hd => rfl); (case hq => exact YlA)) | refine Vr ?_ | refine Vt ?_ | refine Vf ?_ | refine Vm ?_ | refine Ve ?_ | refine Vo ?_ | refine Vz ?_ | refine Vn ?_)
    (refine Ops_store (by exact Va) rfl rfl (by assumption) (by first | rfl | exact OneAll.h) ?_; intro w3 u_w3; have k_b1 := u_w3.blk)
    have e3 := u_w3.below e2 g1
    repeat (first | refine Vx ?_ | (apply Ops_q; (case hon => exact Va); (case hd => rfl); (case hq => exact YlA)) | refine Vr ?_ | refine Vt ?_ | refine Vf ?_ | refine Vm ?_ | refine Ve ?_ | refine Vo ?_ | refine Vz ?_ | refine Vn ?_)
    refine retR2 (by first | exact .inl rfl | exact .inr rfl) rfl (res_agg rfl k_b1.cells) rfl ?_
    exact Ret_mk (by rw [hlk]; rfl) e3

/-! ### Of -/
/-- Entries and their number, after one more is put. -/
abbrev St := (Nat → Nat → Option Int) × Int
def St.zero : St := (fun _ _ => none, 0)
def putS (s : St) (e : En) : St := (setE s.1 e.p e.v, if (at_ s.1 e.p).isNone then s.2 + 1 else s.2)
def ofS (L : List En) : St := L.foldl putS St.zero
theorem ofS_snoc {L : List En} {k : Nat} {x : En} (hx : L[k]? = some x) : ofS (L.take (k + 1)) = putS (ofS (L.take k)) x := by
  unfold ofS
  rw [List.take_add_one, hx, Option.toList_some, List.foldl_append]; rfl
theorem ofS_cnt : ∀ (L : List En), 0 ≤ (ofS L).2 ∧ (ofS L).2 ≤ L.length := by
  intro L
  have key : ∀ (L : List En) (s : St), s.2 ≤ (L.foldl putS s).2 ∧ (L.foldl putS s).2 ≤ s.2 + L.length := by
    intro L
    induction L with
    | nil => intro s; simp
    | cons x r ih =>
      intro s
      obtain ⟨h1, h2⟩ := ih (putS s x)
      have h3 : s.2 ≤ (putS s x).2 ∧ (putS s x).2 ≤ s.2 + 1 := by unfold putS; simp only; split <;> omega
      simp only [List.foldl_cons, List.length_cons]
      omega
  have := key L St.zero
  unfold ofS
  simp only [St.zero] at this ⊢
  omega
def allOk (L : List En) : Bool := L.all (fun e => e.p.valid)
/-- The elements of a list of entries, in memory. -/
def Ens (w : World) (ao : Option Addr) (L : List En) : Prop := Arr w 3 ao (L.map En.cells)
theorem Ens.ext {w w' : World} {ao : Option Addr} {L : List En} (h : Ens w ao L) (he : Ext w w') : Ens w' ao L := Arr.ext h he
theorem Ens.at {w : World} {ao : Option Addr} {L : List En} (h : Ens w ao L) {k : Nat} {x : En} (hk : L[k]? = some x) : ∃ ad, ao = some ad ∧ Cells w (ad.add (k * 3)) x.cells := h k x.cells (by rw [List.getElem?_map, hk]; rfl)
def OfR (L : List En) (w0 : World) (r : Value) (w' : World) : Prop :=
  if allOk L then ∃ b N, r = .tuple #[.pointer (some ⟨b, 0, none⟩), .int .i64 0] ∧ TrieM w' w0.heap.size b N (ofS L).1 (ofS L).2 else r = .tuple #[.pointer none, .int .i64 1]
set_option maxHeartbeats 1000000 in
theorem of_entries_v (ao : Option Addr) (L : List En) (c : Nat) (w : World) (hL : Ens w ao L) (ha : ∀ e ∈ L, e.p.a < 4294967296) (hn : L.length ≤ 1000000) :
    Calls Try.prog 14 #[.slice ao L.length c] w (Gives (OfR L w) w) := by
  refine V_enter (vs := [_]) Try.func14 rfl Try.ntmps14 (Nat.le_of_ble_eq_true rfl) ?_
  repeat (first | refine Vx ?_ | (apply Ops_q; (case hon => exact Va); (case hd => rfl); (case hq => exact YlA)) | refine Vr ?_ | refine Vt ?_ | refine Vf ?_ | refine Vm ?_ | refine Ve ?_ | refine Vo ?_ | refine Vz ?_ | refine Vn ?_)
  (refine Ops_callR (by exact Va) rfl rfl (fun w_ e_ => new_v w_) ?_; intro v w1 w0_ e0_ e1_ r_v; have e_w1 := e0_.trans e1_; have b_v := e0_.size; clear e0_ e1_)
  obtain ⟨b, rfl, h⟩ := r_v
  have hg0 : ∀ c, Foot (N0 b) c → w.heap.size ≤ c := fun c hc => Nat.le_trans b_v (h.foot_ge hc)
  replace h : TrieM w1 w.heap.size b (N0 b) (fun _ _ => none) 0 := { h with ge := fun x k c hc => hg0 c ⟨x, k, hc⟩ }
  repeat (first | refine Vx ?_ | (apply Ops_q; (case hon => exact Va); (case hd => rfl); (case hq => exact YlA)) | refine Vr ?_ | refine Vt ?_ | refine Vf ?_ | refine Vm ?_ | refine Ve ?_ | refine Vo ?_ | refine Vz ?_ | refine Vn ?_)
  refine V_loop (fun s : Nat × (Nat → Nat → Option Nat) => [(12, .int .i64 s.1), (11, .int .i64 L.length), (10, .slice ao L.length c), (4, .pointer (some ⟨b, 0, none⟩))])
    (fun s w' => Ext w w' ∧ s.1 ≤ L.length ∧ TrieM w' w.heap.size b s.2 (ofS (L.take s.1)).1 (ofS (L.take s.1)).2 ∧ allOk (L.take s.1) = true) (fun s => L.length - s.1) (0, N0 b)
    (by repeat (first | exact trivial | refine ⟨rfl, ?_⟩)) ⟨e_w1, Nat.zero_le _, h, rfl⟩ ?_
  clear h hg0
  rintro ⟨k, N⟩ w2 ⟨e2, hk, h, hok⟩
  dsimp only at hk h hok ⊢
  repeat (first | refine Vx ?_ | (apply Ops_q; (case hon => exact Va); (case hd => rfl); (case hq => exact YlA)) | refine Vr ?_ | refine Vt ?_ | refine Vf ?_ | refine Vm ?_ | refine Ve ?_ | refine Vo ?_ | refine Vz ?_ | refine Vn ?_)
  refine V_cond rfl (fun hg => ?_) (fun hg => ?_)
  · replace hg := of_decide_eq_true hg
    have hkl : k < L.length := by omega
    obtain ⟨x, hx⟩ : ∃ x, L[k]? = some x := ⟨_, List.getElem?_eq_getElem hkl⟩
    obtain ⟨ad, rfl, hc⟩ := hL.at hx
    have hax := ha x (List.mem_of_getElem? hx)
    have hst := ofS_snoc hx
    have hcnt := ofS_cnt (L.take k)
    have hlt : (L.take k).length ≤ k := List.length_take_le _ _
    have hok' : allOk (L.take (k + 1)) = x.p.valid := by
      unfold allOk at hok ⊢
      rw [List.take_add_one, hx, Option.toList_some, List.all_append, hok]; simp
    have hmem : x ∈ L := List.mem_of_getElem? hx
    have hc2 : Cells w2 (ad.add (k * 3)) [.int .u32 x.p.a, .int .i64 x.p.n, .int .i64 x.v] := hc.ext e2
    repeat (first | refine Vx ?_ | (apply Ops_q; (case hon => exact Va); (case hd => rfl); (case hq => exact YlA)) | refine Vr ?_ | refine Vt ?_ | refine Vf ?_ | refine Vm ?_ | refine Ve ?_ | refine Vo ?_ | refine Vz ?_ | refine Vn ?_)
    (apply Ops_q; (case hon => (exact Va)); (case hd => rfl); (case hq => exact Yl_indexS (j := k) rfl rfl (by omega)))
    repeat (first | refine Vx ?_ | (apply Ops_q; (case hon => exact Va); (case hd => rfl); (case hq => exact YlA)) | refine Vr ?_ | refine Vt ?_ | refine Vf ?_ | refine Vm ?_ | refine Ve ?_ | refine Vo ?_ | refine Vz ?_ | refine Vn ?_)
    (refine Ops_alloc (by exact Va) rfl ?_; intro w3 b3 n_b3; have k_b3 := n_b3.blk)
    have e3 := e2.trans n_b3.ext
    have g3 : w.heap.size ≤ b3 := Nat.le_trans e2.size n_b3.ge
    repeat (first | refine Vx ?_ | (apply Ops_q; (case hon => exact Va); (case hd => rfl); (case hq => exact YlA)) | refine Vr ?_ | refine Vt ?_ | refine Vf ?_ | refine Vm ?_ | refine Ve ?_ | refine Vo ?_ | refine Vz ?_ | refine Vn ?_)
    (refine Ops_store (by exact Va) rfl rfl (by assumption) (by first | rfl | exact OneAll.h) ?_; intro w4 u_w4; have k_b3 := u_w4.blk)
    have e4 := u_w4.below e3 g3
    have hf3 : ∀ c, Foot N c → c ≠ b3 := fun c hc e => by have := h.lt hc; have := n_b3.ge; omega
    have h4 : TrieM w4 w.heap.size b N (ofS (L.take k)).1 (ofS (L.take k)).2 := { h with node := fun x k c hc => u_w4.keep ((h.node x k c hc).ext n_b3.ext) (hf3 c ⟨x, k, hc⟩) }
    have hpart : Cells w4 ⟨b3, 0, none⟩ [.int .u32 x.p.a, .int .i64 x.p.n] := k_b3.part 0 2
    repeat (first | refine Vx ?_ | (apply Ops_q; (case hon => exact Va); (case hd => rfl); (case hq => exact YlA)) | refine Vr ?_ | refine Vt ?_ | refine Vf ?_ | refine Vm ?_ | refine Ve ?_ | refine Vo ?_ | refine Vz ?_ | refine Vn ?_)
    cases hv : x.p.valid with
    | false =>
      have hno : allOk L = false := by
        cases hA : allOk L with
        | false => rfl
        | true =>
          have := List.all_eq_true.1 hA x hmem
          rw [hv] at this; cases this
      (apply Ops_q; (case hon => (exact Va)); (case hd => rfl); (case hq => exact Yl_call rfl (fun w_ e_ => put_bad b x.p x.v w_ hax hv)))
      repeat (first | refine Vx ?_ | (apply Ops_q; (case hon => exact Va); (case hd => rfl); (case hq => exact YlA)) | refine Vr ?_ | refine Vt ?_ | refine Vf ?_ | refine Vm ?_ | refine Ve ?_ | refine Vo ?_ | refine Vz ?_ | refine Vn ?_)
      refine ret2 (by first | exact .inl rfl | exact .inr rfl) rfl rfl rfl ?_
      exact Gives_mk (fun w' he => by rw [OfR, hno]; rfl) e4
    | true =>
      refine Ops_callM (S := Foot N) (R := fun w_ => PutR w.heap.size b N (ofS (L.take k)).1 (ofS (L.take k)).2 x.p x.v w_) (by exact Va) rfl rfl (fun w_ e_ => put_v x.p x.v w_ (h4.ext e_) hax hv (Nat.le_trans e4.size e_.size) (by omega) (by omega)) ?_
      intro r w5 w0_ e0 m5 hR
      obtain ⟨rfl, N', h5, _⟩ := hR
      have e5 : Ext w w5 := Mod.ext_of (e4.trans e0) m5 (fun c hc => h4.foot_ge hc)
      repeat (first | refine Vx ?_ | (apply Ops_q; (case hon => exact Va); (case hd => rfl); (case hq => exact YlA)) | refine Vr ?_ | refine Vt ?_ | refine Vf ?_ | refine Vm ?_ | refine Ve ?_ | refine Vo ?_ | refine Vz ?_ | refine Vn ?_)
      refine ⟨(k + 1, N'), (by repeat (first | exact trivial | refine ⟨rfl, ?_⟩)), ⟨e5, hkl, ?_, by rw [hok', hv]⟩, by simp only; omega⟩
      dsimp only
      rw [hst]; exact h5
  · replace hg := of_decide_eq_false hg
    obtain rfl : k = L.length := by omega
    rw [List.take_length] at h hok
    repeat (first | refine Vx ?_ | (apply Ops_q; (case hon => exact Va); (case hd => rfl); (case hq => exact YlA)) | refine Vr ?_ | refine Vt ?_ | refine Vf ?_ | refine Vm ?_ | refine Ve ?_ | refine Vo ?_ | refine Vz ?_ | refine Vn ?_)
    refine ret2 (by first | exact .inl rfl | exact .inr rfl) rfl rfl rfl ?_
    refine Gives_mk (fun w' he => ?_) e2
    rw [OfR, if_pos hok]
    exact ⟨b, N, rfl, h.ext he⟩
end Go.Proofs.Ytjpnaofoeeegeaa


/-
  Layer 6 (trie), in plain lists: the entries of a trie as a sorted list.
  No conditions beyond those that each statement names.
-/
namespace Go.Proofs.Ytjpnaofoeeegeaa
open Go.RowKit

/-- Prefixes by address, then by length. -/
def pLt (p q : Pf) : Prop := p.a < q.a ∨ (p.a = q.a ∧ p.n < q.n)
instance (p q : Pf) : Decidable (pLt p q) := by unfold pLt; infer_instance
theorem pLt_irrefl (p : Pf) : ¬pLt p p := by unfold pLt; omega
theorem pLt_trans {p q r : Pf} (h : pLt p q) (h2 : pLt q r) : pLt p r := by unfold pLt at *; omega
theorem pf_eq {p q : Pf} (h1 : p.a = q.a) (h2 : p.n = q.n) : p = q := by cases p; cases q; simp_all
abbrev Srt (S : List En) : Prop := S.Pairwise (fun x y => pLt x.p y.p)
theorem srt_eq : ∀ {A B : List En}, Srt A → Srt B → (∀ e, e ∈ A ↔ e ∈ B) → A = B
  | [], [], _, _, _ => rfl
  | [], b :: B, _, _, h => by have := (h b).2 (List.mem_cons_self ..); cases this
  | a :: A, [], _, _, h => by have := (h a).1 (List.mem_cons_self ..); cases this
  | a :: A, b :: B, hA, hB, h => by
    obtain ⟨a1, a2⟩ := List.pairwise_cons.1 hA
    obtain ⟨b1, b2⟩ := List.pairwise_cons.1 hB
    have hab : a = b := by
      rcases List.mem_cons.1 ((h a).1 (List.mem_cons_self ..)) with e | e
      · exact e
      · rcases List.mem_cons.1 ((h b).2 (List.mem_cons_self ..)) with e2 | e2
        · exact e2.symm
        · exact absurd (pLt_trans (b1 a e) (a1 b e2)) (pLt_irrefl _)
    subst hab
    congr 1
    refine srt_eq a2 b2 fun e => ⟨fun he => ?_, fun he => ?_⟩
    · rcases List.mem_cons.1 ((h e).1 (List.mem_cons_of_mem _ he)) with e2 | e2
      · subst e2; exact absurd (a1 _ he) (pLt_irrefl _)
      · exact e2
    · rcases List.mem_cons.1 ((h e).2 (List.mem_cons_of_mem _ he)) with e2 | e2
      · subst e2; exact absurd (b1 _ he) (pLt_irrefl _)
      · exact e2
/-! ### Below a prefix -/
theorem top_mono {a b c : Nat} (h : a ≤ b) : top a c ≤ top b c := by unfold top; exact Nat.mul_le_mul_right _ (Nat.div_le_div_right h)
def underB (x k : Nat) (e : En) : Bool := decide (top e.p.a k = x) && decide ((k : Int) ≤ e.p.n)
theorem top_split {a x k : Nat} (hk : k < 32) (h : top a k = x) : top a (k + 1) = kidA x k 0 ∨ top a (k + 1) = kidA x k 1 := by
  have := top_kid a hk
  rw [h] at this
  have hb := bit_lt a k
  rcases (by omega : bitAt a k = 0 ∨ bitAt a k = 1) with e | e
  · exact .inl (by rw [this, e])
  · exact .inr (by rw [this, e])
end Go.Proofs.Ytjpnaofoeeegeaa


/-
  Layer 6 (trie): the reference's prefixes: Valid, Make, Contains; the chapter's example.
  Conditions: addresses are below 2^32.
-/
namespace Go.Proofs.Ytjpnaofoeeegeaa
open Go.RowKit

instance eqPf (a b n m : Int) : TEqv Try.prog 40 (.agg #[.int .u32 a, .int .i64 n]) (.agg #[.int .u32 b, .int .i64 m]) (decide (a = b ∧ n = m)) := ⟨fun w => by
  have u3 := Try.underlying3
  have a3 := Try.isAgg3
  have u4 := Try.underlying24
  have a4 : ∀ w, (isAgg 24).run Try.prog w = .ok false w := fun _ => by kernel_rfl
  have hS : Try.prog.underlying 40 = some (.struct (Try.prog.fieldsOf 40)) := by kernel_rfl
  show (Op.equalIn (9999 + 1) 40 _ _).run _ _ = _
  rw [run_equalIn_agg w 9999 40 _ _ hS (by kernel_rfl)]
  simp only [Program.fieldsOf, Try.underlying40]
  go_simp
  by_cases h1 : a = b <;> by_cases h2 : n = m <;> simp [h1, h2], by kernel_rfl⟩
theorem rvalid_v (p : Pf) (w : World) (ha : p.a < 4294967296) : Calls Try.prog 52 #[p.val] w (Ret (.bool p.valid) w) := by
  refine V_enter (vs := [_]) Try.func52 rfl Try.ntmps52 (Nat.le_of_ble_eq_true rfl) ?_
  repeat (first | refine Vx ?_ | (apply Ops_q; (case hon => exact Va); (case hd => rfl); (case hq => exact YlA)) | refine Vr ?_ | refine Vt ?_ | refine Vf ?_ | refine Vm ?_ | refine Ve ?_ | refine Vo ?_ | refine Vz ?_ | refine Vn ?_)
  (refine Ops_box (by exact Va) rfl rfl rfl ?_; intro w1 b1 n_b1; have k_b1 := n_b1.blk)
  repeat (first | refine Vx ?_ | (apply Ops_q; (case hon => exact Va); (case hd => rfl); (case hq => exact YlA)) | refine Vr ?_ | refine Vt ?_ | refine Vf ?_ | refine Vm ?_ | refine Ve ?_ | refine Vo ?_ | refine Vz ?_ | refine Vn ?_)
  refine Ops_split rfl rfl (fun h1 => ?_) (fun h1 => ?_)
  · repeat (first | refine Vx ?_ | (apply Ops_q; (case hon => exact Va); (case hd => rfl); (case hq => exact YlA)) | refine Vr ?_ | refine Vt ?_ | refine Vf ?_ | refine Vm ?_ | refine Ve ?_ | refine Vo ?_ | refine Vz ?_ | refine Vn ?_)
    refine Ops_split rfl rfl (fun h2 => ?_) (fun h2 => ?_)
    · repeat (first | refine Vx ?_ | (apply Ops_q; (case hon => exact Va); (case hd => rfl); (case hq => exact YlA)) | refine Vr ?_ | refine Vt ?_ | refine Vf ?_ | refine Vm ?_ | refine Ve ?_ | refine Vo ?_ | refine Vz ?_ | refine Vn ?_)
      (apply Ops_q; (case hon => (exact Va)); (case hd => rfl); (case hq => exact Yl_call rfl (fun w_ e_ => keepR_v p.a p.n w_ ha)))
      repeat (first | refine Vx ?_ | (apply Ops_q; (case hon => exact Va); (case hd => rfl); (case hq => exact YlA)) | refine Vr ?_ | refine Vt ?_ | refine Vf ?_ | refine Vm ?_ | refine Ve ?_ | refine Vo ?_ | refine Vz ?_ | refine Vn ?_)
      refine ret1 (by first | exact .inl rfl | exact .inr rfl) rfl rfl ?_
      refine Ret_mk ?_ n_b1.ext
      rw [Pf.valid, h1, h2, Bool.true_and, Bool.true_and, castEq, lowN_in (of_decide_eq_true h1) (of_decide_eq_true h2)]
    · repeat (first | refine Vx ?_ | (apply Ops_q; (case hon => exact Va); (case hd => rfl); (case hq => exact YlA)) | refine Vr ?_ | refine Vt ?_ | refine Vf ?_ | refine Vm ?_ | refine Ve ?_ | refine Vo ?_ | refine Vz ?_ | refine Vn ?_)
      refine ret1 (by first | exact .inl rfl | exact .inr rfl) rfl rfl ?_
      exact Ret_mk (by rw [Pf.valid, h1, h2]; rfl) n_b1.ext
  · repeat (first | refine Vx ?_ | (apply Ops_q; (case hon => exact Va); (case hd => rfl); (case hq => exact YlA)) | refine Vr ?_ | refine Vt ?_ | refine Vf ?_ | refine Vm ?_ | refine Ve ?_ | refine Vo ?_ | refine Vz ?_ | refine Vn ?_)
    refine ret1 (by first | exact .inl rfl | exact .inr rfl) rfl rfl ?_
    exact Ret_mk (by rw [Pf.valid, h1]; rfl) n_b1.ext
theorem rmake_v (a : Nat) (n : Int) (w : World) (ha : a < 4294967296) : Calls Try.prog 104 #[.int .u32 a, .int .i64 n] w (Ret (Pf.of a n).val w) := by
  refine V_enter (vs := [_, _]) Try.func104 rfl Try.ntmps104 (Nat.le_of_ble_eq_true rfl) ?_
  repeat (first | refine Vx ?_ | (apply Ops_q; (case hon => exact Va); (case hd => rfl); (case hq => exact YlA)) | refine Vr ?_ | refine Vt ?_ | refine Vf ?_ | refine Vm ?_ | refine Ve ?_ | refine Vo ?_ | refine Vz ?_ | refine Vn ?_)
  (refine Ops_alloc (by exact Va) rfl ?_; intro w1 b1 n_b1; have k_b1 := n_b1.blk)
  repeat (first | refine Vx ?_ | (apply Ops_q; (case hon => exact Va); (case hd => rfl); (case hq => exact YlA)) | refine Vr ?_ | refine Vt ?_ | refine Vf ?_ | refine Vm ?_ | refine Ve ?_ | refine Vo ?_ | refine Vz ?_ | refine Vn ?_)
  (apply Ops_q; (case hon => (exact Va)); (case hd => rfl); (case hq => exact Yl_call rfl (fun w_ e_ => keepR_v a n w_ ha)))
  repeat (first | refine Vx ?_ | (apply Ops_q; (case hon => exact Va); (case hd => rfl); (case hq => exact YlA)) | refine Vr ?_ | refine Vt ?_ | refine Vf ?_ | refine Vm ?_ | refine Ve ?_ | refine Vo ?_ | refine Vz ?_ | refine Vn ?_)
  (refine Ops_store (by exact Va) rfl rfl (by assumption) (by first | rfl | exact OneAll.h) ?_; intro w2 u_w2; have k_b1 := u_w2.blk)
  have e2 := u_w2.below n_b1.ext n_b1.ge
  repeat (first | refine Vx ?_ | (apply Ops_q; (case hon => exact Va); (case hd => rfl); (case hq => exact YlA)) | refine Vr ?_ | refine Vt ?_ | refine Vf ?_ | refine Vm ?_ | refine Ve ?_ | refine Vo ?_ | refine Vz ?_ | refine Vn ?_)
  refine retR1 (by first | exact .inl rfl | exact .inr rfl) rfl (res_agg rfl k_b1.cells) ?_
  exact Ret_mk rfl e2
/-- The address lies in the prefix. -/
def Pf.has (p : Pf) (a : Nat) : Bool := p.valid && decide (top a p.n.toNat = p.a)
theorem contains_v (p : Pf) (a : Nat) (w : World) (hp : p.a < 4294967296) (ha : a < 4294967296) : Calls Try.prog 88 #[p.val, .int .u32 a] w (Ret (.bool (p.has a)) w) := by
  refine V_enter (vs := [_, _]) Try.func88 rfl Try.ntmps88 (Nat.le_of_ble_eq_true rfl) ?_
  repeat (first | refine Vx ?_ | (apply Ops_q; (case hon => exact Va); (case hd => rfl); (case hq => exact YlA)) | refine Vr ?_ | refine Vt ?_ | refine Vf ?_ | refine Vm ?_ | refine Ve ?_ | refine Vo ?_ | refine Vz ?_ | refine Vn ?_)
  (refine Ops_box (by exact Va) rfl rfl rfl ?_; intro w1 b1 n_b1; have k_b1 := n_b1.blk)
  repeat (first | refine Vx ?_ | (apply Ops_q; (case hon => exact Va); (case hd => rfl); (case hq => exact YlA)) | refine Vr ?_ | refine Vt ?_ | refine Vf ?_ | refine Vm ?_ | refine Ve ?_ | refine Vo ?_ | refine Vz ?_ | refine Vn ?_)
  (apply Ops_q; (case hon => (exact Va)); (case hd => rfl); (case hq => exact Yl_call rfl (fun w_ e_ => rvalid_v p w_ hp)))
  repeat (first | refine Vx ?_ | (apply Ops_q; (case hon => exact Va); (case hd => rfl); (case hq => exact YlA)) | refine Vr ?_ | refine Vt ?_ | refine Vf ?_ | refine Vm ?_ | refine Ve ?_ | refine Vo ?_ | refine Vz ?_ | refine Vn ?_)
  cases hv : p.valid with
  | false =>
    repeat (first | refine Vx ?_ | (apply Ops_q; (case hon => exact Va); (case hd => rfl); (case hq => exact YlA)) | refine Vr ?_ | refine Vt ?_ | refine Vf ?_ | refine Vm ?_ | refine Ve ?_ | refine Vo ?_ | refine Vz ?_ | refine Vn ?_)
    refine ret1 (by first | exact .inl rfl | exact .inr rfl) rfl rfl ?_
    exact Ret_mk (by rw [Pf.has, hv]; rfl) n_b1.ext
  | true =>
    obtain ⟨v1, v2, v3⟩ := Pf.valid_iff.1 hv
    repeat (first | refine Vx ?_ | (apply Ops_q; (case hon => exact Va); (case hd => rfl); (case hq => exact YlA)) | refine Vr ?_ | refine Vt ?_ | refine Vf ?_ | refine Vm ?_ | refine Ve ?_ | refine Vo ?_ | refine Vz ?_ | refine Vn ?_)
    (apply Ops_q; (case hon => (exact Va)); (case hd => rfl); (case hq => exact Yl_call rfl (fun w_ e_ => rmake_v a p.n w_ ha)))
    repeat (first | refine Vx ?_ | (apply Ops_q; (case hon => exact Va); (case hd => rfl); (case hq => exact YlA)) | refine Vr ?_ | refine Vt ?_ | refine Vf ?_ | refine Vm ?_ | refine Ve ?_ | refine Vo ?_ | refine Vz ?_ | refine Vn ?_)
    refine ret1 (by first | exact .inl rfl | exact .inr rfl) rfl rfl ?_
    refine Ret_mk ?_ n_b1.ext
    rw [Pf.has, hv, Bool.true_and, Pf.of, lowN_in v1 v2]
    congr 1
    rw [← castEq]
    by_cases h : ((top a p.n.toNat : Nat) : Int) = (p.a : Int) <;> simp [h]
end Go.Proofs.Ytjpnaofoeeegeaa


/-
  Layer 6 (trie): Compare, SameEntries; the order in which entries are put.
  Conditions: addresses are below 2^32.
-/
namespace Go.Proofs.Ytjpnaofoeeegeaa
open Go.RowKit

def cmpP (p q : Pf) : Int := if pLt p q then -1 else if p = q then 0 else 1
/-! ### Put in another order -/
theorem en_ind {P : List En → Prop} (h0 : P []) (h1 : ∀ L x, P L → P (L ++ [x])) (L : List En) : P L := by
  have : ∀ M : List En, P M.reverse := fun M => by
    induction M with
    | nil => exact h0
    | cons x r ih => rw [List.reverse_cons]; exact h1 _ _ ih
  simpa using this L.reverse
end Go.Proofs.Ytjpnaofoeeegeaa


/-
  Tables (layer 7): Compare, Contains, Covers of package prefix; Check and Lookup, of the program and of the reference.
  Conditions: the list is not too long for a machine.
-/
namespace Go.Proofs.Ytjpnaofoeeegeaa
open Go.RowKit

theorem compareP_v (p q : Pf) (w : World) : Calls Try.prog 39 #[p.val, q.val] w (Ret (.int .i64 (cmpP p q)) w) := by
  refine V_enter (vs := [_, _]) Try.func39 rfl Try.ntmps39 (Nat.le_of_ble_eq_true rfl) ?_
  repeat (first | refine Vx ?_ | (apply Ops_q; (case hon => exact Va); (case hd => rfl); (case hq => exact YlA)) | refine Vr ?_ | refine Vt ?_ | refine Vf ?_ | refine Vm ?_ | refine Ve ?_ | refine Vo ?_ | refine Vz ?_ | refine Vn ?_)
  (refine Ops_box (by exact Va) rfl rfl rfl ?_; intro w1 b1 n_b1; have k_b1 := n_b1.blk)
  repeat (first | refine Vx ?_ | (apply Ops_q; (case hon => exact Va); (case hd => rfl); (case hq => exact YlA)) | refine Vr ?_ | refine Vt ?_ | refine Vf ?_ | refine Vm ?_ | refine Ve ?_ | refine Vo ?_ | refine Vz ?_ | refine Vn ?_)
  (refine Ops_box (by exact Va) rfl rfl rfl ?_; intro w2 b2 n_b2; have k_b2 := n_b2.blk)
  replace k_b1 := k_b1.ext n_b2.ext
  have e2 := n_b1.ext.trans n_b2.ext
  repeat (first | refine Vx ?_ | (apply Ops_q; (case hon => exact Va); (case hd => rfl); (case hq => exact YlA)) | refine Vr ?_ | refine Vt ?_ | refine Vf ?_ | refine Vm ?_ | refine Ve ?_ | refine Vo ?_ | refine Vz ?_ | refine Vn ?_)
  refine Ops_split rfl rfl (fun h1 => ?_) (fun h1 => ?_)
  · replace h1 := of_decide_eq_true h1
    repeat (first | refine Vx ?_ | (apply Ops_q; (case hon => exact Va); (case hd => rfl); (case hq => exact YlA)) | refine Vr ?_ | refine Vt ?_ | refine Vf ?_ | refine Vm ?_ | refine Ve ?_ | refine Vo ?_ | refine Vz ?_ | refine Vn ?_)
    refine ret1 (by first | exact .inl rfl | exact .inr rfl) rfl rfl ?_
    exact Ret_mk (by rw [cmpP, if_pos (.inl (by omega))]) e2
  replace h1 := of_decide_eq_false h1
  repeat (first | refine Vx ?_ | (apply Ops_q; (case hon => exact Va); (case hd => rfl); (case hq => exact YlA)) | refine Vr ?_ | refine Vt ?_ | refine Vf ?_ | refine Vm ?_ | refine Ve ?_ | refine Vo ?_ | refine Vz ?_ | refine Vn ?_)
  refine Ops_split rfl rfl (fun h2 => ?_) (fun h2 => ?_)
  · replace h2 := of_decide_eq_true h2
    repeat (first | refine Vx ?_ | (apply Ops_q; (case hon => exact Va); (case hd => rfl); (case hq => exact YlA)) | refine Vr ?_ | refine Vt ?_ | refine Vf ?_ | refine Vm ?_ | refine Ve ?_ | refine Vo ?_ | refine Vz ?_ | refine Vn ?_)
    refine V_cond rfl (fun h3 => ?_) (fun h3 => ?_)
    · replace h3 := of_decide_eq_true h3
      repeat (first | refine Vx ?_ | (apply Ops_q; (case hon => exact Va); (case hd => rfl); (case hq => exact YlA)) | refine Vr ?_ | refine Vt ?_ | refine Vf ?_ | refine Vm ?_ | refine Ve ?_ | refine Vo ?_ | refine Vz ?_ | refine Vn ?_)
      refine ret1 (by first | exact .inl rfl | exact .inr rfl) rfl rfl ?_
      exact Ret_mk (by rw [cmpP, if_pos (.inr ⟨by omega, h3⟩)]) e2
    replace h3 := of_decide_eq_false h3
    have hnl : ¬pLt p q := by unfold pLt; omega
    repeat (first | refine Vx ?_ | (apply Ops_q; (case hon => exact Va); (case hd => rfl); (case hq => exact YlA)) | refine Vr ?_ | refine Vt ?_ | refine Vf ?_ | refine Vm ?_ | refine Ve ?_ | refine Vo ?_ | refine Vz ?_ | refine Vn ?_)
    refine V_cond rfl (fun h4 => ?_) (fun h4 => ?_)
    · have he : p = q := pf_eq (by omega) (by simp at h4; omega)
      repeat (first | refine Vx ?_ | (apply Ops_q; (case hon => exact Va); (case hd => rfl); (case hq => exact YlA)) | refine Vr ?_ | refine Vt ?_ | refine Vf ?_ | refine Vm ?_ | refine Ve ?_ | refine Vo ?_ | refine Vz ?_ | refine Vn ?_)
      refine ret1 (by first | exact .inl rfl | exact .inr rfl) rfl rfl ?_
      exact Ret_mk (by rw [cmpP, if_neg hnl, if_pos he]) e2
    · have he : p ≠ q := fun e => by subst e; simp at h4
      repeat (first | refine Vx ?_ | (apply Ops_q; (case hon => exact Va); (case hd => rfl); (case hq => exact YlA)) | refine Vr ?_ | refine Vt ?_ | refine Vf ?_ | refine Vm ?_ | refine Ve ?_ | refine Vo ?_ | refine Vz ?_ | refine Vn ?_)
      refine ret1 (by first | exact .inl rfl | exact .inr rfl) rfl rfl ?_
      exact Ret_mk (by rw [cmpP, if_neg hnl, if_neg he]) e2
  · replace h2 := of_decide_eq_false h2
    have hnl : ¬pLt p q := by unfold pLt; omega
    have he : p ≠ q := fun e => by subst e; exact h2 rfl
    repeat (first | refine Vx ?_ | (apply Ops_q; (case hon => exact Va); (case hd => rfl); (case hq => exact YlA)) | refine Vr ?_ | refine Vt ?_ | refine Vf ?_ | refine Vm ?_ | refine Ve ?_ | refine Vo ?_ | refine Vz ?_ | refine Vn ?_)
    refine V_cond rfl (fun h4 => ?_) (fun h4 => ?_)
    · exact absurd (by simp at h4; omega) h2
    · repeat (first | refine Vx ?_ | (apply Ops_q; (case hon => exact Va); (case hd => rfl); (case hq => exact YlA)) | refine Vr ?_ | refine Vt ?_ | refine Vf ?_ | refine Vm ?_ | refine Ve ?_ | refine Vo ?_ | refine Vz ?_ | refine Vn ?_)
      refine ret1 (by first | exact .inl rfl | exact .inr rfl) rfl rfl ?_
      exact Ret_mk (by rw [cmpP, if_neg hnl, if_neg he]) e2
theorem containsP_v (p : Pf) (a : Nat) (w : World) (hp : p.a < 4294967296) (ha : a < 4294967296) : Calls Try.prog 46 #[p.val, .int .u32 a] w (Ret (.bool (p.has a)) w) := by
  refine V_enter (vs := [_, _]) Try.func46 rfl Try.ntmps46 (Nat.le_of_ble_eq_true rfl) ?_
  repeat (first | refine Vx ?_ | (apply Ops_q; (case hon => exact Va); (case hd => rfl); (case hq => exact YlA)) | refine Vr ?_ | refine Vt ?_ | refine Vf ?_ | refine Vm ?_ | refine Ve ?_ | refine Vo ?_ | refine Vz ?_ | refine Vn ?_)
  (refine Ops_box (by exact Va) rfl rfl rfl ?_; intro w1 b1 n_b1; have k_b1 := n_b1.blk)
  repeat (first | refine Vx ?_ | (apply Ops_q; (case hon => exact Va); (case hd => rfl); (case hq => exact YlA)) | refine Vr ?_ | refine Vt ?_ | refine Vf ?_ | refine Vm ?_ | refine Ve ?_ | refine Vo ?_ | refine Vz ?_ | refine Vn ?_)
  (apply Ops_q; (case hon => (exact Va)); (case hd => rfl); (case hq => exact Yl_call rfl (fun w_ e_ => valid_v p w_ hp)))
  repeat (first | refine Vx ?_ | (apply Ops_q; (case hon => exact Va); (case hd => rfl); (case hq => exact YlA)) | refine Vr ?_ | refine Vt ?_ | refine Vf ?_ | refine Vm ?_ | refine Ve ?_ | refine Vo ?_ | refine Vz ?_ | refine Vn ?_)
  cases hv : p.valid with
  | false =>
    repeat (first | refine Vx ?_ | (apply Ops_q; (case hon => exact Va); (case hd => rfl); (case hq => exact YlA)) | refine Vr ?_ | refine Vt ?_ | refine Vf ?_ | refine Vm ?_ | refine Ve ?_ | refine Vo ?_ | refine Vz ?_ | refine Vn ?_)
    refine ret1 (by first | exact .inl rfl | exact .inr rfl) rfl rfl ?_
    exact Ret_mk (by rw [Pf.has, hv]; rfl) n_b1.ext
  | true =>
    obtain ⟨v1, v2, v3⟩ := Pf.valid_iff.1 hv
    repeat (first | refine Vx ?_ | (apply Ops_q; (case hon => exact Va); (case hd => rfl); (case hq => exact YlA)) | refine Vr ?_ | refine Vt ?_ | refine Vf ?_ | refine Vm ?_ | refine Ve ?_ | refine Vo ?_ | refine Vz ?_ | refine Vn ?_)
    (apply Ops_q; (case hon => (exact Va)); (case hd => rfl); (case hq => exact Yl_call rfl (fun w_ e_ => of_v a p.n w_ ha)))
    repeat (first | refine Vx ?_ | (apply Ops_q; (case hon => exact Va); (case hd => rfl); (case hq => exact YlA)) | refine Vr ?_ | refine Vt ?_ | refine Vf ?_ | refine Vm ?_ | refine Ve ?_ | refine Vo ?_ | refine Vz ?_ | refine Vn ?_)
    refine ret1 (by first | exact .inl rfl | exact .inr rfl) rfl rfl ?_
    refine Ret_mk ?_ n_b1.ext
    rw [Pf.has, hv, Bool.true_and, Pf.of, lowN_in v1 v2]
    congr 1
    rw [← castEq]
    by_cases h : ((top a p.n.toNat : Nat) : Int) = (p.a : Int) <;> simp [h]
/-- q lies in p. -/
def Pf.covers (p q : Pf) : Bool := q.valid && (decide (p.n ≤ q.n) && p.has q.a)
theorem coversP_v (p q : Pf) (w : World) (hp : p.a < 4294967296) (hq : q.a < 4294967296) : Calls Try.prog 71 #[p.val, q.val] w (Ret (.bool (p.covers q)) w) := by
  refine V_enter (vs := [_, _]) Try.func71 rfl Try.ntmps71 (Nat.le_of_ble_eq_true rfl) ?_
  repeat (first | refine Vx ?_ | (apply Ops_q; (case hon => exact Va); (case hd => rfl); (case hq => exact YlA)) | refine Vr ?_ | refine Vt ?_ | refine Vf ?_ | refine Vm ?_ | refine Ve ?_ | refine Vo ?_ | refine Vz ?_ | refine Vn ?_)
  (refine Ops_box (by exact Va) rfl rfl rfl ?_; intro w1 b1 n_b1; have k_b1 := n_b1.blk)
  repeat (first | refine Vx ?_ | (apply Ops_q; (case hon => exact Va); (case hd => rfl); (case hq => exact YlA)) | refine Vr ?_ | refine Vt ?_ | refine Vf ?_ | refine Vm ?_ | refine Ve ?_ | refine Vo ?_ | refine Vz ?_ | refine Vn ?_)
  (refine Ops_box (by exact Va) rfl rfl rfl ?_; intro w2 b2 n_b2; have k_b2 := n_b2.blk)
  replace k_b1 := k_b1.ext n_b2.ext
  have e2 := n_b1.ext.trans n_b2.ext
  repeat (first | refine Vx ?_ | (apply Ops_q; (case hon => exact Va); (case hd => rfl); (case hq => exact YlA)) | refine Vr ?_ | refine Vt ?_ | refine Vf ?_ | refine Vm ?_ | refine Ve ?_ | refine Vo ?_ | refine Vz ?_ | refine Vn ?_)
  (apply Ops_q; (case hon => (exact Va)); (case hd => rfl); (case hq => exact Yl_call rfl (fun w_ e_ => valid_v q w_ hq)))
  repeat (first | refine Vx ?_ | (apply Ops_q; (case hon => exact Va); (case hd => rfl); (case hq => exact YlA)) | refine Vr ?_ | refine Vt ?_ | refine Vf ?_ | refine Vm ?_ | refine Ve ?_ | refine Vo ?_ | refine Vz ?_ | refine Vn ?_)
  cases hv : q.valid with
  | false =>
    repeat (first | refine Vx ?_ | (apply Ops_q; (case hon => exact Va); (case hd => rfl); (case hq => exact YlA)) | refine Vr ?_ | refine Vt ?_ | refine Vf ?_ | refine Vm ?_ | refine Ve ?_ | refine Vo ?_ | refine Vz ?_ | refine Vn ?_)
    refine ret1 (by first | exact .inl rfl | exact .inr rfl) rfl rfl ?_
    exact Ret_mk (by rw [Pf.covers, hv]; rfl) e2
  | true =>
    repeat (first | refine Vx ?_ | (apply Ops_q; (case hon => exact Va); (case hd => rfl); (case hq => exact YlA)) | refine Vr ?_ | refine Vt ?_ | refine Vf ?_ | refine Vm ?_ | refine Ve ?_ | refine Vo ?_ | refine Vz ?_ | refine Vn ?_)
    refine Ops_split rfl rfl (fun h1 => ?_) (fun h1 => ?_)
    · repeat (first | refine Vx ?_ | (apply Ops_q; (case hon => exact Va); (case hd => rfl); (case hq => exact YlA)) | refine Vr ?_ | refine Vt ?_ | refine Vf ?_ | refine Vm ?_ | refine Ve ?_ | refine Vo ?_ | refine Vz ?_ | refine Vn ?_)
      (apply Ops_q; (case hon => (exact Va)); (case hd => rfl); (case hq => exact Yl_call rfl (fun w_ e_ => containsP_v p q.a w_ hp hq)))
      repeat (first | refine Vx ?_ | (apply Ops_q; (case hon => exact Va); (case hd => rfl); (case hq => exact YlA)) | refine Vr ?_ | refine Vt ?_ | refine Vf ?_ | refine Vm ?_ | refine Ve ?_ | refine Vo ?_ | refine Vz ?_ | refine Vn ?_)
      refine ret1 (by first | exact .inl rfl | exact .inr rfl) rfl rfl ?_
      exact Ret_mk (by rw [Pf.covers, hv, h1]; rfl) e2
    · repeat (first | refine Vx ?_ | (apply Ops_q; (case hon => exact Va); (case hd => rfl); (case hq => exact YlA)) | refine Vr ?_ | refine Vt ?_ | refine Vf ?_ | refine Vm ?_ | refine Ve ?_ | refine Vo ?_ | refine Vz ?_ | refine Vn ?_)
      refine ret1 (by first | exact .inl rfl | exact .inr rfl) rfl rfl ?_
      exact Ret_mk (by rw [Pf.covers, hv, h1]; rfl) e2
/-! ### Check -/
def chkF : Option Pf → List En → Int
  | _, [] => 0
  | pr, x :: l => if x.p.valid = false then 1 else if x.v < -1 then 5 else if (match pr with | none => false | some q => decide (0 ≤ cmpP q x.p)) = true then 16 else chkF (some x.p) l
def chk (L : List En) : Int := if 2000 < L.length then 4 else chkF none L
def prevP (L : List En) (k : Nat) : Option Pf := if k = 0 then none else (L[k - 1]?).map (·.p)
theorem chkF_at {L : List En} {k : Nat} {x : En} (hx : L[k]? = some x) : chkF (prevP L k) (L.drop k) =
    if x.p.valid = false then 1 else if x.v < -1 then 5 else if (match prevP L k with | none => false | some q => decide (0 ≤ cmpP q x.p)) = true then 16 else chkF (prevP L (k + 1)) (L.drop (k + 1)) := by
  have hk : k < L.length := (List.getElem?_eq_some_iff.1 hx).1
  have hd : L.drop k = x :: L.drop (k + 1) := by rw [List.drop_eq_getElem_cons hk, (List.getElem?_eq_some_iff.1 hx).2]
  have hp : prevP L (k + 1) = some x.p := by rw [prevP, if_neg (by omega), Nat.add_sub_cancel, hx]; rfl
  rw [hd, hp]
  cases prevP L k <;> rfl
set_option maxHeartbeats 1000000 in
theorem check_v (ao : Option Addr) (L : List En) (c : Nat) (w : World) (hL : Ens w ao L) (ha : ∀ e ∈ L, e.p.a < 4294967296) (hn : L.length ≤ 1000000) :
    Calls Try.prog 13 #[.slice ao L.length c] w (Ret (.int .i64 (chk L)) w) := by
  refine V_enter (vs := [_]) Try.func13 rfl Try.ntmps13 (Nat.le_of_ble_eq_true rfl) ?_
  repeat (first | refine Vx ?_ | (apply Ops_q; (case hon => exact Va); (case hd => rfl); (case hq => exact YlA)) | refine Vr ?_ | refine Vt ?_ | refine Vf ?_ | refine Vm ?_ | refine Ve ?_ | refine Vo ?_ | refine Vz ?_ | refine Vn ?_)
  refine V_cond rfl (fun h1 => ?_) (fun h1 => ?_)
  · replace h1 := of_decide_eq_true h1
    repeat (first | refine Vx ?_ | (apply Ops_q; (case hon => exact Va); (case hd => rfl); (case hq => exact YlA)) | refine Vr ?_ | refine Vt ?_ | refine Vf ?_ | refine Vm ?_ | refine Ve ?_ | refine Vo ?_ | refine Vz ?_ | refine Vn ?_)
    refine ret1 (by first | exact .inl rfl | exact .inr rfl) rfl rfl ?_
    exact Ret_mk (by rw [chk, if_pos (by omega)]) (Ext.refl _)
  replace h1 := of_decide_eq_false h1
  repeat (first | refine Vx ?_ | (apply Ops_q; (case hon => exact Va); (case hd => rfl); (case hq => exact YlA)) | refine Vr ?_ | refine Vt ?_ | refine Vf ?_ | refine Vm ?_ | refine Ve ?_ | refine Vo ?_ | refine Vz ?_ | refine Vn ?_)
  refine V_loop (fun k : Nat => [(10, .int .i64 k), (9, .int .i64 L.length), (8, .slice ao L.length c), (0, .slice ao L.length c)]) (fun k w' => Ext w w' ∧ k ≤ L.length ∧ chk L = chkF (prevP L k) (L.drop k)) (fun k => L.length - k) 0 (by repeat (first | exact trivial | refine ⟨rfl, ?_⟩)) ⟨Ext.refl _, Nat.zero_le _, by rw [chk, if_neg (by omega)]; rfl⟩ ?_
  rintro k w1 ⟨e1, hk, hs⟩
  repeat (first | refine Vx ?_ | (apply Ops_q; (case hon => exact Va); (case hd => rfl); (case hq => exact YlA)) | refine Vr ?_ | refine Vt ?_ | refine Vf ?_ | refine Vm ?_ | refine Ve ?_ | refine Vo ?_ | refine Vz ?_ | refine Vn ?_)
  refine V_cond rfl (fun hg => ?_) (fun hg => ?_)
  · replace hg := of_decide_eq_true hg
    have hkl : k < L.length := by omega
    obtain ⟨x, hx⟩ : ∃ x, L[k]? = some x := ⟨_, List.getElem?_eq_getElem hkl⟩
    rw [chkF_at hx] at hs
    obtain ⟨ad, rfl, hc⟩ := hL.at hx
    have hxa := ha x (List.mem_of_getElem? hx)
    have hc1 : Cells w1 (ad.add (k * 3)) [.int .u32 x.p.a, .int .i64 x.p.n, .int .i64 x.v] := hc.ext e1
    repeat (first | refine Vx ?_ | (apply Ops_q; (case hon => exact Va); (case hd => rfl); (case hq => exact YlA)) | refine Vr ?_ | refine Vt ?_ | refine Vf ?_ | refine Vm ?_ | refine Ve ?_ | refine Vo ?_ | refine Vz ?_ | refine Vn ?_)
    (apply Ops_q; (case hon => (exact Va)); (case hd => rfl); (case hq => exact Yl_indexS (j := k) rfl rfl (by omega)))
    repeat (first | refine Vx ?_ | (apply Ops_q; (case hon => exact Va); (case hd => rfl); (case hq => exact YlA)) | refine Vr ?_ | refine Vt ?_ | refine Vf ?_ | refine Vm ?_ | refine Ve ?_ | refine Vo ?_ | refine Vz ?_ | refine Vn ?_)
    (refine Ops_alloc (by exact Va) rfl ?_; intro w2 b2 n_b2; have k_b2 := n_b2.blk)
    repeat (first | refine Vx ?_ | (apply Ops_q; (case hon => exact Va); (case hd => rfl); (case hq => exact YlA)) | refine Vr ?_ | refine Vt ?_ | refine Vf ?_ | refine Vm ?_ | refine Ve ?_ | refine Vo ?_ | refine Vz ?_ | refine Vn ?_)
    (refine Ops_store (by exact Va) rfl rfl (by assumption) (by first | rfl | exact OneAll.h) ?_; intro w3 u_w3; have k_b2 := u_w3.blk)
    have e3 := u_w3.below (e1.trans n_b2.ext) (Nat.le_trans e1.size n_b2.ge)
    have hpart : Cells w3 ⟨b2, 0, none⟩ [.int .u32 x.p.a, .int .i64 x.p.n] := k_b2.part 0 2
    repeat (first | refine Vx ?_ | (apply Ops_q; (case hon => exact Va); (case hd => rfl); (case hq => exact YlA)) | refine Vr ?_ | refine Vt ?_ | refine Vf ?_ | refine Vm ?_ | refine Ve ?_ | refine Vo ?_ | refine Vz ?_ | refine Vn ?_)
    (apply Ops_q; (case hon => (exact Va)); (case hd => rfl); (case hq => exact Yl_call rfl (fun w_ e_ => valid_v x.p w_ hxa)))
    repeat (first | refine Vx ?_ | (apply Ops_q; (case hon => exact Va); (case hd => rfl); (case hq => exact YlA)) | refine Vr ?_ | refine Vt ?_ | refine Vf ?_ | refine Vm ?_ | refine Ve ?_ | refine Vo ?_ | refine Vz ?_ | refine Vn ?_)
    cases hv : x.p.valid with
    | false =>
      repeat (first | refine Vx ?_ | (apply Ops_q; (case hon => exact Va); (case hd => rfl); (case hq => exact YlA)) | refine Vr ?_ | refine Vt ?_ | refine Vf ?_ | refine Vm ?_ | refine Ve ?_ | refine Vo ?_ | refine Vz ?_ | refine Vn ?_)
      refine ret1 (by first | exact .inl rfl | exact .inr rfl) rfl rfl ?_
      exact Ret_mk (by rw [hs, if_pos hv]) e3
    | true =>
      rw [if_neg (by rw [hv]; decide)] at hs
      repeat (first | refine Vx ?_ | (apply Ops_q; (case hon => exact Va); (case hd => rfl); (case hq => exact YlA)) | refine Vr ?_ | refine Vt ?_ | refine Vf ?_ | refine Vm ?_ | refine Ve ?_ | refine Vo ?_ | refine Vz ?_ | refine Vn ?_)
      refine V_cond rfl (fun h2 => ?_) (fun h2 => ?_)
      · replace h2 := of_decide_eq_true h2
        repeat (first | refine Vx ?_ | (apply Ops_q; (case hon => exact Va); (case hd => rfl); (case hq => exact YlA)) | refine Vr ?_ | refine Vt ?_ | refine Vf ?_ | refine Vm ?_ | refine Ve ?_ | refine Vo ?_ | refine Vz ?_ | refine Vn ?_)
        refine ret1 (by first | exact .inl rfl | exact .inr rfl) rfl rfl ?_
        exact Ret_mk (by rw [hs, if_pos h2]) e3
      replace h2 := of_decide_eq_false h2
      rw [if_neg h2] at hs
      by_cases hk0 : k = 0
      · have hd : decide ((0 : Int) < (k : Int)) = false := decide_eq_false (by omega)
        repeat (first | refine Vx ?_ | (apply Ops_q; (case hon => exact Va); (case hd => rfl); (case hq => exact YlA)) | refine Vr ?_ | refine Vt ?_ | refine Vf ?_ | refine Vm ?_ | refine Ve ?_ | refine Vo ?_ | refine Vz ?_ | refine Vn ?_)
        refine Ops_know rfl rfl hd ?_
        repeat (first | refine Vx ?_ | (apply Ops_q; (case hon => exact Va); (case hd => rfl); (case hq => exact YlA)) | refine Vr ?_ | refine Vt ?_ | refine Vf ?_ | refine Vm ?_ | refine Ve ?_ | refine Vo ?_ | refine Vz ?_ | refine Vn ?_)
        refine ⟨k + 1, (by repeat (first | exact trivial | refine ⟨rfl, ?_⟩)), ⟨e3, hkl, ?_⟩, by omega⟩
        rw [hs, prevP, if_pos hk0]; rfl
      · have hd : decide ((0 : Int) < (k : Int)) = true := decide_eq_true (by omega)
        have hs1 : (k : Int) - 1 = ((k - 1 : Nat) : Int) := by omega
        obtain ⟨y, hy⟩ : ∃ y, L[k - 1]? = some y := ⟨_, List.getElem?_eq_getElem (by omega)⟩
        obtain ⟨ad', e', hd'⟩ := hL.at hy
        cases e'
        have hdp : Cells w3 (ad.add ((k - 1) * 3)) [.int .u32 y.p.a, .int .i64 y.p.n] := fun j u hj => hd'.ext e3 j u (by
          match j, hj with
          | 0, hj => exact hj
          | 1, hj => exact hj)
        have hpr : prevP L k = some y.p := by rw [prevP, if_neg hk0, hy]; rfl
        rw [hpr] at hs
        dsimp only at hs
        have hkp : k - 1 < L.length := by omega
        repeat (first | refine Vx ?_ | (apply Ops_q; (case hon => exact Va); (case hd => rfl); (case hq => exact YlA)) | refine Vr ?_ | refine Vt ?_ | refine Vf ?_ | refine Vm ?_ | refine Ve ?_ | refine Vo ?_ | refine Vz ?_ | refine Vn ?_)
        refine Ops_know rfl rfl hd ?_
        repeat (first | refine Vx ?_ | (apply Ops_q; (case hon => exact Va); (case hd => rfl); (case hq => exact YlA)) | refine Vr ?_ | refine Vt ?_ | refine Vf ?_ | refine Vm ?_ | refine Ve ?_ | refine Vo ?_ | refine Vz ?_ | refine Vn ?_)
        rw [hs1]
        (apply Ops_q; (case hon => (exact Va)); (case hd => rfl); (case hq => exact Yl_indexS (j := (k - 1)) rfl rfl (by omega)))
        repeat (first | refine Vx ?_ | (apply Ops_q; (case hon => exact Va); (case hd => rfl); (case hq => exact YlA)) | refine Vr ?_ | refine Vt ?_ | refine Vf ?_ | refine Vm ?_ | refine Ve ?_ | refine Vo ?_ | refine Vz ?_ | refine Vn ?_)
        (apply Ops_q; (case hon => (exact Va)); (case hd => rfl); (case hq => exact Yl_call rfl (fun w_ e_ => compareP_v y.p x.p w_)))
        repeat (first | refine Vx ?_ | (apply Ops_q; (case hon => exact Va); (case hd => rfl); (case hq => exact YlA)) | refine Vr ?_ | refine Vt ?_ | refine Vf ?_ | refine Vm ?_ | refine Ve ?_ | refine Vo ?_ | refine Vz ?_ | refine Vn ?_)
        refine V_cond rfl (fun h3 => ?_) (fun h3 => ?_)
        · repeat (first | refine Vx ?_ | (apply Ops_q; (case hon => exact Va); (case hd => rfl); (case hq => exact YlA)) | refine Vr ?_ | refine Vt ?_ | refine Vf ?_ | refine Vm ?_ | refine Ve ?_ | refine Vo ?_ | refine Vz ?_ | refine Vn ?_)
          refine ret1 (by first | exact .inl rfl | exact .inr rfl) rfl rfl ?_
          exact Ret_mk (by rw [hs, if_pos h3]) e3
        · repeat (first | refine Vx ?_ | (apply Ops_q; (case hon => exact Va); (case hd => rfl); (case hq => exact YlA)) | refine Vr ?_ | refine Vt ?_ | refine Vf ?_ | refine Vm ?_ | refine Ve ?_ | refine Vo ?_ | refine Vz ?_ | refine Vn ?_)
          refine ⟨k + 1, (by repeat (first | exact trivial | refine ⟨rfl, ?_⟩)), ⟨e3, hkl, ?_⟩, by omega⟩
          rw [hs, if_neg (by rw [h3]; decide)]
  replace hg := of_decide_eq_false hg
  obtain rfl : k = L.length := by omega
  repeat (first | refine Vx ?_ | (apply Ops_q; (case hon => exact Va); (case hd => rfl); (case hq => exact YlA)) | refine Vr ?_ | refine Vt ?_ | refine Vf ?_ | refine Vm ?_ | refine Ve ?_ | refine Vo ?_ | refine Vz ?_ | refine Vn ?_)
  refine ret1 (by first | exact .inl rfl | exact .inr rfl) rfl rfl ?_
  rw [List.drop_length] at hs
  refine Ret_mk ?_ e1
  rw [hs]; cases prevP L L.length <;> rfl
/-! ### Lookup -/
def lkS (a : Nat) (s : Int × Int) (x : En) : Int × Int := if decide (s.2 < x.p.n) && x.p.has a then (x.v, x.p.n) else s
def lk (L : List En) (a : Nat) : Int := (L.foldl (lkS a) (-1, -1)).1
theorem lk_step {L : List En} {k : Nat} {x : En} (a : Nat) (hx : L[k]? = some x) : (L.take (k + 1)).foldl (lkS a) (-1, -1) = lkS a ((L.take k).foldl (lkS a) (-1, -1)) x := by
  rw [List.take_add_one, hx, List.foldl_append]; rfl
theorem lookIn_v (ao : Option Addr) (L : List En) (c : Nat) (a : Nat) (w : World) (hL : Ens w ao L) (hLa : ∀ e ∈ L, e.p.a < 4294967296) (hn : L.length ≤ 1000000) (ha : a < 4294967296) :
    Calls Try.prog 54 #[.slice ao L.length c, .int .u32 a] w (Ret (.int .i64 (lk L a)) w) := by
  refine V_enter (vs := [_, _]) Try.func54 rfl Try.ntmps54 (Nat.le_of_ble_eq_true rfl) ?_
  repeat (first | refine Vx ?_ | (apply Ops_q; (case hon => exact Va); (case hd => rfl); (case hq => exact YlA)) | refine Vr ?_ | refine Vt ?_ | refine Vf ?_ | refine Vm ?_ | refine Ve ?_ | refine Vo ?_ | refine Vz ?_ | refine Vn ?_)
  refine V_loop (fun k : Nat => [(11, .int .i64 k), (10, .int .i64 L.length), (9, .slice ao L.length c), (1, .int .u32 a), (5, .int .i64 ((L.take k).foldl (lkS a) (-1, -1)).1), (6, .int .i64 ((L.take k).foldl (lkS a) (-1, -1)).2)]) (fun k w' => Ext w w' ∧ k ≤ L.length) (fun k => L.length - k) 0 (by repeat (first | exact trivial | refine ⟨rfl, ?_⟩)) ⟨Ext.refl _, Nat.zero_le _⟩ ?_
  rintro k w1 ⟨e1, hk⟩
  repeat (first | refine Vx ?_ | (apply Ops_q; (case hon => exact Va); (case hd => rfl); (case hq => exact YlA)) | refine Vr ?_ | refine Vt ?_ | refine Vf ?_ | refine Vm ?_ | refine Ve ?_ | refine Vo ?_ | refine Vz ?_ | refine Vn ?_)
  refine V_cond rfl (fun hg => ?_) (fun hg => ?_)
  · replace hg := of_decide_eq_true hg
    have hkl : k < L.length := by omega
    obtain ⟨x, hx⟩ : ∃ x, L[k]? = some x := ⟨_, List.getElem?_eq_getElem hkl⟩
    have hst := lk_step a hx
    obtain ⟨ad, rfl, hc⟩ := hL.at hx
    have hxa := hLa x (List.mem_of_getElem? hx)
    have hc1 : Cells w1 (ad.add (k * 3)) [.int .u32 x.p.a, .int .i64 x.p.n, .int .i64 x.v] := hc.ext e1
    generalize (L.take k).foldl (lkS a) (-1, -1) = s at *
    obtain ⟨bv, bl⟩ := s
    repeat (first | refine Vx ?_ | (apply Ops_q; (case hon => exact Va); (case hd => rfl); (case hq => exact YlA)) | refine Vr ?_ | refine Vt ?_ | refine Vf ?_ | refine Vm ?_ | refine Ve ?_ | refine Vo ?_ | refine Vz ?_ | refine Vn ?_)
    (apply Ops_q; (case hon => (exact Va)); (case hd => rfl); (case hq => exact Yl_indexS (j := k) rfl rfl (by omega)))
    repeat (first | refine Vx ?_ | (apply Ops_q; (case hon => exact Va); (case hd => rfl); (case hq => exact YlA)) | refine Vr ?_ | refine Vt ?_ | refine Vf ?_ | refine Vm ?_ | refine Ve ?_ | refine Vo ?_ | refine Vz ?_ | refine Vn ?_)
    (refine Ops_alloc (by exact Va) rfl ?_; intro w2 b2 n_b2; have k_b2 := n_b2.blk)
    repeat (first | refine Vx ?_ | (apply Ops_q; (case hon => exact Va); (case hd => rfl); (case hq => exact YlA)) | refine Vr ?_ | refine Vt ?_ | refine Vf ?_ | refine Vm ?_ | refine Ve ?_ | refine Vo ?_ | refine Vz ?_ | refine Vn ?_)
    (refine Ops_store (by exact Va) rfl rfl (by assumption) (by first | rfl | exact OneAll.h) ?_; intro w3 u_w3; have k_b2 := u_w3.blk)
    have e3 := u_w3.below (e1.trans n_b2.ext) (Nat.le_trans e1.size n_b2.ge)
    have hpart : Cells w3 ⟨b2, 0, none⟩ [.int .u32 x.p.a, .int .i64 x.p.n] := k_b2.part 0 2
    repeat (first | refine Vx ?_ | (apply Ops_q; (case hon => exact Va); (case hd => rfl); (case hq => exact YlA)) | refine Vr ?_ | refine Vt ?_ | refine Vf ?_ | refine Vm ?_ | refine Ve ?_ | refine Vo ?_ | refine Vz ?_ | refine Vn ?_)
    refine Ops_meet [(25, .bool (decide (bl < x.p.n) && x.p.has a)), (8, .pointer (some ⟨b2, 0, none⟩)), (11, .int .i64 k), (10, .int .i64 L.length), (9, .slice (some ad) L.length c), (1, .int .u32 a), (5, .int .i64 bv), (6, .int .i64 bl)] ?_ ?_
    · refine Ops_split rfl rfl (fun h1 => ?_) (fun h1 => ?_)
      · repeat (first | refine Vx ?_ | (apply Ops_q; (case hon => exact Va); (case hd => rfl); (case hq => exact YlA)) | refine Vr ?_ | refine Vt ?_ | refine Vf ?_ | refine Vm ?_ | refine Ve ?_ | refine Vo ?_ | refine Vz ?_ | refine Vn ?_)
        (apply Ops_q; (case hon => (exact Va)); (case hd => rfl); (case hq => exact Yl_call rfl (fun w_ e_ => contains_v x.p a w_ hxa ha)))
        repeat (first | refine Vx ?_ | (apply Ops_q; (case hon => exact Va); (case hd => rfl); (case hq => exact YlA)) | refine Vr ?_ | refine Vt ?_ | refine Vf ?_ | refine Vm ?_ | refine Ve ?_ | refine Vo ?_ | refine Vz ?_ | refine Vn ?_)
        refine ⟨⟨?_, (by repeat (first | exact trivial | refine ⟨rfl, ?_⟩))⟩, rfl⟩
        rw [h1]; exact rfl
      · repeat (first | refine Vx ?_ | (apply Ops_q; (case hon => exact Va); (case hd => rfl); (case hq => exact YlA)) | refine Vr ?_ | refine Vt ?_ | refine Vf ?_ | refine Vm ?_ | refine Ve ?_ | refine Vo ?_ | refine Vz ?_ | refine Vn ?_)
        refine ⟨⟨?_, (by repeat (first | exact trivial | refine ⟨rfl, ?_⟩))⟩, rfl⟩
        rw [h1]; exact rfl
    repeat (first | refine Vx ?_ | (apply Ops_q; (case hon => exact Va); (case hd => rfl); (case hq => exact YlA)) | refine Vr ?_ | refine Vt ?_ | refine Vf ?_ | refine Vm ?_ | refine Ve ?_ | refine Vo ?_ | refine Vz ?_ | refine Vn ?_)
    refine V_cond rfl (fun h2 => ?_) (fun h2 => ?_)
    · rw [lkS, if_pos h2] at hst
      repeat (first | refine Vx ?_ | (apply Ops_q; (case hon => exact Va); (case hd => rfl); (case hq => exact YlA)) | refine Vr ?_ | refine Vt ?_ | refine Vf ?_ | refine Vm ?_ | refine Ve ?_ | refine Vo ?_ | refine Vz ?_ | refine Vn ?_)
      refine ⟨k + 1, ?_, ⟨e3, hkl⟩, by omega⟩
      rw [hst]
      exact (by repeat (first | exact trivial | refine ⟨rfl, ?_⟩))
    · rw [lkS, if_neg (by rw [h2]; decide)] at hst
      repeat (first | refine Vx ?_ | (apply Ops_q; (case hon => exact Va); (case hd => rfl); (case hq => exact YlA)) | refine Vr ?_ | refine Vt ?_ | refine Vf ?_ | refine Vm ?_ | refine Ve ?_ | refine Vo ?_ | refine Vz ?_ | refine Vn ?_)
      refine ⟨k + 1, ?_, ⟨e3, hkl⟩, by omega⟩
      rw [hst]
      exact (by repeat (first | exact trivial | refine ⟨rfl, ?_⟩))
  replace hg := of_decide_eq_false hg
  obtain rfl : k = L.length := by omega
  repeat (first | refine Vx ?_ | (apply Ops_q; (case hon => exact Va); (case hd => rfl); (case hq => exact YlA)) | refine Vr ?_ | refine Vt ?_ | refine Vf ?_ | refine Vm ?_ | refine Ve ?_ | refine Vo ?_ | refine Vz ?_ | refine Vn ?_)
  refine ret1 (by first | exact .inl rfl | exact .inr rfl) rfl rfl ?_
  exact Ret_mk (by rw [lk, List.take_length]) e1
/-- What Lookup returns. -/
def lkT (L : List En) (a : Nat) : Int := if chk L = 0 then lk L a else -1
theorem lookupA_v (ao : Option Addr) (L : List En) (c : Nat) (a : Nat) (w : World) (hL : Ens w ao L) (hLa : ∀ e ∈ L, e.p.a < 4294967296) (hn : L.length ≤ 1000000) (ha : a < 4294967296) :
    Calls Try.prog 17 #[.slice ao L.length c, .int .u32 a] w (Ret (.int .i64 (lkT L a)) w) := by
  refine V_enter (vs := [_, _]) Try.func17 rfl Try.ntmps17 (Nat.le_of_ble_eq_true rfl) ?_
  repeat (first | refine Vx ?_ | (apply Ops_q; (case hon => exact Va); (case hd => rfl); (case hq => exact YlA)) | refine Vr ?_ | refine Vt ?_ | refine Vf ?_ | refine Vm ?_ | refine Ve ?_ | refine Vo ?_ | refine Vz ?_ | refine Vn ?_)
  (apply Ops_q; (case hon => (exact Va)); (case hd => rfl); (case hq => exact Yl_call rfl (fun w_ e_ => check_v ao L c w_ (hL.ext e_) hLa hn)))
  repeat (first | refine Vx ?_ | (apply Ops_q; (case hon => exact Va); (case hd => rfl); (case hq => exact YlA)) | refine Vr ?_ | refine Vt ?_ | refine Vf ?_ | refine Vm ?_ | refine Ve ?_ | refine Vo ?_ | refine Vz ?_ | refine Vn ?_)
  refine V_cond rfl (fun h => ?_) (fun h => ?_)
  · have h0 : ¬chk L = 0 := by simpa using h
    repeat (first | refine Vx ?_ | (apply Ops_q; (case hon => exact Va); (case hd => rfl); (case hq => exact YlA)) | refine Vr ?_ | refine Vt ?_ | refine Vf ?_ | refine Vm ?_ | refine Ve ?_ | refine Vo ?_ | refine Vz ?_ | refine Vn ?_)
    refine ret1 (by first | exact .inl rfl | exact .inr rfl) rfl rfl ?_
    exact Ret_mk (by rw [lkT, if_neg h0]) (Ext.refl _)
  · have h0 : chk L = 0 := by simpa using h
    repeat (first | refine Vx ?_ | (apply Ops_q; (case hon => exact Va); (case hd => rfl); (case hq => exact YlA)) | refine Vr ?_ | refine Vt ?_ | refine Vf ?_ | refine Vm ?_ | refine Ve ?_ | refine Vo ?_ | refine Vz ?_ | refine Vn ?_)
    refine V_loop (fun k : Nat => [(14, .int .i64 k), (13, .int .i64 L.length), (12, .slice ao L.length c), (1, .int .u32 a), (5, .int .i64 ((L.take k).foldl (lkS a) (-1, -1)).1), (6, .int .i64 ((L.take k).foldl (lkS a) (-1, -1)).2)]) (fun k w' => Ext w w' ∧ k ≤ L.length) (fun k => L.length - k) 0 (by repeat (first | exact trivial | refine ⟨rfl, ?_⟩)) ⟨Ext.refl _, Nat.zero_le _⟩ ?_
    rintro k w1 ⟨e1, hk⟩
    repeat (first | refine Vx ?_ | (apply Ops_q; (case hon => exact Va); (case hd => rfl); (case hq => exact YlA)) | refine Vr ?_ | refine Vt ?_ | refine Vf ?_ | refine Vm ?_ | refine Ve ?_ | refine Vo ?_ | refine Vz ?_ | refine Vn ?_)
    refine V_cond rfl (fun hg => ?_) (fun hg => ?_)
    · replace hg := of_decide_eq_true hg
      have hkl : k < L.length := by omega
      obtain ⟨x, hx⟩ : ∃ x, L[k]? = some x := ⟨_, List.getElem?_eq_getElem hkl⟩
      have hst := lk_step a hx
      obtain ⟨ad, rfl, hc⟩ := hL.at hx
      have hxa := hLa x (List.mem_of_getElem? hx)
      have hc1 : Cells w1 (ad.add (k * 3)) [.int .u32 x.p.a, .int .i64 x.p.n, .int .i64 x.v] := hc.ext e1
      generalize (L.take k).foldl (lkS a) (-1, -1) = s at *
      obtain ⟨bv, bl⟩ := s
      repeat (first | refine Vx ?_ | (apply Ops_q; (case hon => exact Va); (case hd => rfl); (case hq => exact YlA)) | refine Vr ?_ | refine Vt ?_ | refine Vf ?_ | refine Vm ?_ | refine Ve ?_ | refine Vo ?_ | refine Vz ?_ | refine Vn ?_)
      (apply Ops_q; (case hon => (exact Va)); (case hd => rfl); (case hq => exact Yl_indexS (j := k) rfl rfl (by omega)))
      repeat (first | refine Vx ?_ | (apply Ops_q; (case hon => exact Va); (case hd => rfl); (case hq => exact YlA)) | refine Vr ?_ | refine Vt ?_ | refine Vf ?_ | refine Vm ?_ | refine Ve ?_ | refine Vo ?_ | refine Vz ?_ | refine Vn ?_)
      (refine Ops_alloc (by exact Va) rfl ?_; intro w2 b2 n_b2; have k_b2 := n_b2.blk)
      repeat (first | refine Vx ?_ | (apply Ops_q; (case hon => exact Va); (case hd => rfl); (case hq => exact YlA)) | refine Vr ?_ | refine Vt ?_ | refine Vf ?_ | refine Vm ?_ | refine Ve ?_ | refine Vo ?_ | refine Vz ?_ | refine Vn ?_)
      (refine Ops_store (by exact Va) rfl rfl (by assumption) (by first | rfl | exact OneAll.h) ?_; intro w3 u_w3; have k_b2 := u_w3.blk)
      have e3 := u_w3.below (e1.trans n_b2.ext) (Nat.le_trans e1.size n_b2.ge)
      have hpart : Cells w3 ⟨b2, 0, none⟩ [.int .u32 x.p.a, .int .i64 x.p.n] := k_b2.part 0 2
      repeat (first | refine Vx ?_ | (apply Ops_q; (case hon => exact Va); (case hd => rfl); (case hq => exact YlA)) | refine Vr ?_ | refine Vt ?_ | refine Vf ?_ | refine Vm ?_ | refine Ve ?_ | refine Vo ?_ | refine Vz ?_ | refine Vn ?_)
      refine Ops_meet [(28, .bool (decide (bl < x.p.n) && x.p.has a)), (8, .pointer (some ⟨b2, 0, none⟩)), (14, .int .i64 k), (13, .int .i64 L.length), (12, .slice (some ad) L.length c), (1, .int .u32 a), (5, .int .i64 bv), (6, .int .i64 bl)] ?_ ?_
      · refine Ops_split rfl rfl (fun h1 => ?_) (fun h1 => ?_)
        · repeat (first | refine Vx ?_ | (apply Ops_q; (case hon => exact Va); (case hd => rfl); (case hq => exact YlA)) | refine Vr ?_ | refine Vt ?_ | refine Vf ?_ | refine Vm ?_ | refine Ve ?_ | refine Vo ?_ | refine Vz ?_ | refine Vn ?_)
          (apply Ops_q; (case hon => (exact Va)); (case hd => rfl); (case hq => exact Yl_call rfl (fun w_ e_ => containsP_v x.p a w_ hxa ha)))
          repeat (first | refine Vx ?_ | (apply Ops_q; (case hon => exact Va); (case hd => rfl); (case hq => exact YlA)) | refine Vr ?_ | refine Vt ?_ | refine Vf ?_ | refine Vm ?_ | refine Ve ?_ | refine Vo ?_ | refine Vz ?_ | refine Vn ?_)
          refine ⟨⟨?_, (by repeat (first | exact trivial | refine ⟨rfl, ?_⟩))⟩, rfl⟩
          rw [h1]; exact rfl
        · repeat (first | refine Vx ?_ | (apply Ops_q; (case hon => exact Va); (case hd => rfl); (case hq => exact YlA)) | refine Vr ?_ | refine Vt ?_ | refine Vf ?_ | refine Vm ?_ | refine Ve ?_ | refine Vo ?_ | refine Vz ?_ | refine Vn ?_)
          refine ⟨⟨?_, (by repeat (first | exact trivial | refine ⟨rfl, ?_⟩))⟩, rfl⟩
          rw [h1]; exact rfl
      repeat (first | refine Vx ?_ | (apply Ops_q; (case hon => exact Va); (case hd => rfl); (case hq => exact YlA)) | refine Vr ?_ | refine Vt ?_ | refine Vf ?_ | refine Vm ?_ | refine Ve ?_ | refine Vo ?_ | refine Vz ?_ | refine Vn ?_)
      refine V_cond rfl (fun h2 => ?_) (fun h2 => ?_)
      · rw [lkS, if_pos h2] at hst
        repeat (first | refine Vx ?_ | (apply Ops_q; (case hon => exact Va); (case hd => rfl); (case hq => exact YlA)) | refine Vr ?_ | refine Vt ?_ | refine Vf ?_ | refine Vm ?_ | refine Ve ?_ | refine Vo ?_ | refine Vz ?_ | refine Vn ?_)
        refine ⟨k + 1, ?_, ⟨e3, hkl⟩, by omega⟩
        rw [hst]
        exact (by repeat (first | exact trivial | refine ⟨rfl, ?_⟩))
      · rw [lkS, if_neg (by rw [h2]; decide)] at hst
        repeat (first | refine Vx ?_ | (apply Ops_q; (case hon => exact Va); (case hd => rfl); (case hq => exact YlA)) | refine Vr ?_ | refine Vt ?_ | refine Vf ?_ | refine Vm ?_ | refine Ve ?_ | refine Vo ?_ | refine Vz ?_ | refine Vn ?_)
        refine ⟨k + 1, ?_, ⟨e3, hkl⟩, by omega⟩
        rw [hst]
        exact (by repeat (first | exact trivial | refine ⟨rfl, ?_⟩))
    replace hg := of_decide_eq_false hg
    obtain rfl : k = L.length := by omega
    repeat (first | refine Vx ?_ | (apply Ops_q; (case hon => exact Va); (case hd => rfl); (case hq => exact YlA)) | refine Vr ?_ | refine Vt ?_ | refine Vf ?_ | refine Vm ?_ | refine Ve ?_ | refine Vo ?_ | refine Vz ?_ | refine Vn ?_)
    refine ret1 (by first | exact .inl rfl | exact .inr rfl) rfl rfl ?_
    exact Ret_mk (by rw [lkT, if_pos h0, lk, List.take_length]) e1
end Go.Proofs.Ytjpnaofoeeegeaa


/-
  Stable sorting in plain lists: swaps, rotations, merges.
  No conditions beyond those that each statement names.
-/
namespace Go.Proofs.Ytjpnaofoeeegeaa

/-- Two elements change places. -/
def swp {α : Type} (L : List α) (i j : Nat) : List α := match L[i]?, L[j]? with
  | some x, some y => (L.set i y).set j x
  | _, _ => L
section
variable {α : Type} {L L' L'' : List α} {a b c m i j k n : Nat}
theorem swp_get (hi : i < L.length) (hj : j < L.length) (k : Nat) : (swp L i j)[k]? = if k = j then L[i]? else if k = i then L[j]? else L[k]? := by
  unfold swp
  rw [List.getElem?_eq_getElem hi, List.getElem?_eq_getElem hj]
  simp only [List.getElem?_set, List.length_set]
  by_cases h1 : k = j
  · subst h1; simp [hj]
  · rw [if_neg (Ne.symm h1), if_neg h1]
    by_cases h2 : k = i
    · subst h2; simp [hi]
    · rw [if_neg (Ne.symm h2), if_neg h2]
theorem swp_perm (hi : i < L.length) (hj : j < L.length) : (swp L i j).Perm L := by
  unfold swp
  rw [List.getElem?_eq_getElem hi, List.getElem?_eq_getElem hj]
  exact List.set_set_perm hi hj
/-- What a list holds after other elements of the same range took its places; outside of it nothing has changed. -/
structure Moved (L L' : List α) (a b : Nat) : Prop where
  perm : L'.Perm L
  out : ∀ k, k < a ∨ b ≤ k → L'[k]? = L[k]?
  ins : ∀ k, a ≤ k → k < b → ∃ k', a ≤ k' ∧ k' < b ∧ L'[k]? = L[k']?
theorem Moved.refl (L : List α) (a b : Nat) : Moved L L a b := ⟨.refl _, fun _ _ => rfl, fun k h1 h2 => ⟨k, h1, h2, rfl⟩⟩
theorem Moved.trans (h : Moved L L' a b) (h2 : Moved L' L'' a b) : Moved L L'' a b := by
  refine ⟨h2.perm.trans h.perm, fun k hk => (h2.out k hk).trans (h.out k hk), fun k h3 h4 => ?_⟩
  obtain ⟨k1, p1, p2, p3⟩ := h2.ins k h3 h4
  obtain ⟨k2, q1, q2, q3⟩ := h.ins k1 p1 p2
  exact ⟨k2, q1, q2, p3.trans q3⟩
theorem Moved.wide {a' b' : Nat} (h : Moved L L' a b) (ha : a' ≤ a) (hb : b ≤ b') : Moved L L' a' b' := by
  refine ⟨h.perm, fun k hk => h.out k (by omega), fun k h3 h4 => ?_⟩
  by_cases hk : a ≤ k ∧ k < b
  · obtain ⟨k1, p1, p2, p3⟩ := h.ins k hk.1 hk.2
    exact ⟨k1, by omega, by omega, p3⟩
  · exact ⟨k, h3, h4, h.out k (by omega)⟩
theorem Moved.swp (hi : a ≤ i ∧ i < b) (hj : a ≤ j ∧ j < b) (hb : b ≤ L.length) : Moved L (swp L i j) a b := by
  have g := swp_get (L := L) (i := i) (j := j) (by omega) (by omega)
  refine ⟨swp_perm (by omega) (by omega), fun k hk => ?_, fun k h1 h2 => ?_⟩
  · rw [g, if_neg (by omega), if_neg (by omega)]
  · rw [g]
    split
    · exact ⟨i, hi.1, hi.2, rfl⟩
    · split
      · exact ⟨j, hj.1, hj.2, rfl⟩
      · exact ⟨k, h1, h2, rfl⟩
/-- An order by a function that compares, as Go's packages take it. -/
structure Ord (cf : α → α → Int) : Prop where
  tot : ∀ x y, cf x y < 0 → ¬cf y x < 0
  tr : ∀ x y z, ¬cf y x < 0 → ¬cf z y < 0 → ¬cf z x < 0
variable {cf : α → α → Int}
/-- Ascending from a on, below b. -/
def Asc (cf : α → α → Int) (L : List α) (a b : Nat) : Prop := ∀ i j x y, a ≤ i → i < j → j < b → L[i]? = some x → L[j]? = some y → ¬cf y x < 0
theorem Asc.part {a' b' : Nat} (h : Asc cf L a b) (ha : a ≤ a') (hb : b' ≤ b) : Asc cf L a' b' := fun i j x y h1 h2 h3 => h i j x y (by omega) h2 (by omega)
theorem Asc.one (h : b ≤ a + 1) : Asc cf L a b := fun i j x y h1 h2 h3 => by omega
theorem Asc.same (h : Asc cf L a b) (hs : ∀ k, a ≤ k → k < b → L'[k]? = L[k]?) : Asc cf L' a b := fun i j x y h1 h2 h3 hx hy => by
  rw [hs i h1 (by omega)] at hx
  rw [hs j (by omega) h3] at hy
  exact h i j x y h1 h2 h3 hx hy
/-- Everything in the first range is at most everything in the second. -/
def Below2 (cf : α → α → Int) (L : List α) (a b c d : Nat) : Prop := ∀ i j x y, a ≤ i → i < b → c ≤ j → j < d → L[i]? = some x → L[j]? = some y → ¬cf y x < 0
theorem Asc.join (h1 : Asc cf L a m) (h2 : Asc cf L m b) (h3 : Below2 cf L a m m b) : Asc cf L a b := fun i j x y p1 p2 p3 hx hy => by
  rcases Nat.lt_or_ge j m with h | h
  · exact h1 i j x y p1 p2 h hx hy
  · rcases Nat.lt_or_ge i m with h' | h'
    · exact h3 i j x y p1 h' h p3 hx hy
    · exact h2 i j x y h' p2 p3 hx hy
theorem Below2.moved {d : Nat} (h : Below2 cf L a b c d) (h1 : Moved L L' a b) (hc : b ≤ c) : Below2 cf L' a b c d := fun i j x y p1 p2 p3 p4 hx hy => by
  obtain ⟨k, q1, q2, q3⟩ := h1.ins i p1 p2
  rw [q3] at hx
  rw [h1.out j (by omega)] at hy
  exact h k j x y q1 q2 p3 p4 hx hy
theorem Below2.moved' {d : Nat} (h : Below2 cf L a b c d) (h1 : Moved L L' c d) (hc : b ≤ c) : Below2 cf L' a b c d := fun i j x y p1 p2 p3 p4 hx hy => by
  obtain ⟨k, q1, q2, q3⟩ := h1.ins j p3 p4
  rw [q3] at hy
  rw [h1.out i (by omega)] at hx
  exact h i k x y p1 p2 q1 q2 hx hy
/-! ### Insertion -/
/-- Ascending but for the element at j, which may be less than those before it. -/
def AscX (cf : α → α → Int) (L : List α) (a b j : Nat) : Prop := ∀ p q x y, a ≤ p → p < q → q < b → q ≠ j → L[p]? = some x → L[q]? = some y → ¬cf y x < 0
theorem AscX.start (h : Asc cf L a i) : AscX cf L a (i + 1) i := fun p q x y h1 h2 h3 h4 => h p q x y h1 h2 (by omega)
theorem AscX.step (ho : Ord cf) (h : AscX cf L a b (j + 1)) (ha : a ≤ j) (hb : j + 1 < b) (hl : b ≤ L.length) {x y : α} (hx : L[j + 1]? = some x) (hy : L[j]? = some y) (hlt : cf x y < 0) : AscX cf (swp L (j + 1) j) a b j := by
  have g := swp_get (L := L) (i := j + 1) (j := j) (by omega) (by omega)
  intro p q u v h1 h2 h3 h4 hu hv
  rw [g] at hu hv
  rw [if_neg h4] at hv
  by_cases e1 : p = j
  · rw [if_pos e1, hx] at hu
    cases hu
    by_cases e2 : q = j + 1
    · rw [if_pos e2, hy] at hv
      cases hv
      exact ho.tot _ _ hlt
    · rw [if_neg e2] at hv
      exact h (j + 1) q x v (by omega) (by omega) h3 e2 hx hv
  · rw [if_neg e1] at hu
    by_cases e3 : p = j + 1
    · rw [if_pos e3, hy] at hu
      cases hu
      rw [if_neg (by omega)] at hv
      exact h j q y v ha (by omega) h3 (by omega) hy hv
    · rw [if_neg e3] at hu
      by_cases e2 : q = j + 1
      · rw [if_pos e2, hy] at hv
        cases hv
        exact h p j u y h1 (by omega) (by omega) (by omega) hu hy
      · rw [if_neg e2] at hv
        exact h p q u v h1 h2 h3 e2 hu hv
theorem AscX.stop (ho : Ord cf) (h : AscX cf L a b j) (hj : j ≤ a ∨ ∃ x y, L[j]? = some x ∧ L[j - 1]? = some y ∧ ¬cf x y < 0) : Asc cf L a b := by
  intro p q x y h1 h2 h3 hx hy
  by_cases e : q = j
  · subst e
    rcases hj with hj | ⟨u, v, hu, hv, huv⟩
    · omega
    · rw [hy] at hu; cases hu
      by_cases e2 : p = q - 1
      · subst e2
        rw [hx] at hv; cases hv
        exact huv
      · exact ho.tr _ _ _ (h p (q - 1) x v h1 (by omega) (by omega) (by omega) hx hv) huv
  · exact h p q x y h1 h2 h3 e hx hy
/-! ### Rotations -/
/-! ### Merging -/
/-! ### Blocks -/
end
end Go.Proofs.Ytjpnaofoeeegeaa


/-
  Regions that draw their order and hold one store among the first operations: the loads come before it, the others do not look at memory.
  No conditions beyond those that each rule states.
-/
namespace Go.Proofs.Ytjpnaofoeeegeaa
open Go.RowKit

def isStore (o : Oper) : Bool := match o.op with
  | .store _ _ _ => true
  | _ => false
def isLoad (o : Oper) : Bool := match o.op with
  | .load _ _ => true
  | _ => false
section
variable {P : Program} {md : Region.Mode} {ops : Array Oper}
/-- What the operations do: the store leaves a world of which R is known; loads yield the same in every world that has grown from w0, the others in every world. -/
def storeY (P : Program) (w0 : World) (R : World → Prop) (o : Oper) (a : Act) (v : Value) : Prop :=
  if isStore o then v = undef ∧ ∀ w', Ext w0 w' → ∃ w'', (execOp a.eval o).run P w' = .ok .skip w'' ∧ R w'' else if isLoad o then yW P w0 o a v else ∀ w', o.quietAt P a (Ext w') w' v
theorem same_storeY (P : Program) (w0 : World) (R : World → Prop) : Same (storeY P w0 R) := fun o a a' v he h => by
  unfold storeY at *
  split at h
  · rename_i hd
    rw [if_pos hd]
    refine ⟨h.1, fun w' hw' => ?_⟩
    rw [he]; exact h.2 w' hw'
  · rename_i hd
    rw [if_neg hd]
    split at h
    · rename_i hl
      rw [if_pos hl]
      exact same_yW P w0 o a a' v he h
    · rename_i hl
      rw [if_neg hl]
      intro w'
      have := h w'
      unfold Oper.quietAt at *
      rwa [he]
theorem store_any {n s i0 : Nat} {Q1 : Act → Prop} {Q : Exit → Act → World → Prop} {w0 : World} {R : World → Prop} {pre : Array Oper} (hR : ∀ w w', Ext w w' → R w → R w') (hn : n ≤ ops.size) (hP : ∀ i o, i < n → ops[i]? = some o → pre[i]? = some o)
    (hA : ∀ i, n ≤ i → i < ops.size → ∀ j, j < n → reach ops md 9 i j = true)
    (hE : ∀ i o, ops[i]? = some o → i < n → ∀ e ∈ o.after, Region.binds md e = true → e.on < i)
    (hG : ∀ i o, ops[i]? = some o → i < n → o.guard = none) (h0 : i0 < n)
    (hS : ∀ i o, ops[i]? = some o → i < n → (isStore o = true ↔ i = i0)) (hS0 : ∀ o, ops[i0]? = some o → o.dst = none)
    (hLd : ∀ i o, ops[i]? = some o → i < n → isLoad o = true → reach ops md 9 i0 i = true)
    (last : ∀ a w, R w → Q1 a → wpAny P md ops Q s (upto ops.size n) a w) :
    ∀ (f : Nat) (L L' : Array Bool) (a : Act) (w : World), (L[i0]? = some false → Ext w0 w) → (L[i0]? = some true → R w) → L'.size = n → L.size = ops.size → (∀ j, j < n → L[j]? = L'[j]?) → (∀ j, n ≤ j → j < ops.size → L[j]? = some false) → cnt n L' = f →
      Closed ops md L → anyY md pre (storeY P w0 R) Q1 f L' a → wpAny P md ops Q (f + s) L a w := by
  intro f
  induction f with
  | zero =>
    intro L L' a w _ hX hs' hs h1 h2 hc hcl h
    have hlist : ∀ j, j < n → L[j]? = some true := fun j hj => by
      rw [h1 j hj]
      have := List.countP_eq_zero.1 hc j (List.mem_range.2 hj)
      have hlt : j < L'.size := by omega
      simp [hlt] at this
      simp [hlt, this]
    have hL : L = upto ops.size n := by
      refine Array.ext_getElem? fun j => ?_
      rcases Nat.lt_or_ge j ops.size with hj | hj
      · rw [upto_get _ _ _ hj]
        rcases Nat.lt_or_ge j n with hjn | hjn
        · rw [hlist j hjn]; simp [hjn]
        · rw [h2 j hjn hj]; simp; omega
      · rw [Array.getElem?_eq_none (by omega), Array.getElem?_eq_none (by rw [upto_size]; omega)]
    rw [Nat.zero_add]
    have hr := hX (hlist i0 h0)
    rw [hL]
    exact last a w hr h.2
  | succ f ih =>
    intro L L' a w hE0 hX hs' hs h1 h2 hc hcl h
    rw [Nat.succ_add]
    have un : ∃ j, j < n ∧ L'[j]? = some false ∧ ∀ k, k < j → L'[k]? = some true := by
      have hpos : 0 < cnt n L' := by omega
      obtain ⟨j, hj, hjf⟩ := List.countP_pos_iff.1 hpos
      have hjn := List.mem_range.1 hj
      have hjl : j < L'.size := by omega
      have hjf' : L'[j]? = some false := by simp [hjl] at hjf ⊢; exact hjf
      clear hj hjf hjl
      induction j using Nat.strongRecOn with
      | ind j ihj =>
        by_cases hall : ∀ k, k < j → L'[k]? = some true
        · exact ⟨j, hjn, hjf', hall⟩
        · obtain ⟨k, hk⟩ := Classical.not_forall.1 hall
          obtain ⟨hkj, hk⟩ := Classical.not_imp.1 hk
          have hkl : k < L'.size := by omega
          refine ihj k hkj (by omega) ?_
          rw [Array.getElem?_eq_getElem hkl] at hk ⊢
          cases hb : L'[k] with
          | true => rw [hb] at hk; exact absurd rfl hk
          | false => rfl
    obtain ⟨j0, hj0, hjf, hbelow⟩ := un
    have on_lt : ∀ {i : Nat} {o : Oper} {e : Edge}, ops[i]? = some o → i < n → e ∈ o.after → Region.binds md e = true → L.getD e.on false = L'.getD e.on false := fun ho hi he hb => by
      have h4 := hE _ _ ho hi _ he hb
      rename_i i1 o1 e1
      have h3 := h1 e1.on (by omega)
      rw [Array.getD_eq_getD_getElem?, Array.getD_eq_getD_getElem?, h3]
    have lt_n : ∀ i, i ∈ Region.ready md ops L → i < n := fun i hi => by
      obtain ⟨_, o, ho, hall⟩ := mem_ready.1 hi
      rcases Nat.lt_or_ge i n with h3 | h3
      · exact h3
      · have hlt : i < ops.size := by
          rcases Nat.lt_or_ge i ops.size with h' | h'
          · exact h'
          · rw [Array.getElem?_eq_none h'] at ho; cases ho
        have := reach_listed hcl 9 i j0 (fun o' ho' => by obtain rfl := Option.some.inj (ho.symm.trans ho'); exact hall) (hA i h3 hlt j0 hj0)
        rw [getD_of ((h1 j0 hj0).trans hjf)] at this
        cases this
    refine ⟨fun hr => ?_, fun i hi => ?_⟩
    · exfalso
      have hmem : j0 ∈ Region.ready md ops L := by
        have hlt : j0 < ops.size := by omega
        refine mem_ready.2 ⟨getD_of ((h1 j0 hj0).trans hjf) _, ops[j0], Array.getElem?_eq_getElem hlt, fun e he hb => ?_⟩
        have hlt' := hE j0 _ (Array.getElem?_eq_getElem hlt) hj0 e he hb
        exact getD_of ((h1 _ (by omega)).trans (hbelow _ hlt')) _
      rw [hr] at hmem; cases hmem
    · have hin' := lt_n i hi
      have hcl' := hcl.set hi
      obtain ⟨hun, o, ho, hall⟩ := mem_ready.1 hi
      have hpo : pre[i]? = some o := hP i o hin' ho
      have hun' : L'.getD i true = false := by
        have := h1 i hin'
        simp only [Array.getD_eq_getD_getElem?, ← this] at hun ⊢; exact hun
      have hi' : i ∈ Region.ready md pre L' := mem_ready.2 ⟨hun', o, hpo, fun e he hb => by rw [← on_lt ho hin' he hb]; exact hall e he hb⟩
      have hq := (stepY_iff hpo).1 (h.2 i hi')
      obtain ⟨v, hv, hK⟩ := hq
      have hset : ∀ j, j < n → (L.setIfInBounds i true)[j]? = (L'.setIfInBounds i true)[j]? := fun j hj => by
        by_cases e : i = j
        · subst e
          have hl1 : i < L.size := by omega
          have hl2 : i < L'.size := by omega
          simp [hl1, hl2]
        · rw [Array.getElem?_setIfInBounds_ne e, Array.getElem?_setIfInBounds_ne e]; exact h1 j hj
      have hset2 : ∀ j, n ≤ j → j < ops.size → (L.setIfInBounds i true)[j]? = some false := fun j hj hjs => by
        rw [Array.getElem?_setIfInBounds_ne (by omega)]; exact h2 j hj hjs
      have hc' : cnt n (L'.setIfInBounds i true) = f := by have := cnt_set n L' i hin' hun'; omega
      have hgn := hG i o ho hin'
      have hwt : ∀ y, Region.wanted o y = true := fun y => by unfold Region.wanted; rw [hgn]
      have hL0 : i0 < L.size := by omega
      unfold wpOp
      simp only [ho]
      rw [if_pos (hwt _)]
      rcases hv with ⟨_, hy⟩ | ⟨hwn, _⟩
      · unfold storeY at hy
        by_cases hii : i = i0
        · subst hii
          rw [if_pos ((hS i o ho hin').2 rfl)] at hy
          obtain ⟨rfl, hl⟩ := hy
          have hLf : L[i]? = some false := by
            rw [Array.getElem?_eq_getElem hL0]
            have : L[i] = false := by simpa [hL0] using hun
            rw [this]
          obtain ⟨w'', hrun, hRw⟩ := hl w (hE0 hLf)
          refine .inl ?_
          unfold Oper.wp
          rw [hrun]
          show wpAny P md ops Q (f + s) (L.setIfInBounds i true) (a.put o.dst undef) w''
          have hnew : (L.setIfInBounds i true)[i]? = some true := by simp [hL0]
          exact ih _ _ _ w'' (fun h3 => by rw [hnew] at h3; cases h3) (fun _ => hRw) (by simpa using hs') (by simpa using hs) hset hset2 hc' hcl' hK
        · rw [if_neg (fun h3 => hii ((hS i o ho hin').1 h3))] at hy
          have hsame : (L.setIfInBounds i true)[i0]? = L[i0]? := Array.getElem?_setIfInBounds_ne hii
          have hq1 : o.quietAt P a (Ext w) w v := by
            split at hy
            · rename_i hld
              refine hy w (hE0 ?_)
              cases hb : L[i0] with
              | false => rw [Array.getElem?_eq_getElem hL0, hb]
              | true =>
                have hlt : i0 < ops.size := by omega
                have := reach_listed hcl 9 i0 i (fun o' ho' e he hb' => hcl i0 o' (by simp [hL0, hb]) ho' e he hb') (hLd i o ho hin' hld)
                have hi2 : i < L.size := by omega
                simp [hi2] at this hun
                rw [this] at hun; cases hun
            · exact hy w
          have hq2 : ∀ w1, Ext w w1 → o.quietAt P a (Ext w1) w1 v := fun w1 hw1 => by
            split at hy
            · rename_i hld
              refine hy w1 ((hE0 ?_).trans hw1)
              cases hb : L[i0] with
              | false => rw [Array.getElem?_eq_getElem hL0, hb]
              | true =>
                have hlt : i0 < ops.size := by omega
                have := reach_listed hcl 9 i0 i (fun o' ho' e he hb' => hcl i0 o' (by simp [hL0, hb]) ho' e he hb') (hLd i o ho hin' hld)
                have hi2 : i < L.size := by omega
                simp [hi2] at this hun
                rw [this] at hun; cases hun
            · exact hy w1
          refine .inl (Oper.wp_of_quiet (C := fun w'' => Ext w w'') (K := fun x => x = a.put o.dst v) (Ext.refl w) (fun a1 w1 hw1 e => ?_) ?_)
          · subst e
            exact ih _ _ _ w1 (fun h3 => (hE0 (hsame ▸ h3)).trans hw1) (fun h3 => hR _ _ hw1 (hX (hsame ▸ h3))) (by simpa using hs') (by simpa using hs) hset hset2 hc' hcl' hK
          · refine ⟨v, fun w1 hw1 => ?_, rfl⟩
            have hq1 := hq2 w1 hw1
            unfold Oper.quietAt at hq1 ⊢
            generalize (execOp a.eval o).run P w1 = r at *
            cases r with
            | ok nx w2 =>
              cases nx <;> simp only [Oper.quietUpon] at hq1 ⊢ <;> first | exact hq1 | exact ⟨hq1.1, hq1.2.mono fun e w3 h3 => ⟨h3.1, hw1.trans h3.2⟩⟩
            | halt x w2 => simp only [Oper.quietUpon] at hq1
      · rw [hwt] at hwn; cases hwn

/-! ### The test -/
def storeB (ops : Array Oper) (n i0 : Nat) : Bool :=
  Nat.ble n ops.size && Region.noSelect ops && Region.lexB .any (ops.toList.take n).toArray && Nat.ble (i0 + 1) n &&
  (List.range ops.size).all (fun i => match ops[i]? with
    | none => true
    | some o => if Nat.ble (i + 1) n then (o.after.all fun e => !Region.binds .any e || Nat.ble (e.on + 1) i) && o.guard.isNone && (isStore o == Nat.beq i i0) && (!isStore o || o.dst.isNone) && (!isLoad o || reach ops .any 9 i0 i)
      else (List.range n).all fun j => reach ops .any 9 i j) &&
  (List.range ops.size).all (fun k => Nat.ble (k + 1) n || (match Region.ready .any ops (upto ops.size k) with
    | [k'] => Nat.beq k' k
    | _ => false)) &&
  (Region.ready .any ops (upto ops.size ops.size)).isEmpty
theorem wp_store {ro : Option Nat} {l : List Oper} {n i0 id : Nat} {Q1 : Act → Prop} {Q : Exit → Act → World → Prop} {w0 w : World} {a : Act} {R : World → Prop} (hR : ∀ w w', Ext w w' → R w → R w') (hnd : NoDef ro l) (hQ : ¬LetsOut Q) (hm : P.follows .mixedOrders = true) (hB : storeB l.toArray n i0 = true) (hw : Ext w0 w)
    (h : listY (l.take n).toArray (storeY P w0 R) Q1 (l.take n) a)
    (last : ∀ a w, R w → Q1 a → wpList P l.toArray Q (l.drop n) a w) :
    WpR ro P (.region id l.toArray true) Q a w := by
  simp only [storeB, Bool.and_eq_true] at hB
  obtain ⟨⟨⟨⟨⟨⟨b1, b0⟩, b2⟩, bi⟩, b3⟩, b4⟩, b5⟩ := hB
  have hn : n ≤ l.toArray.size := Nat.le_of_ble_eq_true b1
  have hnl : n ≤ l.length := by simpa using hn
  have at3 : ∀ i o, l.toArray[i]? = some o → _ := fun i o ho => by
    have hlt : i < l.toArray.size := by
      rcases Nat.lt_or_ge i l.toArray.size with h' | h'
      · exact h'
      · rw [Array.getElem?_eq_none h'] at ho; cases ho
    have := List.all_eq_true.1 b3 i (List.mem_range.2 hlt)
    simp only [ho] at this
    exact this
  have pre3 : ∀ i o, l.toArray[i]? = some o → i < n → _ := fun i o ho hi => by
    have := at3 i o ho
    rw [if_pos (Nat.ble_eq_true_of_le hi)] at this
    simp only [Bool.and_eq_true] at this
    exact this
  have hP : ∀ i o, i < n → l.toArray[i]? = some o → (l.take n).toArray[i]? = some o := fun i o hi ho => by
    have : l[i]? = some o := by simpa using ho
    simp [hi, this]
  have hE : ∀ i o, l.toArray[i]? = some o → i < n → ∀ e ∈ o.after, Region.binds .any e = true → e.on < i := fun i o ho hi e he hb => by
    have := Array.all_eq_true_iff_forall_mem.1 (pre3 i o ho hi).1.1.1.1 e he
    rw [hb, Bool.not_true, Bool.false_or] at this
    exact Nat.le_of_ble_eq_true this
  have hG : ∀ i o, l.toArray[i]? = some o → i < n → o.guard = none := fun i o ho hi => by
    have := (pre3 i o ho hi).1.1.1.2
    simpa using this
  have hS : ∀ i o, l.toArray[i]? = some o → i < n → (isStore o = true ↔ i = i0) := fun i o ho hi => by
    have := (pre3 i o ho hi).1.1.2
    have e : isStore o = Nat.beq i i0 := by simpa using this
    rw [e]; exact ⟨Nat.eq_of_beq_eq_true, fun h => by subst h; exact Nat.beq_refl _⟩
  have h0 : i0 < n := Nat.le_of_ble_eq_true bi
  have hS0 : ∀ o, l.toArray[i0]? = some o → o.dst = none := fun o ho => by
    have := (pre3 i0 o ho h0).1.2
    rw [(hS i0 o ho h0).2 rfl] at this
    simpa using this
  have hLd : ∀ i o, l.toArray[i]? = some o → i < n → isLoad o = true → reach l.toArray .any 9 i0 i = true := fun i o ho hi hl => by
    have := (pre3 i o ho hi).2
    rw [hl] at this
    simpa using this
  have hA : ∀ i, n ≤ i → i < l.toArray.size → ∀ j, j < n → reach l.toArray .any 9 i j = true := fun i hi his j hj => by
    have := at3 i _ (Array.getElem?_eq_getElem his)
    rw [if_neg (fun hb => by have := Nat.le_of_ble_eq_true hb; omega)] at this
    exact List.all_eq_true.1 this j (List.mem_range.2 hj)
  have hr : ∀ k, n ≤ k → k < l.toArray.size → Region.ready .any l.toArray (upto l.toArray.size k) = [k] := fun k hk hks => by
    have := List.all_eq_true.1 b4 k (List.mem_range.2 hks)
    simp only [Bool.or_eq_true] at this
    rcases this with h' | h'
    · have := Nat.le_of_ble_eq_true h'; omega
    · split at h'
      · rename_i k' he
        rw [he, Nat.eq_of_beq_eq_true h']
      · cases h'
  have he : Region.ready .any l.toArray (upto l.toArray.size l.toArray.size) = [] := by simpa using b5
  simp only [Region.lexB, Bool.and_eq_true] at b2
  have hdl : (l.drop n).length = l.toArray.size - n := by simp
  have hlen : (l.take n).length = n := by simp; omega
  refine wpR_region_any (by simpa using hnd) hQ hm ?_
  have quiet := anyY_lex (md := .any) (same_storeY P w0 R) b2.1 (l.take n) 0 (Array.replicate (l.take n).toArray.size false) a (by simp) (by simpa using b2.2) h
  have key := store_any (P := P) (md := .any) (ops := l.toArray) (pre := (l.take n).toArray) (n := n) (s := (l.drop n).length) (i0 := i0) (Q := Q) (Q1 := Q1) (w0 := w0) (R := R)
    hR hn hP hA hE hG h0 hS hS0 hLd
    (fun a1 w1 hw1 q1 => one_any hr he (l.drop n) n (Nat.le_refl _) (by rw [hdl]; omega) (fun j => by simp) a1 w1
      (last a1 w1 hw1 q1))
  have hcnt : cnt n (Array.replicate (l.take n).toArray.size false) = (l.take n).length := by
    unfold cnt
    rw [List.countP_eq_length.2]
    · rw [hlen]; simp
    · intro j hj
      have := List.mem_range.1 hj
      have h2 : j < (l.take n).toArray.size := by simp; omega
      simp only [Array.getD_eq_getD_getElem?, Array.getElem?_replicate]
      rw [if_pos h2]; rfl
  have hsame : ∀ j, j < n → (Array.replicate l.toArray.size false)[j]? = (Array.replicate (l.take n).toArray.size false)[j]? := fun j hj => by
    have h1 : j < l.length := by omega
    have h2 : j < (l.take n).length := by omega
    simp only [Array.getElem?_replicate]
    rw [if_pos (by simpa using h1), if_pos (by simpa using h2)]
  have hclosed : Closed l.toArray .any (Array.replicate l.toArray.size false) := fun (k : Nat) o hk => by
    simp only [Array.getD_eq_getD_getElem?, Array.getElem?_replicate] at hk
    split at hk <;> simp at hk
  have e : (l.take n).length + (l.drop n).length = l.toArray.size := by rw [hlen, hdl]; omega
  have := key (l.take n).length (Array.replicate l.toArray.size false) (Array.replicate (l.take n).toArray.size false) a { w with drawn := w.drawn + 1 } (fun _ => hw.draw) (fun h3 => by
    simp only [Array.getElem?_replicate] at h3
    split at h3 <;> simp at h3) (by simp; omega) (by simp)
    hsame (fun j _ hj => by simp only [Array.getElem?_replicate]; rw [if_pos hj]) hcnt hclosed quiet
  rwa [e] at this
end

section
variable {P : Program} {N : Fr} {m : Env} {w : World}
/-- Operations without guards: loads, which yield the same in every world that has grown from w, and others, which yield the same in every world; K is known of the frame behind them. -/
def YsS (P : Program) (N : Fr) (w : World) (K : Env → Prop) : List Oper → Env → Prop
  | [], m => K m
  | o :: r, m => ∃ d v, o.dst = some d ∧ Nat.ble (d + 1) N.n = true ∧ o.guard = none ∧ isStore o = false ∧ (if isLoad o then Yl P N m w o v else ∀ w', Yl P N m w' o v) ∧ YsS P N w K r ((d, v) :: m)
theorem YsS.nil {K : Env → Prop} {l : List Oper} (hl : l = []) (h : K m) : YsS P N w K l m := by subst hl; exact h
theorem YsS.pure {K : Env → Prop} {o : Oper} {r : List Oper} {d : Nat} {v : Value} (h1 : o.dst = some d) (h2 : Nat.ble (d + 1) N.n = true) (h4 : o.guard = none) (h3 : isStore o = false) (hl : isLoad o = false) (h5 : ∀ w', Yl P N m w' o v) (h6 : YsS P N w K r ((d, v) :: m)) : YsS P N w K (o :: r) m :=
  ⟨d, v, h1, h2, h4, h3, by rw [hl]; exact h5, h6⟩
theorem YsS.load {K : Env → Prop} {o : Oper} {r : List Oper} {d : Nat} {v : Value} (h1 : o.dst = some d) (h2 : Nat.ble (d + 1) N.n = true) (h4 : o.guard = none) (h3 : isStore o = false) (hl : isLoad o = true) (h5 : Yl P N m w o v) (h6 : YsS P N w K r ((d, v) :: m)) : YsS P N w K (o :: r) m :=
  ⟨d, v, h1, h2, h4, h3, by rw [hl]; exact h5, h6⟩
theorem listY_yss {ops : Array Oper} {Q : Act → Prop} {R : World → Prop} {K : Env → Prop} (hQ : ∀ M a, K M → Agree N M a → Q a) : ∀ (l : List Oper) (m : Env) (a : Act), YsS P N w K l m → Agree N m a → listY ops (storeY P w R) Q l a
  | [], m, a, h, ha => hQ m a h ha
  | o :: r, m, a, h, ha => by
    obtain ⟨d, v, h1, h2, h4, h3, h5, h6⟩ := h
    unfold listY
    rw [if_pos (by unfold Region.wanted; rw [h4])]
    refine ⟨v, ?_, ?_⟩
    · unfold storeY
      rw [h3, if_neg Bool.false_ne_true]
      split at h5
      · rename_i hl
        rw [if_pos hl]
        exact fun w1 hw1 => h5.out a w1 ha hw1
      · rename_i hl
        rw [if_neg hl]
        exact fun w1 => (h5 w1).out a w1 ha (Ext.refl _)
    · rw [h1]
      exact listY_yss hQ r _ _ h6 (ha.put (Nat.le_of_ble_eq_true h2) v)
/-- The store of a region: what it leaves, run alone. -/
theorem V_store (n i0 : Nat) {Q : Exit → Env → World → Prop} {id : Nat} {l : List Oper} {t : TypeId} {x y : Operand} {ty : TypeId} {pos : String} {after : Array Edge} {R : World → Prop}
    (hR : ∀ w w', Ext w w' → R w → R w') (hm : P.follows .mixedOrders = true) (ho : l.take n = l.take i0 ++ ⟨none, .store t x y, ty, pos, after, none⟩ :: (l.take n).drop (i0 + 1)) (hB : storeB l.toArray n i0 = true)
    (h : YsS P N w (fun M1 => (∀ a, Agree N M1 a → ∀ w', Ext w w' → ∃ w'', (execOp a.eval ⟨none, .store t x y, ty, pos, after, none⟩).run P w' = .ok .skip w'' ∧ R w'') ∧
      YsS P N w (fun M2 => ∀ w2, R w2 → Ops P N l.toArray false (fun m w => Q .normal m w) (l.drop n) M2 w2) ((l.take n).drop (i0 + 1)) M1) (l.take i0) m)
    (hnd : NoDef N.ro l := by first | exact .inl rfl | exact .inr (by kernel_rfl)) :
    V P N (.region id l.toArray true) Q m w := by
  refine ⟨fun a w' ha hw => wpR_mono (Q := fun e a w => e = .normal ∧ lift N Q .normal a w) (fun e a w ⟨h1, h2⟩ => by rw [h1]; exact h2) ?_⟩
  refine wp_store (w0 := w) (R := R) hR hnd noLet hm hB hw (Q1 := fun a' => ∃ M2, (∀ w2, R w2 → Ops P N l.toArray false (fun m w => Q .normal m w) (l.drop n) M2 w2) ∧ Agree N M2 a') ?_ ?_
  · generalize hL : (l.take n).toArray = A
    rw [ho]
    refine listY_append _ _ _ (listY_yss (fun M1 a1 ⟨hst, h2⟩ ag1 => ?_) _ _ _ h ha)
    unfold listY
    rw [if_pos (by unfold Region.wanted; rfl)]
    refine ⟨undef, ?_, ?_⟩
    · unfold storeY
      rw [if_pos (show isStore _ = true from rfl)]
      exact ⟨rfl, hst a1 ag1⟩
    · exact listY_yss (fun M2 _ h3 ag2 => ⟨M2, h3, ag2⟩) _ _ _ h2 (ag1.put_none _)
  · rintro a1 w1 hR1 ⟨M2, h, ag⟩
    have h5 := (h w1 hR1).out a1 w1 ag (Ext.refl _)
    have mono : ∀ (l' : List Oper) (a : Act) (w0 : World), wpList P l.toArray (fun e a' w'' => e = .normal ∧ ∃ m' w1, Q .normal m' w1 ∧ Agree N m' a' ∧ Ext w1 w'') l' a w0 → wpList P l.toArray (fun e a w => e = .normal ∧ lift N Q .normal a w) l' a w0 := by
      intro l'
      induction l' with
      | nil => exact fun a w0 ⟨_, m', w1, q, ag, ex⟩ => ⟨rfl, m', w1, q, ag, ex⟩
      | cons o r ih =>
        intro a w0 h6
        unfold wpList at h6 ⊢
        split
        · rename_i hwn
          rw [if_pos hwn] at h6
          rcases h6 with h6 | h6
          · exact .inl (wp_normal (fun a1 w1 hh => ih a1 w1 hh) h6)
          · obtain ⟨_, _, _, h7, _⟩ := h6; cases h7
        · rename_i hwn
          rw [if_neg hwn] at h6
          exact ih _ _ h6
    exact mono _ _ _ h5
/-- A store, run by itself. -/
theorem store_run {t t0 : TypeId} {x y : Operand} {b o : Nat} {cs vs out : List Value} {v : Value} {n0 b0 : Nat} {ty : TypeId} {pos : String} {after : Array Edge} {g : Option (Nat × Bool)} [hs : TSize P t n0 b0]
    (hx : ev m x = some (.pointer (some ⟨b, o, none⟩))) (hy : ev m y = some v) (hB : Blk w b t0 cs) [hv : TCells v vs] [hl : TLen vs n0] [hp : TSplice o vs cs out] (h1 : vs.all (fun u => u.oneCell') = true)
    (a : Act) (ha : Agree N m a) (w' : World) (hw : Ext w w') : ∃ w'', (execOp a.eval ⟨none, .store t x y, ty, pos, after, g⟩).run P w' = .ok .skip w'' ∧ ∃ w1, Upd w w1 b t0 out ∧ Ext w1 w'' := by
  obtain ⟨inf, hi, hsz⟩ := Option.map_eq_some_iff.1 hs.h
  simp only [Prod.mk.injEq] at hsz
  have hlen := hl.h
  have ho := hp.len
  have hst := run_storeCells_at P b o t0 vs 0 cs.toArray w' (hB.ext hw) (by simpa using ho) (List.all_eq_true.1 h1)
  simp only [Nat.add_zero] at hst
  have e : out = splice cs o vs := by rw [← hp.h]; exact over_splice _ _ _ ho
  refine ⟨w'.setRow b out.toArray, ?_, w.setRow b out.toArray, Upd.of hB, ext_setRow hw _⟩
  rw [e]
  simp only [execOp, ha.ev hx, ha.ev hy, Instr.storeAt, Instr.sureAddr, storeVar, sizeOf, typeInfo]
  simp [hi, hsz.1, hv.h, hlen, hst, splice]
/-- A store of a whole element of a slice of one's own, run by itself. -/
theorem storeElem_run {t e : TypeId} {x y : Operand} {base b0 n0 g cap i : Nat} {p : Addr} {v : Value} {u : List Value} {L : List (List Value)} {ty : TypeId} {pos : String} {after : Array Edge} {gd : Option (Nat × Bool)} [hs : TSize P t n0 b0]
    (hx : ev m x = some (.pointer (some p))) (hy : ev m y = some v) (hp : p = ⟨g, i * n0, none⟩) (hown : Own w base e n0 (.slice (some ⟨g, 0, none⟩) L.length cap) L) (hi : i < L.length) [hu : TCells v u] [hl : TLen u n0] (h1 : u.all (fun u => u.oneCell') = true)
    (a : Act) (ha : Agree N m a) (w' : World) (hw : Ext w w') : ∃ w'', (execOp a.eval ⟨none, .store t x y, ty, pos, after, gd⟩).run P w' = .ok .skip w'' ∧ Own w'' base e n0 (.slice (some ⟨g, 0, none⟩) L.length cap) (L.set i u) ∧ Mod (fun c => c = g) w w'' := by
  subst hp
  obtain ⟨hlen, ⟨h2, _⟩ | ⟨g', cap', cur, h2, h3, h4, h5, h6, h7, h8⟩⟩ := hown.row
  · cases h2
  cases h2
  have hB : Blk w g e cur.toList := by unfold Blk; simpa using h4
  have ho : i * n0 + n0 ≤ L.length * n0 := by
    have : (i + 1) * n0 ≤ L.length * n0 := Nat.mul_le_mul_right _ hi
    rw [Nat.succ_mul] at this; omega
  have hc : cur.toList.length = cap * n0 := by simpa using h7
  have hlc : L.length * n0 ≤ cap * n0 := Nat.mul_le_mul_right _ h5
  have hul := hl.h
  have : TSplice (i * n0) u cur.toList (splice cur.toList (i * n0) u) := ⟨over_splice _ _ _ (by omega), by omega⟩
  have hsl : (splice cur.toList (i * n0) u).length = cur.toList.length := by unfold splice; simp only [List.length_append, List.length_take, List.length_drop]; omega
  obtain ⟨w2, hr, w1, hu1, he⟩ := store_run (P := P) (N := N) (t := t) (ty := ty) (pos := pos) (after := after) (g := gd) (vs := u) hx hy hB h1 a ha w' hw
  refine ⟨w2, hr, Own.ext ⟨⟨?_, .inr ⟨g, cap, _, by rw [List.length_set], h3, hu1.blk, ?_, h6, ?_, ?_⟩⟩, ?_⟩ he, ((Mod.of_ext (S := fun c => c = g) (Ext.refl _)).upd hu1 (.inl rfl)).ext he⟩
  · rw [flatten_set_all hul L i hown.len hi, List.length_set]
    unfold splice; simp only [List.length_append, List.length_take, List.length_drop]; omega
  · rw [List.length_set]; exact h5
  · rw [← hc, ← hsl]; simp
  · rw [flatten_set_all hul L i hown.len hi, List.length_set, ← h8]
    unfold splice
    have e1 : (List.take (i * n0) cur.toList ++ u).length = i * n0 + n0 := by simp; omega
    rw [List.take_append, e1, List.take_of_length_le (by omega), List.take_take, Nat.min_eq_left (by omega), List.drop_take, hul]
  · intro z hz
    rcases List.mem_or_eq_of_mem_set hz with hz | rfl
    · exact hown.len z hz
    · exact hul
/-- One less, for a number that is not 0. -/
theorem Yl_pred {t t' : TypeId} {x y : Operand} {p : Nat} {dst : Option Tmp} {ty : TypeId} {pos : String} {after : Array Edge} {g : Option (Nat × Bool)} (hx : ev m x = some (.int .i64 ((p + 1 : Nat) : Int))) (hy : ev m y = some (.int .i64 1)) (hk : p ≤ 4611686018427387904) :
    Yl P N m w ⟨dst, .binOp .sub t x y t', ty, pos, after, g⟩ (.int .i64 (p : Int)) := by
  have h := Yl_arith_in (P := P) (N := N) (w := w) (dst := dst) (ty := ty) (pos := pos) (after := after) (g := g) (op := .sub) (t := t) (t' := t') (c := ((p + 1 : Nat) : Int) - 1) hx hy rfl (by simp only [InK]; omega)
  have e : ((p + 1 : Nat) : Int) - 1 = (p : Int) := by omega
  rwa [e] at h
end
end Go.Proofs.Ytjpnaofoeeegeaa


/-
  Sorting words (slices.Sort at uint64): the list in memory; Less, insertionSort, reverseRange, siftDown, heapSort.
  Conditions: the list is one's own, and not too long for a machine.
-/
namespace Go.Proofs.Ytjpnaofoeeegeaa
open Go.RowKit

theorem Ret_w {v v' : Value} {w w1 : World} (hv : v' = v) (he : Ext w w1) : ∀ w', Ext w1 w' → Ret v w (.returned v') w' := fun _ h => ⟨by rw [hv], he.trans h⟩
def uc (x : Int) : List Value := [.int .u64 x]
/-- A list of words of one's own in memory, by its block. -/
structure DatU (w : World) (base g n cap : Nat) (L : List Int) : Prop where
  own : Own w base 53 1 (.slice (some ⟨g, 0, none⟩) n cap) (L.map uc)
  len : L.length = n
theorem DatU.ext {w w1 : World} {base g n cap : Nat} {L : List Int} (h : DatU w base g n cap L) (he : Ext w w1) : DatU w1 base g n cap L := ⟨h.own.ext he, h.len⟩
theorem DatU.at {w : World} {base g n cap : Nat} {L : List Int} (h : DatU w base g n cap L) {k : Nat} {x : Int} (hx : L[k]? = some x) : w.cell? ((⟨g, 0, none⟩ : Addr).add (k * 1)) = some (.int .u64 x) := by
  obtain ⟨ao, c, hv, hA⟩ := h.own.slice
  obtain ⟨ad, h1, h2⟩ := hA k (uc x) (by rw [List.getElem?_map, hx]; rfl)
  injection hv with e1 e2 e3
  rw [h1] at e1
  cases e1
  have := h2 0 _ rfl
  rw [add_add, Nat.add_zero] at this; exact this
theorem DatU.get {w : World} {base g n cap : Nat} {L : List Int} (h : DatU w base g n cap L) {k : Nat} (hk : k < n) : ∃ x, L[k]? = some x := ⟨_, List.getElem?_eq_getElem (by rw [h.len]; exact hk)⟩
section
variable {P : Program} {N : Fr} {ops : Array Oper} {K : Env → World → Prop} {m : Env} {w : World} {rest : List Oper} {ty : TypeId} {pos : String} {after : Array Edge} {gd : Option (Nat × Bool)}
theorem Ops_storeDatU {x y : Operand} {base b0 g n cap i : Nat} {p : Addr} {v : Int} {L : List Int} [hs : TSize P 53 1 b0] (hon : On N ops m ⟨none, .store 53 x y, ty, pos, after, gd⟩)
    (hx : ev m x = some (.pointer (some p))) (hy : ev m y = some (.int .u64 v)) (hp : p = (⟨g, 0, none⟩ : Addr).add (i * 1)) (hD : DatU w base g n cap L) (hi : i < n)
    (h : ∀ w1, DatU w1 base g n cap (L.set i v) → w.grownBy w1 (some g) → Ops P N ops false K rest m w1) : Ops P N ops false K (⟨none, .store 53 x y, ty, pos, after, gd⟩ :: rest) m w := by
  obtain ⟨o, hl⟩ := hD
  subst hl
  have hm : (L.map uc).length = L.length := List.length_map ..
  refine Ops_storeElem (i := i) (u := uc v) (hl := ⟨rfl⟩) (hu := ⟨rfl⟩) (L := L.map uc) (base := base) (g := g) (cap := cap) hon hx hy (by rw [hp, add_blk, Nat.zero_add]; rfl) (by rw [hm]; exact o) (by rw [hm]; exact hi) rfl (fun w1 o1 g1 => h w1 ⟨?_, List.length_set ..⟩ g1)
  rw [List.map_set]
  rw [hm] at o1; exact o1
theorem storeDatU_run {x y : Operand} {base b0 g n cap i : Nat} {p : Addr} {v : Int} {L : List Int} [hs : TSize P 53 1 b0] (hx : ev m x = some (.pointer (some p))) (hy : ev m y = some (.int .u64 v)) (hp : p = (⟨g, 0, none⟩ : Addr).add (i * 1)) (hD : DatU w base g n cap L) (hi : i < n)
    (a : Act) (ha : Agree N m a) (w' : World) (hw : Ext w w') : ∃ w'', (execOp a.eval ⟨none, .store 53 x y, ty, pos, after, gd⟩).run P w' = .ok .skip w'' ∧ DatU w'' base g n cap (L.set i v) ∧ Mod (fun c => c = g) w w'' := by
  obtain ⟨o, hl⟩ := hD
  subst hl
  have hm : (L.map uc).length = L.length := List.length_map ..
  obtain ⟨w2, h1, h2, h3⟩ := storeElem_run (P := P) (N := N) (t := 53) (ty := ty) (pos := pos) (after := after) (gd := gd) (i := i) (u := uc v) (hl := ⟨rfl⟩) (hu := ⟨rfl⟩) (L := L.map uc) (base := base) (g := g) (cap := cap) hx hy (by rw [hp, add_blk, Nat.zero_add]; rfl) (by rw [hm]; exact o) (by rw [hm]; exact hi) rfl a ha w' hw
  refine ⟨w2, h1, ⟨?_, List.length_set ..⟩, h3⟩
  rw [List.map_set]
  rw [hm] at h2; exact h2
end
/-- What a function that sorts leaves. -/
def DatV (base g n cap : Nat) (R : Value → List Int → Prop) (r : Value) (w' : World) : Prop := ∃ L', DatU w' base g n cap L' ∧ R r L'
abbrev BlkU (g : Nat) : Nat → Prop := fun c => c = g
abbrev ltU : Int → Int → Int := fun x y => x - y
theorem ordU : Ord ltU := ⟨fun x y h => by simp only [ltU] at *; omega, fun x y z h1 h2 => by simp only [ltU] at *; omega⟩
theorem nanU64_v (a : Int) (w : World) : Calls Try.prog 127 #[.int .u64 a] w (Ret (.bool false) w) := by
  refine V_enter (vs := [_]) Try.func127 rfl Try.ntmps127 (Nat.le_of_ble_eq_true rfl) ?_
  repeat (first | refine Vx ?_ | (apply Ops_q; (case hon => exact Va); (case hd => rfl); (case hq => exact YlA)) | refine Vr ?_ | refine Vt ?_ | refine Vf ?_ | refine Vm ?_ | refine Ve ?_ | refine Vo ?_ | refine Vz ?_ | refine Vn ?_)
  refine ret1 (by first | exact .inl rfl | exact .inr rfl) rfl rfl ?_
  exact Ret_w (by simp) (Ext.refl _)
theorem lessU_v (a b : Int) (w : World) : Calls Try.prog 116 #[.int .u64 a, .int .u64 b] w (Ret (.bool (decide (a < b))) w) := by
  refine V_enter (vs := [_, _]) Try.func116 rfl Try.ntmps116 (Nat.le_of_ble_eq_true rfl) ?_
  repeat (first | refine Vx ?_ | (apply Ops_q; (case hon => exact Va); (case hd => rfl); (case hq => exact YlA)) | refine Vr ?_ | refine Vt ?_ | refine Vf ?_ | refine Vm ?_ | refine Ve ?_ | refine Vo ?_ | refine Vz ?_ | refine Vn ?_)
  (apply Ops_q; (case hon => (exact Va)); (case hd => rfl); (case hq => exact Yl_call rfl (fun w_ e_ => nanU64_v a w_)))
  repeat (first | refine Vx ?_ | (apply Ops_q; (case hon => exact Va); (case hd => rfl); (case hq => exact YlA)) | refine Vr ?_ | refine Vt ?_ | refine Vf ?_ | refine Vm ?_ | refine Ve ?_ | refine Vo ?_ | refine Vz ?_ | refine Vn ?_)
  refine ret1 (by first | exact .inl rfl | exact .inr rfl) rfl rfl ?_
  exact Ret_w rfl (Ext.refl _)
section
variable {base g n cap : Nat}
set_option maxHeartbeats 1000000 in
theorem insertionU_v (L : List Int) (a b : Nat) (w : World) (hD : DatU w base g n cap L) (hn : n ≤ 1000000000000) (hb : b ≤ n) (ha : a ≤ n) :
    Calls Try.prog 110 #[.slice (some ⟨g, 0, none⟩) n cap, .int .i64 a, .int .i64 b] w
      (Does (BlkU g) (DatV base g n cap (fun r L' => r = .tuple #[] ∧ Moved L L' a b ∧ Asc ltU L' a b)) w) := by
  refine V_enter (vs := [_, _, _]) Try.func110 rfl Try.ntmps110 (Nat.le_of_ble_eq_true rfl) ?_
  repeat (first | refine Vx ?_ | (apply Ops_q; (case hon => exact Va); (case hd => rfl); (case hq => exact YlA)) | refine Vr ?_ | refine Vt ?_ | refine Vf ?_ | refine Vm ?_ | refine Ve ?_ | refine Vo ?_ | refine Vz ?_ | refine Vn ?_)
  refine V_loop (fun s : Nat × List Int => [(6, .int .i64 s.1), (0, .slice (some ⟨g, 0, none⟩) n cap), (1, .int .i64 a), (2, .int .i64 b)])
    (fun s w' => a + 1 ≤ s.1 ∧ (s.1 ≤ b ∨ s.1 = a + 1) ∧ Mod (BlkU g) w w' ∧ DatU w' base g n cap s.2 ∧ Moved L s.2 a b ∧ Asc ltU s.2 a s.1) (fun s => b - s.1) (a + 1, L) (by repeat (first | exact trivial | refine ⟨rfl, ?_⟩))
    ⟨Nat.le_refl _, .inr rfl, .of_ext (Ext.refl _), hD, Moved.refl .., Asc.one (Nat.le_refl _)⟩ ?_
  rintro ⟨i, M⟩ w3 ⟨h1, h2, m3, D3, hM, hA⟩
  dsimp only at h1 h2 D3 hM hA ⊢
  repeat (first | refine Vx ?_ | (apply Ops_q; (case hon => exact Va); (case hd => rfl); (case hq => exact YlA)) | refine Vr ?_ | refine Vt ?_ | refine Vf ?_ | refine Vm ?_ | refine Ve ?_ | refine Vo ?_ | refine Vz ?_ | refine Vn ?_)
  refine V_cond rfl (fun hg => ?_) (fun hg => ?_)
  · replace hg := of_decide_eq_true hg
    have hib : i < b := by omega
    repeat (first | refine Vx ?_ | (apply Ops_q; (case hon => exact Va); (case hd => rfl); (case hq => exact YlA)) | refine Vr ?_ | refine Vt ?_ | refine Vf ?_ | refine Vm ?_ | refine Ve ?_ | refine Vo ?_ | refine Vz ?_ | refine Vn ?_)
    refine V_loop (fun s : Nat × List Int => [(7, .int .i64 s.1), (6, .int .i64 i), (0, .slice (some ⟨g, 0, none⟩) n cap), (1, .int .i64 a), (2, .int .i64 b)])
      (fun s w' => a ≤ s.1 ∧ s.1 ≤ i ∧ Mod (BlkU g) w w' ∧ DatU w' base g n cap s.2 ∧ Moved L s.2 a b ∧ AscX ltU s.2 a (i + 1) s.1) (fun s => s.1) (i, M) (by repeat (first | exact trivial | refine ⟨rfl, ?_⟩))
      ⟨by dsimp only; omega, Nat.le_refl _, m3, D3, hM, AscX.start hA⟩ ?_
    clear m3 D3 hM hA
    rintro ⟨j, M⟩ w3 ⟨h3, h4, m3, D3, hM, hA⟩
    dsimp only at h3 h4 D3 hM hA ⊢
    have hMl := D3.len
    by_cases hj : a < j
    · obtain ⟨p, rfl⟩ : ∃ p, j = p + 1 := ⟨j - 1, by omega⟩
      have hd : decide ((a : Int) < ((p + 1 : Nat) : Int)) = true := decide_eq_true (by omega)
      have hs1 : ((p + 1 : Nat) : Int) - 1 = (p : Int) := by omega
      obtain ⟨x, hx⟩ := D3.get (k := p + 1) (by omega)
      obtain ⟨y, hy⟩ := D3.get (k := p) (by omega)
      have hcx := D3.at hx
      have hcy := D3.at hy
      repeat (first | refine Vx ?_ | (apply Ops_q; (case hon => exact Va); (case hd => rfl); (case hq => exact YlA)) | refine Vr ?_ | refine Vt ?_ | refine Vf ?_ | refine Vm ?_ | refine Ve ?_ | refine Vo ?_ | refine Vz ?_ | refine Vn ?_)
      refine Ops_know rfl rfl hd ?_
      repeat (first | refine Vx ?_ | (apply Ops_q; (case hon => exact Va); (case hd => rfl); (case hq => exact YlA)) | refine Vr ?_ | refine Vt ?_ | refine Vf ?_ | refine Vm ?_ | refine Ve ?_ | refine Vo ?_ | refine Vz ?_ | refine Vn ?_)
      (apply Ops_q; (case hon => (exact Va)); (case hd => rfl); (case hq => exact Yl_indexS (j := (p+1)) rfl rfl (by omega)))
      repeat (first | refine Vx ?_ | (apply Ops_q; (case hon => exact Va); (case hd => rfl); (case hq => exact YlA)) | refine Vr ?_ | refine Vt ?_ | refine Vf ?_ | refine Vm ?_ | refine Ve ?_ | refine Vo ?_ | refine Vz ?_ | refine Vn ?_)
      rw [hs1]
      (apply Ops_q; (case hon => (exact Va)); (case hd => rfl); (case hq => exact Yl_indexS (j := p) rfl rfl (by omega)))
      repeat (first | refine Vx ?_ | (apply Ops_q; (case hon => exact Va); (case hd => rfl); (case hq => exact YlA)) | refine Vr ?_ | refine Vt ?_ | refine Vf ?_ | refine Vm ?_ | refine Ve ?_ | refine Vo ?_ | refine Vz ?_ | refine Vn ?_)
      (apply Ops_q; (case hon => (exact Va)); (case hd => rfl); (case hq => exact Yl_call rfl (fun w_ e_ => lessU_v x y w_)))
      repeat (first | refine Vx ?_ | (apply Ops_q; (case hon => exact Va); (case hd => rfl); (case hq => exact YlA)) | refine Vr ?_ | refine Vt ?_ | refine Vf ?_ | refine Vm ?_ | refine Ve ?_ | refine Vo ?_ | refine Vz ?_ | refine Vn ?_)
      refine V_cond rfl (fun hlt => ?_) (fun hlt => ?_)
      · replace hlt : ltU x y < 0 := by have := of_decide_eq_true hlt; simp only [ltU]; omega
        repeat (first | refine Vx ?_ | (apply Ops_q; (case hon => exact Va); (case hd => rfl); (case hq => exact YlA)) | refine Vt ?_ | refine Vf ?_ | refine Vm ?_ | refine Ve ?_ | refine Vo ?_ | refine Vz ?_ | refine Vn ?_)
        refine V_store (R := fun w' => DatU w' base g n cap (M.set (p + 1) y) ∧ Mod (fun c => c = g) w3 w') 16 15 (fun _ _ he h => ⟨h.1.ext he, h.2.ext he⟩) (by kernel_rfl) rfl (by kernel_rfl) ?_
        repeat (first
          | (refine YsS.pure rfl rfl rfl rfl rfl (fun w_ => (by first | exact Yl_move rfl | exact Yl_pred rfl rfl (by omega) | exact Yl_arith_in rfl rfl rfl (by first | assumption | (simp only [InK]; omega)))) ?_)
          | (refine YsS.load rfl rfl rfl rfl rfl (by first | exact Yl_load rfl hcx | exact Yl_load rfl hcy) ?_))
        refine YsS.pure rfl rfl rfl rfl rfl (fun w_ => Yl_indexS (j := p) rfl rfl (by omega)) ?_
        repeat (first
          | (refine YsS.pure rfl rfl rfl rfl rfl (fun w_ => (by first | exact Yl_move rfl | exact Yl_pred rfl rfl (by omega) | exact Yl_arith_in rfl rfl rfl (by first | assumption | (simp only [InK]; omega)))) ?_)
          | (refine YsS.load rfl rfl rfl rfl rfl (by first | exact Yl_load rfl hcx | exact Yl_load rfl hcy) ?_))
        refine YsS.pure rfl rfl rfl rfl rfl (fun w_ => Yl_indexS (j := (p+1)) rfl rfl (by omega)) ?_
        repeat (first
          | (refine YsS.pure rfl rfl rfl rfl rfl (fun w_ => (by first | exact Yl_move rfl | exact Yl_pred rfl rfl (by omega) | exact Yl_arith_in rfl rfl rfl (by first | assumption | (simp only [InK]; omega)))) ?_)
          | (refine YsS.load rfl rfl rfl rfl rfl (by first | exact Yl_load rfl hcx | exact Yl_load rfl hcy) ?_))
        refine YsS.pure rfl rfl rfl rfl rfl (fun w_ => Yl_indexS (j := (p+1)) rfl rfl (by omega)) ?_
        refine YsS.nil rfl ⟨fun a_ ag_ w_ hw_ => storeDatU_run (i := p+1) (v := y) rfl rfl rfl D3 (by omega) a_ ag_ w_ hw_, ?_⟩
        repeat (first
          | (refine YsS.pure rfl rfl rfl rfl rfl (fun w_ => (by first | exact Yl_move rfl | exact Yl_pred rfl rfl (by omega) | exact Yl_arith_in rfl rfl rfl (by first | assumption | (simp only [InK]; omega)))) ?_)
          | (refine YsS.load rfl rfl rfl rfl rfl (by first | exact Yl_load rfl hcx | exact Yl_load rfl hcy) ?_))
        refine YsS.nil rfl ?_
        rintro w4 ⟨D4, m4⟩
        repeat (first | refine Vx ?_ | (apply Ops_q; (case hon => exact Va); (case hd => rfl); (case hq => exact YlA)) | refine Vr ?_ | refine Vt ?_ | refine Vf ?_ | refine Vm ?_ | refine Ve ?_ | refine Vo ?_ | refine Vz ?_ | refine Vn ?_)
        (apply Ops_q; (case hon => (exact Va)); (case hd => rfl); (case hq => exact Yl_indexS (j := (p)) rfl rfl (by omega)))
        repeat (first | refine Vx ?_ | (apply Ops_q; (case hon => exact Va); (case hd => rfl); (case hq => exact YlA)) | refine Vr ?_ | refine Vt ?_ | refine Vf ?_ | refine Vm ?_ | refine Ve ?_ | refine Vo ?_ | refine Vz ?_ | refine Vn ?_)
        refine Ops_storeDatU (i := p) (v := x) (by exact Va) rfl rfl rfl D4 (by omega) ?_
        intro w5 D5 g5
        have m5 : Mod (BlkU g) w w5 := (m3.trans m4).grow g5 (fun b hb => .inl (by cases hb; rfl))
        have hsw : (M.set (p+1) y).set (p) x = swp M (p+1) (p) := by unfold swp; rw [hx, hy]
        rw [hsw] at D5
        repeat (first | refine Vx ?_ | (apply Ops_q; (case hon => exact Va); (case hd => rfl); (case hq => exact YlA)) | refine Vr ?_ | refine Vt ?_ | refine Vf ?_ | refine Vm ?_ | refine Ve ?_ | refine Vo ?_ | refine Vz ?_ | refine Vn ?_)
        rw [hs1]
        refine ⟨(p, swp M (p + 1) p), (by repeat (first | exact trivial | refine ⟨rfl, ?_⟩)), ⟨by dsimp only; omega, by dsimp only; omega, m5, D5, hM.trans (Moved.swp (by omega) (by omega) (by omega)), hA.step ordU (by omega) (by omega) (by omega) hx hy hlt⟩, by simp only; omega⟩
      · replace hlt : ¬ltU x y < 0 := by have := of_decide_eq_false hlt; simp only [ltU]; omega
        repeat (first | refine Vx ?_ | (apply Ops_q; (case hon => exact Va); (case hd => rfl); (case hq => exact YlA)) | refine Vr ?_ | refine Vt ?_ | refine Vf ?_ | refine Vm ?_ | refine Ve ?_ | refine Vo ?_ | refine Vz ?_ | refine Vn ?_)
        refine ⟨(i + 1, M), (by repeat (first | exact trivial | refine ⟨rfl, ?_⟩)), ⟨by dsimp only; omega, .inl (by dsimp only; omega), m3, D3, hM, hA.stop ordU (.inr ⟨x, y, hx, hy, hlt⟩)⟩, by simp only; omega⟩
    · have hd : decide ((a : Int) < (j : Int)) = false := decide_eq_false (by omega)
      repeat (first | refine Vx ?_ | (apply Ops_q; (case hon => exact Va); (case hd => rfl); (case hq => exact YlA)) | refine Vr ?_ | refine Vt ?_ | refine Vf ?_ | refine Vm ?_ | refine Ve ?_ | refine Vo ?_ | refine Vz ?_ | refine Vn ?_)
      refine Ops_know rfl rfl hd ?_
      repeat (first | refine Vx ?_ | (apply Ops_q; (case hon => exact Va); (case hd => rfl); (case hq => exact YlA)) | refine Vr ?_ | refine Vt ?_ | refine Vf ?_ | refine Vm ?_ | refine Ve ?_ | refine Vo ?_ | refine Vz ?_ | refine Vn ?_)
      refine ⟨(i + 1, M), (by repeat (first | exact trivial | refine ⟨rfl, ?_⟩)), ⟨by dsimp only; omega, .inl (by dsimp only; omega), m3, D3, hM, hA.stop ordU (.inl (by omega))⟩, by simp only; omega⟩
  · replace hg := of_decide_eq_false hg
    repeat (first | refine Vx ?_ | (apply Ops_q; (case hon => exact Va); (case hd => rfl); (case hq => exact YlA)) | refine Vr ?_ | refine Vt ?_ | refine Vf ?_ | refine Vm ?_ | refine Ve ?_ | refine Vo ?_ | refine Vz ?_ | refine Vn ?_)
    refine ret0 (by first | exact .inl rfl | exact .inr rfl) rfl ?_
    refine Does_mk (fun w' he => ⟨M, D3.ext he, rfl, hM, ?_⟩) m3
    exact hA.part (Nat.le_refl _) (by omega)
end
end Go.Proofs.Ytjpnaofoeeegeaa


/-
  Sorting words (slices.Sort at uint64): order2, median, choosePivot, reverseRange.
  Conditions: the list is one's own, and not too long for a machine.
-/
namespace Go.Proofs.Ytjpnaofoeeegeaa
open Go.RowKit

section
variable {base g n cap : Nat}
/-- The count of swaps: a number in a block of its own. -/
def Swaps (w : World) (bs : Nat) (k : Int) : Prop := Blk w bs 3 [.int .i64 k] ∧ 0 ≤ k
/-- What a function that counts swaps leaves. -/
def SwR (bs : Nat) (k : Int) (R : Value → Prop) (r : Value) (w' : World) : Prop := R r ∧ ∃ k', Swaps w' bs k' ∧ k' ≤ k
theorem order2_v (L : List Int) (a b bs : Nat) (k : Int) (w : World) (hD : DatU w base g n cap L) (hs : Swaps w bs k) (hk : k ≤ 1000) (ha : a < n) (hb : b < n) :
    Calls Try.prog 128 #[.slice (some ⟨g, 0, none⟩) n cap, .int .i64 a, .int .i64 b, .pointer (some ⟨bs, 0, none⟩)] w
      (Does (fun c => c = bs) (SwR bs (k + 1) (fun r => r = .tuple #[.int .i64 a, .int .i64 b] ∨ r = .tuple #[.int .i64 b, .int .i64 a])) w) := by
  obtain ⟨kb, k0⟩ := hs
  obtain ⟨x, hx⟩ := hD.get ha
  obtain ⟨y, hy⟩ := hD.get hb
  have hcx := hD.at hx
  have hcy := hD.at hy
  refine V_enter (vs := [_, _, _, _]) Try.func128 rfl Try.ntmps128 (Nat.le_of_ble_eq_true rfl) ?_
  repeat (first | refine Vx ?_ | (apply Ops_q; (case hon => exact Va); (case hd => rfl); (case hq => exact YlA)) | refine Vr ?_ | refine Vt ?_ | refine Vf ?_ | refine Vm ?_ | refine Ve ?_ | refine Vo ?_ | refine Vz ?_ | refine Vn ?_)
  (apply Ops_q; (case hon => (exact Va)); (case hd => rfl); (case hq => exact Yl_indexS (j := b) rfl rfl (by omega)))
  repeat (first | refine Vx ?_ | (apply Ops_q; (case hon => exact Va); (case hd => rfl); (case hq => exact YlA)) | refine Vr ?_ | refine Vt ?_ | refine Vf ?_ | refine Vm ?_ | refine Ve ?_ | refine Vo ?_ | refine Vz ?_ | refine Vn ?_)
  (apply Ops_q; (case hon => (exact Va)); (case hd => rfl); (case hq => exact Yl_indexS (j := a) rfl rfl (by omega)))
  repeat (first | refine Vx ?_ | (apply Ops_q; (case hon => exact Va); (case hd => rfl); (case hq => exact YlA)) | refine Vr ?_ | refine Vt ?_ | refine Vf ?_ | refine Vm ?_ | refine Ve ?_ | refine Vo ?_ | refine Vz ?_ | refine Vn ?_)
  (apply Ops_q; (case hon => (exact Va)); (case hd => rfl); (case hq => exact Yl_call rfl (fun w_ e_ => lessU_v y x w_)))
  repeat (first | refine Vx ?_ | (apply Ops_q; (case hon => exact Va); (case hd => rfl); (case hq => exact YlA)) | refine Vr ?_ | refine Vt ?_ | refine Vf ?_ | refine Vm ?_ | refine Ve ?_ | refine Vo ?_ | refine Vz ?_ | refine Vn ?_)
  refine V_cond rfl (fun h => ?_) (fun h => ?_)
  · repeat (first | refine Vx ?_ | (apply Ops_q; (case hon => exact Va); (case hd => rfl); (case hq => exact YlA)) | refine Vr ?_ | refine Vt ?_ | refine Vf ?_ | refine Vm ?_ | refine Ve ?_ | refine Vo ?_ | refine Vz ?_ | refine Vn ?_)
    (refine Ops_store (by exact Va) rfl rfl kb (by rfl) ?_; intro w1 u1)
    have m1 : Mod (fun c => c = bs) w w1 := (Mod.of_ext (S := fun c => c = bs) (Ext.refl _)).upd u1 (.inl rfl)
    repeat (first | refine Vx ?_ | (apply Ops_q; (case hon => exact Va); (case hd => rfl); (case hq => exact YlA)) | refine Vr ?_ | refine Vt ?_ | refine Vf ?_ | refine Vm ?_ | refine Ve ?_ | refine Vo ?_ | refine Vz ?_ | refine Vn ?_)
    refine ret2 (by first | exact .inl rfl | exact .inr rfl) rfl rfl rfl ?_
    exact Does_mk (fun w' he => ⟨.inr rfl, k + 1, ⟨u1.blk.ext he, by omega⟩, Int.le_refl _⟩) m1
  · repeat (first | refine Vx ?_ | (apply Ops_q; (case hon => exact Va); (case hd => rfl); (case hq => exact YlA)) | refine Vr ?_ | refine Vt ?_ | refine Vf ?_ | refine Vm ?_ | refine Ve ?_ | refine Vo ?_ | refine Vz ?_ | refine Vn ?_)
    refine ret2 (by first | exact .inl rfl | exact .inr rfl) rfl rfl rfl ?_
    exact Does_mk (fun w' he => ⟨.inl rfl, k, ⟨kb.ext he, k0⟩, by omega⟩) (.of_ext (Ext.refl _))
theorem DatU.mod {w w1 : World} {L : List Int} {S : Nat → Prop} (h : DatU w base g n cap L) (hm : Mod S w w1) (hs : ¬S g) : DatU w1 base g n cap L := ⟨hm.own h.own (fun b hb => by cases hb; exact hs), h.len⟩
theorem median_v (L : List Int) (a b c bs lo hi : Nat) (k : Int) (w : World) (hD : DatU w base g n cap L) (hs : Swaps w bs k) (hk : k ≤ 900) (hne : g ≠ bs) (hhi : hi ≤ n) (ha : lo ≤ a ∧ a < hi) (hb : lo ≤ b ∧ b < hi) (hc : lo ≤ c ∧ c < hi) :
    Calls Try.prog 126 #[.slice (some ⟨g, 0, none⟩) n cap, .int .i64 a, .int .i64 b, .int .i64 c, .pointer (some ⟨bs, 0, none⟩)] w
      (Does (fun c => c = bs) (SwR bs (k + 3) (fun r => ∃ p : Nat, r = .int .i64 p ∧ lo ≤ p ∧ p < hi)) w) := by
  refine V_enter (vs := [_, _, _, _, _]) Try.func126 rfl Try.ntmps126 (Nat.le_of_ble_eq_true rfl) ?_
  repeat (first | refine Vx ?_ | (apply Ops_q; (case hon => exact Va); (case hd => rfl); (case hq => exact YlA)) | refine Vr ?_ | refine Vt ?_ | refine Vf ?_ | refine Vm ?_ | refine Ve ?_ | refine Vo ?_ | refine Vz ?_ | refine Vn ?_)
  refine Ops_callM (S := fun c => c = bs) (R := fun _ => SwR bs (k + 1) (fun r => r = .tuple #[.int .i64 a, .int .i64 b] ∨ r = .tuple #[.int .i64 b, .int .i64 a])) (by exact Va) rfl rfl (fun w_ e_ => order2_v L a b bs k w_ (hD.ext e_) ⟨hs.1.ext e_, hs.2⟩ (by omega) (by omega) (by omega)) ?_
  intro r w1 w0_ e0w1 mw1 hR
  obtain ⟨hr, k1, sw1, hw1⟩ := hR
  have Dw1 := (hD.ext e0w1).mod mw1 (fun e => hne e)
  obtain ⟨pw1, qw1, hpqw1, rfl⟩ : ∃ p q : Nat, ((p = a ∧ q = b) ∨ (p = b ∧ q = a)) ∧ r = .tuple #[.int .i64 p, .int .i64 q] := by
    rcases hr with rfl | rfl
    · exact ⟨_, _, .inl ⟨rfl, rfl⟩, rfl⟩
    · exact ⟨_, _, .inr ⟨rfl, rfl⟩, rfl⟩
  repeat (first | refine Vx ?_ | (apply Ops_q; (case hon => exact Va); (case hd => rfl); (case hq => exact YlA)) | refine Vr ?_ | refine Vt ?_ | refine Vf ?_ | refine Vm ?_ | refine Ve ?_ | refine Vo ?_ | refine Vz ?_ | refine Vn ?_)
  refine Ops_callM (S := fun c => c = bs) (R := fun _ => SwR bs (k1 + 1) (fun r => r = .tuple #[.int .i64 qw1, .int .i64 c] ∨ r = .tuple #[.int .i64 c, .int .i64 qw1])) (by exact Va) rfl rfl (fun w_ e_ => order2_v L qw1 c bs k1 w_ (Dw1.ext e_) ⟨sw1.1.ext e_, sw1.2⟩ (by omega) (by omega) (by omega)) ?_
  intro r w2 w0_ e0w2 mw2 hR
  obtain ⟨hr, k2, sw2, hw2⟩ := hR
  have Dw2 := (Dw1.ext e0w2).mod mw2 (fun e => hne e)
  obtain ⟨pw2, qw2, hpqw2, rfl⟩ : ∃ p q : Nat, ((p = qw1 ∧ q = c) ∨ (p = c ∧ q = qw1)) ∧ r = .tuple #[.int .i64 p, .int .i64 q] := by
    rcases hr with rfl | rfl
    · exact ⟨_, _, .inl ⟨rfl, rfl⟩, rfl⟩
    · exact ⟨_, _, .inr ⟨rfl, rfl⟩, rfl⟩
  repeat (first | refine Vx ?_ | (apply Ops_q; (case hon => exact Va); (case hd => rfl); (case hq => exact YlA)) | refine Vr ?_ | refine Vt ?_ | refine Vf ?_ | refine Vm ?_ | refine Ve ?_ | refine Vo ?_ | refine Vz ?_ | refine Vn ?_)
  refine Ops_callM (S := fun c => c = bs) (R := fun _ => SwR bs (k2 + 1) (fun r => r = .tuple #[.int .i64 pw1, .int .i64 pw2] ∨ r = .tuple #[.int .i64 pw2, .int .i64 pw1])) (by exact Va) rfl rfl (fun w_ e_ => order2_v L pw1 pw2 bs k2 w_ (Dw2.ext e_) ⟨sw2.1.ext e_, sw2.2⟩ (by omega) (by omega) (by omega)) ?_
  intro r w3 w0_ e0w3 mw3 hR
  obtain ⟨hr, k3, sw3, hw3⟩ := hR
  have Dw3 := (Dw2.ext e0w3).mod mw3 (fun e => hne e)
  obtain ⟨pw3, qw3, hpqw3, rfl⟩ : ∃ p q : Nat, ((p = pw1 ∧ q = pw2) ∨ (p = pw2 ∧ q = pw1)) ∧ r = .tuple #[.int .i64 p, .int .i64 q] := by
    rcases hr with rfl | rfl
    · exact ⟨_, _, .inl ⟨rfl, rfl⟩, rfl⟩
    · exact ⟨_, _, .inr ⟨rfl, rfl⟩, rfl⟩
  repeat (first | refine Vx ?_ | (apply Ops_q; (case hon => exact Va); (case hd => rfl); (case hq => exact YlA)) | refine Vr ?_ | refine Vt ?_ | refine Vf ?_ | refine Vm ?_ | refine Ve ?_ | refine Vo ?_ | refine Vz ?_ | refine Vn ?_)
  refine ret1 (by first | exact .inl rfl | exact .inr rfl) rfl rfl ?_
  have m3 := (((Mod.of_ext e0w1).trans mw1).ext e0w2 |>.trans mw2).ext e0w3 |>.trans mw3
  exact Does_mk (fun w' he => ⟨⟨qw3, rfl, by omega, by omega⟩, k3, ⟨sw3.1.ext he, sw3.2⟩, by omega⟩) m3
theorem medianAdjacent_v (L : List Int) (a bs lo hi : Nat) (k : Int) (w : World) (hD : DatU w base g n cap L) (hs : Swaps w bs k) (hk : k ≤ 900) (hne : g ≠ bs) (hn : n ≤ 1000000000000) (hhi : hi ≤ n) (ha : lo + 1 ≤ a ∧ a + 1 < hi) :
    Calls Try.prog 125 #[.slice (some ⟨g, 0, none⟩) n cap, .int .i64 a, .pointer (some ⟨bs, 0, none⟩)] w
      (Does (fun c => c = bs) (SwR bs (k + 3) (fun r => ∃ p : Nat, r = .int .i64 p ∧ lo ≤ p ∧ p < hi)) w) := by
  obtain ⟨z, rfl⟩ : ∃ z, a = z + 1 := ⟨a - 1, by omega⟩
  have hz : ((z + 1 : Nat) : Int) - 1 = (z : Int) := by omega
  refine V_enter (vs := [_, _, _]) Try.func125 rfl Try.ntmps125 (Nat.le_of_ble_eq_true rfl) ?_
  repeat (first | refine Vx ?_ | (apply Ops_q; (case hon => exact Va); (case hd => rfl); (case hq => exact YlA)) | refine Vr ?_ | refine Vt ?_ | refine Vf ?_ | refine Vm ?_ | refine Ve ?_ | refine Vo ?_ | refine Vz ?_ | refine Vn ?_)
  rw [hz]
  refine Ops_callM (S := fun c => c = bs) (R := fun _ => SwR bs (k + 3) (fun r => ∃ p : Nat, r = .int .i64 p ∧ lo ≤ p ∧ p < hi)) (by exact Va) rfl rfl (fun w_ e_ => median_v L z (z + 1) (z + 1 + 1) bs lo hi k w_ (hD.ext e_) ⟨hs.1.ext e_, hs.2⟩ hk hne hhi (by omega) (by omega) (by omega)) ?_
  intro r w1 w0_ e0 m1 hR
  obtain ⟨⟨p, rfl, hp⟩, k1, s1, hk1⟩ := hR
  repeat (first | refine Vx ?_ | (apply Ops_q; (case hon => exact Va); (case hd => rfl); (case hq => exact YlA)) | refine Vr ?_ | refine Vt ?_ | refine Vf ?_ | refine Vm ?_ | refine Ve ?_ | refine Vo ?_ | refine Vz ?_ | refine Vn ?_)
  refine ret1 (by first | exact .inl rfl | exact .inr rfl) rfl rfl ?_
  exact Does_mk (fun w' he => ⟨⟨p, rfl, hp⟩, k1, ⟨s1.1.ext he, s1.2⟩, hk1⟩) ((Mod.of_ext e0).trans m1)
set_option maxHeartbeats 1000000 in
theorem choosePivot_v (L : List Int) (a b : Nat) (w : World) (hD : DatU w base g n cap L) (hn : n ≤ 1000000000000) (hb : b ≤ n) (hab : a + 12 < b) :
    Calls Try.prog 113 #[.slice (some ⟨g, 0, none⟩) n cap, .int .i64 a, .int .i64 b] w
      (Gives (fun r _ => ∃ (p : Nat) (h : Int), r = .tuple #[.int .i64 p, .int .i64 h] ∧ a ≤ p ∧ p < b) w) := by
  have hg := hD.own.lt (b := g) rfl
  obtain ⟨l, hl⟩ : ∃ l : Nat, (b : Int) - (a : Int) = (l : Int) := ⟨b - a, by omega⟩
  have e1 : (a : Int) + (l : Int) / 4 * 1 = ((a + l / 4 * 1 : Nat) : Int) := by omega
  have e2 : (a : Int) + (l : Int) / 4 * 2 = ((a + l / 4 * 2 : Nat) : Int) := by omega
  have e3 : (a : Int) + (l : Int) / 4 * 3 = ((a + l / 4 * 3 : Nat) : Int) := by omega
  have h1 : a ≤ a + l / 4 * 1 ∧ a + l / 4 * 1 < b := by omega
  have h2 : a ≤ a + l / 4 * 2 ∧ a + l / 4 * 2 < b := by omega
  have h3 : a ≤ a + l / 4 * 3 ∧ a + l / 4 * 3 < b := by omega
  have h50 : 50 ≤ l → (a + 1 ≤ a + l / 4 * 1 ∧ a + l / 4 * 1 + 1 < b) ∧ (a + 1 ≤ a + l / 4 * 2 ∧ a + l / 4 * 2 + 1 < b) ∧ (a + 1 ≤ a + l / 4 * 3 ∧ a + l / 4 * 3 + 1 < b) := by omega
  generalize a + l / 4 * 1 = i at *
  generalize a + l / 4 * 2 = j at *
  generalize a + l / 4 * 3 = k at *
  refine V_enter (vs := [_, _, _]) Try.func113 rfl Try.ntmps113 (Nat.le_of_ble_eq_true rfl) ?_
  repeat (first | refine Vx ?_ | (apply Ops_q; (case hon => exact Va); (case hd => rfl); (case hq => exact YlA)) | refine Vr ?_ | refine Vt ?_ | refine Vf ?_ | refine Vm ?_ | refine Ve ?_ | refine Vo ?_ | refine Vz ?_ | refine Vn ?_)
  rw [hl]
  repeat (first | refine Vx ?_ | (apply Ops_q; (case hon => exact Va); (case hd => rfl); (case hq => exact YlA)) | refine Vr ?_ | refine Vt ?_ | refine Vf ?_ | refine Vm ?_ | refine Ve ?_ | refine Vo ?_ | refine Vz ?_ | refine Vn ?_)
  (refine Ops_alloc (by exact Va) rfl ?_; intro w1 bs n_bs; have k_bs := n_bs.blk)
  repeat (first | refine Vx ?_ | (apply Ops_q; (case hon => exact Va); (case hd => rfl); (case hq => exact YlA)) | refine Vr ?_ | refine Vt ?_ | refine Vf ?_ | refine Vm ?_ | refine Ve ?_ | refine Vo ?_ | refine Vz ?_ | refine Vn ?_)
  rw [e1, e2, e3]
  refine V_yes rfl (decide_eq_true (by omega : (8 : Int) ≤ (l : Int))) ?_
  have hgb : g ≠ bs := by have := n_bs.ge; omega
  have hbw := n_bs.ge
  repeat (first | refine Vx ?_ | (apply Ops_q; (case hon => exact Va); (case hd => rfl); (case hq => exact YlA)) | refine Vr ?_ | refine Vt ?_ | refine Vf ?_ | refine Vm ?_ | refine Ve ?_ | refine Vo ?_ | refine Vz ?_ | refine Vn ?_)
  refine V_meet1 (fun s : Nat × Nat × Nat => [(10, .int .i64 s.1), (11, .int .i64 s.2.1), (12, .int .i64 s.2.2), (9, .pointer (some ⟨bs, 0, none⟩)), (0, .slice (some ⟨g, 0, none⟩) n cap)])
    (fun s w' => Ext w w' ∧ (a ≤ s.1 ∧ s.1 < b) ∧ (a ≤ s.2.1 ∧ s.2.1 < b) ∧ (a ≤ s.2.2 ∧ s.2.2 < b) ∧ (∃ c, Swaps w' bs c ∧ c ≤ 9) ∧ DatU w' base g n cap L) ?_ ?_
  · refine V_cond rfl (fun h => ?_) (fun h => ?_)
    · obtain ⟨q1, q2, q3⟩ := h50 (by have := of_decide_eq_true h; omega)
      repeat (first | refine Vx ?_ | (apply Ops_q; (case hon => exact Va); (case hd => rfl); (case hq => exact YlA)) | refine Vr ?_ | refine Vt ?_ | refine Vf ?_ | refine Vm ?_ | refine Ve ?_ | refine Vo ?_ | refine Vz ?_ | refine Vn ?_)
      refine Ops_callM (S := fun c => c = bs) (R := fun _ => SwR bs (0 + 3) (fun r => ∃ p : Nat, r = .int .i64 p ∧ a ≤ p ∧ p < b)) (by exact Va) rfl rfl (fun w_ e_ => medianAdjacent_v L i bs a b 0 w_ (hD.ext (n_bs.ext.trans e_)) ⟨k_bs.ext e_, Int.le_refl _⟩ (by omega) hgb hn hb q1) ?_
      intro r w2 w0_ e0 m2 hR
      obtain ⟨⟨p1, rfl, hp1⟩, c2, s2, hc2⟩ := hR
      have D2 := (hD.ext (n_bs.ext.trans e0)).mod m2 hgb
      have x2 : Ext w w2 := Mod.ext_of (n_bs.ext.trans e0) m2 (fun c hc => by rw [hc]; exact hbw)
      repeat (first | refine Vx ?_ | (apply Ops_q; (case hon => exact Va); (case hd => rfl); (case hq => exact YlA)) | refine Vr ?_ | refine Vt ?_ | refine Vf ?_ | refine Vm ?_ | refine Ve ?_ | refine Vo ?_ | refine Vz ?_ | refine Vn ?_)
      refine Ops_callM (S := fun c => c = bs) (R := fun _ => SwR bs (c2 + 3) (fun r => ∃ p : Nat, r = .int .i64 p ∧ a ≤ p ∧ p < b)) (by exact Va) rfl rfl (fun w_ e_ => medianAdjacent_v L j bs a b c2 w_ (D2.ext e_) ⟨s2.1.ext e_, s2.2⟩ (by omega) hgb hn hb q2) ?_
      intro r w3 w0_ e0 m3 hR
      obtain ⟨⟨p2, rfl, hp2⟩, c3, s3, hc3⟩ := hR
      have D3 := (D2.ext e0).mod m3 hgb
      have x3 : Ext w w3 := Mod.ext_of (x2.trans e0) m3 (fun c hc => by rw [hc]; exact hbw)
      repeat (first | refine Vx ?_ | (apply Ops_q; (case hon => exact Va); (case hd => rfl); (case hq => exact YlA)) | refine Vr ?_ | refine Vt ?_ | refine Vf ?_ | refine Vm ?_ | refine Ve ?_ | refine Vo ?_ | refine Vz ?_ | refine Vn ?_)
      refine Ops_callM (S := fun c => c = bs) (R := fun _ => SwR bs (c3 + 3) (fun r => ∃ p : Nat, r = .int .i64 p ∧ a ≤ p ∧ p < b)) (by exact Va) rfl rfl (fun w_ e_ => medianAdjacent_v L k bs a b c3 w_ (D3.ext e_) ⟨s3.1.ext e_, s3.2⟩ (by omega) hgb hn hb q3) ?_
      intro r w4 w0_ e0 m4 hR
      obtain ⟨⟨p3, rfl, hp3⟩, c4, s4, hc4⟩ := hR
      have D4 := (D3.ext e0).mod m4 hgb
      have x4 : Ext w w4 := Mod.ext_of (x3.trans e0) m4 (fun c hc => by rw [hc]; exact hbw)
      repeat (first | refine Vx ?_ | (apply Ops_q; (case hon => exact Va); (case hd => rfl); (case hq => exact YlA)) | refine Vr ?_ | refine Vt ?_ | refine Vf ?_ | refine Vm ?_ | refine Ve ?_ | refine Vo ?_ | refine Vz ?_ | refine Vn ?_)
      exact ⟨(p1, p2, p3), (by repeat (first | exact trivial | refine ⟨rfl, ?_⟩)), x4, hp1, hp2, hp3, ⟨c4, s4, by omega⟩, D4⟩
    · repeat (first | refine Vx ?_ | (apply Ops_q; (case hon => exact Va); (case hd => rfl); (case hq => exact YlA)) | refine Vr ?_ | refine Vt ?_ | refine Vf ?_ | refine Vm ?_ | refine Ve ?_ | refine Vo ?_ | refine Vz ?_ | refine Vn ?_)
      exact ⟨(i, j, k), (by repeat (first | exact trivial | refine ⟨rfl, ?_⟩)), n_bs.ext, h1, h2, h3, ⟨0, ⟨k_bs, Int.le_refl _⟩, by omega⟩, hD.ext n_bs.ext⟩
  rintro ⟨i, j, k⟩ w2 ⟨x2, h1, h2, h3, ⟨c2, s2, hc2⟩, D2⟩
  dsimp only at h1 h2 h3 ⊢
  repeat (first | refine Vx ?_ | (apply Ops_q; (case hon => exact Va); (case hd => rfl); (case hq => exact YlA)) | refine Vr ?_ | refine Vt ?_ | refine Vf ?_ | refine Vm ?_ | refine Ve ?_ | refine Vo ?_ | refine Vz ?_ | refine Vn ?_)
  refine Ops_callM (S := fun c => c = bs) (R := fun _ => SwR bs (c2 + 3) (fun r => ∃ p : Nat, r = .int .i64 p ∧ a ≤ p ∧ p < b)) (by exact Va) rfl rfl (fun w_ e_ => median_v L i j k bs a b c2 w_ (D2.ext e_) ⟨s2.1.ext e_, s2.2⟩ (by omega) hgb hb h1 h2 h3) ?_
  intro r w3 w0_ e0 m3 hR
  obtain ⟨⟨p, rfl, hp⟩, c3, s3, hc3⟩ := hR
  have x3 : Ext w w3 := Mod.ext_of (x2.trans e0) m3 (fun c hc => by rw [hc]; exact hbw)
  have k3 := s3.1
  repeat (first | refine Vx ?_ | (apply Ops_q; (case hon => exact Va); (case hd => rfl); (case hq => exact YlA)) | refine Vr ?_ | refine Vt ?_ | refine Vf ?_ | refine Vm ?_ | refine Ve ?_ | refine Vo ?_ | refine Vz ?_ | refine Vn ?_)
  refine V_cond rfl (fun h5 => ?_) (fun h5 => ?_)
  · repeat (first | refine Vx ?_ | (apply Ops_q; (case hon => exact Va); (case hd => rfl); (case hq => exact YlA)) | refine Vr ?_ | refine Vt ?_ | refine Vf ?_ | refine Vm ?_ | refine Ve ?_ | refine Vo ?_ | refine Vz ?_ | refine Vn ?_)
    refine ret2 (by first | exact .inl rfl | exact .inr rfl) rfl rfl rfl ?_
    exact Gives_mk (fun w' _ => ⟨p, _, rfl, hp⟩) x3
  repeat (first | refine Vx ?_ | (apply Ops_q; (case hon => exact Va); (case hd => rfl); (case hq => exact YlA)) | refine Vr ?_ | refine Vt ?_ | refine Vf ?_ | refine Vm ?_ | refine Ve ?_ | refine Vo ?_ | refine Vz ?_ | refine Vn ?_)
  refine V_cond rfl (fun h6 => ?_) (fun h6 => ?_)
  · repeat (first | refine Vx ?_ | (apply Ops_q; (case hon => exact Va); (case hd => rfl); (case hq => exact YlA)) | refine Vr ?_ | refine Vt ?_ | refine Vf ?_ | refine Vm ?_ | refine Ve ?_ | refine Vo ?_ | refine Vz ?_ | refine Vn ?_)
    refine ret2 (by first | exact .inl rfl | exact .inr rfl) rfl rfl rfl ?_
    exact Gives_mk (fun w' _ => ⟨p, _, rfl, hp⟩) x3
  · repeat (first | refine Vx ?_ | (apply Ops_q; (case hon => exact Va); (case hd => rfl); (case hq => exact YlA)) | refine Vr ?_ | refine Vt ?_ | refine Vf ?_ | refine Vm ?_ | refine Ve ?_ | refine Vo ?_ | refine Vz ?_ | refine Vn ?_)
    refine ret2 (by first | exact .inl rfl | exact .inr rfl) rfl rfl rfl ?_
    exact Gives_mk (fun w' _ => ⟨p, _, rfl, hp⟩) x3
set_option maxHeartbeats 1000000 in
theorem reverse_v (L : List Int) (a b : Nat) (w : World) (hD : DatU w base g n cap L) (hn : n ≤ 1000000000000) (hab : a < b) (hb : b ≤ n) :
    Calls Try.prog 114 #[.slice (some ⟨g, 0, none⟩) n cap, .int .i64 a, .int .i64 b] w
      (Does (BlkU g) (DatV base g n cap (fun r L' => r = .tuple #[] ∧ Moved L L' a b)) w) := by
  obtain ⟨z, rfl⟩ : ∃ z, b = z + 1 := ⟨b - 1, by omega⟩
  have hz : ((z + 1 : Nat) : Int) - 1 = (z : Int) := by omega
  refine V_enter (vs := [_, _, _]) Try.func114 rfl Try.ntmps114 (Nat.le_of_ble_eq_true rfl) ?_
  repeat (first | refine Vx ?_ | (apply Ops_q; (case hon => exact Va); (case hd => rfl); (case hq => exact YlA)) | refine Vr ?_ | refine Vt ?_ | refine Vf ?_ | refine Vm ?_ | refine Ve ?_ | refine Vo ?_ | refine Vz ?_ | refine Vn ?_)
  rw [hz]
  refine V_loop (fun s : Nat × Nat × List Int => [(6, .int .i64 s.1), (7, .int .i64 s.2.1), (0, .slice (some ⟨g, 0, none⟩) n cap)])
    (fun s w' => a ≤ s.1 ∧ s.2.1 ≤ z ∧ s.1 ≤ s.2.1 + 1 ∧ Mod (BlkU g) w w' ∧ DatU w' base g n cap s.2.2 ∧ Moved L s.2.2 a (z + 1)) (fun s => s.2.1 + 1 - s.1) (a, z, L) (by repeat (first | exact trivial | refine ⟨rfl, ?_⟩))
    ⟨Nat.le_refl _, Nat.le_refl _, by dsimp only; omega, .of_ext (Ext.refl _), hD, Moved.refl ..⟩ ?_
  rintro ⟨i, j, M⟩ w3 ⟨h1, h2, h3, m3, D3, hM⟩
  dsimp only at h1 h2 h3 D3 hM ⊢
  have hMl := D3.len
  repeat (first | refine Vx ?_ | (apply Ops_q; (case hon => exact Va); (case hd => rfl); (case hq => exact YlA)) | refine Vr ?_ | refine Vt ?_ | refine Vf ?_ | refine Vm ?_ | refine Ve ?_ | refine Vo ?_ | refine Vz ?_ | refine Vn ?_)
  refine V_cond rfl (fun hg => ?_) (fun hg => ?_)
  · replace hg := of_decide_eq_true hg
    obtain ⟨p, rfl⟩ : ∃ p, j = p + 1 := ⟨j - 1, by omega⟩
    have hs1 : ((p + 1 : Nat) : Int) - 1 = (p : Int) := by omega
    obtain ⟨x, hx⟩ := D3.get (k := i) (by omega)
    obtain ⟨y, hy⟩ := D3.get (k := p + 1) (by omega)
    have hcx := D3.at hx
    have hcy := D3.at hy
    repeat (first | refine Vx ?_ | (apply Ops_q; (case hon => exact Va); (case hd => rfl); (case hq => exact YlA)) | refine Vt ?_ | refine Vf ?_ | refine Vm ?_ | refine Ve ?_ | refine Vo ?_ | refine Vz ?_ | refine Vn ?_)
    refine V_store (R := fun w' => DatU w' base g n cap (M.set i y) ∧ Mod (fun c => c = g) w3 w') 14 13 (fun _ _ he h => ⟨h.1.ext he, h.2.ext he⟩) (by kernel_rfl) rfl (by kernel_rfl) ?_
    repeat (first
      | (refine YsS.pure rfl rfl rfl rfl rfl (fun w_ => (by first | exact Yl_move rfl | exact Yl_pred rfl rfl (by omega) | exact Yl_arith_in rfl rfl rfl (by first | assumption | (simp only [InK]; omega)))) ?_)
      | (refine YsS.load rfl rfl rfl rfl rfl (by first | exact Yl_load rfl hcx | exact Yl_load rfl hcy) ?_))
    refine YsS.pure rfl rfl rfl rfl rfl (fun w_ => Yl_indexS (j := (p+1)) rfl rfl (by omega)) ?_
    repeat (first
      | (refine YsS.pure rfl rfl rfl rfl rfl (fun w_ => (by first | exact Yl_move rfl | exact Yl_pred rfl rfl (by omega) | exact Yl_arith_in rfl rfl rfl (by first | assumption | (simp only [InK]; omega)))) ?_)
      | (refine YsS.load rfl rfl rfl rfl rfl (by first | exact Yl_load rfl hcx | exact Yl_load rfl hcy) ?_))
    refine YsS.pure rfl rfl rfl rfl rfl (fun w_ => Yl_indexS (j := i) rfl rfl (by omega)) ?_
    repeat (first
      | (refine YsS.pure rfl rfl rfl rfl rfl (fun w_ => (by first | exact Yl_move rfl | exact Yl_pred rfl rfl (by omega) | exact Yl_arith_in rfl rfl rfl (by first | assumption | (simp only [InK]; omega)))) ?_)
      | (refine YsS.load rfl rfl rfl rfl rfl (by first | exact Yl_load rfl hcx | exact Yl_load rfl hcy) ?_))
    refine YsS.pure rfl rfl rfl rfl rfl (fun w_ => Yl_indexS (j := i) rfl rfl (by omega)) ?_
    refine YsS.nil rfl ⟨fun a_ ag_ w_ hw_ => storeDatU_run (i := i) (v := y) rfl rfl rfl D3 (by omega) a_ ag_ w_ hw_, ?_⟩
    repeat (first
      | (refine YsS.pure rfl rfl rfl rfl rfl (fun w_ => (by first | exact Yl_move rfl | exact Yl_pred rfl rfl (by omega) | exact Yl_arith_in rfl rfl rfl (by first | assumption | (simp only [InK]; omega)))) ?_)
      | (refine YsS.load rfl rfl rfl rfl rfl (by first | exact Yl_load rfl hcx | exact Yl_load rfl hcy) ?_))
    refine YsS.nil rfl ?_
    rintro w4 ⟨D4, m4⟩
    repeat (first | refine Vx ?_ | (apply Ops_q; (case hon => exact Va); (case hd => rfl); (case hq => exact YlA)) | refine Vr ?_ | refine Vt ?_ | refine Vf ?_ | refine Vm ?_ | refine Ve ?_ | refine Vo ?_ | refine Vz ?_ | refine Vn ?_)
    (apply Ops_q; (case hon => (exact Va)); (case hd => rfl); (case hq => exact Yl_indexS (j := (p+1)) rfl rfl (by omega)))
    repeat (first | refine Vx ?_ | (apply Ops_q; (case hon => exact Va); (case hd => rfl); (case hq => exact YlA)) | refine Vr ?_ | refine Vt ?_ | refine Vf ?_ | refine Vm ?_ | refine Ve ?_ | refine Vo ?_ | refine Vz ?_ | refine Vn ?_)
    refine Ops_storeDatU (i := p+1) (v := x) (by exact Va) rfl rfl rfl D4 (by omega) ?_
    intro w5 D5 g5
    have m5 : Mod (BlkU g) w w5 := (m3.trans m4).grow g5 (fun b hb => .inl (by cases hb; rfl))
    have hsw : (M.set (i) y).set (p+1) x = swp M (i) (p+1) := by unfold swp; rw [hx, hy]
    rw [hsw] at D5
    repeat (first | refine Vx ?_ | (apply Ops_q; (case hon => exact Va); (case hd => rfl); (case hq => exact YlA)) | refine Vr ?_ | refine Vt ?_ | refine Vf ?_ | refine Vm ?_ | refine Ve ?_ | refine Vo ?_ | refine Vz ?_ | refine Vn ?_)
    rw [hs1]
    refine ⟨(i + 1, p, swp M i (p + 1)), (by repeat (first | exact trivial | refine ⟨rfl, ?_⟩)), ⟨by dsimp only; omega, by dsimp only; omega, by dsimp only; omega, m5, D5, hM.trans (Moved.swp (by omega) (by omega) (by omega))⟩, by simp only; omega⟩
  · replace hg := of_decide_eq_false hg
    repeat (first | refine Vx ?_ | (apply Ops_q; (case hon => exact Va); (case hd => rfl); (case hq => exact YlA)) | refine Vr ?_ | refine Vt ?_ | refine Vf ?_ | refine Vm ?_ | refine Ve ?_ | refine Vo ?_ | refine Vz ?_ | refine Vn ?_)
    refine ret0 (by first | exact .inl rfl | exact .inr rfl) rfl ?_
    exact Does_mk (fun w' he => ⟨M, D3.ext he, rfl, hM⟩) m3
end
end Go.Proofs.Ytjpnaofoeeegeaa


/-
  Sorting words (slices.Sort at uint64): partialInsertionSort.
  Conditions: the list is one's own, and not too long for a machine; nothing before the range is greater than what it holds.
-/
namespace Go.Proofs.Ytjpnaofoeeegeaa
open Go.RowKit

section
variable {base g n cap : Nat}
/-- Nothing before a is greater than what stands from a on, below b. -/
abbrev Pre2 (L : List Int) (a b : Nat) : Prop := Below2 ltU L 0 a a b
set_option maxHeartbeats 2000000 in
theorem partialU_v (L : List Int) (a b : Nat) (w : World) (hD : DatU w base g n cap L) (hn : n ≤ 1000000000000) (hb : b ≤ n) (hab : a < b) (hp : Pre2 L a b) :
    Calls Try.prog 115 #[.slice (some ⟨g, 0, none⟩) n cap, .int .i64 a, .int .i64 b] w
      (Does (BlkU g) (DatV base g n cap (fun r L' => ∃ o : Bool, r = .bool o ∧ Moved L L' a b ∧ (o = true → Asc ltU L' a b))) w) := by
  refine V_enter (vs := [_, _, _]) Try.func115 rfl Try.ntmps115 (Nat.le_of_ble_eq_true rfl) ?_
  repeat (first | refine Vx ?_ | (apply Ops_q; (case hon => exact Va); (case hd => rfl); (case hq => exact YlA)) | refine Vr ?_ | refine Vt ?_ | refine Vf ?_ | refine Vm ?_ | refine Ve ?_ | refine Vo ?_ | refine Vz ?_ | refine Vn ?_)
  refine V_loop (fun s : Nat × Nat × List Int => [(7, .int .i64 s.2.1), (8, .int .i64 s.1), (0, .slice (some ⟨g, 0, none⟩) n cap), (1, .int .i64 a), (2, .int .i64 b)])
    (fun s w' => s.1 ≤ 5 ∧ a + 1 ≤ s.2.1 ∧ s.2.1 ≤ b ∧ Mod (BlkU g) w w' ∧ DatU w' base g n cap s.2.2 ∧ Moved L s.2.2 a b ∧ Asc ltU s.2.2 a s.2.1) (fun s => 5 - s.1) (0, a + 1, L) (by repeat (first | exact trivial | refine ⟨rfl, ?_⟩))
    ⟨by dsimp only; omega, Nat.le_refl _, by dsimp only; omega, .of_ext (Ext.refl _), hD, Moved.refl .., Asc.one (Nat.le_refl _)⟩ ?_
  rintro ⟨q, i, M⟩ w3 ⟨h0, h1, h2, m3, D3, hM, hA⟩
  dsimp only at h0 h1 h2 D3 hM hA ⊢
  repeat (first | refine Vx ?_ | (apply Ops_q; (case hon => exact Va); (case hd => rfl); (case hq => exact YlA)) | refine Vr ?_ | refine Vt ?_ | refine Vf ?_ | refine Vm ?_ | refine Ve ?_ | refine Vo ?_ | refine Vz ?_ | refine Vn ?_)
  refine V_cond rfl (fun hg => ?_) (fun hg => ?_)
  · replace hg := of_decide_eq_true hg
    have hq : q < 5 := by omega
    repeat (first | refine Vx ?_ | (apply Ops_q; (case hon => exact Va); (case hd => rfl); (case hq => exact YlA)) | refine Vr ?_ | refine Vt ?_ | refine Vf ?_ | refine Vm ?_ | refine Ve ?_ | refine Vo ?_ | refine Vz ?_ | refine Vn ?_)
    refine V_loop (fun s : Nat => [(7, .int .i64 s), (8, .int .i64 q), (0, .slice (some ⟨g, 0, none⟩) n cap), (1, .int .i64 a), (2, .int .i64 b)])
      (fun s w' => Ext w3 w' ∧ a + 1 ≤ s ∧ s ≤ b ∧ Asc ltU M a s) (fun s => b - s) i (by repeat (first | exact trivial | refine ⟨rfl, ?_⟩)) ⟨Ext.refl _, h1, h2, hA⟩ ?_
    clear h1 h2 hA
    rintro i w3 ⟨x3, h1, h2, hA⟩
    have D3 := D3.ext x3
    have m3 := m3.ext x3
    have hMl := D3.len
    obtain ⟨p, rfl⟩ : ∃ p, i = p + 1 := ⟨i - 1, by omega⟩
    have hs1 : ((p + 1 : Nat) : Int) - 1 = (p : Int) := by omega
    obtain ⟨y, hy⟩ := D3.get (k := p) (by omega)
    have hcy := D3.at hy
    by_cases hib : p + 1 < b
    · have hd : decide (((p + 1 : Nat) : Int) < (b : Int)) = true := decide_eq_true (by omega)
      obtain ⟨x, hx⟩ := D3.get (k := p + 1) (by omega)
      have hcx := D3.at hx
      repeat (first | refine Vx ?_ | (apply Ops_q; (case hon => exact Va); (case hd => rfl); (case hq => exact YlA)) | refine Vr ?_ | refine Vt ?_ | refine Vf ?_ | refine Vm ?_ | refine Ve ?_ | refine Vo ?_ | refine Vz ?_ | refine Vn ?_)
      refine Ops_know rfl rfl hd ?_
      repeat (first | refine Vx ?_ | (apply Ops_q; (case hon => exact Va); (case hd => rfl); (case hq => exact YlA)) | refine Vr ?_ | refine Vt ?_ | refine Vf ?_ | refine Vm ?_ | refine Ve ?_ | refine Vo ?_ | refine Vz ?_ | refine Vn ?_)
      (apply Ops_q; (case hon => (exact Va)); (case hd => rfl); (case hq => exact Yl_indexS (j := (p+1)) rfl rfl (by omega)))
      repeat (first | refine Vx ?_ | (apply Ops_q; (case hon => exact Va); (case hd => rfl); (case hq => exact YlA)) | refine Vr ?_ | refine Vt ?_ | refine Vf ?_ | refine Vm ?_ | refine Ve ?_ | refine Vo ?_ | refine Vz ?_ | refine Vn ?_)
      rw [hs1]
      (apply Ops_q; (case hon => (exact Va)); (case hd => rfl); (case hq => exact Yl_indexS (j := p) rfl rfl (by omega)))
      repeat (first | refine Vx ?_ | (apply Ops_q; (case hon => exact Va); (case hd => rfl); (case hq => exact YlA)) | refine Vr ?_ | refine Vt ?_ | refine Vf ?_ | refine Vm ?_ | refine Ve ?_ | refine Vo ?_ | refine Vz ?_ | refine Vn ?_)
      (apply Ops_q; (case hon => (exact Va)); (case hd => rfl); (case hq => exact Yl_call rfl (fun w_ e_ => lessU_v x y w_)))
      repeat (first | refine Vx ?_ | (apply Ops_q; (case hon => exact Va); (case hd => rfl); (case hq => exact YlA)) | refine Vr ?_ | refine Vt ?_ | refine Vf ?_ | refine Vm ?_ | refine Ve ?_ | refine Vo ?_ | refine Vz ?_ | refine Vn ?_)
      refine V_cond rfl (fun hlt => ?_) (fun hlt => ?_)
      · replace hlt : ¬ltU x y < 0 := by
          have : ¬(x < y) := fun h => by simp [h] at hlt
          simp only [ltU]; omega
        repeat (first | refine Vx ?_ | (apply Ops_q; (case hon => exact Va); (case hd => rfl); (case hq => exact YlA)) | refine Vr ?_ | refine Vt ?_ | refine Vf ?_ | refine Vm ?_ | refine Ve ?_ | refine Vo ?_ | refine Vz ?_ | refine Vn ?_)
        refine ⟨p + 1 + 1, (by repeat (first | exact trivial | refine ⟨rfl, ?_⟩)), ⟨by assumption, by omega, by omega, (AscX.start hA).stop ordU (.inr ⟨x, y, hx, hy, hlt⟩)⟩, by omega⟩
      · replace hlt : ltU x y < 0 := by
          have : x < y := by
            by_cases h : x < y
            · exact h
            · simp [h] at hlt
          simp only [ltU]; omega
        repeat (first | refine Vx ?_ | (apply Ops_q; (case hon => exact Va); (case hd => rfl); (case hq => exact YlA)) | refine Vr ?_ | refine Vt ?_ | refine Vf ?_ | refine Vm ?_ | refine Ve ?_ | refine Vo ?_ | refine Vz ?_ | refine Vn ?_)
        refine V_no rfl (decide_eq_false (by omega : ¬((p + 1 : Nat) : Int) = (b : Int))) ?_
        repeat (first | refine Vx ?_ | (apply Ops_q; (case hon => exact Va); (case hd => rfl); (case hq => exact YlA)) | refine Vr ?_ | refine Vt ?_ | refine Vf ?_ | refine Vm ?_ | refine Ve ?_ | refine Vo ?_ | refine Vz ?_ | refine Vn ?_)
        refine V_cond rfl (fun h50 => ?_) (fun h50 => ?_)
        · repeat (first | refine Vx ?_ | (apply Ops_q; (case hon => exact Va); (case hd => rfl); (case hq => exact YlA)) | refine Vr ?_ | refine Vt ?_ | refine Vf ?_ | refine Vm ?_ | refine Ve ?_ | refine Vo ?_ | refine Vz ?_ | refine Vn ?_)
          refine ret1 (by first | exact .inl rfl | exact .inr rfl) rfl rfl ?_
          exact Does_mk (fun w' he => ⟨M, D3.ext he, false, rfl, hM, nofun⟩) m3
        repeat (first | refine Vx ?_ | (apply Ops_q; (case hon => exact Va); (case hd => rfl); (case hq => exact YlA)) | refine Vt ?_ | refine Vf ?_ | refine Vm ?_ | refine Ve ?_ | refine Vo ?_ | refine Vz ?_ | refine Vn ?_)
        refine V_store (R := fun w' => DatU w' base g n cap (M.set (p + 1) y) ∧ Mod (fun c => c = g) w3 w') 16 15 (fun _ _ he h => ⟨h.1.ext he, h.2.ext he⟩) (by kernel_rfl) rfl (by kernel_rfl) ?_
        repeat (first
          | (refine YsS.pure rfl rfl rfl rfl rfl (fun w_ => (by first | exact Yl_move rfl | exact Yl_pred rfl rfl (by omega) | exact Yl_arith_in rfl rfl rfl (by first | assumption | (simp only [InK]; omega)))) ?_)
          | (refine YsS.load rfl rfl rfl rfl rfl (by first | exact Yl_load rfl hcx | exact Yl_load rfl hcy) ?_))
        refine YsS.pure rfl rfl rfl rfl rfl (fun w_ => Yl_indexS (j := p) rfl rfl (by omega)) ?_
        repeat (first
          | (refine YsS.pure rfl rfl rfl rfl rfl (fun w_ => (by first | exact Yl_move rfl | exact Yl_pred rfl rfl (by omega) | exact Yl_arith_in rfl rfl rfl (by first | assumption | (simp only [InK]; omega)))) ?_)
          | (refine YsS.load rfl rfl rfl rfl rfl (by first | exact Yl_load rfl hcx | exact Yl_load rfl hcy) ?_))
        refine YsS.pure rfl rfl rfl rfl rfl (fun w_ => Yl_indexS (j := (p+1)) rfl rfl (by omega)) ?_
        repeat (first
          | (refine YsS.pure rfl rfl rfl rfl rfl (fun w_ => (by first | exact Yl_move rfl | exact Yl_pred rfl rfl (by omega) | exact Yl_arith_in rfl rfl rfl (by first | assumption | (simp only [InK]; omega)))) ?_)
          | (refine YsS.load rfl rfl rfl rfl rfl (by first | exact Yl_load rfl hcx | exact Yl_load rfl hcy) ?_))
        refine YsS.pure rfl rfl rfl rfl rfl (fun w_ => Yl_indexS (j := (p+1)) rfl rfl (by omega)) ?_
        refine YsS.nil rfl ⟨fun a_ ag_ w_ hw_ => storeDatU_run (i := p + 1) (v := y) rfl rfl rfl D3 (by omega) a_ ag_ w_ hw_, ?_⟩
        repeat (first
          | (refine YsS.pure rfl rfl rfl rfl rfl (fun w_ => (by first | exact Yl_move rfl | exact Yl_pred rfl rfl (by omega) | exact Yl_arith_in rfl rfl rfl (by first | assumption | (simp only [InK]; omega)))) ?_)
          | (refine YsS.load rfl rfl rfl rfl rfl (by first | exact Yl_load rfl hcx | exact Yl_load rfl hcy) ?_))
        refine YsS.nil rfl ?_
        rintro w4 ⟨D4, m4⟩
        repeat (first | refine Vx ?_ | (apply Ops_q; (case hon => exact Va); (case hd => rfl); (case hq => exact YlA)) | refine Vr ?_ | refine Vt ?_ | refine Vf ?_ | refine Vm ?_ | refine Ve ?_ | refine Vo ?_ | refine Vz ?_ | refine Vn ?_)
        (apply Ops_q; (case hon => (exact Va)); (case hd => rfl); (case hq => exact Yl_indexS (j := p) rfl rfl (by omega)))
        repeat (first | refine Vx ?_ | (apply Ops_q; (case hon => exact Va); (case hd => rfl); (case hq => exact YlA)) | refine Vr ?_ | refine Vt ?_ | refine Vf ?_ | refine Vm ?_ | refine Ve ?_ | refine Vo ?_ | refine Vz ?_ | refine Vn ?_)
        refine Ops_storeDatU (i := p) (v := x) (by exact Va) rfl rfl rfl D4 (by omega) ?_
        intro w5 D5 g5
        have m5 : Mod (BlkU g) w w5 := (m3.trans m4).grow g5 (fun b hb => .inl (by cases hb; rfl))
        have hsw : (M.set (p + 1) y).set p x = swp M (p + 1) p := by unfold swp; rw [hx, hy]
        rw [hsw] at D5
        have hM5 : Moved L (swp M (p + 1) p) a b := hM.trans (Moved.swp (by omega) (by omega) (by omega))
        have hA5 : AscX ltU (swp M (p + 1) p) a (p + 1 + 1) p := (AscX.start hA).step ordU (by omega) (by omega) (by omega) hx hy hlt
        clear hx hy hcx hcy hlt D3 m3 D4 m4 g5 hsw hA hM hMl
        generalize swp M (p + 1) p = M5 at *
        repeat (first | refine Vx ?_ | (apply Ops_q; (case hon => exact Va); (case hd => rfl); (case hq => exact YlA)) | refine Vr ?_ | refine Vt ?_ | refine Vf ?_ | refine Vm ?_ | refine Ve ?_ | refine Vo ?_ | refine Vz ?_ | refine Vn ?_)
        refine V_meet1 (fun M : List Int => [(7, .int .i64 (p + 1 : Nat)), (8, .int .i64 q), (0, .slice (some ⟨g, 0, none⟩) n cap), (1, .int .i64 a), (2, .int .i64 b)])
          (fun M w' => Mod (BlkU g) w w' ∧ DatU w' base g n cap M ∧ Moved L M a b ∧ Asc ltU M a (p + 1)) ?_ ?_
        · refine V_cond rfl (fun h2 => ?_) (fun h2 => ?_)
          · replace h2 := of_decide_eq_true h2
            repeat (first | refine Vx ?_ | (apply Ops_q; (case hon => exact Va); (case hd => rfl); (case hq => exact YlA)) | refine Vr ?_ | refine Vt ?_ | refine Vf ?_ | refine Vm ?_ | refine Ve ?_ | refine Vo ?_ | refine Vz ?_ | refine Vn ?_)
            rw [hs1]
            refine V_loop (fun s : Nat × List Int => [(9, .int .i64 s.1), (7, .int .i64 (p + 1 : Nat)), (8, .int .i64 q), (0, .slice (some ⟨g, 0, none⟩) n cap), (1, .int .i64 a), (2, .int .i64 b)])
              (fun s w' => a ≤ s.1 ∧ s.1 ≤ p ∧ Mod (BlkU g) w w' ∧ DatU w' base g n cap s.2 ∧ Moved L s.2 a b ∧ AscX ltU s.2 a (p + 1 + 1) s.1) (fun s => s.1) (p, M5) (by repeat (first | exact trivial | refine ⟨rfl, ?_⟩))
              ⟨by dsimp only; omega, Nat.le_refl _, m5, D5, hM5, hA5⟩ ?_
            clear m5 D5 hM5 hA5
            rintro ⟨j, M⟩ w3 ⟨h3, h4, m3, D3, hM, hA⟩
            dsimp only at h3 h4 D3 hM hA ⊢
            have hMl := D3.len
            repeat (first | refine Vx ?_ | (apply Ops_q; (case hon => exact Va); (case hd => rfl); (case hq => exact YlA)) | refine Vr ?_ | refine Vt ?_ | refine Vf ?_ | refine Vm ?_ | refine Ve ?_ | refine Vo ?_ | refine Vz ?_ | refine Vn ?_)
            refine V_cond rfl (fun hj => ?_) (fun hj => ?_)
            · replace hj := of_decide_eq_true hj
              obtain ⟨r, rfl⟩ : ∃ r, j = r + 1 := ⟨j - 1, by omega⟩
              have hs1 : ((r + 1 : Nat) : Int) - 1 = (r : Int) := by omega
              obtain ⟨x, hx⟩ := D3.get (k := r + 1) (by omega)
              obtain ⟨y, hy⟩ := D3.get (k := r) (by omega)
              have hcx := D3.at hx
              have hcy := D3.at hy
              repeat (first | refine Vx ?_ | (apply Ops_q; (case hon => exact Va); (case hd => rfl); (case hq => exact YlA)) | refine Vr ?_ | refine Vt ?_ | refine Vf ?_ | refine Vm ?_ | refine Ve ?_ | refine Vo ?_ | refine Vz ?_ | refine Vn ?_)
              (apply Ops_q; (case hon => (exact Va)); (case hd => rfl); (case hq => exact Yl_indexS (j := (r+1)) rfl rfl (by omega)))
              repeat (first | refine Vx ?_ | (apply Ops_q; (case hon => exact Va); (case hd => rfl); (case hq => exact YlA)) | refine Vr ?_ | refine Vt ?_ | refine Vf ?_ | refine Vm ?_ | refine Ve ?_ | refine Vo ?_ | refine Vz ?_ | refine Vn ?_)
              rw [hs1]
              (apply Ops_q; (case hon => (exact Va)); (case hd => rfl); (case hq => exact Yl_indexS (j := r) rfl rfl (by omega)))
              repeat (first | refine Vx ?_ | (apply Ops_q; (case hon => exact Va); (case hd => rfl); (case hq => exact YlA)) | refine Vr ?_ | refine Vt ?_ | refine Vf ?_ | refine Vm ?_ | refine Ve ?_ | refine Vo ?_ | refine Vz ?_ | refine Vn ?_)
              (apply Ops_q; (case hon => (exact Va)); (case hd => rfl); (case hq => exact Yl_call rfl (fun w_ e_ => lessU_v x y w_)))
              repeat (first | refine Vx ?_ | (apply Ops_q; (case hon => exact Va); (case hd => rfl); (case hq => exact YlA)) | refine Vr ?_ | refine Vt ?_ | refine Vf ?_ | refine Vm ?_ | refine Ve ?_ | refine Vo ?_ | refine Vz ?_ | refine Vn ?_)
              refine V_cond rfl (fun hlt => ?_) (fun hlt => ?_)
              · replace hlt : ¬ltU x y < 0 := by
                  have : ¬(x < y) := fun h => by simp [h] at hlt
                  simp only [ltU]; omega
                repeat (first | refine Vx ?_ | (apply Ops_q; (case hon => exact Va); (case hd => rfl); (case hq => exact YlA)) | refine Vr ?_ | refine Vt ?_ | refine Vf ?_ | refine Vm ?_ | refine Ve ?_ | refine Vo ?_ | refine Vz ?_ | refine Vn ?_)
                exact ⟨M, (by repeat (first | exact trivial | refine ⟨rfl, ?_⟩)), m3, D3, hM, (hA.stop ordU (.inr ⟨x, y, hx, hy, hlt⟩)).part (Nat.le_refl _) (by omega)⟩
              · replace hlt : ltU x y < 0 := by
                  have : x < y := by
                    by_cases h : x < y
                    · exact h
                    · simp [h] at hlt
                  simp only [ltU]; omega
                have har : a ≤ r := by
                  rcases Nat.lt_or_ge r a with h | h
                  · exact absurd hlt ((hp.moved' hM (Nat.le_refl _)) r (r + 1) y x (Nat.zero_le _) h h3 (by omega) hy hx)
                  · exact h
                repeat (first | refine Vx ?_ | (apply Ops_q; (case hon => exact Va); (case hd => rfl); (case hq => exact YlA)) | refine Vt ?_ | refine Vf ?_ | refine Vm ?_ | refine Ve ?_ | refine Vo ?_ | refine Vz ?_ | refine Vn ?_)
                refine V_store (R := fun w' => DatU w' base g n cap (M.set (r + 1) y) ∧ Mod (fun c => c = g) w3 w') 16 15 (fun _ _ he h => ⟨h.1.ext he, h.2.ext he⟩) (by kernel_rfl) rfl (by kernel_rfl) ?_
                repeat (first
                  | (refine YsS.pure rfl rfl rfl rfl rfl (fun w_ => (by first | exact Yl_move rfl | exact Yl_pred rfl rfl (by omega) | exact Yl_arith_in rfl rfl rfl (by first | assumption | (simp only [InK]; omega)))) ?_)
                  | (refine YsS.load rfl rfl rfl rfl rfl (by first | exact Yl_load rfl hcx | exact Yl_load rfl hcy) ?_))
                refine YsS.pure rfl rfl rfl rfl rfl (fun w_ => Yl_indexS (j := r) rfl rfl (by omega)) ?_
                repeat (first
                  | (refine YsS.pure rfl rfl rfl rfl rfl (fun w_ => (by first | exact Yl_move rfl | exact Yl_pred rfl rfl (by omega) | exact Yl_arith_in rfl rfl rfl (by first | assumption | (simp only [InK]; omega)))) ?_)
                  | (refine YsS.load rfl rfl rfl rfl rfl (by first | exact Yl_load rfl hcx | exact Yl_load rfl hcy) ?_))
                refine YsS.pure rfl rfl rfl rfl rfl (fun w_ => Yl_indexS (j := (r+1)) rfl rfl (by omega)) ?_
                repeat (first
                  | (refine YsS.pure rfl rfl rfl rfl rfl (fun w_ => (by first | exact Yl_move rfl | exact Yl_pred rfl rfl (by omega) | exact Yl_arith_in rfl rfl rfl (by first | assumption | (simp only [InK]; omega)))) ?_)
                  | (refine YsS.load rfl rfl rfl rfl rfl (by first | exact Yl_load rfl hcx | exact Yl_load rfl hcy) ?_))
                refine YsS.pure rfl rfl rfl rfl rfl (fun w_ => Yl_indexS (j := (r+1)) rfl rfl (by omega)) ?_
                refine YsS.nil rfl ⟨fun a_ ag_ w_ hw_ => storeDatU_run (i := r + 1) (v := y) rfl rfl rfl D3 (by omega) a_ ag_ w_ hw_, ?_⟩
                repeat (first
                  | (refine YsS.pure rfl rfl rfl rfl rfl (fun w_ => (by first | exact Yl_move rfl | exact Yl_pred rfl rfl (by omega) | exact Yl_arith_in rfl rfl rfl (by first | assumption | (simp only [InK]; omega)))) ?_)
                  | (refine YsS.load rfl rfl rfl rfl rfl (by first | exact Yl_load rfl hcx | exact Yl_load rfl hcy) ?_))
                refine YsS.nil rfl ?_
                rintro w4 ⟨D4, m4⟩
                repeat (first | refine Vx ?_ | (apply Ops_q; (case hon => exact Va); (case hd => rfl); (case hq => exact YlA)) | refine Vr ?_ | refine Vt ?_ | refine Vf ?_ | refine Vm ?_ | refine Ve ?_ | refine Vo ?_ | refine Vz ?_ | refine Vn ?_)
                (apply Ops_q; (case hon => (exact Va)); (case hd => rfl); (case hq => exact Yl_indexS (j := r) rfl rfl (by omega)))
                repeat (first | refine Vx ?_ | (apply Ops_q; (case hon => exact Va); (case hd => rfl); (case hq => exact YlA)) | refine Vr ?_ | refine Vt ?_ | refine Vf ?_ | refine Vm ?_ | refine Ve ?_ | refine Vo ?_ | refine Vz ?_ | refine Vn ?_)
                refine Ops_storeDatU (i := r) (v := x) (by exact Va) rfl rfl rfl D4 (by omega) ?_
                intro w5 D5 g5
                have m5 : Mod (BlkU g) w w5 := (m3.trans m4).grow g5 (fun b hb => .inl (by cases hb; rfl))
                have hsw : (M.set (r + 1) y).set r x = swp M (r + 1) r := by unfold swp; rw [hx, hy]
                rw [hsw] at D5
                repeat (first | refine Vx ?_ | (apply Ops_q; (case hon => exact Va); (case hd => rfl); (case hq => exact YlA)) | refine Vr ?_ | refine Vt ?_ | refine Vf ?_ | refine Vm ?_ | refine Ve ?_ | refine Vo ?_ | refine Vz ?_ | refine Vn ?_)
                rw [hs1]
                refine ⟨(r, swp M (r + 1) r), (by repeat (first | exact trivial | refine ⟨rfl, ?_⟩)), ⟨har, by dsimp only; omega, m5, D5, hM.trans (Moved.swp (by omega) (by omega) (by omega)), hA.step ordU har (by omega) (by omega) hx hy hlt⟩, by simp only; omega⟩
            · replace hj := of_decide_eq_false hj
              repeat (first | refine Vx ?_ | (apply Ops_q; (case hon => exact Va); (case hd => rfl); (case hq => exact YlA)) | refine Vr ?_ | refine Vt ?_ | refine Vf ?_ | refine Vm ?_ | refine Ve ?_ | refine Vo ?_ | refine Vz ?_ | refine Vn ?_)
              exact ⟨M, (by repeat (first | exact trivial | refine ⟨rfl, ?_⟩)), m3, D3, hM, (hA.stop ordU (.inl (by omega))).part (Nat.le_refl _) (by omega)⟩
          · replace h2 := of_decide_eq_false h2
            repeat (first | refine Vx ?_ | (apply Ops_q; (case hon => exact Va); (case hd => rfl); (case hq => exact YlA)) | refine Vr ?_ | refine Vt ?_ | refine Vf ?_ | refine Vm ?_ | refine Ve ?_ | refine Vo ?_ | refine Vz ?_ | refine Vn ?_)
            exact ⟨M5, (by repeat (first | exact trivial | refine ⟨rfl, ?_⟩)), m5, D5, hM5, Asc.one (by omega)⟩
        clear m5 D5 hM5 hA5
        rintro M w3 ⟨m3, D3, hM, hA⟩
        repeat (first | refine Vx ?_ | (apply Ops_q; (case hon => exact Va); (case hd => rfl); (case hq => exact YlA)) | refine Vr ?_ | refine Vt ?_ | refine Vf ?_ | refine Vm ?_ | refine Ve ?_ | refine Vo ?_ | refine Vz ?_ | refine Vn ?_)
        refine V_cond rfl (fun h2 => ?_) (fun h2 => ?_)
        · replace h2 := of_decide_eq_true h2
          repeat (first | refine Vx ?_ | (apply Ops_q; (case hon => exact Va); (case hd => rfl); (case hq => exact YlA)) | refine Vr ?_ | refine Vt ?_ | refine Vf ?_ | refine Vm ?_ | refine Ve ?_ | refine Vo ?_ | refine Vz ?_ | refine Vn ?_)
          refine V_loop (fun s : Nat × List Int => [(10, .int .i64 s.1), (7, .int .i64 (p + 1 : Nat)), (8, .int .i64 q), (0, .slice (some ⟨g, 0, none⟩) n cap), (1, .int .i64 a), (2, .int .i64 b)])
            (fun s w' => p + 2 ≤ s.1 ∧ s.1 ≤ b ∧ Mod (BlkU g) w w' ∧ DatU w' base g n cap s.2 ∧ Moved L s.2 a b ∧ Asc ltU s.2 a (p + 1)) (fun s => b - s.1) (p + 2, M) (by repeat (first | exact trivial | refine ⟨rfl, ?_⟩))
            ⟨Nat.le_refl _, by dsimp only; omega, m3, D3, hM, hA⟩ ?_
          clear m3 D3 hM hA
          rintro ⟨j, M⟩ w3 ⟨h3, h4, m3, D3, hM, hA⟩
          dsimp only at h3 h4 D3 hM hA ⊢
          have hMl := D3.len
          repeat (first | refine Vx ?_ | (apply Ops_q; (case hon => exact Va); (case hd => rfl); (case hq => exact YlA)) | refine Vr ?_ | refine Vt ?_ | refine Vf ?_ | refine Vm ?_ | refine Ve ?_ | refine Vo ?_ | refine Vz ?_ | refine Vn ?_)
          refine V_cond rfl (fun hj => ?_) (fun hj => ?_)
          · replace hj := of_decide_eq_true hj
            obtain ⟨r, rfl⟩ : ∃ r, j = r + 1 := ⟨j - 1, by omega⟩
            have hs1 : ((r + 1 : Nat) : Int) - 1 = (r : Int) := by omega
            obtain ⟨x, hx⟩ := D3.get (k := r + 1) (by omega)
            obtain ⟨y, hy⟩ := D3.get (k := r) (by omega)
            have hcx := D3.at hx
            have hcy := D3.at hy
            repeat (first | refine Vx ?_ | (apply Ops_q; (case hon => exact Va); (case hd => rfl); (case hq => exact YlA)) | refine Vr ?_ | refine Vt ?_ | refine Vf ?_ | refine Vm ?_ | refine Ve ?_ | refine Vo ?_ | refine Vz ?_ | refine Vn ?_)
            (apply Ops_q; (case hon => (exact Va)); (case hd => rfl); (case hq => exact Yl_indexS (j := (r+1)) rfl rfl (by omega)))
            repeat (first | refine Vx ?_ | (apply Ops_q; (case hon => exact Va); (case hd => rfl); (case hq => exact YlA)) | refine Vr ?_ | refine Vt ?_ | refine Vf ?_ | refine Vm ?_ | refine Ve ?_ | refine Vo ?_ | refine Vz ?_ | refine Vn ?_)
            rw [hs1]
            (apply Ops_q; (case hon => (exact Va)); (case hd => rfl); (case hq => exact Yl_indexS (j := r) rfl rfl (by omega)))
            repeat (first | refine Vx ?_ | (apply Ops_q; (case hon => exact Va); (case hd => rfl); (case hq => exact YlA)) | refine Vr ?_ | refine Vt ?_ | refine Vf ?_ | refine Vm ?_ | refine Ve ?_ | refine Vo ?_ | refine Vz ?_ | refine Vn ?_)
            (apply Ops_q; (case hon => (exact Va)); (case hd => rfl); (case hq => exact Yl_call rfl (fun w_ e_ => lessU_v x y w_)))
            repeat (first | refine Vx ?_ | (apply Ops_q; (case hon => exact Va); (case hd => rfl); (case hq => exact YlA)) | refine Vr ?_ | refine Vt ?_ | refine Vf ?_ | refine Vm ?_ | refine Ve ?_ | refine Vo ?_ | refine Vz ?_ | refine Vn ?_)
            refine V_cond rfl (fun hlt => ?_) (fun hlt => ?_)
            · repeat (first | refine Vx ?_ | (apply Ops_q; (case hon => exact Va); (case hd => rfl); (case hq => exact YlA)) | refine Vr ?_ | refine Vt ?_ | refine Vf ?_ | refine Vm ?_ | refine Ve ?_ | refine Vo ?_ | refine Vz ?_ | refine Vn ?_)
              exact ⟨(q + 1, p + 1, M), (by repeat (first | exact trivial | refine ⟨rfl, ?_⟩)), ⟨by dsimp only; omega, by assumption, by assumption, m3, D3, hM, hA⟩, by simp only; omega⟩
            · repeat (first | refine Vx ?_ | (apply Ops_q; (case hon => exact Va); (case hd => rfl); (case hq => exact YlA)) | refine Vt ?_ | refine Vf ?_ | refine Vm ?_ | refine Ve ?_ | refine Vo ?_ | refine Vz ?_ | refine Vn ?_)
              refine V_store (R := fun w' => DatU w' base g n cap (M.set (r + 1) y) ∧ Mod (fun c => c = g) w3 w') 16 15 (fun _ _ he h => ⟨h.1.ext he, h.2.ext he⟩) (by kernel_rfl) rfl (by kernel_rfl) ?_
              repeat (first
                | (refine YsS.pure rfl rfl rfl rfl rfl (fun w_ => (by first | exact Yl_move rfl | exact Yl_pred rfl rfl (by omega) | exact Yl_arith_in rfl rfl rfl (by first | assumption | (simp only [InK]; omega)))) ?_)
                | (refine YsS.load rfl rfl rfl rfl rfl (by first | exact Yl_load rfl hcx | exact Yl_load rfl hcy) ?_))
              refine YsS.pure rfl rfl rfl rfl rfl (fun w_ => Yl_indexS (j := r) rfl rfl (by omega)) ?_
              repeat (first
                | (refine YsS.pure rfl rfl rfl rfl rfl (fun w_ => (by first | exact Yl_move rfl | exact Yl_pred rfl rfl (by omega) | exact Yl_arith_in rfl rfl rfl (by first | assumption | (simp only [InK]; omega)))) ?_)
                | (refine YsS.load rfl rfl rfl rfl rfl (by first | exact Yl_load rfl hcx | exact Yl_load rfl hcy) ?_))
              refine YsS.pure rfl rfl rfl rfl rfl (fun w_ => Yl_indexS (j := (r+1)) rfl rfl (by omega)) ?_
              repeat (first
                | (refine YsS.pure rfl rfl rfl rfl rfl (fun w_ => (by first | exact Yl_move rfl | exact Yl_pred rfl rfl (by omega) | exact Yl_arith_in rfl rfl rfl (by first | assumption | (simp only [InK]; omega)))) ?_)
                | (refine YsS.load rfl rfl rfl rfl rfl (by first | exact Yl_load rfl hcx | exact Yl_load rfl hcy) ?_))
              refine YsS.pure rfl rfl rfl rfl rfl (fun w_ => Yl_indexS (j := (r+1)) rfl rfl (by omega)) ?_
              refine YsS.nil rfl ⟨fun a_ ag_ w_ hw_ => storeDatU_run (i := r + 1) (v := y) rfl rfl rfl D3 (by omega) a_ ag_ w_ hw_, ?_⟩
              repeat (first
                | (refine YsS.pure rfl rfl rfl rfl rfl (fun w_ => (by first | exact Yl_move rfl | exact Yl_pred rfl rfl (by omega) | exact Yl_arith_in rfl rfl rfl (by first | assumption | (simp only [InK]; omega)))) ?_)
                | (refine YsS.load rfl rfl rfl rfl rfl (by first | exact Yl_load rfl hcx | exact Yl_load rfl hcy) ?_))
              refine YsS.nil rfl ?_
              rintro w4 ⟨D4, m4⟩
              repeat (first | refine Vx ?_ | (apply Ops_q; (case hon => exact Va); (case hd => rfl); (case hq => exact YlA)) | refine Vr ?_ | refine Vt ?_ | refine Vf ?_ | refine Vm ?_ | refine Ve ?_ | refine Vo ?_ | refine Vz ?_ | refine Vn ?_)
              (apply Ops_q; (case hon => (exact Va)); (case hd => rfl); (case hq => exact Yl_indexS (j := r) rfl rfl (by omega)))
              repeat (first | refine Vx ?_ | (apply Ops_q; (case hon => exact Va); (case hd => rfl); (case hq => exact YlA)) | refine Vr ?_ | refine Vt ?_ | refine Vf ?_ | refine Vm ?_ | refine Ve ?_ | refine Vo ?_ | refine Vz ?_ | refine Vn ?_)
              refine Ops_storeDatU (i := r) (v := x) (by exact Va) rfl rfl rfl D4 (by omega) ?_
              intro w5 D5 g5
              have m5 : Mod (BlkU g) w w5 := (m3.trans m4).grow g5 (fun b hb => .inl (by cases hb; rfl))
              have hsw : (M.set (r + 1) y).set r x = swp M (r + 1) r := by unfold swp; rw [hx, hy]
              rw [hsw] at D5
              repeat (first | refine Vx ?_ | (apply Ops_q; (case hon => exact Va); (case hd => rfl); (case hq => exact YlA)) | refine Vr ?_ | refine Vt ?_ | refine Vf ?_ | refine Vm ?_ | refine Ve ?_ | refine Vo ?_ | refine Vz ?_ | refine Vn ?_)
              have hs := Moved.swp (L := M) (i := r + 1) (j := r) (a := p + 1) (b := b) (by omega) (by omega) (by omega)
              refine ⟨(r + 1 + 1, swp M (r + 1) r), (by repeat (first | exact trivial | refine ⟨rfl, ?_⟩)), ⟨by dsimp only; omega, by dsimp only; omega, m5, D5, hM.trans (hs.wide (by omega) (Nat.le_refl _)), hA.same fun k _ hk => hs.out k (.inl hk)⟩, by simp only; omega⟩
          · repeat (first | refine Vx ?_ | (apply Ops_q; (case hon => exact Va); (case hd => rfl); (case hq => exact YlA)) | refine Vr ?_ | refine Vt ?_ | refine Vf ?_ | refine Vm ?_ | refine Ve ?_ | refine Vo ?_ | refine Vz ?_ | refine Vn ?_)
            exact ⟨(q + 1, p + 1, M), (by repeat (first | exact trivial | refine ⟨rfl, ?_⟩)), ⟨by dsimp only; omega, by assumption, by assumption, m3, D3, hM, hA⟩, by simp only; omega⟩
        · repeat (first | refine Vx ?_ | (apply Ops_q; (case hon => exact Va); (case hd => rfl); (case hq => exact YlA)) | refine Vr ?_ | refine Vt ?_ | refine Vf ?_ | refine Vm ?_ | refine Ve ?_ | refine Vo ?_ | refine Vz ?_ | refine Vn ?_)
          exact ⟨(q + 1, p + 1, M), (by repeat (first | exact trivial | refine ⟨rfl, ?_⟩)), ⟨by dsimp only; omega, by assumption, by assumption, m3, D3, hM, hA⟩, by simp only; omega⟩
    · have hd : decide (((p + 1 : Nat) : Int) < (b : Int)) = false := decide_eq_false (by omega)
      repeat (first | refine Vx ?_ | (apply Ops_q; (case hon => exact Va); (case hd => rfl); (case hq => exact YlA)) | refine Vr ?_ | refine Vt ?_ | refine Vf ?_ | refine Vm ?_ | refine Ve ?_ | refine Vo ?_ | refine Vz ?_ | refine Vn ?_)
      refine Ops_know rfl rfl hd ?_
      repeat (first | refine Vx ?_ | (apply Ops_q; (case hon => exact Va); (case hd => rfl); (case hq => exact YlA)) | refine Vr ?_ | refine Vt ?_ | refine Vf ?_ | refine Vm ?_ | refine Ve ?_ | refine Vo ?_ | refine Vz ?_ | refine Vn ?_)
      refine V_yes rfl (decide_eq_true (by omega : ((p + 1 : Nat) : Int) = (b : Int))) ?_
      repeat (first | refine Vx ?_ | (apply Ops_q; (case hon => exact Va); (case hd => rfl); (case hq => exact YlA)) | refine Vr ?_ | refine Vt ?_ | refine Vf ?_ | refine Vm ?_ | refine Ve ?_ | refine Vo ?_ | refine Vz ?_ | refine Vn ?_)
      refine ret1 (by first | exact .inl rfl | exact .inr rfl) rfl rfl ?_
      obtain rfl : b = p + 1 := by omega
      exact Does_mk (fun w' he => ⟨M, D3.ext he, true, rfl, hM, fun _ => hA⟩) m3
  · repeat (first | refine Vx ?_ | (apply Ops_q; (case hon => exact Va); (case hd => rfl); (case hq => exact YlA)) | refine Vr ?_ | refine Vt ?_ | refine Vf ?_ | refine Vm ?_ | refine Ve ?_ | refine Vo ?_ | refine Vz ?_ | refine Vn ?_)
    refine ret1 (by first | exact .inl rfl | exact .inr rfl) rfl rfl ?_
    exact Does_mk (fun w' he => ⟨M, D3.ext he, false, rfl, hM, nofun⟩) m3
end
end Go.Proofs.Ytjpnaofoeeegeaa


/-
  Sorting in plain lists, what Sort needs beyond insertion: heaps, partitions, the state of the outer loop.
  No conditions beyond those that each statement names.
-/
namespace Go.Proofs.Ytjpnaofoeeegeaa

section
variable {α : Type} {L L' M M' : List α} {a b i j n r f lo : Nat} {cf : α → α → Int}
/-- A heap from the place lo on, but for what stands at r. -/
structure HeapX (cf : α → α → Int) (L : List α) (f lo n r : Nat) : Prop where
  kids : ∀ i c x y, lo ≤ i → i ≠ r → (c = 2 * i + 1 ∨ c = 2 * i + 2) → c < n → L[f + i]? = some x → L[f + c]? = some y → ¬cf x y < 0
  grand : ∀ p c x y, lo ≤ p → (r = 2 * p + 1 ∨ r = 2 * p + 2) → (c = 2 * r + 1 ∨ c = 2 * r + 2) → c < n → L[f + p]? = some x → L[f + c]? = some y → ¬cf x y < 0
def Heap (cf : α → α → Int) (L : List α) (f lo n : Nat) : Prop := ∀ i c x y, lo ≤ i → (c = 2 * i + 1 ∨ c = 2 * i + 2) → c < n → L[f + i]? = some x → L[f + c]? = some y → ¬cf x y < 0
theorem HeapX.leaf (h : HeapX cf L f lo n r) (hr : n ≤ 2 * r + 1) : Heap cf L f lo n := fun i c x y h1 h2 h3 hx hy => h.kids i c x y h1 (by omega) h2 h3 hx hy
theorem HeapX.stop (ho : Ord cf) (h : HeapX cf L f lo n r) {x y : α} (hx : L[f + r]? = some x) (hlt : ¬cf x y < 0) (hmax : ∀ c z, (c = 2 * r + 1 ∨ c = 2 * r + 2) → c < n → L[f + c]? = some z → ¬cf y z < 0) : Heap cf L f lo n := by
  intro i c u v h1 h2 h3 hu hv
  by_cases e : i = r
  · subst e
    rw [hx] at hu; cases hu
    exact ho.tr _ _ _ (hmax c v h2 h3 hv) hlt
  · exact h.kids i c u v h1 e h2 h3 hu hv
theorem HeapX.step (ho : Ord cf) (h : HeapX cf L f lo n r) {c : Nat} (hr : lo ≤ r) (hc : c = 2 * r + 1 ∨ c = 2 * r + 2) (hcn : c < n) (hl : f + n ≤ L.length) {x y : α} (hx : L[f + r]? = some x) (hy : L[f + c]? = some y) (hlt : cf x y < 0)
    (hmax : ∀ c z, (c = 2 * r + 1 ∨ c = 2 * r + 2) → c < n → L[f + c]? = some z → ¬cf y z < 0) : HeapX cf (swp L (f + r) (f + c)) f lo n c := by
  have g := swp_get (L := L) (i := f + r) (j := f + c) (by omega) (by omega)
  refine ⟨fun i d u v h1 h2 h3 h4 hu hv => ?_, fun p d u v h1 h2 h3 h4 hu hv => ?_⟩
  · rw [g] at hu hv
    rw [if_neg (by omega)] at hu
    by_cases e1 : i = r
    · subst e1
      rw [if_pos rfl, hy] at hu; cases hu
      by_cases e2 : d = c
      · rw [if_pos (by omega), hx] at hv; cases hv
        exact ho.tot _ _ hlt
      · rw [if_neg (by omega), if_neg (by omega)] at hv
        exact hmax d v h3 h4 hv
    · rw [if_neg (by omega)] at hu
      rw [if_neg (by omega)] at hv
      by_cases e2 : d = r
      · rw [if_pos (by omega), hy] at hv; cases hv
        exact h.grand i c u y h1 (by omega) hc hcn hu hy
      · rw [if_neg (by omega)] at hv
        exact h.kids i d u v h1 e1 h3 h4 hu hv
  · obtain rfl : p = r := by omega
    rw [g, if_neg (by omega), if_pos rfl, hy] at hu; cases hu
    rw [g, if_neg (by omega), if_neg (by omega)] at hv
    exact h.kids c d y v (by omega) (by omega) h3 h4 hy hv
theorem Heap.next (h : Heap cf L f (r + 1) n) : HeapX cf L f r n r := ⟨fun i c x y h1 h2 h3 h4 hx hy => h i c x y (by omega) h3 h4 hx hy, fun p c x y h1 h2 => by omega⟩
theorem Heap.none (h : n ≤ 2 * lo + 1) : Heap cf L f lo n := fun i c x y h1 h2 h3 => by omega
theorem Heap.top (ho : Ord cf) (h : Heap cf L f 0 n) (hl : f + n ≤ L.length) {x : α} (hx : L[f]? = some x) : ∀ k y, k < n → L[f + k]? = some y → ¬cf x y < 0 := by
  intro k
  induction k using Nat.strongRecOn with
  | ind k ih =>
    intro y hk hy
    by_cases e : k = 0
    · subst e
      rw [Nat.add_zero, hx] at hy; cases hy
      exact fun hh => ho.tot _ _ hh hh
    · have hz : L[f + (k - 1) / 2]? = some (L[f + (k - 1) / 2]'(by omega)) := List.getElem?_eq_getElem _
      exact ho.tr _ _ _ (h ((k - 1) / 2) k _ y (Nat.zero_le _) (by omega) hk hz hy) (ih ((k - 1) / 2) (by omega) _ (by omega) hz)
/-- The second phase of a heap sort: the first k elements are a heap, the others are in order and not less. -/
structure HSt (cf : α → α → Int) (L : List α) (f k b : Nat) : Prop where
  heap : Heap cf L f 0 k
  asc : Asc cf L (f + k) b
  below : Below2 cf L f (f + k) (f + k) b
theorem HSt.start (h : Heap cf L f 0 n) (hb : b = f + n) : HSt cf L f n b := ⟨h, Asc.one (by omega), fun i j x y h1 h2 h3 h4 => by omega⟩
theorem HSt.swap (ho : Ord cf) {k : Nat} (h : HSt cf L f (k + 1) b) (hb : f + k < b) (hl : b ≤ L.length) :
    HeapX cf (swp L f (f + k)) f 0 k 0 ∧ Asc cf (swp L f (f + k)) (f + k) b ∧ Below2 cf (swp L f (f + k)) f (f + k) (f + k) b := by
  have g := swp_get (L := L) (i := f) (j := f + k) (by omega) (by omega)
  have hx : L[f]? = some (L[f]'(by omega)) := List.getElem?_eq_getElem _
  generalize L[f]'(by omega) = x at hx
  have ht := h.heap.top ho (by omega) hx
  have hb2 := h.below
  refine ⟨⟨fun i c u v h1 h2 h3 h4 hu hv => ?_, fun p c u v h1 h2 => by omega⟩, fun i j u v h1 h2 h3 hu hv => ?_, fun i j u v h1 h2 h3 h4 hu hv => ?_⟩
  · rw [g, if_neg (by omega), if_neg (by omega)] at hu hv
    exact h.heap i c u v h1 h3 (by omega) hu hv
  · rw [g, if_neg (by omega), if_neg (by omega)] at hv
    rw [g] at hu
    by_cases e : i = f + k
    · rw [if_pos e] at hu
      exact hb2 f j u v (by omega) (by omega) (by omega) h3 hu hv
    · rw [if_neg e, if_neg (by omega)] at hu
      exact h.asc i j u v (by omega) h2 h3 hu hv
  · have hu' : ∃ i', f ≤ i' ∧ i' < f + (k + 1) ∧ L[i']? = some u := by
      rw [g, if_neg (by omega)] at hu
      by_cases e : i = f
      · rw [if_pos e] at hu; exact ⟨_, by omega, by omega, hu⟩
      · rw [if_neg e] at hu; exact ⟨_, by omega, by omega, hu⟩
    obtain ⟨i', p1, p2, p3⟩ := hu'
    rw [g] at hv
    by_cases e : j = f + k
    · rw [if_pos e, hx] at hv; cases hv
      obtain ⟨q, rfl⟩ : ∃ q, i' = f + q := ⟨i' - f, by omega⟩
      exact ht q u (by omega) p3
    · rw [if_neg e, if_neg (by omega)] at hv
      exact hb2 i' j u v p1 p2 (by omega) h4 p3 hv
theorem HSt.next {k : Nat} (h1 : Heap cf L' f 0 k) (h2 : Asc cf L (f + k) b) (h3 : Below2 cf L f (f + k) (f + k) b) (hm : Moved L L' f (f + k)) : HSt cf L' f k b :=
  ⟨h1, h2.same fun x hx _ => hm.out x (.inr hx), h3.moved hm (Nat.le_refl _)⟩
/-! ### Partitions -/
structure PtS (P Q : α → Prop) (M : List α) (a i j b : Nat) : Prop where
  left : ∀ k x, a < k → k < i → M[k]? = some x → P x
  right : ∀ k x, j < k → k < b → M[k]? = some x → Q x
section
variable {P Q : α → Prop}
theorem PtS.start (h : j + 1 = b) : PtS P Q M a (a + 1) j b := ⟨fun k x h1 h2 => by omega, fun k x h1 h2 => by omega⟩
theorem PtS.inc (h : PtS P Q M a i j b) {x : α} (hx : M[i]? = some x) (hp : P x) : PtS P Q M a (i + 1) j b := ⟨fun k y h1 h2 hy => by
  by_cases e : k = i
  · subst e; rw [hx] at hy; cases hy; exact hp
  · exact h.left k y h1 (by omega) hy, h.right⟩
theorem PtS.dec (h : PtS P Q M a i (j + 1) b) {x : α} (hx : M[j + 1]? = some x) (hq : Q x) : PtS P Q M a i j b := ⟨h.left, fun k y h1 h2 hy => by
  by_cases e : k = j + 1
  · subst e; rw [hx] at hy; cases hy; exact hq
  · exact h.right k y (by omega) h2 hy⟩
theorem PtS.swap (h : PtS P Q M a i (j + 1) b) (hij : i < j + 1) (hl : j + 1 < M.length) {x y : α} (hx : M[i]? = some x) (hy : M[j + 1]? = some y) (hq : Q x) (hp : P y) : PtS P Q (swp M i (j + 1)) a (i + 1) j b := by
  have g := swp_get (L := M) (i := i) (j := j + 1) (by omega) (by omega)
  refine ⟨fun k z h1 h2 hz => ?_, fun k z h1 h2 hz => ?_⟩
  · rw [g, if_neg (by omega)] at hz
    by_cases e : k = i
    · rw [if_pos e, hy] at hz; cases hz; exact hp
    · rw [if_neg e] at hz; exact h.left k z h1 (by omega) hz
  · rw [g] at hz
    by_cases e : k = j + 1
    · rw [if_pos e, hx] at hz; cases hz; exact hq
    · rw [if_neg e, if_neg (by omega)] at hz; exact h.right k z (by omega) h2 hz
end
theorem part_end (ho : Ord cf) {pv : α} (h : PtS (fun x => cf x pv < 0) (fun x => ¬cf x pv < 0) M a (j + 1) j b) (hp : M[a]? = some pv) (haj : a ≤ j) (hj : j < M.length) :
    Below2 cf (swp M j a) a j j b ∧ Below2 cf (swp M j a) a (j + 1) (j + 1) b := by
  have g := swp_get (L := M) (i := j) (j := a) hj (by omega)
  have hl : ∀ k x, a ≤ k → k < j → (swp M j a)[k]? = some x → cf x pv < 0 := fun k x h1 h2 hx => by
    rw [g] at hx
    by_cases e : k = a
    · rw [if_pos e] at hx; exact h.left j x (by omega) (by omega) hx
    · rw [if_neg e, if_neg (by omega)] at hx; exact h.left k x (by omega) (by omega) hx
  have hm : ∀ x, (swp M j a)[j]? = some x → x = pv := fun x hx => by
    rw [g] at hx
    by_cases e : j = a
    · rw [if_pos e, e, hp] at hx; exact (Option.some.inj hx).symm
    · rw [if_neg e, if_pos rfl, hp] at hx; exact (Option.some.inj hx).symm
  have hr : ∀ k x, j < k → k < b → (swp M j a)[k]? = some x → ¬cf x pv < 0 := fun k x h1 h2 hx => by
    rw [g, if_neg (by omega), if_neg (by omega)] at hx; exact h.right k x h1 h2 hx
  have irr : ∀ x, ¬cf x x < 0 := fun x hh => ho.tot _ _ hh hh
  refine ⟨fun i k x y h1 h2 h3 h4 hx hy => ?_, fun i k x y h1 h2 h3 h4 hx hy => ?_⟩
  · by_cases e : k = j
    · subst e; rw [hm y hy]; exact ho.tot _ _ (hl i x h1 h2 hx)
    · exact ho.tr _ _ _ (ho.tot _ _ (hl i x h1 h2 hx)) (hr k y (by omega) h4 hy)
  · by_cases e : i = j
    · subst e; rw [hm x hx]; exact hr k y (by omega) h4 hy
    · exact ho.tr _ _ _ (ho.tot _ _ (hl i x h1 (by omega) hx)) (hr k y (by omega) h4 hy)
/-! ### The outer loop -/
structure PdS (cf : α → α → Int) (L M : List α) (a0 a b b0 : Nat) : Prop where
  h1 : a0 ≤ a
  h2 : a ≤ b
  h3 : b ≤ b0
  mv : Moved L M a0 b0
  lo : Asc cf M a0 a
  hi : Asc cf M b b0
  bl : Below2 cf M a0 a a b0
  bh : Below2 cf M a0 b b b0
  pre : Below2 cf M 0 a0 a0 b0
section
variable {a0 b0 m : Nat}
theorem PdS.start (h : a ≤ b) (hp : Below2 cf L 0 a a b) : PdS cf L L a a b b :=
  ⟨Nat.le_refl _, h, Nat.le_refl _, .refl .., Asc.one (Nat.le_succ _), Asc.one (Nat.le_succ _), fun i j x y p1 p2 p3 p4 => by omega, fun i j x y p1 p2 p3 p4 => by omega, hp⟩
theorem PdS.pre' (h : PdS cf L M a0 a b b0) : Below2 cf M 0 a a b := fun i j x y p1 p2 p3 p4 hx hy => by
  have := h.h1; have := h.h3
  rcases Nat.lt_or_ge i a0 with c | c
  · exact h.pre i j x y p1 c (by omega) (by omega) hx hy
  · exact h.bl i j x y c p2 p3 (by omega) hx hy
theorem PdS.move (h : PdS cf L M a0 a b b0) (hm : Moved M M' a b) : PdS cf L M' a0 a b b0 := by
  have e1 := h.h1; have e2 := h.h2; have e3 := h.h3
  have w := hm.wide e1 e3
  exact ⟨e1, e2, e3, h.mv.trans w, h.lo.same fun k _ hk => hm.out k (.inl hk), h.hi.same fun k hk _ => hm.out k (.inr hk), h.bl.moved' (hm.wide (Nat.le_refl _) e3) (Nat.le_refl _), h.bh.moved (hm.wide e1 (Nat.le_refl _)) (Nat.le_refl _), h.pre.moved' w (Nat.le_refl _)⟩
theorem PdS.fin (h : PdS cf L M a0 a b b0) (hs : Asc cf M a b) : Asc cf M a0 b0 := by
  have e1 := h.h1; have e2 := h.h2; have e3 := h.h3
  refine Asc.join (Asc.join h.lo hs fun i j x y p1 p2 p3 p4 hx hy => h.bl i j x y p1 p2 p3 (by omega) hx hy) h.hi h.bh
theorem PdS.eq (h : PdS cf L M a0 a b b0) (hm1 : a ≤ m) (hm2 : m ≤ b) (hs : Asc cf M a m) (hb : Below2 cf M a m m b) : PdS cf L M a0 m b b0 := by
  have e1 := h.h1; have e2 := h.h2; have e3 := h.h3
  refine ⟨by omega, hm2, e3, h.mv, Asc.join h.lo hs fun i j x y p1 p2 p3 p4 hx hy => h.bl i j x y p1 p2 p3 (by omega) hx hy, h.hi, fun i j x y p1 p2 p3 p4 hx hy => ?_, h.bh, h.pre⟩
  rcases Nat.lt_or_ge i a with c | c
  · exact h.bl i j x y p1 c (by omega) p4 hx hy
  rcases Nat.lt_or_ge j b with d | d
  · exact hb i j x y c p2 p3 d hx hy
  · exact h.bh i j x y p1 (by omega) d p4 hx hy
theorem PdS.left (h : PdS cf L M a0 a b b0) (hm1 : a ≤ m) (hm2 : m < b) (hs : Asc cf M a m) (hb : Below2 cf M a m m b) (hb2 : Below2 cf M a (m + 1) (m + 1) b) : PdS cf L M a0 (m + 1) b b0 :=
  h.eq (by omega) hm2 (Asc.join hs (Asc.one (Nat.le_refl _)) fun i j x y p1 p2 p3 p4 hx hy => hb i j x y p1 p2 p3 (by omega) hx hy) hb2
theorem PdS.right (h : PdS cf L M a0 a b b0) (hm1 : a ≤ m) (hm2 : m < b) (hs : Asc cf M (m + 1) b) (hb : Below2 cf M a m m b) (hb2 : Below2 cf M a (m + 1) (m + 1) b) : PdS cf L M a0 a m b0 := by
  have e1 := h.h1; have e2 := h.h2; have e3 := h.h3
  refine ⟨e1, hm1, by omega, h.mv, h.lo, fun i j x y p1 p2 p3 hx hy => ?_, h.bl, fun i j x y p1 p2 p3 p4 hx hy => ?_, h.pre⟩
  · rcases Nat.lt_or_ge j b with d | d
    · rcases Nat.lt_or_ge m i with c | c
      · exact hs i j x y c p2 d hx hy
      · exact hb2 i j x y (by omega) (by omega) (by omega) d hx hy
    · rcases Nat.lt_or_ge i b with c | c
      · exact h.bh i j x y (by omega) c d p3 hx hy
      · exact h.hi i j x y c p2 p3 hx hy
  · rcases Nat.lt_or_ge i a with c | c
    · exact h.bl i j x y p1 c (by omega) p4 hx hy
    rcases Nat.lt_or_ge j b with d | d
    · exact hb i j x y c p2 p3 d hx hy
    · exact h.bh i j x y p1 (by omega) d p4 hx hy
end
end
end Go.Proofs.Ytjpnaofoeeegeaa


/-
  Sorting words (slices.Sort at uint64): siftDown, heapSort.
  Conditions: the list is one's own, and not too long for a machine.
-/
namespace Go.Proofs.Ytjpnaofoeeegeaa
open Go.RowKit

section
variable {base g n cap : Nat}
set_option maxHeartbeats 2000000 in
theorem siftU_v (L : List Int) (lo hi f : Nat) (w : World) (hD : DatU w base g n cap L) (hn : n ≤ 1000000000000) (hf : f + hi ≤ n) (hlo : lo ≤ hi) (hH : HeapX ltU L f lo hi lo) :
    Calls Try.prog 122 #[.slice (some ⟨g, 0, none⟩) n cap, .int .i64 lo, .int .i64 hi, .int .i64 f] w
      (Does (BlkU g) (DatV base g n cap (fun r L' => r = .tuple #[] ∧ Moved L L' f (f + hi) ∧ Heap ltU L' f lo hi)) w) := by
  refine V_enter (vs := [_, _, _, _]) Try.func122 rfl Try.ntmps122 (Nat.le_of_ble_eq_true rfl) ?_
  repeat (first | refine Vx ?_ | (apply Ops_q; (case hon => exact Va); (case hd => rfl); (case hq => exact YlA)) | refine Vr ?_ | refine Vt ?_ | refine Vf ?_ | refine Vm ?_ | refine Ve ?_ | refine Vo ?_ | refine Vz ?_ | refine Vn ?_)
  refine V_loop (fun s : Nat × List Int => [(8, .int .i64 s.1), (0, .slice (some ⟨g, 0, none⟩) n cap), (2, .int .i64 hi), (3, .int .i64 f)])
    (fun s w' => lo ≤ s.1 ∧ s.1 ≤ hi ∧ Mod (BlkU g) w w' ∧ DatU w' base g n cap s.2 ∧ Moved L s.2 f (f + hi) ∧ HeapX ltU s.2 f lo hi s.1) (fun s => hi - s.1) (lo, L) (by repeat (first | exact trivial | refine ⟨rfl, ?_⟩))
    ⟨Nat.le_refl _, hlo, .of_ext (Ext.refl _), hD, Moved.refl .., hH⟩ ?_
  clear hD hH
  rintro ⟨r, M⟩ w3 ⟨h1, h2, m3, D3, hM, hH⟩
  dsimp only at h1 h2 D3 hM hH ⊢
  have hMl := D3.len
  have e1 : 2 * (r : Int) + 1 = ((2 * r + 1 : Nat) : Int) := by omega
  repeat (first | refine Vx ?_ | (apply Ops_q; (case hon => exact Va); (case hd => rfl); (case hq => exact YlA)) | refine Vr ?_ | refine Vt ?_ | refine Vf ?_ | refine Vm ?_ | refine Ve ?_ | refine Vo ?_ | refine Vz ?_ | refine Vn ?_)
  rw [e1]
  refine V_cond rfl (fun hg => ?_) (fun hg => ?_)
  · replace hg := of_decide_eq_true hg
    repeat (first | refine Vx ?_ | (apply Ops_q; (case hon => exact Va); (case hd => rfl); (case hq => exact YlA)) | refine Vr ?_ | refine Vt ?_ | refine Vf ?_ | refine Vm ?_ | refine Ve ?_ | refine Vo ?_ | refine Vz ?_ | refine Vn ?_)
    refine ret0 (by first | exact .inl rfl | exact .inr rfl) rfl ?_
    exact Does_mk (fun w' he => ⟨M, D3.ext he, rfl, hM, hH.leaf (by omega)⟩) m3
  replace hg := of_decide_eq_false hg
  repeat (first | refine Vx ?_ | (apply Ops_q; (case hon => exact Va); (case hd => rfl); (case hq => exact YlA)) | refine Vr ?_ | refine Vt ?_ | refine Vf ?_ | refine Vm ?_ | refine Ve ?_ | refine Vo ?_ | refine Vz ?_ | refine Vn ?_)
  obtain ⟨x, hx⟩ := D3.get (k := f + (2 * r + 1)) (by omega)
  obtain ⟨y, hy⟩ : ∃ y, 2 * r + 2 < hi → M[f + (2 * r + 2)]? = some y := by
    by_cases hc : 2 * r + 2 < hi
    · obtain ⟨y, hy⟩ := D3.get (k := f + (2 * r + 2)) (by omega)
      exact ⟨y, fun _ => hy⟩
    · exact ⟨0, fun h => absurd h hc⟩
  obtain ⟨t, ht⟩ : ∃ t, t = (decide (2 * r + 2 < hi) && decide (x < y)) := ⟨_, rfl⟩
  refine Ops_meet [(36, .bool t), (9, .int .i64 (2 * r + 1 : Nat)), (8, .int .i64 r), (0, .slice (some ⟨g, 0, none⟩) n cap), (2, .int .i64 hi), (3, .int .i64 f)] ?_ ?_
  · by_cases hc : 2 * r + 2 < hi
    · have hd : decide (((2 * r + 1 : Nat) : Int) + 1 < (hi : Int)) = true := decide_eq_true (by omega)
      have e2 : (f : Int) + ((2 * r + 1 : Nat) : Int) = ((f + (2 * r + 1) : Nat) : Int) := by omega
      have e3 : ((f + (2 * r + 1) : Nat) : Int) + 1 = ((f + (2 * r + 2) : Nat) : Int) := by omega
      replace hy := hy hc
      have hcx := D3.at hx
      have hcy := D3.at hy
      repeat (first | refine Vx ?_ | (apply Ops_q; (case hon => exact Va); (case hd => rfl); (case hq => exact YlA)) | refine Vr ?_ | refine Vt ?_ | refine Vf ?_ | refine Vm ?_ | refine Ve ?_ | refine Vo ?_ | refine Vz ?_ | refine Vn ?_)
      refine Ops_know rfl rfl hd ?_
      repeat (first | refine Vx ?_ | (apply Ops_q; (case hon => exact Va); (case hd => rfl); (case hq => exact YlA)) | refine Vr ?_ | refine Vt ?_ | refine Vf ?_ | refine Vm ?_ | refine Ve ?_ | refine Vo ?_ | refine Vz ?_ | refine Vn ?_)
      rw [e2]
      (apply Ops_q; (case hon => (exact Va)); (case hd => rfl); (case hq => exact Yl_indexS (j := (f + (2 * r + 1))) rfl rfl (by omega)))
      repeat (first | refine Vx ?_ | (apply Ops_q; (case hon => exact Va); (case hd => rfl); (case hq => exact YlA)) | refine Vr ?_ | refine Vt ?_ | refine Vf ?_ | refine Vm ?_ | refine Ve ?_ | refine Vo ?_ | refine Vz ?_ | refine Vn ?_)
      rw [e2, e3]
      (apply Ops_q; (case hon => (exact Va)); (case hd => rfl); (case hq => exact Yl_indexS (j := (f + (2 * r + 2))) rfl rfl (by omega)))
      repeat (first | refine Vx ?_ | (apply Ops_q; (case hon => exact Va); (case hd => rfl); (case hq => exact YlA)) | refine Vr ?_ | refine Vt ?_ | refine Vf ?_ | refine Vm ?_ | refine Ve ?_ | refine Vo ?_ | refine Vz ?_ | refine Vn ?_)
      (apply Ops_q; (case hon => (exact Va)); (case hd => rfl); (case hq => exact Yl_call rfl (fun w_ e_ => lessU_v x y w_)))
      repeat (first | refine Vx ?_ | (apply Ops_q; (case hon => exact Va); (case hd => rfl); (case hq => exact YlA)) | refine Vr ?_ | refine Vt ?_ | refine Vf ?_ | refine Vm ?_ | refine Ve ?_ | refine Vo ?_ | refine Vz ?_ | refine Vn ?_)
      refine ⟨⟨?_, (by repeat (first | exact trivial | refine ⟨rfl, ?_⟩))⟩, rfl⟩
      rw [ht, decide_eq_true hc]; exact rfl
    · have hd : decide (((2 * r + 1 : Nat) : Int) + 1 < (hi : Int)) = false := decide_eq_false (by omega)
      repeat (first | refine Vx ?_ | (apply Ops_q; (case hon => exact Va); (case hd => rfl); (case hq => exact YlA)) | refine Vr ?_ | refine Vt ?_ | refine Vf ?_ | refine Vm ?_ | refine Ve ?_ | refine Vo ?_ | refine Vz ?_ | refine Vn ?_)
      refine Ops_know rfl rfl hd ?_
      repeat (first | refine Vx ?_ | (apply Ops_q; (case hon => exact Va); (case hd => rfl); (case hq => exact YlA)) | refine Vr ?_ | refine Vt ?_ | refine Vf ?_ | refine Vm ?_ | refine Ve ?_ | refine Vo ?_ | refine Vz ?_ | refine Vn ?_)
      refine ⟨⟨?_, (by repeat (first | exact trivial | refine ⟨rfl, ?_⟩))⟩, rfl⟩
      rw [ht, decide_eq_false hc]; exact rfl
  repeat (first | refine Vx ?_ | (apply Ops_q; (case hon => exact Va); (case hd => rfl); (case hq => exact YlA)) | refine Vr ?_ | refine Vt ?_ | refine Vf ?_ | refine Vm ?_ | refine Ve ?_ | refine Vo ?_ | refine Vz ?_ | refine Vn ?_)
  refine V_meet1 (fun c : Nat => [(9, .int .i64 c), (8, .int .i64 r), (0, .slice (some ⟨g, 0, none⟩) n cap), (2, .int .i64 hi), (3, .int .i64 f)])
    (fun c w' => Ext w3 w' ∧ (c = 2 * r + 1 ∨ c = 2 * r + 2) ∧ c < hi ∧ ∀ y, M[f + c]? = some y → ∀ d z, (d = 2 * r + 1 ∨ d = 2 * r + 2) → d < hi → M[f + d]? = some z → ¬ltU y z < 0) ?_ ?_
  · refine V_cond rfl (fun hlt => ?_) (fun hlt => ?_)
    · rw [hlt] at ht
      have hc : 2 * r + 2 < hi := by
        rcases Nat.lt_or_ge (2 * r + 2) hi with h | h
        · exact h
        · rw [decide_eq_false (by omega)] at ht; cases ht
      rw [decide_eq_true hc] at ht
      have hlt := of_decide_eq_true ht.symm
      replace hy := hy hc
      repeat (first | refine Vx ?_ | (apply Ops_q; (case hon => exact Va); (case hd => rfl); (case hq => exact YlA)) | refine Vr ?_ | refine Vt ?_ | refine Vf ?_ | refine Vm ?_ | refine Ve ?_ | refine Vo ?_ | refine Vz ?_ | refine Vn ?_)
      refine ⟨2 * r + 2, (by repeat (first | exact trivial | refine ⟨rfl, ?_⟩)), Ext.refl _, .inr rfl, hc, fun u hu d z h4 h5 hz => ?_⟩
      rw [hy] at hu; cases hu
      rcases h4 with rfl | rfl
      · rw [hx] at hz; cases hz; simp only [ltU]; omega
      · rw [hy] at hz; cases hz; simp only [ltU]; omega
    · rw [hlt] at ht
      repeat (first | refine Vx ?_ | (apply Ops_q; (case hon => exact Va); (case hd => rfl); (case hq => exact YlA)) | refine Vr ?_ | refine Vt ?_ | refine Vf ?_ | refine Vm ?_ | refine Ve ?_ | refine Vo ?_ | refine Vz ?_ | refine Vn ?_)
      refine ⟨2 * r + 1, (by repeat (first | exact trivial | refine ⟨rfl, ?_⟩)), Ext.refl _, .inl rfl, by omega, fun u hu d z h4 h5 hz => ?_⟩
      rw [hx] at hu; cases hu
      rcases h4 with rfl | rfl
      · rw [hx] at hz; cases hz; simp only [ltU]; omega
      · rw [decide_eq_true h5] at ht
        have hlt := of_decide_eq_false ht.symm
        rw [hy h5] at hz; cases hz; simp only [ltU]; omega
  clear hx hy ht x y t
  rintro c w3 ⟨x3, hc, hci, hmax⟩
  have D3 := D3.ext x3
  have m3 := m3.ext x3
  obtain ⟨x, hx⟩ := D3.get (k := f + r) (by omega)
  obtain ⟨y, hy⟩ := D3.get (k := f + c) (by omega)
  have hcx := D3.at hx
  have hcy := D3.at hy
  have e2 : (f : Int) + (r : Int) = ((f + r : Nat) : Int) := by omega
  have e3 : (f : Int) + (c : Int) = ((f + c : Nat) : Int) := by omega
  repeat (first | refine Vx ?_ | (apply Ops_q; (case hon => exact Va); (case hd => rfl); (case hq => exact YlA)) | refine Vr ?_ | refine Vt ?_ | refine Vf ?_ | refine Vm ?_ | refine Ve ?_ | refine Vo ?_ | refine Vz ?_ | refine Vn ?_)
  rw [e2]
  (apply Ops_q; (case hon => (exact Va)); (case hd => rfl); (case hq => exact Yl_indexS (j := (f + r)) rfl rfl (by omega)))
  repeat (first | refine Vx ?_ | (apply Ops_q; (case hon => exact Va); (case hd => rfl); (case hq => exact YlA)) | refine Vr ?_ | refine Vt ?_ | refine Vf ?_ | refine Vm ?_ | refine Ve ?_ | refine Vo ?_ | refine Vz ?_ | refine Vn ?_)
  rw [e3]
  (apply Ops_q; (case hon => (exact Va)); (case hd => rfl); (case hq => exact Yl_indexS (j := (f + c)) rfl rfl (by omega)))
  repeat (first | refine Vx ?_ | (apply Ops_q; (case hon => exact Va); (case hd => rfl); (case hq => exact YlA)) | refine Vr ?_ | refine Vt ?_ | refine Vf ?_ | refine Vm ?_ | refine Ve ?_ | refine Vo ?_ | refine Vz ?_ | refine Vn ?_)
  (apply Ops_q; (case hon => (exact Va)); (case hd => rfl); (case hq => exact Yl_call rfl (fun w_ e_ => lessU_v x y w_)))
  repeat (first | refine Vx ?_ | (apply Ops_q; (case hon => exact Va); (case hd => rfl); (case hq => exact YlA)) | refine Vr ?_ | refine Vt ?_ | refine Vf ?_ | refine Vm ?_ | refine Ve ?_ | refine Vo ?_ | refine Vz ?_ | refine Vn ?_)
  refine V_cond rfl (fun hlt => ?_) (fun hlt => ?_)
  · replace hlt : ¬ltU x y < 0 := by
      have : ¬(x < y) := fun h => by simp [h] at hlt
      simp only [ltU]; omega
    repeat (first | refine Vx ?_ | (apply Ops_q; (case hon => exact Va); (case hd => rfl); (case hq => exact YlA)) | refine Vr ?_ | refine Vt ?_ | refine Vf ?_ | refine Vm ?_ | refine Ve ?_ | refine Vo ?_ | refine Vz ?_ | refine Vn ?_)
    refine ret0 (by first | exact .inl rfl | exact .inr rfl) rfl ?_
    exact Does_mk (fun w' he => ⟨M, D3.ext he, rfl, hM, hH.stop ordU hx hlt (hmax y hy)⟩) m3
  · replace hlt : ltU x y < 0 := by
      have : x < y := by
        by_cases h : x < y
        · exact h
        · simp [h] at hlt
      simp only [ltU]; omega
    repeat (first | refine Vx ?_ | (apply Ops_q; (case hon => exact Va); (case hd => rfl); (case hq => exact YlA)) | refine Vt ?_ | refine Vf ?_ | refine Vm ?_ | refine Ve ?_ | refine Vo ?_ | refine Vz ?_ | refine Vn ?_)
    refine V_store (R := fun w' => DatU w' base g n cap (M.set (f + r) y) ∧ Mod (fun c => c = g) w3 w') 22 21 (fun _ _ he h => ⟨h.1.ext he, h.2.ext he⟩) (by kernel_rfl) rfl (by kernel_rfl) ?_
    repeat (first
      | (refine YsS.pure rfl rfl rfl rfl rfl (fun w_ => (by first | exact Yl_move rfl | exact Yl_pred rfl rfl (by omega) | exact Yl_arith_in rfl rfl rfl (by first | assumption | (simp only [InK]; omega)))) ?_)
      | (refine YsS.load rfl rfl rfl rfl rfl (by first | exact Yl_load rfl hcx | exact Yl_load rfl hcy) ?_))
    refine YsS.pure rfl rfl rfl rfl rfl (fun w_ => Yl_indexS (j := (f+c)) rfl rfl (by omega)) ?_
    repeat (first
      | (refine YsS.pure rfl rfl rfl rfl rfl (fun w_ => (by first | exact Yl_move rfl | exact Yl_pred rfl rfl (by omega) | exact Yl_arith_in rfl rfl rfl (by first | assumption | (simp only [InK]; omega)))) ?_)
      | (refine YsS.load rfl rfl rfl rfl rfl (by first | exact Yl_load rfl hcx | exact Yl_load rfl hcy) ?_))
    refine YsS.pure rfl rfl rfl rfl rfl (fun w_ => Yl_indexS (j := (f+r)) rfl rfl (by omega)) ?_
    repeat (first
      | (refine YsS.pure rfl rfl rfl rfl rfl (fun w_ => (by first | exact Yl_move rfl | exact Yl_pred rfl rfl (by omega) | exact Yl_arith_in rfl rfl rfl (by first | assumption | (simp only [InK]; omega)))) ?_)
      | (refine YsS.load rfl rfl rfl rfl rfl (by first | exact Yl_load rfl hcx | exact Yl_load rfl hcy) ?_))
    refine YsS.pure rfl rfl rfl rfl rfl (fun w_ => Yl_indexS (j := (f+r)) rfl rfl (by omega)) ?_
    refine YsS.nil rfl ⟨fun a_ ag_ w_ hw_ => storeDatU_run (i := f + r) (v := y) rfl rfl rfl D3 (by omega) a_ ag_ w_ hw_, ?_⟩
    repeat (first
      | (refine YsS.pure rfl rfl rfl rfl rfl (fun w_ => (by first | exact Yl_move rfl | exact Yl_pred rfl rfl (by omega) | exact Yl_arith_in rfl rfl rfl (by first | assumption | (simp only [InK]; omega)))) ?_)
      | (refine YsS.load rfl rfl rfl rfl rfl (by first | exact Yl_load rfl hcx | exact Yl_load rfl hcy) ?_))
    refine YsS.nil rfl ?_
    rintro w4 ⟨D4, m4⟩
    repeat (first | refine Vx ?_ | (apply Ops_q; (case hon => exact Va); (case hd => rfl); (case hq => exact YlA)) | refine Vr ?_ | refine Vt ?_ | refine Vf ?_ | refine Vm ?_ | refine Ve ?_ | refine Vo ?_ | refine Vz ?_ | refine Vn ?_)
    rw [e3]
    (apply Ops_q; (case hon => (exact Va)); (case hd => rfl); (case hq => exact Yl_indexS (j := (f + c)) rfl rfl (by omega)))
    repeat (first | refine Vx ?_ | (apply Ops_q; (case hon => exact Va); (case hd => rfl); (case hq => exact YlA)) | refine Vr ?_ | refine Vt ?_ | refine Vf ?_ | refine Vm ?_ | refine Ve ?_ | refine Vo ?_ | refine Vz ?_ | refine Vn ?_)
    refine Ops_storeDatU (i := f + c) (v := x) (by exact Va) rfl rfl rfl D4 (by omega) ?_
    intro w5 D5 g5
    have m5 : Mod (BlkU g) w w5 := (m3.trans m4).grow g5 (fun b hb => .inl (by cases hb; rfl))
    have hsw : (M.set (f + r) y).set (f + c) x = swp M (f + r) (f + c) := by unfold swp; rw [hx, hy]
    rw [hsw] at D5
    repeat (first | refine Vx ?_ | (apply Ops_q; (case hon => exact Va); (case hd => rfl); (case hq => exact YlA)) | refine Vr ?_ | refine Vt ?_ | refine Vf ?_ | refine Vm ?_ | refine Ve ?_ | refine Vo ?_ | refine Vz ?_ | refine Vn ?_)
    refine ⟨(c, swp M (f + r) (f + c)), (by repeat (first | exact trivial | refine ⟨rfl, ?_⟩)), ⟨by dsimp only; omega, by dsimp only; omega, m5, D5, hM.trans (Moved.swp (by omega) (by omega) (by omega)), hH.step ordU h1 hc hci (by omega) hx hy hlt (hmax y hy)⟩, by simp only; omega⟩
set_option maxHeartbeats 2000000 in
theorem heapU_v (L : List Int) (a b : Nat) (w : World) (hD : DatU w base g n cap L) (hn : n ≤ 1000000000000) (hb : b ≤ n) (hab : a < b) :
    Calls Try.prog 111 #[.slice (some ⟨g, 0, none⟩) n cap, .int .i64 a, .int .i64 b] w
      (Does (BlkU g) (DatV base g n cap (fun r L' => r = .tuple #[] ∧ Moved L L' a b ∧ Asc ltU L' a b)) w) := by
  obtain ⟨h, rfl⟩ : ∃ h, b = a + (h + 1) := ⟨b - a - 1, by omega⟩
  have e1 : ((a + (h + 1) : Nat) : Int) - (a : Int) = ((h + 1 : Nat) : Int) := by omega
  have e2 : ((h + 1 : Nat) : Int) - 1 = (h : Int) := by omega
  have e3 : (h : Int) / 2 = ((h / 2 + 1 : Nat) : Int) - 1 := by omega
  have e4 : (h : Int) = ((h + 1 : Nat) : Int) - 1 := by omega
  refine V_enter (vs := [_, _, _]) Try.func111 rfl Try.ntmps111 (Nat.le_of_ble_eq_true rfl) ?_
  repeat (first | refine Vx ?_ | (apply Ops_q; (case hon => exact Va); (case hd => rfl); (case hq => exact YlA)) | refine Vr ?_ | refine Vt ?_ | refine Vf ?_ | refine Vm ?_ | refine Ve ?_ | refine Vo ?_ | refine Vz ?_ | refine Vn ?_)
  rw [e1]
  repeat (first | refine Vx ?_ | (apply Ops_q; (case hon => exact Va); (case hd => rfl); (case hq => exact YlA)) | refine Vr ?_ | refine Vt ?_ | refine Vf ?_ | refine Vm ?_ | refine Ve ?_ | refine Vo ?_ | refine Vz ?_ | refine Vn ?_)
  rw [e2]
  repeat (first | refine Vx ?_ | (apply Ops_q; (case hon => exact Va); (case hd => rfl); (case hq => exact YlA)) | refine Vr ?_ | refine Vt ?_ | refine Vf ?_ | refine Vm ?_ | refine Ve ?_ | refine Vo ?_ | refine Vz ?_ | refine Vn ?_)
  rw [e3]
  refine V_loop (fun s : Nat × List Int => [(9, .int .i64 ((s.1 : Int) - 1)), (0, .slice (some ⟨g, 0, none⟩) n cap), (6, .int .i64 a), (7, .int .i64 0), (8, .int .i64 (h + 1 : Nat))])
    (fun s w' => s.1 ≤ h + 1 ∧ Mod (BlkU g) w w' ∧ DatU w' base g n cap s.2 ∧ Moved L s.2 a (a + (h + 1)) ∧ Heap ltU s.2 a s.1 (h + 1)) (fun s => s.1) (h / 2 + 1, L) (by repeat (first | exact trivial | refine ⟨rfl, ?_⟩))
    ⟨by dsimp only; omega, .of_ext (Ext.refl _), hD, Moved.refl .., Heap.none (by dsimp only; omega)⟩ ?_
  clear hD
  rintro ⟨i, M⟩ w3 ⟨h1, m3, D3, hM, hH⟩
  dsimp only at h1 D3 hM hH ⊢
  have hMl := D3.len
  by_cases hi : 0 < i
  · obtain ⟨i, rfl⟩ : ∃ k, i = k + 1 := ⟨i - 1, by omega⟩
    have hs1 : ((i + 1 : Nat) : Int) - 1 = (i : Int) := by omega
    rw [hs1]
    repeat (first | refine Vx ?_ | (apply Ops_q; (case hon => exact Va); (case hd => rfl); (case hq => exact YlA)) | refine Vr ?_ | refine Vt ?_ | refine Vf ?_ | refine Vm ?_ | refine Ve ?_ | refine Vo ?_ | refine Vz ?_ | refine Vn ?_)
    refine Ops_callM (S := BlkU g) (R := fun _ => DatV base g n cap (fun r L' => r = .tuple #[] ∧ Moved M L' a (a + (h+1)) ∧ Heap ltU L' a i (h+1))) (by exact Va) rfl rfl (fun w_ e_ => siftU_v M i (h+1) a w_ (D3.ext e_) hn (by omega) (by omega) hH.next) ?_
    intro r w6 w0_ e0 m6 hR
    obtain ⟨M6, D6, rfl, hM6, hH6⟩ := hR
    repeat (first | refine Vx ?_ | (apply Ops_q; (case hon => exact Va); (case hd => rfl); (case hq => exact YlA)) | refine Vr ?_ | refine Vt ?_ | refine Vf ?_ | refine Vm ?_ | refine Ve ?_ | refine Vo ?_ | refine Vz ?_ | refine Vn ?_)
    refine ⟨(i, M6), (by repeat (first | exact trivial | refine ⟨rfl, ?_⟩)), ⟨by dsimp only; omega, (m3.ext e0).trans m6, D6, hM.trans hM6, hH6⟩, by simp only; omega⟩
  obtain rfl : i = 0 := by omega
  repeat (first | refine Vx ?_ | (apply Ops_q; (case hon => exact Va); (case hd => rfl); (case hq => exact YlA)) | refine Vr ?_ | refine Vt ?_ | refine Vf ?_ | refine Vm ?_ | refine Ve ?_ | refine Vo ?_ | refine Vz ?_ | refine Vn ?_)
  rw [e2]
  have hS : HSt ltU M a (h + 1) (a + (h + 1)) := .start hH rfl
  clear hH h1 hi
  refine V_loop (fun s : Nat × List Int => [(10, .int .i64 ((s.1 : Int) - 1)), (0, .slice (some ⟨g, 0, none⟩) n cap), (6, .int .i64 a), (7, .int .i64 0), (8, .int .i64 (h + 1 : Nat))])
    (fun s w' => s.1 ≤ h + 1 ∧ Mod (BlkU g) w w' ∧ DatU w' base g n cap s.2 ∧ Moved L s.2 a (a + (h + 1)) ∧ HSt ltU s.2 a s.1 (a + (h + 1))) (fun s => s.1) (h + 1, M) ⟨by dsimp only; rw [← e4]; rfl, (by repeat (first | exact trivial | refine ⟨rfl, ?_⟩))⟩
    ⟨Nat.le_refl _, m3, D3, hM, hS⟩ ?_
  clear m3 D3 hM hS hMl
  rintro ⟨i, M⟩ w3 ⟨h1, m3, D3, hM, hS⟩
  dsimp only at h1 D3 hM hS ⊢
  have hMl := D3.len
  by_cases hi : 0 < i
  · obtain ⟨i, rfl⟩ : ∃ k, i = k + 1 := ⟨i - 1, by omega⟩
    have hs1 : ((i + 1 : Nat) : Int) - 1 = (i : Int) := by omega
    have e5 : (a : Int) + (i : Int) = ((a + i : Nat) : Int) := by omega
    obtain ⟨x, hx⟩ := D3.get (k := a) (by omega)
    obtain ⟨y, hy⟩ := D3.get (k := a + i) (by omega)
    have hcx := D3.at hx
    have hcy := D3.at hy
    obtain ⟨q1, q2, q3⟩ := hS.swap ordU (by omega) (by omega)
    rw [hs1]
    repeat (first | refine Vx ?_ | (apply Ops_q; (case hon => exact Va); (case hd => rfl); (case hq => exact YlA)) | refine Vr ?_ | refine Vt ?_ | refine Vf ?_ | refine Vm ?_ | refine Ve ?_ | refine Vo ?_ | refine Vz ?_ | refine Vn ?_)
    refine V_store (R := fun w' => DatU w' base g n cap (M.set a y) ∧ Mod (fun c => c = g) w3 w') 18 17 (fun _ _ he h => ⟨h.1.ext he, h.2.ext he⟩) (by kernel_rfl) rfl (by kernel_rfl) ?_
    repeat (first
      | (refine YsS.pure rfl rfl rfl rfl rfl (fun w_ => (by first | exact Yl_move rfl | exact Yl_pred rfl rfl (by omega) | exact Yl_arith_in rfl rfl rfl (by first | assumption | (simp only [InK]; omega)))) ?_)
      | (refine YsS.load rfl rfl rfl rfl rfl (by first | exact Yl_load rfl hcx | exact Yl_load rfl hcy) ?_))
    refine YsS.pure rfl rfl rfl rfl rfl (fun w_ => Yl_indexS (j := (a+i)) rfl rfl (by omega)) ?_
    repeat (first
      | (refine YsS.pure rfl rfl rfl rfl rfl (fun w_ => (by first | exact Yl_move rfl | exact Yl_pred rfl rfl (by omega) | exact Yl_arith_in rfl rfl rfl (by first | assumption | (simp only [InK]; omega)))) ?_)
      | (refine YsS.load rfl rfl rfl rfl rfl (by first | exact Yl_load rfl hcx | exact Yl_load rfl hcy) ?_))
    refine YsS.pure rfl rfl rfl rfl rfl (fun w_ => Yl_indexS (j := a) rfl rfl (by omega)) ?_
    repeat (first
      | (refine YsS.pure rfl rfl rfl rfl rfl (fun w_ => (by first | exact Yl_move rfl | exact Yl_pred rfl rfl (by omega) | exact Yl_arith_in rfl rfl rfl (by first | assumption | (simp only [InK]; omega)))) ?_)
      | (refine YsS.load rfl rfl rfl rfl rfl (by first | exact Yl_load rfl hcx | exact Yl_load rfl hcy) ?_))
    refine YsS.pure rfl rfl rfl rfl rfl (fun w_ => Yl_indexS (j := a) rfl rfl (by omega)) ?_
    refine YsS.nil rfl ⟨fun a_ ag_ w_ hw_ => storeDatU_run (i := a) (v := y) rfl rfl rfl D3 (by omega) a_ ag_ w_ hw_, ?_⟩
    repeat (first
      | (refine YsS.pure rfl rfl rfl rfl rfl (fun w_ => (by first | exact Yl_move rfl | exact Yl_pred rfl rfl (by omega) | exact Yl_arith_in rfl rfl rfl (by first | assumption | (simp only [InK]; omega)))) ?_)
      | (refine YsS.load rfl rfl rfl rfl rfl (by first | exact Yl_load rfl hcx | exact Yl_load rfl hcy) ?_))
    refine YsS.nil rfl ?_
    rintro w4 ⟨D4, m4⟩
    repeat (first | refine Vx ?_ | (apply Ops_q; (case hon => exact Va); (case hd => rfl); (case hq => exact YlA)) | refine Vr ?_ | refine Vt ?_ | refine Vf ?_ | refine Vm ?_ | refine Ve ?_ | refine Vo ?_ | refine Vz ?_ | refine Vn ?_)
    rw [e5]
    (apply Ops_q; (case hon => (exact Va)); (case hd => rfl); (case hq => exact Yl_indexS (j := (a + i)) rfl rfl (by omega)))
    repeat (first | refine Vx ?_ | (apply Ops_q; (case hon => exact Va); (case hd => rfl); (case hq => exact YlA)) | refine Vr ?_ | refine Vt ?_ | refine Vf ?_ | refine Vm ?_ | refine Ve ?_ | refine Vo ?_ | refine Vz ?_ | refine Vn ?_)
    refine Ops_storeDatU (i := a + i) (v := x) (by exact Va) rfl rfl rfl D4 (by omega) ?_
    intro w5 D5 g5
    have m5 : Mod (BlkU g) w w5 := (m3.trans m4).grow g5 (fun b hb => .inl (by cases hb; rfl))
    have hsw : (M.set a y).set (a + i) x = swp M a (a + i) := by unfold swp; rw [hx, hy]
    rw [hsw] at D5
    have hM5 : Moved L (swp M a (a + i)) a (a + (h + 1)) := hM.trans (Moved.swp (by omega) (by omega) (by omega))
    clear hx hy hcx hcy D3 m3 D4 m4 g5 hsw hM hMl hS
    generalize swp M a (a + i) = M5 at *
    repeat (first | refine Vx ?_ | (apply Ops_q; (case hon => exact Va); (case hd => rfl); (case hq => exact YlA)) | refine Vr ?_ | refine Vt ?_ | refine Vf ?_ | refine Vm ?_ | refine Ve ?_ | refine Vo ?_ | refine Vz ?_ | refine Vn ?_)
    refine Ops_callM (S := BlkU g) (R := fun _ => DatV base g n cap (fun r L' => r = .tuple #[] ∧ Moved M5 L' a (a + i) ∧ Heap ltU L' a 0 i)) (by exact Va) rfl rfl (fun w_ e_ => siftU_v M5 0 i a w_ (D5.ext e_) hn (by omega) (by omega) q1) ?_
    intro r w6 w0_ e0 m6 hR
    obtain ⟨M6, D6, rfl, hM6, hH6⟩ := hR
    repeat (first | refine Vx ?_ | (apply Ops_q; (case hon => exact Va); (case hd => rfl); (case hq => exact YlA)) | refine Vr ?_ | refine Vt ?_ | refine Vf ?_ | refine Vm ?_ | refine Ve ?_ | refine Vo ?_ | refine Vz ?_ | refine Vn ?_)
    refine ⟨(i, M6), (by repeat (first | exact trivial | refine ⟨rfl, ?_⟩)), ⟨by dsimp only; omega, (m5.ext e0).trans m6, D6, hM5.trans (hM6.wide (Nat.le_refl _) (by omega)), HSt.next hH6 q2 q3 hM6⟩, by simp only; omega⟩
  obtain rfl : i = 0 := by omega
  repeat (first | refine Vx ?_ | (apply Ops_q; (case hon => exact Va); (case hd => rfl); (case hq => exact YlA)) | refine Vr ?_ | refine Vt ?_ | refine Vf ?_ | refine Vm ?_ | refine Ve ?_ | refine Vo ?_ | refine Vz ?_ | refine Vn ?_)
  refine ret0 (by first | exact .inl rfl | exact .inr rfl) rfl ?_
  exact Does_mk (fun w' he => ⟨M, D3.ext he, rfl, hM, hS.asc⟩) m3
end
end Go.Proofs.Ytjpnaofoeeegeaa


/-
  A trie in memory: its nodes are found by prefixes.
  No conditions beyond those that each statement names.
-/
import Derived.Test.YtphifkbeanneaaaPre
namespace Go.Proofs.Ytphifkbeanneaaa
open Go.RowKit

/-! ### Prefixes in plain numbers -/
theorem pow_up {k : Nat} (h : k < 32) : 2 ^ (32 - k) = 2 * 2 ^ (31 - k) := by rw [show 32 - k = (31 - k) + 1 by omega, Nat.pow_succ, Nat.mul_comm]
/-- The address of a prefix that is one bit longer. -/
def kidA (x k bit : Nat) : Nat := x + bit * 2 ^ (31 - k)
theorem top_kid (a : Nat) {k : Nat} (h : k < 32) : top a (k + 1) = kidA (top a k) k (bitAt a k) := by
  unfold kidA top
  rw [bitAt_nat a k h, pow_up h, show 32 - (k + 1) = 31 - k by omega]
  have hd := div_step a k h
  rw [pow_up h] at hd
  generalize a / 2 ^ (31 - k) % 2 = r at *
  rw [hd, Nat.add_mul, Nat.mul_assoc, Nat.mul_comm 2, Nat.mul_assoc, Nat.mul_comm _ 2, ← Nat.mul_assoc]
theorem kid_top {x k bit : Nat} (h : k < 32) (hx : top x k = x) (hb : bit < 2) : top (kidA x k bit) (k + 1) = kidA x k bit ∧ top (kidA x k bit) k = x := by
  unfold kidA
  unfold top at *
  rw [pow_up h] at *
  rw [show 32 - (k + 1) = 31 - k by omega]
  have hp : 0 < 2 ^ (31 - k) := Nat.two_pow_pos _
  generalize 2 ^ (31 - k) = p at *
  obtain ⟨q, hq⟩ : ∃ q, x = q * (2 * p) := ⟨_, hx.symm⟩
  subst hq
  have e1 : q * (2 * p) + bit * p = (2 * q + bit) * p := by rw [Nat.add_mul, ← Nat.mul_assoc, Nat.mul_comm q 2]
  rw [e1]
  refine ⟨by rw [Nat.mul_div_cancel _ hp], ?_⟩
  rw [Nat.mul_comm 2 p, ← Nat.div_div_eq_div_mul, Nat.mul_div_cancel _ hp]
  rw [show (2 * q + bit) / 2 = q by omega]
theorem top_top (a : Nat) {j k : Nat} (h : j ≤ k) (hk : k ≤ 32) : top (top a k) j = top a j := by
  unfold top
  have e : 2 ^ (32 - j) = 2 ^ (32 - k) * 2 ^ (k - j) := by rw [← Nat.pow_add]; congr 1; omega
  have hp : 0 < 2 ^ (32 - k) := Nat.two_pow_pos _
  rw [e, ← Nat.div_div_eq_div_mul, Nat.mul_div_cancel _ hp, Nat.div_div_eq_div_mul]
theorem kid_lt {x k bit : Nat} (h : k < 32) (hx : top x k = x) (hb : bit < 2) (hl : x < 4294967296) : kidA x k bit < 4294967296 := by
  have := last_lt hx (by omega) hl
  rw [pow_up h] at this
  have hp : 0 < 2 ^ (31 - k) := Nat.two_pow_pos _
  unfold kidA
  rcases (by omega : bit = 0 ∨ bit = 1) with rfl | rfl <;> omega
theorem kid_inj {x x' k bit bit' : Nat} (h : k < 32) (hx : top x k = x) (hx' : top x' k = x') (hb : bit < 2) (hb' : bit' < 2) (e : kidA x k bit = kidA x' k bit') : x = x' ∧ bit = bit' := by
  have h1 := (kid_top h hx hb).2
  have h2 := (kid_top h hx' hb').2
  rw [e, h2] at h1
  subst h1
  refine ⟨rfl, ?_⟩
  have hp : 0 < 2 ^ (31 - k) := Nat.two_pow_pos _
  unfold kidA at e
  exact Nat.eq_of_mul_eq_mul_right hp (by omega)
theorem bit_lt (a k : Nat) : bitAt a (k : Int) < 2 := bitAt_lt a _

/-! ### Nodes -/
def ptrV (o : Option Nat) : Value := .pointer (o.map fun b => ⟨b, 0, none⟩)
/-- The node below, one bit on. -/
def kid (N : Nat → Nat → Option Nat) (x k bit : Nat) : Option Nat := if k < 32 then N (kidA x k bit) (k + 1) else none
def nodeC (N : Nat → Nat → Option Nat) (E : Nat → Nat → Option Int) (x k : Nat) (tl : List Value) : List Value := ptrV (kid N x k 0) :: ptrV (kid N x k 1) :: .bool (E x k).isSome :: .int .i64 ((E x k).getD 0) :: tl
def nodeT (k : Nat) : Nat := if k = 0 then 75 else 73
def nodeL (k : Nat) (n : Int) : List Value := if k = 0 then [.int .i64 n] else []
structure TrieM (w : World) (base b0 : Nat) (N : Nat → Nat → Option Nat) (E : Nat → Nat → Option Int) (n : Int) : Prop where
  root : N 0 0 = some b0
  node : ∀ x k b, N x k = some b → Blk w b (nodeT k) (nodeC N E x k (nodeL k n))
  can : ∀ x k b, N x k = some b → k ≤ 32 ∧ top x k = x ∧ x < 4294967296
  inj : ∀ x k x' k' b, N x k = some b → N x' k' = some b → x = x' ∧ k = k'
  par : ∀ x k b, N x (k + 1) = some b → N (top x k) k ≠ none
  ent : ∀ x k v, E x k = some v → N x k ≠ none
  ge : ∀ x k b, N x k = some b → base ≤ b
/-- The trie's blocks. -/
def Foot (N : Nat → Nat → Option Nat) (b : Nat) : Prop := ∃ x k, N x k = some b
section
variable {w w1 : World} {base b0 : Nat} {N : Nat → Nat → Option Nat} {E : Nat → Nat → Option Int} {n : Int}
theorem TrieM.ext (h : TrieM w base b0 N E n) (he : Ext w w1) : TrieM w1 base b0 N E n := { h with node := fun x k b hb => (h.node x k b hb).ext he }
theorem TrieM.lt (h : TrieM w base b0 N E n) {b : Nat} (hb : Foot N b) : b < w.heap.size := by
  obtain ⟨x, k, hb⟩ := hb
  exact (h.node x k b hb).lt
theorem TrieM.foot_ge (h : TrieM w base b0 N E n) {b : Nat} (hb : Foot N b) : base ≤ b := by
  obtain ⟨x, k, hb⟩ := hb
  exact h.ge x k b hb
theorem TrieM.none_below (h : TrieM w base b0 N E n) (a : Nat) {k j : Nat} (hk : N (top a k) k = none) (hkj : k ≤ j) (hj : j ≤ 32) : N (top a j) j = none := by
  induction j with
  | zero => obtain rfl : k = 0 := by omega
            exact hk
  | succ j ih =>
    rcases Nat.lt_or_ge k (j + 1) with h1 | h1
    · have := ih (by omega) (by omega)
      cases hn : N (top a (j + 1)) (j + 1) with
      | none => rfl
      | some b =>
        have h2 := h.par _ _ _ hn
        rw [top_top a (by omega) hj] at h2
        exact absurd this h2
    · obtain rfl : k = j + 1 := by omega
      exact hk
theorem TrieM.kid_eq (_ : TrieM w base b0 N E n) (a : Nat) {k : Nat} (hk : k < 32) : kid N (top a k) k (bitAt a k) = N (top a (k + 1)) (k + 1) := by
  rw [kid, if_pos hk, top_kid a hk]
/-- The cells of a node. -/
theorem TrieM.kid_cell (h : TrieM w base b0 N E n) {x k b : Nat} (hb : N x k = some b) {bit : Nat} (hbit : bit < 2) : w.cell? ((⟨b, 0, none⟩ : Addr).add (bit * 1)) = some (ptrV (kid N x k bit)) := by
  have hB := h.node x k b hb
  rcases (by omega : bit = 0 ∨ bit = 1) with rfl | rfl
  · exact hB.cell_add rfl
  · exact hB.cell_add rfl
theorem TrieM.has_cell (h : TrieM w base b0 N E n) {x k b : Nat} (hb : N x k = some b) : w.cell? ⟨b, 2, none⟩ = some (.bool (E x k).isSome) := (h.node x k b hb).cell rfl
theorem TrieM.val_cell (h : TrieM w base b0 N E n) {x k b : Nat} (hb : N x k = some b) : w.cell? ⟨b, 3, none⟩ = some (.int .i64 ((E x k).getD 0)) := (h.node x k b hb).cell rfl
theorem TrieM.n_cell (h : TrieM w base b0 N E n) : w.cell? ⟨b0, 4, none⟩ = some (.int .i64 n) := (h.node 0 0 b0 h.root).cell rfl
/-- A node's entry has changed. -/
theorem TrieM.setE (h : TrieM w base b0 N E n) {x k b : Nat} {E' : Nat → Nat → Option Int} (hb : N x k = some b) (hw : ∀ c, c ≠ b → w1.heap[c]? = w.heap[c]?) (hB : Blk w1 b (nodeT k) (nodeC N E' x k (nodeL k n)))
    (hE : ∀ x' k', ¬(x' = x ∧ k' = k) → E' x' k' = E x' k') : TrieM w1 base b0 N E' n := by
  refine { h with node := fun x' k' b' hb' => ?_, ent := fun x' k' v hv => ?_ }
  · by_cases e : x' = x ∧ k' = k
    · obtain ⟨rfl, rfl⟩ := e
      rw [hb] at hb'; cases hb'
      exact hB
    · have hne : b' ≠ b := fun e2 => by
        subst e2
        exact e (h.inj _ _ _ _ _ hb' hb)
      have := h.node x' k' b' hb'
      unfold Blk at *
      rw [hw b' hne, this]
      unfold nodeC
      rw [hE x' k' e]
  · by_cases e : x' = x ∧ k' = k
    · obtain ⟨rfl, rfl⟩ := e
      rw [hb]; exact fun h => nomatch h
    · rw [hE x' k' e] at hv
      exact h.ent x' k' v hv
/-- The number of entries has changed. -/
theorem TrieM.setN (h : TrieM w base b0 N E n) {n' : Int} (hw : ∀ c, c ≠ b0 → w1.heap[c]? = w.heap[c]?) (hB : Blk w1 b0 75 (nodeC N E 0 0 [.int .i64 n'])) : TrieM w1 base b0 N E n' := by
  refine { h with node := fun x' k' b' hb' => ?_ }
  by_cases e : b' = b0
  · subst e
    obtain ⟨rfl, rfl⟩ := h.inj _ _ _ _ _ hb' h.root
    exact hB
  · have := h.node x' k' b' hb'
    have hk : k' ≠ 0 := fun e2 => by
      subst e2
      have h1 := (h.can _ _ _ hb').2.1
      rw [top_zero _ (h.can _ _ _ hb').2.2] at h1
      subst h1
      rw [h.root] at hb'; cases hb'
      exact e rfl
    unfold Blk at *
    rw [hw b' e, this, nodeL, nodeL, if_neg hk, if_neg hk]
/-- A node has been added below another. -/
def addN (N : Nat → Nat → Option Nat) (x k b : Nat) : Nat → Nat → Option Nat := fun x' k' => if x' = x ∧ k' = k then some b else N x' k'
theorem TrieM.addNode (h : TrieM w base b0 N E n) {x k b bit b' : Nat} (hb : N x k = some b) (hk : k < 32) (hbit : bit < 2) (hnone : N (kidA x k bit) (k + 1) = none) (hb' : w.heap.size ≤ b') (hbase : base ≤ b')
    (hw : ∀ c, c < w.heap.size → c ≠ b → w1.heap[c]? = w.heap[c]?) (hB' : Blk w1 b' 73 [.pointer none, .pointer none, .bool false, .int .i64 0])
    (hB : Blk w1 b (nodeT k) (nodeC (addN N (kidA x k bit) (k + 1) b') E x k (nodeL k n))) : TrieM w1 base b0 (addN N (kidA x k bit) (k + 1) b') E n := by
  obtain ⟨_, hcx, hlx⟩ := h.can _ _ _ hb
  obtain ⟨ht1, ht2⟩ := kid_top hk hcx hbit
  have hold : ∀ x' k' c, N x' k' = some c → c ≠ b' := fun x' k' c hc e => by
    subst e
    have := h.lt ⟨_, _, hc⟩
    omega
  have hE0 : E (kidA x k bit) (k + 1) = none := by
    cases he : E (kidA x k bit) (k + 1) with
    | none => rfl
    | some v => exact absurd hnone (h.ent _ _ _ he)
  have hkids : ∀ bit', bit' < 2 → kid (addN N (kidA x k bit) (k + 1) b') (kidA x k bit) (k + 1) bit' = none := fun bit' hb2 => by
    unfold kid
    split
    · rename_i hlt
      rw [addN, if_neg (fun e => by omega)]
      cases hn : N (kidA (kidA x k bit) (k + 1) bit') (k + 1 + 1) with
      | none => rfl
      | some c =>
        have := h.par _ _ _ hn
        rw [(kid_top hlt ht1 hb2).2] at this
        exact absurd hnone this
    · rfl
  have cases' : ∀ x' k' c, addN N (kidA x k bit) (k + 1) b' x' k' = some c → (x' = kidA x k bit ∧ k' = k + 1 ∧ c = b') ∨ (N x' k' = some c ∧ ¬(x' = kidA x k bit ∧ k' = k + 1)) := fun x' k' c hc => by
    unfold addN at hc
    split at hc
    · rename_i e; cases hc; exact .inl ⟨e.1, e.2, rfl⟩
    · rename_i e; exact .inr ⟨hc, e⟩
  refine ⟨?_, fun x' k' c hc => ?_, fun x' k' c hc => ?_, fun x1 k1 x2 k2 c h1 h2 => ?_, fun x' k' c hc => ?_, fun x' k' v hv => ?_, fun x' k' c hc => ?_⟩
  · rw [addN, if_neg (fun e => by omega)]; exact h.root
  · rcases cases' _ _ _ hc with ⟨rfl, rfl, rfl⟩ | ⟨hc2, hne⟩
    · unfold nodeC nodeT nodeL
      rw [hkids 0 (by omega), hkids 1 (by omega), hE0, if_neg (by omega), if_neg (by omega)]
      exact hB'
    · by_cases e : c = b
      · subst e
        obtain ⟨rfl, rfl⟩ := h.inj _ _ _ _ _ hc2 hb
        exact hB
      · have hB1 := h.node _ _ _ hc2
        have hkk : ∀ bit', bit' < 2 → kid (addN N (kidA x k bit) (k + 1) b') x' k' bit' = kid N x' k' bit' := fun bit' hb2 => by
          unfold kid
          split
          · rename_i hlt
            rw [addN, if_neg]
            rintro ⟨e1, e2⟩
            obtain rfl : k' = k := by omega
            obtain ⟨rfl, _⟩ := kid_inj hlt (h.can _ _ _ hc2).2.1 hcx hb2 hbit e1
            rw [hb] at hc2; cases hc2
            exact e rfl
          · rfl
        unfold Blk nodeC at *
        rw [hw c (h.lt ⟨_, _, hc2⟩) e, hB1, hkk 0 (by omega), hkk 1 (by omega)]
  · rcases cases' _ _ _ hc with ⟨rfl, rfl, rfl⟩ | ⟨hc, _⟩
    · exact ⟨hk, ht1, kid_lt hk hcx hbit hlx⟩
    · exact h.can _ _ _ hc
  · rcases cases' _ _ _ h1 with ⟨rfl, rfl, rfl⟩ | ⟨h1, _⟩ <;> rcases cases' _ _ _ h2 with ⟨rfl, rfl, h5⟩ | ⟨h2, _⟩
    · exact ⟨rfl, rfl⟩
    · exact absurd rfl (hold _ _ _ h2)
    · exact absurd h5 (hold _ _ _ h1)
    · exact h.inj _ _ _ _ _ h1 h2
  · have key : N (top x' k') k' ≠ none := by
      rcases cases' _ _ _ hc with ⟨rfl, h5, rfl⟩ | ⟨hc, _⟩
      · obtain rfl : k' = k := by omega
        rw [ht2, hb]; exact fun h => nomatch h
      · exact h.par _ _ _ hc
    unfold addN
    split
    · exact fun h => nomatch h
    · exact key
  · have := h.ent x' k' v hv
    unfold addN
    split
    · exact fun h => nomatch h
    · exact this
  · rcases cases' _ _ _ hc with ⟨rfl, rfl, rfl⟩ | ⟨hc, _⟩
    · exact hbase
    · exact h.ge _ _ _ hc
end
end Go.Proofs.Ytphifkbeanneaaa

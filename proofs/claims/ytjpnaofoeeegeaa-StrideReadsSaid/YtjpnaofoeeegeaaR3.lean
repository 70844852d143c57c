/-
  Part 3 of the texts that the proof of this claim leans on: rules of a walk, contracts of functions, plain facts. Each piece says below what it proves.
  No conditions beyond those that each lemma states.
-/
import Derived.Test.YtjpnaofoeeegeaaR2

/-
  Stride tables (layer 8), plain: tables whose numbers agree; the compressed form's numbers, places and leaves.
  No conditions beyond those that each lemma states.
-/
namespace Go.Proofs.Ytjpnaofoeeegeaa

/-- The node numbers, and the leaf numbers, before node i. -/
def ndC (N : List Nd) (i : Nat) : Nat := 1 + ((N.take i).map fun n => rankN n.inner 64).sum
def lfC (N : List Nd) (i : Nat) : Nat := ((N.take i).map fun n => rankN n.leaf 64).sum
structure Reg (N : List Nd) (L : List Int) : Prop where
  at_ : ∀ i n, N[i]? = some n → n.nodes = (ndC N i : Int) ∧ n.first = (lfC N i : Int) ∧ n.inner &&& n.leaf = 0
  nd : ndC N N.length = N.length
  lf : lfC N N.length = L.length
  vals : ∀ v ∈ L, -1 ≤ v
theorem rank_mono (x : Nat) {a : Nat} : ∀ {b}, a ≤ b → rankN x a ≤ rankN x b
  | 0, h => by rw [Nat.le_zero.1 h]; exact Nat.le_refl _
  | b + 1, h => by
    rcases Nat.lt_or_ge a (b + 1) with h1 | h1
    · exact Nat.le_trans (rank_mono x (Nat.le_of_lt_succ h1)) (by rw [rankN]; exact Nat.le_add_right _ _)
    · rw [show a = b + 1 by omega]; exact Nat.le_refl _
theorem rank_lt {x a b : Nat} (h : a < b) (hb : x / 2 ^ a % 2 = 1) : rankN x a < rankN x b := by
  have := rank_mono x (show a + 1 ≤ b from h)
  rw [rankN, hb] at this; omega
section
variable {N : List Nd} {L : List Int} {i : Nat} {n : Nd}
theorem ndC_step (h : N[i]? = some n) : ndC N (i + 1) = ndC N i + rankN n.inner 64 := by
  unfold ndC; rw [List.take_add_one, h, List.map_append, List.sum_append]; simp; omega
theorem lfC_step (h : N[i]? = some n) : lfC N (i + 1) = lfC N i + rankN n.leaf 64 := by
  unfold lfC; rw [List.take_add_one, h, List.map_append, List.sum_append]; simp
theorem ndC_mono (N : List Nd) {i : Nat} : ∀ {j}, i ≤ j → ndC N i ≤ ndC N j
  | 0, h => by rw [Nat.le_zero.1 h]; exact Nat.le_refl _
  | j + 1, h => by
    rcases Nat.lt_or_ge i (j + 1) with h1 | h1
    · refine Nat.le_trans (ndC_mono N (Nat.le_of_lt_succ h1)) ?_
      cases hj : N[j]? with
      | some n => rw [ndC_step hj]; exact Nat.le_add_right _ _
      | none => unfold ndC; rw [List.take_add_one, hj, Option.toList_none, List.append_nil]; exact Nat.le_refl _
    · rw [show i = j + 1 by omega]; exact Nat.le_refl _
theorem lfC_mono (N : List Nd) {i : Nat} : ∀ {j}, i ≤ j → lfC N i ≤ lfC N j
  | 0, h => by rw [Nat.le_zero.1 h]; exact Nat.le_refl _
  | j + 1, h => by
    rcases Nat.lt_or_ge i (j + 1) with h1 | h1
    · refine Nat.le_trans (lfC_mono N (Nat.le_of_lt_succ h1)) ?_
      cases hj : N[j]? with
      | some n => rw [lfC_step hj]; exact Nat.le_add_right _ _
      | none => unfold lfC; rw [List.take_add_one, hj, Option.toList_none, List.append_nil]; exact Nat.le_refl _
    · rw [show i = j + 1 by omega]; exact Nat.le_refl _
/-- An inner digit's node is one of the table's. -/
theorem Reg.kid (h : Reg N L) (hi : N[i]? = some n) {x : Nat} (hx : x < 64) (hb : n.inner / 2 ^ x % 2 = 1) : ndC N i + rankN n.inner x < N.length := by
  have h1 := rank_lt hx hb
  have h2 := ndC_step hi
  have h3 := ndC_mono N (show i + 1 ≤ N.length from (List.getElem?_eq_some_iff.1 hi).1)
  rw [h.nd] at h3
  omega
/-- A digit's leaf is one of the table's. -/
theorem Reg.leaf (h : Reg N L) (hi : N[i]? = some n) {k : Nat} (hk : k ≤ 64) (hp : 0 < rankN n.leaf k) : lfC N i + rankN n.leaf k - 1 < L.length := by
  have h1 := rank_mono n.leaf hk
  have h2 := lfC_step hi
  have h3 := lfC_mono N (show i + 1 ≤ N.length from (List.getElem?_eq_some_iff.1 hi).1)
  rw [h.lf] at h3
  omega
theorem Reg.nd_le (h : Reg N L) (hi : i ≤ N.length) : ndC N i ≤ N.length := by have := ndC_mono N hi; rw [h.nd] at this; exact this
theorem Reg.lf_le (h : Reg N L) (hi : i ≤ N.length) : lfC N i ≤ L.length := by have := lfC_mono N hi; rw [h.lf] at this; exact this
end
/-! ### The compressed form's numbers -/
section
variable {f : Nat → Int} {n i : Nat} {p : Nat × Nat}
/-- All nodes of the form are there: what 'IsCf' says, at its number of nodes. -/
structure CfAt (f : Nat → Int) (n : Nat) : Prop where
  eq : n = (rowF f n).length
theorem CfAt.len (h : CfAt f n) : (ndsF f n).length = n := nds_len (Nat.le_of_eq h.eq)
theorem CfAt.place (h : CfAt f n) (hi : i < n) : ∃ p, (rowF f i)[i]? = some p := row_lt (Nat.le_of_eq h.eq) hi
theorem CfAt.node (h : CfAt f n) (hp : (rowF f i)[i]? = some p) (hi : i < n) : (ndsF f n)[i]? = some (ndF f i p) := nds_at (Nat.le_of_eq h.eq) hi hp
theorem CfAt.nums (h : CfAt f n) : ∀ i, i ≤ n → ndC (ndsF f n) i = (rowF f i).length ∧ lfC (ndsF f n) i = (lvF f i).length
  | 0, _ => ⟨rfl, rfl⟩
  | i + 1, hi => by
    obtain ⟨p, hp⟩ := h.place (show i < n from hi)
    obtain ⟨h1, h2⟩ := h.nums i (by omega)
    have hn := h.node hp hi
    rw [ndC_step hn, lfC_step hn, h1, h2, row_step hp, lv_step hp, List.length_append, List.length_append, kdP_len, lvP_len]
    unfold ndF
    dsimp only
    rw [mkW_rank _ _ _ (Nat.le_refl _), mkW_rank _ _ _ (Nat.le_refl _)]
    exact ⟨rfl, rfl⟩
theorem st_in {x : Nat} (h : inB f p x = true) : stB f p x = false := by
  have hK : digK f p x = some none := by
    unfold inB at h
    split at h
    · assumption
    · cases h
  unfold stB; rw [hK]
theorem in_and_st (f : Nat → Int) (p : Nat × Nat) : mkW (inB f p) 64 &&& mkW (stB f p) 64 = 0 := by
  refine Nat.eq_of_testBit_eq fun i => ?_
  rw [Nat.testBit_and, Nat.zero_testBit]
  have e1 := testBit_val (mkW (inB f p) 64) i
  have e2 := testBit_val (mkW (stB f p) 64) i
  rw [mkW_bit] at e1 e2
  cases hi : inB f p i with
  | false =>
    rw [hi, Bool.and_false] at e1
    have : (mkW (inB f p) 64).testBit i = false := by
      cases hb : (mkW (inB f p) 64).testBit i with
      | false => rfl
      | true => rw [hb] at e1; cases e1
    rw [this]; rfl
  | true =>
    rw [st_in hi, Bool.and_false] at e2
    have : (mkW (stB f p) 64).testBit i = false := by
      cases hb : (mkW (stB f p) 64).testBit i with
      | false => rfl
      | true => rw [hb] at e2; cases e2
    rw [this, Bool.and_false]
theorem lvP_vals {P : Int → Prop} (hf : ∀ a, a < 4294967296 → P (f a)) (hp : PlOk p) : ∀ x, x ≤ 64 → ∀ v ∈ lvP f p x, P v
  | 0, _, v, hv => by cases hv
  | x + 1, hx, v, hv => by
    rw [lvP] at hv
    split at hv
    · rename_i u hu
      split at hv
      · exact lvP_vals hf hp x (by omega) v hv
      · rcases List.mem_append.1 hv with hv | hv
        · exact lvP_vals hf hp x (by omega) v hv
        · rw [List.mem_singleton.1 hv]
          have h1 := dig_in (base := p.1) hp.1 (show x < 64 by omega)
          have h2 := hp.2
          have h3 := nsz_pos (p.2 + 1)
          unfold digK at hu
          split at hu
          · split at hu
            · cases hu; exact hf _ (by omega)
            · cases hu
          · cases hu
    · exact lvP_vals hf hp x (by omega) v hv
theorem lv_vals {P : Int → Prop} (hf : ∀ a, a < 4294967296 → P (f a)) : ∀ i, ∀ v ∈ lvF f i, P v
  | 0, v, hv => by cases hv
  | i + 1, v, hv => by
    rw [lvF] at hv
    split at hv
    · rename_i p hp
      rcases List.mem_append.1 hv with hv | hv
      · exact lv_vals hf i v hv
      · exact lvP_vals hf (plOk_row f i p (List.mem_of_getElem? hp)) 64 (Nat.le_refl _) v hv
    · exact lv_vals hf i v hv
/-- The form of a function with no value below -1 is one whose numbers agree. -/
theorem CfAt.reg (h : CfAt f n) (hf : ∀ a, a < 4294967296 → -1 ≤ f a) : Reg (ndsF f n) (lvF f n) := by
  have hn := h.nums n (Nat.le_refl _)
  refine ⟨fun i x hx => ?_, ?_, ?_, lv_vals hf n⟩
  · have hi : i < n := by have := (List.getElem?_eq_some_iff.1 hx).1; rw [h.len] at this; exact this
    obtain ⟨p, hp⟩ := h.place hi
    rw [h.node hp hi] at hx
    cases hx
    obtain ⟨h1, h2⟩ := h.nums i (Nat.le_of_lt hi)
    exact ⟨by rw [h1]; rfl, by rw [h2]; rfl, in_and_st f p⟩
  · rw [h.len, hn.1]; exact h.eq.symm
  · rw [h.len, hn.2]
/-- A digit's bit. -/
theorem CfAt.bit (f : Nat → Int) (i : Nat) (p : Nat × Nat) {x : Nat} (hx : x < 64) : (ndF f i p).inner / 2 ^ x % 2 = if inB f p x then 1 else 0 := by
  unfold ndF
  dsimp only
  rw [mkW_bit, decide_eq_true hx, Bool.true_and]
/-- The place of an inner digit's node. -/
theorem CfAt.kid (_h : CfAt f n) (hp : (rowF f i)[i]? = some p) {x : Nat} (hx : x < 64) (hin : inB f p x = true) : (rowF f (i + 1))[(rowF f i).length + rankN (ndF f i p).inner x]? = some (digLo p.2 p.1 x, p.2 + 1) := by
  unfold ndF
  dsimp only
  rw [mkW_rank _ _ _ (Nat.le_of_lt hx), row_step hp, List.getElem?_append_right (Nat.le_add_right _ _), Nat.add_sub_cancel_left]
  exact kdP_at hin hx
theorem CfAt.kid_lt (h : CfAt f n) (hi : i < n) (hp : (rowF f i)[i]? = some p) {x : Nat} (hx : x < 64) (hin : inB f p x = true) : (rowF f i).length + rankN (ndF f i p).inner x < n ∧ i < (rowF f i).length + rankN (ndF f i p).inner x := by
  have h1 := h.kid hp hx hin
  have h2 := get_prefix (row_pre f (show i + 1 ≤ n from hi)) h1
  have h3 := (List.getElem?_eq_some_iff.1 h2).1
  rw [← h.eq] at h3
  exact ⟨h3, Nat.lt_of_lt_of_le (List.getElem?_eq_some_iff.1 hp).1 (Nat.le_add_right _ _)⟩
/-- A place stands in the row from then on. -/
theorem CfAt.stands (_h : CfAt f n) {j k : Nat} {q : Nat × Nat} (hk : (rowF f k)[j]? = some q) (hkn : k ≤ j) : (rowF f j)[j]? = some q := get_prefix (row_pre f hkn) hk
/-- A digit that is not inner has a leaf: its own, or the last one before it. -/
theorem CfAt.leaf (_h : CfAt f n) (hi : i < n) (hp : (rowF f i)[i]? = some p) {x : Nat} (hx : x < 64) (hin : inB f p x = false) : 0 < rankN (ndF f i p).leaf (x + 1) ∧
    ∀ v, digK f p x = some (some v) → (lvF f n)[(lvF f i).length + rankN (ndF f i p).leaf (x + 1) - 1]? = some v := by
  have e : rankN (ndF f i p).leaf (x + 1) = cntW (stB f p) (x + 1) := by unfold ndF; dsimp only; exact mkW_rank _ _ _ hx
  rw [e]
  refine ⟨?_, fun v hv => ?_⟩
  · cases hok : digOk p.2 x with
    | true =>
      have hK : ∃ v, digK f p x = some (some v) := by
        have hne : digK f p x ≠ some none := fun e => by unfold inB at hin; rw [e] at hin; cases hin
        unfold digK at hne ⊢
        rw [if_pos hok] at hne ⊢
        split at hne
        · rename_i hf; rw [if_pos hf]; exact ⟨_, rfl⟩
        · exact absurd rfl hne
      obtain ⟨v, hv⟩ := hK
      exact (lvP_at hv (Nat.lt_succ_self x)).1
    | false =>
      have hpk := plOk_row f i p (List.mem_of_getElem? hp)
      obtain ⟨e5, _⟩ := digTo_skip (base := p.1) hpk.1 hok
      obtain ⟨pb, pd⟩ := p
      dsimp only at e5 hok
      subst e5
      have h0 : digK f (pb, 5) 0 = some (some (f (digLo 5 pb 0))) := by
        unfold digK
        have hf : flat f (digLo 5 pb 0) (digLo 5 pb 0 + nsz (5 + 1)) = true := flat_one f _
        dsimp only
        rw [if_pos (show digOk 5 0 = true from rfl), hf]; rfl
      have := (lvP_at h0 (show 0 < 1 by omega)).1
      exact Nat.lt_of_lt_of_le this (cntW_mono _ (by omega))
  · obtain ⟨h1, h2⟩ := lvP_at hv hx
    have h3 : (lvF f (i + 1))[(lvF f i).length + cntW (stB f p) (x + 1) - 1]? = some v := by
      rw [lv_step hp, List.getElem?_append_right (by omega), show (lvF f i).length + cntW (stB f p) (x + 1) - 1 - (lvF f i).length = cntW (stB f p) (x + 1) - 1 by omega]
      exact h2
    exact get_prefix (lv_pre f hi) h3
end
end Go.Proofs.Ytjpnaofoeeegeaa


/-
  Stride tables (layer 8): regular, leaf.
  Conditions: the lists are not too long for a machine; the words are words of 64 bits.
-/
namespace Go.Proofs.Ytjpnaofoeeegeaa
open Go.RowKit

theorem neg_v (v : Int) (w : World) : Calls Try.prog 107 #[.int .i64 v] w (Ret (.bool (decide (v < -1))) w) := by
  refine V_enter (vs := [_]) Try.func107 rfl Try.ntmps107 (Nat.le_of_ble_eq_true rfl) ?_
  repeat (first | refine Vx ?_ | (apply Ops_q; (case hon => exact Va); (case hd => rfl); (case hq => exact YlA)) | refine Vr ?_ | refine Vt ?_ | refine Vf ?_ | refine Vm ?_ | refine Ve ?_ | refine Vo ?_ | refine Vz ?_ | refine Vn ?_)
  refine ret1 (by first | exact .inl rfl | exact .inr rfl) rfl rfl ?_
  exact Ret_mk rfl (Ext.refl _)
theorem indexNeg_v (ao : Option Addr) (L : List Int) (c : Nat) (w : World) (hL : Ins w ao L) (hn : L.length ≤ 4611686018427387904) :
    Calls Try.prog 121 #[.slice ao L.length c, .func (.func 107) #[] #[]] w (Gives (fun r _ => ∃ k : Int, r = .int .i64 k ∧ -1 ≤ k ∧ k ≤ 4611686018427387904 ∧ (0 ≤ k ↔ ∃ v ∈ L, v < -1)) w) := by
  refine V_enter (vs := [_, _]) Try.func121 rfl Try.ntmps121 (Nat.le_of_ble_eq_true rfl) ?_
  repeat (first | refine Vx ?_ | (apply Ops_q; (case hon => exact Va); (case hd => rfl); (case hq => exact YlA)) | refine Vr ?_ | refine Vt ?_ | refine Vf ?_ | refine Vm ?_ | refine Ve ?_ | refine Vo ?_ | refine Vz ?_ | refine Vn ?_)
  refine V_loop (fun k : Nat => [(8, .int .i64 k), (7, .int .i64 L.length), (0, .slice ao L.length c), (1, .func (.func 107) #[] #[])]) (fun k w' => w' = w ∧ k ≤ L.length ∧ ∀ v ∈ L.take k, ¬v < -1) (fun k => L.length - k) 0 (by repeat (first | exact trivial | refine ⟨rfl, ?_⟩)) ⟨rfl, Nat.zero_le _, fun v h => by cases h⟩ ?_
  rintro k w1 ⟨rfl, hk, hs⟩
  repeat (first | refine Vx ?_ | (apply Ops_q; (case hon => exact Va); (case hd => rfl); (case hq => exact YlA)) | refine Vr ?_ | refine Vt ?_ | refine Vf ?_ | refine Vm ?_ | refine Ve ?_ | refine Vo ?_ | refine Vz ?_ | refine Vn ?_)
  refine V_cond rfl (fun hg => ?_) (fun hg => ?_)
  · have hkl : k < L.length := by have := of_decide_eq_true hg; omega
    clear hg
    obtain ⟨x, hx⟩ : ∃ x, L[k]? = some x := ⟨_, List.getElem?_eq_getElem hkl⟩
    obtain ⟨ad, rfl, hc⟩ := hL.at hx
    repeat (first | refine Vx ?_ | (apply Ops_q; (case hon => exact Va); (case hd => rfl); (case hq => exact YlA)) | refine Vr ?_ | refine Vt ?_ | refine Vf ?_ | refine Vm ?_ | refine Ve ?_ | refine Vo ?_ | refine Vz ?_ | refine Vn ?_)
    (apply Ops_q; (case hon => (exact Va)); (case hd => rfl); (case hq => exact Yl_indexS (j := k) rfl rfl (by omega)))
    repeat (first | refine Vx ?_ | (apply Ops_q; (case hon => exact Va); (case hd => rfl); (case hq => exact YlA)) | refine Vr ?_ | refine Vt ?_ | refine Vf ?_ | refine Vm ?_ | refine Ve ?_ | refine Vo ?_ | refine Vz ?_ | refine Vn ?_)
    (apply Ops_q; (case hon => (exact Va)); (case hd => rfl); (case hq => exact Yl_callv rfl rfl (fun w_ e_ => neg_v x w_)))
    repeat (first | refine Vx ?_ | (apply Ops_q; (case hon => exact Va); (case hd => rfl); (case hq => exact YlA)) | refine Vr ?_ | refine Vt ?_ | refine Vf ?_ | refine Vm ?_ | refine Ve ?_ | refine Vo ?_ | refine Vz ?_ | refine Vn ?_)
    refine V_cond rfl (fun hx2 => ?_) (fun hx2 => ?_)
    · have hx3 := of_decide_eq_true hx2
      clear hx2
      repeat (first | refine Vx ?_ | (apply Ops_q; (case hon => exact Va); (case hd => rfl); (case hq => exact YlA)) | refine Vr ?_ | refine Vt ?_ | refine Vf ?_ | refine Vm ?_ | refine Ve ?_ | refine Vo ?_ | refine Vz ?_ | refine Vn ?_)
      refine ret1 (by first | exact .inl rfl | exact .inr rfl) rfl rfl ?_
      exact Gives_mk (fun _ _ => ⟨_, rfl, by omega, by omega, ⟨fun _ => ⟨x, List.mem_of_getElem? hx, hx3⟩, fun _ => by omega⟩⟩) (Ext.refl _)
    · have hx3 := of_decide_eq_false hx2
      clear hx2
      repeat (first | refine Vx ?_ | (apply Ops_q; (case hon => exact Va); (case hd => rfl); (case hq => exact YlA)) | refine Vr ?_ | refine Vt ?_ | refine Vf ?_ | refine Vm ?_ | refine Ve ?_ | refine Vo ?_ | refine Vz ?_ | refine Vn ?_)
      refine ⟨k + 1, (by repeat (first | exact trivial | refine ⟨rfl, ?_⟩)), ⟨rfl, hkl, fun v hv => ?_⟩, by omega⟩
      rw [List.take_add_one, hx, List.mem_append] at hv
      rcases hv with hv | hv
      · exact hs v hv
      · simp at hv; rw [hv]; exact hx3
  · obtain rfl : k = L.length := by have := of_decide_eq_false hg; omega
    rw [List.take_length] at hs
    repeat (first | refine Vx ?_ | (apply Ops_q; (case hon => exact Va); (case hd => rfl); (case hq => exact YlA)) | refine Vr ?_ | refine Vt ?_ | refine Vf ?_ | refine Vm ?_ | refine Ve ?_ | refine Vo ?_ | refine Vz ?_ | refine Vn ?_)
    refine ret1 (by first | exact .inl rfl | exact .inr rfl) rfl rfl ?_
    exact Gives_mk (fun _ _ => ⟨_, rfl, by omega, by omega, ⟨fun h => by omega, fun ⟨v, h1, h2⟩ => absurd h2 (hs v h1)⟩⟩) (Ext.refl _)
theorem containsNeg_v (ao : Option Addr) (L : List Int) (c : Nat) (w : World) (hL : Ins w ao L) (hn : L.length ≤ 4611686018427387904) :
    Calls Try.prog 106 #[.slice ao L.length c, .func (.func 107) #[] #[]] w (Gives (fun r _ => ∃ b : Bool, r = .bool b ∧ (b = true ↔ ∃ v ∈ L, v < -1)) w) := by
  refine V_enter (vs := [_, _]) Try.func106 rfl Try.ntmps106 (Nat.le_of_ble_eq_true rfl) ?_
  repeat (first | refine Vx ?_ | (apply Ops_q; (case hon => exact Va); (case hd => rfl); (case hq => exact YlA)) | refine Vr ?_ | refine Vt ?_ | refine Vf ?_ | refine Vm ?_ | refine Ve ?_ | refine Vo ?_ | refine Vz ?_ | refine Vn ?_)
  (refine Ops_callR (by exact Va) rfl rfl (fun w_ e_ => indexNeg_v ao L c w_ (hL.ext e_) hn) ?_; intro v w1 w0_ e0_ e1_ r_v; have e_w1 := e0_.trans e1_; have b_v := e0_.size; clear e0_ e1_)
  obtain ⟨k, rfl, hk1, hk2, hk⟩ := r_v
  repeat (first | refine Vx ?_ | (apply Ops_q; (case hon => exact Va); (case hd => rfl); (case hq => exact YlA)) | refine Vr ?_ | refine Vt ?_ | refine Vf ?_ | refine Vm ?_ | refine Ve ?_ | refine Vo ?_ | refine Vz ?_ | refine Vn ?_)
  refine ret1 (by first | exact .inl rfl | exact .inr rfl) rfl rfl ?_
  exact Gives_mk (fun _ _ => ⟨_, rfl, by rw [decide_eq_true_eq]; exact hk⟩) e_w1
theorem ndC_le (N : List Nd) : ∀ i, ndC N i ≤ 1 + i * 64
  | 0 => by simp [ndC]
  | i + 1 => by
    have h1 := ndC_le N i
    cases hj : N[i]? with
    | some n => rw [ndC_step hj]; have := rankN_le n.inner 64; omega
    | none => unfold ndC at h1 ⊢; rw [List.take_add_one, hj, Option.toList_none, List.append_nil]; omega
theorem lfC_le (N : List Nd) : ∀ i, lfC N i ≤ i * 64
  | 0 => by simp [lfC]
  | i + 1 => by
    have h1 := lfC_le N i
    cases hj : N[i]? with
    | some n => rw [lfC_step hj]; have := rankN_le n.leaf 64; omega
    | none => unfold lfC at h1 ⊢; rw [List.take_add_one, hj, Option.toList_none, List.append_nil]; omega
/-- The words are words. -/
def NdW (N : List Nd) : Prop := ∀ x ∈ N, x.inner < 18446744073709551616 ∧ x.leaf < 18446744073709551616
theorem int_le {v : Int} (h : ¬v < -1) : -1 ≤ v := by omega
set_option maxHeartbeats 1000000 in
theorem regular_v (aN aL : Option Addr) (N : List Nd) (L : List Int) (cN cL : Nat) (w : World) (hN : Nds w aN N) (hL : Ins w aL L) (hW : NdW N) (hn : N.length ≤ 80000000000) (hl : L.length ≤ 4611686018427387904) :
    Calls Try.prog 89 #[.agg #[.slice aN N.length cN, .slice aL L.length cL]] w (Gives (fun r _ => ∃ b : Bool, r = .bool b ∧ (b = true ↔ Reg N L)) w) := by
  refine V_enter (vs := [_]) Try.func89 rfl Try.ntmps89 (Nat.le_of_ble_eq_true rfl) ?_
  repeat (first | refine Vx ?_ | (apply Ops_q; (case hon => exact Va); (case hd => rfl); (case hq => exact YlA)) | refine Vr ?_ | refine Vt ?_ | refine Vf ?_ | refine Vm ?_ | refine Ve ?_ | refine Vo ?_ | refine Vz ?_ | refine Vn ?_)
  (refine Ops_box (by exact Va) rfl rfl rfl ?_; intro w1 b1 n_b1; have k_b1 := n_b1.blk)
  have x1 := n_b1.ext
  clear n_b1
  repeat (first | refine Vx ?_ | (apply Ops_q; (case hon => exact Va); (case hd => rfl); (case hq => exact YlA)) | refine Vr ?_ | refine Vt ?_ | refine Vf ?_ | refine Vm ?_ | refine Ve ?_ | refine Vo ?_ | refine Vz ?_ | refine Vn ?_)
  refine V_loop (fun k : Nat => [(10, .int .i64 k), (9, .int .i64 N.length), (8, .slice aN N.length cN), (3, .int .i64 (ndC N k)), (4, .int .i64 (lfC N k)), (1, .pointer (some ⟨b1, 0, none⟩))])
    (fun k w' => Ext w1 w' ∧ k ≤ N.length ∧ ∀ i x, i < k → N[i]? = some x → x.nodes = (ndC N i : Int) ∧ x.first = (lfC N i : Int) ∧ x.inner &&& x.leaf = 0) (fun k => N.length - k) 0 (by repeat (first | exact trivial | refine ⟨rfl, ?_⟩)) ⟨Ext.refl _, Nat.zero_le _, fun i x h => by omega⟩ ?_
  rintro k w2 ⟨x2, hk, hs⟩
  repeat (first | refine Vx ?_ | (apply Ops_q; (case hon => exact Va); (case hd => rfl); (case hq => exact YlA)) | refine Vr ?_ | refine Vt ?_ | refine Vf ?_ | refine Vm ?_ | refine Ve ?_ | refine Vo ?_ | refine Vz ?_ | refine Vn ?_)
  refine V_cond rfl (fun hg => ?_) (fun hg => ?_)
  · have hkl : k < N.length := by have := of_decide_eq_true hg; omega
    clear hg
    obtain ⟨x, hx⟩ : ∃ x, N[k]? = some x := ⟨_, List.getElem?_eq_getElem hkl⟩
    obtain ⟨ad, rfl, hc⟩ := hN.at hx
    obtain ⟨hw1, hw2⟩ := hW x (List.mem_of_getElem? hx)
    have hc1 : Cells w2 (ad.add (k * 4)) [.int .u64 x.inner, .int .u64 x.leaf, .int .i64 x.nodes, .int .i64 x.first] := hc.ext (x1.trans x2)
    have q1 := ndC_le N k
    have q2 := lfC_le N k
    have q3 := rankN_le x.inner 64
    have q4 := rankN_le x.leaf 64
    have s1 := ndC_step hx
    have s2 := lfC_step hx
    have e1 : (ndC N k : Int) + (rankN x.inner 64 : Int) = ((ndC N (k + 1) : Nat) : Int) := by rw [s1, Int.natCast_add]
    have e2 : (lfC N k : Int) + (rankN x.leaf 64 : Int) = ((lfC N (k + 1) : Nat) : Int) := by rw [s2, Int.natCast_add]
    repeat (first | refine Vx ?_ | (apply Ops_q; (case hon => exact Va); (case hd => rfl); (case hq => exact YlA)) | refine Vr ?_ | refine Vt ?_ | refine Vf ?_ | refine Vm ?_ | refine Ve ?_ | refine Vo ?_ | refine Vz ?_ | refine Vn ?_)
    (apply Ops_q; (case hon => (exact Va)); (case hd => rfl); (case hq => exact Yl_indexS (j := k) rfl rfl (by omega)))
    repeat (first | refine Vx ?_ | (apply Ops_q; (case hon => exact Va); (case hd => rfl); (case hq => exact YlA)) | refine Vr ?_ | refine Vt ?_ | refine Vf ?_ | refine Vm ?_ | refine Ve ?_ | refine Vo ?_ | refine Vz ?_ | refine Vn ?_)
    (refine Ops_alloc (by exact Va) rfl ?_; intro w3 b3 n_b3; have k_b3 := n_b3.blk)
    repeat (first | refine Vx ?_ | (apply Ops_q; (case hon => exact Va); (case hd => rfl); (case hq => exact YlA)) | refine Vr ?_ | refine Vt ?_ | refine Vf ?_ | refine Vm ?_ | refine Ve ?_ | refine Vo ?_ | refine Vz ?_ | refine Vn ?_)
    (refine Ops_store (by exact Va) rfl rfl (by assumption) (by first | rfl | exact OneAll.h) ?_; intro w4 u_w4; have k_b3 := u_w4.blk)
    have x4 := u_w4.below (x2.trans n_b3.ext) (Nat.le_trans x2.size n_b3.ge)
    clear u_w4 n_b3
    have hbad : ∀ b : Bool, b = false → ¬(x.nodes = (ndC N k : Int) ∧ x.first = (lfC N k : Int) ∧ x.inner &&& x.leaf = 0) → ∀ w', Ext w4 w' → ∃ b' : Bool, Value.bool b = Value.bool b' ∧ (b' = true ↔ Reg N L) := fun b hb hno _ _ => ⟨b, rfl, by rw [hb]; exact ⟨(fun h => by cases h), fun h => absurd (h.at_ k x hx) hno⟩⟩
    repeat (first | refine Vx ?_ | (apply Ops_q; (case hon => exact Va); (case hd => rfl); (case hq => exact YlA)) | refine Vr ?_ | refine Vt ?_ | refine Vf ?_ | refine Vm ?_ | refine Ve ?_ | refine Vo ?_ | refine Vz ?_ | refine Vn ?_)
    by_cases t1 : x.nodes = (ndC N k : Int)
    · have d1 : (!decide (x.nodes = (ndC N k : Int))) = false := by rw [decide_eq_true t1]; rfl
      refine Ops_know rfl rfl d1 ?_
      repeat (first | refine Vx ?_ | (apply Ops_q; (case hon => exact Va); (case hd => rfl); (case hq => exact YlA)) | refine Vr ?_ | refine Vt ?_ | refine Vf ?_ | refine Vm ?_ | refine Ve ?_ | refine Vo ?_ | refine Vz ?_ | refine Vn ?_)
      by_cases t2 : x.first = (lfC N k : Int)
      · have d2 : (!decide (x.first = (lfC N k : Int))) = false := by rw [decide_eq_true t2]; rfl
        refine Ops_know rfl rfl d2 ?_
        repeat (first | refine Vx ?_ | (apply Ops_q; (case hon => exact Va); (case hd => rfl); (case hq => exact YlA)) | refine Vr ?_ | refine Vt ?_ | refine Vf ?_ | refine Vm ?_ | refine Ve ?_ | refine Vo ?_ | refine Vz ?_ | refine Vn ?_)
        have ea : bits .and .u64 (x.inner : Int) (x.leaf : Int) = ((x.inner &&& x.leaf : Nat) : Int) := u64_and_nat _ _ hw1 hw2
        rw [ea]
        by_cases t3 : x.inner &&& x.leaf = 0
        · have d3 : (!decide (((x.inner &&& x.leaf : Nat) : Int) = 0)) = false := by rw [decide_eq_true (by omega)]; rfl
          refine V_no rfl d3 ?_
          repeat (first | refine Vx ?_ | (apply Ops_q; (case hon => exact Va); (case hd => rfl); (case hq => exact YlA)) | refine Vr ?_ | refine Vt ?_ | refine Vf ?_ | refine Vm ?_ | refine Ve ?_ | refine Vo ?_ | refine Vz ?_ | refine Vn ?_)
          (apply Ops_q; (case hon => (exact Va)); (case hd => rfl); (case hq => exact Yl_call rfl (fun w_ e_ => ones_v x.inner w_ hw1)))
          repeat (first | refine Vx ?_ | (apply Ops_q; (case hon => exact Va); (case hd => rfl); (case hq => exact YlA)) | refine Vr ?_ | refine Vt ?_ | refine Vf ?_ | refine Vm ?_ | refine Ve ?_ | refine Vo ?_ | refine Vz ?_ | refine Vn ?_)
          rw [e1]
          (apply Ops_q; (case hon => (exact Va)); (case hd => rfl); (case hq => exact Yl_call rfl (fun w_ e_ => ones_v x.leaf w_ hw2)))
          repeat (first | refine Vx ?_ | (apply Ops_q; (case hon => exact Va); (case hd => rfl); (case hq => exact YlA)) | refine Vr ?_ | refine Vt ?_ | refine Vf ?_ | refine Vm ?_ | refine Ve ?_ | refine Vo ?_ | refine Vz ?_ | refine Vn ?_)
          rw [e2]
          refine ⟨k + 1, (by repeat (first | exact trivial | refine ⟨rfl, ?_⟩)), ⟨x4, hkl, fun i y hi hy => ?_⟩, by omega⟩
          rcases Nat.lt_or_ge i k with h1 | h1
          · exact hs i y h1 hy
          · obtain rfl : i = k := by omega
            rw [hx] at hy; cases hy
            exact ⟨t1, t2, t3⟩
        · have d3 : (!decide (((x.inner &&& x.leaf : Nat) : Int) = 0)) = true := by rw [decide_eq_false (by omega)]; rfl
          refine V_yes rfl d3 ?_
          repeat (first | refine Vx ?_ | (apply Ops_q; (case hon => exact Va); (case hd => rfl); (case hq => exact YlA)) | refine Vr ?_ | refine Vt ?_ | refine Vf ?_ | refine Vm ?_ | refine Ve ?_ | refine Vo ?_ | refine Vz ?_ | refine Vn ?_)
          refine ret1 (by first | exact .inl rfl | exact .inr rfl) rfl rfl ?_
          exact Gives_mk (hbad false rfl (fun h => t3 h.2.2)) (x1.trans x4)
      · have d2 : (!decide (x.first = (lfC N k : Int))) = true := by rw [decide_eq_false t2]; rfl
        refine Ops_know rfl rfl d2 ?_
        repeat (first | refine Vx ?_ | (apply Ops_q; (case hon => exact Va); (case hd => rfl); (case hq => exact YlA)) | refine Vr ?_ | refine Vt ?_ | refine Vf ?_ | refine Vm ?_ | refine Ve ?_ | refine Vo ?_ | refine Vz ?_ | refine Vn ?_)
        refine ret1 (by first | exact .inl rfl | exact .inr rfl) rfl rfl ?_
        exact Gives_mk (hbad false rfl (fun h => t2 h.2.1)) (x1.trans x4)
    · have d1 : (!decide (x.nodes = (ndC N k : Int))) = true := by rw [decide_eq_false t1]; rfl
      refine Ops_know rfl rfl d1 ?_
      repeat (first | refine Vx ?_ | (apply Ops_q; (case hon => exact Va); (case hd => rfl); (case hq => exact YlA)) | refine Vr ?_ | refine Vt ?_ | refine Vf ?_ | refine Vm ?_ | refine Ve ?_ | refine Vo ?_ | refine Vz ?_ | refine Vn ?_)
      refine ret1 (by first | exact .inl rfl | exact .inr rfl) rfl rfl ?_
      exact Gives_mk (hbad false rfl (fun h => t1 h.1)) (x1.trans x4)
  · obtain rfl : k = N.length := by have := of_decide_eq_false hg; omega
    replace k_b1 := k_b1.ext x2
    have hat : ∀ i x, N[i]? = some x → x.nodes = (ndC N i : Int) ∧ x.first = (lfC N i : Int) ∧ x.inner &&& x.leaf = 0 := fun i x h => hs i x (List.getElem?_eq_some_iff.1 h).1 h
    have hxe := x1.trans x2
    repeat (first | refine Vx ?_ | (apply Ops_q; (case hon => exact Va); (case hd => rfl); (case hq => exact YlA)) | refine Vr ?_ | refine Vt ?_ | refine Vf ?_ | refine Vm ?_ | refine Ve ?_ | refine Vo ?_ | refine Vz ?_ | refine Vn ?_)
    by_cases t1 : ndC N N.length = N.length
    · have d1 : decide ((ndC N N.length : Int) = (N.length : Int)) = true := decide_eq_true (by omega)
      refine Ops_know rfl rfl d1 ?_
      repeat (first | refine Vx ?_ | (apply Ops_q; (case hon => exact Va); (case hd => rfl); (case hq => exact YlA)) | refine Vr ?_ | refine Vt ?_ | refine Vf ?_ | refine Vm ?_ | refine Ve ?_ | refine Vo ?_ | refine Vz ?_ | refine Vn ?_)
      by_cases t2 : lfC N N.length = L.length
      · have d2 : decide ((lfC N N.length : Int) = (L.length : Int)) = true := decide_eq_true (by omega)
        refine Ops_know rfl rfl d2 ?_
        repeat (first | refine Vx ?_ | (apply Ops_q; (case hon => exact Va); (case hd => rfl); (case hq => exact YlA)) | refine Vr ?_ | refine Vt ?_ | refine Vf ?_ | refine Vm ?_ | refine Ve ?_ | refine Vo ?_ | refine Vz ?_ | refine Vn ?_)
        (refine Ops_callR (by exact Va) rfl rfl (fun w_ e_ => containsNeg_v aL L cL w_ (hL.ext (hxe.trans e_)) hl) ?_; intro v w3 w0_ e0_ e1_ r_v; have e_w3 := e0_.trans e1_; have b_v := e0_.size; clear e0_ e1_)
        obtain ⟨b, rfl, hb⟩ := r_v
        repeat (first | refine Vx ?_ | (apply Ops_q; (case hon => exact Va); (case hd => rfl); (case hq => exact YlA)) | refine Vr ?_ | refine Vt ?_ | refine Vf ?_ | refine Vm ?_ | refine Ve ?_ | refine Vo ?_ | refine Vz ?_ | refine Vn ?_)
        refine ret1 (by first | exact .inl rfl | exact .inr rfl) rfl rfl ?_
        refine Gives_mk (fun _ _ => ⟨_, rfl, ?_⟩) (hxe.trans e_w3)
        constructor
        · intro h
          have h2 : b = false := by simpa using h
          exact ⟨hat, t1, t2, fun v hv => int_le fun h3 => by rw [h2] at hb; exact absurd (hb.2 ⟨v, hv, h3⟩) (by decide)⟩
        · intro h
          have : b ≠ true := fun h2 => by
            obtain ⟨v, h3, h4⟩ := hb.1 h2
            have := h.vals v h3; omega
          simpa using this
      · have d2 : decide ((lfC N N.length : Int) = (L.length : Int)) = false := decide_eq_false (by omega)
        refine Ops_know rfl rfl d2 ?_
        repeat (first | refine Vx ?_ | (apply Ops_q; (case hon => exact Va); (case hd => rfl); (case hq => exact YlA)) | refine Vr ?_ | refine Vt ?_ | refine Vf ?_ | refine Vm ?_ | refine Ve ?_ | refine Vo ?_ | refine Vz ?_ | refine Vn ?_)
        refine ret1 (by first | exact .inl rfl | exact .inr rfl) rfl rfl ?_
        exact Gives_mk (fun _ _ => ⟨_, rfl, ⟨(fun h => by cases h), fun h => absurd h.lf t2⟩⟩) hxe
    · have d1 : decide ((ndC N N.length : Int) = (N.length : Int)) = false := decide_eq_false (by omega)
      refine Ops_know rfl rfl d1 ?_
      repeat (first | refine Vx ?_ | (apply Ops_q; (case hon => exact Va); (case hd => rfl); (case hq => exact YlA)) | refine Vr ?_ | refine Vt ?_ | refine Vf ?_ | refine Vm ?_ | refine Ve ?_ | refine Vo ?_ | refine Vz ?_ | refine Vn ?_)
      refine ret1 (by first | exact .inl rfl | exact .inr rfl) rfl rfl ?_
      exact Gives_mk (fun _ _ => ⟨_, rfl, ⟨(fun h => by cases h), fun h => absurd h.nd t1⟩⟩) hxe
/-! ### leaf -/
/-- The value of a leaf, if there is one. -/
def leafV (L : List Int) (lf k : Nat) : Int := if k = 0 then 0 else (L[lf + k - 1]?).getD 0
theorem leaf_v (aN aL : Option Addr) (n : Nat) (L : List Int) (cN cL : Nat) (x : Nd) (lf k : Nat) (w : World) (hL : Ins w aL L) (hx : x.leaf < 18446744073709551616) (hf : x.first = (lf : Int)) (hk : k < 64) (hin : 0 < rankN x.leaf (k + 1) → lf + rankN x.leaf (k + 1) - 1 < L.length) (hl : L.length ≤ 4611686018427387904) (hlf : lf ≤ 4611686018427387904) :
    Calls Try.prog 44 #[.agg #[.slice aN n cN, .slice aL L.length cL], .agg #[.int .u64 x.inner, .int .u64 x.leaf, .int .i64 x.nodes, .int .i64 x.first], .int .i64 k] w
      (Ret (.tuple #[.int .i64 (leafV L lf (rankN x.leaf (k + 1))), .bool (!decide (rankN x.leaf (k + 1) = 0))]) w) := by
  rw [hf]
  have q1 := rankN_le x.leaf (k + 1)
  have ek : (k : Int) + 1 = ((k + 1 : Nat) : Int) := by omega
  refine V_enter (vs := [_, _, _]) Try.func44 rfl Try.ntmps44 (Nat.le_of_ble_eq_true rfl) ?_
  repeat (first | refine Vx ?_ | (apply Ops_q; (case hon => exact Va); (case hd => rfl); (case hq => exact YlA)) | refine Vr ?_ | refine Vt ?_ | refine Vf ?_ | refine Vm ?_ | refine Ve ?_ | refine Vo ?_ | refine Vz ?_ | refine Vn ?_)
  (refine Ops_box (by exact Va) rfl rfl rfl ?_; intro w1 b1 n_b1; have k_b1 := n_b1.blk)
  repeat (first | refine Vx ?_ | (apply Ops_q; (case hon => exact Va); (case hd => rfl); (case hq => exact YlA)) | refine Vr ?_ | refine Vt ?_ | refine Vf ?_ | refine Vm ?_ | refine Ve ?_ | refine Vo ?_ | refine Vz ?_ | refine Vn ?_)
  (refine Ops_box (by exact Va) rfl rfl rfl ?_; intro w2 b2 n_b2; have k_b2 := n_b2.blk)
  replace k_b1 := k_b1.ext n_b2.ext
  have x2 := n_b1.ext.trans n_b2.ext
  clear n_b1 n_b2
  repeat (first | refine Vx ?_ | (apply Ops_q; (case hon => exact Va); (case hd => rfl); (case hq => exact YlA)) | refine Vr ?_ | refine Vt ?_ | refine Vf ?_ | refine Vm ?_ | refine Ve ?_ | refine Vo ?_ | refine Vz ?_ | refine Vn ?_)
  rw [ek]
  (apply Ops_q; (case hon => (exact Va)); (case hd => rfl); (case hq => exact Yl_call rfl (fun w_ e_ => rank_v x.leaf (k + 1) w_ hx (by omega))))
  generalize hr : rankN x.leaf (k + 1) = r at *
  repeat (first | refine Vx ?_ | (apply Ops_q; (case hon => exact Va); (case hd => rfl); (case hq => exact YlA)) | refine Vr ?_ | refine Vt ?_ | refine Vf ?_ | refine Vm ?_ | refine Ve ?_ | refine Vo ?_ | refine Vz ?_ | refine Vn ?_)
  refine V_cond rfl (fun h0 => ?_) (fun h0 => ?_)
  · have h0' : r = 0 := by have := of_decide_eq_true h0; omega
    repeat (first | refine Vx ?_ | (apply Ops_q; (case hon => exact Va); (case hd => rfl); (case hq => exact YlA)) | refine Vr ?_ | refine Vt ?_ | refine Vf ?_ | refine Vm ?_ | refine Ve ?_ | refine Vo ?_ | refine Vz ?_ | refine Vn ?_)
    refine ret2 (by first | exact .inl rfl | exact .inr rfl) rfl rfl rfl ?_
    exact Ret_mk (by rw [leafV, if_pos h0', decide_eq_true h0']; rfl) x2
  · have h0' : r ≠ 0 := by have := of_decide_eq_false h0; omega
    clear h0
    obtain ⟨v, hv⟩ : ∃ v, L[lf + r - 1]? = some v := ⟨_, List.getElem?_eq_getElem (hin (by omega))⟩
    obtain ⟨ad, rfl, hc⟩ := hL.at hv
    have hc2 := World_cell_ext hc x2
    have ei : (lf : Int) + (r : Int) - 1 = ((lf + r - 1 : Nat) : Int) := by omega
    have hlt : lf + r - 1 < L.length := hin (by omega)
    repeat (first | refine Vx ?_ | (apply Ops_q; (case hon => exact Va); (case hd => rfl); (case hq => exact YlA)) | refine Vr ?_ | refine Vt ?_ | refine Vf ?_ | refine Vm ?_ | refine Ve ?_ | refine Vo ?_ | refine Vz ?_ | refine Vn ?_)
    rw [ei]
    (apply Ops_q; (case hon => (exact Va)); (case hd => rfl); (case hq => exact Yl_indexS (j := lf + r - 1) rfl rfl (by omega)))
    repeat (first | refine Vx ?_ | (apply Ops_q; (case hon => exact Va); (case hd => rfl); (case hq => exact YlA)) | refine Vr ?_ | refine Vt ?_ | refine Vf ?_ | refine Vm ?_ | refine Ve ?_ | refine Vo ?_ | refine Vz ?_ | refine Vn ?_)
    refine ret2 (by first | exact .inl rfl | exact .inr rfl) rfl rfl rfl ?_
    exact Ret_mk (by rw [leafV, if_neg h0', hv, decide_eq_false h0']; rfl) x2
end Go.Proofs.Ytjpnaofoeeegeaa


/-
  Stride tables (layer 8): compress, walked.
  Conditions: the runs are those of some function, in order.
-/
namespace Go.Proofs.Ytjpnaofoeeegeaa
open Go.RowKit

set_option maxHeartbeats 4000000 in
theorem compress_v (g : Nat → Int) (ao : Option Addr) (R : List Rn) (c : Nat) (w0 : World) (hL : Rns w0 ao R) (hR : Canon g R 4294967296) :
    Calls Try.prog 36 #[.slice ao R.length c] w0 (Gives (CfR g w0) w0) := by
  have hRn := hR.len
  refine VD_enter (vs := [_]) Try.func36 rfl Try.ntmps36 (Nat.le_of_ble_eq_true rfl) ?_
  refine VD_seq ?_
  repeat (first | refine Vx ?_ | (apply Ops_q; (case hon => exact Va); (case hd => rfl); (case hq => exact YlA)) | refine Vr ?_ | refine Vt ?_ | refine Vf ?_ | refine Vm ?_ | refine Ve ?_ | refine Vo ?_ | refine Vz ?_ | refine Vn ?_)
  (refine Ops_box (by exact Va) rfl rfl rfl ?_; intro w1 b1 n_b1; have k_b1 := n_b1.blk)
  repeat (first | refine Vx ?_ | (apply Ops_q; (case hon => exact Va); (case hd => rfl); (case hq => exact YlA)) | refine Vr ?_ | refine Vt ?_ | refine Vf ?_ | refine Vm ?_ | refine Ve ?_ | refine Vo ?_ | refine Vz ?_ | refine Vn ?_)
  (refine Ops_alloc (by exact Va) rfl ?_; intro w2 b2 n_b2; have k_b2 := n_b2.blk)
  repeat (first | refine Vx ?_ | (apply Ops_q; (case hon => exact Va); (case hd => rfl); (case hq => exact YlA)) | refine Vr ?_ | refine Vt ?_ | refine Vf ?_ | refine Vm ?_ | refine Ve ?_ | refine Vo ?_ | refine Vz ?_ | refine Vn ?_)
  refine VD_seq ?_
  repeat (first | refine Vx ?_ | (apply Ops_q; (case hon => exact Va); (case hd => rfl); (case hq => exact YlA)) | refine Vr ?_ | refine Vt ?_ | refine Vf ?_ | refine Vm ?_ | refine Ve ?_ | refine Vo ?_ | refine Vz ?_ | refine Vn ?_)
  (refine Ops_alloc (by exact Va) rfl ?_; intro w3 b3 n_b3; have k_b3 := n_b3.blk)
  repeat (first | refine Vx ?_ | (apply Ops_q; (case hon => exact Va); (case hd => rfl); (case hq => exact YlA)) | refine Vr ?_ | refine Vt ?_ | refine Vf ?_ | refine Vm ?_ | refine Ve ?_ | refine Vo ?_ | refine Vz ?_ | refine Vn ?_)
  refine VD_seq ?_
  repeat (first | refine Vx ?_ | (apply Ops_q; (case hon => exact Va); (case hd => rfl); (case hq => exact YlA)) | refine Vr ?_ | refine Vt ?_ | refine Vf ?_ | refine Vm ?_ | refine Ve ?_ | refine Vo ?_ | refine Vz ?_ | refine Vn ?_)
  (refine Ops_lit (by exact Va) rfl rfl rfl ?_; intro w4 bq n_bq; have k_bq := n_bq.blk)
  repeat (first | refine Vx ?_ | (apply Ops_q; (case hon => exact Va); (case hd => rfl); (case hq => exact YlA)) | refine Vr ?_ | refine Vt ?_ | refine Vf ?_ | refine Vm ?_ | refine Ve ?_ | refine Vo ?_ | refine Vz ?_ | refine Vn ?_)
  (refine Ops_alloc (by exact Va) rfl ?_; intro w5 b4 n_b4; have k_b4 := n_b4.blk)
  repeat (first | refine Vx ?_ | (apply Ops_q; (case hon => exact Va); (case hd => rfl); (case hq => exact YlA)) | refine Vr ?_ | refine Vt ?_ | refine Vf ?_ | refine Vm ?_ | refine Ve ?_ | refine Vo ?_ | refine Vz ?_ | refine Vn ?_)
  (refine Ops_store (by exact Va) rfl rfl (by assumption) (by first | rfl | exact OneAll.h) ?_; intro w6 u_w6; have k_b4 := u_w6.blk)
  repeat (first | refine Vx ?_ | (apply Ops_q; (case hon => exact Va); (case hd => rfl); (case hq => exact YlA)) | refine Vr ?_ | refine Vt ?_ | refine Vf ?_ | refine Vm ?_ | refine Ve ?_ | refine Vo ?_ | refine Vz ?_ | refine Vn ?_)
  have x2 := n_b1.ext.trans n_b2.ext
  have x3 := x2.trans n_b3.ext
  have x4 := x3.trans n_bq.ext
  have x5 := x4.trans n_b4.ext
  have e25 := n_b3.ext.trans (n_bq.ext.trans n_b4.ext)
  have hcs0 : CS w0 ao R c b1 b2 b3 b4 (.slice none 0 0) (.slice none 0 0) (.slice (some ⟨bq, 0, none⟩) 1 1) [] [] [(0, 0)] w6 := by
    have h1 := k_b1.ext (n_b2.ext.trans e25)
    have h2 := k_b2.ext e25
    have h3 := k_b3.ext (n_bq.ext.trans n_b4.ext)
    have oR : Own w5 w0.heap.size 120 2 (.slice (some ⟨bq, 0, none⟩) 1 1) ([(0, 0)].map plC) := ((own_litN n_bq rfl).mono x3.size).ext n_b4.ext
    have h23 : b2 ≠ b3 := Nat.ne_of_lt (Nat.lt_of_lt_of_le k_b2.lt n_b3.ge)
    have g2 : w0.heap.size ≤ b2 := Nat.le_trans n_b1.ext.size n_b2.ge
    have g3 : w0.heap.size ≤ b3 := Nat.le_trans x2.size n_b3.ge
    have g4 : w0.heap.size ≤ b4 := Nat.le_trans x4.size n_b4.ge
    exact ⟨u_w6.below x5 g4, u_w6.keep h1 (blk_ne h1 n_b4.blk rfl), u_w6.keep h2 (blk_ne h2 n_b4.blk rfl), u_w6.keep h3 (blk_ne h3 n_b4.blk rfl), k_b4, h23, g3, g4, g2, Own.nil, Own.nil, oR.upd u_w6 (own_blk_ne oR n_b4.blk rfl)⟩
  clear k_b1 k_b2 k_b3 k_bq k_b4 n_b1 n_b2 n_b3 n_bq n_b4 u_w6 x2 x3 x4 x5 e25
  refine VD_seqD ?_
  refine VD_seq ?_
  repeat (first | refine Vx ?_ | (apply Ops_q; (case hon => exact Va); (case hd => rfl); (case hq => exact YlA)) | refine Vr ?_ | refine Vt ?_ | refine Vf ?_ | refine Vm ?_ | refine Ve ?_ | refine Vo ?_ | refine Vz ?_ | refine Vn ?_)
  refine VD_block ?_
  refine VD_loop (fun s : Nat × Value × Value × Value => [(5, .int .i64 s.1), (1, .pointer (some ⟨b1, 0, none⟩)), (2, .pointer (some ⟨b2, 0, none⟩)), (3, .pointer (some ⟨b3, 0, none⟩)), (4, .pointer (some ⟨b4, 0, none⟩))])
    (fun s Ds w => CS w0 ao R c b1 b2 b3 b4 s.2.1 s.2.2.1 s.2.2.2 (ndsF g s.1) (lvF g s.1) (rowF g s.1) w ∧ s.1 ≤ (rowF g s.1).length ∧ Marks Ds w ∧ ∀ D ∈ Ds, w0.heap.size ≤ D) (fun s => plW 0 - s.1)
    (0, .slice none 0 0, .slice none 0 0, .slice (some ⟨bq, 0, none⟩) 1 1) (by repeat (first | exact trivial | refine ⟨rfl, ?_⟩)) ⟨hcs0, Nat.zero_le _, Marks.nil, fun _ h => nomatch h⟩ ?_
  clear hcs0
  rintro ⟨i, vN, vL, vR⟩ Ds w1 ⟨hcs, hi, hM, hD⟩
  dsimp only at hcs hi ⊢
  obtain ⟨p0, hp0⟩ : ∃ p0, (rowF g i)[0]? = some p0 := ⟨(0, 0), get_prefix (row_pre g (Nat.zero_le i)) rfl⟩
  have hrne : (rowF g i).map plC ≠ [] := fun e => by rw [List.map_eq_nil_iff] at e; rw [e] at hp0; simp at hp0
  obtain ⟨gR, capR, hvR, _⟩ := hcs.oR.addr hrne
  rw [List.length_map] at hvR
  obtain ⟨aL, cL, hvL, _⟩ := hcs.oL.slice
  rw [List.length_map] at hvL
  have hrl := row_len_le hi
  rw [plW_zero] at hrl
  have hlv := lv_le g i
  subst hvR
  have k4 := hcs.k4
  refine VD_seq ?_
  repeat (first | refine Vx ?_ | (apply Ops_q; (case hon => exact Va); (case hd => rfl); (case hq => exact YlA)) | refine Vr ?_ | refine Vt ?_ | refine Vf ?_ | refine Vm ?_ | refine Ve ?_ | refine Vo ?_ | refine Vz ?_ | refine Vn ?_)
  refine V_cond rfl (fun hg => ?_) (fun hg => ?_)
  · replace hg := of_decide_eq_true hg
    have hil : i < (rowF g i).length := by omega
    clear hg
    obtain ⟨p, hp⟩ : ∃ p, (rowF g i)[i]? = some p := ⟨_, List.getElem?_eq_getElem hil⟩
    have hpk := plOk_row g i p (List.mem_of_getElem? hp)
    repeat (first | refine Vx ?_ | (apply Ops_q; (case hon => exact Va); (case hd => rfl); (case hq => exact YlA)) | refine Vr ?_ | refine Vt ?_ | refine Vf ?_ | refine Vm ?_ | refine Ve ?_ | refine Vo ?_ | refine Vz ?_ | refine Vn ?_)
    refine VD_seqD ?_
    refine VD_block ?_
    subst hvL
    have k3 := hcs.k3
    have k4 := hcs.k4
    refine VD_seq ?_
    repeat (first | refine Vx ?_ | (apply Ops_q; (case hon => exact Va); (case hd => rfl); (case hq => exact YlA)) | refine Vr ?_ | refine Vt ?_ | refine Vf ?_ | refine Vm ?_ | refine Ve ?_ | refine Vo ?_ | refine Vz ?_ | refine Vn ?_)
    (refine Ops_alloc (by exact Va) rfl ?_; intro w2 b6 n_b6; have k_b6 := n_b6.blk)
    repeat (first | refine Vx ?_ | (apply Ops_q; (case hon => exact Va); (case hd => rfl); (case hq => exact YlA)) | refine Vr ?_ | refine Vt ?_ | refine Vf ?_ | refine Vm ?_ | refine Ve ?_ | refine Vo ?_ | refine Vz ?_ | refine Vn ?_)
    (refine Ops_store (by exact Va) rfl rfl (by assumption) (by first | rfl | exact OneAll.h) ?_; intro w3 u_w3; have k_b6 := u_w3.blk)
    repeat (first | refine Vx ?_ | (apply Ops_q; (case hon => exact Va); (case hd => rfl); (case hq => exact YlA)) | refine Vr ?_ | refine Vt ?_ | refine Vf ?_ | refine Vm ?_ | refine Ve ?_ | refine Vo ?_ | refine Vz ?_ | refine Vn ?_)
    refine VD_seq ?_
    repeat (first | refine Vx ?_ | (apply Ops_q; (case hon => exact Va); (case hd => rfl); (case hq => exact YlA)) | refine Vr ?_ | refine Vt ?_ | refine Vf ?_ | refine Vm ?_ | refine Ve ?_ | refine Vo ?_ | refine Vz ?_ | refine Vn ?_)
    (refine Ops_alloc (by exact Va) rfl ?_; intro w4 b7 n_b7; have k_b7 := n_b7.blk)
    repeat (first | refine Vx ?_ | (apply Ops_q; (case hon => exact Va); (case hd => rfl); (case hq => exact YlA)) | refine Vr ?_ | refine Vt ?_ | refine Vf ?_ | refine Vm ?_ | refine Ve ?_ | refine Vo ?_ | refine Vz ?_ | refine Vn ?_)
    (refine Ops_alloc (by exact Va) rfl ?_; intro w5 b8 n_b8; have k_b8 := n_b8.blk)
    have h7 := k_b7.ext n_b8.ext
    have h87 : b8 ≠ b7 := Ne.symm (Nat.ne_of_lt (Nat.lt_of_lt_of_le k_b7.lt n_b8.ge))
    replace k_b7 := h7
    repeat (first | refine Vx ?_ | (apply Ops_q; (case hon => exact Va); (case hd => rfl); (case hq => exact YlA)) | refine Vr ?_ | refine Vt ?_ | refine Vf ?_ | refine Vm ?_ | refine Ve ?_ | refine Vo ?_ | refine Vz ?_ | refine Vn ?_)
    (refine Ops_store (by exact Va) rfl rfl (by assumption) (by first | rfl | exact OneAll.h) ?_; intro w6 u_w6; have k_b7 := u_w6.blk)
    have k8' := u_w6.keep n_b8.blk h87
    replace k_b8 := k8'
    repeat (first | refine Vx ?_ | (apply Ops_q; (case hon => exact Va); (case hd => rfl); (case hq => exact YlA)) | refine Vr ?_ | refine Vt ?_ | refine Vf ?_ | refine Vm ?_ | refine Ve ?_ | refine Vo ?_ | refine Vz ?_ | refine Vn ?_)
    (refine Ops_store (by exact Va) rfl rfl (by assumption) (by first | rfl | exact OneAll.h) ?_; intro w7 u_w7; have k_b8 := u_w7.blk)
    replace k_b7 := u_w7.keep k_b7 (Ne.symm h87)
    have y2 := hcs.ext.trans n_b6.ext
    have hcs2 := hcs.mono n_b6.ext
    have hN6 : vN.ownBlock ≠ some b6 := fun e => by have := hcs.oN.lt e; have := n_b6.ge; omega
    have hL6 : (Value.slice aL (lvF g i).length cL).ownBlock ≠ some b6 := fun e => by have := hcs.oL.lt e; have := n_b6.ge; omega
    have g6 : w0.heap.size ≤ b6 := Nat.le_trans hcs.ext.size n_b6.ge
    have hcs3 := hcs2.upd u_w3 n_b6.blk g6 rfl rfl rfl hN6 hL6 rfl
    have hcs5 := hcs3.mono (n_b7.ext.trans n_b8.ext)
    have g7 : w0.heap.size ≤ b7 := Nat.le_trans hcs3.ext.size n_b7.ge
    have g8 : w0.heap.size ≤ b8 := Nat.le_trans (hcs3.ext.trans n_b7.ext).size n_b8.ge
    have hN7 : vN.ownBlock ≠ some b7 := fun e => by have := hcs3.oN.lt e; have := n_b7.ge; omega
    have hL7 : (Value.slice aL (lvF g i).length cL).ownBlock ≠ some b7 := fun e => by have := hcs3.oL.lt e; have := n_b7.ge; omega
    have hL8 : (Value.slice aL (lvF g i).length cL).ownBlock ≠ some b8 := fun e => by have := (hcs3.oL.ext n_b7.ext).lt e; have := n_b8.ge; omega
    have hN8 : vN.ownBlock ≠ some b8 := fun e => by have := (hcs3.oN.ext n_b7.ext).lt e; have := n_b8.ge; omega
    have hcs6 := hcs5.upd u_w6 h7 g7 rfl rfl rfl hN7 hL7 rfl
    have hcs7 := hcs6.upd u_w7 k8' g8 rfl rfl rfl hN8 hL8 rfl
    have h6a := k_b6.ext (n_b7.ext.trans n_b8.ext)
    have h6b := u_w6.keep h6a (blk_ne h6a h7 rfl)
    have h6c := u_w7.keep h6b (blk_ne h6b k8' rfl)
    have hM7 : Marks Ds w7 := ((((hM.ext n_b6.ext).upd u_w3 n_b6.blk).ext (n_b7.ext.trans n_b8.ext)).upd u_w6 h7).upd u_w7 k8'
    clear hcs hcs2 hcs3 hcs5 hcs6 h6a h6b u_w3 u_w6 u_w7 n_b6 n_b7 n_b8 k_b6 h7 k8' y2 hN7 hL8 hN8 hL6 hM k3 k4
    have k4 := hcs7.k4
    repeat (first | refine Vx ?_ | (apply Ops_q; (case hon => exact Va); (case hd => rfl); (case hq => exact YlA)) | refine Vr ?_ | refine Vt ?_ | refine Vf ?_ | refine Vm ?_ | refine Ve ?_ | refine Vo ?_ | refine Vz ?_ | refine Vn ?_)
    refine VD_seqD ?_
    refine VD_seq ?_
    have hpc : Cells w7 ((⟨gR, 0, none⟩ : Addr).add (i * 2)) [.int .u64 p.1, .int .i64 p.2] := by
      obtain ⟨ao', c', e1, hA⟩ := hcs7.oR.slice
      injection e1 with e1 _ _
      subst e1
      obtain ⟨ad, e2, hc⟩ := hA i (plC p) (by rw [List.getElem?_map, hp]; rfl)
      cases e2
      exact hc
    repeat (first | refine Vx ?_ | (apply Ops_q; (case hon => exact Va); (case hd => rfl); (case hq => exact YlA)) | refine Vr ?_ | refine Vt ?_ | refine Vf ?_ | refine Vm ?_ | refine Ve ?_ | refine Vo ?_ | refine Vz ?_ | refine Vn ?_)
    (apply Ops_q; (case hon => (exact Va)); (case hd => rfl); (case hq => exact Yl_indexS (j := i) rfl rfl (by omega)))
    repeat (first | refine Vx ?_ | (apply Ops_q; (case hon => exact Va); (case hd => rfl); (case hq => exact YlA)) | refine Vr ?_ | refine Vt ?_ | refine Vf ?_ | refine Vm ?_ | refine Ve ?_ | refine Vo ?_ | refine Vz ?_ | refine Vn ?_)
    (refine Ops_callR (by exact Va) rfl rfl (fun w_ e_ => below_v p w_) ?_; intro vf w8 w0_ e0_ e1_ r_vf; have e_w8 := e0_.trans e1_; have b_vf := e0_.size; clear e0_ e1_)
    obtain ⟨bb, rfl, kb, hbb⟩ := r_vf
    repeat (first | refine Vx ?_ | (apply Ops_q; (case hon => exact Va); (case hd => rfl); (case hq => exact YlA)) | refine Vr ?_ | refine Vt ?_ | refine Vf ?_ | refine Vm ?_ | refine Ve ?_ | refine Vo ?_ | refine Vz ?_ | refine Vn ?_)
    refine VD_block ?_
    have hcs8 := hcs7.mono e_w8
    have h68 := h6c.ext e_w8
    have h78 := k_b7.ext e_w8
    have h88 := k_b8.ext e_w8
    have hR8 : (Value.slice (some ⟨gR, 0, none⟩) (rowF g i).length capR).ownBlock ≠ some bb := fun e => by have := hcs7.oR.lt e; have := b_vf; have := hbb; omega
    have hM8 := hM7.ext e_w8
    have hI0 : CR g w0 ao R c b1 b2 b3 b4 b6 b7 b8 bb Ds vN i p 0 (.slice aL (lvF g i).length cL) (.slice (some ⟨gR, 0, none⟩) (rowF g i).length capR) 0 false w8 :=
      ⟨by rw [lvP, kdP, List.append_nil, List.append_nil]; exact hcs8, h68, h78, h88, kb, g6, g7, g8, hN6, hL7, hR8, hM8⟩
    clear hcs7 hcs8 h68 h78 h88 hM7 h6c k_b7 k_b8 kb
    refine VD_sub (m1 := [(31, .func (.func 93) #[] #[.pointer (some ⟨bb, 0, none⟩)]), (5, .int .i64 i), (6, .pointer (some ⟨b6, 0, none⟩)), (7, .pointer (some ⟨b7, 0, none⟩)), (8, .pointer (some ⟨b8, 0, none⟩)), (1, .pointer (some ⟨b1, 0, none⟩)), (2, .pointer (some ⟨b2, 0, none⟩)), (3, .pointer (some ⟨b3, 0, none⟩)), (4, .pointer (some ⟨b4, 0, none⟩))]) (by repeat (first | exact trivial | refine ⟨rfl, ?_⟩)) ?_
    have hl0 : ∀ l, w8.heap.size ≤ l → w0.heap.size ≤ l := fun l hl => Nat.le_trans hI0.cs.ext.size hl
    refine VD_range (K := 64) (vs := fun k => [.int .i64 k, partV p k]) rfl (fun args w => TFun.h args w) (below_iter bb p hpk) (fun _ => rfl) rfl
      (fun k w => ∃ vL vR last any, CR g w0 ao R c b1 b2 b3 b4 b6 b7 b8 bb Ds vN i p k vL vR last any w ∧ lstOk g p k last any) (fun _ => False)
      (fun s : Nat × Nat => [(10, .pointer (some ⟨s.2, 0, none⟩)), (9, .int .i64 s.1), (6, .pointer (some ⟨b6, 0, none⟩)), (7, .pointer (some ⟨b7, 0, none⟩)), (8, .pointer (some ⟨b8, 0, none⟩)), (1, .pointer (some ⟨b1, 0, none⟩)), (2, .pointer (some ⟨b2, 0, none⟩)), (3, .pointer (some ⟨b3, 0, none⟩)), (4, .pointer (some ⟨b4, 0, none⟩))])
      (fun k s w => s.1 = k ∧ (∃ vL vR last any, CR g w0 ao R c b1 b2 b3 b4 b6 b7 b8 bb Ds vN i p k vL vR last any w ∧ lstOk g p k last any) ∧ Blk w s.2 125 [.int .u64 (digLo p.2 p.1 k), .int .i64 ((p.2 : Int) + 1), .bool (digOk p.2 k)])
      (fun k w1 w2 ⟨vL, vR, last, any, h, hlt⟩ he => ⟨vL, vR, last, any, h.ext he, hlt⟩) (fun _ _ h _ => h)
      (fun k s w1 w2 ⟨e, ⟨vL, vR, last, any, h, hlt⟩, hb⟩ he => ⟨e, ⟨vL, vR, last, any, h.ext he, hlt⟩, hb.ext he⟩)
      (fun l k w1 w2 hl ⟨vL, vR, last, any, h, hlt⟩ ht => ⟨vL, vR, last, any, h.turn ht (hl0 l hl), hlt⟩) (fun _ _ _ _ h _ => h)
      (fun l k s w1 w2 hl ⟨e, ⟨vL, vR, last, any, h, hlt⟩, hb⟩ ht => ⟨e, ⟨vL, vR, last, any, h.turn ht (hl0 l hl), hlt⟩, ht.blk hb⟩)
      (fun k w1 ⟨vL, vR, last, any, h, _⟩ => h.kb) ⟨_, _, _, _, hI0, rfl⟩ ?_ ?_ ?_ (fun _ _ _ h => h.elim)
    · -- the loop's variables
      rintro l D r k w9 hk hl ⟨vL, vR, last, any, h, hlt⟩ hr
      show V _ _ _ _ ((33, _) :: (32, _) :: _) _
      repeat (first | refine Vx ?_ | (apply Ops_q; (case hon => exact Va); (case hd => rfl); (case hq => exact YlA)) | refine Vr ?_ | refine Vt ?_ | refine Vf ?_ | refine Vm ?_ | refine Ve ?_ | refine Vo ?_ | refine Vz ?_ | refine Vn ?_)
      (refine Ops_alloc (by exact Va) rfl ?_; intro wa b10 n_b10; have k_b10 := n_b10.blk)
      repeat (first | refine Vx ?_ | (apply Ops_q; (case hon => exact Va); (case hd => rfl); (case hq => exact YlA)) | refine Vr ?_ | refine Vt ?_ | refine Vf ?_ | refine Vm ?_ | refine Ve ?_ | refine Vo ?_ | refine Vz ?_ | refine Vn ?_)
      (refine Ops_store (by exact Va) rfl rfl (by assumption) (by first | rfl | exact OneAll.h) ?_; intro wb u_wb; have k_b10 := u_wb.blk)
      have xb : Ext w9 wb := u_wb.below n_b10.ext n_b10.ge
      repeat (first | refine Vx ?_ | (apply Ops_q; (case hon => exact Va); (case hd => rfl); (case hq => exact YlA)) | refine Vr ?_ | refine Vt ?_ | refine Vf ?_ | refine Vm ?_ | refine Ve ?_ | refine Vo ?_ | refine Vz ?_ | refine Vn ?_)
      exact ⟨rfl, hr.ext xb, (k, b10), (by repeat (first | exact trivial | refine ⟨rfl, ?_⟩)), rfl, ⟨vL, vR, last, any, h.ext xb, hlt⟩, k_b10⟩
    · -- a round
      rintro l D r k ⟨kk, b10⟩ w9 hk hl ⟨e, ⟨vL, vR, last, any, h, hlst⟩, k10⟩ hr
      dsimp only at e k10 ⊢
      subst e
      have hdig := dig_in (base := p.1) hpk.1 hk
      have h32 := hpk.2
      have hnp := nsz_pos (p.2 + 1)
      have hlt32 : digLo p.2 p.1 kk < 4294967296 := by omega
      obtain ⟨r1, hr1, hr2, _⟩ := hR.find hlt32
      have k1 := h.cs.k1
      have hpw := pow_in hk
      repeat (first | refine Vx ?_ | (apply Ops_q; (case hon => exact Va); (case hd => rfl); (case hq => exact YlA)) | refine Vr ?_ | refine Vt ?_ | refine Vf ?_ | refine Vm ?_ | refine Ve ?_ | refine Vo ?_ | refine Vz ?_ | refine Vn ?_)
      (apply Ops_q; (case hon => (exact Va)); (case hd => rfl); (case hq => exact Yl_call rfl (fun w_ e_ => findS_v ao R c (digLo p.2 p.1 kk) w_ (hL.ext (h.cs.ext.trans e_)) hR (Nat.le_of_ble_eq_true rfl) hRn)))
      repeat (first | refine Vx ?_ | (apply Ops_q; (case hon => exact Va); (case hd => rfl); (case hq => exact YlA)) | refine Vr ?_ | refine Vt ?_ | refine Vf ?_ | refine Vm ?_ | refine Ve ?_ | refine Vo ?_ | refine Vz ?_ | refine Vn ?_)
      refine Ops_meet [(60, .bool (inB g p kk)), (11, .int .i64 ((cntR R (digLo p.2 p.1 kk) - 1 : Nat) : Int)), (9, .int .i64 kk), (10, .pointer (some ⟨b10, 0, none⟩)), (6, .pointer (some ⟨b6, 0, none⟩)), (7, .pointer (some ⟨b7, 0, none⟩)), (8, .pointer (some ⟨b8, 0, none⟩)), (1, .pointer (some ⟨b1, 0, none⟩)), (2, .pointer (some ⟨b2, 0, none⟩)), (3, .pointer (some ⟨b3, 0, none⟩)), (4, .pointer (some ⟨b4, 0, none⟩))] ?_ ?_
      · cases hok : digOk p.2 kk with
        | false =>
          rw [(dnone_of hok).2]
          repeat (first | refine Vx ?_ | (apply Ops_q; (case hon => exact Va); (case hd => rfl); (case hq => exact YlA)) | refine Vr ?_ | refine Vt ?_ | refine Vf ?_ | refine Vm ?_ | refine Ve ?_ | refine Vo ?_ | refine Vz ?_ | refine Vn ?_)
          exact ⟨(by repeat (first | exact trivial | refine ⟨rfl, ?_⟩)), rfl⟩
        | true =>
          rw [hok] at k10
          by_cases h5 : p.2 < 5
          · have hd5 : decide ((p.2 : Int) + 1 ≤ 5) = true := decide_eq_true (by omega)
            have hd6 : p.2 + 1 ≤ 6 := by omega
            have ed : ((p.2 : Int) + 1) = ((p.2 + 1 : Nat) : Int) := by omega
            have hpart : Cells w9 ⟨b10, 0, none⟩ [.int .u64 (digLo p.2 p.1 kk), .int .i64 ((p.2 : Int) + 1)] := k10.part 0 2
            have es : ((digLo p.2 p.1 kk : Nat) : Int) + ((nsz (p.2 + 1) : Nat) : Int) - 1 = ((digLo p.2 p.1 kk + nsz (p.2 + 1) - 1 : Nat) : Int) := by omega
            have hin : (!decide (((cntR R (digLo p.2 p.1 kk) - 1 : Nat) : Int) = ((cntR R (digLo p.2 p.1 kk + nsz (p.2 + 1) - 1) - 1 : Nat) : Int))) = inB g p kk := by
              have hff := hR.find_flat (show digLo p.2 p.1 kk < digLo p.2 p.1 kk + nsz (p.2 + 1) by omega) (show digLo p.2 p.1 kk + nsz (p.2 + 1) ≤ 4294967296 by omega)
              have c1 := hR.cnt_pos (by omega) (digLo p.2 p.1 kk)
              have c2 := hR.cnt_pos (by omega) (digLo p.2 p.1 kk + nsz (p.2 + 1) - 1)
              cases hb : inB g p kk with
              | true =>
                have := (inB_of hpk.1 hb).2.2.1
                rw [decide_eq_false (fun e => this (hff.1 (by omega)))]; rfl
              | false =>
                have := hff.2 (leaf_of hb hok).2
                rw [this, decide_eq_true rfl]; rfl
            repeat (first | refine Vx ?_ | (apply Ops_q; (case hon => exact Va); (case hd => rfl); (case hq => exact YlA)) | refine Vr ?_ | refine Vt ?_ | refine Vf ?_ | refine Vm ?_ | refine Ve ?_ | refine Vo ?_ | refine Vz ?_ | refine Vn ?_)
            refine Ops_know rfl rfl hd5 ?_
            repeat (first | refine Vx ?_ | (apply Ops_q; (case hon => exact Va); (case hd => rfl); (case hq => exact YlA)) | refine Vr ?_ | refine Vt ?_ | refine Vf ?_ | refine Vm ?_ | refine Ve ?_ | refine Vo ?_ | refine Vz ?_ | refine Vn ?_)
            rw [ed]
            (apply Ops_q; (case hon => (exact Va)); (case hd => rfl); (case hq => exact Yl_call rfl (fun w_ e_ => sizeS_v ((digLo p.2 p.1 kk : Nat) : Int) (p.2 + 1) w_ hd6)))
            repeat (first | refine Vx ?_ | (apply Ops_q; (case hon => exact Va); (case hd => rfl); (case hq => exact YlA)) | refine Vr ?_ | refine Vt ?_ | refine Vf ?_ | refine Vm ?_ | refine Ve ?_ | refine Vo ?_ | refine Vz ?_ | refine Vn ?_)
            rw [es]
            (apply Ops_q; (case hon => (exact Va)); (case hd => rfl); (case hq => exact Yl_call rfl (fun w_ e_ => findS_v ao R c (digLo p.2 p.1 kk + nsz (p.2 + 1) - 1) w_ (hL.ext (h.cs.ext.trans e_)) hR (Nat.le_of_ble_eq_true rfl) hRn)))
            repeat (first | refine Vx ?_ | (apply Ops_q; (case hon => exact Va); (case hd => rfl); (case hq => exact YlA)) | refine Vr ?_ | refine Vt ?_ | refine Vf ?_ | refine Vm ?_ | refine Ve ?_ | refine Vo ?_ | refine Vz ?_ | refine Vn ?_)
            rw [hin]
            exact ⟨(by repeat (first | exact trivial | refine ⟨rfl, ?_⟩)), rfl⟩
          · have e5 : p.2 = 5 := by have := hpk.1; omega
            have hd5 : decide ((p.2 : Int) + 1 ≤ 5) = false := decide_eq_false (by omega)
            have hin : inB g p kk = false := by
              obtain ⟨pb, pd⟩ := p
              dsimp only at e5; subst e5
              exact inB_five g pb kk
            rw [hin]
            repeat (first | refine Vx ?_ | (apply Ops_q; (case hon => exact Va); (case hd => rfl); (case hq => exact YlA)) | refine Vr ?_ | refine Vt ?_ | refine Vf ?_ | refine Vm ?_ | refine Ve ?_ | refine Vo ?_ | refine Vz ?_ | refine Vn ?_)
            refine Ops_know rfl rfl hd5 ?_
            repeat (first | refine Vx ?_ | (apply Ops_q; (case hon => exact Va); (case hd => rfl); (case hq => exact YlA)) | refine Vr ?_ | refine Vt ?_ | refine Vf ?_ | refine Vm ?_ | refine Ve ?_ | refine Vo ?_ | refine Vz ?_ | refine Vn ?_)
            exact ⟨(by repeat (first | exact trivial | refine ⟨rfl, ?_⟩)), rfl⟩
      · repeat (first | refine Vx ?_ | (apply Ops_q; (case hon => exact Va); (case hd => rfl); (case hq => exact YlA)) | refine Vr ?_ | refine Vt ?_ | refine Vf ?_ | refine Vm ?_ | refine Ve ?_ | refine Vo ?_ | refine Vz ?_ | refine Vn ?_)
        refine V_cond rfl (fun hin => ?_) (fun hin => ?_)
        · obtain ⟨hok, h5, hnf, hK⟩ := inB_of hpk.1 hin
          have k6 := h.k6
          have hor := or_step hk hin
          have hkl := kdP_le g p kk
          have hlen : ((rowF g i ++ kdP g p kk).map plC).length ≤ 75418890689 := by rw [List.length_map, List.length_append]; omega
          refine V_seq ?_
          refine V_region_mixed 6 (by kernel_rfl) (by kernel_rfl) rfl ?_
          repeat (first | refine Vx ?_ | (apply Ops_q; (case hon => exact Va); (case hd => rfl); (case hq => exact YlA)) | refine Vr ?_ | refine Vt ?_ | refine Vf ?_ | refine Vm ?_ | refine Ve ?_ | refine Vo ?_ | refine Vz ?_ | refine Vn ?_)
          rw [hor]
          (refine Ops_store (by exact Va) rfl rfl (by assumption) (by first | rfl | exact OneAll.h) ?_; intro wa u_wa; have k_b6 := u_wa.blk)
          have hra := hr.upd u_wa h.k6
          have k10a := u_wa.keep k10 (blk_ne k10 h.k6 rfl)
          have hpart : Cells wa ⟨b10, 0, none⟩ [.int .u64 (digLo p.2 p.1 kk), .int .i64 ((p.2 : Int) + 1)] := k10a.part 0 2
          have csa := h.cs.upd u_wa h.k6 h.g6 rfl rfl rfl h.nN (own_blk_ne h.cs.oL h.k6 rfl) rfl
          have k4 := csa.k4
          repeat (first | refine Vx ?_ | (apply Ops_q; (case hon => exact Va); (case hd => rfl); (case hq => exact YlA)) | refine Vr ?_ | refine Vt ?_ | refine Vf ?_ | refine Vm ?_ | refine Ve ?_ | refine Vo ?_ | refine Vz ?_ | refine Vn ?_)
          (refine Ops_lit (by exact Va) rfl rfl rfl ?_; intro wb bl n_bl; have k_bl := n_bl.blk)
          have csb := csa.mono n_bl.ext
          repeat (first | refine Vx ?_ | (apply Ops_q; (case hon => exact Va); (case hd => rfl); (case hq => exact YlA)) | refine Vr ?_ | refine Vt ?_ | refine Vf ?_ | refine Vm ?_ | refine Ve ?_ | refine Vo ?_ | refine Vz ?_ | refine Vn ?_)
          (refine Ops_append1 (by exact Va) rfl rfl rfl rfl csb.oR k_bl.cells inferInstance inferInstance (by first | omega | (rw [List.length_map]; omega)) rfl csb.ext.size ?_; intro vR2 wc o_vR2 g_wc d_vR2)
          obtain ⟨aN, cN, rfl, _⟩ := o_vR2.slice
          have k4c := grow_blk g_wc csb.k4 (fun e => own_blk_ne csb.oR csb.k4 rfl e.symm)
          repeat (first | refine Vx ?_ | (apply Ops_q; (case hon => exact Va); (case hd => rfl); (case hq => exact YlA)) | refine Vr ?_ | refine Vt ?_ | refine Vf ?_ | refine Vm ?_ | refine Ve ?_ | refine Vo ?_ | refine Vz ?_ | refine Vn ?_)
          (refine Ops_store (by exact Va) rfl rfl (by assumption) (by first | rfl | exact OneAll.h) ?_; intro wd u_wd; have k_b4 := u_wd.blk)
          have hfin := h.inner hin hK u_wa n_bl.ext g_wc o_vR2 d_vR2 u_wd
          have hrd := ((hra.ext n_bl.ext).own csb.oR g_wc).upd u_wd k4c
          repeat (first | refine Vx ?_ | (apply Ops_q; (case hon => exact Va); (case hd => rfl); (case hq => exact YlA)) | refine Vr ?_ | refine Vt ?_ | refine Vf ?_ | refine Vm ?_ | refine Ve ?_ | refine Vo ?_ | refine Vz ?_ | refine Vn ?_)
          refine ⟨hrd, _, _, last, any, hfin, ?_⟩
          unfold lstOk
          rw [(step_in hin hK).2.1]; exact hlst
        · -- a leaf, or a digit without addresses
          obtain ⟨t1, t2⟩ := step_out hin
          obtain ⟨adR, rfl, hcR⟩ := hL.at hr1
          have hc9 : w9.cell? ((adR.add ((cntR R (digLo p.2 p.1 kk) - 1) * 2)).add 1) = some (.int .i64 r1.2) := (hcR.ext h.cs.ext) 1 _ rfl
          have hjl := (List.getElem?_eq_some_iff.1 hr1).1
          have k7 := h.k7
          have k8 := h.k8
          have hN7 : vN.ownBlock ≠ some b7 := own_blk_ne h.cs.oN k7 rfl
          repeat (first | refine Vx ?_ | (apply Ops_q; (case hon => exact Va); (case hd => rfl); (case hq => exact YlA)) | refine Vr ?_ | refine Vt ?_ | refine Vf ?_ | refine Vm ?_ | refine Ve ?_ | refine Vo ?_ | refine Vz ?_ | refine Vn ?_)
          (apply Ops_q; (case hon => (exact Va)); (case hd => rfl); (case hq => exact Yl_indexS (j := cntR R (digLo p.2 p.1 kk) - 1) rfl rfl (by omega)))
          repeat (first | refine Vx ?_ | (apply Ops_q; (case hon => exact Va); (case hd => rfl); (case hq => exact YlA)) | refine Vr ?_ | refine Vt ?_ | refine Vf ?_ | refine Vm ?_ | refine Ve ?_ | refine Vo ?_ | refine Vz ?_ | refine Vn ?_)
          cases hok : digOk p.2 kk with
          | false =>
            have hnK := (dnone_of (f := g) hok).1
            obtain ⟨u1, u2⟩ := step_none hnK
            obtain ⟨e5, _⟩ := digTo_skip (base := p.1) hpk.1 hok
            have hne : lvP g p kk ≠ [] := by
              obtain ⟨pb, pd⟩ := p
              dsimp only at e5 hok
              subst e5
              refine lvP_five g pb ?_
              rcases Nat.eq_zero_or_pos kk with e0 | e0
              · rw [e0] at hok; cases hok
              · exact e0
            cases any with
            | false => exact absurd (List.getLast?_eq_none_iff.1 hlst) hne
            | true =>
              have hne2 : (!decide (last = last)) = false := by simp
              repeat (first | refine Vx ?_ | (apply Ops_q; (case hon => exact Va); (case hd => rfl); (case hq => exact YlA)) | refine Vr ?_ | refine Vt ?_ | refine Vf ?_ | refine Vm ?_ | refine Ve ?_ | refine Vo ?_ | refine Vz ?_ | refine Vn ?_)
              refine V_no rfl hne2 ?_
              repeat (first | refine Vx ?_ | (apply Ops_q; (case hon => exact Va); (case hd => rfl); (case hq => exact YlA)) | refine Vr ?_ | refine Vt ?_ | refine Vf ?_ | refine Vm ?_ | refine Ve ?_ | refine Vo ?_ | refine Vz ?_ | refine Vn ?_)
              (refine Ops_store (by exact Va) rfl rfl (by assumption) (by first | rfl | exact OneAll.h) ?_; intro wa u_wa; have k_b7 := u_wa.blk)
              have k8a := u_wa.keep h.k8 (blk_ne h.k8 h.k7 rfl)
              repeat (first | refine Vx ?_ | (apply Ops_q; (case hon => exact Va); (case hd => rfl); (case hq => exact YlA)) | refine Vr ?_ | refine Vt ?_ | refine Vf ?_ | refine Vm ?_ | refine Ve ?_ | refine Vo ?_ | refine Vz ?_ | refine Vn ?_)
              (refine Ops_store (by exact Va) rfl rfl (by assumption) (by first | rfl | exact OneAll.h) ?_; intro wb u_wb; have k_b8 := u_wb.blk)
              have hfin := (h.same t1 u1 t2 u2).setLast u_wa u_wb hN7
              have hrd := (hr.upd u_wa h.k7).upd u_wb k8a
              repeat (first | refine Vx ?_ | (apply Ops_q; (case hon => exact Va); (case hd => rfl); (case hq => exact YlA)) | refine Vr ?_ | refine Vt ?_ | refine Vf ?_ | refine Vm ?_ | refine Ve ?_ | refine Vo ?_ | refine Vz ?_ | refine Vn ?_)
              exact ⟨hrd, _, _, last, true, hfin, by unfold lstOk; rw [u1]; exact hlst⟩
          | true =>
            obtain ⟨hK, _⟩ := leaf_of hin hok
            rw [← hr2] at hK
            repeat (first | refine Vx ?_ | (apply Ops_q; (case hon => exact Va); (case hd => rfl); (case hq => exact YlA)) | refine Vr ?_ | refine Vt ?_ | refine Vf ?_ | refine Vm ?_ | refine Ve ?_ | refine Vo ?_ | refine Vz ?_ | refine Vn ?_)
            refine Ops_meet [(87, .bool (stB g p kk)), (12, .int .i64 r1.2), (9, .int .i64 kk), (10, .pointer (some ⟨b10, 0, none⟩)), (6, .pointer (some ⟨b6, 0, none⟩)), (7, .pointer (some ⟨b7, 0, none⟩)), (8, .pointer (some ⟨b8, 0, none⟩)), (1, .pointer (some ⟨b1, 0, none⟩)), (2, .pointer (some ⟨b2, 0, none⟩)), (3, .pointer (some ⟨b3, 0, none⟩)), (4, .pointer (some ⟨b4, 0, none⟩))] ?_ ?_
            · cases any with
              | false =>
                have hst : stB g p kk = true := (step_new hK (by rw [show (lvP g p kk).getLast? = none from hlst]; simp)).2
                rw [hst]
                repeat (first | refine Vx ?_ | (apply Ops_q; (case hon => exact Va); (case hd => rfl); (case hq => exact YlA)) | refine Vr ?_ | refine Vt ?_ | refine Vf ?_ | refine Vm ?_ | refine Ve ?_ | refine Vo ?_ | refine Vz ?_ | refine Vn ?_)
                exact ⟨(by repeat (first | exact trivial | refine ⟨rfl, ?_⟩)), rfl⟩
              | true =>
                have hst : stB g p kk = !decide (r1.2 = last) := by
                  have hl1 : (lvP g p kk).getLast? = some last := hlst
                  by_cases he : r1.2 = last
                  · rw [(step_same hK (by rw [hl1, he])).2, decide_eq_true he]; rfl
                  · rw [(step_new hK (by rw [hl1]; exact fun e => he (Option.some.inj e).symm)).2, decide_eq_false he]; rfl
                rw [hst]
                repeat (first | refine Vx ?_ | (apply Ops_q; (case hon => exact Va); (case hd => rfl); (case hq => exact YlA)) | refine Vr ?_ | refine Vt ?_ | refine Vf ?_ | refine Vm ?_ | refine Ve ?_ | refine Vo ?_ | refine Vz ?_ | refine Vn ?_)
                exact ⟨(by repeat (first | exact trivial | refine ⟨rfl, ?_⟩)), rfl⟩
            · repeat (first | refine Vx ?_ | (apply Ops_q; (case hon => exact Va); (case hd => rfl); (case hq => exact YlA)) | refine Vr ?_ | refine Vt ?_ | refine Vf ?_ | refine Vm ?_ | refine Ve ?_ | refine Vo ?_ | refine Vz ?_ | refine Vn ?_)
              refine V_cond rfl (fun hst => ?_) (fun hst => ?_)
              · have hl' : (lvP g p kk).getLast? ≠ some r1.2 := fun e => by rw [(step_same hK e).2] at hst; cases hst
                obtain ⟨s1, _⟩ := step_new hK hl'
                have k6 := h.k6
                have hor := or_step hk hst
                have hkl := lvP_le g p kk
                have hlen : ((lvF g i ++ lvP g p kk).map ic).length ≤ 4826809000064 := by rw [List.length_map, List.length_append]; omega
                refine V_seq ?_
                refine V_region_mixed 6 (by kernel_rfl) (by kernel_rfl) rfl ?_
                repeat (first | refine Vx ?_ | (apply Ops_q; (case hon => exact Va); (case hd => rfl); (case hq => exact YlA)) | refine Vr ?_ | refine Vt ?_ | refine Vf ?_ | refine Vm ?_ | refine Ve ?_ | refine Vo ?_ | refine Vz ?_ | refine Vn ?_)
                rw [hor]
                (refine Ops_store (by exact Va) rfl rfl (by assumption) (by first | rfl | exact OneAll.h) ?_; intro wa u_wa; have k_b6 := u_wa.blk)
                have hra := hr.upd u_wa h.k6
                have csa := h.cs.upd u_wa h.k6 h.g6 rfl rfl rfl h.nN (own_blk_ne h.cs.oL h.k6 rfl) rfl
                have k3 := csa.k3
                repeat (first | refine Vx ?_ | (apply Ops_q; (case hon => exact Va); (case hd => rfl); (case hq => exact YlA)) | refine Vr ?_ | refine Vt ?_ | refine Vf ?_ | refine Vm ?_ | refine Ve ?_ | refine Vo ?_ | refine Vz ?_ | refine Vn ?_)
                (refine Ops_lit (by exact Va) rfl rfl rfl ?_; intro wb bl n_bl; have k_bl := n_bl.blk)
                have csb := csa.mono n_bl.ext
                repeat (first | refine Vx ?_ | (apply Ops_q; (case hon => exact Va); (case hd => rfl); (case hq => exact YlA)) | refine Vr ?_ | refine Vt ?_ | refine Vf ?_ | refine Vm ?_ | refine Ve ?_ | refine Vo ?_ | refine Vz ?_ | refine Vn ?_)
                (refine Ops_append1 (by exact Va) rfl rfl rfl rfl csb.oL k_bl.cells inferInstance inferInstance (by first | omega | (rw [List.length_map]; omega)) rfl csb.ext.size ?_; intro vL2 wc o_vL2 g_wc d_vL2)
                obtain ⟨aN, cN, rfl, _⟩ := o_vL2.slice
                have k3c := grow_blk g_wc csb.k3 (fun e => own_blk_ne csb.oL csb.k3 rfl e.symm)
                repeat (first | refine Vx ?_ | (apply Ops_q; (case hon => exact Va); (case hd => rfl); (case hq => exact YlA)) | refine Vr ?_ | refine Vt ?_ | refine Vf ?_ | refine Vm ?_ | refine Ve ?_ | refine Vo ?_ | refine Vz ?_ | refine Vn ?_)
                (refine Ops_store (by exact Va) rfl rfl (by assumption) (by first | rfl | exact OneAll.h) ?_; intro wd u_wd; have k_b3 := u_wd.blk)
                have hfin0 := h.newLeaf t1 s1 t2 u_wa n_bl.ext g_wc o_vL2 d_vL2 u_wd
                have hrd := ((hra.ext n_bl.ext).own csb.oL g_wc).upd u_wd k3c
                have k7d := hfin0.k7
                have k8d := hfin0.k8
                repeat (first | refine Vx ?_ | (apply Ops_q; (case hon => exact Va); (case hd => rfl); (case hq => exact YlA)) | refine Vr ?_ | refine Vt ?_ | refine Vf ?_ | refine Vm ?_ | refine Ve ?_ | refine Vo ?_ | refine Vz ?_ | refine Vn ?_)
                (refine Ops_store (by exact Va) rfl rfl (by assumption) (by first | rfl | exact OneAll.h) ?_; intro we u_we; have k_b7 := u_we.blk)
                have k8a := u_we.keep hfin0.k8 (blk_ne hfin0.k8 hfin0.k7 rfl)
                repeat (first | refine Vx ?_ | (apply Ops_q; (case hon => exact Va); (case hd => rfl); (case hq => exact YlA)) | refine Vr ?_ | refine Vt ?_ | refine Vf ?_ | refine Vm ?_ | refine Ve ?_ | refine Vo ?_ | refine Vz ?_ | refine Vn ?_)
                (refine Ops_store (by exact Va) rfl rfl (by assumption) (by first | rfl | exact OneAll.h) ?_; intro wf u_wf; have k_b8 := u_wf.blk)
                have hfin := hfin0.setLast u_we u_wf (own_blk_ne hfin0.cs.oN hfin0.k7 rfl)
                have hrf := (hrd.upd u_we hfin0.k7).upd u_wf k8a
                repeat (first | refine Vx ?_ | (apply Ops_q; (case hon => exact Va); (case hd => rfl); (case hq => exact YlA)) | refine Vr ?_ | refine Vt ?_ | refine Vf ?_ | refine Vm ?_ | refine Ve ?_ | refine Vo ?_ | refine Vz ?_ | refine Vn ?_)
                exact ⟨hrf, _, _, r1.2, true, hfin, by unfold lstOk; rw [s1]; simp⟩
              · have hl' : (lvP g p kk).getLast? = some r1.2 := Classical.byContradiction fun e => by rw [(step_new hK e).2] at hst; cases hst
                obtain ⟨u1, _⟩ := step_same hK hl'
                have u2 : mkW (stB g p) (kk + 1) = mkW (stB g p) kk := by rw [mkW, hst]; rfl
                repeat (first | refine Vx ?_ | (apply Ops_q; (case hon => exact Va); (case hd => rfl); (case hq => exact YlA)) | refine Vr ?_ | refine Vt ?_ | refine Vf ?_ | refine Vm ?_ | refine Ve ?_ | refine Vo ?_ | refine Vz ?_ | refine Vn ?_)
                (refine Ops_store (by exact Va) rfl rfl (by assumption) (by first | rfl | exact OneAll.h) ?_; intro wa u_wa; have k_b7 := u_wa.blk)
                have k8a := u_wa.keep h.k8 (blk_ne h.k8 h.k7 rfl)
                repeat (first | refine Vx ?_ | (apply Ops_q; (case hon => exact Va); (case hd => rfl); (case hq => exact YlA)) | refine Vr ?_ | refine Vt ?_ | refine Vf ?_ | refine Vm ?_ | refine Ve ?_ | refine Vo ?_ | refine Vz ?_ | refine Vn ?_)
                (refine Ops_store (by exact Va) rfl rfl (by assumption) (by first | rfl | exact OneAll.h) ?_; intro wb u_wb; have k_b8 := u_wb.blk)
                have hfin := (h.same t1 u1 t2 u2).setLast u_wa u_wb hN7
                have hrd := (hr.upd u_wa h.k7).upd u_wb k8a
                repeat (first | refine Vx ?_ | (apply Ops_q; (case hon => exact Va); (case hd => rfl); (case hq => exact YlA)) | refine Vr ?_ | refine Vt ?_ | refine Vf ?_ | refine Vm ?_ | refine Ve ?_ | refine Vo ?_ | refine Vz ?_ | refine Vn ?_)
                exact ⟨hrd, _, _, r1.2, true, hfin, by unfold lstOk; rw [u1]; exact hl'⟩
    · -- the node is ready
      rintro D w9 hDl ⟨vL, vR, last, any, h, _⟩ hdD
      refine blockD_normal ?_
      refine thenD_normal ?_
      have k6 := h.k6
      have k3 := h.cs.k3
      have hlen : ((ndsF g i).map Nd.cells).length ≤ 75418890625 := by rw [List.length_map, nds_len hi]; omega
      refine VD_of ?_
      repeat (first | refine Vx ?_ | (apply Ops_q; (case hon => exact Va); (case hd => rfl); (case hq => exact YlA)) | refine Vr ?_ | refine Vt ?_ | refine Vf ?_ | refine Vm ?_ | refine Ve ?_ | refine Vo ?_ | refine Vz ?_ | refine Vn ?_)
      (refine Ops_lit (by exact Va) rfl rfl rfl ?_; intro wb bl n_bl; have k_bl := n_bl.blk)
      have csb := h.cs.mono n_bl.ext
      repeat (first | refine Vx ?_ | (apply Ops_q; (case hon => exact Va); (case hd => rfl); (case hq => exact YlA)) | refine Vr ?_ | refine Vt ?_ | refine Vf ?_ | refine Vm ?_ | refine Ve ?_ | refine Vo ?_ | refine Vz ?_ | refine Vn ?_)
      (refine Ops_append1 (by exact Va) rfl rfl rfl rfl csb.oN k_bl.cells inferInstance inferInstance (by first | omega | (rw [List.length_map]; omega)) rfl csb.ext.size ?_; intro vN2 wc o_vN2 g_wc d_vN2)
      obtain ⟨aN, cN, rfl, _⟩ := o_vN2.slice
      obtain ⟨aL2, cL2, rfl, _⟩ := csb.oL.slice
      have k3c := grow_blk g_wc csb.k3 (fun e => own_blk_ne csb.oN csb.k3 rfl e.symm)
      repeat (first | refine Vx ?_ | (apply Ops_q; (case hon => exact Va); (case hd => rfl); (case hq => exact YlA)) | refine Vr ?_ | refine Vt ?_ | refine Vf ?_ | refine Vm ?_ | refine Ve ?_ | refine Vo ?_ | refine Vz ?_ | refine Vn ?_)
      (refine Ops_store (by exact Va) rfl rfl (by assumption) (by first | rfl | exact OneAll.h) ?_; intro wd u_wd; have k_b3 := u_wd.blk)
      have hcd := csb.pushN (N' := ndsF g (i + 1)) g_wc (by rw [nds_step hp, List.map_append]; exact o_vN2) u_wd
      rw [← lv_step hp, ← row_step hp] at hcd
      have hMd : Marks Ds wd := ((h.mks.ext n_bl.ext).own csb.oN g_wc).upd u_wd k3c
      have hD9 : D ∉ Ds := fun hc => by have := lt_some (hM8.at_ D hc); omega
      have hdd : wd.heap[D]? = some (.deferred (some [])) := by
        have h1 : Marks [D] w9 := ⟨by simp, fun E hE => by rw [List.mem_singleton.1 hE]; exact hdD⟩
        exact (((h1.ext n_bl.ext).own csb.oN g_wc).upd u_wd k3c).at_ D (List.mem_singleton.2 rfl)
      have hi2 : i + 1 ≤ (rowF g (i + 1)).length := by rw [row_step hp, List.length_append]; omega
      repeat (first | refine Vx ?_ | (apply Ops_q; (case hon => exact Va); (case hd => rfl); (case hq => exact YlA)) | refine Vr ?_ | refine Vt ?_ | refine Vf ?_ | refine Vm ?_ | refine Ve ?_ | refine Vo ?_ | refine Vz ?_ | refine Vn ?_)
      refine blockD_normal ?_
      refine thenD_normal ?_
      refine VD_of ?_
      repeat (first | refine Vx ?_ | (apply Ops_q; (case hon => exact Va); (case hd => rfl); (case hq => exact YlA)) | refine Vr ?_ | refine Vt ?_ | refine Vf ?_ | refine Vm ?_ | refine Ve ?_ | refine Vo ?_ | refine Vz ?_ | refine Vn ?_)
      refine ⟨(i + 1, _, _, _), (by repeat (first | exact trivial | refine ⟨rfl, ?_⟩)), ⟨hcd, hi2, hMd.cons hdd hD9, fun E hE => ?_⟩, ?_⟩
      · rcases List.mem_cons.1 hE with rfl | hE
        · exact hl0 _ hDl
        · exact hD E hE
      · dsimp only; rw [plW_zero]; omega
  · replace hg := of_decide_eq_false hg
    have hie : i = (rowF g i).length := by omega
    clear hg
    repeat (first | refine Vx ?_ | (apply Ops_q; (case hon => exact Va); (case hd => rfl); (case hq => exact YlA)) | refine Vr ?_ | refine Vt ?_ | refine Vf ?_ | refine Vm ?_ | refine Ve ?_ | refine Vo ?_ | refine Vz ?_ | refine Vn ?_)
    refine thenD_exit ?_
    refine blockD_hit ?_
    refine thenD_normal ?_
    subst hvL
    have k2 := hcs.k2
    have k3 := hcs.k3
    obtain ⟨aN, cN, rfl, _⟩ := hcs.oN.slice
    refine VD_seq ?_
    repeat (first | refine Vx ?_ | (apply Ops_q; (case hon => exact Va); (case hd => rfl); (case hq => exact YlA)) | refine Vr ?_ | refine Vt ?_ | refine Vf ?_ | refine Vm ?_ | refine Ve ?_ | refine Vo ?_ | refine Vz ?_ | refine Vn ?_)
    (refine Ops_store (by exact Va) rfl rfl (by assumption) (by first | rfl | exact OneAll.h) ?_; intro wb u_wb; have k_b2 := u_wb.blk)
    have hMb := hM.upd u_wb hcs.k2
    have oNb := hcs.oN.upd u_wb (own_blk_ne hcs.oN hcs.k2 rfl)
    have oLb := hcs.oL.upd u_wb (own_blk_ne hcs.oL hcs.k2 rfl)
    have xb := u_wb.below hcs.ext hcs.g2
    repeat (first | refine Vx ?_ | (apply Ops_q; (case hon => exact Va); (case hd => rfl); (case hq => exact YlA)) | refine Vr ?_ | refine Vt ?_ | refine Vf ?_ | refine Vm ?_ | refine Ve ?_ | refine Vo ?_ | refine Vz ?_ | refine Vn ?_)
    refine VD_of (V_ret ?_)
    refine retR1D (.inl rfl) rfl hMb fun w' hm => ⟨res_agg rfl (hMb.blk hm k_b2).cells, ?_⟩
    exact ⟨_, rfl, Marks.ge_mod hD xb hm, _, _, _, _, rfl, ⟨i, hie, rfl, rfl⟩, hMb.own_mod hm oNb, hMb.own_mod hm oLb⟩
end Go.Proofs.Ytjpnaofoeeegeaa


/-
  Stride tables (layer 8): expand.
  Conditions: the table's numbers agree.
-/
namespace Go.Proofs.Ytjpnaofoeeegeaa
open Go.RowKit

/-- The table lies below a block. -/
structure TabM (w : World) (base0 : Nat) (aN aL : Option Addr) (N : List Nd) (L : List Int) : Prop where
  hN : ∀ k x, N[k]? = some x → ∃ ad, aN = some ad ∧ ad.block < base0 ∧ Cells w (ad.add (k * 4)) x.cells
  hL : ∀ k x, L[k]? = some x → ∃ ad, aL = some ad ∧ ad.block < base0 ∧ Cells w (ad.add (k * 1)) (ic x)
theorem add_block (a : Addr) (n : Nat) : (a.add n).block = a.block := by unfold Addr.add; split <;> rfl
theorem cell_lt {w : World} {a : Addr} {v : Value} (h : w.cell? a = some v) : a.block < w.heap.size := by
  unfold World.cell? at h
  rcases Nat.lt_or_ge a.block w.heap.size with h1 | h1
  · exact h1
  · rw [Array.getElem?_eq_none h1] at h; cases h
section
variable {w w' : World} {base0 : Nat} {aN aL : Option Addr} {N : List Nd} {L : List Int} {S : Nat → Prop}
theorem TabM.of (hN : Nds w aN N) (hL : Ins w aL L) (hb : w.heap.size ≤ base0) : TabM w base0 aN aL N L := by
  refine ⟨fun k x hx => ?_, fun k x hx => ?_⟩
  · obtain ⟨ad, h1, h2⟩ := hN.at hx
    have h3 := cell_lt (h2 0 _ rfl)
    rw [add_block, add_block] at h3
    exact ⟨ad, h1, by omega, h2⟩
  · obtain ⟨ad, h1, h2⟩ := hL k (ic x) (by rw [List.getElem?_map, hx]; rfl)
    have h3 := cell_lt (h2 0 _ rfl)
    rw [add_block, add_block] at h3
    exact ⟨ad, h1, by omega, h2⟩
theorem TabM.mod (h : TabM w base0 aN aL N L) (hm : Mod S w w') (hS : ∀ c, S c → base0 ≤ c) : TabM w' base0 aN aL N L := by
  refine ⟨fun k x hx => ?_, fun k x hx => ?_⟩
  · obtain ⟨ad, h1, h2, h3⟩ := h.hN k x hx
    exact ⟨ad, h1, h2, hm.cells h3 (fun hc => by have := hS _ hc; rw [add_block] at this; omega)⟩
  · obtain ⟨ad, h1, h2, h3⟩ := h.hL k x hx
    exact ⟨ad, h1, h2, hm.cells h3 (fun hc => by have := hS _ hc; rw [add_block] at this; omega)⟩
theorem TabM.ins (h : TabM w base0 aN aL N L) : Ins w aL L := fun k u hk => by
  rw [List.getElem?_map] at hk
  obtain ⟨x, hx, rfl⟩ := Option.map_eq_some_iff.1 hk
  obtain ⟨ad, h1, _, h3⟩ := h.hL k x hx
  exact ⟨ad, h1, h3⟩
end
section
variable {w w1 : World} {base n0 : Nat} {e : TypeId} {v : Value} {LL : List (List Value)}
theorem blk_modOwn {b : Nat} {t : TypeId} {cs : List Value} (m : Mod (fun c => v.ownBlock = some c) w w1) (o : Own w base e n0 v LL) (hB : Blk w b t cs) (ht : Nat.beq e t = false) : Blk w1 b t cs :=
  m.blk hB (own_blk_ne o hB ht)
theorem rec_modOwn {l D : Nat} {r : Loop} (m : Mod (fun c => v.ownBlock = some c) w w1) (o : Own w base e n0 v LL) (h : Rec w l D r) : Rec w1 l D r :=
  h.mod m (fun hc => by obtain ⟨cur, h1⟩ := own_cells_at o hc; rw [h.lp] at h1; cases h1) (fun hc => by obtain ⟨cur, h1⟩ := own_cells_at o hc; rw [h.dfr] at h1; cases h1)
theorem marks_modOwn {Ds : List Nat} (m : Mod (fun c => v.ownBlock = some c) w w1) (o : Own w base e n0 v LL) (h : Marks Ds w) : Marks Ds w1 :=
  h.mod m (fun D hD hc => by obtain ⟨cur, h1⟩ := own_cells_at o hc; rw [h.at_ D hD] at h1; cases h1)
end
/-- The table is the form of g, and the node is the one of place p. -/
def XpGood (g : Nat → Int) (N : List Nd) (L : List Int) (node : Nat) (p : Nat × Nat) : Prop := CfAt g N.length ∧ N = ndsF g N.length ∧ L = lvF g N.length ∧ (rowF g node)[node]? = some p
section
variable {g : Nat → Int} {N : List Nd} {L : List Int} {node : Nat} {p : Nat × Nat}
theorem XpGood.nd (h : XpGood g N L node p) (hn : node < N.length) : N[node]? = some (ndF g node p) := by
  obtain ⟨h1, h2, _, h4⟩ := h
  have := h1.node h4 hn
  rw [← h2] at this; exact this
theorem XpGood.kid (h : XpGood g N L node p) (hn : node < N.length) {x : Nd} (hx : N[node]? = some x) {k : Nat} (hk : k < 64) (hb : x.inner / 2 ^ k % 2 = 1) :
    inB g p k = true ∧ node < ndC N node + rankN x.inner k ∧ XpGood g N L (ndC N node + rankN x.inner k) (digLo p.2 p.1 k, p.2 + 1) := by
  have h0 := h.nd hn
  rw [hx] at h0
  cases h0
  obtain ⟨h1, h2, h3, h4⟩ := h
  have hbit := CfAt.bit g node p hk
  rw [hb] at hbit
  have hin : inB g p k = true := by
    cases hc : inB g p k with
    | true => rfl
    | false => rw [hc] at hbit; simp at hbit
  have hnum := (h1.nums node (Nat.le_of_lt hn)).1
  rw [← h2] at hnum
  obtain ⟨k1, k2⟩ := h1.kid_lt hn h4 hk hin
  rw [hnum]
  exact ⟨hin, k2, h1, h2, h3, h1.stands (h1.kid h4 hk hin) k2⟩
theorem XpGood.leaf (h : XpGood g N L node p) (hn : node < N.length) {x : Nd} (hx : N[node]? = some x) {k : Nat} (hk : k < 64) (hb : x.inner / 2 ^ k % 2 ≠ 1) :
    0 < rankN x.leaf (k + 1) ∧ (digOk p.2 k = true → leafV L (lfC N node) (rankN x.leaf (k + 1)) = g (digLo p.2 p.1 k) ∧ Flat g (digLo p.2 p.1 k) (digLo p.2 p.1 k + nsz (p.2 + 1))) := by
  have h0 := h.nd hn
  rw [hx] at h0
  cases h0
  obtain ⟨h1, h2, h3, h4⟩ := h
  have hbit := CfAt.bit g node p hk
  have hin : inB g p k = false := by
    cases hc : inB g p k with
    | false => rfl
    | true => rw [hc] at hbit; exact absurd hbit hb
  have hnum := (h1.nums node (Nat.le_of_lt hn)).2
  rw [← h2] at hnum
  obtain ⟨k1, k2⟩ := h1.leaf hn h4 hk hin
  refine ⟨k1, fun hok => ?_⟩
  obtain ⟨hK, hF⟩ := leaf_of hin hok
  have := k2 _ hK
  rw [← h3, ← hnum] at this
  exact ⟨by rw [leafV, if_neg (by omega), this]; rfl, hF⟩
theorem XpGood.ok (h : XpGood g N L node p) : PlOk p := plOk_row g node p (List.mem_of_getElem? h.2.2.2)
end
/-- What expand returns. -/
def XpR (base0 : Nat) (N : List Nd) (L : List Int) (g0 : Nat → Int) (v : Value) (base d node : Nat) (w0 : World) (r : Value) (w' : World) : Prop :=
  ∃ (v' : Value) (ok : Bool), r = .tuple #[v', .bool ok] ∧
    (ok = true → ∃ (R : List Rn) (g1 : Nat → Int), Own w' base0 94 2 v' (R.map rnC) ∧ Canon g1 R (base + nsz d) ∧ (∀ a, a < base → g1 a = g0 a) ∧ (∀ g, XpGood g N L node (base, d) → ∀ a, base ≤ a → a < base + nsz d → g1 a = g a) ∧
      ∀ c, v'.ownBlock = some c → v.ownBlock = some c ∨ w0.heap.size ≤ c) ∧
    (ok = false → v' = .slice none 0 0 ∧ ∀ g, ¬XpGood g N L node (base, d))
/-- The state between rounds. -/
structure XS (w0 : World) (base0 : Nat) (aN aL : Option Addr) (N : List Nd) (L : List Int) (cN cL node base d : Nat) (x : Nd) (v0 : Value) (b4 b5 b6 b8 b9 b10 bb : Nat) (Ds : List Nat) (v : Value) (R : List Rn) (w : World) : Prop where
  md : Mod (fun c => v0.ownBlock = some c) w0 w
  k4 : Blk w b4 32 [.slice aN N.length cN, .slice aL L.length cL]
  k5 : Blk w b5 64 [v]
  k6 : Blk w b6 3 [.int .i64 node]
  k8 : Blk w b8 64 [.slice none 0 0]
  k9 : Blk w b9 4 [.bool false]
  k10 : Blk w b10 73 [.int .u64 x.inner, .int .u64 x.leaf, .int .i64 x.nodes, .int .i64 x.first]
  kb : Blk w bb 120 [.int .u64 base, .int .i64 d]
  own : Own w base0 94 2 v (R.map rnC)
  fr : ∀ c, v.ownBlock = some c → v0.ownBlock = some c ∨ w0.heap.size ≤ c
  mks : Marks Ds w
  n58 : b5 ≠ b8
  g5 : w0.heap.size ≤ b5
  g8 : w0.heap.size ≤ b8
  g9 : w0.heap.size ≤ b9
section
variable {w0 w w1 w2 : World} {base0 : Nat} {aN aL : Option Addr} {N : List Nd} {L : List Int} {cN cL node base d : Nat} {x : Nd} {v0 v v' : Value} {b4 b5 b6 b8 b9 b10 bb : Nat} {Ds : List Nat} {R R' : List Rn}
theorem XS.ext (h : XS w0 base0 aN aL N L cN cL node base d x v0 b4 b5 b6 b8 b9 b10 bb Ds v R w) (he : Ext w w1) : XS w0 base0 aN aL N L cN cL node base d x v0 b4 b5 b6 b8 b9 b10 bb Ds v R w1 :=
  ⟨h.md.ext he, h.k4.ext he, h.k5.ext he, h.k6.ext he, h.k8.ext he, h.k9.ext he, h.k10.ext he, h.kb.ext he, h.own.ext he, h.fr, h.mks.ext he, h.n58, h.g5, h.g8, h.g9⟩
theorem XS.turn {l : Nat} (h : XS w0 base0 aN aL N L cN cL node base d x v0 b4 b5 b6 b8 b9 b10 bb Ds v R w) (ht : Turn l w w1) (hl : w0.heap.size ≤ l) : XS w0 base0 aN aL N L cN cL node base d x v0 b4 b5 b6 b8 b9 b10 bb Ds v R w1 :=
  ⟨ht.mod h.md hl, ht.blk h.k4, ht.blk h.k5, ht.blk h.k6, ht.blk h.k8, ht.blk h.k9, ht.blk h.k10, ht.blk h.kb, ht.own h.own, h.fr, h.mks.turn ht, h.n58, h.g5, h.g8, h.g9⟩
/-- A call that works on the runs, and the store of its result. -/
theorem XS.call (h : XS w0 base0 aN aL N L cN cL node base d x v0 b4 b5 b6 b8 b9 b10 bb Ds v R w) (m : Mod (fun c => v.ownBlock = some c) w w1) (o' : Own w1 base0 94 2 v' (R'.map rnC))
    (hf : ∀ c, v'.ownBlock = some c → v.ownBlock = some c ∨ w.heap.size ≤ c) (u : Upd w1 w2 b5 64 [v']) : XS w0 base0 aN aL N L cN cL node base d x v0 b4 b5 b6 b8 b9 b10 bb Ds v' R' w2 := by
  have k5' := blk_modOwn m h.own h.k5 rfl
  have kp : ∀ {b : Nat} {t : TypeId} {cs : List Value}, Blk w b t cs → Nat.beq 94 t = false → b ≠ b5 → Blk w2 b t cs := fun hB ht hn => u.keep (blk_modOwn m h.own hB ht) hn
  refine ⟨(h.md.trans' m h.fr).upd u (.inr h.g5), kp h.k4 rfl (blk_ne h.k4 h.k5 rfl), u.blk, kp h.k6 rfl (blk_ne h.k6 h.k5 rfl), kp h.k8 rfl (Ne.symm h.n58), kp h.k9 rfl (blk_ne h.k9 h.k5 rfl), kp h.k10 rfl (blk_ne h.k10 h.k5 rfl), kp h.kb rfl (blk_ne h.kb h.k5 rfl),
    o'.upd u (own_blk_ne o' k5' rfl), fun c hc => ?_, (marks_modOwn m h.own h.mks).upd u k5', h.n58, h.g5, h.g8, h.g9⟩
  rcases hf c hc with h1 | h1
  · exact h.fr c h1
  · exact .inr (Nat.le_trans h.md.size h1)
theorem XS.keepRec {l D : Nat} {r : Loop} (h : XS w0 base0 aN aL N L cN cL node base d x v0 b4 b5 b6 b8 b9 b10 bb Ds v R w) (hr : Rec w l D r) (m : Mod (fun c => v.ownBlock = some c) w w1) (u : Upd w1 w2 b5 64 [v']) : Rec w2 l D r :=
  (rec_modOwn m h.own hr).upd u (blk_modOwn m h.own h.k5 rfl)
/-- The results are set to what they are. -/
theorem XS.fail (h : XS w0 base0 aN aL N L cN cL node base d x v0 b4 b5 b6 b8 b9 b10 bb Ds v R w) (u : Upd w w1 b8 64 [.slice none 0 0]) (u2 : Upd w1 w2 b9 4 [.bool false]) : XS w0 base0 aN aL N L cN cL node base d x v0 b4 b5 b6 b8 b9 b10 bb Ds v R w2 := by
  have k9 := u.keep h.k9 (blk_ne h.k9 h.k8 rfl)
  have kp : ∀ {b : Nat} {t : TypeId} {cs : List Value}, Blk w b t cs → b ≠ b8 → b ≠ b9 → Blk w2 b t cs := fun hB h1 h2 => u2.keep (u.keep hB h1) h2
  exact ⟨(h.md.upd u (.inr h.g8)).upd u2 (.inr h.g9), kp h.k4 (blk_ne h.k4 h.k8 rfl) (blk_ne h.k4 h.k9 rfl), kp h.k5 h.n58 (blk_ne h.k5 h.k9 rfl), kp h.k6 (blk_ne h.k6 h.k8 rfl) (blk_ne h.k6 h.k9 rfl), u2.keep u.blk (blk_ne h.k8 h.k9 rfl), u2.blk,
    kp h.k10 (blk_ne h.k10 h.k8 rfl) (blk_ne h.k10 h.k9 rfl), kp h.kb (blk_ne h.kb h.k8 rfl) (blk_ne h.kb h.k9 rfl), (h.own.upd u (own_blk_ne h.own h.k8 rfl)).upd u2 (own_blk_ne (h.own.upd u (own_blk_ne h.own h.k8 rfl)) k9 rfl), h.fr, (h.mks.upd u h.k8).upd u2 k9, h.n58, h.g5, h.g8, h.g9⟩
theorem XS.recFail {l D : Nat} {r : Loop} (h : XS w0 base0 aN aL N L cN cL node base d x v0 b4 b5 b6 b8 b9 b10 bb Ds v R w) (hr : Rec w l D r) (u : Upd w w1 b8 64 [.slice none 0 0]) (u2 : Upd w1 w2 b9 4 [.bool false]) : Rec w2 l D r :=
  (hr.upd u h.k8).upd u2 (u.keep h.k9 (blk_ne h.k9 h.k8 rfl))
end
end Go.Proofs.Ytjpnaofoeeegeaa


/-
  Stride tables (layer 8): expand, walked.
  Conditions: the table's numbers agree.
-/
namespace Go.Proofs.Ytjpnaofoeeegeaa
open Go.RowKit

set_option maxHeartbeats 4000000 in
theorem expand_v (aN aL : Option Addr) (N : List Nd) (L : List Int) (cN cL base0 : Nat) (hReg : Reg N L) (hW : NdW N) (hn : N.length ≤ 80000000000) (hl9 : L.length ≤ 4611686018427387904) : ∀ (m d : Nat), d + m = 6 → ∀ (base node : Nat) (v0 : Value) (R0 : List Rn) (g0 : Nat → Int) (w0 : World),
    TabM w0 base0 aN aL N L → node < N.length → (d ≤ 5 → base + nsz d ≤ 4294967296) → Own w0 base0 94 2 v0 (R0.map rnC) → base0 ≤ w0.heap.size → Canon g0 R0 base → base ≤ 4294967296 →
    Calls Try.prog 90 #[.agg #[.slice aN N.length cN, .slice aL L.length cL], v0, .int .i64 node, .agg #[.int .u64 base, .int .i64 d]] w0 (Does (fun c => v0.ownBlock = some c) (XpR base0 N L g0 v0 base d node w0) w0) := by
  intro m
  induction m with
  | zero =>
    intro d hd base node v0 R0 g0 w0 hT hnode hb32 hO hb0 hC hb
    obtain rfl : d = 6 := by omega
    have hd5 : decide ((5 : Int) < ((6 : Nat) : Int)) = true := rfl
    obtain ⟨a0, c0, rfl, _⟩ := hO.slice
    refine VD_enter (vs := [_, _, _, _]) Try.func90 rfl Try.ntmps90 (Nat.le_of_ble_eq_true rfl) ?_
    refine VD_seq ?_
    repeat (first | refine Vx ?_ | (apply Ops_q; (case hon => exact Va); (case hd => rfl); (case hq => exact YlA)) | refine Vr ?_ | refine Vt ?_ | refine Vf ?_ | refine Vm ?_ | refine Ve ?_ | refine Vo ?_ | refine Vz ?_ | refine Vn ?_)
    (refine Ops_box (by exact Va) rfl rfl rfl ?_; intro w1 b4 n_b4; have k_b4 := n_b4.blk)
    repeat (first | refine Vx ?_ | (apply Ops_q; (case hon => exact Va); (case hd => rfl); (case hq => exact YlA)) | refine Vr ?_ | refine Vt ?_ | refine Vf ?_ | refine Vm ?_ | refine Ve ?_ | refine Vo ?_ | refine Vz ?_ | refine Vn ?_)
    (refine Ops_box (by exact Va) rfl rfl rfl ?_; intro w2 b5 n_b5; have k_b5 := n_b5.blk)
    repeat (first | refine Vx ?_ | (apply Ops_q; (case hon => exact Va); (case hd => rfl); (case hq => exact YlA)) | refine Vr ?_ | refine Vt ?_ | refine Vf ?_ | refine Vm ?_ | refine Ve ?_ | refine Vo ?_ | refine Vz ?_ | refine Vn ?_)
    (refine Ops_box (by exact Va) rfl rfl rfl ?_; intro w3 b6 n_b6; have k_b6 := n_b6.blk)
    repeat (first | refine Vx ?_ | (apply Ops_q; (case hon => exact Va); (case hd => rfl); (case hq => exact YlA)) | refine Vr ?_ | refine Vt ?_ | refine Vf ?_ | refine Vm ?_ | refine Ve ?_ | refine Vo ?_ | refine Vz ?_ | refine Vn ?_)
    (refine Ops_box (by exact Va) rfl rfl rfl ?_; intro w4 b7 n_b7; have k_b7 := n_b7.blk)
    repeat (first | refine Vx ?_ | (apply Ops_q; (case hon => exact Va); (case hd => rfl); (case hq => exact YlA)) | refine Vr ?_ | refine Vt ?_ | refine Vf ?_ | refine Vm ?_ | refine Ve ?_ | refine Vo ?_ | refine Vz ?_ | refine Vn ?_)
    (refine Ops_alloc (by exact Va) rfl ?_; intro w5 b8 n_b8; have k_b8 := n_b8.blk)
    repeat (first | refine Vx ?_ | (apply Ops_q; (case hon => exact Va); (case hd => rfl); (case hq => exact YlA)) | refine Vr ?_ | refine Vt ?_ | refine Vf ?_ | refine Vm ?_ | refine Ve ?_ | refine Vo ?_ | refine Vz ?_ | refine Vn ?_)
    (refine Ops_alloc (by exact Va) rfl ?_; intro w6 b9 n_b9; have k_b9 := n_b9.blk)
    have z4 := n_b4.ext.trans (n_b5.ext.trans (n_b6.ext.trans n_b7.ext))
    have z5 := z4.trans n_b8.ext
    have z6 := z5.trans n_b9.ext
    have g8 : w0.heap.size ≤ b8 := Nat.le_trans z4.size n_b8.ge
    have g9 : w0.heap.size ≤ b9 := Nat.le_trans z5.size n_b9.ge
    replace k_b7 := k_b7.ext (n_b8.ext.trans n_b9.ext)
    replace k_b8 := k_b8.ext n_b9.ext
    clear n_b4 n_b5 n_b6 n_b7 n_b8 n_b9 z4 z5
    repeat (first | refine Vx ?_ | (apply Ops_q; (case hon => exact Va); (case hd => rfl); (case hq => exact YlA)) | refine Vr ?_ | refine Vt ?_ | refine Vf ?_ | refine Vm ?_ | refine Ve ?_ | refine Vo ?_ | refine Vz ?_ | refine Vn ?_)
    refine VD_seq ?_
    repeat (first | refine Vx ?_ | (apply Ops_q; (case hon => exact Va); (case hd => rfl); (case hq => exact YlA)) | refine Vr ?_ | refine Vt ?_ | refine Vf ?_ | refine Vm ?_ | refine Ve ?_ | refine Vo ?_ | refine Vz ?_ | refine Vn ?_)
    have k8x := k_b8
    (refine Ops_store (by exact Va) rfl rfl (by assumption) (by first | rfl | exact OneAll.h) ?_; intro w7 u_w7; have k_b8 := u_w7.blk)
    have k9x := u_w7.keep k_b9 (blk_ne k_b9 k8x rfl)
    have y7 := u_w7.below z6 g8
    repeat (first | refine Vx ?_ | (apply Ops_q; (case hon => exact Va); (case hd => rfl); (case hq => exact YlA)) | refine Vr ?_ | refine Vt ?_ | refine Vf ?_ | refine Vm ?_ | refine Ve ?_ | refine Vo ?_ | refine Vz ?_ | refine Vn ?_)
    (refine Ops_store (by exact Va) rfl rfl (by assumption) (by first | rfl | exact OneAll.h) ?_; intro w8 u_w8; have k_b9 := u_w8.blk)
    have y8 := u_w8.below y7 g9
    have k8y := u_w8.keep k_b8 (blk_ne k_b8 k9x rfl)
    repeat (first | refine Vx ?_ | (apply Ops_q; (case hon => exact Va); (case hd => rfl); (case hq => exact YlA)) | refine Vr ?_ | refine Vt ?_ | refine Vf ?_ | refine Vm ?_ | refine Ve ?_ | refine Vo ?_ | refine Vz ?_ | refine Vn ?_)
    have hno : ∀ g, ¬XpGood g N L node (base, 6) := fun g hg => by have := hg.ok.1; dsimp only at this; omega
    have hmd : Mod (fun c => (Value.slice a0 (R0.map rnC).length c0).ownBlock = some c) w0 w8 := Mod.of_ext y8
    show retD Try.prog Try.f90 79 (Does (fun c => (Value.slice a0 (R0.map rnC).length c0).ownBlock = some c) (XpR base0 N L g0 (Value.slice a0 (R0.map rnC).length c0) base 6 node w0) w0) .ret [] _ w8
    · refine retR2D (.inl rfl) rfl Marks.nil fun w' hm => ⟨res_one rfl ((Marks.nil.blk hm k8y).cell rfl), res_one rfl ((Marks.nil.blk hm k_b9).cell rfl), ?_⟩
      exact ⟨_, rfl, hmd.trans' hm (fun c hc => nomatch hc), _, false, rfl, (fun h => nomatch h), fun _ => ⟨rfl, hno⟩⟩
  | succ m ih =>
    intro d hd base node v0 R0 g0 w0 hT hnode hb32 hO hb0 hC hb
    have hd5 : d ≤ 5 := by omega
    have hd5' : decide ((5 : Int) < (d : Int)) = false := decide_eq_false (by omega)
    have hpk : PlOk (base, d) := ⟨hd5, hb32 hd5⟩
    obtain ⟨x, hx⟩ : ∃ x, N[node]? = some x := ⟨_, List.getElem?_eq_getElem hnode⟩
    obtain ⟨hx1, hx2⟩ := hW x (List.mem_of_getElem? hx)
    obtain ⟨hxn, hxf, _⟩ := hReg.at_ node x hx
    obtain ⟨a0, c0, rfl, _⟩ := hO.slice
    refine VD_enter (vs := [_, _, _, _]) Try.func90 rfl Try.ntmps90 (Nat.le_of_ble_eq_true rfl) ?_
    refine VD_seq ?_
    repeat (first | refine Vx ?_ | (apply Ops_q; (case hon => exact Va); (case hd => rfl); (case hq => exact YlA)) | refine Vr ?_ | refine Vt ?_ | refine Vf ?_ | refine Vm ?_ | refine Ve ?_ | refine Vo ?_ | refine Vz ?_ | refine Vn ?_)
    (refine Ops_box (by exact Va) rfl rfl rfl ?_; intro w1 b4 n_b4; have k_b4 := n_b4.blk)
    repeat (first | refine Vx ?_ | (apply Ops_q; (case hon => exact Va); (case hd => rfl); (case hq => exact YlA)) | refine Vr ?_ | refine Vt ?_ | refine Vf ?_ | refine Vm ?_ | refine Ve ?_ | refine Vo ?_ | refine Vz ?_ | refine Vn ?_)
    (refine Ops_box (by exact Va) rfl rfl rfl ?_; intro w2 b5 n_b5; have k_b5 := n_b5.blk)
    repeat (first | refine Vx ?_ | (apply Ops_q; (case hon => exact Va); (case hd => rfl); (case hq => exact YlA)) | refine Vr ?_ | refine Vt ?_ | refine Vf ?_ | refine Vm ?_ | refine Ve ?_ | refine Vo ?_ | refine Vz ?_ | refine Vn ?_)
    (refine Ops_box (by exact Va) rfl rfl rfl ?_; intro w3 b6 n_b6; have k_b6 := n_b6.blk)
    repeat (first | refine Vx ?_ | (apply Ops_q; (case hon => exact Va); (case hd => rfl); (case hq => exact YlA)) | refine Vr ?_ | refine Vt ?_ | refine Vf ?_ | refine Vm ?_ | refine Ve ?_ | refine Vo ?_ | refine Vz ?_ | refine Vn ?_)
    (refine Ops_box (by exact Va) rfl rfl rfl ?_; intro w4 b7 n_b7; have k_b7 := n_b7.blk)
    repeat (first | refine Vx ?_ | (apply Ops_q; (case hon => exact Va); (case hd => rfl); (case hq => exact YlA)) | refine Vr ?_ | refine Vt ?_ | refine Vf ?_ | refine Vm ?_ | refine Ve ?_ | refine Vo ?_ | refine Vz ?_ | refine Vn ?_)
    (refine Ops_alloc (by exact Va) rfl ?_; intro w5 b8 n_b8; have k_b8 := n_b8.blk)
    repeat (first | refine Vx ?_ | (apply Ops_q; (case hon => exact Va); (case hd => rfl); (case hq => exact YlA)) | refine Vr ?_ | refine Vt ?_ | refine Vf ?_ | refine Vm ?_ | refine Ve ?_ | refine Vo ?_ | refine Vz ?_ | refine Vn ?_)
    (refine Ops_alloc (by exact Va) rfl ?_; intro w6 b9 n_b9; have k_b9 := n_b9.blk)
    have y5 := n_b9.ext
    have y4 := n_b8.ext.trans y5
    have y3 := n_b7.ext.trans y4
    have y2 := n_b6.ext.trans y3
    have y1 := n_b5.ext.trans y2
    have h58 : b5 ≠ b8 := Nat.ne_of_lt (Nat.lt_of_lt_of_le (k_b5.ext (n_b6.ext.trans n_b7.ext)).lt n_b8.ge)
    have z1 := n_b4.ext
    have z2 := z1.trans n_b5.ext
    have z4 := z2.trans (n_b6.ext.trans n_b7.ext)
    have z5 := z4.trans n_b8.ext
    have z6 := z5.trans n_b9.ext
    have g5 : w0.heap.size ≤ b5 := Nat.le_trans z1.size n_b5.ge
    have g8 : w0.heap.size ≤ b8 := Nat.le_trans z4.size n_b8.ge
    have g9 : w0.heap.size ≤ b9 := Nat.le_trans z5.size n_b9.ge
    replace k_b4 := k_b4.ext y1
    replace k_b5 := k_b5.ext y2
    replace k_b6 := k_b6.ext y3
    replace k_b7 := k_b7.ext y4
    replace k_b8 := k_b8.ext y5
    clear n_b4 n_b5 n_b6 n_b7 n_b8 n_b9 y1 y2 y3 y4 y5 z1 z2 z4 z5
    have hfr0 : ∀ c, (Value.slice a0 (R0.map rnC).length c0).ownBlock = some c → (Value.slice a0 (R0.map rnC).length c0).ownBlock = some c ∨ w0.heap.size ≤ c := fun c hc => .inl hc
    repeat (first | refine Vx ?_ | (apply Ops_q; (case hon => exact Va); (case hd => rfl); (case hq => exact YlA)) | refine Vr ?_ | refine Vt ?_ | refine Vf ?_ | refine Vm ?_ | refine Ve ?_ | refine Vo ?_ | refine Vz ?_ | refine Vn ?_)
    generalize Value.slice a0 (R0.map rnC).length c0 = v0 at *
    refine VD_seq ?_
    repeat (first | refine Vx ?_ | (apply Ops_q; (case hon => exact Va); (case hd => rfl); (case hq => exact YlA)) | refine Vr ?_ | refine Vt ?_ | refine Vf ?_ | refine Vm ?_ | refine Ve ?_ | refine Vo ?_ | refine Vz ?_ | refine Vn ?_)
    refine V_no rfl hd5' ?_
    repeat (first | refine Vx ?_ | (apply Ops_q; (case hon => exact Va); (case hd => rfl); (case hq => exact YlA)) | refine Vr ?_ | refine Vt ?_ | refine Vf ?_ | refine Vm ?_ | refine Ve ?_ | refine Vo ?_ | refine Vz ?_ | refine Vn ?_)
    obtain ⟨adN, rfl, _, hcN⟩ := hT.hN node x hx
    replace hcN : Cells w6 (adN.add (node * 4)) [.int .u64 x.inner, .int .u64 x.leaf, .int .i64 x.nodes, .int .i64 x.first] := hcN.ext z6
    refine VD_seq ?_
    repeat (first | refine Vx ?_ | (apply Ops_q; (case hon => exact Va); (case hd => rfl); (case hq => exact YlA)) | refine Vr ?_ | refine Vt ?_ | refine Vf ?_ | refine Vm ?_ | refine Ve ?_ | refine Vo ?_ | refine Vz ?_ | refine Vn ?_)
    (apply Ops_q; (case hon => (exact Va)); (case hd => rfl); (case hq => exact Yl_indexS (j := node) rfl rfl (by omega)))
    repeat (first | refine Vx ?_ | (apply Ops_q; (case hon => exact Va); (case hd => rfl); (case hq => exact YlA)) | refine Vr ?_ | refine Vt ?_ | refine Vf ?_ | refine Vm ?_ | refine Ve ?_ | refine Vo ?_ | refine Vz ?_ | refine Vn ?_)
    (refine Ops_alloc (by exact Va) rfl ?_; intro w7 b10 n_b10; have k_b10 := n_b10.blk)
    repeat (first | refine Vx ?_ | (apply Ops_q; (case hon => exact Va); (case hd => rfl); (case hq => exact YlA)) | refine Vr ?_ | refine Vt ?_ | refine Vf ?_ | refine Vm ?_ | refine Ve ?_ | refine Vo ?_ | refine Vz ?_ | refine Vn ?_)
    (refine Ops_store (by exact Va) rfl rfl (by assumption) (by first | rfl | exact OneAll.h) ?_; intro w8 u_w8; have k_b10 := u_w8.blk)
    have y8 : Ext w6 w8 := u_w8.below n_b10.ext n_b10.ge
    replace k_b7 := k_b7.ext y8
    repeat (first | refine Vx ?_ | (apply Ops_q; (case hon => exact Va); (case hd => rfl); (case hq => exact YlA)) | refine Vr ?_ | refine Vt ?_ | refine Vf ?_ | refine Vm ?_ | refine Ve ?_ | refine Vo ?_ | refine Vz ?_ | refine Vn ?_)
    refine VD_seqD ?_
    refine VD_seq ?_
    repeat (first | refine Vx ?_ | (apply Ops_q; (case hon => exact Va); (case hd => rfl); (case hq => exact YlA)) | refine Vr ?_ | refine Vt ?_ | refine Vf ?_ | refine Vm ?_ | refine Ve ?_ | refine Vo ?_ | refine Vz ?_ | refine Vn ?_)
    (refine Ops_callR (by exact Va) rfl rfl (fun w_ e_ => below_v (base, d) w_) ?_; intro vf w9 w0_ e0_ e1_ r_vf; have e_w9 := e0_.trans e1_; have b_vf := e0_.size; clear e0_ e1_)
    obtain ⟨bb, rfl, kb, hbb⟩ := r_vf
    repeat (first | refine Vx ?_ | (apply Ops_q; (case hon => exact Va); (case hd => rfl); (case hq => exact YlA)) | refine Vr ?_ | refine Vt ?_ | refine Vf ?_ | refine Vm ?_ | refine Ve ?_ | refine Vo ?_ | refine Vz ?_ | refine Vn ?_)
    refine VD_block ?_
    have hI0 : XS w0 base0 (some adN) aL N L cN cL node base d x v0 b4 b5 b6 b8 b9 b10 bb [] v0 R0 w9 :=
      ⟨Mod.of_ext (z6.trans (y8.trans e_w9)), k_b4.ext (y8.trans e_w9), k_b5.ext (y8.trans e_w9), k_b6.ext (y8.trans e_w9), k_b8.ext (y8.trans e_w9), k_b9.ext (y8.trans e_w9), k_b10.ext e_w9, kb, hO.ext (z6.trans (y8.trans e_w9)), fun c hc => .inl hc, Marks.nil, h58, g5, g8, g9⟩
    clear k_b4 k_b5 k_b6 k_b7 k_b8 k_b9 k_b10 kb hcN
    refine VD_sub (m1 := [(26, .func (.func 93) #[] #[.pointer (some ⟨bb, 0, none⟩)]), (4, .pointer (some ⟨b4, 0, none⟩)), (5, .pointer (some ⟨b5, 0, none⟩)), (6, .pointer (some ⟨b6, 0, none⟩)), (8, .pointer (some ⟨b8, 0, none⟩)), (9, .pointer (some ⟨b9, 0, none⟩)), (10, .pointer (some ⟨b10, 0, none⟩))]) (by repeat (first | exact trivial | refine ⟨rfl, ?_⟩)) ?_
    have hl0 : ∀ l, w9.heap.size ≤ l → w0.heap.size ≤ l := fun l hl => Nat.le_trans hI0.md.size hl
    refine VD_range (K := 64) (vs := fun k => [.int .i64 k, partV (base, d) k]) rfl (fun args w => TFun.h args w) (below_iter bb (base, d) hpk) (fun _ => rfl) rfl
      (fun k w => ∃ v R g1, XS w0 base0 (some adN) aL N L cN cL node base d x v0 b4 b5 b6 b8 b9 b10 bb [] v R w ∧ Canon g1 R (digTo d base k) ∧ (∀ a, a < base → g1 a = g0 a) ∧ (∀ g, XpGood g N L node (base, d) → ∀ a, base ≤ a → a < digTo d base k → g1 a = g a))
      (fun w => (∃ v R, XS w0 base0 (some adN) aL N L cN cL node base d x v0 b4 b5 b6 b8 b9 b10 bb [] v R w) ∧ ∀ g, ¬XpGood g N L node (base, d))
      (fun s : Nat × Nat => [(12, .pointer (some ⟨s.2, 0, none⟩)), (11, .int .i64 s.1), (4, .pointer (some ⟨b4, 0, none⟩)), (5, .pointer (some ⟨b5, 0, none⟩)), (6, .pointer (some ⟨b6, 0, none⟩)), (8, .pointer (some ⟨b8, 0, none⟩)), (9, .pointer (some ⟨b9, 0, none⟩)), (10, .pointer (some ⟨b10, 0, none⟩))])
      (fun k s w => s.1 = k ∧ (∃ v R g1, XS w0 base0 (some adN) aL N L cN cL node base d x v0 b4 b5 b6 b8 b9 b10 bb [] v R w ∧ Canon g1 R (digTo d base k) ∧ (∀ a, a < base → g1 a = g0 a) ∧ (∀ g, XpGood g N L node (base, d) → ∀ a, base ≤ a → a < digTo d base k → g1 a = g a)) ∧ Blk w s.2 125 [.int .u64 (digLo d base k), .int .i64 ((d : Int) + 1), .bool (digOk d k)])
      (fun k w1 w2 ⟨v, R, g1, h, h2⟩ he => ⟨v, R, g1, h.ext he, h2⟩) (fun w1 w2 ⟨⟨v, R, h⟩, h2⟩ he => ⟨⟨v, R, h.ext he⟩, h2⟩)
      (fun k s w1 w2 ⟨e, ⟨v, R, g1, h, h2⟩, hb⟩ he => ⟨e, ⟨v, R, g1, h.ext he, h2⟩, hb.ext he⟩)
      (fun l k w1 w2 hl ⟨v, R, g1, h, h2⟩ ht => ⟨v, R, g1, h.turn ht (hl0 l hl), h2⟩) (fun l w1 w2 hl ⟨⟨v, R, h⟩, h2⟩ ht => ⟨⟨v, R, h.turn ht (hl0 l hl)⟩, h2⟩)
      (fun l k s w1 w2 hl ⟨e, ⟨v, R, g1, h, h2⟩, hb⟩ ht => ⟨e, ⟨v, R, g1, h.turn ht (hl0 l hl), h2⟩, ht.blk hb⟩)
      (fun k w1 ⟨v, R, g1, h, _⟩ => h.kb) ⟨_, _, g0, hI0, by rw [digTo_zero]; exact hC, fun _ _ => rfl, fun g _ a h1 h2 => by rw [digTo_zero] at h2; omega⟩ ?_ ?_ ?_ ?_
    · -- the loop's variables
      rintro l D r k w9 hk hl ⟨v, R, g1, h, h2⟩ hr
      show V _ _ _ _ ((28, _) :: (27, _) :: _) _
      repeat (first | refine Vx ?_ | (apply Ops_q; (case hon => exact Va); (case hd => rfl); (case hq => exact YlA)) | refine Vr ?_ | refine Vt ?_ | refine Vf ?_ | refine Vm ?_ | refine Ve ?_ | refine Vo ?_ | refine Vz ?_ | refine Vn ?_)
      (refine Ops_alloc (by exact Va) rfl ?_; intro wa b12 n_b12; have k_b12 := n_b12.blk)
      repeat (first | refine Vx ?_ | (apply Ops_q; (case hon => exact Va); (case hd => rfl); (case hq => exact YlA)) | refine Vr ?_ | refine Vt ?_ | refine Vf ?_ | refine Vm ?_ | refine Ve ?_ | refine Vo ?_ | refine Vz ?_ | refine Vn ?_)
      (refine Ops_store (by exact Va) rfl rfl (by assumption) (by first | rfl | exact OneAll.h) ?_; intro wb u_wb; have k_b12 := u_wb.blk)
      have xb : Ext w9 wb := u_wb.below n_b12.ext n_b12.ge
      repeat (first | refine Vx ?_ | (apply Ops_q; (case hon => exact Va); (case hd => rfl); (case hq => exact YlA)) | refine Vr ?_ | refine Vt ?_ | refine Vf ?_ | refine Vm ?_ | refine Ve ?_ | refine Vo ?_ | refine Vz ?_ | refine Vn ?_)
      exact ⟨rfl, hr.ext xb, (k, b12), (by repeat (first | exact trivial | refine ⟨rfl, ?_⟩)), rfl, ⟨v, R, g1, h.ext xb, h2⟩, k_b12⟩
    · -- a round
      rintro l D r k ⟨kk, b12⟩ w9 hk hl ⟨e, ⟨v, R, g1, h, hC1, hA1, hG1⟩, k12⟩ hr
      dsimp only at e k12 ⊢
      subst e
      have hdig := dig_in (base := base) hd5 hk
      have hb32' := hb32 hd5
      have hnp := nsz_pos (d + 1)
      have hbv := and_one64 x.inner kk hx1
      have k10 := h.k10
      by_cases hbit : x.inner / 2 ^ kk % 2 = 1
      · have hd1 : decide (bits .and .u64 ((x.inner : Int) / 2 ^ ((kk : Nat) : Int).toNat) 1 = 1) = true := by rw [hbv, hbit]; rfl
        have hkl := hReg.kid hx hk hbit
        have hgk : ∀ g, XpGood g N L node (base, d) → inB g (base, d) kk = true ∧ node < ndC N node + rankN x.inner kk ∧ XpGood g N L (ndC N node + rankN x.inner kk) (digLo d base kk, d + 1) := fun g hg => hg.kid hnode hx hk hbit
        have ekid : x.nodes + (rankN x.inner kk : Int) = ((ndC N node + rankN x.inner kk : Nat) : Int) := by rw [hxn, Int.natCast_add]
        generalize hkid : ndC N node + rankN x.inner kk = kid at *
        have hin : InK .i64 (x.nodes + (rankN x.inner kk : Int)) := by rw [ekid]; simp only [InK]; omega
        clear hkid hbv
        repeat (first | refine Vx ?_ | (apply Ops_q; (case hon => exact Va); (case hd => rfl); (case hq => exact YlA)) | refine Vr ?_ | refine Vt ?_ | refine Vf ?_ | refine Vm ?_ | refine Ve ?_ | refine Vo ?_ | refine Vz ?_ | refine Vn ?_)
        refine V_yes rfl hd1 ?_
        repeat (first | refine Vx ?_ | (apply Ops_q; (case hon => exact Va); (case hd => rfl); (case hq => exact YlA)) | refine Vr ?_ | refine Vt ?_ | refine Vf ?_ | refine Vm ?_ | refine Ve ?_ | refine Vo ?_ | refine Vz ?_ | refine Vn ?_)
        (apply Ops_q; (case hon => (exact Va)); (case hd => rfl); (case hq => exact Yl_call rfl (fun w_ e_ => rank_v x.inner kk w_ hx1 (Nat.le_of_lt hk))))
        repeat (first | refine Vx ?_ | (apply Ops_q; (case hon => exact Va); (case hd => rfl); (case hq => exact YlA)) | refine Vr ?_ | refine Vt ?_ | refine Vf ?_ | refine Vm ?_ | refine Ve ?_ | refine Vo ?_ | refine Vz ?_ | refine Vn ?_)
        rw [ekid]
        have k6 := h.k6
        cases hok : digOk d kk with
        | false =>
          rw [hok] at k12
          have hno : ∀ g, ¬XpGood g N L node (base, d) := fun g hg => by
            have h1 := (inB_of hd5 (hgk g hg).1).1
            dsimp only at h1
            rw [hok] at h1; cases h1
          have k8h := h.k8
          repeat (first | refine Vx ?_ | (apply Ops_q; (case hon => exact Va); (case hd => rfl); (case hq => exact YlA)) | refine Vr ?_ | refine Vt ?_ | refine Vf ?_ | refine Vm ?_ | refine Ve ?_ | refine Vo ?_ | refine Vz ?_ | refine Vn ?_)
          (refine Ops_store (by exact Va) rfl rfl (by assumption) (by first | rfl | exact OneAll.h) ?_; intro wx u_wx; have k_b8 := u_wx.blk)
          have k9x := u_wx.keep h.k9 (blk_ne h.k9 h.k8 rfl)
          repeat (first | refine Vx ?_ | (apply Ops_q; (case hon => exact Va); (case hd => rfl); (case hq => exact YlA)) | refine Vr ?_ | refine Vt ?_ | refine Vf ?_ | refine Vm ?_ | refine Ve ?_ | refine Vo ?_ | refine Vz ?_ | refine Vn ?_)
          (refine Ops_store (by exact Va) rfl rfl (by assumption) (by first | rfl | exact OneAll.h) ?_; intro wy u_wy; have k_b9 := u_wy.blk)
          have hfs := h.fail u_wx u_wy
          have hfr := h.recFail hr u_wx u_wy
          repeat (first | refine Vx ?_ | (apply Ops_q; (case hon => exact Va); (case hd => rfl); (case hq => exact YlA)) | refine Vr ?_ | refine Vt ?_ | refine Vf ?_ | refine Vm ?_ | refine Ve ?_ | refine Vo ?_ | refine Vz ?_ | refine Vn ?_)
          exact ⟨hfr, ⟨_, _, hfs⟩, hno⟩
        | true =>
          obtain ⟨t1, t2⟩ := digTo_ok (base := base) hd5 hok
          rw [hok] at k12
          by_cases hle : kid ≤ node
          · have hd2 : decide ((kid : Int) ≤ (node : Int)) = true := decide_eq_true (by omega)
            have hno : ∀ g, ¬XpGood g N L node (base, d) := fun g hg => by
              have h1 := (hgk g hg).2.1
              omega
            repeat (first | refine Vx ?_ | (apply Ops_q; (case hon => exact Va); (case hd => rfl); (case hq => exact YlA)) | refine Vr ?_ | refine Vt ?_ | refine Vf ?_ | refine Vm ?_ | refine Ve ?_ | refine Vo ?_ | refine Vz ?_ | refine Vn ?_)
            refine V_yes rfl hd2 ?_
            have k8h := h.k8
            repeat (first | refine Vx ?_ | (apply Ops_q; (case hon => exact Va); (case hd => rfl); (case hq => exact YlA)) | refine Vr ?_ | refine Vt ?_ | refine Vf ?_ | refine Vm ?_ | refine Ve ?_ | refine Vo ?_ | refine Vz ?_ | refine Vn ?_)
            (refine Ops_store (by exact Va) rfl rfl (by assumption) (by first | rfl | exact OneAll.h) ?_; intro wx u_wx; have k_b8 := u_wx.blk)
            have k9x := u_wx.keep h.k9 (blk_ne h.k9 h.k8 rfl)
            repeat (first | refine Vx ?_ | (apply Ops_q; (case hon => exact Va); (case hd => rfl); (case hq => exact YlA)) | refine Vr ?_ | refine Vt ?_ | refine Vf ?_ | refine Vm ?_ | refine Ve ?_ | refine Vo ?_ | refine Vz ?_ | refine Vn ?_)
            (refine Ops_store (by exact Va) rfl rfl (by assumption) (by first | rfl | exact OneAll.h) ?_; intro wy u_wy; have k_b9 := u_wy.blk)
            have hfs := h.fail u_wx u_wy
            have hfr := h.recFail hr u_wx u_wy
            repeat (first | refine Vx ?_ | (apply Ops_q; (case hon => exact Va); (case hd => rfl); (case hq => exact YlA)) | refine Vr ?_ | refine Vt ?_ | refine Vf ?_ | refine Vm ?_ | refine Ve ?_ | refine Vo ?_ | refine Vz ?_ | refine Vn ?_)
            exact ⟨hfr, ⟨_, _, hfs⟩, hno⟩
          · have hd2 : decide ((kid : Int) ≤ (node : Int)) = false := decide_eq_false (by omega)
            have ed : ((d : Int) + 1) = ((d + 1 : Nat) : Int) := by omega
            have hpart : Cells w9 ⟨b12, 0, none⟩ [.int .u64 (digLo d base kk), .int .i64 ((d : Int) + 1)] := k12.part 0 2
            have k4 := h.k4
            have k5 := h.k5
            have hT9 : TabM w9 base0 (some adN) aL N L := hT.mod h.md (fun c hc => hO.ge hc)
            have hS : ∀ c, v.ownBlock = some c → base0 ≤ c := fun c hc => h.own.ge hc
            have hCd : Canon g1 R (digLo d base kk) := by rw [← t1]; exact hC1
            repeat (first | refine Vx ?_ | (apply Ops_q; (case hon => exact Va); (case hd => rfl); (case hq => exact YlA)) | refine Vr ?_ | refine Vt ?_ | refine Vf ?_ | refine Vm ?_ | refine Ve ?_ | refine Vo ?_ | refine Vz ?_ | refine Vn ?_)
            refine V_no rfl hd2 ?_
            repeat (first | refine Vx ?_ | (apply Ops_q; (case hon => exact Va); (case hd => rfl); (case hq => exact YlA)) | refine Vr ?_ | refine Vt ?_ | refine Vf ?_ | refine Vm ?_ | refine Ve ?_ | refine Vo ?_ | refine Vz ?_ | refine Vn ?_)
            rw [ed]
            refine Ops_callM (S := fun c => v.ownBlock = some c) (R := fun w0' => XpR base0 N L g1 v (digLo d base kk) (d + 1) kid w0') (by exact Va) rfl rfl (fun w_ e_ => ih (d + 1) (by omega) (digLo d base kk) kid v R g1 w_ (hT9.mod (Mod.of_ext (S := fun c => v.ownBlock = some c) e_) hS) hkl (fun _ => by omega) (h.own.ext e_) (Nat.le_trans hb0 (Nat.le_trans h.md.size e_.size)) hCd (by omega)) ?_
            intro vr w10 w0_ e0 m10 hR
            obtain ⟨v', ok, rfl, hok1, hok0⟩ := hR
            have m : Mod (fun c => v.ownBlock = some c) w9 w10 := (Mod.of_ext e0).trans m10
            have k5' := blk_modOwn m h.own h.k5 rfl
            cases ok with
            | false =>
              obtain ⟨rfl, hno'⟩ := hok0 rfl
              have hno : ∀ g, ¬XpGood g N L node (base, d) := fun g hg => hno' g (hgk g hg).2.2
              repeat (first | refine Vx ?_ | (apply Ops_q; (case hon => exact Va); (case hd => rfl); (case hq => exact YlA)) | refine Vr ?_ | refine Vt ?_ | refine Vf ?_ | refine Vm ?_ | refine Ve ?_ | refine Vo ?_ | refine Vz ?_ | refine Vn ?_)
              (refine Ops_store (by exact Va) rfl rfl (by assumption) (by first | rfl | exact OneAll.h) ?_; intro w11 u_w11; have k_b5 := u_w11.blk)
              have h2 := h.call (R' := []) m Own.nil (fun c hc => nomatch hc) u_w11
              have hr2 := h.keepRec hr m u_w11
              have k8h := h2.k8
              repeat (first | refine Vx ?_ | (apply Ops_q; (case hon => exact Va); (case hd => rfl); (case hq => exact YlA)) | refine Vr ?_ | refine Vt ?_ | refine Vf ?_ | refine Vm ?_ | refine Ve ?_ | refine Vo ?_ | refine Vz ?_ | refine Vn ?_)
              (refine Ops_store (by exact Va) rfl rfl (by assumption) (by first | rfl | exact OneAll.h) ?_; intro wx u_wx; have k_b8 := u_wx.blk)
              have k9x := u_wx.keep h2.k9 (blk_ne h2.k9 h2.k8 rfl)
              repeat (first | refine Vx ?_ | (apply Ops_q; (case hon => exact Va); (case hd => rfl); (case hq => exact YlA)) | refine Vr ?_ | refine Vt ?_ | refine Vf ?_ | refine Vm ?_ | refine Ve ?_ | refine Vo ?_ | refine Vz ?_ | refine Vn ?_)
              (refine Ops_store (by exact Va) rfl rfl (by assumption) (by first | rfl | exact OneAll.h) ?_; intro wy u_wy; have k_b9 := u_wy.blk)
              have hfs := h2.fail u_wx u_wy
              have hfr := h2.recFail hr2 u_wx u_wy
              repeat (first | refine Vx ?_ | (apply Ops_q; (case hon => exact Va); (case hd => rfl); (case hq => exact YlA)) | refine Vr ?_ | refine Vt ?_ | refine Vf ?_ | refine Vm ?_ | refine Ve ?_ | refine Vo ?_ | refine Vz ?_ | refine Vn ?_)
              exact ⟨hfr, ⟨_, _, hfs⟩, hno⟩
            | true =>
              obtain ⟨R', g2, o', hC2, hA2, hG2, hf2⟩ := hok1 rfl
              have hf3 : ∀ c, v'.ownBlock = some c → v.ownBlock = some c ∨ w9.heap.size ≤ c := fun c hc => (hf2 c hc).imp id (fun h1 => Nat.le_trans e0.size h1)
              obtain ⟨a', c', rfl, _⟩ := o'.slice
              repeat (first | refine Vx ?_ | (apply Ops_q; (case hon => exact Va); (case hd => rfl); (case hq => exact YlA)) | refine Vr ?_ | refine Vt ?_ | refine Vf ?_ | refine Vm ?_ | refine Ve ?_ | refine Vo ?_ | refine Vz ?_ | refine Vn ?_)
              (refine Ops_store (by exact Va) rfl rfl (by assumption) (by first | rfl | exact OneAll.h) ?_; intro w11 u_w11; have k_b5 := u_w11.blk)
              have h2 := h.call m o' hf3 u_w11
              have hr2 := h.keepRec hr m u_w11
              repeat (first | refine Vx ?_ | (apply Ops_q; (case hon => exact Va); (case hd => rfl); (case hq => exact YlA)) | refine Vr ?_ | refine Vt ?_ | refine Vf ?_ | refine Vm ?_ | refine Ve ?_ | refine Vo ?_ | refine Vz ?_ | refine Vn ?_)
              refine ⟨hr2, _, _, g2, h2, by rw [t2]; exact hC2, fun a ha => ?_, fun g hg a ha1 ha2 => ?_⟩
              · rw [hA2 a (by omega)]; exact hA1 a ha
              · rw [t2] at ha2
                rcases Nat.lt_or_ge a (digLo d base kk) with h1 | h1
                · rw [hA2 a h1]; exact hG1 g hg a ha1 (by rw [t1]; exact h1)
                · exact hG2 g (hgk g hg).2.2 a h1 ha2
      · have hd1 : decide (bits .and .u64 ((x.inner : Int) / 2 ^ ((kk : Nat) : Int).toNat) 1 = 1) = false := by rw [hbv]; exact decide_eq_false (by omega)
        have hgl : ∀ g, XpGood g N L node (base, d) → 0 < rankN x.leaf (kk + 1) ∧ (digOk d kk = true → leafV L (lfC N node) (rankN x.leaf (kk + 1)) = g (digLo d base kk) ∧ Flat g (digLo d base kk) (digLo d base kk + nsz (d + 1))) := fun g hg => hg.leaf hnode hx hk hbit
        have hT9 : TabM w9 base0 (some adN) aL N L := hT.mod h.md (fun c hc => hO.ge hc)
        have hlf := hReg.leaf hx (show kk + 1 ≤ 64 from hk)
        have hlfl := hReg.lf_le (Nat.le_of_lt hnode)
        have hlk : lfC N node ≤ 4611686018427387904 := Nat.le_trans hlfl hl9
        have hleaf := fun (w_ : World) (e_ : Ext w9 w_) => leaf_v (some adN) aL N.length L cN cL x (lfC N node) kk w_ (hT9.ins.ext e_) hx2 hxf hk hlf hl9 hlk
        generalize hlv : leafV L (lfC N node) (rankN x.leaf (kk + 1)) = value at *
        have k4 := h.k4
        clear hbv hlfl hlk hlf
        repeat (first | refine Vx ?_ | (apply Ops_q; (case hon => exact Va); (case hd => rfl); (case hq => exact YlA)) | refine Vr ?_ | refine Vt ?_ | refine Vf ?_ | refine Vm ?_ | refine Ve ?_ | refine Vo ?_ | refine Vz ?_ | refine Vn ?_)
        refine V_no rfl hd1 ?_
        repeat (first | refine Vx ?_ | (apply Ops_q; (case hon => exact Va); (case hd => rfl); (case hq => exact YlA)) | refine Vr ?_ | refine Vt ?_ | refine Vf ?_ | refine Vm ?_ | refine Ve ?_ | refine Vo ?_ | refine Vz ?_ | refine Vn ?_)
        (apply Ops_q; (case hon => (exact Va)); (case hd => rfl); (case hq => exact Yl_call rfl (fun w_ e_ => hleaf w_ e_)))
        generalize hrk : rankN x.leaf (kk + 1) = rk at *
        repeat (first | refine Vx ?_ | (apply Ops_q; (case hon => exact Va); (case hd => rfl); (case hq => exact YlA)) | refine Vr ?_ | refine Vt ?_ | refine Vf ?_ | refine Vm ?_ | refine Ve ?_ | refine Vo ?_ | refine Vz ?_ | refine Vn ?_)
        by_cases hz : rk = 0
        · have hd2 : (!(!decide (rk = 0))) = true := by rw [decide_eq_true hz]; rfl
          have hno : ∀ g, ¬XpGood g N L node (base, d) := fun g hg => by
            have h1 := (hgl g hg).1
            omega
          refine V_yes rfl hd2 ?_
          have k8h := h.k8
          repeat (first | refine Vx ?_ | (apply Ops_q; (case hon => exact Va); (case hd => rfl); (case hq => exact YlA)) | refine Vr ?_ | refine Vt ?_ | refine Vf ?_ | refine Vm ?_ | refine Ve ?_ | refine Vo ?_ | refine Vz ?_ | refine Vn ?_)
          (refine Ops_store (by exact Va) rfl rfl (by assumption) (by first | rfl | exact OneAll.h) ?_; intro wx u_wx; have k_b8 := u_wx.blk)
          have k9x := u_wx.keep h.k9 (blk_ne h.k9 h.k8 rfl)
          repeat (first | refine Vx ?_ | (apply Ops_q; (case hon => exact Va); (case hd => rfl); (case hq => exact YlA)) | refine Vr ?_ | refine Vt ?_ | refine Vf ?_ | refine Vm ?_ | refine Ve ?_ | refine Vo ?_ | refine Vz ?_ | refine Vn ?_)
          (refine Ops_store (by exact Va) rfl rfl (by assumption) (by first | rfl | exact OneAll.h) ?_; intro wy u_wy; have k_b9 := u_wy.blk)
          have hfs := h.fail u_wx u_wy
          have hfr := h.recFail hr u_wx u_wy
          repeat (first | refine Vx ?_ | (apply Ops_q; (case hon => exact Va); (case hd => rfl); (case hq => exact YlA)) | refine Vr ?_ | refine Vt ?_ | refine Vf ?_ | refine Vm ?_ | refine Ve ?_ | refine Vo ?_ | refine Vz ?_ | refine Vn ?_)
          exact ⟨hfr, ⟨_, _, hfs⟩, hno⟩
        · have hd2 : (!(!decide (rk = 0))) = false := by rw [decide_eq_false hz]; rfl
          refine V_no rfl hd2 ?_
          cases hok : digOk d kk with
          | false =>
            rw [hok] at k12
            obtain ⟨_, t2⟩ := digTo_skip (base := base) hd5 hok
            repeat (first | refine Vx ?_ | (apply Ops_q; (case hon => exact Va); (case hd => rfl); (case hq => exact YlA)) | refine Vr ?_ | refine Vt ?_ | refine Vf ?_ | refine Vm ?_ | refine Ve ?_ | refine Vo ?_ | refine Vz ?_ | refine Vn ?_)
            exact ⟨hr, _, _, g1, h, by rw [t2]; exact hC1, hA1, fun g hg a ha1 ha2 => hG1 g hg a ha1 (by rw [← t2]; exact ha2)⟩
          | true =>
            obtain ⟨t1, t2⟩ := digTo_ok (base := base) hd5 hok
            rw [hok] at k12
            have k5 := h.k5
            have hCd : Canon g1 R (digLo d base kk) := by rw [← t1]; exact hC1
            have hRl := hCd.len
            repeat (first | refine Vx ?_ | (apply Ops_q; (case hon => exact Va); (case hd => rfl); (case hq => exact YlA)) | refine Vr ?_ | refine Vt ?_ | refine Vf ?_ | refine Vm ?_ | refine Ve ?_ | refine Vo ?_ | refine Vz ?_ | refine Vn ?_)
            refine Ops_callM (S := fun c => v.ownBlock = some c) (R := fun w0' => ExtR base0 (extR R (digLo d base kk) value) v w0') (by exact Va) rfl rfl (fun w_ e_ => extend_v R (digLo d base kk) value w_ (h.own.ext e_) (Nat.le_trans hb0 (Nat.le_trans h.md.size e_.size)) (by omega)) ?_
            intro v' w10 w0_ e0 m10 hR
            obtain ⟨o', hf2⟩ := hR
            have m : Mod (fun c => v.ownBlock = some c) w9 w10 := (Mod.of_ext e0).trans m10
            have k5' := blk_modOwn m h.own h.k5 rfl
            have hf3 : ∀ c, v'.ownBlock = some c → v.ownBlock = some c ∨ w9.heap.size ≤ c := fun c hc => (hf2 c hc).imp id (fun h1 => Nat.le_trans e0.size h1)
            obtain ⟨a', c', rfl, _⟩ := o'.slice
            repeat (first | refine Vx ?_ | (apply Ops_q; (case hon => exact Va); (case hd => rfl); (case hq => exact YlA)) | refine Vr ?_ | refine Vt ?_ | refine Vf ?_ | refine Vm ?_ | refine Ve ?_ | refine Vo ?_ | refine Vz ?_ | refine Vn ?_)
            (refine Ops_store (by exact Va) rfl rfl (by assumption) (by first | rfl | exact OneAll.h) ?_; intro w11 u_w11; have k_b5 := u_w11.blk)
            have h2 := h.call m o' hf3 u_w11
            have hr2 := h.keepRec hr m u_w11
            have hC2 := hCd.ext (g' := fun a => if a < digLo d base kk then g1 a else value) (v := value) (show digLo d base kk < digLo d base kk + nsz (d + 1) by omega) (fun a ha => if_pos ha) (fun a h1 _ => if_neg (by omega))
            repeat (first | refine Vx ?_ | (apply Ops_q; (case hon => exact Va); (case hd => rfl); (case hq => exact YlA)) | refine Vr ?_ | refine Vt ?_ | refine Vf ?_ | refine Vm ?_ | refine Ve ?_ | refine Vo ?_ | refine Vz ?_ | refine Vn ?_)
            refine ⟨hr2, _, _, _, h2, by rw [t2]; exact hC2, fun a ha => ?_, fun g hg a ha1 ha2 => ?_⟩
            · rw [if_pos (by omega)]; exact hA1 a ha
            · rw [t2] at ha2
              rcases Nat.lt_or_ge a (digLo d base kk) with h1 | h1
              · rw [if_pos h1]; exact hG1 g hg a ha1 (by rw [t1]; exact h1)
              · obtain ⟨q1, q2⟩ := (hgl g hg).2 hok
                rw [if_neg (by omega), q1]; exact (q2 a h1 ha2).symm
    · -- all digits are through
      rintro D w10 hDl ⟨v, R, g1, h, hC1, hA1, hG1⟩ hdD
      refine blockD_normal ?_
      refine thenD_normal ?_
      have k5 := h.k5
      have k8 := h.k8
      have k9 := h.k9
      obtain ⟨a', c', rfl, _⟩ := h.own.slice
      refine VD_seq ?_
      repeat (first | refine Vx ?_ | (apply Ops_q; (case hon => exact Va); (case hd => rfl); (case hq => exact YlA)) | refine Vr ?_ | refine Vt ?_ | refine Vf ?_ | refine Vm ?_ | refine Ve ?_ | refine Vo ?_ | refine Vz ?_ | refine Vn ?_)
      (refine Ops_store (by exact Va) rfl rfl (by assumption) (by first | rfl | exact OneAll.h) ?_; intro wa u_wa; have k_b8 := u_wa.blk)
      have k9a := u_wa.keep h.k9 (blk_ne h.k9 h.k8 rfl)
      repeat (first | refine Vx ?_ | (apply Ops_q; (case hon => exact Va); (case hd => rfl); (case hq => exact YlA)) | refine Vr ?_ | refine Vt ?_ | refine Vf ?_ | refine Vm ?_ | refine Ve ?_ | refine Vo ?_ | refine Vz ?_ | refine Vn ?_)
      (refine Ops_store (by exact Va) rfl rfl (by assumption) (by first | rfl | exact OneAll.h) ?_; intro wb u_wb; have k_b9 := u_wb.blk)
      have k8b := u_wb.keep k_b8 (blk_ne k_b8 k9a rfl)
      have hM : Marks [D] wb := by
        have h1 : Marks [D] w10 := ⟨by simp, fun E hE => by rw [List.mem_singleton.1 hE]; exact hdD⟩
        exact (h1.upd u_wa h.k8).upd u_wb k9a
      have ob := (h.own.upd u_wa (own_blk_ne h.own h.k8 rfl)).upd u_wb (own_blk_ne (h.own.upd u_wa (own_blk_ne h.own h.k8 rfl)) k9a rfl)
      have hmd := (h.md.upd u_wa (.inr h.g8)).upd u_wb (.inr h.g9)
      rw [digTo_end base hd5] at hC1 hG1
      repeat (first | refine Vx ?_ | (apply Ops_q; (case hon => exact Va); (case hd => rfl); (case hq => exact YlA)) | refine Vr ?_ | refine Vt ?_ | refine Vf ?_ | refine Vm ?_ | refine Ve ?_ | refine Vo ?_ | refine Vz ?_ | refine Vn ?_)
      refine VD_of (V_ret ?_)
      refine retR2D (.inl rfl) rfl hM fun w' hm => ⟨res_one rfl ((hM.blk hm k8b).cell rfl), res_one rfl ((hM.blk hm k_b9).cell rfl), ?_⟩
      exact ⟨_, rfl, hmd.trans' hm (fun c hc => .inr (by rw [List.mem_singleton.1 hc]; exact Nat.le_trans hI0.md.size hDl)), _, true, rfl, fun _ => ⟨R, g1, hM.own_mod hm ob, hC1, hA1, hG1, h.fr⟩, fun h => nomatch h⟩
    · -- a digit fails
      rintro D w10 hDl ⟨⟨v, R, h⟩, hno⟩ hdD
      have hM : Marks [D] w10 := ⟨by simp, fun E hE => by rw [List.mem_singleton.1 hE]; exact hdD⟩
      show retD Try.prog Try.f90 79 (Does (fun c => v0.ownBlock = some c) (XpR base0 N L g0 v0 base d node w0) w0) .ret [D] _ w10
      · refine retR2D (.inl rfl) rfl hM fun w' hm => ⟨res_one rfl ((hM.blk hm h.k8).cell rfl), res_one rfl ((hM.blk hm h.k9).cell rfl), ?_⟩
        exact ⟨_, rfl, h.md.trans' hm (fun c hc => .inr (by rw [List.mem_singleton.1 hc]; exact Nat.le_trans hI0.md.size hDl)), _, false, rfl, (fun h => nomatch h), fun _ => ⟨rfl, hno⟩⟩
end Go.Proofs.Ytjpnaofoeeegeaa


/-
  Stride tables (layer 8), plain: the way of an address through the compressed form; forms that are equal are forms of the same function.
  No conditions beyond those that each lemma states.
-/
namespace Go.Proofs.Ytjpnaofoeeegeaa

/-- Digit i of an address. -/
def digN (a i : Nat) : Nat := a * 16 / 2 ^ (30 - 6 * i) % 64
theorem digN_lt (a i : Nat) : digN a i < 64 := Nat.mod_lt _ (by omega)
/-- A place begins at a multiple of its size. -/
def PlAl (p : Nat × Nat) : Prop := p.1 % nsz p.2 = 0
theorem kd_al {f : Nat → Int} {p : Nat × Nat} (hp : PlOk p) (ha : PlAl p) : ∀ x, x ≤ 64 → ∀ q ∈ kdP f p x, PlAl q
  | 0, _, q, hq => by cases hq
  | x + 1, hx, q, hq => by
    rw [kdP] at hq
    split at hq
    · rename_i hin
      rcases List.mem_append.1 hq with hq | hq
      · exact kd_al hp ha x (by omega) q hq
      · rw [List.mem_singleton.1 hq]
        have h5 : p.2 < 5 := by
          rcases Nat.lt_or_ge p.2 5 with h | h
          · exact h
          · obtain ⟨b, d⟩ := p
            have := hp.1
            dsimp only at h this
            obtain rfl : d = 5 := by omega
            rw [inB_five] at hin; cases hin
        unfold PlAl at ha ⊢
        dsimp only
        rw [digLo, if_pos h5]
        rw [nsz_step h5] at ha
        have h1 : p.1 % nsz (p.2 + 1) = 0 := by
          rw [← Nat.mod_mul_left_mod p.1 64 (nsz (p.2 + 1)), ha]; exact Nat.zero_mod _
        rw [Nat.add_mul_mod_self_right]; exact h1
    · exact kd_al hp ha x (by omega) q hq
theorem row_al (f : Nat → Int) : ∀ i, ∀ p ∈ rowF f i, PlAl p
  | 0, p, hp => by rw [List.mem_singleton.1 hp]; rfl
  | i + 1, p, hp => by
    rw [rowF] at hp
    split at hp
    · rename_i q hq
      rcases List.mem_append.1 hp with hp | hp
      · exact row_al f i p hp
      · exact kd_al (plOk_row f i q (List.mem_of_getElem? hq)) (row_al f i q (List.mem_of_getElem? hq)) 64 (Nat.le_refl _) p hp
    · exact row_al f i p hp
/-- The digit of an address in a place. -/
theorem digN_at {p : Nat × Nat} {a : Nat} (hd : p.2 ≤ 5) (al : PlAl p) (h1 : p.1 ≤ a) (h2 : a < p.1 + nsz p.2) :
    digOk p.2 (digN a p.2) = true ∧ digLo p.2 p.1 (digN a p.2) ≤ a ∧ a < digLo p.2 p.1 (digN a p.2) + nsz (p.2 + 1) := by
  obtain ⟨base, d⟩ := p
  unfold PlAl at al
  dsimp only at hd al h1 h2 ⊢
  rcases Nat.lt_or_ge d 5 with h5 | h5
  · have hs := nsz_step h5
    have hp := nsz_pos (d + 1)
    have e : a * 16 / 2 ^ (30 - 6 * d) = a / nsz (d + 1) := by
      have e1 : 2 ^ (30 - 6 * d) = nsz (d + 1) * 16 := by unfold nsz; rw [show (16 : Nat) = 2 ^ 4 from rfl, ← Nat.pow_add]; congr 1; omega
      rw [e1, Nat.mul_div_mul_right _ _ (by omega)]
    have ed : digN a d = (a - base) / nsz (d + 1) := by
      unfold digN
      rw [e]
      obtain ⟨k, hk⟩ := Nat.dvd_of_mod_eq_zero al
      rw [hs] at hk h2
      have e2 : a = (a - base) + nsz (d + 1) * (64 * k) := by rw [Nat.mul_comm (nsz (d + 1)), Nat.mul_assoc, Nat.mul_comm k, ← Nat.mul_assoc, ← hk]; omega
      have e3 : a / nsz (d + 1) = (a - base) / nsz (d + 1) + 64 * k := by
        conv => lhs; rw [e2]
        rw [Nat.add_mul_div_left _ _ hp]
      have e4 : (a - base) / nsz (d + 1) < 64 := Nat.div_lt_of_lt_mul (by rw [Nat.mul_comm]; omega)
      rw [e3, Nat.add_mul_mod_self_left, Nat.mod_eq_of_lt e4]
    rw [ed, digLo, if_pos h5, digOk, decide_eq_true h5]
    have h3 := Nat.div_mul_le_self (a - base) (nsz (d + 1))
    have h4 := Nat.lt_div_mul_add (a := a - base) hp
    exact ⟨rfl, by omega, by omega⟩
  · obtain rfl : d = 5 := by omega
    rw [nsz_five] at h2 al
    have e : digN a 5 = 16 * (a - base) := by unfold digN; rw [show 2 ^ (30 - 6 * 5) = 1 from rfl, Nat.div_one]; omega
    rw [e, digLo, if_neg (by omega), digOk, nsz_six]
    refine ⟨by simp, by omega, by omega⟩
/-- How many nodes the way of an address visits. -/
def dep (f : Nat → Int) (a : Nat) : Nat → Nat × Nat → Nat
  | 0, _ => 0
  | m + 1, p => if inB f p (digN a p.2) then 1 + dep f a m (digLo p.2 p.1 (digN a p.2), p.2 + 1) else 1
section
variable {f : Nat → Int} {n i a : Nat} {p : Nat × Nat}
/-- The value of the digit of an address, where it is not inner. -/
theorem digK_val {x : Nat} (_hd : p.2 ≤ 5) (hin : inB f p x = false) (hok : digOk p.2 x = true) (h1 : digLo p.2 p.1 x ≤ a) (h2 : a < digLo p.2 p.1 x + nsz (p.2 + 1)) : digK f p x = some (some (f a)) := by
  have hne : digK f p x ≠ some none := fun e => by unfold inB at hin; rw [e] at hin; cases hin
  unfold digK at hne ⊢
  rw [if_pos hok] at hne ⊢
  split at hne
  · rename_i hf
    rw [if_pos hf, flat_iff.1 hf a h1 h2]
  · exact absurd rfl hne
/-- Each value of the function is a leaf of its form. -/
theorem CfAt.mem (h : CfAt f n) : ∀ m d, d + m = 5 → ∀ i p, i < n → (rowF f i)[i]? = some p → p.2 = d → p.1 ≤ a → a < p.1 + nsz p.2 → f a ∈ lvF f n := by
  intro m
  induction m with
  | zero =>
    intro d hd i p hi hp hpd h1 h2
    have hk := plOk_row f i p (List.mem_of_getElem? hp)
    obtain ⟨x, hx, hok, hl, hh⟩ := dig_of hk.1 h1 h2
    have hin : inB f p x = false := by
      obtain ⟨b, d'⟩ := p
      dsimp only at hpd
      obtain rfl : d' = 5 := by omega
      exact inB_five f b x
    have := (h.leaf hi hp hx hin).2 _ (digK_val hk.1 hin hok hl hh)
    exact List.mem_of_getElem? this
  | succ m ih =>
    intro d hd i p hi hp hpd h1 h2
    have hk := plOk_row f i p (List.mem_of_getElem? hp)
    obtain ⟨x, hx, hok, hl, hh⟩ := dig_of hk.1 h1 h2
    cases hin : inB f p x with
    | false =>
      have := (h.leaf hi hp hx hin).2 _ (digK_val hk.1 hin hok hl hh)
      exact List.mem_of_getElem? this
    | true =>
      obtain ⟨k1, k2⟩ := h.kid_lt hi hp hx hin
      exact ih (d + 1) (by omega) _ _ k1 (h.stands (h.kid hp hx hin) k2) (by dsimp only; omega) hl hh
theorem CfAt.root (h : CfAt f n) : 0 < n := by
  have : 1 ≤ (rowF f n).length := (row_pre f (Nat.zero_le n)).length_le
  have := h.eq; omega
theorem CfAt.mem_all (h : CfAt f n) (ha : a < 4294967296) : f a ∈ lvF f n := h.mem 5 0 rfl 0 (0, 0) h.root rfl rfl (Nat.zero_le _) (by rw [nsz_zero]; dsimp only; omega)
end
/-- The value that the form has for an address, by its way. -/
theorem way_eq {f g : Nat → Int} {n a : Nat} (hf : CfAt f n) (hg : CfAt g n) (hN : ndsF f n = ndsF g n) (hL : lvF f n = lvF g n) : ∀ m d, d + m = 5 → ∀ i p, i < n → (rowF f i)[i]? = some p → (rowF g i)[i]? = some p → p.2 = d → p.1 ≤ a → a < p.1 + nsz p.2 → f a = g a := by
  have key : ∀ i p x, i < n → (rowF f i)[i]? = some p → (rowF g i)[i]? = some p → x < 64 → inB f p x = inB g p x ∧ rankN (ndF f i p).leaf (x + 1) = rankN (ndF g i p).leaf (x + 1) ∧ (rowF f i).length = (rowF g i).length ∧ (lvF f i).length = (lvF g i).length ∧ rankN (ndF f i p).inner x = rankN (ndF g i p).inner x := by
    intro i p x hi hp hq hx
    have h1 := hf.node hp hi
    have h2 := hg.node hq hi
    rw [hN, h2] at h1
    have e := Option.some.inj h1
    have b1 := CfAt.bit f i p hx
    have b2 := CfAt.bit g i p hx
    rw [← e, b2] at b1
    obtain ⟨q1, q2⟩ := hf.nums i (Nat.le_of_lt hi)
    obtain ⟨q3, q4⟩ := hg.nums i (Nat.le_of_lt hi)
    rw [hN] at q1 q2
    refine ⟨?_, by rw [e], by rw [← q1, ← q3], by rw [← q2, ← q4], by rw [e]⟩
    cases h3 : inB f p x <;> cases h4 : inB g p x <;> rw [h3, h4] at b1 <;> first | rfl | (exact absurd b1 (by decide))
  have lf : ∀ i p x, i < n → (rowF f i)[i]? = some p → (rowF g i)[i]? = some p → x < 64 → p.2 ≤ 5 → inB f p x = false → digOk p.2 x = true → digLo p.2 p.1 x ≤ a → a < digLo p.2 p.1 x + nsz (p.2 + 1) → f a = g a := by
    intro i p x hi hp hq hx hd hin hok hl hh
    obtain ⟨k1, k2, k3, k4, _⟩ := key i p x hi hp hq hx
    have v1 := (hf.leaf hi hp hx hin).2 _ (digK_val hd hin hok hl hh)
    have v2 := (hg.leaf hi hq hx (by rw [← k1]; exact hin)).2 _ (digK_val hd (by rw [← k1]; exact hin) hok hl hh)
    rw [k2, k4, hL, v2] at v1
    exact (Option.some.inj v1).symm
  intro m
  induction m with
  | zero =>
    intro d hd i p hi hp hq hpd h1 h2
    have hk := plOk_row f i p (List.mem_of_getElem? hp)
    obtain ⟨x, hx, hok, hl, hh⟩ := dig_of hk.1 h1 h2
    have hin : inB f p x = false := by
      obtain ⟨b, d'⟩ := p
      dsimp only at hpd
      obtain rfl : d' = 5 := by omega
      exact inB_five f b x
    exact lf i p x hi hp hq hx hk.1 hin hok hl hh
  | succ m ih =>
    intro d hd i p hi hp hq hpd h1 h2
    have hk := plOk_row f i p (List.mem_of_getElem? hp)
    obtain ⟨x, hx, hok, hl, hh⟩ := dig_of hk.1 h1 h2
    cases hin : inB f p x with
    | false => exact lf i p x hi hp hq hx hk.1 hin hok hl hh
    | true =>
      obtain ⟨k1, k2, k3, k4, k5⟩ := key i p x hi hp hq hx
      obtain ⟨c1, c2⟩ := hf.kid_lt hi hp hx hin
      have c3 := hf.stands (hf.kid hp hx hin) c2
      have c4 := hg.stands (hg.kid hq hx (by rw [← k1]; exact hin)) (by rw [← k3, ← k5]; exact c2)
      rw [← k3, ← k5] at c4
      exact ih (d + 1) (by omega) _ _ c1 c3 c4 (by dsimp only; omega) hl hh
/-- Equal forms are forms of the same function. -/
theorem isCf_inj {f g : Nat → Int} {N : List Nd} {L : List Int} (hf : IsCf f N L) (hg : IsCf g N L) {a : Nat} (ha : a < 4294967296) : f a = g a := by
  obtain ⟨n, h1, h2, h3⟩ := hf.ex
  obtain ⟨k, h4, h5, h6⟩ := hg.ex
  have c1 : CfAt f n := ⟨h1⟩
  have c2 : CfAt g k := ⟨h4⟩
  have e : n = k := by rw [← c1.len, ← c2.len, ← h2, ← h5]
  subst e
  exact way_eq c1 c2 (h2 ▸ h5) (h3 ▸ h6) 5 0 rfl 0 (0, 0) c1.root rfl rfl rfl (Nat.zero_le _) (by rw [nsz_zero]; dsimp only; omega)
theorem isCf_len {f : Nat → Int} {N : List Nd} {L : List Int} (h : IsCf f N L) : CfAt f N.length ∧ N = ndsF f N.length ∧ L = lvF f N.length := by
  obtain ⟨n, h1, h2, h3⟩ := h.ex
  have c1 : CfAt f n := ⟨h1⟩
  have e : N.length = n := by rw [h2, c1.len]
  rw [e]; exact ⟨c1, h2, h3⟩
end Go.Proofs.Ytjpnaofoeeegeaa


/-
  Regions that draw their order, walked along each order that their edges leave: for small regions with calls behind guards.
  No conditions beyond those that each rule states.
-/
namespace Go.Proofs.Ytjpnaofoeeegeaa
open Go.RowKit

section
variable {P : Program} {N : Fr} {ops : Array Oper} {Q : Exit → Env → World → Prop} {m : Env} {w : World} {f : Nat} {L : Array Bool}
/-- The rest of a region, when the operations of L are through and f are left. -/
structure Dr (P : Program) (N : Fr) (ops : Array Oper) (Q : Exit → Env → World → Prop) (f : Nat) (L : Array Bool) (m : Env) (w : World) : Prop where
  out : ∀ a w', Agree N m a → Ext w w' → wpAny P .any ops (fun e a w => e = .normal ∧ lift N Q .normal a w) f L a w'
/-- Operation i is next. -/
structure DrOp (P : Program) (N : Fr) (ops : Array Oper) (Q : Exit → Env → World → Prop) (f : Nat) (L : Array Bool) (i : Nat) (m : Env) (w : World) : Prop where
  out : ∀ a w', Agree N m a → Ext w w' → wpOp P ops (fun e a w => e = .normal ∧ lift N Q .normal a w) i (wpAny P .any ops (fun e a w => e = .normal ∧ lift N Q .normal a w) f (L.setIfInBounds i true)) a w'
def DrAll (P : Program) (N : Fr) (ops : Array Oper) (Q : Exit → Env → World → Prop) (f : Nat) (L : Array Bool) (m : Env) (w : World) : List Nat → Prop
  | [] => True
  | i :: r => DrOp P N ops Q f L i m w ∧ DrAll P N ops Q f L m w r
theorem drAll_mem : ∀ {R : List Nat}, DrAll P N ops Q f L m w R → ∀ i ∈ R, DrOp P N ops Q f L i m w
  | [], _, i, hi => by cases hi
  | j :: r, h, i, hi => by
    rcases List.mem_cons.1 hi with rfl | hi
    · exact h.1
    · exact drAll_mem h.2 i hi
theorem V_dr {id : Nat} {l : List Oper} (hm : P.follows .mixedOrders = true) (h : Dr P N l.toArray Q l.length (Array.replicate l.length false) m w)
    (hnd : NoDef N.ro l := by first | exact .inl rfl | exact .inr (by kernel_rfl)) : V P N (.region id l.toArray true) Q m w :=
  ⟨fun a w' ha hw => wpR_mono (Q := fun e a w => e = .normal ∧ lift N Q .normal a w) (fun e a w ⟨h1, h2⟩ => by rw [h1]; exact h2) (wpR_region_any (by simpa using hnd) noLet hm (by simpa using h.out a _ ha hw.draw))⟩
theorem Dr_end (hr : Region.ready .any ops L = []) (h : Q .normal m w) : Dr P N ops Q 0 L m w := ⟨fun _ _ ha hw => ⟨hr, rfl, m, w, h, ha, hw⟩⟩
theorem Dr_step (R : List Nat) (hr : Region.ready .any ops L = R) (hne : R.isEmpty = false) (h : DrAll P N ops Q f L m w R) : Dr P N ops Q (f + 1) L m w := ⟨fun a w' ha hw => by
  refine ⟨fun h0 => ?_, fun i hi => ?_⟩
  · rw [hr] at h0; subst h0; cases hne
  · rw [hr] at hi
    exact (drAll_mem h i hi).out a w' ha hw⟩
theorem DrOp_q {i dst : Nat} {op : Op} {ty : TypeId} {pos : String} {after : Array Edge} {g : Option (Nat × Bool)} {v : Value} (hi : ops[i]? = some ⟨some dst, op, ty, pos, after, g⟩)
    (hon : On N ops m ⟨some dst, op, ty, pos, after, g⟩) (hd : Nat.ble (dst + 1) N.n = true) (hq : Yl P N m w ⟨some dst, op, ty, pos, after, g⟩ v) (h : Dr P N ops Q f (L.setIfInBounds i true) ((dst, v) :: m) w) : DrOp P N ops Q f L i m w := ⟨fun a w' ha hw => by
  unfold wpOp
  simp only [hi]
  rw [if_pos (hon.out a ha)]
  exact .inl (Oper.wp_of_quiet (C := Ext w) (K := fun a1 => Agree N ((dst, v) :: m) a1) hw (fun a1 w1 hw1 ha1 => h.out a1 w1 ha1 hw1) ⟨v, fun w1 hw1 => quietAt_mono (fun _ h3 => hw1.trans h3) (hq.out a w1 ha hw1), ha.put (Nat.le_of_ble_eq_true hd) v⟩)⟩
/-- A call whose result lies in new memory. -/
theorem DrOp_callR {i dst : Nat} {f' : FuncId} {xs : Array Operand} {ats : Array TypeId} {ty : TypeId} {pos : String} {after : Array Edge} {g : Option (Nat × Bool)} {vs : List Value} {R : World → Value → World → Prop} [hf : TFun P f'] (hi : ops[i]? = some ⟨some dst, .call { callee := .value (.func f'), args := xs, argTypes := ats }, ty, pos, after, g⟩)
    (hon : On N ops m ⟨some dst, .call { callee := .value (.func f'), args := xs, argTypes := ats }, ty, pos, after, g⟩) (hd : Nat.ble (dst + 1) N.n = true) (hx : evs m xs.toList = some vs)
    (hc : ∀ w', Ext w w' → Calls P f' vs.toArray w' (Gives (R w') w'))
    (h : ∀ v w1 w0, Ext w w0 → Ext w0 w1 → R w0 v w1 → Dr P N ops Q f (L.setIfInBounds i true) ((dst, v) :: m) w1) : DrOp P N ops Q f L i m w := ⟨fun a w' ha hw => by
  unfold wpOp
  simp only [hi]
  rw [if_pos (hon.out a ha)]
  refine .inl ?_
  have e1 : xs.map a.eval = vs.toArray := map_evs ha hx
  have hr : (execOp a.eval ⟨some dst, .call { callee := .value (.func f'), args := xs, argTypes := ats }, ty, pos, after, g⟩).run P w' = .ok (.enter f' vs.toArray) w' := by
    rw [execOp_call_go, e1]
    simpa using hf.h vs.toArray w'
  unfold Oper.wp
  rw [hr]
  refine Calls.mono (hc w' hw) fun e w2 hg => ?_
  obtain ⟨v, rfl, he, hR⟩ := hg
  exact (h v w2 w' hw he hR).out _ _ (ha.put (Nat.le_of_ble_eq_true hd) v) (Ext.refl _)⟩
end
end Go.Proofs.Ytjpnaofoeeegeaa


/-
  Stride tables (layer 8): same, decode, Check.
  Conditions: the lists are not too long for a machine; the words are words of 64 bits.
-/
namespace Go.Proofs.Ytjpnaofoeeegeaa
open Go.RowKit

theorem ownS {α : Type} {w : World} {base n0 : Nat} {e : TypeId} {v : Value} {f : α → List Value} {L : List α} (h : Own w base e n0 v (L.map f)) : ∃ ao c, v = .slice ao L.length c ∧ Arr w n0 ao (L.map f) := by
  obtain ⟨ao, c, h1, h2⟩ := h.slice
  exact ⟨ao, c, by rw [h1, List.length_map], h2⟩
theorem sameS_v (a1 a2 a3 a4 : Option Addr) (N1 N2 : List Nd) (L1 L2 : List Int) (c1 c2 c3 c4 : Nat) (w : World) (h1 : Nds w a1 N1) (h2 : Nds w a2 N2) (h3 : Ins w a3 L1) (h4 : Ins w a4 L2) (hn : N1.length ≤ 4611686018427387904) (hl : L1.length ≤ 4611686018427387904) :
    Calls Try.prog 91 #[.agg #[.slice a1 N1.length c1, .slice a3 L1.length c3], .agg #[.slice a2 N2.length c2, .slice a4 L2.length c4]] w (Ret (.bool (decide (N1 = N2 ∧ L1 = L2))) w) := by
  refine V_enter (vs := [_, _]) Try.func91 rfl Try.ntmps91 (Nat.le_of_ble_eq_true rfl) ?_
  repeat (first | refine Vx ?_ | (apply Ops_q; (case hon => exact Va); (case hd => rfl); (case hq => exact YlA)) | refine Vr ?_ | refine Vt ?_ | refine Vf ?_ | refine Vm ?_ | refine Ve ?_ | refine Vo ?_ | refine Vz ?_ | refine Vn ?_)
  (refine Ops_box (by exact Va) rfl rfl rfl ?_; intro w1 b1 n_b1; have k_b1 := n_b1.blk)
  repeat (first | refine Vx ?_ | (apply Ops_q; (case hon => exact Va); (case hd => rfl); (case hq => exact YlA)) | refine Vr ?_ | refine Vt ?_ | refine Vf ?_ | refine Vm ?_ | refine Ve ?_ | refine Vo ?_ | refine Vz ?_ | refine Vn ?_)
  (refine Ops_box (by exact Va) rfl rfl rfl ?_; intro w2 b2 n_b2; have k_b2 := n_b2.blk)
  replace k_b1 := k_b1.ext n_b2.ext
  have x2 := n_b1.ext.trans n_b2.ext
  clear n_b1 n_b2
  repeat (first | refine Vx ?_ | (apply Ops_q; (case hon => exact Va); (case hd => rfl); (case hq => exact YlA)) | refine Vr ?_ | refine Vt ?_ | refine Vf ?_ | refine Vm ?_ | refine Ve ?_ | refine Vo ?_ | refine Vz ?_ | refine Vn ?_)
  (apply Ops_q; (case hon => (exact Va)); (case hd => rfl); (case hq => exact Yl_call rfl (fun w_ e_ => equalNodes_v a1 a2 N1 N2 c1 c2 w_ (h1.ext (x2.trans e_)) (h2.ext (x2.trans e_)) hn)))
  repeat (first | refine Vx ?_ | (apply Ops_q; (case hon => exact Va); (case hd => rfl); (case hq => exact YlA)) | refine Vr ?_ | refine Vt ?_ | refine Vf ?_ | refine Vm ?_ | refine Ve ?_ | refine Vo ?_ | refine Vz ?_ | refine Vn ?_)
  by_cases t1 : N1 = N2
  · rw [decide_eq_true t1]
    repeat (first | refine Vx ?_ | (apply Ops_q; (case hon => exact Va); (case hd => rfl); (case hq => exact YlA)) | refine Vr ?_ | refine Vt ?_ | refine Vf ?_ | refine Vm ?_ | refine Ve ?_ | refine Vo ?_ | refine Vz ?_ | refine Vn ?_)
    (apply Ops_q; (case hon => (exact Va)); (case hd => rfl); (case hq => exact Yl_call rfl (fun w_ e_ => equalInts_v a3 a4 L1 L2 c3 c4 w_ (h3.ext (x2.trans e_)) (h4.ext (x2.trans e_)) hl)))
    repeat (first | refine Vx ?_ | (apply Ops_q; (case hon => exact Va); (case hd => rfl); (case hq => exact YlA)) | refine Vr ?_ | refine Vt ?_ | refine Vf ?_ | refine Vm ?_ | refine Ve ?_ | refine Vo ?_ | refine Vz ?_ | refine Vn ?_)
    refine ret1 (by first | exact .inl rfl | exact .inr rfl) rfl rfl ?_
    exact Ret_mk (by simp [t1]) x2
  · rw [decide_eq_false t1]
    repeat (first | refine Vx ?_ | (apply Ops_q; (case hon => exact Va); (case hd => rfl); (case hq => exact YlA)) | refine Vr ?_ | refine Vt ?_ | refine Vf ?_ | refine Vm ?_ | refine Ve ?_ | refine Vo ?_ | refine Vz ?_ | refine Vn ?_)
    refine ret1 (by first | exact .inl rfl | exact .inr rfl) rfl rfl ?_
    exact Ret_mk (by simp [t1]) x2
theorem sameL_v (a1 a2 a3 a4 : Option Addr) (N1 N2 : List Nd) (L1 L2 : List Int) (c1 c2 c3 c4 : Nat) (w : World) (h1 : Nds w a1 N1) (h2 : Nds w a2 N2) (h3 : Ins w a3 L1) (h4 : Ins w a4 L2) (hn : N1.length ≤ 4611686018427387904) (hl : L1.length ≤ 4611686018427387904) :
    Calls Try.prog 20 #[.agg #[.slice a1 N1.length c1, .slice a3 L1.length c3], .agg #[.slice a2 N2.length c2, .slice a4 L2.length c4]] w (Ret (.bool (decide (N1 = N2 ∧ L1 = L2))) w) := by
  refine V_enter (vs := [_, _]) Try.func20 rfl Try.ntmps20 (Nat.le_of_ble_eq_true rfl) ?_
  repeat (first | refine Vx ?_ | (apply Ops_q; (case hon => exact Va); (case hd => rfl); (case hq => exact YlA)) | refine Vr ?_ | refine Vt ?_ | refine Vf ?_ | refine Vm ?_ | refine Ve ?_ | refine Vo ?_ | refine Vz ?_ | refine Vn ?_)
  (refine Ops_box (by exact Va) rfl rfl rfl ?_; intro w1 b1 n_b1; have k_b1 := n_b1.blk)
  repeat (first | refine Vx ?_ | (apply Ops_q; (case hon => exact Va); (case hd => rfl); (case hq => exact YlA)) | refine Vr ?_ | refine Vt ?_ | refine Vf ?_ | refine Vm ?_ | refine Ve ?_ | refine Vo ?_ | refine Vz ?_ | refine Vn ?_)
  (refine Ops_box (by exact Va) rfl rfl rfl ?_; intro w2 b2 n_b2; have k_b2 := n_b2.blk)
  replace k_b1 := k_b1.ext n_b2.ext
  have x2 := n_b1.ext.trans n_b2.ext
  clear n_b1 n_b2
  repeat (first | refine Vx ?_ | (apply Ops_q; (case hon => exact Va); (case hd => rfl); (case hq => exact YlA)) | refine Vr ?_ | refine Vt ?_ | refine Vf ?_ | refine Vm ?_ | refine Ve ?_ | refine Vo ?_ | refine Vz ?_ | refine Vn ?_)
  (apply Ops_q; (case hon => (exact Va)); (case hd => rfl); (case hq => exact Yl_call rfl (fun w_ e_ => sameNodesR_v a1 a2 N1 N2 c1 c2 w_ (h1.ext (x2.trans e_)) (h2.ext (x2.trans e_)) hn)))
  repeat (first | refine Vx ?_ | (apply Ops_q; (case hon => exact Va); (case hd => rfl); (case hq => exact YlA)) | refine Vr ?_ | refine Vt ?_ | refine Vf ?_ | refine Vm ?_ | refine Ve ?_ | refine Vo ?_ | refine Vz ?_ | refine Vn ?_)
  by_cases t1 : N1 = N2
  · rw [decide_eq_true t1]
    repeat (first | refine Vx ?_ | (apply Ops_q; (case hon => exact Va); (case hd => rfl); (case hq => exact YlA)) | refine Vr ?_ | refine Vt ?_ | refine Vf ?_ | refine Vm ?_ | refine Ve ?_ | refine Vo ?_ | refine Vz ?_ | refine Vn ?_)
    (apply Ops_q; (case hon => (exact Va)); (case hd => rfl); (case hq => exact Yl_call rfl (fun w_ e_ => sameIntsR_v a3 a4 L1 L2 c3 c4 w_ (h3.ext (x2.trans e_)) (h4.ext (x2.trans e_)) hl)))
    repeat (first | refine Vx ?_ | (apply Ops_q; (case hon => exact Va); (case hd => rfl); (case hq => exact YlA)) | refine Vr ?_ | refine Vt ?_ | refine Vf ?_ | refine Vm ?_ | refine Ve ?_ | refine Vo ?_ | refine Vz ?_ | refine Vn ?_)
    refine ret1 (by first | exact .inl rfl | exact .inr rfl) rfl rfl ?_
    exact Ret_mk (by simp [t1]) x2
  · rw [decide_eq_false t1]
    repeat (first | refine Vx ?_ | (apply Ops_q; (case hon => exact Va); (case hd => rfl); (case hq => exact YlA)) | refine Vr ?_ | refine Vt ?_ | refine Vf ?_ | refine Vm ?_ | refine Ve ?_ | refine Vo ?_ | refine Vz ?_ | refine Vn ?_)
    refine ret1 (by first | exact .inl rfl | exact .inr rfl) rfl rfl ?_
    exact Ret_mk (by simp [t1]) x2
/-- No value below -1. -/
def GeM (g : Nat → Int) : Prop := ∀ a, a < 4294967296 → -1 ≤ g a
theorem IsCf.ge {g : Nat → Int} {N : List Nd} {L : List Int} (h : IsCf g N L) (hR : Reg N L) : GeM g := fun a ha => by
  obtain ⟨c, _, h3⟩ := isCf_len h
  have := c.mem_all ha
  rw [← h3] at this
  exact hR.vals _ this
theorem IsCf.reg {g : Nat → Int} {N : List Nd} {L : List Int} (h : IsCf g N L) (hg : GeM g) : Reg N L := by
  obtain ⟨c, h2, h3⟩ := isCf_len h
  have := c.reg hg
  rw [← h2, ← h3] at this; exact this
theorem IsCf.ne {g : Nat → Int} {N : List Nd} {L : List Int} (h : IsCf g N L) : 0 < N.length := (isCf_len h).1.root
theorem IsCf.good {g : Nat → Int} {N : List Nd} {L : List Int} (h : IsCf g N L) : XpGood g N L 0 (0, 0) := by
  obtain ⟨c, h2, h3⟩ := isCf_len h
  exact ⟨c, h2, h3, rfl⟩
theorem cfSize {g : Nat → Int} {N : List Nd} {L : List Int} (h : IsCf g N L) : N.length ≤ 4611686018427387904 ∧ L.length ≤ 4611686018427387904 := by
  obtain ⟨c, h2, h3⟩ := isCf_len h
  have h4 := row_len_le (Nat.le_of_eq c.eq)
  rw [← c.eq, plW_zero] at h4
  have h5 := lv_le g N.length
  rw [← h3] at h5
  omega
/-- What decode returns. -/
def DecR (N : List Nd) (L : List Int) (w0 : World) (r : Value) (w' : World) : Prop :=
  ∃ (v : Value) (ok : Bool), r = .tuple #[v, .bool ok] ∧ (ok = true → ∃ (R : List Rn) (g : Nat → Int), Own w' w0.heap.size 94 2 v (R.map rnC) ∧ Canon g R 4294967296 ∧ IsCf g N L ∧ GeM g) ∧
    (ok = false → ∀ g, GeM g → ¬IsCf g N L)
set_option maxHeartbeats 2000000 in
theorem decode_v (aN aL : Option Addr) (N : List Nd) (L : List Int) (cN cL : Nat) (w : World) (hN : Nds w aN N) (hL : Ins w aL L) (hW : NdW N) (hn : N.length ≤ 80000000000) (hl : L.length ≤ 4611686018427387904) :
    Calls Try.prog 56 #[.agg #[.slice aN N.length cN, .slice aL L.length cL]] w (Gives (DecR N L w) w) := by
  refine V_enter (vs := [_]) Try.func56 rfl Try.ntmps56 (Nat.le_of_ble_eq_true rfl) ?_
  repeat (first | refine Vx ?_ | (apply Ops_q; (case hon => exact Va); (case hd => rfl); (case hq => exact YlA)) | refine Vr ?_ | refine Vt ?_ | refine Vf ?_ | refine Vm ?_ | refine Ve ?_ | refine Vo ?_ | refine Vz ?_ | refine Vn ?_)
  (refine Ops_box (by exact Va) rfl rfl rfl ?_; intro w1 b1 n_b1; have k_b1 := n_b1.blk)
  have x1 := n_b1.ext
  clear n_b1
  repeat (first | refine Vx ?_ | (apply Ops_q; (case hon => exact Va); (case hd => rfl); (case hq => exact YlA)) | refine Vr ?_ | refine Vt ?_ | refine Vf ?_ | refine Vm ?_ | refine Ve ?_ | refine Vo ?_ | refine Vz ?_ | refine Vn ?_)
  by_cases h0 : N.length = 0
  · have d0 : decide ((N.length : Int) = 0) = true := decide_eq_true (by omega)
    refine Ops_know rfl rfl d0 ?_
    repeat (first | refine Vx ?_ | (apply Ops_q; (case hon => exact Va); (case hd => rfl); (case hq => exact YlA)) | refine Vr ?_ | refine Vt ?_ | refine Vf ?_ | refine Vm ?_ | refine Ve ?_ | refine Vo ?_ | refine Vz ?_ | refine Vn ?_)
    refine ret2 (by first | exact .inl rfl | exact .inr rfl) rfl rfl rfl ?_
    exact Gives_mk (fun _ _ => ⟨_, false, rfl, (fun h => nomatch h), fun _ g _ hc => by have := hc.ne; omega⟩) x1
  have d0 : decide ((N.length : Int) = 0) = false := decide_eq_false (by omega)
  have hn0 : 0 < N.length := by omega
  clear h0
  refine Ops_know rfl rfl d0 ?_
  repeat (first | refine Vx ?_ | (apply Ops_q; (case hon => exact Va); (case hd => rfl); (case hq => exact YlA)) | refine Vr ?_ | refine Vt ?_ | refine Vf ?_ | refine Vm ?_ | refine Ve ?_ | refine Vo ?_ | refine Vz ?_ | refine Vn ?_)
  (refine Ops_callR (by exact Va) rfl rfl (fun w_ e_ => regular_v aN aL N L cN cL w_ (hN.ext (x1.trans e_)) (hL.ext (x1.trans e_)) hW hn hl) ?_; intro vr w2 w0_ e0_ e1_ r_vr; have e_w2 := e0_.trans e1_; have b_vr := e0_.size; clear e0_ e1_)
  obtain ⟨br, rfl, hbr⟩ := r_vr
  have x2 := x1.trans e_w2
  replace k_b1 := k_b1.ext e_w2
  clear b_vr e_w2
  cases br with
  | false =>
    repeat (first | refine Vx ?_ | (apply Ops_q; (case hon => exact Va); (case hd => rfl); (case hq => exact YlA)) | refine Vr ?_ | refine Vt ?_ | refine Vf ?_ | refine Vm ?_ | refine Ve ?_ | refine Vo ?_ | refine Vz ?_ | refine Vn ?_)
    refine ret2 (by first | exact .inl rfl | exact .inr rfl) rfl rfl rfl ?_
    exact Gives_mk (fun _ _ => ⟨_, false, rfl, (fun h => nomatch h), fun _ g hg hc => by have := hbr.2 (hc.reg hg); cases this⟩) x2
  | true =>
    have hReg := hbr.1 rfl
    clear hbr
    repeat (first | refine Vx ?_ | (apply Ops_q; (case hon => exact Va); (case hd => rfl); (case hq => exact YlA)) | refine Vr ?_ | refine Vt ?_ | refine Vf ?_ | refine Vm ?_ | refine Ve ?_ | refine Vo ?_ | refine Vz ?_ | refine Vn ?_)
    refine Ops_callM (S := fun c => (Value.slice none 0 0).ownBlock = some c) (R := fun w0' => XpR w2.heap.size N L (fun _ => 0) (.slice none 0 0) 0 0 0 w0') (by exact Va) rfl rfl (fun w_ e_ => expand_v aN aL N L cN cL w2.heap.size hReg hW hn hl 6 0 rfl 0 0 (.slice none 0 0) [] (fun _ => 0) w_ (TabM.mod (TabM.of (hN.ext x2) (hL.ext x2) (Nat.le_refl _)) (Mod.of_ext (S := fun _ => False) e_) (fun _ h => h.elim)) hn0 (fun _ => by decide) Own.nil e_.size (Canon.zero _) (by decide)) ?_
    intro vr w3 w0_ e0 m3 hR
    obtain ⟨v', ok, rfl, hok1, hok0⟩ := hR
    have e3 : Ext w2 w3 := Mod.ext_of e0 m3 (fun c hc => nomatch hc)
    have x3 := x2.trans e3
    replace k_b1 := k_b1.ext e3
    clear e0 m3
    cases ok with
    | false =>
      obtain ⟨rfl, hno⟩ := hok0 rfl
      repeat (first | refine Vx ?_ | (apply Ops_q; (case hon => exact Va); (case hd => rfl); (case hq => exact YlA)) | refine Vr ?_ | refine Vt ?_ | refine Vf ?_ | refine Vm ?_ | refine Ve ?_ | refine Vo ?_ | refine Vz ?_ | refine Vn ?_)
      refine ret2 (by first | exact .inl rfl | exact .inr rfl) rfl rfl rfl ?_
      exact Gives_mk (fun _ _ => ⟨_, false, rfl, (fun h => nomatch h), fun _ g _ hc => hno g hc.good⟩) x3
    | true =>
      obtain ⟨R, g, o', hC, _, hG, _⟩ := hok1 rfl
      have hC' : Canon g R 4294967296 := hC
      have hRl := hC'.len
      obtain ⟨aR, cR, rfl, hAR⟩ := o'.slice
      rw [List.length_map] at o' ⊢
      have o3 : Own w3 w.heap.size 94 2 (.slice aR R.length cR) (R.map rnC) := o'.mono x2.size
      have hAR' : Rns w3 aR R := hAR
      have hcomp := fun (w_ : World) (e_ : Ext w3 w_) => compress_v g aR R cR w_ (hAR'.ext e_) hC'
      clear o' hAR hok1 hok0
      have hfin : ∀ (w4 : World) (N' : List Nd) (L' : List Int), Ext w3 w4 → IsCf g N' L' → ∀ w5, Ext w4 w5 → Gives (DecR N L w) w (.returned (.tuple #[.slice aR R.length cR, .bool (decide (N' = N ∧ L' = L))])) w5 := fun w4 N' L' e4 hc' w5 e5 => by
        refine ⟨_, rfl, x3.trans (e4.trans e5), _, _, rfl, fun hd => ?_, fun hd g2 hg2 hc2 => ?_⟩
        · obtain ⟨rfl, rfl⟩ := of_decide_eq_true hd
          exact ⟨R, g, o3.ext (e4.trans e5), hC', hc', hc'.ge hReg⟩
        · refine of_decide_eq_false hd ?_
          have hsame : ∀ a, a < 4294967296 → g2 a = g a := fun a ha => (hG g2 hc2.good a (Nat.zero_le _) (by rw [nsz_zero]; omega)).symm
          exact isCf_unique hc' (isCf_congr hsame hc2)
      have hsm := fun (a1 a3 : Option Addr) (N' : List Nd) (L' : List Int) (c1 c3 : Nat) (w4 : World) (e4 : Ext w3 w4) (h1 : Nds w4 a1 N') (h3 : Ins w4 a3 L') (q1 : N'.length ≤ 4611686018427387904) (q2 : L'.length ≤ 4611686018427387904) (w_ : World) (e_ : Ext w4 w_) =>
        sameS_v a1 aN a3 aL N' N L' L c1 cN c3 cL w_ (h1.ext e_) (hN.ext (x3.trans (e4.trans e_))) (h3.ext e_) (hL.ext (x3.trans (e4.trans e_))) q1 q2
      repeat (first | refine Vx ?_ | (apply Ops_q; (case hon => exact Va); (case hd => rfl); (case hq => exact YlA)) | refine Vt ?_ | refine Vf ?_ | refine Vm ?_ | refine Ve ?_ | refine Vo ?_ | refine Vz ?_ | refine Vn ?_)
      refine V_dr (by kernel_rfl) ?_
      refine Dr_step [0, 1] (by kernel_rfl) rfl ⟨?_, ?_, trivial⟩
      · (apply DrOp_q; (case hi => rfl); (case hon => exact Va); (case hd => rfl); (case hq => exact YlA))
        refine Dr_step [1] (by kernel_rfl) rfl ⟨?_, trivial⟩
        (apply DrOp_q; (case hi => rfl); (case hon => exact Va); (case hd => rfl); (case hq => exact YlA))
        refine Dr_step [2] (by kernel_rfl) rfl ⟨?_, trivial⟩
        (apply DrOp_q; (case hi => rfl); (case hon => exact Va); (case hd => rfl); (case hq => exact YlA))
        refine Dr_step [3, 5] (by kernel_rfl) rfl ⟨?_, ?_, trivial⟩
        · (apply DrOp_q; (case hi => rfl); (case hon => exact Va); (case hd => rfl); (case hq => exact YlA))
          refine Dr_step [4, 5] (by kernel_rfl) rfl ⟨?_, ?_, trivial⟩
          · refine DrOp_callR (R := fun w0' => CfR g w0') rfl Va rfl rfl (fun w_ e_ => hcomp w_ e_) ?_
            intro vc w4 w0c e0c e1c hRc
            obtain ⟨vN, vL, N', L', rfl, hcf, oN, oL⟩ := hRc
            have e4 := e0c.trans e1c
            have k_b1 := k_b1.ext e4
            obtain ⟨q1, q2⟩ := cfSize hcf
            obtain ⟨a1, c1, rfl, hA1⟩ := ownS oN
            obtain ⟨a3, c3, rfl, hA3⟩ := ownS oL
            refine Dr_step [5] (by kernel_rfl) rfl ⟨?_, trivial⟩
            (apply DrOp_q; (case hi => rfl); (case hon => exact Va); (case hd => rfl); (case hq => exact YlA))
            refine Dr_step [6] (by kernel_rfl) rfl ⟨?_, trivial⟩
            (apply DrOp_q; (case hi => rfl); (case hon => exact Va); (case hd => rfl); (case hq => exact Yl_call rfl (hsm a1 a3 N' L' c1 c3 w4 e4 hA1 hA3 q1 q2)))
            refine Dr_step [7, 8] (by kernel_rfl) rfl ⟨?_, ?_, trivial⟩
            · (apply DrOp_q; (case hi => rfl); (case hon => exact Va); (case hd => rfl); (case hq => exact YlA))
              refine Dr_step [8] (by kernel_rfl) rfl ⟨?_, trivial⟩
              (apply DrOp_q; (case hi => rfl); (case hon => exact Va); (case hd => rfl); (case hq => exact YlA))
              refine Dr_step [9] (by kernel_rfl) rfl ⟨?_, trivial⟩
              (apply DrOp_q; (case hi => rfl); (case hon => exact Va); (case hd => rfl); (case hq => exact YlA))
              refine Dr_end (by kernel_rfl) ?_
              repeat (first | refine Vx ?_ | (apply Ops_q; (case hon => exact Va); (case hd => rfl); (case hq => exact YlA)) | refine Vr ?_ | refine Vt ?_ | refine Vf ?_ | refine Vm ?_ | refine Ve ?_ | refine Vo ?_ | refine Vz ?_ | refine Vn ?_)
              refine ret2 (by first | exact .inl rfl | exact .inr rfl) rfl rfl rfl ?_
              exact hfin w4 N' L' e4 hcf
            · (apply DrOp_q; (case hi => rfl); (case hon => exact Va); (case hd => rfl); (case hq => exact YlA))
              refine Dr_step [7] (by kernel_rfl) rfl ⟨?_, trivial⟩
              (apply DrOp_q; (case hi => rfl); (case hon => exact Va); (case hd => rfl); (case hq => exact YlA))
              refine Dr_step [9] (by kernel_rfl) rfl ⟨?_, trivial⟩
              (apply DrOp_q; (case hi => rfl); (case hon => exact Va); (case hd => rfl); (case hq => exact YlA))
              refine Dr_end (by kernel_rfl) ?_
              repeat (first | refine Vx ?_ | (apply Ops_q; (case hon => exact Va); (case hd => rfl); (case hq => exact YlA)) | refine Vr ?_ | refine Vt ?_ | refine Vf ?_ | refine Vm ?_ | refine Ve ?_ | refine Vo ?_ | refine Vz ?_ | refine Vn ?_)
              refine ret2 (by first | exact .inl rfl | exact .inr rfl) rfl rfl rfl ?_
              exact hfin w4 N' L' e4 hcf
          · (apply DrOp_q; (case hi => rfl); (case hon => exact Va); (case hd => rfl); (case hq => exact YlA))
            refine Dr_step [4] (by kernel_rfl) rfl ⟨?_, trivial⟩
            refine DrOp_callR (R := fun w0' => CfR g w0') rfl Va rfl rfl (fun w_ e_ => hcomp w_ e_) ?_
            intro vc w4 w0c e0c e1c hRc
            obtain ⟨vN, vL, N', L', rfl, hcf, oN, oL⟩ := hRc
            have e4 := e0c.trans e1c
            have k_b1 := k_b1.ext e4
            obtain ⟨q1, q2⟩ := cfSize hcf
            obtain ⟨a1, c1, rfl, hA1⟩ := ownS oN
            obtain ⟨a3, c3, rfl, hA3⟩ := ownS oL
            refine Dr_step [6] (by kernel_rfl) rfl ⟨?_, trivial⟩
            (apply DrOp_q; (case hi => rfl); (case hon => exact Va); (case hd => rfl); (case hq => exact Yl_call rfl (hsm a1 a3 N' L' c1 c3 w4 e4 hA1 hA3 q1 q2)))
            refine Dr_step [7, 8] (by kernel_rfl) rfl ⟨?_, ?_, trivial⟩
            · (apply DrOp_q; (case hi => rfl); (case hon => exact Va); (case hd => rfl); (case hq => exact YlA))
              refine Dr_step [8] (by kernel_rfl) rfl ⟨?_, trivial⟩
              (apply DrOp_q; (case hi => rfl); (case hon => exact Va); (case hd => rfl); (case hq => exact YlA))
              refine Dr_step [9] (by kernel_rfl) rfl ⟨?_, trivial⟩
              (apply DrOp_q; (case hi => rfl); (case hon => exact Va); (case hd => rfl); (case hq => exact YlA))
              refine Dr_end (by kernel_rfl) ?_
              repeat (first | refine Vx ?_ | (apply Ops_q; (case hon => exact Va); (case hd => rfl); (case hq => exact YlA)) | refine Vr ?_ | refine Vt ?_ | refine Vf ?_ | refine Vm ?_ | refine Ve ?_ | refine Vo ?_ | refine Vz ?_ | refine Vn ?_)
              refine ret2 (by first | exact .inl rfl | exact .inr rfl) rfl rfl rfl ?_
              exact hfin w4 N' L' e4 hcf
            · (apply DrOp_q; (case hi => rfl); (case hon => exact Va); (case hd => rfl); (case hq => exact YlA))
              refine Dr_step [7] (by kernel_rfl) rfl ⟨?_, trivial⟩
              (apply DrOp_q; (case hi => rfl); (case hon => exact Va); (case hd => rfl); (case hq => exact YlA))
              refine Dr_step [9] (by kernel_rfl) rfl ⟨?_, trivial⟩
              (apply DrOp_q; (case hi => rfl); (case hon => exact Va); (case hd => rfl); (case hq => exact YlA))
              refine Dr_end (by kernel_rfl) ?_
              repeat (first | refine Vx ?_ | (apply Ops_q; (case hon => exact Va); (case hd => rfl); (case hq => exact YlA)) | refine Vr ?_ | refine Vt ?_ | refine Vf ?_ | refine Vm ?_ | refine Ve ?_ | refine Vo ?_ | refine Vz ?_ | refine Vn ?_)
              refine ret2 (by first | exact .inl rfl | exact .inr rfl) rfl rfl rfl ?_
              exact hfin w4 N' L' e4 hcf
        · (apply DrOp_q; (case hi => rfl); (case hon => exact Va); (case hd => rfl); (case hq => exact YlA))
          refine Dr_step [3] (by kernel_rfl) rfl ⟨?_, trivial⟩
          (apply DrOp_q; (case hi => rfl); (case hon => exact Va); (case hd => rfl); (case hq => exact YlA))
          refine Dr_step [4] (by kernel_rfl) rfl ⟨?_, trivial⟩
          refine DrOp_callR (R := fun w0' => CfR g w0') rfl Va rfl rfl (fun w_ e_ => hcomp w_ e_) ?_
          intro vc w4 w0c e0c e1c hRc
          obtain ⟨vN, vL, N', L', rfl, hcf, oN, oL⟩ := hRc
          have e4 := e0c.trans e1c
          have k_b1 := k_b1.ext e4
          obtain ⟨q1, q2⟩ := cfSize hcf
          obtain ⟨a1, c1, rfl, hA1⟩ := ownS oN
          obtain ⟨a3, c3, rfl, hA3⟩ := ownS oL
          refine Dr_step [6] (by kernel_rfl) rfl ⟨?_, trivial⟩
          (apply DrOp_q; (case hi => rfl); (case hon => exact Va); (case hd => rfl); (case hq => exact Yl_call rfl (hsm a1 a3 N' L' c1 c3 w4 e4 hA1 hA3 q1 q2)))
          refine Dr_step [7, 8] (by kernel_rfl) rfl ⟨?_, ?_, trivial⟩
          · (apply DrOp_q; (case hi => rfl); (case hon => exact Va); (case hd => rfl); (case hq => exact YlA))
            refine Dr_step [8] (by kernel_rfl) rfl ⟨?_, trivial⟩
            (apply DrOp_q; (case hi => rfl); (case hon => exact Va); (case hd => rfl); (case hq => exact YlA))
            refine Dr_step [9] (by kernel_rfl) rfl ⟨?_, trivial⟩
            (apply DrOp_q; (case hi => rfl); (case hon => exact Va); (case hd => rfl); (case hq => exact YlA))
            refine Dr_end (by kernel_rfl) ?_
            repeat (first | refine Vx ?_ | (apply Ops_q; (case hon => exact Va); (case hd => rfl); (case hq => exact YlA)) | refine Vr ?_ | refine Vt ?_ | refine Vf ?_ | refine Vm ?_ | refine Ve ?_ | refine Vo ?_ | refine Vz ?_ | refine Vn ?_)
            refine ret2 (by first | exact .inl rfl | exact .inr rfl) rfl rfl rfl ?_
            exact hfin w4 N' L' e4 hcf
          · (apply DrOp_q; (case hi => rfl); (case hon => exact Va); (case hd => rfl); (case hq => exact YlA))
            refine Dr_step [7] (by kernel_rfl) rfl ⟨?_, trivial⟩
            (apply DrOp_q; (case hi => rfl); (case hon => exact Va); (case hd => rfl); (case hq => exact YlA))
            refine Dr_step [9] (by kernel_rfl) rfl ⟨?_, trivial⟩
            (apply DrOp_q; (case hi => rfl); (case hon => exact Va); (case hd => rfl); (case hq => exact YlA))
            refine Dr_end (by kernel_rfl) ?_
            repeat (first | refine Vx ?_ | (apply Ops_q; (case hon => exact Va); (case hd => rfl); (case hq => exact YlA)) | refine Vr ?_ | refine Vt ?_ | refine Vf ?_ | refine Vm ?_ | refine Ve ?_ | refine Vo ?_ | refine Vz ?_ | refine Vn ?_)
            refine ret2 (by first | exact .inl rfl | exact .inr rfl) rfl rfl rfl ?_
            exact hfin w4 N' L' e4 hcf
      · (apply DrOp_q; (case hi => rfl); (case hon => exact Va); (case hd => rfl); (case hq => exact YlA))
        refine Dr_step [0, 2] (by kernel_rfl) rfl ⟨?_, ?_, trivial⟩
        · (apply DrOp_q; (case hi => rfl); (case hon => exact Va); (case hd => rfl); (case hq => exact YlA))
          refine Dr_step [2] (by kernel_rfl) rfl ⟨?_, trivial⟩
          (apply DrOp_q; (case hi => rfl); (case hon => exact Va); (case hd => rfl); (case hq => exact YlA))
          refine Dr_step [3, 5] (by kernel_rfl) rfl ⟨?_, ?_, trivial⟩
          · (apply DrOp_q; (case hi => rfl); (case hon => exact Va); (case hd => rfl); (case hq => exact YlA))
            refine Dr_step [4, 5] (by kernel_rfl) rfl ⟨?_, ?_, trivial⟩
            · refine DrOp_callR (R := fun w0' => CfR g w0') rfl Va rfl rfl (fun w_ e_ => hcomp w_ e_) ?_
              intro vc w4 w0c e0c e1c hRc
              obtain ⟨vN, vL, N', L', rfl, hcf, oN, oL⟩ := hRc
              have e4 := e0c.trans e1c
              have k_b1 := k_b1.ext e4
              obtain ⟨q1, q2⟩ := cfSize hcf
              obtain ⟨a1, c1, rfl, hA1⟩ := ownS oN
              obtain ⟨a3, c3, rfl, hA3⟩ := ownS oL
              refine Dr_step [5] (by kernel_rfl) rfl ⟨?_, trivial⟩
              (apply DrOp_q; (case hi => rfl); (case hon => exact Va); (case hd => rfl); (case hq => exact YlA))
              refine Dr_step [6] (by kernel_rfl) rfl ⟨?_, trivial⟩
              (apply DrOp_q; (case hi => rfl); (case hon => exact Va); (case hd => rfl); (case hq => exact Yl_call rfl (hsm a1 a3 N' L' c1 c3 w4 e4 hA1 hA3 q1 q2)))
              refine Dr_step [7, 8] (by kernel_rfl) rfl ⟨?_, ?_, trivial⟩
              · (apply DrOp_q; (case hi => rfl); (case hon => exact Va); (case hd => rfl); (case hq => exact YlA))
                refine Dr_step [8] (by kernel_rfl) rfl ⟨?_, trivial⟩
                (apply DrOp_q; (case hi => rfl); (case hon => exact Va); (case hd => rfl); (case hq => exact YlA))
                refine Dr_step [9] (by kernel_rfl) rfl ⟨?_, trivial⟩
                (apply DrOp_q; (case hi => rfl); (case hon => exact Va); (case hd => rfl); (case hq => exact YlA))
                refine Dr_end (by kernel_rfl) ?_
                repeat (first | refine Vx ?_ | (apply Ops_q; (case hon => exact Va); (case hd => rfl); (case hq => exact YlA)) | refine Vr ?_ | refine Vt ?_ | refine Vf ?_ | refine Vm ?_ | refine Ve ?_ | refine Vo ?_ | refine Vz ?_ | refine Vn ?_)
                refine ret2 (by first | exact .inl rfl | exact .inr rfl) rfl rfl rfl ?_
                exact hfin w4 N' L' e4 hcf
              · (apply DrOp_q; (case hi => rfl); (case hon => exact Va); (case hd => rfl); (case hq => exact YlA))
                refine Dr_step [7] (by kernel_rfl) rfl ⟨?_, trivial⟩
                (apply DrOp_q; (case hi => rfl); (case hon => exact Va); (case hd => rfl); (case hq => exact YlA))
                refine Dr_step [9] (by kernel_rfl) rfl ⟨?_, trivial⟩
                (apply DrOp_q; (case hi => rfl); (case hon => exact Va); (case hd => rfl); (case hq => exact YlA))
                refine Dr_end (by kernel_rfl) ?_
                repeat (first | refine Vx ?_ | (apply Ops_q; (case hon => exact Va); (case hd => rfl); (case hq => exact YlA)) | refine Vr ?_ | refine Vt ?_ | refine Vf ?_ | refine Vm ?_ | refine Ve ?_ | refine Vo ?_ | refine Vz ?_ | refine Vn ?_)
                refine ret2 (by first | exact .inl rfl | exact .inr rfl) rfl rfl rfl ?_
                exact hfin w4 N' L' e4 hcf
            · (apply DrOp_q; (case hi => rfl); (case hon => exact Va); (case hd => rfl); (case hq => exact YlA))
              refine Dr_step [4] (by kernel_rfl) rfl ⟨?_, trivial⟩
              refine DrOp_callR (R := fun w0' => CfR g w0') rfl Va rfl rfl (fun w_ e_ => hcomp w_ e_) ?_
              intro vc w4 w0c e0c e1c hRc
              obtain ⟨vN, vL, N', L', rfl, hcf, oN, oL⟩ := hRc
              have e4 := e0c.trans e1c
              have k_b1 := k_b1.ext e4
              obtain ⟨q1, q2⟩ := cfSize hcf
              obtain ⟨a1, c1, rfl, hA1⟩ := ownS oN
              obtain ⟨a3, c3, rfl, hA3⟩ := ownS oL
              refine Dr_step [6] (by kernel_rfl) rfl ⟨?_, trivial⟩
              (apply DrOp_q; (case hi => rfl); (case hon => exact Va); (case hd => rfl); (case hq => exact Yl_call rfl (hsm a1 a3 N' L' c1 c3 w4 e4 hA1 hA3 q1 q2)))
              refine Dr_step [7, 8] (by kernel_rfl) rfl ⟨?_, ?_, trivial⟩
              · (apply DrOp_q; (case hi => rfl); (case hon => exact Va); (case hd => rfl); (case hq => exact YlA))
                refine Dr_step [8] (by kernel_rfl) rfl ⟨?_, trivial⟩
                (apply DrOp_q; (case hi => rfl); (case hon => exact Va); (case hd => rfl); (case hq => exact YlA))
                refine Dr_step [9] (by kernel_rfl) rfl ⟨?_, trivial⟩
                (apply DrOp_q; (case hi => rfl); (case hon => exact Va); (case hd => rfl); (case hq => exact YlA))
                refine Dr_end (by kernel_rfl) ?_
                repeat (first | refine Vx ?_ | (apply Ops_q; (case hon => exact Va); (case hd => rfl); (case hq => exact YlA)) | refine Vr ?_ | refine Vt ?_ | refine Vf ?_ | refine Vm ?_ | refine Ve ?_ | refine Vo ?_ | refine Vz ?_ | refine Vn ?_)
                refine ret2 (by first | exact .inl rfl | exact .inr rfl) rfl rfl rfl ?_
                exact hfin w4 N' L' e4 hcf
              · (apply DrOp_q; (case hi => rfl); (case hon => exact Va); (case hd => rfl); (case hq => exact YlA))
                refine Dr_step [7] (by kernel_rfl) rfl ⟨?_, trivial⟩
                (apply DrOp_q; (case hi => rfl); (case hon => exact Va); (case hd => rfl); (case hq => exact YlA))
                refine Dr_step [9] (by kernel_rfl) rfl ⟨?_, trivial⟩
                (apply DrOp_q; (case hi => rfl); (case hon => exact Va); (case hd => rfl); (case hq => exact YlA))
                refine Dr_end (by kernel_rfl) ?_
                repeat (first | refine Vx ?_ | (apply Ops_q; (case hon => exact Va); (case hd => rfl); (case hq => exact YlA)) | refine Vr ?_ | refine Vt ?_ | refine Vf ?_ | refine Vm ?_ | refine Ve ?_ | refine Vo ?_ | refine Vz ?_ | refine Vn ?_)
                refine ret2 (by first | exact .inl rfl | exact .inr rfl) rfl rfl rfl ?_
                exact hfin w4 N' L' e4 hcf
          · (apply DrOp_q; (case hi => rfl); (case hon => exact Va); (case hd => rfl); (case hq => exact YlA))
            refine Dr_step [3] (by kernel_rfl) rfl ⟨?_, trivial⟩
            (apply DrOp_q; (case hi => rfl); (case hon => exact Va); (case hd => rfl); (case hq => exact YlA))
            refine Dr_step [4] (by kernel_rfl) rfl ⟨?_, trivial⟩
            refine DrOp_callR (R := fun w0' => CfR g w0') rfl Va rfl rfl (fun w_ e_ => hcomp w_ e_) ?_
            intro vc w4 w0c e0c e1c hRc
            obtain ⟨vN, vL, N', L', rfl, hcf, oN, oL⟩ := hRc
            have e4 := e0c.trans e1c
            have k_b1 := k_b1.ext e4
            obtain ⟨q1, q2⟩ := cfSize hcf
            obtain ⟨a1, c1, rfl, hA1⟩ := ownS oN
            obtain ⟨a3, c3, rfl, hA3⟩ := ownS oL
            refine Dr_step [6] (by kernel_rfl) rfl ⟨?_, trivial⟩
            (apply DrOp_q; (case hi => rfl); (case hon => exact Va); (case hd => rfl); (case hq => exact Yl_call rfl (hsm a1 a3 N' L' c1 c3 w4 e4 hA1 hA3 q1 q2)))
            refine Dr_step [7, 8] (by kernel_rfl) rfl ⟨?_, ?_, trivial⟩
            · (apply DrOp_q; (case hi => rfl); (case hon => exact Va); (case hd => rfl); (case hq => exact YlA))
              refine Dr_step [8] (by kernel_rfl) rfl ⟨?_, trivial⟩
              (apply DrOp_q; (case hi => rfl); (case hon => exact Va); (case hd => rfl); (case hq => exact YlA))
              refine Dr_step [9] (by kernel_rfl) rfl ⟨?_, trivial⟩
              (apply DrOp_q; (case hi => rfl); (case hon => exact Va); (case hd => rfl); (case hq => exact YlA))
              refine Dr_end (by kernel_rfl) ?_
              repeat (first | refine Vx ?_ | (apply Ops_q; (case hon => exact Va); (case hd => rfl); (case hq => exact YlA)) | refine Vr ?_ | refine Vt ?_ | refine Vf ?_ | refine Vm ?_ | refine Ve ?_ | refine Vo ?_ | refine Vz ?_ | refine Vn ?_)
              refine ret2 (by first | exact .inl rfl | exact .inr rfl) rfl rfl rfl ?_
              exact hfin w4 N' L' e4 hcf
            · (apply DrOp_q; (case hi => rfl); (case hon => exact Va); (case hd => rfl); (case hq => exact YlA))
              refine Dr_step [7] (by kernel_rfl) rfl ⟨?_, trivial⟩
              (apply DrOp_q; (case hi => rfl); (case hon => exact Va); (case hd => rfl); (case hq => exact YlA))
              refine Dr_step [9] (by kernel_rfl) rfl ⟨?_, trivial⟩
              (apply DrOp_q; (case hi => rfl); (case hon => exact Va); (case hd => rfl); (case hq => exact YlA))
              refine Dr_end (by kernel_rfl) ?_
              repeat (first | refine Vx ?_ | (apply Ops_q; (case hon => exact Va); (case hd => rfl); (case hq => exact YlA)) | refine Vr ?_ | refine Vt ?_ | refine Vf ?_ | refine Vm ?_ | refine Ve ?_ | refine Vo ?_ | refine Vz ?_ | refine Vn ?_)
              refine ret2 (by first | exact .inl rfl | exact .inr rfl) rfl rfl rfl ?_
              exact hfin w4 N' L' e4 hcf
        · (apply DrOp_q; (case hi => rfl); (case hon => exact Va); (case hd => rfl); (case hq => exact YlA))
          refine Dr_step [0, 3, 5] (by kernel_rfl) rfl ⟨?_, ?_, ?_, trivial⟩
          · (apply DrOp_q; (case hi => rfl); (case hon => exact Va); (case hd => rfl); (case hq => exact YlA))
            refine Dr_step [3, 5] (by kernel_rfl) rfl ⟨?_, ?_, trivial⟩
            · (apply DrOp_q; (case hi => rfl); (case hon => exact Va); (case hd => rfl); (case hq => exact YlA))
              refine Dr_step [4, 5] (by kernel_rfl) rfl ⟨?_, ?_, trivial⟩
              · refine DrOp_callR (R := fun w0' => CfR g w0') rfl Va rfl rfl (fun w_ e_ => hcomp w_ e_) ?_
                intro vc w4 w0c e0c e1c hRc
                obtain ⟨vN, vL, N', L', rfl, hcf, oN, oL⟩ := hRc
                have e4 := e0c.trans e1c
                have k_b1 := k_b1.ext e4
                obtain ⟨q1, q2⟩ := cfSize hcf
                obtain ⟨a1, c1, rfl, hA1⟩ := ownS oN
                obtain ⟨a3, c3, rfl, hA3⟩ := ownS oL
                refine Dr_step [5] (by kernel_rfl) rfl ⟨?_, trivial⟩
                (apply DrOp_q; (case hi => rfl); (case hon => exact Va); (case hd => rfl); (case hq => exact YlA))
                refine Dr_step [6] (by kernel_rfl) rfl ⟨?_, trivial⟩
                (apply DrOp_q; (case hi => rfl); (case hon => exact Va); (case hd => rfl); (case hq => exact Yl_call rfl (hsm a1 a3 N' L' c1 c3 w4 e4 hA1 hA3 q1 q2)))
                refine Dr_step [7, 8] (by kernel_rfl) rfl ⟨?_, ?_, trivial⟩
                · (apply DrOp_q; (case hi => rfl); (case hon => exact Va); (case hd => rfl); (case hq => exact YlA))
                  refine Dr_step [8] (by kernel_rfl) rfl ⟨?_, trivial⟩
                  (apply DrOp_q; (case hi => rfl); (case hon => exact Va); (case hd => rfl); (case hq => exact YlA))
                  refine Dr_step [9] (by kernel_rfl) rfl ⟨?_, trivial⟩
                  (apply DrOp_q; (case hi => rfl); (case hon => exact Va); (case hd => rfl); (case hq => exact YlA))
                  refine Dr_end (by kernel_rfl) ?_
                  repeat (first | refine Vx ?_ | (apply Ops_q; (case hon => exact Va); (case hd => rfl); (case hq => exact YlA)) | refine Vr ?_ | refine Vt ?_ | refine Vf ?_ | refine Vm ?_ | refine Ve ?_ | refine Vo ?_ | refine Vz ?_ | refine Vn ?_)
                  refine ret2 (by first | exact .inl rfl | exact .inr rfl) rfl rfl rfl ?_
                  exact hfin w4 N' L' e4 hcf
                · (apply DrOp_q; (case hi => rfl); (case hon => exact Va); (case hd => rfl); (case hq => exact YlA))
                  refine Dr_step [7] (by kernel_rfl) rfl ⟨?_, trivial⟩
                  (apply DrOp_q; (case hi => rfl); (case hon => exact Va); (case hd => rfl); (case hq => exact YlA))
                  refine Dr_step [9] (by kernel_rfl) rfl ⟨?_, trivial⟩
                  (apply DrOp_q; (case hi => rfl); (case hon => exact Va); (case hd => rfl); (case hq => exact YlA))
                  refine Dr_end (by kernel_rfl) ?_
                  repeat (first | refine Vx ?_ | (apply Ops_q; (case hon => exact Va); (case hd => rfl); (case hq => exact YlA)) | refine Vr ?_ | refine Vt ?_ | refine Vf ?_ | refine Vm ?_ | refine Ve ?_ | refine Vo ?_ | refine Vz ?_ | refine Vn ?_)
                  refine ret2 (by first | exact .inl rfl | exact .inr rfl) rfl rfl rfl ?_
                  exact hfin w4 N' L' e4 hcf
              · (apply DrOp_q; (case hi => rfl); (case hon => exact Va); (case hd => rfl); (case hq => exact YlA))
                refine Dr_step [4] (by kernel_rfl) rfl ⟨?_, trivial⟩
                refine DrOp_callR (R := fun w0' => CfR g w0') rfl Va rfl rfl (fun w_ e_ => hcomp w_ e_) ?_
                intro vc w4 w0c e0c e1c hRc
                obtain ⟨vN, vL, N', L', rfl, hcf, oN, oL⟩ := hRc
                have e4 := e0c.trans e1c
                have k_b1 := k_b1.ext e4
                obtain ⟨q1, q2⟩ := cfSize hcf
                obtain ⟨a1, c1, rfl, hA1⟩ := ownS oN
                obtain ⟨a3, c3, rfl, hA3⟩ := ownS oL
                refine Dr_step [6] (by kernel_rfl) rfl ⟨?_, trivial⟩
                (apply DrOp_q; (case hi => rfl); (case hon => exact Va); (case hd => rfl); (case hq => exact Yl_call rfl (hsm a1 a3 N' L' c1 c3 w4 e4 hA1 hA3 q1 q2)))
                refine Dr_step [7, 8] (by kernel_rfl) rfl ⟨?_, ?_, trivial⟩
                · (apply DrOp_q; (case hi => rfl); (case hon => exact Va); (case hd => rfl); (case hq => exact YlA))
                  refine Dr_step [8] (by kernel_rfl) rfl ⟨?_, trivial⟩
                  (apply DrOp_q; (case hi => rfl); (case hon => exact Va); (case hd => rfl); (case hq => exact YlA))
                  refine Dr_step [9] (by kernel_rfl) rfl ⟨?_, trivial⟩
                  (apply DrOp_q; (case hi => rfl); (case hon => exact Va); (case hd => rfl); (case hq => exact YlA))
                  refine Dr_end (by kernel_rfl) ?_
                  repeat (first | refine Vx ?_ | (apply Ops_q; (case hon => exact Va); (case hd => rfl); (case hq => exact YlA)) | refine Vr ?_ | refine Vt ?_ | refine Vf ?_ | refine Vm ?_ | refine Ve ?_ | refine Vo ?_ | refine Vz ?_ | refine Vn ?_)
                  refine ret2 (by first | exact .inl rfl | exact .inr rfl) rfl rfl rfl ?_
                  exact hfin w4 N' L' e4 hcf
                · (apply DrOp_q; (case hi => rfl); (case hon => exact Va); (case hd => rfl); (case hq => exact YlA))
                  refine Dr_step [7] (by kernel_rfl) rfl ⟨?_, trivial⟩
                  (apply DrOp_q; (case hi => rfl); (case hon => exact Va); (case hd => rfl); (case hq => exact YlA))
                  refine Dr_step [9] (by kernel_rfl) rfl ⟨?_, trivial⟩
                  (apply DrOp_q; (case hi => rfl); (case hon => exact Va); (case hd => rfl); (case hq => exact YlA))
                  refine Dr_end (by kernel_rfl) ?_
                  repeat (first | refine Vx ?_ | (apply Ops_q; (case hon => exact Va); (case hd => rfl); (case hq => exact YlA)) | refine Vr ?_ | refine Vt ?_ | refine Vf ?_ | refine Vm ?_ | refine Ve ?_ | refine Vo ?_ | refine Vz ?_ | refine Vn ?_)
                  refine ret2 (by first | exact .inl rfl | exact .inr rfl) rfl rfl rfl ?_
                  exact hfin w4 N' L' e4 hcf
            · (apply DrOp_q; (case hi => rfl); (case hon => exact Va); (case hd => rfl); (case hq => exact YlA))
              refine Dr_step [3] (by kernel_rfl) rfl ⟨?_, trivial⟩
              (apply DrOp_q; (case hi => rfl); (case hon => exact Va); (case hd => rfl); (case hq => exact YlA))
              refine Dr_step [4] (by kernel_rfl) rfl ⟨?_, trivial⟩
              refine DrOp_callR (R := fun w0' => CfR g w0') rfl Va rfl rfl (fun w_ e_ => hcomp w_ e_) ?_
              intro vc w4 w0c e0c e1c hRc
              obtain ⟨vN, vL, N', L', rfl, hcf, oN, oL⟩ := hRc
              have e4 := e0c.trans e1c
              have k_b1 := k_b1.ext e4
              obtain ⟨q1, q2⟩ := cfSize hcf
              obtain ⟨a1, c1, rfl, hA1⟩ := ownS oN
              obtain ⟨a3, c3, rfl, hA3⟩ := ownS oL
              refine Dr_step [6] (by kernel_rfl) rfl ⟨?_, trivial⟩
              (apply DrOp_q; (case hi => rfl); (case hon => exact Va); (case hd => rfl); (case hq => exact Yl_call rfl (hsm a1 a3 N' L' c1 c3 w4 e4 hA1 hA3 q1 q2)))
              refine Dr_step [7, 8] (by kernel_rfl) rfl ⟨?_, ?_, trivial⟩
              · (apply DrOp_q; (case hi => rfl); (case hon => exact Va); (case hd => rfl); (case hq => exact YlA))
                refine Dr_step [8] (by kernel_rfl) rfl ⟨?_, trivial⟩
                (apply DrOp_q; (case hi => rfl); (case hon => exact Va); (case hd => rfl); (case hq => exact YlA))
                refine Dr_step [9] (by kernel_rfl) rfl ⟨?_, trivial⟩
                (apply DrOp_q; (case hi => rfl); (case hon => exact Va); (case hd => rfl); (case hq => exact YlA))
                refine Dr_end (by kernel_rfl) ?_
                repeat (first | refine Vx ?_ | (apply Ops_q; (case hon => exact Va); (case hd => rfl); (case hq => exact YlA)) | refine Vr ?_ | refine Vt ?_ | refine Vf ?_ | refine Vm ?_ | refine Ve ?_ | refine Vo ?_ | refine Vz ?_ | refine Vn ?_)
                refine ret2 (by first | exact .inl rfl | exact .inr rfl) rfl rfl rfl ?_
                exact hfin w4 N' L' e4 hcf
              · (apply DrOp_q; (case hi => rfl); (case hon => exact Va); (case hd => rfl); (case hq => exact YlA))
                refine Dr_step [7] (by kernel_rfl) rfl ⟨?_, trivial⟩
                (apply DrOp_q; (case hi => rfl); (case hon => exact Va); (case hd => rfl); (case hq => exact YlA))
                refine Dr_step [9] (by kernel_rfl) rfl ⟨?_, trivial⟩
                (apply DrOp_q; (case hi => rfl); (case hon => exact Va); (case hd => rfl); (case hq => exact YlA))
                refine Dr_end (by kernel_rfl) ?_
                repeat (first | refine Vx ?_ | (apply Ops_q; (case hon => exact Va); (case hd => rfl); (case hq => exact YlA)) | refine Vr ?_ | refine Vt ?_ | refine Vf ?_ | refine Vm ?_ | refine Ve ?_ | refine Vo ?_ | refine Vz ?_ | refine Vn ?_)
                refine ret2 (by first | exact .inl rfl | exact .inr rfl) rfl rfl rfl ?_
                exact hfin w4 N' L' e4 hcf
          · (apply DrOp_q; (case hi => rfl); (case hon => exact Va); (case hd => rfl); (case hq => exact YlA))
            refine Dr_step [0, 4, 5] (by kernel_rfl) rfl ⟨?_, ?_, ?_, trivial⟩
            · (apply DrOp_q; (case hi => rfl); (case hon => exact Va); (case hd => rfl); (case hq => exact YlA))
              refine Dr_step [4, 5] (by kernel_rfl) rfl ⟨?_, ?_, trivial⟩
              · refine DrOp_callR (R := fun w0' => CfR g w0') rfl Va rfl rfl (fun w_ e_ => hcomp w_ e_) ?_
                intro vc w4 w0c e0c e1c hRc
                obtain ⟨vN, vL, N', L', rfl, hcf, oN, oL⟩ := hRc
                have e4 := e0c.trans e1c
                have k_b1 := k_b1.ext e4
                obtain ⟨q1, q2⟩ := cfSize hcf
                obtain ⟨a1, c1, rfl, hA1⟩ := ownS oN
                obtain ⟨a3, c3, rfl, hA3⟩ := ownS oL
                refine Dr_step [5] (by kernel_rfl) rfl ⟨?_, trivial⟩
                (apply DrOp_q; (case hi => rfl); (case hon => exact Va); (case hd => rfl); (case hq => exact YlA))
                refine Dr_step [6] (by kernel_rfl) rfl ⟨?_, trivial⟩
                (apply DrOp_q; (case hi => rfl); (case hon => exact Va); (case hd => rfl); (case hq => exact Yl_call rfl (hsm a1 a3 N' L' c1 c3 w4 e4 hA1 hA3 q1 q2)))
                refine Dr_step [7, 8] (by kernel_rfl) rfl ⟨?_, ?_, trivial⟩
                · (apply DrOp_q; (case hi => rfl); (case hon => exact Va); (case hd => rfl); (case hq => exact YlA))
                  refine Dr_step [8] (by kernel_rfl) rfl ⟨?_, trivial⟩
                  (apply DrOp_q; (case hi => rfl); (case hon => exact Va); (case hd => rfl); (case hq => exact YlA))
                  refine Dr_step [9] (by kernel_rfl) rfl ⟨?_, trivial⟩
                  (apply DrOp_q; (case hi => rfl); (case hon => exact Va); (case hd => rfl); (case hq => exact YlA))
                  refine Dr_end (by kernel_rfl) ?_
                  repeat (first | refine Vx ?_ | (apply Ops_q; (case hon => exact Va); (case hd => rfl); (case hq => exact YlA)) | refine Vr ?_ | refine Vt ?_ | refine Vf ?_ | refine Vm ?_ | refine Ve ?_ | refine Vo ?_ | refine Vz ?_ | refine Vn ?_)
                  refine ret2 (by first | exact .inl rfl | exact .inr rfl) rfl rfl rfl ?_
                  exact hfin w4 N' L' e4 hcf
                · (apply DrOp_q; (case hi => rfl); (case hon => exact Va); (case hd => rfl); (case hq => exact YlA))
                  refine Dr_step [7] (by kernel_rfl) rfl ⟨?_, trivial⟩
                  (apply DrOp_q; (case hi => rfl); (case hon => exact Va); (case hd => rfl); (case hq => exact YlA))
                  refine Dr_step [9] (by kernel_rfl) rfl ⟨?_, trivial⟩
                  (apply DrOp_q; (case hi => rfl); (case hon => exact Va); (case hd => rfl); (case hq => exact YlA))
                  refine Dr_end (by kernel_rfl) ?_
                  repeat (first | refine Vx ?_ | (apply Ops_q; (case hon => exact Va); (case hd => rfl); (case hq => exact YlA)) | refine Vr ?_ | refine Vt ?_ | refine Vf ?_ | refine Vm ?_ | refine Ve ?_ | refine Vo ?_ | refine Vz ?_ | refine Vn ?_)
                  refine ret2 (by first | exact .inl rfl | exact .inr rfl) rfl rfl rfl ?_
                  exact hfin w4 N' L' e4 hcf
              · (apply DrOp_q; (case hi => rfl); (case hon => exact Va); (case hd => rfl); (case hq => exact YlA))
                refine Dr_step [4] (by kernel_rfl) rfl ⟨?_, trivial⟩
                refine DrOp_callR (R := fun w0' => CfR g w0') rfl Va rfl rfl (fun w_ e_ => hcomp w_ e_) ?_
                intro vc w4 w0c e0c e1c hRc
                obtain ⟨vN, vL, N', L', rfl, hcf, oN, oL⟩ := hRc
                have e4 := e0c.trans e1c
                have k_b1 := k_b1.ext e4
                obtain ⟨q1, q2⟩ := cfSize hcf
                obtain ⟨a1, c1, rfl, hA1⟩ := ownS oN
                obtain ⟨a3, c3, rfl, hA3⟩ := ownS oL
                refine Dr_step [6] (by kernel_rfl) rfl ⟨?_, trivial⟩
                (apply DrOp_q; (case hi => rfl); (case hon => exact Va); (case hd => rfl); (case hq => exact Yl_call rfl (hsm a1 a3 N' L' c1 c3 w4 e4 hA1 hA3 q1 q2)))
                refine Dr_step [7, 8] (by kernel_rfl) rfl ⟨?_, ?_, trivial⟩
                · (apply DrOp_q; (case hi => rfl); (case hon => exact Va); (case hd => rfl); (case hq => exact YlA))
                  refine Dr_step [8] (by kernel_rfl) rfl ⟨?_, trivial⟩
                  (apply DrOp_q; (case hi => rfl); (case hon => exact Va); (case hd => rfl); (case hq => exact YlA))
                  refine Dr_step [9] (by kernel_rfl) rfl ⟨?_, trivial⟩
                  (apply DrOp_q; (case hi => rfl); (case hon => exact Va); (case hd => rfl); (case hq => exact YlA))
                  refine Dr_end (by kernel_rfl) ?_
                  repeat (first | refine Vx ?_ | (apply Ops_q; (case hon => exact Va); (case hd => rfl); (case hq => exact YlA)) | refine Vr ?_ | refine Vt ?_ | refine Vf ?_ | refine Vm ?_ | refine Ve ?_ | refine Vo ?_ | refine Vz ?_ | refine Vn ?_)
                  refine ret2 (by first | exact .inl rfl | exact .inr rfl) rfl rfl rfl ?_
                  exact hfin w4 N' L' e4 hcf
                · (apply DrOp_q; (case hi => rfl); (case hon => exact Va); (case hd => rfl); (case hq => exact YlA))
                  refine Dr_step [7] (by kernel_rfl) rfl ⟨?_, trivial⟩
                  (apply DrOp_q; (case hi => rfl); (case hon => exact Va); (case hd => rfl); (case hq => exact YlA))
                  refine Dr_step [9] (by kernel_rfl) rfl ⟨?_, trivial⟩
                  (apply DrOp_q; (case hi => rfl); (case hon => exact Va); (case hd => rfl); (case hq => exact YlA))
                  refine Dr_end (by kernel_rfl) ?_
                  repeat (first | refine Vx ?_ | (apply Ops_q; (case hon => exact Va); (case hd => rfl); (case hq => exact YlA)) | refine Vr ?_ | refine Vt ?_ | refine Vf ?_ | refine Vm ?_ | refine Ve ?_ | refine Vo ?_ | refine Vz ?_ | refine Vn ?_)
                  refine ret2 (by first | exact .inl rfl | exact .inr rfl) rfl rfl rfl ?_
                  exact hfin w4 N' L' e4 hcf
            · refine DrOp_callR (R := fun w0' => CfR g w0') rfl Va rfl rfl (fun w_ e_ => hcomp w_ e_) ?_
              intro vc w4 w0c e0c e1c hRc
              obtain ⟨vN, vL, N', L', rfl, hcf, oN, oL⟩ := hRc
              have e4 := e0c.trans e1c
              have k_b1 := k_b1.ext e4
              obtain ⟨q1, q2⟩ := cfSize hcf
              obtain ⟨a1, c1, rfl, hA1⟩ := ownS oN
              obtain ⟨a3, c3, rfl, hA3⟩ := ownS oL
              refine Dr_step [0, 5] (by kernel_rfl) rfl ⟨?_, ?_, trivial⟩
              · (apply DrOp_q; (case hi => rfl); (case hon => exact Va); (case hd => rfl); (case hq => exact YlA))
                refine Dr_step [5] (by kernel_rfl) rfl ⟨?_, trivial⟩
                (apply DrOp_q; (case hi => rfl); (case hon => exact Va); (case hd => rfl); (case hq => exact YlA))
                refine Dr_step [6] (by kernel_rfl) rfl ⟨?_, trivial⟩
                (apply DrOp_q; (case hi => rfl); (case hon => exact Va); (case hd => rfl); (case hq => exact Yl_call rfl (hsm a1 a3 N' L' c1 c3 w4 e4 hA1 hA3 q1 q2)))
                refine Dr_step [7, 8] (by kernel_rfl) rfl ⟨?_, ?_, trivial⟩
                · (apply DrOp_q; (case hi => rfl); (case hon => exact Va); (case hd => rfl); (case hq => exact YlA))
                  refine Dr_step [8] (by kernel_rfl) rfl ⟨?_, trivial⟩
                  (apply DrOp_q; (case hi => rfl); (case hon => exact Va); (case hd => rfl); (case hq => exact YlA))
                  refine Dr_step [9] (by kernel_rfl) rfl ⟨?_, trivial⟩
                  (apply DrOp_q; (case hi => rfl); (case hon => exact Va); (case hd => rfl); (case hq => exact YlA))
                  refine Dr_end (by kernel_rfl) ?_
                  repeat (first | refine Vx ?_ | (apply Ops_q; (case hon => exact Va); (case hd => rfl); (case hq => exact YlA)) | refine Vr ?_ | refine Vt ?_ | refine Vf ?_ | refine Vm ?_ | refine Ve ?_ | refine Vo ?_ | refine Vz ?_ | refine Vn ?_)
                  refine ret2 (by first | exact .inl rfl | exact .inr rfl) rfl rfl rfl ?_
                  exact hfin w4 N' L' e4 hcf
                · (apply DrOp_q; (case hi => rfl); (case hon => exact Va); (case hd => rfl); (case hq => exact YlA))
                  refine Dr_step [7] (by kernel_rfl) rfl ⟨?_, trivial⟩
                  (apply DrOp_q; (case hi => rfl); (case hon => exact Va); (case hd => rfl); (case hq => exact YlA))
                  refine Dr_step [9] (by kernel_rfl) rfl ⟨?_, trivial⟩
                  (apply DrOp_q; (case hi => rfl); (case hon => exact Va); (case hd => rfl); (case hq => exact YlA))
                  refine Dr_end (by kernel_rfl) ?_
                  repeat (first | refine Vx ?_ | (apply Ops_q; (case hon => exact Va); (case hd => rfl); (case hq => exact YlA)) | refine Vr ?_ | refine Vt ?_ | refine Vf ?_ | refine Vm ?_ | refine Ve ?_ | refine Vo ?_ | refine Vz ?_ | refine Vn ?_)
                  refine ret2 (by first | exact .inl rfl | exact .inr rfl) rfl rfl rfl ?_
                  exact hfin w4 N' L' e4 hcf
              · (apply DrOp_q; (case hi => rfl); (case hon => exact Va); (case hd => rfl); (case hq => exact YlA))
                refine Dr_step [0, 6] (by kernel_rfl) rfl ⟨?_, ?_, trivial⟩
                · (apply DrOp_q; (case hi => rfl); (case hon => exact Va); (case hd => rfl); (case hq => exact YlA))
                  refine Dr_step [6] (by kernel_rfl) rfl ⟨?_, trivial⟩
                  (apply DrOp_q; (case hi => rfl); (case hon => exact Va); (case hd => rfl); (case hq => exact Yl_call rfl (hsm a1 a3 N' L' c1 c3 w4 e4 hA1 hA3 q1 q2)))
                  refine Dr_step [7, 8] (by kernel_rfl) rfl ⟨?_, ?_, trivial⟩
                  · (apply DrOp_q; (case hi => rfl); (case hon => exact Va); (case hd => rfl); (case hq => exact YlA))
                    refine Dr_step [8] (by kernel_rfl) rfl ⟨?_, trivial⟩
                    (apply DrOp_q; (case hi => rfl); (case hon => exact Va); (case hd => rfl); (case hq => exact YlA))
                    refine Dr_step [9] (by kernel_rfl) rfl ⟨?_, trivial⟩
                    (apply DrOp_q; (case hi => rfl); (case hon => exact Va); (case hd => rfl); (case hq => exact YlA))
                    refine Dr_end (by kernel_rfl) ?_
                    repeat (first | refine Vx ?_ | (apply Ops_q; (case hon => exact Va); (case hd => rfl); (case hq => exact YlA)) | refine Vr ?_ | refine Vt ?_ | refine Vf ?_ | refine Vm ?_ | refine Ve ?_ | refine Vo ?_ | refine Vz ?_ | refine Vn ?_)
                    refine ret2 (by first | exact .inl rfl | exact .inr rfl) rfl rfl rfl ?_
                    exact hfin w4 N' L' e4 hcf
                  · (apply DrOp_q; (case hi => rfl); (case hon => exact Va); (case hd => rfl); (case hq => exact YlA))
                    refine Dr_step [7] (by kernel_rfl) rfl ⟨?_, trivial⟩
                    (apply DrOp_q; (case hi => rfl); (case hon => exact Va); (case hd => rfl); (case hq => exact YlA))
                    refine Dr_step [9] (by kernel_rfl) rfl ⟨?_, trivial⟩
                    (apply DrOp_q; (case hi => rfl); (case hon => exact Va); (case hd => rfl); (case hq => exact YlA))
                    refine Dr_end (by kernel_rfl) ?_
                    repeat (first | refine Vx ?_ | (apply Ops_q; (case hon => exact Va); (case hd => rfl); (case hq => exact YlA)) | refine Vr ?_ | refine Vt ?_ | refine Vf ?_ | refine Vm ?_ | refine Ve ?_ | refine Vo ?_ | refine Vz ?_ | refine Vn ?_)
                    refine ret2 (by first | exact .inl rfl | exact .inr rfl) rfl rfl rfl ?_
                    exact hfin w4 N' L' e4 hcf
                · (apply DrOp_q; (case hi => rfl); (case hon => exact Va); (case hd => rfl); (case hq => exact Yl_call rfl (hsm a1 a3 N' L' c1 c3 w4 e4 hA1 hA3 q1 q2)))
                  refine Dr_step [0, 7] (by kernel_rfl) rfl ⟨?_, ?_, trivial⟩
                  · (apply DrOp_q; (case hi => rfl); (case hon => exact Va); (case hd => rfl); (case hq => exact YlA))
                    refine Dr_step [7, 8] (by kernel_rfl) rfl ⟨?_, ?_, trivial⟩
                    · (apply DrOp_q; (case hi => rfl); (case hon => exact Va); (case hd => rfl); (case hq => exact YlA))
                      refine Dr_step [8] (by kernel_rfl) rfl ⟨?_, trivial⟩
                      (apply DrOp_q; (case hi => rfl); (case hon => exact Va); (case hd => rfl); (case hq => exact YlA))
                      refine Dr_step [9] (by kernel_rfl) rfl ⟨?_, trivial⟩
                      (apply DrOp_q; (case hi => rfl); (case hon => exact Va); (case hd => rfl); (case hq => exact YlA))
                      refine Dr_end (by kernel_rfl) ?_
                      repeat (first | refine Vx ?_ | (apply Ops_q; (case hon => exact Va); (case hd => rfl); (case hq => exact YlA)) | refine Vr ?_ | refine Vt ?_ | refine Vf ?_ | refine Vm ?_ | refine Ve ?_ | refine Vo ?_ | refine Vz ?_ | refine Vn ?_)
                      refine ret2 (by first | exact .inl rfl | exact .inr rfl) rfl rfl rfl ?_
                      exact hfin w4 N' L' e4 hcf
                    · (apply DrOp_q; (case hi => rfl); (case hon => exact Va); (case hd => rfl); (case hq => exact YlA))
                      refine Dr_step [7] (by kernel_rfl) rfl ⟨?_, trivial⟩
                      (apply DrOp_q; (case hi => rfl); (case hon => exact Va); (case hd => rfl); (case hq => exact YlA))
                      refine Dr_step [9] (by kernel_rfl) rfl ⟨?_, trivial⟩
                      (apply DrOp_q; (case hi => rfl); (case hon => exact Va); (case hd => rfl); (case hq => exact YlA))
                      refine Dr_end (by kernel_rfl) ?_
                      repeat (first | refine Vx ?_ | (apply Ops_q; (case hon => exact Va); (case hd => rfl); (case hq => exact YlA)) | refine Vr ?_ | refine Vt ?_ | refine Vf ?_ | refine Vm ?_ | refine Ve ?_ | refine Vo ?_ | refine Vz ?_ | refine Vn ?_)
                      refine ret2 (by first | exact .inl rfl | exact .inr rfl) rfl rfl rfl ?_
                      exact hfin w4 N' L' e4 hcf
                  · (apply DrOp_q; (case hi => rfl); (case hon => exact Va); (case hd => rfl); (case hq => exact YlA))
                    refine Dr_step [0] (by kernel_rfl) rfl ⟨?_, trivial⟩
                    (apply DrOp_q; (case hi => rfl); (case hon => exact Va); (case hd => rfl); (case hq => exact YlA))
                    refine Dr_step [8] (by kernel_rfl) rfl ⟨?_, trivial⟩
                    (apply DrOp_q; (case hi => rfl); (case hon => exact Va); (case hd => rfl); (case hq => exact YlA))
                    refine Dr_step [9] (by kernel_rfl) rfl ⟨?_, trivial⟩
                    (apply DrOp_q; (case hi => rfl); (case hon => exact Va); (case hd => rfl); (case hq => exact YlA))
                    refine Dr_end (by kernel_rfl) ?_
                    repeat (first | refine Vx ?_ | (apply Ops_q; (case hon => exact Va); (case hd => rfl); (case hq => exact YlA)) | refine Vr ?_ | refine Vt ?_ | refine Vf ?_ | refine Vm ?_ | refine Ve ?_ | refine Vo ?_ | refine Vz ?_ | refine Vn ?_)
                    refine ret2 (by first | exact .inl rfl | exact .inr rfl) rfl rfl rfl ?_
                    exact hfin w4 N' L' e4 hcf
            · (apply DrOp_q; (case hi => rfl); (case hon => exact Va); (case hd => rfl); (case hq => exact YlA))
              refine Dr_step [0, 4] (by kernel_rfl) rfl ⟨?_, ?_, trivial⟩
              · (apply DrOp_q; (case hi => rfl); (case hon => exact Va); (case hd => rfl); (case hq => exact YlA))
                refine Dr_step [4] (by kernel_rfl) rfl ⟨?_, trivial⟩
                refine DrOp_callR (R := fun w0' => CfR g w0') rfl Va rfl rfl (fun w_ e_ => hcomp w_ e_) ?_
                intro vc w4 w0c e0c e1c hRc
                obtain ⟨vN, vL, N', L', rfl, hcf, oN, oL⟩ := hRc
                have e4 := e0c.trans e1c
                have k_b1 := k_b1.ext e4
                obtain ⟨q1, q2⟩ := cfSize hcf
                obtain ⟨a1, c1, rfl, hA1⟩ := ownS oN
                obtain ⟨a3, c3, rfl, hA3⟩ := ownS oL
                refine Dr_step [6] (by kernel_rfl) rfl ⟨?_, trivial⟩
                (apply DrOp_q; (case hi => rfl); (case hon => exact Va); (case hd => rfl); (case hq => exact Yl_call rfl (hsm a1 a3 N' L' c1 c3 w4 e4 hA1 hA3 q1 q2)))
                refine Dr_step [7, 8] (by kernel_rfl) rfl ⟨?_, ?_, trivial⟩
                · (apply DrOp_q; (case hi => rfl); (case hon => exact Va); (case hd => rfl); (case hq => exact YlA))
                  refine Dr_step [8] (by kernel_rfl) rfl ⟨?_, trivial⟩
                  (apply DrOp_q; (case hi => rfl); (case hon => exact Va); (case hd => rfl); (case hq => exact YlA))
                  refine Dr_step [9] (by kernel_rfl) rfl ⟨?_, trivial⟩
                  (apply DrOp_q; (case hi => rfl); (case hon => exact Va); (case hd => rfl); (case hq => exact YlA))
                  refine Dr_end (by kernel_rfl) ?_
                  repeat (first | refine Vx ?_ | (apply Ops_q; (case hon => exact Va); (case hd => rfl); (case hq => exact YlA)) | refine Vr ?_ | refine Vt ?_ | refine Vf ?_ | refine Vm ?_ | refine Ve ?_ | refine Vo ?_ | refine Vz ?_ | refine Vn ?_)
                  refine ret2 (by first | exact .inl rfl | exact .inr rfl) rfl rfl rfl ?_
                  exact hfin w4 N' L' e4 hcf
                · (apply DrOp_q; (case hi => rfl); (case hon => exact Va); (case hd => rfl); (case hq => exact YlA))
                  refine Dr_step [7] (by kernel_rfl) rfl ⟨?_, trivial⟩
                  (apply DrOp_q; (case hi => rfl); (case hon => exact Va); (case hd => rfl); (case hq => exact YlA))
                  refine Dr_step [9] (by kernel_rfl) rfl ⟨?_, trivial⟩
                  (apply DrOp_q; (case hi => rfl); (case hon => exact Va); (case hd => rfl); (case hq => exact YlA))
                  refine Dr_end (by kernel_rfl) ?_
                  repeat (first | refine Vx ?_ | (apply Ops_q; (case hon => exact Va); (case hd => rfl); (case hq => exact YlA)) | refine Vr ?_ | refine Vt ?_ | refine Vf ?_ | refine Vm ?_ | refine Ve ?_ | refine Vo ?_ | refine Vz ?_ | refine Vn ?_)
                  refine ret2 (by first | exact .inl rfl | exact .inr rfl) rfl rfl rfl ?_
                  exact hfin w4 N' L' e4 hcf
              · refine DrOp_callR (R := fun w0' => CfR g w0') rfl Va rfl rfl (fun w_ e_ => hcomp w_ e_) ?_
                intro vc w4 w0c e0c e1c hRc
                obtain ⟨vN, vL, N', L', rfl, hcf, oN, oL⟩ := hRc
                have e4 := e0c.trans e1c
                have k_b1 := k_b1.ext e4
                obtain ⟨q1, q2⟩ := cfSize hcf
                obtain ⟨a1, c1, rfl, hA1⟩ := ownS oN
                obtain ⟨a3, c3, rfl, hA3⟩ := ownS oL
                refine Dr_step [0, 6] (by kernel_rfl) rfl ⟨?_, ?_, trivial⟩
                · (apply DrOp_q; (case hi => rfl); (case hon => exact Va); (case hd => rfl); (case hq => exact YlA))
                  refine Dr_step [6] (by kernel_rfl) rfl ⟨?_, trivial⟩
                  (apply DrOp_q; (case hi => rfl); (case hon => exact Va); (case hd => rfl); (case hq => exact Yl_call rfl (hsm a1 a3 N' L' c1 c3 w4 e4 hA1 hA3 q1 q2)))
                  refine Dr_step [7, 8] (by kernel_rfl) rfl ⟨?_, ?_, trivial⟩
                  · (apply DrOp_q; (case hi => rfl); (case hon => exact Va); (case hd => rfl); (case hq => exact YlA))
                    refine Dr_step [8] (by kernel_rfl) rfl ⟨?_, trivial⟩
                    (apply DrOp_q; (case hi => rfl); (case hon => exact Va); (case hd => rfl); (case hq => exact YlA))
                    refine Dr_step [9] (by kernel_rfl) rfl ⟨?_, trivial⟩
                    (apply DrOp_q; (case hi => rfl); (case hon => exact Va); (case hd => rfl); (case hq => exact YlA))
                    refine Dr_end (by kernel_rfl) ?_
                    repeat (first | refine Vx ?_ | (apply Ops_q; (case hon => exact Va); (case hd => rfl); (case hq => exact YlA)) | refine Vr ?_ | refine Vt ?_ | refine Vf ?_ | refine Vm ?_ | refine Ve ?_ | refine Vo ?_ | refine Vz ?_ | refine Vn ?_)
                    refine ret2 (by first | exact .inl rfl | exact .inr rfl) rfl rfl rfl ?_
                    exact hfin w4 N' L' e4 hcf
                  · (apply DrOp_q; (case hi => rfl); (case hon => exact Va); (case hd => rfl); (case hq => exact YlA))
                    refine Dr_step [7] (by kernel_rfl) rfl ⟨?_, trivial⟩
                    (apply DrOp_q; (case hi => rfl); (case hon => exact Va); (case hd => rfl); (case hq => exact YlA))
                    refine Dr_step [9] (by kernel_rfl) rfl ⟨?_, trivial⟩
                    (apply DrOp_q; (case hi => rfl); (case hon => exact Va); (case hd => rfl); (case hq => exact YlA))
                    refine Dr_end (by kernel_rfl) ?_
                    repeat (first | refine Vx ?_ | (apply Ops_q; (case hon => exact Va); (case hd => rfl); (case hq => exact YlA)) | refine Vr ?_ | refine Vt ?_ | refine Vf ?_ | refine Vm ?_ | refine Ve ?_ | refine Vo ?_ | refine Vz ?_ | refine Vn ?_)
                    refine ret2 (by first | exact .inl rfl | exact .inr rfl) rfl rfl rfl ?_
                    exact hfin w4 N' L' e4 hcf
                · (apply DrOp_q; (case hi => rfl); (case hon => exact Va); (case hd => rfl); (case hq => exact Yl_call rfl (hsm a1 a3 N' L' c1 c3 w4 e4 hA1 hA3 q1 q2)))
                  refine Dr_step [0, 7] (by kernel_rfl) rfl ⟨?_, ?_, trivial⟩
                  · (apply DrOp_q; (case hi => rfl); (case hon => exact Va); (case hd => rfl); (case hq => exact YlA))
                    refine Dr_step [7, 8] (by kernel_rfl) rfl ⟨?_, ?_, trivial⟩
                    · (apply DrOp_q; (case hi => rfl); (case hon => exact Va); (case hd => rfl); (case hq => exact YlA))
                      refine Dr_step [8] (by kernel_rfl) rfl ⟨?_, trivial⟩
                      (apply DrOp_q; (case hi => rfl); (case hon => exact Va); (case hd => rfl); (case hq => exact YlA))
                      refine Dr_step [9] (by kernel_rfl) rfl ⟨?_, trivial⟩
                      (apply DrOp_q; (case hi => rfl); (case hon => exact Va); (case hd => rfl); (case hq => exact YlA))
                      refine Dr_end (by kernel_rfl) ?_
                      repeat (first | refine Vx ?_ | (apply Ops_q; (case hon => exact Va); (case hd => rfl); (case hq => exact YlA)) | refine Vr ?_ | refine Vt ?_ | refine Vf ?_ | refine Vm ?_ | refine Ve ?_ | refine Vo ?_ | refine Vz ?_ | refine Vn ?_)
                      refine ret2 (by first | exact .inl rfl | exact .inr rfl) rfl rfl rfl ?_
                      exact hfin w4 N' L' e4 hcf
                    · (apply DrOp_q; (case hi => rfl); (case hon => exact Va); (case hd => rfl); (case hq => exact YlA))
                      refine Dr_step [7] (by kernel_rfl) rfl ⟨?_, trivial⟩
                      (apply DrOp_q; (case hi => rfl); (case hon => exact Va); (case hd => rfl); (case hq => exact YlA))
                      refine Dr_step [9] (by kernel_rfl) rfl ⟨?_, trivial⟩
                      (apply DrOp_q; (case hi => rfl); (case hon => exact Va); (case hd => rfl); (case hq => exact YlA))
                      refine Dr_end (by kernel_rfl) ?_
                      repeat (first | refine Vx ?_ | (apply Ops_q; (case hon => exact Va); (case hd => rfl); (case hq => exact YlA)) | refine Vr ?_ | refine Vt ?_ | refine Vf ?_ | refine Vm ?_ | refine Ve ?_ | refine Vo ?_ | refine Vz ?_ | refine Vn ?_)
                      refine ret2 (by first | exact .inl rfl | exact .inr rfl) rfl rfl rfl ?_
                      exact hfin w4 N' L' e4 hcf
                  · (apply DrOp_q; (case hi => rfl); (case hon => exact Va); (case hd => rfl); (case hq => exact YlA))
                    refine Dr_step [0] (by kernel_rfl) rfl ⟨?_, trivial⟩
                    (apply DrOp_q; (case hi => rfl); (case hon => exact Va); (case hd => rfl); (case hq => exact YlA))
                    refine Dr_step [8] (by kernel_rfl) rfl ⟨?_, trivial⟩
                    (apply DrOp_q; (case hi => rfl); (case hon => exact Va); (case hd => rfl); (case hq => exact YlA))
                    refine Dr_step [9] (by kernel_rfl) rfl ⟨?_, trivial⟩
                    (apply DrOp_q; (case hi => rfl); (case hon => exact Va); (case hd => rfl); (case hq => exact YlA))
                    refine Dr_end (by kernel_rfl) ?_
                    repeat (first | refine Vx ?_ | (apply Ops_q; (case hon => exact Va); (case hd => rfl); (case hq => exact YlA)) | refine Vr ?_ | refine Vt ?_ | refine Vf ?_ | refine Vm ?_ | refine Ve ?_ | refine Vo ?_ | refine Vz ?_ | refine Vn ?_)
                    refine ret2 (by first | exact .inl rfl | exact .inr rfl) rfl rfl rfl ?_
                    exact hfin w4 N' L' e4 hcf
          · (apply DrOp_q; (case hi => rfl); (case hon => exact Va); (case hd => rfl); (case hq => exact YlA))
            refine Dr_step [0, 3] (by kernel_rfl) rfl ⟨?_, ?_, trivial⟩
            · (apply DrOp_q; (case hi => rfl); (case hon => exact Va); (case hd => rfl); (case hq => exact YlA))
              refine Dr_step [3] (by kernel_rfl) rfl ⟨?_, trivial⟩
              (apply DrOp_q; (case hi => rfl); (case hon => exact Va); (case hd => rfl); (case hq => exact YlA))
              refine Dr_step [4] (by kernel_rfl) rfl ⟨?_, trivial⟩
              refine DrOp_callR (R := fun w0' => CfR g w0') rfl Va rfl rfl (fun w_ e_ => hcomp w_ e_) ?_
              intro vc w4 w0c e0c e1c hRc
              obtain ⟨vN, vL, N', L', rfl, hcf, oN, oL⟩ := hRc
              have e4 := e0c.trans e1c
              have k_b1 := k_b1.ext e4
              obtain ⟨q1, q2⟩ := cfSize hcf
              obtain ⟨a1, c1, rfl, hA1⟩ := ownS oN
              obtain ⟨a3, c3, rfl, hA3⟩ := ownS oL
              refine Dr_step [6] (by kernel_rfl) rfl ⟨?_, trivial⟩
              (apply DrOp_q; (case hi => rfl); (case hon => exact Va); (case hd => rfl); (case hq => exact Yl_call rfl (hsm a1 a3 N' L' c1 c3 w4 e4 hA1 hA3 q1 q2)))
              refine Dr_step [7, 8] (by kernel_rfl) rfl ⟨?_, ?_, trivial⟩
              · (apply DrOp_q; (case hi => rfl); (case hon => exact Va); (case hd => rfl); (case hq => exact YlA))
                refine Dr_step [8] (by kernel_rfl) rfl ⟨?_, trivial⟩
                (apply DrOp_q; (case hi => rfl); (case hon => exact Va); (case hd => rfl); (case hq => exact YlA))
                refine Dr_step [9] (by kernel_rfl) rfl ⟨?_, trivial⟩
                (apply DrOp_q; (case hi => rfl); (case hon => exact Va); (case hd => rfl); (case hq => exact YlA))
                refine Dr_end (by kernel_rfl) ?_
                repeat (first | refine Vx ?_ | (apply Ops_q; (case hon => exact Va); (case hd => rfl); (case hq => exact YlA)) | refine Vr ?_ | refine Vt ?_ | refine Vf ?_ | refine Vm ?_ | refine Ve ?_ | refine Vo ?_ | refine Vz ?_ | refine Vn ?_)
                refine ret2 (by first | exact .inl rfl | exact .inr rfl) rfl rfl rfl ?_
                exact hfin w4 N' L' e4 hcf
              · (apply DrOp_q; (case hi => rfl); (case hon => exact Va); (case hd => rfl); (case hq => exact YlA))
                refine Dr_step [7] (by kernel_rfl) rfl ⟨?_, trivial⟩
                (apply DrOp_q; (case hi => rfl); (case hon => exact Va); (case hd => rfl); (case hq => exact YlA))
                refine Dr_step [9] (by kernel_rfl) rfl ⟨?_, trivial⟩
                (apply DrOp_q; (case hi => rfl); (case hon => exact Va); (case hd => rfl); (case hq => exact YlA))
                refine Dr_end (by kernel_rfl) ?_
                repeat (first | refine Vx ?_ | (apply Ops_q; (case hon => exact Va); (case hd => rfl); (case hq => exact YlA)) | refine Vr ?_ | refine Vt ?_ | refine Vf ?_ | refine Vm ?_ | refine Ve ?_ | refine Vo ?_ | refine Vz ?_ | refine Vn ?_)
                refine ret2 (by first | exact .inl rfl | exact .inr rfl) rfl rfl rfl ?_
                exact hfin w4 N' L' e4 hcf
            · (apply DrOp_q; (case hi => rfl); (case hon => exact Va); (case hd => rfl); (case hq => exact YlA))
              refine Dr_step [0, 4] (by kernel_rfl) rfl ⟨?_, ?_, trivial⟩
              · (apply DrOp_q; (case hi => rfl); (case hon => exact Va); (case hd => rfl); (case hq => exact YlA))
                refine Dr_step [4] (by kernel_rfl) rfl ⟨?_, trivial⟩
                refine DrOp_callR (R := fun w0' => CfR g w0') rfl Va rfl rfl (fun w_ e_ => hcomp w_ e_) ?_
                intro vc w4 w0c e0c e1c hRc
                obtain ⟨vN, vL, N', L', rfl, hcf, oN, oL⟩ := hRc
                have e4 := e0c.trans e1c
                have k_b1 := k_b1.ext e4
                obtain ⟨q1, q2⟩ := cfSize hcf
                obtain ⟨a1, c1, rfl, hA1⟩ := ownS oN
                obtain ⟨a3, c3, rfl, hA3⟩ := ownS oL
                refine Dr_step [6] (by kernel_rfl) rfl ⟨?_, trivial⟩
                (apply DrOp_q; (case hi => rfl); (case hon => exact Va); (case hd => rfl); (case hq => exact Yl_call rfl (hsm a1 a3 N' L' c1 c3 w4 e4 hA1 hA3 q1 q2)))
                refine Dr_step [7, 8] (by kernel_rfl) rfl ⟨?_, ?_, trivial⟩
                · (apply DrOp_q; (case hi => rfl); (case hon => exact Va); (case hd => rfl); (case hq => exact YlA))
                  refine Dr_step [8] (by kernel_rfl) rfl ⟨?_, trivial⟩
                  (apply DrOp_q; (case hi => rfl); (case hon => exact Va); (case hd => rfl); (case hq => exact YlA))
                  refine Dr_step [9] (by kernel_rfl) rfl ⟨?_, trivial⟩
                  (apply DrOp_q; (case hi => rfl); (case hon => exact Va); (case hd => rfl); (case hq => exact YlA))
                  refine Dr_end (by kernel_rfl) ?_
                  repeat (first | refine Vx ?_ | (apply Ops_q; (case hon => exact Va); (case hd => rfl); (case hq => exact YlA)) | refine Vr ?_ | refine Vt ?_ | refine Vf ?_ | refine Vm ?_ | refine Ve ?_ | refine Vo ?_ | refine Vz ?_ | refine Vn ?_)
                  refine ret2 (by first | exact .inl rfl | exact .inr rfl) rfl rfl rfl ?_
                  exact hfin w4 N' L' e4 hcf
                · (apply DrOp_q; (case hi => rfl); (case hon => exact Va); (case hd => rfl); (case hq => exact YlA))
                  refine Dr_step [7] (by kernel_rfl) rfl ⟨?_, trivial⟩
                  (apply DrOp_q; (case hi => rfl); (case hon => exact Va); (case hd => rfl); (case hq => exact YlA))
                  refine Dr_step [9] (by kernel_rfl) rfl ⟨?_, trivial⟩
                  (apply DrOp_q; (case hi => rfl); (case hon => exact Va); (case hd => rfl); (case hq => exact YlA))
                  refine Dr_end (by kernel_rfl) ?_
                  repeat (first | refine Vx ?_ | (apply Ops_q; (case hon => exact Va); (case hd => rfl); (case hq => exact YlA)) | refine Vr ?_ | refine Vt ?_ | refine Vf ?_ | refine Vm ?_ | refine Ve ?_ | refine Vo ?_ | refine Vz ?_ | refine Vn ?_)
                  refine ret2 (by first | exact .inl rfl | exact .inr rfl) rfl rfl rfl ?_
                  exact hfin w4 N' L' e4 hcf
              · refine DrOp_callR (R := fun w0' => CfR g w0') rfl Va rfl rfl (fun w_ e_ => hcomp w_ e_) ?_
                intro vc w4 w0c e0c e1c hRc
                obtain ⟨vN, vL, N', L', rfl, hcf, oN, oL⟩ := hRc
                have e4 := e0c.trans e1c
                have k_b1 := k_b1.ext e4
                obtain ⟨q1, q2⟩ := cfSize hcf
                obtain ⟨a1, c1, rfl, hA1⟩ := ownS oN
                obtain ⟨a3, c3, rfl, hA3⟩ := ownS oL
                refine Dr_step [0, 6] (by kernel_rfl) rfl ⟨?_, ?_, trivial⟩
                · (apply DrOp_q; (case hi => rfl); (case hon => exact Va); (case hd => rfl); (case hq => exact YlA))
                  refine Dr_step [6] (by kernel_rfl) rfl ⟨?_, trivial⟩
                  (apply DrOp_q; (case hi => rfl); (case hon => exact Va); (case hd => rfl); (case hq => exact Yl_call rfl (hsm a1 a3 N' L' c1 c3 w4 e4 hA1 hA3 q1 q2)))
                  refine Dr_step [7, 8] (by kernel_rfl) rfl ⟨?_, ?_, trivial⟩
                  · (apply DrOp_q; (case hi => rfl); (case hon => exact Va); (case hd => rfl); (case hq => exact YlA))
                    refine Dr_step [8] (by kernel_rfl) rfl ⟨?_, trivial⟩
                    (apply DrOp_q; (case hi => rfl); (case hon => exact Va); (case hd => rfl); (case hq => exact YlA))
                    refine Dr_step [9] (by kernel_rfl) rfl ⟨?_, trivial⟩
                    (apply DrOp_q; (case hi => rfl); (case hon => exact Va); (case hd => rfl); (case hq => exact YlA))
                    refine Dr_end (by kernel_rfl) ?_
                    repeat (first | refine Vx ?_ | (apply Ops_q; (case hon => exact Va); (case hd => rfl); (case hq => exact YlA)) | refine Vr ?_ | refine Vt ?_ | refine Vf ?_ | refine Vm ?_ | refine Ve ?_ | refine Vo ?_ | refine Vz ?_ | refine Vn ?_)
                    refine ret2 (by first | exact .inl rfl | exact .inr rfl) rfl rfl rfl ?_
                    exact hfin w4 N' L' e4 hcf
                  · (apply DrOp_q; (case hi => rfl); (case hon => exact Va); (case hd => rfl); (case hq => exact YlA))
                    refine Dr_step [7] (by kernel_rfl) rfl ⟨?_, trivial⟩
                    (apply DrOp_q; (case hi => rfl); (case hon => exact Va); (case hd => rfl); (case hq => exact YlA))
                    refine Dr_step [9] (by kernel_rfl) rfl ⟨?_, trivial⟩
                    (apply DrOp_q; (case hi => rfl); (case hon => exact Va); (case hd => rfl); (case hq => exact YlA))
                    refine Dr_end (by kernel_rfl) ?_
                    repeat (first | refine Vx ?_ | (apply Ops_q; (case hon => exact Va); (case hd => rfl); (case hq => exact YlA)) | refine Vr ?_ | refine Vt ?_ | refine Vf ?_ | refine Vm ?_ | refine Ve ?_ | refine Vo ?_ | refine Vz ?_ | refine Vn ?_)
                    refine ret2 (by first | exact .inl rfl | exact .inr rfl) rfl rfl rfl ?_
                    exact hfin w4 N' L' e4 hcf
                · (apply DrOp_q; (case hi => rfl); (case hon => exact Va); (case hd => rfl); (case hq => exact Yl_call rfl (hsm a1 a3 N' L' c1 c3 w4 e4 hA1 hA3 q1 q2)))
                  refine Dr_step [0, 7] (by kernel_rfl) rfl ⟨?_, ?_, trivial⟩
                  · (apply DrOp_q; (case hi => rfl); (case hon => exact Va); (case hd => rfl); (case hq => exact YlA))
                    refine Dr_step [7, 8] (by kernel_rfl) rfl ⟨?_, ?_, trivial⟩
                    · (apply DrOp_q; (case hi => rfl); (case hon => exact Va); (case hd => rfl); (case hq => exact YlA))
                      refine Dr_step [8] (by kernel_rfl) rfl ⟨?_, trivial⟩
                      (apply DrOp_q; (case hi => rfl); (case hon => exact Va); (case hd => rfl); (case hq => exact YlA))
                      refine Dr_step [9] (by kernel_rfl) rfl ⟨?_, trivial⟩
                      (apply DrOp_q; (case hi => rfl); (case hon => exact Va); (case hd => rfl); (case hq => exact YlA))
                      refine Dr_end (by kernel_rfl) ?_
                      repeat (first | refine Vx ?_ | (apply Ops_q; (case hon => exact Va); (case hd => rfl); (case hq => exact YlA)) | refine Vr ?_ | refine Vt ?_ | refine Vf ?_ | refine Vm ?_ | refine Ve ?_ | refine Vo ?_ | refine Vz ?_ | refine Vn ?_)
                      refine ret2 (by first | exact .inl rfl | exact .inr rfl) rfl rfl rfl ?_
                      exact hfin w4 N' L' e4 hcf
                    · (apply DrOp_q; (case hi => rfl); (case hon => exact Va); (case hd => rfl); (case hq => exact YlA))
                      refine Dr_step [7] (by kernel_rfl) rfl ⟨?_, trivial⟩
                      (apply DrOp_q; (case hi => rfl); (case hon => exact Va); (case hd => rfl); (case hq => exact YlA))
                      refine Dr_step [9] (by kernel_rfl) rfl ⟨?_, trivial⟩
                      (apply DrOp_q; (case hi => rfl); (case hon => exact Va); (case hd => rfl); (case hq => exact YlA))
                      refine Dr_end (by kernel_rfl) ?_
                      repeat (first | refine Vx ?_ | (apply Ops_q; (case hon => exact Va); (case hd => rfl); (case hq => exact YlA)) | refine Vr ?_ | refine Vt ?_ | refine Vf ?_ | refine Vm ?_ | refine Ve ?_ | refine Vo ?_ | refine Vz ?_ | refine Vn ?_)
                      refine ret2 (by first | exact .inl rfl | exact .inr rfl) rfl rfl rfl ?_
                      exact hfin w4 N' L' e4 hcf
                  · (apply DrOp_q; (case hi => rfl); (case hon => exact Va); (case hd => rfl); (case hq => exact YlA))
                    refine Dr_step [0] (by kernel_rfl) rfl ⟨?_, trivial⟩
                    (apply DrOp_q; (case hi => rfl); (case hon => exact Va); (case hd => rfl); (case hq => exact YlA))
                    refine Dr_step [8] (by kernel_rfl) rfl ⟨?_, trivial⟩
                    (apply DrOp_q; (case hi => rfl); (case hon => exact Va); (case hd => rfl); (case hq => exact YlA))
                    refine Dr_step [9] (by kernel_rfl) rfl ⟨?_, trivial⟩
                    (apply DrOp_q; (case hi => rfl); (case hon => exact Va); (case hd => rfl); (case hq => exact YlA))
                    refine Dr_end (by kernel_rfl) ?_
                    repeat (first | refine Vx ?_ | (apply Ops_q; (case hon => exact Va); (case hd => rfl); (case hq => exact YlA)) | refine Vr ?_ | refine Vt ?_ | refine Vf ?_ | refine Vm ?_ | refine Ve ?_ | refine Vo ?_ | refine Vz ?_ | refine Vn ?_)
                    refine ret2 (by first | exact .inl rfl | exact .inr rfl) rfl rfl rfl ?_
                    exact hfin w4 N' L' e4 hcf
end Go.Proofs.Ytjpnaofoeeegeaa


/-
  Stride tables (layer 8), plain: the reference's check of a compressed table; which tables pass it.
  Conditions: the words are words of 64 bits.
-/
namespace Go.Proofs.Ytjpnaofoeeegeaa
open Go.RowKit

/-! ### Depths -/
/-- The depths of the nodes that are known after i nodes. -/
def dpL (N : List Nd) : Nat → List Nat
  | 0 => [0]
  | i + 1 => match N[i]? with
    | some n => dpL N i ++ List.replicate (rankN n.inner 64) ((dpL N i).getD i 0 + 1)
    | none => dpL N i
def dpN (N : List Nd) (i : Nat) : Nat := (dpL N N.length).getD i 0
theorem dpL_step {N : List Nd} {i : Nat} {n : Nd} (h : N[i]? = some n) : dpL N (i + 1) = dpL N i ++ List.replicate (rankN n.inner 64) ((dpL N i).getD i 0 + 1) := by rw [dpL, h]
theorem dpL_len (N : List Nd) : ∀ i, (dpL N i).length = ndC N i
  | 0 => rfl
  | i + 1 => by
    have ih := dpL_len N i
    cases h : N[i]? with
    | some n => rw [dpL_step h, ndC_step h, List.length_append, ih, List.length_replicate]
    | none => rw [dpL, h]; dsimp only; rw [ih]; unfold ndC; rw [List.take_add_one, h, Option.toList_none, List.append_nil]
theorem dpL_pre (N : List Nd) {i : Nat} : ∀ {n}, i ≤ n → dpL N i <+: dpL N n
  | 0, h => by rw [Nat.le_zero.1 h]; exact List.prefix_refl _
  | n + 1, h => by
    rcases Nat.lt_or_ge i (n + 1) with h1 | h1
    · refine (dpL_pre N (Nat.le_of_lt_succ h1)).trans ?_
      rw [dpL]; split
      · exact List.prefix_append ..
      · exact List.prefix_refl _
    · rw [show i = n + 1 by omega]; exact List.prefix_refl _
theorem dpN_at {N : List Nd} {i j : Nat} (hi : i ≤ N.length) (hj : j < ndC N i) : (dpL N i)[j]? = some (dpN N j) := by
  have h1 : (dpL N i)[j]? = some ((dpL N i)[j]'(by rw [dpL_len]; exact hj)) := List.getElem?_eq_getElem _
  have h2 := get_prefix (dpL_pre N hi) h1
  unfold dpN
  rw [List.getD_eq_getElem?_getD, h2, h1]; rfl
theorem dpN_root (N : List Nd) : dpN N 0 = 0 := by
  have := dpN_at (N := N) (i := 0) (j := 0) (Nat.zero_le _) (by simp [ndC])
  simpa [dpL] using this.symm
theorem dpN_kid {N : List Nd} {i j : Nat} {n : Nd} (h : N[i]? = some n) (hi : i < ndC N i) (h1 : ndC N i ≤ j) (h2 : j < ndC N (i + 1)) : dpN N j = dpN N i + 1 := by
  have hl := (List.getElem?_eq_some_iff.1 h).1
  have h3 := dpN_at (show i + 1 ≤ N.length from hl) h2
  have h4 := dpN_at (Nat.le_of_lt hl) hi
  rw [dpL_step h, List.getElem?_append_right (by rw [dpL_len]; exact h1), List.getD_eq_getElem?_getD, h4, dpL_len] at h3
  rw [ndC_step h] at h2
  rw [List.getElem?_replicate, if_pos (by omega)] at h3
  exact (Option.some.inj h3).symm
/-! ### Nodes that may be -/
/-- The leaves of a node. -/
def lvsN (N : List Nd) (L : List Int) (i : Nat) (n : Nd) : List Int := (L.drop (lfC N i)).take (rankN n.leaf 64)
structure Formed (n : Nd) (l : List Int) (d : Nat) (root : Bool) : Prop where
  dis : n.inner &&& n.leaf = 0
  dep : d ≤ 5
  last : d = 5 → n.inner = 0 ∧ ∀ x, x < 64 → n.leaf / 2 ^ x % 2 = 1 → x % 16 = 0
  head : ∀ x, x < 64 → (∀ y, y < x → n.inner / 2 ^ y % 2 = 1) → n.inner / 2 ^ x % 2 ≠ 1 → n.leaf / 2 ^ x % 2 = 1
  vals : ∀ v ∈ l, -1 ≤ v
  alt : ∀ i v u, l[i]? = some v → l[i + 1]? = some u → v ≠ u
  two : root = true ∨ n.inner ≠ 0 ∨ 1 < l.length
structure RefOk (N : List Nd) (L : List Int) : Prop where
  ne : 0 < N.length
  at_ : ∀ i n, N[i]? = some n → n.nodes = (ndC N i : Int) ∧ n.first = (lfC N i : Int) ∧ i < ndC N i
  nd : ndC N N.length = N.length
  lf : lfC N N.length = L.length
  form : ∀ i n, N[i]? = some n → Formed n (lvsN N L i n) (dpN N i) (decide (i = 0))
theorem RefOk.vals {N : List Nd} {L : List Int} (h : RefOk N L) : ∀ v ∈ L, -1 ≤ v := by
  have : ∀ i, i ≤ N.length → ∀ v ∈ L.take (lfC N i), -1 ≤ v := by
    intro i
    induction i with
    | zero => intro _ v hv; simp [lfC] at hv
    | succ i ih =>
      intro hi v hv
      obtain ⟨n, hn⟩ : ∃ n, N[i]? = some n := ⟨_, List.getElem?_eq_getElem (show i < N.length from hi)⟩
      rw [lfC_step hn, List.take_add, List.mem_append] at hv
      rcases hv with hv | hv
      · exact ih (by omega) v hv
      · exact (h.form i n hn).vals v hv
  intro v hv
  refine this N.length (Nat.le_refl _) v ?_
  rw [h.lf, List.take_length]; exact hv
theorem RefOk.reg {N : List Nd} {L : List Int} (h : RefOk N L) : Reg N L :=
  ⟨fun i n hn => ⟨(h.at_ i n hn).1, (h.at_ i n hn).2.1, (h.form i n hn).dis⟩, h.nd, h.lf, h.vals⟩
/-! ### Bits -/
theorem bit_dis {a b x : Nat} (h : a &&& b = 0) (h1 : a / 2 ^ x % 2 = 1) : b / 2 ^ x % 2 ≠ 1 := by
  intro h2
  have h3 : (a &&& b).testBit x = false := by rw [h, Nat.zero_testBit]
  rw [testBit_val] at h1 h2
  rw [Nat.testBit_and] at h3
  revert h1 h2 h3
  cases a.testBit x <;> cases b.testBit x <;> simp
theorem bit_one {w x : Nat} : w / 2 ^ x % 2 = 1 ∨ w / 2 ^ x % 2 = 0 := by omega
theorem rank_one {w x : Nat} (h : w / 2 ^ x % 2 = 1) : rankN w (x + 1) = rankN w x + 1 := by rw [rankN, h]
theorem rank_nil {w x : Nat} (h : w / 2 ^ x % 2 ≠ 1) : rankN w (x + 1) = rankN w x := by rw [rankN]; omega
theorem rank_find {w : Nat} : ∀ {n k : Nat}, k < rankN w n → ∃ x, x < n ∧ w / 2 ^ x % 2 = 1 ∧ rankN w x = k
  | 0, k, h => by simp [rankN] at h
  | n + 1, k, h => by
    rcases bit_one (w := w) (x := n) with hb | hb
    · rw [rank_one hb] at h
      rcases Nat.lt_or_ge k (rankN w n) with h1 | h1
      · obtain ⟨x, h2, h3⟩ := rank_find h1
        exact ⟨x, by omega, h3⟩
      · exact ⟨n, Nat.lt_succ_self n, hb, by omega⟩
    · rw [rank_nil (by omega)] at h
      obtain ⟨x, h2, h3⟩ := rank_find h
      exact ⟨x, by omega, h3⟩
theorem bit_ex {w : Nat} (hw : w < 18446744073709551616) (h : w ≠ 0) : ∃ x, x < 64 ∧ w / 2 ^ x % 2 = 1 := by
  refine Classical.byContradiction fun hno => h ?_
  have h1 := mkW_self w 64
  rw [Nat.mod_eq_of_lt hw] at h1
  rw [← h1, mkW_congr (Q := fun _ => false) (fun x hx => decide_eq_false fun h2 => hno ⟨x, hx, h2⟩)]
  have : ∀ k, mkW (fun _ => false) k = 0 := fun k => by induction k with
    | zero => rfl
    | succ k ih => rw [mkW, ih]; rfl
  exact this 64
theorem dig_uniq {d base a x : Nat} (hd : d ≤ 5) (al : PlAl (base, d)) (hx : x < 64) (hok : digOk d x = true) (h1 : digLo d base x ≤ a) (h2 : a < digLo d base x + nsz (d + 1)) : digN a d = x := by
  have hb := dig_in (base := base) hd hx
  obtain ⟨q1, q2, q3⟩ := digN_at (p := (base, d)) (a := a) hd al (by dsimp only; omega) (by dsimp only; omega)
  dsimp only at q1 q2 q3
  generalize digN a d = y at *
  rcases Nat.lt_or_ge d 5 with h5 | h5
  · unfold digLo at h1 h2 q2 q3
    rw [if_pos h5] at h1 h2 q2 q3
    rcases Nat.lt_trichotomy x y with h | h | h
    · have := Nat.mul_le_mul_right (nsz (d + 1)) (show x + 1 ≤ y from h)
      rw [Nat.succ_mul] at this; omega
    · exact h.symm
    · have := Nat.mul_le_mul_right (nsz (d + 1)) (show y + 1 ≤ x from h)
      rw [Nat.succ_mul] at this; omega
  · obtain rfl : d = 5 := by omega
    unfold digLo at h1 h2 q2 q3
    unfold digOk at hok q1
    rw [if_neg (by omega), nsz_six] at *
    simp at hok q1
    omega
/-! ### The value of an address -/
def evT (N : List Nd) (L : List Int) (a : Nat) : Nat → Nat → Nat → Int
  | 0, _, _ => 0
  | m + 1, i, d => match N[i]? with
    | some n => if n.inner / 2 ^ digN a d % 2 = 1 then evT N L a m (ndC N i + rankN n.inner (digN a d)) (d + 1) else leafV L (lfC N i) (rankN n.leaf (digN a d + 1))
    | none => 0
section
variable {N : List Nd} {L : List Int} {i d base x a m : Nat} {n : Nd}
theorem ev_in (h : N[i]? = some n) (hb : n.inner / 2 ^ digN a d % 2 = 1) : evT N L a (m + 1) i d = evT N L a m (ndC N i + rankN n.inner (digN a d)) (d + 1) := by
  rw [evT, h]; dsimp only; rw [if_pos hb]
theorem ev_leaf (h : N[i]? = some n) (hb : n.inner / 2 ^ digN a d % 2 ≠ 1) : evT N L a (m + 1) i d = leafV L (lfC N i) (rankN n.leaf (digN a d + 1)) := by
  rw [evT, h]; dsimp only; rw [if_neg hb]
theorem dig_lo (d base x : Nat) : digLo d base x ≤ digLo d base x ∧ digLo d base x < digLo d base x + nsz (d + 1) := ⟨Nat.le_refl _, Nat.lt_add_of_pos_right (nsz_pos _)⟩
theorem al_kid (h5 : d < 5) (ha : PlAl (base, d)) (x : Nat) : PlAl (digLo d base x, d + 1) := by
  unfold PlAl at ha ⊢
  dsimp only at ha ⊢
  rw [digLo, if_pos h5]
  rw [nsz_step h5] at ha
  have h1 : base % nsz (d + 1) = 0 := by
    rw [← Nat.mod_mul_left_mod base 64 (nsz (d + 1)), ha]; exact Nat.zero_mod _
  rw [Nat.add_mul_mod_self_right]; exact h1
theorem ok_lt {x : Nat} (h5 : d < 5) : digOk d x = true := by unfold digOk; rw [decide_eq_true h5]; rfl
theorem RefOk.kidlt (h : RefOk N L) (hi : N[i]? = some n) (hx : x < 64) (hb : n.inner / 2 ^ x % 2 = 1) :
    dpN N i < 5 ∧ ndC N i + rankN n.inner x < N.length ∧ 0 < ndC N i + rankN n.inner x ∧ dpN N (ndC N i + rankN n.inner x) = dpN N i + 1 := by
  have hF := h.form i n hi
  have h5 : dpN N i < 5 := by
    have h1 := hF.dep
    rcases Nat.lt_or_ge (dpN N i) 5 with h2 | h2
    · exact h2
    · have := (hF.last (by omega)).1
      rw [this] at hb; simp at hb
  have h1 := rank_lt hx hb
  have h2 := (h.at_ i n hi).2.2
  refine ⟨h5, h.reg.kid hi hx hb, by omega, dpN_kid hi h2 (Nat.le_add_right ..) ?_⟩
  rw [ndC_step hi]; omega
theorem lvs_get (hk : x < rankN n.leaf 64) : (lvsN N L i n)[x]? = L[lfC N i + x]? := by
  unfold lvsN; rw [List.getElem?_take, if_pos hk, List.getElem?_drop]
theorem RefOk.lf_at (h : RefOk N L) (hi : N[i]? = some n) (hk : x < rankN n.leaf 64) : ∃ v, L[lfC N i + x]? = some v ∧ (lvsN N L i n)[x]? = some v ∧ leafV L (lfC N i) (x + 1) = v := by
  have h2 := lfC_step hi
  have h3 := h.reg.lf_le (show i + 1 ≤ N.length from (List.getElem?_eq_some_iff.1 hi).1)
  have h4 : L[lfC N i + x]? = some (L[lfC N i + x]'(by omega)) := List.getElem?_eq_getElem _
  refine ⟨_, h4, by rw [lvs_get hk]; exact h4, ?_⟩
  rw [leafV, if_neg (by omega), show lfC N i + (x + 1) - 1 = lfC N i + x by omega, h4]; rfl
theorem lo_zero (d base : Nat) : digLo d base 0 = base := by unfold digLo; split <;> simp
theorem ok_zero (d : Nat) : digOk d 0 = true := by unfold digOk; simp
theorem RefOk.noncL (h : RefOk N L) (hn : N[i]? = some n) (hF : Formed n (lvsN N L i n) (dpN N i) (decide (i = 0))) (hz : n.inner = 0) (h0 : i ≠ 0) (hdp : dpN N i = d) (al : PlAl (base, d)) (hd : d ≤ 5) :
    ∃ a b, base ≤ a ∧ a < base + nsz d ∧ base ≤ b ∧ b < base + nsz d ∧ evT N L a (m + 1) i d ≠ evT N L b (m + 1) i d := by
  have hl : 1 < (lvsN N L i n).length := by
    rcases hF.two with h1 | h1 | h1
    · exact absurd (of_decide_eq_true h1) h0
    · exact absurd hz h1
    · exact h1
  have hr : 1 < rankN n.leaf 64 := by
    unfold lvsN at hl; rw [List.length_take] at hl; omega
  have no : ∀ x, n.inner / 2 ^ x % 2 ≠ 1 := fun x => by rw [hz]; simp
  have hb0 := hF.head 0 (by omega) (fun y hy => by omega) (no 0)
  obtain ⟨x, hx, hb, hk⟩ := rank_find hr
  have hok : digOk d x = true := by
    rcases Nat.lt_or_ge d 5 with h5 | h5
    · exact ok_lt h5
    · unfold digOk; rw [decide_eq_true ((hF.last (by omega)).2 x hx hb), Bool.or_true]
  have hI := dig_in (base := base) hd hx
  have hp := nsz_pos d
  have hp1 := nsz_pos (d + 1)
  have e0 : digN base d = 0 := dig_uniq hd al (by omega) (ok_zero d) (by rw [lo_zero]; exact Nat.le_refl _) (by rw [lo_zero]; omega)
  have ex : digN (digLo d base x) d = x := dig_uniq hd al hx hok (dig_lo d base x).1 (dig_lo d base x).2
  obtain ⟨v, v1, v2, v3⟩ := h.lf_at hn (x := 0) (by omega)
  obtain ⟨u, u1, u2, u3⟩ := h.lf_at hn (x := 1) hr
  refine ⟨base, digLo d base x, Nat.le_refl _, by omega, hI.1, by omega, ?_⟩
  rw [ev_leaf hn (no _), ev_leaf hn (no _), e0, ex, rank_one hb0, rank_one hb, hk, show rankN n.leaf 0 = 0 from rfl, v3, u3]
  exact hF.alt 0 v u v2 u2
/-- A node other than the root has two values. -/
theorem RefOk.nonc (h : RefOk N L) (hW : NdW N) : ∀ m d i base, d + m = 5 → i < N.length → i ≠ 0 → dpN N i = d → PlAl (base, d) →
    ∃ a b, base ≤ a ∧ a < base + nsz d ∧ base ≤ b ∧ b < base + nsz d ∧ evT N L a (m + 1) i d ≠ evT N L b (m + 1) i d := by
  intro m
  induction m with
  | zero =>
    intro d i base hd hi h0 hdp al
    obtain ⟨n, hn⟩ : ∃ n, N[i]? = some n := ⟨_, List.getElem?_eq_getElem hi⟩
    have hF := h.form i n hn
    exact h.noncL hn hF (hF.last (by omega)).1 h0 hdp al (by omega)
  | succ m ih =>
    intro d i base hd hi h0 hdp al
    obtain ⟨n, hn⟩ : ∃ n, N[i]? = some n := ⟨_, List.getElem?_eq_getElem hi⟩
    have hF := h.form i n hn
    by_cases hz : n.inner = 0
    · exact h.noncL hn hF hz h0 hdp al (by omega)
    · obtain ⟨x, hx, hb⟩ := bit_ex (hW n (List.mem_of_getElem? hn)).1 hz
      obtain ⟨h5, k1, k2, k3⟩ := h.kidlt hn hx hb
      rw [hdp] at h5 k3
      obtain ⟨a, b, a1, a2, b1, b2, hne⟩ := ih (d + 1) _ (digLo d base x) (by omega) k1 (by omega) k3 (al_kid h5 al x)
      have hI := dig_in (base := base) (Nat.le_of_lt h5) hx
      have ea := dig_uniq (Nat.le_of_lt h5) al hx (ok_lt h5) a1 a2
      have eb := dig_uniq (Nat.le_of_lt h5) al hx (ok_lt h5) b1 b2
      refine ⟨a, b, by omega, by omega, by omega, by omega, ?_⟩
      rw [ev_in hn (by rw [ea]; exact hb), ev_in hn (by rw [eb]; exact hb), ea, eb]; exact hne
end
theorem first_not {P : Nat → Prop} : ∀ x, ¬P x → ∃ y, y ≤ x ∧ (∀ z, z < y → P z) ∧ ¬P y := by
  intro x
  induction x using Nat.strongRecOn with
  | ind x ih =>
    intro hx
    by_cases h : ∀ z, z < x → P z
    · exact ⟨x, Nat.le_refl _, h, hx⟩
    · obtain ⟨z, hz⟩ := Classical.not_forall.1 h
      obtain ⟨hz1, hz2⟩ := Classical.not_imp.1 hz
      obtain ⟨y, h1, h2⟩ := ih z hz1 hz2
      exact ⟨y, by omega, h2⟩
theorem head_pos {n : Nd} {l : List Int} {d x : Nat} {r : Bool} (hF : Formed n l d r) (hx : x < 64) (hb : n.inner / 2 ^ x % 2 ≠ 1) : 0 < rankN n.leaf (x + 1) := by
  obtain ⟨y, h1, h2, h3⟩ := first_not (P := fun x => n.inner / 2 ^ x % 2 = 1) x hb
  have h4 := hF.head y (by omega) h2 h3
  have h5 := rank_lt (show y < x + 1 by omega) h4
  omega
/-- The function of a table. -/
def gT (N : List Nd) (L : List Int) (a : Nat) : Int := evT N L a 6 0 0
/-- A place is the one of a node. -/
structure PlFor (N : List Nd) (L : List Int) (i : Nat) (p : Nat × Nat) : Prop where
  dp : p.2 = dpN N i
  ok : PlOk p
  al : PlAl p
  ev : ∀ a, p.1 ≤ a → a < p.1 + nsz p.2 → gT N L a = evT N L a (6 - p.2) i p.2
section
variable {N : List Nd} {L : List Int} {i : Nat} {n : Nd} {p : Nat × Nat} (h : RefOk N L) (hW : NdW N) (hn : N[i]? = some n) (hp : PlFor N L i p)
include h hn hp
omit h in
theorem gT_of {x a : Nat} (hx : x < 64) (hok : digOk p.2 x = true) (h1 : digLo p.2 p.1 x ≤ a) (h2 : a < digLo p.2 p.1 x + nsz (p.2 + 1)) :
    (n.inner / 2 ^ x % 2 = 1 → gT N L a = evT N L a (5 - p.2) (ndC N i + rankN n.inner x) (p.2 + 1)) ∧ (n.inner / 2 ^ x % 2 ≠ 1 → gT N L a = leafV L (lfC N i) (rankN n.leaf (x + 1))) := by
  have hd := hp.ok.1
  have hI := dig_in (base := p.1) hd hx
  have e := dig_uniq hd hp.al hx hok h1 h2
  have hg := hp.ev a (by omega) (by omega)
  rw [show 6 - p.2 = (5 - p.2) + 1 by omega] at hg
  refine ⟨fun hb => ?_, fun hb => ?_⟩
  · rw [hg, ev_in hn (by rw [e]; exact hb), e]
  · rw [hg, ev_leaf hn (by rw [e]; exact hb), e]
include hW in
theorem digK_of {x : Nat} (hx : x < 64) : (n.inner / 2 ^ x % 2 = 1 → digK (gT N L) p x = some none) ∧
    (n.inner / 2 ^ x % 2 ≠ 1 → digOk p.2 x = true → digK (gT N L) p x = some (some (leafV L (lfC N i) (rankN n.leaf (x + 1))))) ∧
    (digOk p.2 x = false → digK (gT N L) p x = none ∧ n.leaf / 2 ^ x % 2 ≠ 1 ∧ n.inner / 2 ^ x % 2 ≠ 1) := by
  have hF := h.form i n hn
  have hlo := dig_lo p.2 p.1 x
  refine ⟨fun hb => ?_, fun hb hok => ?_, fun hno => ?_⟩
  · obtain ⟨h5, k1, k2, k3⟩ := h.kidlt hn hx hb
    rw [← hp.dp] at h5 k3
    have hok := ok_lt (x := x) h5
    obtain ⟨a, b, a1, a2, b1, b2, hne⟩ := h.nonc hW (4 - p.2) (p.2 + 1) _ (digLo p.2 p.1 x) (by omega) k1 (by omega) k3 (al_kid h5 hp.al x)
    rw [show 4 - p.2 + 1 = 5 - p.2 by omega] at hne
    have ea := (gT_of hn hp hx hok a1 a2).1 hb
    have eb := (gT_of hn hp hx hok b1 b2).1 hb
    unfold digK
    rw [if_pos hok]
    cases hf : flat (gT N L) (digLo p.2 p.1 x) (digLo p.2 p.1 x + nsz (p.2 + 1)) with
    | false => rfl
    | true =>
      exfalso
      have hfl := flat_iff.1 hf
      exact hne (by rw [← ea, ← eb, hfl a a1 a2, hfl b b1 b2])
  · have hv : ∀ a, digLo p.2 p.1 x ≤ a → a < digLo p.2 p.1 x + nsz (p.2 + 1) → gT N L a = leafV L (lfC N i) (rankN n.leaf (x + 1)) := fun a a1 a2 => (gT_of hn hp hx hok a1 a2).2 hb
    unfold digK
    rw [if_pos hok, if_pos (flat_iff.2 fun a a1 a2 => by rw [hv a a1 a2, hv _ hlo.1 hlo.2]), hv _ hlo.1 hlo.2]
  · have h5 := (digTo_skip (base := p.1) hp.ok.1 hno).1
    obtain ⟨q1, q2⟩ := hF.last (by rw [← hp.dp]; exact h5)
    refine ⟨by unfold digK; rw [if_neg (by rw [hno]; decide)], fun hb => ?_, by rw [q1]; simp⟩
    have h6 := q2 x hx hb
    unfold digOk at hno
    rw [decide_eq_true h6, Bool.or_true] at hno
    cases hno
theorem lvs_len : (lvsN N L i n).length = rankN n.leaf 64 := by
  have h2 := lfC_step hn
  have h3 := h.reg.lf_le (show i + 1 ≤ N.length from (List.getElem?_eq_some_iff.1 hn).1)
  have := hp.dp
  unfold lvsN
  rw [List.length_take, List.length_drop]; omega
theorem take_last {r : Nat} (hr : r ≤ rankN n.leaf 64) : ((lvsN N L i n).take r).getLast? = if r = 0 then none else (lvsN N L i n)[r - 1]? := by
  have hl := lvs_len h hn hp
  split
  · rename_i e; subst e; rfl
  · have hlen : ((lvsN N L i n).take r).length = r := by rw [List.length_take]; omega
    rw [List.getLast?_eq_getElem?, hlen, List.getElem?_take, if_pos (by omega)]
include hW in
theorem lv_of : ∀ x, x ≤ 64 → lvP (gT N L) p x = (lvsN N L i n).take (rankN n.leaf x) ∧ ∀ y, y < x → stB (gT N L) p y = decide (n.leaf / 2 ^ y % 2 = 1)
  | 0, _ => ⟨by rw [show rankN n.leaf 0 = 0 from rfl]; rfl, fun y hy => by omega⟩
  | x + 1, hx => by
    obtain ⟨ih, ih2⟩ := lv_of x (by omega)
    have hF := h.form i n hn
    obtain ⟨k1, k2, k3⟩ := digK_of h hW hn hp (show x < 64 by omega)
    have fin : (stB (gT N L) p x = decide (n.leaf / 2 ^ x % 2 = 1)) → ∀ y, y < x + 1 → stB (gT N L) p y = decide (n.leaf / 2 ^ y % 2 = 1) := fun hs y hy => by
      rcases Nat.lt_or_ge y x with h1 | h1
      · exact ih2 y h1
      · rw [show y = x by omega]; exact hs
    have h64 := rank_mono n.leaf hx
    by_cases hb : n.inner / 2 ^ x % 2 = 1
    · have hl := bit_dis hF.dis hb
      have hK := k1 hb
      refine ⟨by rw [lvP, hK, rank_nil hl]; exact ih, fin ?_⟩
      unfold stB; rw [hK, decide_eq_false hl]
    · cases hok : digOk p.2 x with
      | true =>
        have hK := k2 hb hok
        by_cases hl : n.leaf / 2 ^ x % 2 = 1
        · rw [rank_one hl] at hK h64 ⊢
          obtain ⟨v, v1, v2, v3⟩ := h.lf_at hn (x := rankN n.leaf x) (by omega)
          rw [v3] at hK
          have hne : ¬(lvP (gT N L) p x).getLast? = some v := by
            rw [ih, take_last h hn hp (by omega)]
            split
            · exact fun h => nomatch h
            · rename_i h0
              intro e
              refine hF.alt (rankN n.leaf x - 1) v v e ?_ rfl
              rw [show rankN n.leaf x - 1 + 1 = rankN n.leaf x by omega]; exact v2
          refine ⟨?_, fin ?_⟩
          · rw [lvP, hK]
            dsimp only
            rw [if_neg hne, ih, List.take_add_one, v2]; rfl
          · unfold stB
            rw [hK]
            dsimp only
            rw [decide_eq_false hne, decide_eq_true hl]; rfl
        · have hpos := head_pos hF (show x < 64 by omega) hb
          rw [rank_nil hl] at hK h64 hpos ⊢
          obtain ⟨v, v1, v2, v3⟩ := h.lf_at hn (x := rankN n.leaf x - 1) (by omega)
          rw [show rankN n.leaf x - 1 + 1 = rankN n.leaf x by omega] at v3
          rw [v3] at hK
          have he : (lvP (gT N L) p x).getLast? = some v := by
            rw [ih, take_last h hn hp (by omega), if_neg (by omega)]; exact v2
          refine ⟨?_, fin ?_⟩
          · rw [lvP, hK]
            dsimp only
            rw [if_pos he, ih]
          · unfold stB
            rw [hK]
            dsimp only
            rw [decide_eq_true he, decide_eq_false hl]; rfl
      | false =>
        obtain ⟨hK, hl, _⟩ := k3 hok
        refine ⟨by rw [lvP, hK, rank_nil hl]; exact ih, fin ?_⟩
        unfold stB; rw [hK, decide_eq_false hl]
include hW in
theorem in_of {x : Nat} (hx : x < 64) : inB (gT N L) p x = decide (n.inner / 2 ^ x % 2 = 1) := by
  obtain ⟨k1, k2, k3⟩ := digK_of h hW hn hp hx
  unfold inB
  by_cases hb : n.inner / 2 ^ x % 2 = 1
  · rw [k1 hb, decide_eq_true hb]
  · rw [decide_eq_false hb]
    cases hok : digOk p.2 x with
    | true => rw [k2 hb hok]
    | false => rw [(k3 hok).1]
include hW in
theorem words_of : mkW (inB (gT N L) p) 64 = n.inner ∧ mkW (stB (gT N L) p) 64 = n.leaf := by
  obtain ⟨w1, w2⟩ := hW n (List.mem_of_getElem? hn)
  constructor
  · rw [mkW_congr (fun x hx => in_of h hW hn hp hx), mkW_self, Nat.mod_eq_of_lt w1]
  · rw [mkW_congr ((lv_of h hW hn hp 64 (Nat.le_refl _)).2), mkW_self, Nat.mod_eq_of_lt w2]
end
theorem kdP_get {f : Nat → Int} {p q : Nat × Nat} : ∀ {n k : Nat}, (kdP f p n)[k]? = some q → ∃ x, x < n ∧ inB f p x = true ∧ k = cntW (inB f p) x ∧ q = (digLo p.2 p.1 x, p.2 + 1)
  | 0, k, h => by simp [kdP] at h
  | n + 1, k, h => by
    rw [kdP] at h
    split at h
    · rename_i hin
      rcases Nat.lt_or_ge k (kdP f p n).length with h1 | h1
      · rw [List.getElem?_append_left h1] at h
        obtain ⟨x, h2, h3⟩ := kdP_get h
        exact ⟨x, by omega, h3⟩
      · rw [List.getElem?_append_right h1] at h
        have h2 := (List.getElem?_eq_some_iff.1 h).1
        have h3 : k - (kdP f p n).length = 0 := by simp at h2; omega
        rw [h3] at h
        simp at h
        exact ⟨n, Nat.lt_succ_self n, hin, by rw [← kdP_len]; omega, h.symm⟩
    · obtain ⟨x, h2, h3⟩ := kdP_get h
      exact ⟨x, by omega, h3⟩
structure RInv (N : List Nd) (L : List Int) (i : Nat) : Prop where
  nds : ndsF (gT N L) i = N.take i
  lvs : lvF (gT N L) i = L.take (lfC N i)
  len : (rowF (gT N L) i).length = ndC N i
  pl : ∀ j p, (rowF (gT N L) i)[j]? = some p → PlFor N L j p
theorem rinv {N : List Nd} {L : List Int} (h : RefOk N L) (hW : NdW N) : ∀ i, i ≤ N.length → RInv N L i
  | 0, _ => ⟨rfl, by simp [lvF, lfC], rfl, fun j p hp => by
      have hj := (List.getElem?_eq_some_iff.1 hp).1
      have h0 : j = 0 := by simp [rowF] at hj; exact hj
      subst h0
      simp [rowF] at hp
      subst hp
      exact ⟨(dpN_root N).symm, ⟨by decide, by decide⟩, rfl, fun a _ _ => rfl⟩⟩
  | i + 1, hi => by
    have ih := rinv h hW i (by omega)
    obtain ⟨n, hn⟩ : ∃ n, N[i]? = some n := ⟨_, List.getElem?_eq_getElem (show i < N.length from hi)⟩
    obtain ⟨a1, a2, a3⟩ := h.at_ i n hn
    obtain ⟨p, hp⟩ : ∃ p, (rowF (gT N L) i)[i]? = some p := ⟨_, List.getElem?_eq_getElem (by rw [ih.len]; exact a3)⟩
    have hP := ih.pl i p hp
    obtain ⟨w1, w2⟩ := words_of h hW hn hP
    obtain ⟨v1, v2⟩ := lv_of h hW hn hP 64 (Nat.le_refl _)
    have hll := lvs_len h hn hP
    have hlf := h.reg.lf_le (show i ≤ N.length by omega)
    have hcnt : ∀ x, x ≤ 64 → cntW (inB (gT N L) p) x = rankN n.inner x := fun x hx => by rw [← w1, mkW_rank _ _ _ hx]
    refine ⟨?_, ?_, ?_, fun j q hq => ?_⟩
    · rw [nds_step hp, ih.nds, List.take_add_one, hn]
      congr 1
      unfold ndF
      rw [w1, w2, ih.len, ih.lvs, List.length_take, Nat.min_eq_left hlf, ← a1, ← a2]; rfl
    · have e : (lvsN N L i n).take (rankN n.leaf 64) = lvsN N L i n := List.take_of_length_le (by omega)
      rw [lv_step hp, ih.lvs, v1, e, lfC_step hn, List.take_add]; rfl
    · rw [row_step hp, List.length_append, ih.len, kdP_len, hcnt 64 (Nat.le_refl _), ndC_step hn]
    · rw [row_step hp] at hq
      rcases Nat.lt_or_ge j (rowF (gT N L) i).length with h1 | h1
      · rw [List.getElem?_append_left h1] at hq
        exact ih.pl j q hq
      · rw [List.getElem?_append_right h1] at hq
        obtain ⟨x, hx, hin, hk, rfl⟩ := kdP_get hq
        rw [hcnt x (by omega), ih.len] at hk
        rw [ih.len] at h1
        have ej : j = ndC N i + rankN n.inner x := by omega
        have hb : n.inner / 2 ^ x % 2 = 1 := by rw [in_of h hW hn hP hx] at hin; exact of_decide_eq_true hin
        obtain ⟨h5, k1, k2, k3⟩ := h.kidlt hn hx hb
        rw [← ej] at k3
        have hI := dig_in (base := p.1) hP.ok.1 hx
        have h32 := hP.ok.2
        have h5' : p.2 < 5 := by rw [hP.dp]; exact h5
        refine ⟨by rw [k3, hP.dp], ⟨by dsimp only; omega, by dsimp only; omega⟩, al_kid h5' hP.al x, fun a q1 q2 => ?_⟩
        dsimp only at q1 q2 ⊢
        rw [(gT_of hn hP hx (ok_lt h5') q1 q2).1 hb, ej, show 6 - (p.2 + 1) = 5 - p.2 by omega]
/-- A table that passes the reference's check is the form of a function. -/
theorem refOk_cf {N : List Nd} {L : List Int} (h : RefOk N L) (hW : NdW N) : ∃ g, GeM g ∧ IsCf g N L := by
  have hi := rinv h hW N.length (Nat.le_refl _)
  have hc : IsCf (gT N L) N L := ⟨N.length, by rw [hi.len, h.nd], by rw [hi.nds, List.take_length], by rw [hi.lvs, h.lf, List.take_length]⟩
  exact ⟨_, hc.ge h.reg, hc⟩
/-! ### The form of a function passes -/
section
variable {f : Nat → Int} {p : Nat × Nat}
theorem lvP_alt : ∀ x k v u, (lvP f p x)[k]? = some v → (lvP f p x)[k + 1]? = some u → v ≠ u
  | 0, k, v, u, h1, _ => by simp [lvP] at h1
  | x + 1, k, v, u, h1, h2 => by
    rw [lvP] at h1 h2
    split at h1
    · rename_i t ht
      rw [ht] at h2
      dsimp only at h2
      split at h1
      · rename_i hl
        rw [if_pos hl] at h2
        exact lvP_alt x k v u h1 h2
      · rename_i hl
        rw [if_neg hl] at h2
        have hk := (List.getElem?_eq_some_iff.1 h2).1
        rw [List.length_append, List.length_singleton] at hk
        rw [List.getElem?_append_left (by omega)] at h1
        rcases Nat.lt_or_ge (k + 1) (lvP f p x).length with h3 | h3
        · rw [List.getElem?_append_left h3] at h2
          exact lvP_alt x k v u h1 h2
        · rw [List.getElem?_append_right h3, show k + 1 - (lvP f p x).length = 0 by omega] at h2
          simp at h2
          subst h2
          intro e
          subst e
          refine hl ?_
          rw [List.getLast?_eq_getElem?, show (lvP f p x).length - 1 = k by omega]; exact h1
    · rename_i hno
      have e : lvP f p (x + 1) = lvP f p x := by
        rw [lvP]; split
        · rename_i t ht; exact absurd ht (hno t)
        · rfl
      rw [lvP] at e
      rw [e] at h2
      exact lvP_alt x k v u h1 h2
theorem kdP_flat : ∀ x, ∀ q ∈ kdP f p x, flat f q.1 (q.1 + nsz q.2) = false
  | 0, q, hq => by cases hq
  | x + 1, q, hq => by
    rw [kdP] at hq
    split at hq
    · rename_i hin
      rcases List.mem_append.1 hq with hq | hq
      · exact kdP_flat x q hq
      · rw [List.mem_singleton.1 hq]
        unfold inB at hin
        split at hin
        · rename_i hK
          unfold digK at hK
          split at hK
          · split at hK
            · cases hK
            · rename_i hf
              dsimp only
              cases hc : flat f (digLo p.2 p.1 x) (digLo p.2 p.1 x + nsz (p.2 + 1)) with
              | false => rfl
              | true => exact absurd hc hf
          · cases hK
        · cases hin
    · exact kdP_flat x q hq
theorem row_flat : ∀ i, ∀ j q, j ≠ 0 → (rowF f i)[j]? = some q → flat f q.1 (q.1 + nsz q.2) = false
  | 0, j, q, h0, hq => by
    have := (List.getElem?_eq_some_iff.1 hq).1
    simp [rowF] at this; omega
  | i + 1, j, q, h0, hq => by
    rw [rowF] at hq
    split at hq
    · rename_i p hp
      rcases Nat.lt_or_ge j (rowF f i).length with h1 | h1
      · rw [List.getElem?_append_left h1] at hq
        exact row_flat i j q h0 hq
      · rw [List.getElem?_append_right h1] at hq
        exact kdP_flat 64 q (List.mem_of_getElem? hq)
    · exact row_flat i j q h0 hq
theorem dpL_row {n : Nat} (h : CfAt f n) : ∀ i, i ≤ n → dpL (ndsF f n) i = (rowF f i).map (·.2)
  | 0, _ => rfl
  | i + 1, hi => by
    obtain ⟨p, hp⟩ := h.place (show i < n from hi)
    have ih := dpL_row h i (by omega)
    have hn := h.node hp hi
    have hk := plOk_row f i p (List.mem_of_getElem? hp)
    rw [dpL_step hn, row_step hp, List.map_append, ih]
    congr 1
    have e1 : rankN (ndF f i p).inner 64 = (kdP f p 64).length := by
      rw [kdP_len]; unfold ndF; dsimp only; exact mkW_rank _ _ _ (Nat.le_refl _)
    have e2 : ((rowF f i).map (·.2)).getD i 0 = p.2 := by rw [List.getD_eq_getElem?_getD, List.getElem?_map, hp]; rfl
    rw [e1, e2]
    symm
    refine List.eq_replicate_iff.2 ⟨List.length_map .., fun d hd => ?_⟩
    obtain ⟨q, hq, rfl⟩ := List.mem_map.1 hd
    exact (plOk_kd hk 64 (Nat.le_refl _) q hq).2
end
/-- The form of a function with no value below -1 passes the reference's check. -/
theorem cf_refOk {g : Nat → Int} {N : List Nd} {L : List Int} (hc : IsCf g N L) (hg : GeM g) : RefOk N L := by
  have hR := hc.reg hg
  obtain ⟨c, hN, hL⟩ := isCf_len hc
  generalize hnn : N.length = n at *
  refine ⟨by have := hc.ne; omega, fun i x hx => ?_, by rw [hnn, ← hnn]; exact hR.nd, hR.lf, fun i x hx => ?_⟩
  · obtain ⟨q1, q2, _⟩ := hR.at_ i x hx
    have hi : i < n := by rw [← hnn]; exact (List.getElem?_eq_some_iff.1 hx).1
    obtain ⟨p, hp⟩ := c.place hi
    have h3 := (c.nums i (Nat.le_of_lt hi)).1
    rw [← hN] at h3
    exact ⟨q1, q2, by rw [h3]; exact (List.getElem?_eq_some_iff.1 hp).1⟩
  · have hi : i < n := by rw [← hnn]; exact (List.getElem?_eq_some_iff.1 hx).1
    obtain ⟨p, hp⟩ := c.place hi
    have hk := plOk_row g i p (List.mem_of_getElem? hp)
    have hx' := c.node hp hi
    rw [← hN, hx] at hx'
    cases hx'
    obtain ⟨m1, m2⟩ := c.nums i (Nat.le_of_lt hi)
    rw [← hN] at m1 m2
    have hdp : dpN N i = p.2 := by
      have h1 := dpN_at (N := N) (i := i) (j := i) (by rw [hnn]; omega) (by rw [m1]; exact (List.getElem?_eq_some_iff.1 hp).1)
      have h2 := dpL_row c i (Nat.le_of_lt hi)
      rw [← hN] at h2
      rw [h2, List.getElem?_map, hp] at h1
      exact (Option.some.inj h1).symm
    have hlv : lvsN N L i (ndF g i p) = lvP g p 64 := by
      have hpre := lv_pre g (show i + 1 ≤ n from hi)
      rw [lv_step hp, ← hL] at hpre
      obtain ⟨t, ht⟩ := hpre
      unfold lvsN
      have e : rankN (ndF g i p).leaf 64 = (lvP g p 64).length := by
        rw [lvP_len]; unfold ndF; dsimp only; exact mkW_rank _ _ _ (Nat.le_refl _)
      rw [e, m2, ← ht, List.append_assoc, List.drop_left, List.take_left]
    have hib : ∀ x, x < 64 → ((ndF g i p).inner / 2 ^ x % 2 = 1 ↔ inB g p x = true) := fun x hx => by
      rw [CfAt.bit g i p hx]; cases inB g p x <;> simp
    have hlb : ∀ x, x < 64 → ((ndF g i p).leaf / 2 ^ x % 2 = 1 ↔ stB g p x = true) := fun x hx => by
      unfold ndF; dsimp only
      rw [mkW_bit, decide_eq_true hx, Bool.true_and]; cases stB g p x <;> simp
    have hdis : (ndF g i p).inner &&& (ndF g i p).leaf = 0 := in_and_st g p
    rw [hlv, hdp]
    refine ⟨hdis, hk.1, fun h5 => ?_, fun x hx hall hno => ?_, fun v hv => ?_, fun k v u h1 h2 => lvP_alt 64 k v u h1 h2, ?_⟩
    · refine ⟨?_, fun x hx hb => ?_⟩
      · have hz : ∀ k, mkW (inB g p) k = 0 := fun k => by
          induction k with
          | zero => rfl
          | succ k ih =>
            obtain ⟨b, d⟩ := p
            dsimp only at h5
            subst h5
            rw [mkW, inB_five, ih]; rfl
        exact hz 64
      · have hs := (hlb x hx).1 hb
        cases hok : digOk p.2 x with
        | true =>
          unfold digOk at hok
          rw [h5] at hok
          simpa using hok
        | false =>
          unfold stB digK at hs
          rw [hok] at hs
          simp at hs
    · have hin : inB g p x = false := by
        cases hc : inB g p x with
        | false => rfl
        | true => exact absurd ((hib x hx).2 hc) hno
      have h1 := (c.leaf hi hp hx hin).1
      have h0 : ∀ y, y ≤ x → rankN (ndF g i p).leaf y = 0 := fun y => by
        induction y with
        | zero => intro _; rfl
        | succ y ih =>
          intro hy
          rw [rank_nil (bit_dis hdis (hall y hy))]; exact ih (by omega)
      rw [rankN, h0 x (Nat.le_refl _)] at h1
      omega
    · refine hR.vals v ?_
      rw [← hlv] at hv
      exact List.mem_of_mem_drop (List.mem_of_mem_take hv)
    · by_cases h0 : i = 0
      · exact .inl (decide_eq_true h0)
      · refine .inr ?_
        by_cases hz : (ndF g i p).inner = 0
        · right
          refine Classical.byContradiction fun hl => ?_
          have hnf := row_flat i i p h0 hp
          have hall : ∀ a, p.1 ≤ a → a < p.1 + nsz p.2 → (lvP g p 64)[0]? = some (g a) := fun a a1 a2 => by
            obtain ⟨x, hx, hok, b1, b2⟩ := dig_of hk.1 a1 a2
            have hin : inB g p x = false := by
              cases hc : inB g p x with
              | false => rfl
              | true => have := (hib x hx).2 hc; rw [hz] at this; simp at this
            have hK := digK_val hk.1 hin hok b1 b2
            obtain ⟨c1, c2⟩ := lvP_at hK hx
            have c3 := (List.getElem?_eq_some_iff.1 c2).1
            rw [show cntW (stB g p) (x + 1) - 1 = 0 by omega] at c2
            exact c2
          have hfl : flat g p.1 (p.1 + nsz p.2) = true := flat_iff.2 fun a a1 a2 => by
            have h1 := hall a a1 a2
            have h2 := hall p.1 (Nat.le_refl _) (by omega)
            rw [h1] at h2
            exact Option.some.inj h2
          rw [hfl] at hnf; cases hnf
        · exact .inl hz
end Go.Proofs.Ytjpnaofoeeegeaa


/-
  Layer 6 (trie), in plain lists: the entries of a trie as a sorted list.
  No conditions beyond those that each statement names.
-/
namespace Go.Proofs.Ytjpnaofoeeegeaa
open Go.RowKit

/-- Prefixes by address, then by length. -/
def pLt (p q : Pf) : Prop := p.a < q.a ∨ (p.a = q.a ∧ p.n < q.n)
instance (p q : Pf) : Decidable (pLt p q) := by unfold pLt; infer_instance
theorem pLt_irrefl (p : Pf) : ¬pLt p p := by unfold pLt; omega
theorem pLt_trans {p q r : Pf} (h : pLt p q) (h2 : pLt q r) : pLt p r := by unfold pLt at *; omega
theorem pf_eq {p q : Pf} (h1 : p.a = q.a) (h2 : p.n = q.n) : p = q := by cases p; cases q; simp_all
abbrev Srt (S : List En) : Prop := S.Pairwise (fun x y => pLt x.p y.p)
/-! ### Below a prefix -/
end Go.Proofs.Ytjpnaofoeeegeaa


/-
  Layer 6 (trie): Compare, SameEntries; the order in which entries are put.
  Conditions: addresses are below 2^32.
-/
namespace Go.Proofs.Ytjpnaofoeeegeaa
open Go.RowKit

def cmpP (p q : Pf) : Int := if pLt p q then -1 else if p = q then 0 else 1
theorem eqEn_dec (x y : En) : decide ((x.p.a : Int) = (y.p.a : Int) ∧ x.p.n = y.p.n ∧ x.v = y.v) = decide (x = y) := by
  by_cases h : x = y
  · subst h; simp
  · rw [decide_eq_false h, decide_eq_false]
    rintro ⟨h1, h2, h3⟩
    refine h ?_
    have : x.p = y.p := pf_eq (by omega) h2
    cases x; cases y; simp_all
/-! ### Put in another order -/
theorem en_ind {P : List En → Prop} (h0 : P []) (h1 : ∀ L x, P L → P (L ++ [x])) (L : List En) : P L := by
  have : ∀ M : List En, P M.reverse := fun M => by
    induction M with
    | nil => exact h0
    | cons x r ih => rw [List.reverse_cons]; exact h1 _ _ ih
  simpa using this L.reverse
end Go.Proofs.Ytjpnaofoeeegeaa


/-
  Tables (layer 7): Compare, Contains, Covers of package prefix; Check and Lookup, of the program and of the reference.
  Conditions: the list is not too long for a machine.
-/
namespace Go.Proofs.Ytjpnaofoeeegeaa
open Go.RowKit

theorem compareP_v (p q : Pf) (w : World) : Calls Try.prog 39 #[p.val, q.val] w (Ret (.int .i64 (cmpP p q)) w) := by
  refine V_enter (vs := [_, _]) Try.func39 rfl Try.ntmps39 (Nat.le_of_ble_eq_true rfl) ?_
  repeat (first | refine Vx ?_ | (apply Ops_q; (case hon => exact Va); (case hd => rfl); (case hq => exact YlA)) | refine Vr ?_ | refine Vt ?_ | refine Vf ?_ | refine Vm ?_ | refine Ve ?_ | refine Vo ?_ | refine Vz ?_ | refine Vn ?_)
  (refine Ops_box (by exact Va) rfl rfl rfl ?_; intro w1 b1 n_b1; have k_b1 := n_b1.blk)
  repeat (first | refine Vx ?_ | (apply Ops_q; (case hon => exact Va); (case hd => rfl); (case hq => exact YlA)) | refine Vr ?_ | refine Vt ?_ | refine Vf ?_ | refine Vm ?_ | refine Ve ?_ | refine Vo ?_ | refine Vz ?_ | refine Vn ?_)
  (refine Ops_box (by exact Va) rfl rfl rfl ?_; intro w2 b2 n_b2; have k_b2 := n_b2.blk)
  replace k_b1 := k_b1.ext n_b2.ext
  have e2 := n_b1.ext.trans n_b2.ext
  repeat (first | refine Vx ?_ | (apply Ops_q; (case hon => exact Va); (case hd => rfl); (case hq => exact YlA)) | refine Vr ?_ | refine Vt ?_ | refine Vf ?_ | refine Vm ?_ | refine Ve ?_ | refine Vo ?_ | refine Vz ?_ | refine Vn ?_)
  refine Ops_split rfl rfl (fun h1 => ?_) (fun h1 => ?_)
  · replace h1 := of_decide_eq_true h1
    repeat (first | refine Vx ?_ | (apply Ops_q; (case hon => exact Va); (case hd => rfl); (case hq => exact YlA)) | refine Vr ?_ | refine Vt ?_ | refine Vf ?_ | refine Vm ?_ | refine Ve ?_ | refine Vo ?_ | refine Vz ?_ | refine Vn ?_)
    refine ret1 (by first | exact .inl rfl | exact .inr rfl) rfl rfl ?_
    exact Ret_mk (by rw [cmpP, if_pos (.inl (by omega))]) e2
  replace h1 := of_decide_eq_false h1
  repeat (first | refine Vx ?_ | (apply Ops_q; (case hon => exact Va); (case hd => rfl); (case hq => exact YlA)) | refine Vr ?_ | refine Vt ?_ | refine Vf ?_ | refine Vm ?_ | refine Ve ?_ | refine Vo ?_ | refine Vz ?_ | refine Vn ?_)
  refine Ops_split rfl rfl (fun h2 => ?_) (fun h2 => ?_)
  · replace h2 := of_decide_eq_true h2
    repeat (first | refine Vx ?_ | (apply Ops_q; (case hon => exact Va); (case hd => rfl); (case hq => exact YlA)) | refine Vr ?_ | refine Vt ?_ | refine Vf ?_ | refine Vm ?_ | refine Ve ?_ | refine Vo ?_ | refine Vz ?_ | refine Vn ?_)
    refine V_cond rfl (fun h3 => ?_) (fun h3 => ?_)
    · replace h3 := of_decide_eq_true h3
      repeat (first | refine Vx ?_ | (apply Ops_q; (case hon => exact Va); (case hd => rfl); (case hq => exact YlA)) | refine Vr ?_ | refine Vt ?_ | refine Vf ?_ | refine Vm ?_ | refine Ve ?_ | refine Vo ?_ | refine Vz ?_ | refine Vn ?_)
      refine ret1 (by first | exact .inl rfl | exact .inr rfl) rfl rfl ?_
      exact Ret_mk (by rw [cmpP, if_pos (.inr ⟨by omega, h3⟩)]) e2
    replace h3 := of_decide_eq_false h3
    have hnl : ¬pLt p q := by unfold pLt; omega
    repeat (first | refine Vx ?_ | (apply Ops_q; (case hon => exact Va); (case hd => rfl); (case hq => exact YlA)) | refine Vr ?_ | refine Vt ?_ | refine Vf ?_ | refine Vm ?_ | refine Ve ?_ | refine Vo ?_ | refine Vz ?_ | refine Vn ?_)
    refine V_cond rfl (fun h4 => ?_) (fun h4 => ?_)
    · have he : p = q := pf_eq (by omega) (by simp at h4; omega)
      repeat (first | refine Vx ?_ | (apply Ops_q; (case hon => exact Va); (case hd => rfl); (case hq => exact YlA)) | refine Vr ?_ | refine Vt ?_ | refine Vf ?_ | refine Vm ?_ | refine Ve ?_ | refine Vo ?_ | refine Vz ?_ | refine Vn ?_)
      refine ret1 (by first | exact .inl rfl | exact .inr rfl) rfl rfl ?_
      exact Ret_mk (by rw [cmpP, if_neg hnl, if_pos he]) e2
    · have he : p ≠ q := fun e => by subst e; simp at h4
      repeat (first | refine Vx ?_ | (apply Ops_q; (case hon => exact Va); (case hd => rfl); (case hq => exact YlA)) | refine Vr ?_ | refine Vt ?_ | refine Vf ?_ | refine Vm ?_ | refine Ve ?_ | refine Vo ?_ | refine Vz ?_ | refine Vn ?_)
      refine ret1 (by first | exact .inl rfl | exact .inr rfl) rfl rfl ?_
      exact Ret_mk (by rw [cmpP, if_neg hnl, if_neg he]) e2
  · replace h2 := of_decide_eq_false h2
    have hnl : ¬pLt p q := by unfold pLt; omega
    have he : p ≠ q := fun e => by subst e; exact h2 rfl
    repeat (first | refine Vx ?_ | (apply Ops_q; (case hon => exact Va); (case hd => rfl); (case hq => exact YlA)) | refine Vr ?_ | refine Vt ?_ | refine Vf ?_ | refine Vm ?_ | refine Ve ?_ | refine Vo ?_ | refine Vz ?_ | refine Vn ?_)
    refine V_cond rfl (fun h4 => ?_) (fun h4 => ?_)
    · exact absurd (by simp at h4; omega) h2
    · repeat (first | refine Vx ?_ | (apply Ops_q; (case hon => exact Va); (case hd => rfl); (case hq => exact YlA)) | refine Vr ?_ | refine Vt ?_ | refine Vf ?_ | refine Vm ?_ | refine Ve ?_ | refine Vo ?_ | refine Vz ?_ | refine Vn ?_)
      refine ret1 (by first | exact .inl rfl | exact .inr rfl) rfl rfl ?_
      exact Ret_mk (by rw [cmpP, if_neg hnl, if_neg he]) e2
/-! ### Check -/
def chkF : Option Pf → List En → Int
  | _, [] => 0
  | pr, x :: l => if x.p.valid = false then 1 else if x.v < -1 then 5 else if (match pr with | none => false | some q => decide (0 ≤ cmpP q x.p)) = true then 16 else chkF (some x.p) l
def chk (L : List En) : Int := if 2000 < L.length then 4 else chkF none L
def prevP (L : List En) (k : Nat) : Option Pf := if k = 0 then none else (L[k - 1]?).map (·.p)
theorem chkF_at {L : List En} {k : Nat} {x : En} (hx : L[k]? = some x) : chkF (prevP L k) (L.drop k) =
    if x.p.valid = false then 1 else if x.v < -1 then 5 else if (match prevP L k with | none => false | some q => decide (0 ≤ cmpP q x.p)) = true then 16 else chkF (prevP L (k + 1)) (L.drop (k + 1)) := by
  have hk : k < L.length := (List.getElem?_eq_some_iff.1 hx).1
  have hd : L.drop k = x :: L.drop (k + 1) := by rw [List.drop_eq_getElem_cons hk, (List.getElem?_eq_some_iff.1 hx).2]
  have hp : prevP L (k + 1) = some x.p := by rw [prevP, if_neg (by omega), Nat.add_sub_cancel, hx]; rfl
  rw [hd, hp]
  cases prevP L k <;> rfl
set_option maxHeartbeats 1000000 in
theorem check_v (ao : Option Addr) (L : List En) (c : Nat) (w : World) (hL : Ens w ao L) (ha : ∀ e ∈ L, e.p.a < 4294967296) (hn : L.length ≤ 1000000) :
    Calls Try.prog 13 #[.slice ao L.length c] w (Ret (.int .i64 (chk L)) w) := by
  refine V_enter (vs := [_]) Try.func13 rfl Try.ntmps13 (Nat.le_of_ble_eq_true rfl) ?_
  repeat (first | refine Vx ?_ | (apply Ops_q; (case hon => exact Va); (case hd => rfl); (case hq => exact YlA)) | refine Vr ?_ | refine Vt ?_ | refine Vf ?_ | refine Vm ?_ | refine Ve ?_ | refine Vo ?_ | refine Vz ?_ | refine Vn ?_)
  refine V_cond rfl (fun h1 => ?_) (fun h1 => ?_)
  · replace h1 := of_decide_eq_true h1
    repeat (first | refine Vx ?_ | (apply Ops_q; (case hon => exact Va); (case hd => rfl); (case hq => exact YlA)) | refine Vr ?_ | refine Vt ?_ | refine Vf ?_ | refine Vm ?_ | refine Ve ?_ | refine Vo ?_ | refine Vz ?_ | refine Vn ?_)
    refine ret1 (by first | exact .inl rfl | exact .inr rfl) rfl rfl ?_
    exact Ret_mk (by rw [chk, if_pos (by omega)]) (Ext.refl _)
  replace h1 := of_decide_eq_false h1
  repeat (first | refine Vx ?_ | (apply Ops_q; (case hon => exact Va); (case hd => rfl); (case hq => exact YlA)) | refine Vr ?_ | refine Vt ?_ | refine Vf ?_ | refine Vm ?_ | refine Ve ?_ | refine Vo ?_ | refine Vz ?_ | refine Vn ?_)
  refine V_loop (fun k : Nat => [(10, .int .i64 k), (9, .int .i64 L.length), (8, .slice ao L.length c), (0, .slice ao L.length c)]) (fun k w' => Ext w w' ∧ k ≤ L.length ∧ chk L = chkF (prevP L k) (L.drop k)) (fun k => L.length - k) 0 (by repeat (first | exact trivial | refine ⟨rfl, ?_⟩)) ⟨Ext.refl _, Nat.zero_le _, by rw [chk, if_neg (by omega)]; rfl⟩ ?_
  rintro k w1 ⟨e1, hk, hs⟩
  repeat (first | refine Vx ?_ | (apply Ops_q; (case hon => exact Va); (case hd => rfl); (case hq => exact YlA)) | refine Vr ?_ | refine Vt ?_ | refine Vf ?_ | refine Vm ?_ | refine Ve ?_ | refine Vo ?_ | refine Vz ?_ | refine Vn ?_)
  refine V_cond rfl (fun hg => ?_) (fun hg => ?_)
  · replace hg := of_decide_eq_true hg
    have hkl : k < L.length := by omega
    obtain ⟨x, hx⟩ : ∃ x, L[k]? = some x := ⟨_, List.getElem?_eq_getElem hkl⟩
    rw [chkF_at hx] at hs
    obtain ⟨ad, rfl, hc⟩ := hL.at hx
    have hxa := ha x (List.mem_of_getElem? hx)
    have hc1 : Cells w1 (ad.add (k * 3)) [.int .u32 x.p.a, .int .i64 x.p.n, .int .i64 x.v] := hc.ext e1
    repeat (first | refine Vx ?_ | (apply Ops_q; (case hon => exact Va); (case hd => rfl); (case hq => exact YlA)) | refine Vr ?_ | refine Vt ?_ | refine Vf ?_ | refine Vm ?_ | refine Ve ?_ | refine Vo ?_ | refine Vz ?_ | refine Vn ?_)
    (apply Ops_q; (case hon => (exact Va)); (case hd => rfl); (case hq => exact Yl_indexS (j := k) rfl rfl (by omega)))
    repeat (first | refine Vx ?_ | (apply Ops_q; (case hon => exact Va); (case hd => rfl); (case hq => exact YlA)) | refine Vr ?_ | refine Vt ?_ | refine Vf ?_ | refine Vm ?_ | refine Ve ?_ | refine Vo ?_ | refine Vz ?_ | refine Vn ?_)
    (refine Ops_alloc (by exact Va) rfl ?_; intro w2 b2 n_b2; have k_b2 := n_b2.blk)
    repeat (first | refine Vx ?_ | (apply Ops_q; (case hon => exact Va); (case hd => rfl); (case hq => exact YlA)) | refine Vr ?_ | refine Vt ?_ | refine Vf ?_ | refine Vm ?_ | refine Ve ?_ | refine Vo ?_ | refine Vz ?_ | refine Vn ?_)
    (refine Ops_store (by exact Va) rfl rfl (by assumption) (by first | rfl | exact OneAll.h) ?_; intro w3 u_w3; have k_b2 := u_w3.blk)
    have e3 := u_w3.below (e1.trans n_b2.ext) (Nat.le_trans e1.size n_b2.ge)
    have hpart : Cells w3 ⟨b2, 0, none⟩ [.int .u32 x.p.a, .int .i64 x.p.n] := k_b2.part 0 2
    repeat (first | refine Vx ?_ | (apply Ops_q; (case hon => exact Va); (case hd => rfl); (case hq => exact YlA)) | refine Vr ?_ | refine Vt ?_ | refine Vf ?_ | refine Vm ?_ | refine Ve ?_ | refine Vo ?_ | refine Vz ?_ | refine Vn ?_)
    (apply Ops_q; (case hon => (exact Va)); (case hd => rfl); (case hq => exact Yl_call rfl (fun w_ e_ => valid_v x.p w_ hxa)))
    repeat (first | refine Vx ?_ | (apply Ops_q; (case hon => exact Va); (case hd => rfl); (case hq => exact YlA)) | refine Vr ?_ | refine Vt ?_ | refine Vf ?_ | refine Vm ?_ | refine Ve ?_ | refine Vo ?_ | refine Vz ?_ | refine Vn ?_)
    cases hv : x.p.valid with
    | false =>
      repeat (first | refine Vx ?_ | (apply Ops_q; (case hon => exact Va); (case hd => rfl); (case hq => exact YlA)) | refine Vr ?_ | refine Vt ?_ | refine Vf ?_ | refine Vm ?_ | refine Ve ?_ | refine Vo ?_ | refine Vz ?_ | refine Vn ?_)
      refine ret1 (by first | exact .inl rfl | exact .inr rfl) rfl rfl ?_
      exact Ret_mk (by rw [hs, if_pos hv]) e3
    | true =>
      rw [if_neg (by rw [hv]; decide)] at hs
      repeat (first | refine Vx ?_ | (apply Ops_q; (case hon => exact Va); (case hd => rfl); (case hq => exact YlA)) | refine Vr ?_ | refine Vt ?_ | refine Vf ?_ | refine Vm ?_ | refine Ve ?_ | refine Vo ?_ | refine Vz ?_ | refine Vn ?_)
      refine V_cond rfl (fun h2 => ?_) (fun h2 => ?_)
      · replace h2 := of_decide_eq_true h2
        repeat (first | refine Vx ?_ | (apply Ops_q; (case hon => exact Va); (case hd => rfl); (case hq => exact YlA)) | refine Vr ?_ | refine Vt ?_ | refine Vf ?_ | refine Vm ?_ | refine Ve ?_ | refine Vo ?_ | refine Vz ?_ | refine Vn ?_)
        refine ret1 (by first | exact .inl rfl | exact .inr rfl) rfl rfl ?_
        exact Ret_mk (by rw [hs, if_pos h2]) e3
      replace h2 := of_decide_eq_false h2
      rw [if_neg h2] at hs
      by_cases hk0 : k = 0
      · have hd : decide ((0 : Int) < (k : Int)) = false := decide_eq_false (by omega)
        repeat (first | refine Vx ?_ | (apply Ops_q; (case hon => exact Va); (case hd => rfl); (case hq => exact YlA)) | refine Vr ?_ | refine Vt ?_ | refine Vf ?_ | refine Vm ?_ | refine Ve ?_ | refine Vo ?_ | refine Vz ?_ | refine Vn ?_)
        refine Ops_know rfl rfl hd ?_
        repeat (first | refine Vx ?_ | (apply Ops_q; (case hon => exact Va); (case hd => rfl); (case hq => exact YlA)) | refine Vr ?_ | refine Vt ?_ | refine Vf ?_ | refine Vm ?_ | refine Ve ?_ | refine Vo ?_ | refine Vz ?_ | refine Vn ?_)
        refine ⟨k + 1, (by repeat (first | exact trivial | refine ⟨rfl, ?_⟩)), ⟨e3, hkl, ?_⟩, by omega⟩
        rw [hs, prevP, if_pos hk0]; rfl
      · have hd : decide ((0 : Int) < (k : Int)) = true := decide_eq_true (by omega)
        have hs1 : (k : Int) - 1 = ((k - 1 : Nat) : Int) := by omega
        obtain ⟨y, hy⟩ : ∃ y, L[k - 1]? = some y := ⟨_, List.getElem?_eq_getElem (by omega)⟩
        obtain ⟨ad', e', hd'⟩ := hL.at hy
        cases e'
        have hdp : Cells w3 (ad.add ((k - 1) * 3)) [.int .u32 y.p.a, .int .i64 y.p.n] := fun j u hj => hd'.ext e3 j u (by
          match j, hj with
          | 0, hj => exact hj
          | 1, hj => exact hj)
        have hpr : prevP L k = some y.p := by rw [prevP, if_neg hk0, hy]; rfl
        rw [hpr] at hs
        dsimp only at hs
        have hkp : k - 1 < L.length := by omega
        repeat (first | refine Vx ?_ | (apply Ops_q; (case hon => exact Va); (case hd => rfl); (case hq => exact YlA)) | refine Vr ?_ | refine Vt ?_ | refine Vf ?_ | refine Vm ?_ | refine Ve ?_ | refine Vo ?_ | refine Vz ?_ | refine Vn ?_)
        refine Ops_know rfl rfl hd ?_
        repeat (first | refine Vx ?_ | (apply Ops_q; (case hon => exact Va); (case hd => rfl); (case hq => exact YlA)) | refine Vr ?_ | refine Vt ?_ | refine Vf ?_ | refine Vm ?_ | refine Ve ?_ | refine Vo ?_ | refine Vz ?_ | refine Vn ?_)
        rw [hs1]
        (apply Ops_q; (case hon => (exact Va)); (case hd => rfl); (case hq => exact Yl_indexS (j := (k - 1)) rfl rfl (by omega)))
        repeat (first | refine Vx ?_ | (apply Ops_q; (case hon => exact Va); (case hd => rfl); (case hq => exact YlA)) | refine Vr ?_ | refine Vt ?_ | refine Vf ?_ | refine Vm ?_ | refine Ve ?_ | refine Vo ?_ | refine Vz ?_ | refine Vn ?_)
        (apply Ops_q; (case hon => (exact Va)); (case hd => rfl); (case hq => exact Yl_call rfl (fun w_ e_ => compareP_v y.p x.p w_)))
        repeat (first | refine Vx ?_ | (apply Ops_q; (case hon => exact Va); (case hd => rfl); (case hq => exact YlA)) | refine Vr ?_ | refine Vt ?_ | refine Vf ?_ | refine Vm ?_ | refine Ve ?_ | refine Vo ?_ | refine Vz ?_ | refine Vn ?_)
        refine V_cond rfl (fun h3 => ?_) (fun h3 => ?_)
        · repeat (first | refine Vx ?_ | (apply Ops_q; (case hon => exact Va); (case hd => rfl); (case hq => exact YlA)) | refine Vr ?_ | refine Vt ?_ | refine Vf ?_ | refine Vm ?_ | refine Ve ?_ | refine Vo ?_ | refine Vz ?_ | refine Vn ?_)
          refine ret1 (by first | exact .inl rfl | exact .inr rfl) rfl rfl ?_
          exact Ret_mk (by rw [hs, if_pos h3]) e3
        · repeat (first | refine Vx ?_ | (apply Ops_q; (case hon => exact Va); (case hd => rfl); (case hq => exact YlA)) | refine Vr ?_ | refine Vt ?_ | refine Vf ?_ | refine Vm ?_ | refine Ve ?_ | refine Vo ?_ | refine Vz ?_ | refine Vn ?_)
          refine ⟨k + 1, (by repeat (first | exact trivial | refine ⟨rfl, ?_⟩)), ⟨e3, hkl, ?_⟩, by omega⟩
          rw [hs, if_neg (by rw [h3]; decide)]
  replace hg := of_decide_eq_false hg
  obtain rfl : k = L.length := by omega
  repeat (first | refine Vx ?_ | (apply Ops_q; (case hon => exact Va); (case hd => rfl); (case hq => exact YlA)) | refine Vr ?_ | refine Vt ?_ | refine Vf ?_ | refine Vm ?_ | refine Ve ?_ | refine Vo ?_ | refine Vz ?_ | refine Vn ?_)
  refine ret1 (by first | exact .inl rfl | exact .inr rfl) rfl rfl ?_
  rw [List.drop_length] at hs
  refine Ret_mk ?_ e1
  rw [hs]; cases prevP L L.length <;> rfl
/-! ### Lookup -/
def lkS (a : Nat) (s : Int × Int) (x : En) : Int × Int := if decide (s.2 < x.p.n) && x.p.has a then (x.v, x.p.n) else s
def lk (L : List En) (a : Nat) : Int := (L.foldl (lkS a) (-1, -1)).1
end Go.Proofs.Ytjpnaofoeeegeaa


/-
  Stable sorting in plain lists: swaps, rotations, merges.
  No conditions beyond those that each statement names.
-/
namespace Go.Proofs.Ytjpnaofoeeegeaa

/-- Two elements change places. -/
def swp {α : Type} (L : List α) (i j : Nat) : List α := match L[i]?, L[j]? with
  | some x, some y => (L.set i y).set j x
  | _, _ => L
section
variable {α : Type} {L L' L'' : List α} {a b c m i j k n : Nat}
theorem swp_get (hi : i < L.length) (hj : j < L.length) (k : Nat) : (swp L i j)[k]? = if k = j then L[i]? else if k = i then L[j]? else L[k]? := by
  unfold swp
  rw [List.getElem?_eq_getElem hi, List.getElem?_eq_getElem hj]
  simp only [List.getElem?_set, List.length_set]
  by_cases h1 : k = j
  · subst h1; simp [hj]
  · rw [if_neg (Ne.symm h1), if_neg h1]
    by_cases h2 : k = i
    · subst h2; simp [hi]
    · rw [if_neg (Ne.symm h2), if_neg h2]
theorem swp_perm (hi : i < L.length) (hj : j < L.length) : (swp L i j).Perm L := by
  unfold swp
  rw [List.getElem?_eq_getElem hi, List.getElem?_eq_getElem hj]
  exact List.set_set_perm hi hj
/-- What a list holds after other elements of the same range took its places; outside of it nothing has changed. -/
structure Moved (L L' : List α) (a b : Nat) : Prop where
  perm : L'.Perm L
  out : ∀ k, k < a ∨ b ≤ k → L'[k]? = L[k]?
  ins : ∀ k, a ≤ k → k < b → ∃ k', a ≤ k' ∧ k' < b ∧ L'[k]? = L[k']?
theorem Moved.refl (L : List α) (a b : Nat) : Moved L L a b := ⟨.refl _, fun _ _ => rfl, fun k h1 h2 => ⟨k, h1, h2, rfl⟩⟩
theorem Moved.trans (h : Moved L L' a b) (h2 : Moved L' L'' a b) : Moved L L'' a b := by
  refine ⟨h2.perm.trans h.perm, fun k hk => (h2.out k hk).trans (h.out k hk), fun k h3 h4 => ?_⟩
  obtain ⟨k1, p1, p2, p3⟩ := h2.ins k h3 h4
  obtain ⟨k2, q1, q2, q3⟩ := h.ins k1 p1 p2
  exact ⟨k2, q1, q2, p3.trans q3⟩
theorem Moved.wide {a' b' : Nat} (h : Moved L L' a b) (ha : a' ≤ a) (hb : b ≤ b') : Moved L L' a' b' := by
  refine ⟨h.perm, fun k hk => h.out k (by omega), fun k h3 h4 => ?_⟩
  by_cases hk : a ≤ k ∧ k < b
  · obtain ⟨k1, p1, p2, p3⟩ := h.ins k hk.1 hk.2
    exact ⟨k1, by omega, by omega, p3⟩
  · exact ⟨k, h3, h4, h.out k (by omega)⟩
theorem Moved.swp (hi : a ≤ i ∧ i < b) (hj : a ≤ j ∧ j < b) (hb : b ≤ L.length) : Moved L (swp L i j) a b := by
  have g := swp_get (L := L) (i := i) (j := j) (by omega) (by omega)
  refine ⟨swp_perm (by omega) (by omega), fun k hk => ?_, fun k h1 h2 => ?_⟩
  · rw [g, if_neg (by omega), if_neg (by omega)]
  · rw [g]
    split
    · exact ⟨i, hi.1, hi.2, rfl⟩
    · split
      · exact ⟨j, hj.1, hj.2, rfl⟩
      · exact ⟨k, h1, h2, rfl⟩
/-- An order by a function that compares, as Go's packages take it. -/
structure Ord (cf : α → α → Int) : Prop where
  tot : ∀ x y, cf x y < 0 → ¬cf y x < 0
  tr : ∀ x y z, ¬cf y x < 0 → ¬cf z y < 0 → ¬cf z x < 0
variable {cf : α → α → Int}
/-- Ascending from a on, below b. -/
def Asc (cf : α → α → Int) (L : List α) (a b : Nat) : Prop := ∀ i j x y, a ≤ i → i < j → j < b → L[i]? = some x → L[j]? = some y → ¬cf y x < 0
theorem Asc.part {a' b' : Nat} (h : Asc cf L a b) (ha : a ≤ a') (hb : b' ≤ b) : Asc cf L a' b' := fun i j x y h1 h2 h3 => h i j x y (by omega) h2 (by omega)
theorem Asc.one (h : b ≤ a + 1) : Asc cf L a b := fun i j x y h1 h2 h3 => by omega
theorem Asc.same (h : Asc cf L a b) (hs : ∀ k, a ≤ k → k < b → L'[k]? = L[k]?) : Asc cf L' a b := fun i j x y h1 h2 h3 hx hy => by
  rw [hs i h1 (by omega)] at hx
  rw [hs j (by omega) h3] at hy
  exact h i j x y h1 h2 h3 hx hy
/-- Everything in the first range is at most everything in the second. -/
def Below2 (cf : α → α → Int) (L : List α) (a b c d : Nat) : Prop := ∀ i j x y, a ≤ i → i < b → c ≤ j → j < d → L[i]? = some x → L[j]? = some y → ¬cf y x < 0
theorem Asc.join (h1 : Asc cf L a m) (h2 : Asc cf L m b) (h3 : Below2 cf L a m m b) : Asc cf L a b := fun i j x y p1 p2 p3 hx hy => by
  rcases Nat.lt_or_ge j m with h | h
  · exact h1 i j x y p1 p2 h hx hy
  · rcases Nat.lt_or_ge i m with h' | h'
    · exact h3 i j x y p1 h' h p3 hx hy
    · exact h2 i j x y h' p2 p3 hx hy
theorem Below2.moved {d : Nat} (h : Below2 cf L a b c d) (h1 : Moved L L' a b) (hc : b ≤ c) : Below2 cf L' a b c d := fun i j x y p1 p2 p3 p4 hx hy => by
  obtain ⟨k, q1, q2, q3⟩ := h1.ins i p1 p2
  rw [q3] at hx
  rw [h1.out j (by omega)] at hy
  exact h k j x y q1 q2 p3 p4 hx hy
theorem Below2.moved' {d : Nat} (h : Below2 cf L a b c d) (h1 : Moved L L' c d) (hc : b ≤ c) : Below2 cf L' a b c d := fun i j x y p1 p2 p3 p4 hx hy => by
  obtain ⟨k, q1, q2, q3⟩ := h1.ins j p3 p4
  rw [q3] at hy
  rw [h1.out i (by omega)] at hx
  exact h i k x y p1 p2 q1 q2 hx hy
/-! ### Insertion -/
/-- Ascending but for the element at j, which may be less than those before it. -/
def AscX (cf : α → α → Int) (L : List α) (a b j : Nat) : Prop := ∀ p q x y, a ≤ p → p < q → q < b → q ≠ j → L[p]? = some x → L[q]? = some y → ¬cf y x < 0
theorem AscX.start (h : Asc cf L a i) : AscX cf L a (i + 1) i := fun p q x y h1 h2 h3 h4 => h p q x y h1 h2 (by omega)
theorem AscX.step (ho : Ord cf) (h : AscX cf L a b (j + 1)) (ha : a ≤ j) (hb : j + 1 < b) (hl : b ≤ L.length) {x y : α} (hx : L[j + 1]? = some x) (hy : L[j]? = some y) (hlt : cf x y < 0) : AscX cf (swp L (j + 1) j) a b j := by
  have g := swp_get (L := L) (i := j + 1) (j := j) (by omega) (by omega)
  intro p q u v h1 h2 h3 h4 hu hv
  rw [g] at hu hv
  rw [if_neg h4] at hv
  by_cases e1 : p = j
  · rw [if_pos e1, hx] at hu
    cases hu
    by_cases e2 : q = j + 1
    · rw [if_pos e2, hy] at hv
      cases hv
      exact ho.tot _ _ hlt
    · rw [if_neg e2] at hv
      exact h (j + 1) q x v (by omega) (by omega) h3 e2 hx hv
  · rw [if_neg e1] at hu
    by_cases e3 : p = j + 1
    · rw [if_pos e3, hy] at hu
      cases hu
      rw [if_neg (by omega)] at hv
      exact h j q y v ha (by omega) h3 (by omega) hy hv
    · rw [if_neg e3] at hu
      by_cases e2 : q = j + 1
      · rw [if_pos e2, hy] at hv
        cases hv
        exact h p j u y h1 (by omega) (by omega) (by omega) hu hy
      · rw [if_neg e2] at hv
        exact h p q u v h1 h2 h3 e2 hu hv
theorem AscX.stop (ho : Ord cf) (h : AscX cf L a b j) (hj : j ≤ a ∨ ∃ x y, L[j]? = some x ∧ L[j - 1]? = some y ∧ ¬cf x y < 0) : Asc cf L a b := by
  intro p q x y h1 h2 h3 hx hy
  by_cases e : q = j
  · subst e
    rcases hj with hj | ⟨u, v, hu, hv, huv⟩
    · omega
    · rw [hy] at hu; cases hu
      by_cases e2 : p = q - 1
      · subst e2
        rw [hx] at hv; cases hv
        exact huv
      · exact ho.tr _ _ _ (h p (q - 1) x v h1 (by omega) (by omega) (by omega) hx hv) huv
  · exact h p q x y h1 h2 h3 e hx hy
/-! ### Rotations -/
/-! ### Merging -/
/-! ### Blocks -/
end
end Go.Proofs.Ytjpnaofoeeegeaa


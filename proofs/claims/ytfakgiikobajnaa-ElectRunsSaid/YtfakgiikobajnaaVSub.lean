/-
  More rules of the walk: parts of a slice; append of a slice that may be nil.
  No conditions beyond those that each rule states.
-/
import Derived.Test.YtfakgiikobajnaaVMod
import Derived.Laws.OwnMore
import Derived.Laws.Slices
namespace Go.Proofs.Ytfakgiikobajnaa
open Go.RowKit

section
variable {w w' : World} {base n0 : Nat} {e : TypeId} {v : Value} {L : List (List Value)} {ao : Option Addr}
/-- What a slice of one's own is, and what it holds. -/
theorem Own.slice2 (h : Own w base e n0 v L) : ∃ ao c, v = .slice ao L.length c ∧ Arr w n0 ao L ∧ L.length ≤ c ∧ (ao = none → c = 0) := by
  obtain ⟨ao, c, rfl, hA⟩ := h.slice
  refine ⟨ao, c, rfl, hA, ?_⟩
  obtain ⟨_, ⟨h1, h2⟩ | ⟨g, cap, cur, h1, h2, h3, h4, h5, _⟩⟩ := h.row
  · obtain ⟨_, h3, h4⟩ : ao = none ∧ L.length = 0 ∧ c = 0 := by simpa using h1
    exact ⟨by omega, fun _ => h4⟩
  · cases h1; exact ⟨h4, fun h => nomatch h⟩
theorem Arr.take (h : Arr w n0 ao L) (i : Nat) : Arr w n0 ao (L.take i) := fun k x hk => by
  rw [List.getElem?_take] at hk
  split at hk
  · exact h k x hk
  · cases hk
theorem Arr.drop {ad : Addr} (h : Arr w n0 (some ad) L) (i : Nat) : Arr w n0 (some (ad.add (i * n0))) (L.drop i) := fun k x hk => by
  rw [List.getElem?_drop] at hk
  obtain ⟨ad', h1, h2⟩ := h _ x hk
  cases h1
  refine ⟨_, rfl, ?_⟩
  rw [add_add, ← Nat.add_mul]; exact h2
end

section
variable {P : Program} {N : Nat} {ops : Array Oper} {K : Env → World → Prop} {m : Env} {w : World} {rest : List Oper} {ty : TypeId} {pos : String} {after : Array Edge} {g : Option (Nat × Bool)} {dr : Bool}
/-- s[:i] -/
theorem Ops_sliceH {dst : Nat} {t e : TypeId} {x y : Operand} {k : IntKind} {i c n0 b0 n : Nat} {ao : Option Addr} {L : List (List Value)} [ht : TSlice P t e] [hs : TSize P e n0 b0]
    (hon : On N ops m ⟨some dst, .slice t x none (some y) none, ty, pos, after, g⟩) (hd : Nat.ble (dst + 1) N = true) (hx : ev m x = some (.slice ao n c)) (hy : ev m y = some (.int k (i : Int)))
    (hn : n = L.length) (hA : Arr w n0 ao L) (hi : i ≤ L.length) (hc : L.length ≤ c) (h : Arr w n0 ao (L.take i) → (L.take i).length = i → Ops P N ops false K rest ((dst, .slice ao i c) :: m) w) :
    Ops P N ops false K (⟨some dst, .slice t x none (some y) none, ty, pos, after, g⟩ :: rest) m w := by
  subst hn
  refine Ops_q hon hd (v := .slice ao i c) (Yl_of_run fun ac w' ha _ => ?_) (h (hA.take i) (by rw [List.length_take]; omega))
  obtain ⟨inf, h1, h2⟩ := Option.map_eq_some_iff.1 hs.h
  have he : P.elem t = e := by simp [Program.elem, ht.h]
  have hu : P.underlying t = some (.slice (P.elem t)) := by rw [he]; exact ht.h
  have h0 : ao.map (fun a => a.add 0) = ao := by cases ao <;> simp [Addr.add]
  have := run_slice_h (P := P) w' t ao L.length c hu k i (by omega) (by omega)
  simp only [execOp, Option.map_none, Option.map_some, ha.ev hx, ha.ev hy]
  simp only [Sem.run_bind, run_sliceAt_slice w' t _ _ _ _ hu, this, sizeOf, typeInfo, he]
  simp [sliced, h1, h0, Result.andThen]
/-- s[i:] -/
theorem Ops_sliceL {dst : Nat} {t e : TypeId} {x y : Operand} {k : IntKind} {i c n0 b0 n : Nat} {ao : Option Addr} {L : List (List Value)} [ht : TSlice P t e] [hs : TSize P e n0 b0]
    (hon : On N ops m ⟨some dst, .slice t x (some y) none none, ty, pos, after, g⟩) (hd : Nat.ble (dst + 1) N = true) (hx : ev m x = some (.slice ao n c)) (hy : ev m y = some (.int k (i : Int)))
    (hn : n = L.length) (hA : Arr w n0 ao L) (hi : i ≤ L.length) (hc : L.length ≤ c) (hz : ao = none → c = 0)
    (h : ∀ ao' c', Arr w n0 ao' (L.drop i) → (ao' = none → c' = 0) → (∀ a, ao' = some a → ∃ a0, ao = some a0 ∧ a.block = a0.block) → Ops P N ops false K rest ((dst, .slice ao' (L.drop i).length c') :: m) w) :
    Ops P N ops false K (⟨some dst, .slice t x (some y) none none, ty, pos, after, g⟩ :: rest) m w := by
  subst hn
  obtain ⟨inf, h1, h2⟩ := Option.map_eq_some_iff.1 hs.h
  simp only [Prod.mk.injEq] at h2
  refine Ops_q hon hd (v := .slice (if c = i then ao else ao.map (·.add (i * n0))) (L.drop i).length (c - i)) (Yl_of_run fun ac w' ha _ => ?_) (h _ _ ?_ ?_ ?_)
  · have he : P.elem t = e := by simp [Program.elem, ht.h]
    have hu : P.underlying t = some (.slice (P.elem t)) := by rw [he]; exact ht.h
    have := run_slice_l (P := P) w' t ao L.length c hu k i (by omega) (by omega)
    simp only [execOp, Option.map_none, Option.map_some, ha.ev hx, ha.ev hy]
    simp only [Sem.run_bind, run_sliceAt_slice w' t _ _ _ _ hu, this, sizeOf, typeInfo, he]
    simp [sliced, h1, h2.1, Result.andThen, List.length_drop]
  · split
    · rename_i hci
      have : L.drop i = [] := List.drop_of_length_le (by omega)
      rw [this]; exact Arr.nil
    · cases ao with
      | none =>
        have := hz rfl
        have : L.drop i = [] := List.drop_of_length_le (by omega)
        rw [this]; exact Arr.nil
      | some ad => exact hA.drop i
  · split
    · intro h3; have := hz h3; omega
    · intro h3
      have : ao = none := by cases ao <;> simp at h3 ⊢
      have := hz this; omega
  · intro a h3
    split at h3
    · exact ⟨a, h3, rfl⟩
    · obtain ⟨a0, h4, rfl⟩ := Option.map_eq_some_iff.1 h3
      refine ⟨a0, h4, ?_⟩
      unfold Addr.add; split <;> rfl
/-- append of a slice that may be nil. -/
theorem Ops_appendA {dst : Nat} {t e : TypeId} {x y : Operand} {base c n : Nat} {v : Value} {L M : List (List Value)} {zs : List Value} {z : Value} {n0 b0 : Nat} {ao : Option Addr} [ht : TSlice P t e] [hs : TSize P e n0 b0] [hz : TZero P e z zs]
    (hon : On N ops m ⟨some dst, .call { callee := .builtin .append, args := #[x, y], argTypes := #[t, t] }, ty, pos, after, g⟩) (hd : Nat.ble (dst + 1) N = true)
    (hx : ev m x = some v) (hy : ev m y = some (.slice ao n c)) (hzs : (Nat.beq zs.length n0 && Nat.ble 1 n0) = true) (hn : n = M.length)
    (hown : Own w base e n0 v L) (hA : Arr w n0 ao M) (hao : ao = none → c = 0) (hM : ∀ u ∈ M, u.length = n0) (h1 : ∀ u ∈ M, u.all (fun u => u.oneCell') = true) (hb : (L.length + M.length) * b0 ≤ 140737488355328) (hb0 : Nat.ble 1 b0 = true) (hbase : base ≤ w.heap.size)
    (h : ∀ v' w1, Own w1 base e n0 v' (L ++ M) → w.grownBy w1 v.ownBlock → (v'.ownBlock = v.ownBlock ∨ ∃ b, v'.ownBlock = some b ∧ w.heap.size ≤ b) → Ops P N ops false K rest ((dst, v') :: m) w1) :
    Ops P N ops false K (⟨some dst, .call { callee := .builtin .append, args := #[x, y], argTypes := #[t, t] }, ty, pos, after, g⟩ :: rest) m w := by
  subst hn
  cases ao with
  | some ad => exact Ops_appendL hon hd hx hy hzs hown (flat_of (fun k x hk => by
      obtain ⟨ad', h3, h4⟩ := hA k x hk
      cases h3; exact h4) hM) rfl hM h1 hb (Nat.le_of_ble_eq_true hb0) hbase h
  | none =>
    have hM0 : M = [] := by
      cases M with
      | nil => rfl
      | cons a r => obtain ⟨_, h3, _⟩ := hA 0 a rfl; cases h3
    subst hM0
    obtain rfl := hao rfl
    rw [List.append_nil] at h
    refine ⟨fun a w' ha hw => ?_⟩
    unfold wpList
    rw [if_pos (hon.out a ha)]
    refine .inl ?_
    obtain ⟨inf, hi, hsz⟩ := Option.map_eq_some_iff.1 hs.h
    have hr := run_append_owned_none (P := P) w' base t ty e inf n0 ht.h hi v L.length L.flatten (own_ext hown.row hw)
    have hr2 : (execOp a.eval ⟨some dst, .call { callee := .builtin .append, args := #[x, y], argTypes := #[t, t] }, ty, pos, after, g⟩).run P w' = .ok (.value v) w' := by
      simp only [execOp, resolve, invoke, builtin, Sem.run_bind, Sem.run_pure, Result.andThen_ok, List.map_toArray, List.map_cons, List.map_nil, ha.ev hx, ha.ev hy]
      simp only [List.length_nil] at hr ⊢
      rw [hr]; rfl
    unfold Oper.wp
    rw [hr2]
    have hg : w.grownBy w v.ownBlock := ⟨rfl, rfl, rfl, Nat.le_refl _, fun _ _ _ => rfl⟩
    exact (h v w hown hg (.inl rfl)).out _ _ (ha.put (Nat.le_of_ble_eq_true hd) _) hw
end
end Go.Proofs.Ytfakgiikobajnaa

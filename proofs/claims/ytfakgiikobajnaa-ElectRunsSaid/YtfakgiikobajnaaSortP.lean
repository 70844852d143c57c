/-
  Stable sorting in plain lists: swaps, rotations, merges.
  No conditions beyond those that each statement names.
-/
import Derived.Test.YtfakgiikobajnaaVMod
namespace Go.Proofs.Ytfakgiikobajnaa

/-- Two elements change places. -/
def swp {α : Type} (L : List α) (i j : Nat) : List α := match L[i]?, L[j]? with
  | some x, some y => (L.set i y).set j x
  | _, _ => L
section
variable {α : Type} {L L' L'' : List α} {a b c m i j k n : Nat}
theorem swp_len : (swp L i j).length = L.length := by
  unfold swp
  split <;> simp
theorem swp_get (hi : i < L.length) (hj : j < L.length) (k : Nat) : (swp L i j)[k]? = if k = j then L[i]? else if k = i then L[j]? else L[k]? := by
  unfold swp
  rw [List.getElem?_eq_getElem hi, List.getElem?_eq_getElem hj]
  simp only [List.getElem?_set, List.length_set]
  by_cases h1 : k = j
  · subst h1; simp [hj]
  · rw [if_neg (Ne.symm h1), if_neg h1]
    by_cases h2 : k = i
    · subst h2; simp [hi]
    · rw [if_neg (Ne.symm h2), if_neg h2]
theorem swp_perm (hi : i < L.length) (hj : j < L.length) : (swp L i j).Perm L := by
  unfold swp
  rw [List.getElem?_eq_getElem hi, List.getElem?_eq_getElem hj]
  exact List.set_set_perm hi hj
theorem list_ext {A B : List α} (h : ∀ k : Nat, A[k]? = B[k]?) : A = B := List.ext_getElem? h
/-- What a list holds after other elements of the same range took its places; outside of it nothing has changed. -/
structure Moved (L L' : List α) (a b : Nat) : Prop where
  perm : L'.Perm L
  out : ∀ k, k < a ∨ b ≤ k → L'[k]? = L[k]?
  ins : ∀ k, a ≤ k → k < b → ∃ k', a ≤ k' ∧ k' < b ∧ L'[k]? = L[k']?
theorem Moved.refl (L : List α) (a b : Nat) : Moved L L a b := ⟨.refl _, fun _ _ => rfl, fun k h1 h2 => ⟨k, h1, h2, rfl⟩⟩
theorem Moved.len (h : Moved L L' a b) : L'.length = L.length := h.perm.length_eq
theorem Moved.trans (h : Moved L L' a b) (h2 : Moved L' L'' a b) : Moved L L'' a b := by
  refine ⟨h2.perm.trans h.perm, fun k hk => (h2.out k hk).trans (h.out k hk), fun k h3 h4 => ?_⟩
  obtain ⟨k1, p1, p2, p3⟩ := h2.ins k h3 h4
  obtain ⟨k2, q1, q2, q3⟩ := h.ins k1 p1 p2
  exact ⟨k2, q1, q2, p3.trans q3⟩
theorem Moved.wide {a' b' : Nat} (h : Moved L L' a b) (ha : a' ≤ a) (hb : b ≤ b') : Moved L L' a' b' := by
  refine ⟨h.perm, fun k hk => h.out k (by omega), fun k h3 h4 => ?_⟩
  by_cases hk : a ≤ k ∧ k < b
  · obtain ⟨k1, p1, p2, p3⟩ := h.ins k hk.1 hk.2
    exact ⟨k1, by omega, by omega, p3⟩
  · exact ⟨k, h3, h4, h.out k (by omega)⟩
theorem Moved.swp (hi : a ≤ i ∧ i < b) (hj : a ≤ j ∧ j < b) (hb : b ≤ L.length) : Moved L (swp L i j) a b := by
  have g := swp_get (L := L) (i := i) (j := j) (by omega) (by omega)
  refine ⟨swp_perm (by omega) (by omega), fun k hk => ?_, fun k h1 h2 => ?_⟩
  · rw [g, if_neg (by omega), if_neg (by omega)]
  · rw [g]
    split
    · exact ⟨i, hi.1, hi.2, rfl⟩
    · split
      · exact ⟨j, hj.1, hj.2, rfl⟩
      · exact ⟨k, h1, h2, rfl⟩
/-- An order by a function that compares, as Go's packages take it. -/
structure Ord (cf : α → α → Int) : Prop where
  tot : ∀ x y, cf x y < 0 → ¬cf y x < 0
  tr : ∀ x y z, ¬cf y x < 0 → ¬cf z y < 0 → ¬cf z x < 0
variable {cf : α → α → Int}
/-- Ascending from a on, below b. -/
def Asc (cf : α → α → Int) (L : List α) (a b : Nat) : Prop := ∀ i j x y, a ≤ i → i < j → j < b → L[i]? = some x → L[j]? = some y → ¬cf y x < 0
theorem Asc.part {a' b' : Nat} (h : Asc cf L a b) (ha : a ≤ a') (hb : b' ≤ b) : Asc cf L a' b' := fun i j x y h1 h2 h3 => h i j x y (by omega) h2 (by omega)
theorem Asc.one (h : b ≤ a + 1) : Asc cf L a b := fun i j x y h1 h2 h3 => by omega
theorem Asc.same (h : Asc cf L a b) (hs : ∀ k, a ≤ k → k < b → L'[k]? = L[k]?) : Asc cf L' a b := fun i j x y h1 h2 h3 hx hy => by
  rw [hs i h1 (by omega)] at hx
  rw [hs j (by omega) h3] at hy
  exact h i j x y h1 h2 h3 hx hy
/-- Everything in the first range is at most everything in the second. -/
def Below2 (cf : α → α → Int) (L : List α) (a b c d : Nat) : Prop := ∀ i j x y, a ≤ i → i < b → c ≤ j → j < d → L[i]? = some x → L[j]? = some y → ¬cf y x < 0
theorem Asc.join (h1 : Asc cf L a m) (h2 : Asc cf L m b) (h3 : Below2 cf L a m m b) : Asc cf L a b := fun i j x y p1 p2 p3 hx hy => by
  rcases Nat.lt_or_ge j m with h | h
  · exact h1 i j x y p1 p2 h hx hy
  · rcases Nat.lt_or_ge i m with h' | h'
    · exact h3 i j x y p1 h' h p3 hx hy
    · exact h2 i j x y h' p2 p3 hx hy
theorem Below2.moved {d : Nat} (h : Below2 cf L a b c d) (h1 : Moved L L' a b) (hc : b ≤ c) : Below2 cf L' a b c d := fun i j x y p1 p2 p3 p4 hx hy => by
  obtain ⟨k, q1, q2, q3⟩ := h1.ins i p1 p2
  rw [q3] at hx
  rw [h1.out j (by omega)] at hy
  exact h k j x y q1 q2 p3 p4 hx hy
theorem Below2.moved' {d : Nat} (h : Below2 cf L a b c d) (h1 : Moved L L' c d) (hc : b ≤ c) : Below2 cf L' a b c d := fun i j x y p1 p2 p3 p4 hx hy => by
  obtain ⟨k, q1, q2, q3⟩ := h1.ins j p3 p4
  rw [q3] at hy
  rw [h1.out i (by omega)] at hx
  exact h i k x y p1 p2 q1 q2 hx hy
/-! ### Insertion -/
/-- Ascending but for the element at j, which may be less than those before it. -/
def AscX (cf : α → α → Int) (L : List α) (a b j : Nat) : Prop := ∀ p q x y, a ≤ p → p < q → q < b → q ≠ j → L[p]? = some x → L[q]? = some y → ¬cf y x < 0
theorem AscX.start (h : Asc cf L a i) : AscX cf L a (i + 1) i := fun p q x y h1 h2 h3 h4 => h p q x y h1 h2 (by omega)
theorem AscX.step (ho : Ord cf) (h : AscX cf L a b (j + 1)) (ha : a ≤ j) (hb : j + 1 < b) (hl : b ≤ L.length) {x y : α} (hx : L[j + 1]? = some x) (hy : L[j]? = some y) (hlt : cf x y < 0) : AscX cf (swp L (j + 1) j) a b j := by
  have g := swp_get (L := L) (i := j + 1) (j := j) (by omega) (by omega)
  intro p q u v h1 h2 h3 h4 hu hv
  rw [g] at hu hv
  rw [if_neg h4] at hv
  by_cases e1 : p = j
  · rw [if_pos e1, hx] at hu
    cases hu
    by_cases e2 : q = j + 1
    · rw [if_pos e2, hy] at hv
      cases hv
      exact ho.tot _ _ hlt
    · rw [if_neg e2] at hv
      exact h (j + 1) q x v (by omega) (by omega) h3 e2 hx hv
  · rw [if_neg e1] at hu
    by_cases e3 : p = j + 1
    · rw [if_pos e3, hy] at hu
      cases hu
      rw [if_neg (by omega)] at hv
      exact h j q y v ha (by omega) h3 (by omega) hy hv
    · rw [if_neg e3] at hu
      by_cases e2 : q = j + 1
      · rw [if_pos e2, hy] at hv
        cases hv
        exact h p j u y h1 (by omega) (by omega) (by omega) hu hy
      · rw [if_neg e2] at hv
        exact h p q u v h1 h2 h3 e2 hu hv
theorem AscX.stop (ho : Ord cf) (h : AscX cf L a b j) (hj : j ≤ a ∨ ∃ x y, L[j]? = some x ∧ L[j - 1]? = some y ∧ ¬cf x y < 0) : Asc cf L a b := by
  intro p q x y h1 h2 h3 hx hy
  by_cases e : q = j
  · subst e
    rcases hj with hj | ⟨u, v, hu, hv, huv⟩
    · omega
    · rw [hy] at hu; cases hu
      by_cases e2 : p = q - 1
      · subst e2
        rw [hx] at hv; cases hv
        exact huv
      · exact ho.tr _ _ _ (h p (q - 1) x v h1 (by omega) (by omega) (by omega) hx hv) huv
  · exact h p q x y h1 h2 h3 e hx hy
/-! ### Rotations -/
def rotF (f : Nat → Option α) (lo m hi k : Nat) : Option α := if lo ≤ k ∧ k < lo + (hi - m) then f (m + (k - lo)) else if lo + (hi - m) ≤ k ∧ k < hi then f (lo + (k - (lo + (hi - m)))) else f k
def swrF (f : Nat → Option α) (a b n k : Nat) : Option α := if a ≤ k ∧ k < a + n then f (b + (k - a)) else if b ≤ k ∧ k < b + n then f (a + (k - b)) else f k
theorem swr_step {f : Nat → Option α} (hab : a + n ≤ b) (hi : i < n) (h : ∀ k, L[k]? = swrF f a b i k) (hL : b + n ≤ L.length) (k : Nat) : (swp L (a + i) (b + i))[k]? = swrF f a b (i + 1) k := by
  rw [swp_get (by omega) (by omega), h, h, h]
  unfold swrF
  by_cases e1 : k = b + i
  · subst e1
    rw [if_pos rfl, if_neg (by omega), if_neg (by omega), if_neg (by omega), if_pos (by omega)]
    congr 1; omega
  · rw [if_neg e1]
    by_cases e2 : k = a + i
    · subst e2
      rw [if_pos rfl, if_neg (by omega), if_neg (by omega), if_pos (by omega)]
      congr 1; omega
    · rw [if_neg e2]
      by_cases h1 : a ≤ k ∧ k < a + i
      · rw [if_pos h1, if_pos (by omega)]
      · rw [if_neg h1]
        by_cases h2 : b ≤ k ∧ k < b + i
        · rw [if_pos h2, if_neg (by omega), if_pos (by omega)]
        · rw [if_neg h2, if_neg (by omega), if_neg (by omega)]
theorem rot_big {f g : Nat → Option α} (him : i ≤ m) (hij : j < i) (h : ∀ k, g k = swrF f (m - i) m j k) (k : Nat) : rotF g (m - (i - j)) m (m + j) k = rotF f (m - i) m (m + j) k := by
  unfold rotF
  by_cases c1 : m - (i - j) ≤ k ∧ k < m - (i - j) + (m + j - m)
  · rw [if_pos c1, h, swrF, if_neg (by omega), if_pos (by omega), if_neg (by omega), if_pos (by omega)]
    congr 1; omega
  · rw [if_neg c1]
    by_cases c2 : m - (i - j) + (m + j - m) ≤ k ∧ k < m + j
    · rw [if_pos c2, h, swrF, if_neg (by omega), if_neg (by omega), if_neg (by omega), if_pos (by omega)]
      congr 1; omega
    · rw [if_neg c2, h, swrF]
      by_cases c3 : m - i ≤ k ∧ k < m - i + j
      · rw [if_pos c3, if_pos (by omega)]
      · rw [if_neg c3, if_neg (by omega), if_neg (by omega), if_neg (by omega)]
theorem rot_small {f g : Nat → Option α} (him : i ≤ m) (hij : i < j) (h : ∀ k, g k = swrF f (m - i) (m + j - i) i k) (k : Nat) : rotF g (m - i) m (m + (j - i)) k = rotF f (m - i) m (m + j) k := by
  unfold rotF
  by_cases c1 : m - i ≤ k ∧ k < m - i + (m + (j - i) - m)
  · rw [if_pos c1, h, swrF, if_neg (by omega), if_neg (by omega), if_pos (by omega)]
  · rw [if_neg c1]
    by_cases c2 : m - i + (m + (j - i) - m) ≤ k ∧ k < m + (j - i)
    · rw [if_pos c2, h, swrF, if_pos (by omega), if_pos (by omega)]
      congr 1; omega
    · rw [if_neg c2, h, swrF, if_neg (by omega)]
      by_cases c3 : m + j - i ≤ k ∧ k < m + j - i + i
      · rw [if_pos c3, if_neg (by omega), if_pos (by omega)]
        congr 1; omega
      · rw [if_neg c3, if_neg (by omega), if_neg (by omega)]
theorem rot_end {f g : Nat → Option α} (him : i ≤ m) (h : ∀ k, g k = swrF f (m - i) m i k) (k : Nat) : g k = rotF f (m - i) m (m + i) k := by
  rw [h]
  unfold rotF swrF
  by_cases c1 : m - i ≤ k ∧ k < m - i + i
  · rw [if_pos c1, if_pos (by omega)]
  · rw [if_neg c1]
    by_cases c2 : m ≤ k ∧ k < m + i
    · rw [if_pos c2, if_neg (by omega), if_pos (by omega)]
      congr 1; omega
    · rw [if_neg c2, if_neg (by omega), if_neg (by omega)]
theorem rot_none {f : Nat → Option α} {lo hi : Nat} (h1 : lo ≤ m) (h2 : m ≤ hi) (h : lo = m ∨ m = hi) (k : Nat) : rotF f lo m hi k = f k := by
  unfold rotF
  by_cases c1 : lo ≤ k ∧ k < lo + (hi - m)
  · rw [if_pos c1]; congr 1; omega
  · rw [if_neg c1]
    by_cases c2 : lo + (hi - m) ≤ k ∧ k < hi
    · rw [if_pos c2]; congr 1; omega
    · rw [if_neg c2]
theorem Moved.rot {lo hi : Nat} (hp : L'.Perm L) (h : ∀ k, L'[k]? = rotF (fun k => L[k]?) lo m hi k) (h1 : lo ≤ m) (h2 : m ≤ hi) : Moved L L' lo hi := by
  refine ⟨hp, fun k hk => ?_, fun k h3 h4 => ?_⟩
  · rw [h, rotF, if_neg (by omega), if_neg (by omega)]
  · rw [h, rotF]
    by_cases c1 : lo ≤ k ∧ k < lo + (hi - m)
    · exact ⟨m + (k - lo), by omega, by omega, by rw [if_pos c1]⟩
    · exact ⟨lo + (k - (lo + (hi - m))), by omega, by omega, by rw [if_neg c1, if_pos (by omega)]⟩
/-! ### Merging -/
/-- After the rotation the elements before the middle are at most those behind it. -/
theorem merge_rot (ho : Ord cf) {s e : Nat} (hA : Asc cf L a m) (hB : Asc cf L m b) (h1 : a ≤ s) (h2 : s ≤ m) (h3 : m ≤ e) (h4 : e ≤ b)
    (hlo : s = a ∨ e = b ∨ ∃ x y, L[e]? = some x ∧ L[s - 1]? = some y ∧ ¬cf x y < 0)
    (hhi : s = m ∨ e = m ∨ ∃ x y, L[e - 1]? = some x ∧ L[s]? = some y ∧ cf x y < 0)
    (h : ∀ k, L'[k]? = rotF (fun k => L[k]?) s m e k) :
    Asc cf L' a s ∧ Asc cf L' s (s + (e - m)) ∧ Asc cf L' (s + (e - m)) e ∧ Asc cf L' e b ∧ Below2 cf L' a (s + (e - m)) (s + (e - m)) b := by
  -- the four parts of the old list
  have r1 : ∀ k, k < s → L'[k]? = L[k]? := fun k hk => by rw [h, rotF, if_neg (by omega), if_neg (by omega)]
  have r2 : ∀ k, s ≤ k → k < s + (e - m) → L'[k]? = L[m + (k - s)]? := fun k hk hk2 => by rw [h, rotF, if_pos (by omega)]
  have r3 : ∀ k, s + (e - m) ≤ k → k < e → L'[k]? = L[s + (k - (s + (e - m)))]? := fun k hk hk2 => by rw [h, rotF, if_neg (by omega), if_pos (by omega)]
  have r4 : ∀ k, e ≤ k → L'[k]? = L[k]? := fun k hk => by rw [h, rotF, if_neg (by omega), if_neg (by omega)]
  refine ⟨fun i j x y p1 p2 p3 hx hy => ?_, fun i j x y p1 p2 p3 hx hy => ?_, fun i j x y p1 p2 p3 hx hy => ?_, fun i j x y p1 p2 p3 hx hy => ?_, fun i j x y p1 p2 p3 p4 hx hy => ?_⟩
  · rw [r1 i (by omega)] at hx
    rw [r1 j p3] at hy
    exact hA i j x y p1 p2 (by omega) hx hy
  · rw [r2 i p1 (by omega)] at hx
    rw [r2 j (by omega) p3] at hy
    exact hB _ _ x y (by omega) (by omega) (by omega) hx hy
  · rw [r3 i p1 (by omega)] at hx
    rw [r3 j (by omega) p3] at hy
    exact hA _ _ x y (by omega) (by omega) (by omega) hx hy
  · rw [r4 i p1] at hx
    rw [r4 j (by omega)] at hy
    exact hB i j x y (by omega) p2 p3 hx hy
  · -- a helper: at most, or the same place
    have leA : ∀ i j x y, a ≤ i → i ≤ j → j < m → L[i]? = some x → L[j]? = some y → ¬cf y x < 0 := fun i j x y q1 q2 q3 hx hy => by
      rcases Nat.lt_or_ge i j with h | h
      · exact hA i j x y q1 h q3 hx hy
      · obtain rfl : i = j := by omega
        rw [hx] at hy; cases hy
        exact fun hh => ho.tot _ _ hh hh
    have leB : ∀ i j x y, m ≤ i → i ≤ j → j < b → L[i]? = some x → L[j]? = some y → ¬cf y x < 0 := fun i j x y q1 q2 q3 hx hy => by
      rcases Nat.lt_or_ge i j with h | h
      · exact hB i j x y q1 h q3 hx hy
      · obtain rfl : i = j := by omega
        rw [hx] at hy; cases hy
        exact fun hh => ho.tot _ _ hh hh
    rcases Nat.lt_or_ge i s with c1 | c1
    · rw [r1 i c1] at hx
      rcases Nat.lt_or_ge j e with c2 | c2
      · rw [r3 j p3 c2] at hy
        exact leA _ _ x y p1 (by omega) (by omega) hx hy
      · rw [r4 j c2] at hy
        rcases hlo with hlo | hlo | ⟨u, v, hu, hv, huv⟩
        · omega
        · omega
        · have q1 := leA i (s - 1) x v p1 (by omega) (by omega) hx hv
          have q2 := leB e j u y h3 c2 p4 hu hy
          exact ho.tr _ _ _ (ho.tr _ _ _ q1 huv) q2
    · rw [r2 i c1 p2] at hx
      rcases Nat.lt_or_ge j e with c2 | c2
      · rw [r3 j p3 c2] at hy
        rcases hhi with hhi | hhi | ⟨u, v, hu, hv, huv⟩
        · omega
        · omega
        · have q1 := leB (m + (i - s)) (e - 1) x u (by omega) (by omega) (by omega) hx hu
          have q2 := leA s _ v y h1 (by omega) (by omega) hv hy
          exact ho.tr _ _ _ (ho.tr _ _ _ q1 (ho.tot _ _ huv)) q2
      · rw [r4 j c2] at hy
        exact leB _ _ x y (by omega) (by omega) p4 hx hy
theorem rot_l {k : Nat} (hak : a ≤ k) (h : ∀ x, L'[x]? = rotF (fun x => L[x]?) a (a + 1) (k + 1) x) (hk : k + 1 < L'.length) (x : Nat) : (swp L' k (k + 1))[x]? = rotF (fun x => L[x]?) a (a + 1) (k + 2) x := by
  rw [swp_get (by omega) hk, h, h, h]
  unfold rotF
  by_cases e1 : x = k + 1
  · subst e1
    rw [if_pos rfl, if_neg (by omega), if_pos (by omega), if_neg (by omega), if_pos (by omega)]
    congr 1; omega
  · rw [if_neg e1]
    by_cases e2 : x = k
    · subst e2
      rw [if_pos rfl, if_neg (by omega), if_neg (by omega), if_pos (by omega)]
      congr 1; omega
    · rw [if_neg e2]
      by_cases c1 : a ≤ x ∧ x < a + (k + 1 - (a + 1))
      · rw [if_pos c1, if_pos (by omega)]
      · rw [if_neg c1, if_neg (by omega), if_neg (by omega), if_neg (by omega)]
theorem rot_r {k : Nat} (hk1 : 1 ≤ k) (hkm : k ≤ m) (h : ∀ x, L'[x]? = rotF (fun x => L[x]?) k m (m + 1) x) (hk : m < L'.length) (x : Nat) : (swp L' k (k - 1))[x]? = rotF (fun x => L[x]?) (k - 1) m (m + 1) x := by
  rw [swp_get (by omega) (by omega), h, h, h]
  unfold rotF
  by_cases e1 : x = k - 1
  · subst e1
    rw [if_pos rfl, if_pos (by omega), if_pos (by omega)]
    congr 1; omega
  · rw [if_neg e1]
    by_cases e2 : x = k
    · subst e2
      rw [if_pos rfl, if_neg (by omega), if_neg (by omega), if_neg (by omega), if_pos (by omega)]
      congr 1; omega
    · rw [if_neg e2]
      by_cases c1 : k ≤ x ∧ x < k + (m + 1 - m)
      · omega
      · rw [if_neg c1]
        by_cases c2 : k + (m + 1 - m) ≤ x ∧ x < m + 1
        · rw [if_pos c2, if_neg (by omega), if_pos (by omega)]
          congr 1; omega
        · rw [if_neg c2, if_neg (by omega), if_neg (by omega)]
theorem merge_left (ho : Ord cf) {e : Nat} (hB : Asc cf L (a + 1) b) (h3 : a + 1 ≤ e) (h4 : e ≤ b)
    (hlo : e = b ∨ ∃ x y, L[e]? = some x ∧ L[a]? = some y ∧ ¬cf x y < 0) (hhi : e = a + 1 ∨ ∃ x y, L[e - 1]? = some x ∧ L[a]? = some y ∧ cf x y < 0)
    (h : ∀ k, L'[k]? = rotF (fun k => L[k]?) a (a + 1) e k) : Asc cf L' a b := by
  obtain ⟨_, q2, q3, q4, q5⟩ := merge_rot ho (a := a) (m := a + 1) (b := b) (s := a) (e := e) (Asc.one (Nat.le_refl _)) hB (Nat.le_refl _) (by omega) h3 h4 (.inl rfl) (hhi.imp id id |> .inr) h
  rw [show a + (e - (a + 1)) = e - 1 by omega] at q2 q3 q5
  refine Asc.join q2 (fun i j x y p1 p2 p3 hx hy => ?_) q5
  rcases Nat.lt_or_ge i e with c | c
  · obtain rfl : i = e - 1 := by omega
    rw [h, rotF, if_neg (by omega), if_pos (by omega), show a + (e - 1 - (a + (e - (a + 1)))) = a by omega] at hx
    rw [h, rotF, if_neg (by omega), if_neg (by omega)] at hy
    rcases hlo with hlo | ⟨u, v, hu, hv, huv⟩
    · omega
    · rw [hx] at hv; cases hv
      rcases Nat.lt_or_ge e j with c2 | c2
      · exact ho.tr _ _ _ huv (hB e j u y h3 c2 p3 hu hy)
      · obtain rfl : j = e := by omega
        rw [hy] at hu; cases hu
        exact huv
  · exact q4 i j x y c p2 p3 hx hy
theorem merge_right (ho : Ord cf) {s : Nat} (hA : Asc cf L a m) (h1 : a ≤ s) (h2 : s ≤ m)
    (hlo : s = a ∨ ∃ x y, L[m]? = some x ∧ L[s - 1]? = some y ∧ ¬cf x y < 0) (hhi : s = m ∨ ∃ x y, L[m]? = some x ∧ L[s]? = some y ∧ cf x y < 0)
    (h : ∀ k, L'[k]? = rotF (fun k => L[k]?) s m (m + 1) k) : Asc cf L' a (m + 1) := by
  obtain ⟨q1, q2, q3, _, q5⟩ := merge_rot ho (a := a) (m := m) (b := m + 1) (s := s) (e := m + 1) hA (Asc.one (Nat.le_refl _)) h1 h2 (Nat.le_succ _) (Nat.le_refl _) (.inr (.inl rfl)) (hhi.imp id (fun h => .inr h)) h
  rw [show s + (m + 1 - m) = s + 1 by omega] at q2 q3 q5
  refine Asc.join (fun i j x y p1 p2 p3 hx hy => ?_) q3 q5
  rcases Nat.lt_or_ge j s with c | c
  · exact q1 i j x y p1 p2 c hx hy
  · obtain rfl : j = s := by omega
    rw [h, rotF, if_neg (by omega), if_neg (by omega)] at hx
    rw [h, rotF, if_pos (by omega), show m + (j - j) = m by omega] at hy
    rcases hlo with hlo | ⟨u, v, hu, hv, huv⟩
    · omega
    · rw [hy] at hu; cases hu
      rcases Nat.lt_or_ge i (j - 1) with c2 | c2
      · exact ho.tr _ _ _ (hA i (j - 1) x v p1 c2 (by omega) hx hv) huv
      · obtain rfl : i = j - 1 := by omega
        rw [hx] at hv; cases hv
        exact huv
/-! ### Blocks -/
/-- Each block of s elements is ascending. -/
def Blocks (cf : α → α → Int) (L : List α) (n s : Nat) : Prop := ∀ q, Asc cf L (q * s) (min (q * s + s) n)
/-- The first blocks are merged by two. -/
def MidB (cf : α → α → Int) (L : List α) (n s q0 : Nat) : Prop := (∀ q, q < q0 → Asc cf L (q * (2 * s)) (q * (2 * s) + 2 * s)) ∧ ∀ q, 2 * q0 ≤ q → Asc cf L (q * s) (min (q * s + s) n)
theorem mul_step {q q0 t : Nat} (h : q < q0) : q * t + t ≤ q0 * t := by rw [← Nat.succ_mul]; exact Nat.mul_le_mul_right _ h
theorem Blocks.mid {s : Nat} (h : Blocks cf L n s) : MidB cf L n s 0 := ⟨fun _ hq => absurd hq (Nat.not_lt_zero _), fun q _ => h q⟩
theorem dbl (q s : Nat) : 2 * q * s = q * (2 * s) := by rw [Nat.mul_comm 2 q, Nat.mul_assoc]
theorem dbl1 (q s : Nat) : (2 * q + 1) * s = q * (2 * s) + s := by rw [Nat.succ_mul, dbl]
theorem MidB.parts {s q0 : Nat} (h : MidB cf L n s q0) (hb : q0 * (2 * s) + s ≤ n) : Asc cf L (q0 * (2 * s)) (q0 * (2 * s) + s) ∧ Asc cf L (q0 * (2 * s) + s) (min (q0 * (2 * s) + 2 * s) n) := by
  have h1 := h.2 (2 * q0) (Nat.le_refl _)
  have h2 := h.2 (2 * q0 + 1) (by omega)
  rw [dbl] at h1
  rw [dbl1] at h2
  refine ⟨h1.part (Nat.le_refl _) (by omega), h2.part (Nat.le_refl _) (by omega)⟩
theorem MidB.step {s q0 : Nat} (h : MidB cf L n s q0) (hm : Moved L L' (q0 * (2 * s)) (q0 * (2 * s) + 2 * s)) (ha : Asc cf L' (q0 * (2 * s)) (q0 * (2 * s) + 2 * s)) : MidB cf L' n s (q0 + 1) := by
  refine ⟨fun q hq => ?_, fun q hq => (h.2 q (by omega)).same fun k h1 h2 => hm.out k (.inr ?_)⟩
  · rcases Nat.lt_or_ge q q0 with c | c
    · have := mul_step (t := 2 * s) c
      exact (h.1 q c).same fun k h1 h2 => hm.out k (.inl (by omega))
    · obtain rfl : q = q0 := by omega
      exact ha
  · have : 2 * (q0 + 1) * s ≤ q * s := Nat.mul_le_mul_right _ hq
    rw [dbl, Nat.succ_mul] at this
    omega
theorem MidB.done {s q0 : Nat} (h : MidB cf L n s q0) (hn : n < q0 * (2 * s) + 2 * s) (hm : Moved L L' (q0 * (2 * s)) n) (ha : Asc cf L' (q0 * (2 * s)) n) : Blocks cf L' n (2 * s) := fun q => by
  rcases Nat.lt_or_ge q q0 with c | c
  · have := mul_step (t := 2 * s) c
    exact ((h.1 q c).part (Nat.le_refl _) (Nat.min_le_left _ _)).same fun k h1 h2 => hm.out k (by omega)
  · rcases Nat.lt_or_ge q0 q with c2 | c2
    · have := mul_step (t := 2 * s) c2
      exact Asc.one (by omega)
    · obtain rfl : q = q0 := by omega
      exact ha.part (Nat.le_refl _) (Nat.min_le_right _ _)
theorem MidB.rest {s q0 : Nat} (h : MidB cf L n s q0) (hn : n ≤ q0 * (2 * s) + s) : Asc cf L (q0 * (2 * s)) n := by
  have h1 := h.2 (2 * q0) (Nat.le_refl _)
  rw [dbl] at h1
  exact h1.part (Nat.le_refl _) (by omega)
def FirstB (cf : α → α → Int) (L : List α) (s q0 : Nat) : Prop := ∀ q, q < q0 → Asc cf L (q * s) (q * s + s)
theorem FirstB.step {s q0 : Nat} (h : FirstB cf L s q0) (hm : Moved L L' (q0 * s) (q0 * s + s)) (ha : Asc cf L' (q0 * s) (q0 * s + s)) : FirstB cf L' s (q0 + 1) := fun q hq => by
  rcases Nat.lt_or_ge q q0 with c | c
  · have := mul_step (t := s) c
    exact (h q c).same fun k h1 h2 => hm.out k (.inl (by omega))
  · obtain rfl : q = q0 := by omega
    exact ha
theorem FirstB.done {s q0 : Nat} (h : FirstB cf L s q0) (hn : n < q0 * s + s) (hm : Moved L L' (q0 * s) n) (ha : Asc cf L' (q0 * s) n) : Blocks cf L' n s := fun q => by
  rcases Nat.lt_or_ge q q0 with c | c
  · have := mul_step (t := s) c
    exact ((h q c).part (Nat.le_refl _) (Nat.min_le_left _ _)).same fun k h1 h2 => hm.out k (by omega)
  · rcases Nat.lt_or_ge q0 q with c2 | c2
    · have := mul_step (t := s) c2
      exact Asc.one (by omega)
    · obtain rfl : q = q0 := by omega
      exact ha.part (Nat.le_refl _) (Nat.min_le_right _ _)
theorem Blocks.all {s : Nat} (h : Blocks cf L n s) (hn : n ≤ s) : Asc cf L 0 n := by
  have := h 0
  rw [Nat.zero_mul] at this
  exact this.part (Nat.le_refl _) (by omega)
end
end Go.Proofs.Ytfakgiikobajnaa

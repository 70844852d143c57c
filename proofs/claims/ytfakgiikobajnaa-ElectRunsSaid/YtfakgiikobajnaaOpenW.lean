/-
  What lies behind an argument, with the bounds that a machine sets: structs and slices within each other.
  No conditions beyond those that each statement names.
-/
import Derived.Test.YtfakgiikobajnaaOpen
import Derived.SizedLaws
namespace Go.Proofs.Ytfakgiikobajnaa
open Go.ChangeShapes Go.WideShapes Go.ChangeAt Go.RowKit Go.Joins Go.Deep

section
variable {H : Type} {enc : TypeId × Value → H} {P : Program} {w : World} {base : Nat} {spare : Nat → Bool} {held : Bool}
/-- The cells read as a datum of the type, of which no slice is longer than a machine holds. -/
def RW (enc : TypeId × Value → H) (P : Program) (w : World) (base : Nat) (spare : Nat → Bool) (held : Bool) (t : TypeId) (cs : List Value) : Prop := ∃ n x, DataW.trod enc P w base spare held n t cs = some x ∧ ∀ m ∈ x.1.weights P t, m ≤ reachBytes
theorem RW.reads {t : TypeId} {cs : List Value} (h : RW enc P w base spare held t cs) : Reads enc P w base spare held t cs := by
  obtain ⟨n, x, h, _⟩ := h
  exact ⟨n, x, h⟩
theorem rw_of {ts : List TypeId} {ds : List (DataW H)} {j : Nat} {t : TypeId} {v : Value} {d : DataW H} {p : List MemPlace} (hsz : (DataW.weightsEach P ts ds).all (· ≤ reachBytes) = true) (hj : ts[j]? = some t) (hd : ds[j]? = some d) (h : DataW.Trod enc P w base spare held t v d p) : RW enc P w base spare held t v.cells.toList := by
  obtain ⟨n, hf⟩ := h
  refine ⟨n, _, hf, fun m hm => ?_⟩
  have := List.all_eq_true.1 hsz m (DataW.weights_mem_each hj hd m hm)
  simpa using this
theorem RW.struct {t : TypeId} {fs : Array Field} {cs : List Value} (ht : P.underlying t = some (.struct fs)) (h : RW enc P w base spare held t cs) :
    cs.length = P.cellsOf t ∧ ∀ (i : Nat) (f : Field), fs[i]? = some f → RW enc P w base spare held f.type ((cs.drop f.offset).take (P.cellsOf f.type)) := by
  obtain ⟨n, x, h, hw⟩ := h
  obtain ⟨xs, m, _, hx, h1, h2, h3⟩ := DataW.trod_struct ht h
  refine ⟨h1, fun i f hf => ?_⟩
  have := h3 i f hf
  have hi : i < xs.length := by rw [h2]; exact (Array.getElem?_eq_some_iff.1 hf).1
  rw [List.getElem?_eq_getElem hi] at this
  refine ⟨m, _, this, fun k hk => hw k ?_⟩
  subst hx
  simp only [DataW.weights, ht]
  refine DataW.weights_mem_each (j := i) (t := f.type) (d := xs[i].1) ?_ ?_ k hk
  · rw [List.getElem?_map, Array.getElem?_toList, hf]; rfl
  · rw [List.getElem?_map, List.getElem?_eq_getElem hi]; rfl
theorem weights_all {e : TypeId} : ∀ {l : List (DataW H)} {d : DataW H}, d ∈ l → ∀ m ∈ d.weights P e, m ∈ DataW.weightsAll P e l
  | a :: r, d, h, m, hm => by
    simp only [DataW.weightsAll, List.mem_append]
    rcases List.mem_cons.1 h with rfl | h
    · exact .inl hm
    · exact .inr (weights_all h m hm)
theorem RW.slice {t e : TypeId} {cs : List Value} (ht : P.underlying t = some (.slice e)) (h : RW enc P w base spare held t cs) :
    ∃ (ao : Option Addr) (len cap : Nat) (D : Nat → List Value), cs = [.slice ao len cap] ∧ len ≤ cap ∧ cap ≤ maxLen ∧ (ao = none → len = 0) ∧ len * P.bytesOf e ≤ reachBytes ∧
      ∀ i, i < len → ∃ ad, ao = some ad ∧ (D i).length = P.cellsOf e ∧ Cells w (ad.add (i * P.cellsOf e)) (D i) ∧ RW enc P w base spare held e (D i) := by
  obtain ⟨n, x, h, hw⟩ := h
  rcases open_slice ht h with ⟨rfl, _⟩ | ⟨a, len, cap, m, n, D, Pl, rfl, hb, hl, hm, hmm, rfl, hx⟩
  · exact ⟨none, 0, 0, fun _ => [], rfl, Nat.le_refl _, Nat.zero_le _, fun _ => rfl, by rw [Nat.zero_mul]; exact Nat.zero_le _, fun i h => by omega⟩
  · have hlm : len ≤ m := by rw [hmm]; split <;> omega
    simp only [DataW.weights, ht] at hw
    have each : ∀ i, i < len → ∃ q : List Value, q.length = P.cellsOf e ∧ Cells w (a.add (i * P.cellsOf e)) q ∧ RW enc P w base spare held e q := by
      intro i hi
      obtain ⟨cs', h1, h2⟩ := hx i (by omega)
      obtain ⟨_, hlen, hcell⟩ := World.cells?_some h1
      refine ⟨cs', hlen, fun j v hj => ?_, n, _, h2, fun k hk => hw k ?_⟩
      · rw [hcell j (by rw [← hlen]; exact (List.getElem?_eq_some_iff.1 hj).1)]
        exact hj
      · refine List.mem_cons_of_mem _ (List.mem_append_left _ (weights_all (d := D i) ?_ k hk))
        exact List.mem_map.2 ⟨i, List.mem_range.2 hi, rfl⟩
    obtain ⟨q, hq⟩ := choose_lt each
    refine ⟨some a, len, cap, q, rfl, hl, hm, (fun h => by cases h), ?_, fun i hi => ⟨a, rfl, (hq i hi).1, (hq i hi).2.1, (hq i hi).2.2⟩⟩
    have := hw _ (List.mem_cons_self ..)
    simp only [List.length_map, List.length_range] at this
    exact Nat.le_trans (Nat.mul_le_mul_right _ (Nat.le_add_right ..)) this
/-- A slice of elements each of which is read by 'dec'. -/
theorem RW.list {t e : TypeId} {cs : List Value} {α : Type} {n0 : Nat} {φ : α → Prop} (en : α → List Value) (ht : P.underlying t = some (.slice e)) (hC : P.cellsOf e = n0) (h : RW enc P w base spare held t cs)
    (dec : ∀ cs, RW enc P w base spare held e cs → cs.length = n0 → ∃ a : α, cs = en a ∧ φ a) :
    ∃ (ao : Option Addr) (L : List α) (c : Nat), cs = [.slice ao L.length c] ∧ Arr w n0 ao (L.map en) ∧ (ao = none → L = []) ∧ L.length ≤ c ∧ c ≤ maxLen ∧ L.length * P.bytesOf e ≤ reachBytes ∧ ∀ x ∈ L, φ x := by
  obtain ⟨ao, len, cap, D, rfl, hl, hm, hn, hby, hD⟩ := RW.slice ht h
  have each : ∀ i, i < len → ∃ a : α, D i = en a ∧ φ a := fun i hi => by
    obtain ⟨ad, _, h2, _, h4⟩ := hD i hi
    exact dec (D i) h4 (h2.trans hC)
  have hlist : ∀ k, k ≤ len → ∃ L : List α, L.length = k ∧ (∀ x ∈ L, φ x) ∧ ∀ i x, L[i]? = some x → D i = en x := by
    intro k
    induction k with
    | zero => exact fun _ => ⟨[], rfl, by simp, fun i x h => by simp at h⟩
    | succ k ih =>
      intro hk
      obtain ⟨L, h1, h2, h3⟩ := ih (by omega)
      obtain ⟨a, ha, hφ⟩ := each k (by omega)
      refine ⟨L ++ [a], by simp [h1], fun x hx => ?_, fun i x hi => ?_⟩
      · rcases List.mem_append.1 hx with hx | hx
        · exact h2 x hx
        · obtain rfl := List.mem_singleton.1 hx; exact hφ
      · rw [List.getElem?_append] at hi
        split at hi
        · exact h3 i x hi
        · rename_i hge
          have : i = k := by
            have := (List.getElem?_eq_some_iff.1 hi).1
            simp at this; omega
          subst this
          rw [h1, Nat.sub_self] at hi
          cases hi
          exact ha
  obtain ⟨L, h1, h2, h3⟩ := hlist len (Nat.le_refl _)
  subst h1
  refine ⟨ao, L, cap, rfl, fun k x hk => ?_, fun h => List.length_eq_zero_iff.1 (hn h), hl, hm, hby, h2⟩
  rw [List.getElem?_map] at hk
  obtain ⟨a, ha, rfl⟩ := Option.map_eq_some_iff.1 hk
  obtain ⟨ad, e1, _, e3, _⟩ := hD k (List.getElem?_eq_some_iff.1 ha).1
  rw [hC, h3 k a ha] at e3
  exact ⟨ad, e1, e3⟩
/-- The types and offsets of a struct's fields, and what lies there. -/
theorem RW.fields {t : TypeId} {fs : Array Field} {cs : List Value} {l : List (TypeId × Nat)} (ht : P.underlying t = some (.struct fs)) (hl : (fs.map (fun f => (f.type, f.offset))).toList = l) (h : RW enc P w base spare held t cs) :
    cs.length = P.cellsOf t ∧ ∀ (i : Nat) (ft : TypeId) (o : Nat), l[i]? = some (ft, o) → RW enc P w base spare held ft ((cs.drop o).take (P.cellsOf ft)) := by
  obtain ⟨h1, h2⟩ := RW.struct ht h
  refine ⟨h1, fun i ft o hi => ?_⟩
  subst hl
  rw [Array.getElem?_toList, Array.getElem?_map] at hi
  obtain ⟨f, hf, he⟩ := Option.map_eq_some_iff.1 hi
  cases he
  exact h2 i f hf
end
end Go.Proofs.Ytfakgiikobajnaa

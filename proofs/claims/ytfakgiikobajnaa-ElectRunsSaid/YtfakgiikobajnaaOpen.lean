/-
  What lies behind an argument that is a slice: a list, each of whose elements is read by its type.
  No conditions beyond those that each statement names.
-/
import Derived.Test.YtfakgiikobajnaaVMore
import Derived.Deep.Slices
import Derived.Deep.Fields
import Derived.ChangeSame
import Derived.OpenShut
import Derived.Lib.SmallJoins
import Derived.ProofKit
namespace Go.Proofs.Ytfakgiikobajnaa
open Go.ChangeShapes Go.WideShapes Go.ChangeAt Go.RowKit Go.Joins Go.Deep

section
variable {H : Type} {enc : TypeId × Value → H} {P : Program} {w : World} {base : Nat} {spare : Nat → Bool} {held : Bool}
/-- The cells read as a datum of the type. -/
def Reads (enc : TypeId × Value → H) (P : Program) (w : World) (base : Nat) (spare : Nat → Bool) (held : Bool) (t : TypeId) (cs : List Value) : Prop := ∃ n x, DataW.trod enc P w base spare held n t cs = some x
theorem reads_of {t : TypeId} {v : Value} {d : DataW H} {p : List MemPlace} (h : DataW.Trod enc P w base spare held t v d p) : Reads enc P w base spare held t v.cells.toList := by
  obtain ⟨n, hf⟩ := h
  exact ⟨n, _, hf⟩
theorem reads_int {t : TypeId} {k : IntKind} {cs : List Value} (ht : P.underlying t = some (.int k)) (h : Reads enc P w base spare held t cs) : ∃ n, cs = [.int k n] ∧ (Lit.int k n).wf = true := by
  obtain ⟨n, x, h⟩ := h
  obtain ⟨n, h1, _, h2⟩ := DataW.trod_int ht h
  exact ⟨n, h1, h2⟩
theorem reads_bool {t : TypeId} {cs : List Value} (ht : P.underlying t = some .bool) (h : Reads enc P w base spare held t cs) : ∃ b, cs = [.bool b] := by
  obtain ⟨n, x, h⟩ := h
  obtain ⟨b, h1, _⟩ := DataW.trod_bool ht h
  exact ⟨b, h1⟩
theorem reads_slice {t e : TypeId} {cs : List Value} (ht : P.underlying t = some (.slice e)) (h : Reads enc P w base spare held t cs) :
    ∃ (ao : Option Addr) (len cap : Nat) (D : Nat → List Value), cs = [.slice ao len cap] ∧ len ≤ cap ∧ cap ≤ maxLen ∧ (ao = none → len = 0) ∧
      ∀ i, i < len → ∃ ad, ao = some ad ∧ (D i).length = P.cellsOf e ∧ Cells w (ad.add (i * P.cellsOf e)) (D i) ∧ Reads enc P w base spare held e (D i) := by
  obtain ⟨n, x, h⟩ := h
  rcases open_slice ht h with ⟨rfl, _⟩ | ⟨a, len, cap, m, n, D, Pl, rfl, hb, hl, hm, hmm, _, hx⟩
  · exact ⟨none, 0, 0, fun _ => [], rfl, Nat.le_refl _, Nat.zero_le _, fun _ => rfl, fun i h => by omega⟩
  · have hlm : len ≤ m := by rw [hmm]; split <;> omega
    have each : ∀ i, i < len → ∃ q : List Value, q.length = P.cellsOf e ∧ Cells w (a.add (i * P.cellsOf e)) q ∧ Reads enc P w base spare held e q := by
      intro i hi
      obtain ⟨cs', h1, h2⟩ := hx i (by omega)
      obtain ⟨_, hlen, hcell⟩ := World.cells?_some h1
      refine ⟨cs', hlen, fun j v hj => ?_, n, _, h2⟩
      rw [hcell j (by rw [← hlen]; exact (List.getElem?_eq_some_iff.1 hj).1)]
      exact hj
    obtain ⟨q, hq⟩ := choose_lt each
    exact ⟨some a, len, cap, q, rfl, hl, hm, (fun h => by cases h), fun i hi => ⟨a, rfl, (hq i hi).1, (hq i hi).2.1, (hq i hi).2.2⟩⟩
/-- A slice of elements each of which is read by 'dec'. -/
theorem reads_list {t e : TypeId} {cs : List Value} {α : Type} {n0 : Nat} {φ : α → Prop} (en : α → List Value) (ht : P.underlying t = some (.slice e)) (hC : P.cellsOf e = n0) (h : Reads enc P w base spare held t cs)
    (dec : ∀ cs, Reads enc P w base spare held e cs → cs.length = n0 → ∃ a : α, cs = en a ∧ φ a) :
    ∃ (ao : Option Addr) (L : List α) (c : Nat), cs = [.slice ao L.length c] ∧ Arr w n0 ao (L.map en) ∧ L.length ≤ c ∧ c ≤ maxLen ∧ ∀ x ∈ L, φ x := by
  obtain ⟨ao, len, cap, D, rfl, hl, hm, hn, hD⟩ := reads_slice ht h
  have each : ∀ i, i < len → ∃ a : α, D i = en a ∧ φ a := fun i hi => by
    obtain ⟨ad, _, h2, _, h4⟩ := hD i hi
    exact dec (D i) h4 (h2.trans hC)
  have hlist : ∀ k, k ≤ len → ∃ L : List α, L.length = k ∧ (∀ x ∈ L, φ x) ∧ ∀ i x, L[i]? = some x → D i = en x := by
    intro k
    induction k with
    | zero => exact fun _ => ⟨[], rfl, by simp, fun i x h => by simp at h⟩
    | succ k ih =>
      intro hk
      obtain ⟨L, h1, h2, h3⟩ := ih (by omega)
      obtain ⟨a, ha, hφ⟩ := each k (by omega)
      refine ⟨L ++ [a], by simp [h1], fun x hx => ?_, fun i x hi => ?_⟩
      · rcases List.mem_append.1 hx with hx | hx
        · exact h2 x hx
        · obtain rfl := List.mem_singleton.1 hx; exact hφ
      · rw [List.getElem?_append] at hi
        split at hi
        · exact h3 i x hi
        · rename_i hge
          have : i = k := by
            have := (List.getElem?_eq_some_iff.1 hi).1
            simp at this; omega
          subst this
          rw [h1, Nat.sub_self] at hi
          cases hi
          exact ha
  obtain ⟨L, h1, h2, h3⟩ := hlist len (Nat.le_refl _)
  subst h1
  refine ⟨ao, L, cap, rfl, fun k x hk => ?_, hl, hm, h2⟩
  rw [List.getElem?_map] at hk
  obtain ⟨a, ha, rfl⟩ := Option.map_eq_some_iff.1 hk
  obtain ⟨ad, e1, _, e3, _⟩ := hD k (List.getElem?_eq_some_iff.1 ha).1
  rw [hC, h3 k a ha] at e3
  exact ⟨ad, e1, e3⟩
/-- A struct's fields, each of which reads by its own type. -/
theorem reads_struct {t : TypeId} {fs : Array Field} {cs : List Value} (ht : P.underlying t = some (.struct fs)) (h : Reads enc P w base spare held t cs) :
    cs.length = P.cellsOf t ∧ ∀ (i : Nat) (f : Field), fs[i]? = some f → Reads enc P w base spare held f.type ((cs.drop f.offset).take (P.cellsOf f.type)) := by
  obtain ⟨n, x, h⟩ := h
  obtain ⟨xs, m, _, _, h1, h2, h3⟩ := DataW.trod_struct ht h
  refine ⟨h1, fun i f hf => ⟨m, ?_⟩⟩
  have := h3 i f hf
  have hi : i < xs.length := by rw [h2]; exact (Array.getElem?_eq_some_iff.1 hf).1
  rw [List.getElem?_eq_getElem hi] at this
  exact ⟨_, this⟩
/-- A struct of fields of one cell each. -/
theorem reads_flat {t : TypeId} {fs : Array Field} {cs : List Value} (ht : P.underlying t = some (.struct fs)) (hone : oneCellFields P fs = true) (hC : P.cellsOf t = fs.size) (h : Reads enc P w base spare held t cs) :
    cs.length = fs.size ∧ ∀ (i : Nat) (f : Field) (v : Value), fs[i]? = some f → cs[i]? = some v → Reads enc P w base spare held f.type [v] := by
  obtain ⟨h1, h2⟩ := reads_struct ht h
  refine ⟨h1.trans hC, fun i f v hf hv => ?_⟩
  obtain ⟨ho, hk⟩ := hone_of hone i f hf
  have := h2 i f hf
  rw [ho, hk] at this
  have hi := List.getElem?_eq_some_iff.1 hv
  obtain ⟨hi, e⟩ := hi
  rw [List.drop_eq_getElem_cons hi, e] at this
  exact this
/-- An argument that is a slice. -/
theorem open_list {t e : TypeId} {v : Value} {d : DataW H} {p : List MemPlace} {b0 : Nat} {α : Type} {n0 : Nat} {φ : α → Prop} (en : α → List Value) (ht : P.underlying t = some (.slice e)) (hC : P.cellsOf e = n0) (hv : Value.okWide P w .any b0 t v)
    (h : DataW.Trod enc P w base spare held t v d p) (dec : ∀ cs, Reads enc P w base spare held e cs → cs.length = n0 → ∃ a : α, cs = en a ∧ φ a) :
    ∃ (ao : Option Addr) (L : List α) (c : Nat), v = .slice ao L.length c ∧ Arr w n0 ao (L.map en) ∧ L.length ≤ c ∧ c ≤ maxLen ∧ ∀ x ∈ L, φ x := by
  obtain ⟨ao, n, c, rfl⟩ := okWide_slice ht hv
  obtain ⟨ao', L, c', h1, h2⟩ := reads_list en ht hC (reads_of h) dec
  have : (Value.slice ao n c).cells.toList = [.slice ao n c] := rfl
  rw [this] at h1
  simp only [List.cons.injEq, Value.slice.injEq, and_true] at h1
  obtain ⟨rfl, rfl, rfl⟩ := h1
  exact ⟨ao, L, c, rfl, h2⟩
end
end Go.Proofs.Ytfakgiikobajnaa

/-
  Layer 27 (elect): the arguments, read off what the rows say.
  No conditions beyond those that each statement names.
-/
import Derived.Test.YtfakgiikobajnaaOpen
import Derived.Test.YtfakgiikobajnaaEl
import Derived.Test.YtfakgiikobajnaaElD
import Derived.SizedLaws
namespace Go.Proofs.Ytfakgiikobajnaa
open Go.ChangeShapes Go.WideShapes Go.ChangeAt Go.RowKit Go.Joins Go.Deep

theorem own : ownKnob Try.prog.godebug = none := by kernel_rfl
theorem u31 : ∃ fs, Try.prog.underlying 31 = some (.struct fs) ∧ oneCellFields Try.prog fs = true ∧ fs.map (·.type) = #[22, 28, 3, 22, 22, 3, 3, 4, 3, 29, 29, 4, 29, 29, 3] := ⟨_, Try.underlying31, by kernel_rfl, by kernel_rfl⟩
theorem list15 {l : List Value} (h : l.length = 15) : ∃ a b c d e r, l = a :: b :: c :: d :: e :: r ∧ r.length = 10 := by
  match l, h with
  | a :: b :: c :: d :: e :: r, h => exact ⟨a, b, c, d, e, r, rfl, by simpa using h⟩
section
variable {H : Type} {enc : TypeId × Value → H} {w : World} {base : Nat} {spare : Nat → Bool} {held : Bool}
theorem reads_one {t : TypeId} {v : Value} (ht : t ∈ [22, 28, 3, 4, 29]) (h : Reads enc Try.prog w base spare held t [v]) : v.oneCell' = true := by
  simp only [List.mem_cons, List.mem_nil_iff, or_false] at ht
  rcases ht with rfl | rfl | rfl | rfl | rfl
  · obtain ⟨n, e, _⟩ := reads_int Try.underlying22 h; cases e; rfl
  · obtain ⟨n, e, _⟩ := reads_int Try.underlying28 h; cases e; rfl
  · obtain ⟨n, e, _⟩ := reads_int Try.underlying3 h; cases e; rfl
  · obtain ⟨n, e⟩ := reads_bool Try.underlying4 h; cases e; rfl
  · obtain ⟨_, _, _, _, e, _⟩ := reads_slice Try.underlying29 h; cases e; rfl
theorem nb_of (cs : List Value) (h : Reads enc Try.prog w base spare held 31 cs) (hl : cs.length = 15) : ∃ x : Nb, cs = x.cells ∧ True := by
  obtain ⟨f31, u, one31, ty31⟩ := u31
  have hs : f31.size = 15 := by have := congrArg Array.size ty31; simpa using this
  obtain ⟨_, hf⟩ := reads_flat u one31 (by rw [hs]; kernel_rfl) h
  have ht : ∀ (i : Nat) (v : Value), cs[i]? = some v → ∃ t, (f31.map (·.type))[i]? = some t ∧ Reads enc Try.prog w base spare held t [v] := fun i v hv => by
    have hi := (List.getElem?_eq_some_iff.1 hv).1
    have hfi : f31[i]? = some (f31[i]'(by omega)) := Array.getElem?_eq_getElem (by omega)
    exact ⟨_, by rw [Array.getElem?_map, hfi]; rfl, hf i _ v hfi hv⟩
  rw [ty31] at ht
  have hone : ∀ (i : Nat) (v : Value), cs[i]? = some v → v.oneCell' = true := fun i v hv => by
    obtain ⟨t, h1, h2⟩ := ht i v hv
    refine reads_one ?_ h2
    have := Array.mem_of_getElem? h1
    simp at this
    simp only [List.mem_cons, List.mem_nil_iff, or_false]
    rcases this with h | h | h | h | h | h | h | h | h | h | h | h | h | h | h <;> simp [h]
  obtain ⟨a, b, c, d, e, r, rfl, hr⟩ := list15 hl
  obtain ⟨_, h1, h2⟩ := ht 0 a rfl; cases h1
  obtain ⟨r0, e0, _⟩ := reads_int Try.underlying22 h2; cases e0
  obtain ⟨_, h1, h2⟩ := ht 2 c rfl; cases h1
  obtain ⟨p0, e0, _⟩ := reads_int Try.underlying3 h2; cases e0
  obtain ⟨_, h1, h2⟩ := ht 3 d rfl; cases h1
  obtain ⟨d0, e0, _⟩ := reads_int Try.underlying22 h2; cases e0
  obtain ⟨_, h1, h2⟩ := ht 4 e rfl; cases h1
  obtain ⟨b0, e0, _⟩ := reads_int Try.underlying22 h2; cases e0
  refine ⟨⟨r0, b, p0, d0, b0, r, hr, ?_⟩, rfl, trivial⟩
  rw [List.all_cons, hone 1 b rfl, Bool.true_and]
  refine List.all_eq_true.2 fun v hv => ?_
  obtain ⟨i, hi, rfl⟩ := List.getElem_of_mem hv
  exact hone (i + 5) _ (by simp [hi])
theorem open_nbs {v : Value} {d : DataW H} {p : List MemPlace} {b0 : Nat} (hv : Value.okWide Try.prog w .any b0 23 v) (h : DataW.Trod enc Try.prog w base spare held 23 v d p) :
    ∃ ao L c, v = .slice ao L.length c ∧ Nbs w ao L := by
  obtain ⟨ao, L, c, h1, h2, _⟩ := open_list (φ := fun _ => True) Nb.cells Try.underlying23 (by kernel_rfl) hv h nb_of
  exact ⟨ao, L, c, h1, Nbs.of_arr h2⟩
theorem len_bound {P : Program} {ts : List TypeId} {ds : List (DataW H)} {j : Nat} {t e : TypeId} {ao : Option Addr} {n c : Nat} {d : DataW H} {p : List MemPlace} (hsz : (DataW.weightsEach P ts ds).all (· ≤ reachBytes) = true) (hj : ts[j]? = some t) (hd : ds[j]? = some d)
    (ht : P.underlying t = some (.slice e)) (h : DataW.Trod enc P w base spare held t (.slice ao n c) d p) : n * P.bytesOf e ≤ reachBytes := by
  have hl := sliceLen_Trod ht h
  cases d with
  | slice el sp =>
    have hb := sized_slice hsz hj hd ht
    have : el.length = n := hl
    rw [← this]
    exact Nat.le_trans (Nat.mul_le_mul_right _ (Nat.le_add_right ..)) hb
  | _ =>
    have : 0 = n := hl
    rw [← this, Nat.zero_mul]; exact Nat.zero_le _
theorem open_nbs_sized {ts : List TypeId} {ds : List (DataW H)} {j : Nat} {v : Value} {d : DataW H} {p : List MemPlace} {b0 : Nat} (hsz : (DataW.weightsEach Try.prog ts ds).all (· ≤ reachBytes) = true) (hj : ts[j]? = some 23) (hd : ds[j]? = some d) (hv : Value.okWide Try.prog w .any b0 23 v) (h : DataW.Trod enc Try.prog w base spare held 23 v d p) :
    ∃ ao L c, v = .slice ao L.length c ∧ Nbs w ao L ∧ L.length * 168 ≤ 140737488355328 := by
  obtain ⟨ao, L, c, rfl, h2⟩ := open_nbs hv h
  refine ⟨ao, L, c, rfl, h2, ?_⟩
  have := len_bound hsz hj hd Try.underlying23 h
  have e : Try.prog.bytesOf 31 = 168 := by kernel_rfl
  rw [e] at this
  unfold reachBytes at this
  omega
end
end Go.Proofs.Ytfakgiikobajnaa

/-
  Layer 42 (damping): the arguments of the laws on times and on changes, read off what the rows say.
  No conditions beyond those that each statement names.
-/
import Derived.Test.YtgnlhfndjpdpkaaDoorDampOpen
import Derived.Test.YtgnlhfndjpdpkaaDoorDampL5
import Derived.Deep.SlicePairs
namespace Go.Proofs.YtgnlhfndjpdpkaaDoor
open Go.ChangeShapes Go.WideShapes Go.ChangeAt Go.WideElems Go.RowKit Go.Joins

section
variable {H : Type} {enc : TypeId × Value → H}
theorem open_pair {w : World} {b0 : Nat} {spare : Nat → Bool} {held : Bool} {v : Value} {d : DataW H} {p : List MemPlace} (hv : Value.okWide Tryd.prog w .any b0 40 v) (h : DataW.Trod enc Tryd.prog w 0 spare held 40 v d p) : ∃ x y, v = .agg #[.int .i64 x, .int .i64 y] := by
  obtain ⟨cs, rfl, hsz⟩ : ∃ cs, v = .agg cs ∧ cs.size = Tryd.prog.cellsOf 40 := by
    simp only [Value.okWide, Tryd.underlying40] at hv
    obtain ⟨cs, h1, h2, _⟩ := hv
    exact ⟨cs, h1, h2⟩
  obtain ⟨fuel, hf⟩ := h
  obtain ⟨xs, m1, rfl, hx1, hlen, hn2, hel⟩ := DataW.trod_array Tryd.underlying40 hf
  have c3 : Tryd.prog.cellsOf 3 = 1 := by kernel_rfl
  have c40 : Tryd.prog.cellsOf 40 = 2 := by kernel_rfl
  have h0 := hel 0 (by decide)
  have h1 := hel 1 (by decide)
  rw [c40] at hsz
  rw [c3] at h0 h1
  obtain ⟨l0⟩ := cs
  match l0, hsz, xs, hn2, h0, h1 with
  | [u0, u1], _, [x0, x1], _, h0, h1 =>
    obtain ⟨k0, e0, f0, _⟩ := DataW.trod_int Tryd.underlying3 (show DataW.trod _ Tryd.prog w 0 _ _ m1 3 [u0] = some x0 from h0)
    obtain ⟨k1, e1, f1, _⟩ := DataW.trod_int Tryd.underlying3 (show DataW.trod _ Tryd.prog w 0 _ _ m1 3 [u1] = some x1 from h1)
    cases e0; cases e1
    exact ⟨k0, k1, rfl⟩
theorem wf64 {n : Int} (h : (Lit.int .i64 n).wf = true) : -9223372036854775808 ≤ n ∧ n ≤ 9223372036854775807 := by
  simp [Lit.wf, IntKind.min, IntKind.max, IntKind.bits, IntKind.signed] at h; omega
theorem open_flaps {w : World} {b0 : Nat} {spare : Nat → Bool} {held : Bool} {v : Value} {d : DataW H} {p : List MemPlace} (hv : Value.okWide Tryd.prog w .any b0 33 v) (h : DataW.Trod enc Tryd.prog w 0 spare held 33 v d p) :
    ∃ ao n cp F G, v = .slice ao n cp ∧ Row w ao n F G ∧ ∀ k, k < n → -9223372036854775808 ≤ F k ∧ F k ≤ 9223372036854775807 := by
  obtain ⟨ao, n, cp, rfl⟩ := okWide_slice Tryd.underlying33 hv
  obtain ⟨fuel, hf⟩ := h
  have hcs : (Value.slice ao n cp).cells.toList = [.slice ao n cp] := rfl
  rw [hcs] at hf
  rcases Go.Deep.open_slice_pairs Tryd.underlying33 Tryd.underlying35 (by kernel_rfl) (by rfl) (by rfl) (by kernel_rfl) (by kernel_rfl) hf with ⟨h1, _⟩ | ⟨ad, len, cap, m, n', V0, V1, D0, D1, P0, P1, h1, _, hl, _, hm, _, hi⟩
  · simp only [List.cons.injEq, Value.slice.injEq, and_true] at h1
    obtain ⟨rfl, rfl, rfl⟩ := h1
    exact ⟨_, _, _, fun _ => 0, fun _ => false, rfl, fun k hk => by omega, fun k hk => by omega⟩
  · simp only [List.cons.injEq, Value.slice.injEq, and_true] at h1
    obtain ⟨rfl, rfl, rfl⟩ := h1
    have hnm : n ≤ m := by rw [hm]; split <;> omega
    have each : ∀ i, ∃ q : Int × Bool, i < n → Cells w (ad.add (i * 2)) [.int .i64 q.1, .bool q.2] ∧ (Lit.int .i64 q.1).wf = true := fun i => by
      by_cases hin : i < n
      · obtain ⟨c0, c1, t0, t1⟩ := hi i (by omega)
        obtain ⟨k0, e0, _, w0⟩ := DataW.trod_int Tryd.underlying3 t0
        obtain ⟨k1, e1, _⟩ := DataW.trod_bool Tryd.underlying4 t1
        simp only [List.cons.injEq, and_true] at e0 e1
        refine ⟨(k0, k1), fun _ => ⟨fun j u hj => ?_, w0⟩⟩
        rw [Go.Deep.add_add]
        match j, hj with
        | 0, hj => cases hj; rw [Nat.add_zero, c0, e0]
        | 1, hj => cases hj; rw [c1, e1]
      · exact ⟨(0, false), fun h => absurd h hin⟩
    obtain ⟨q, hq⟩ := Classical.axiomOfChoice each
    exact ⟨some ad, n, cp, fun i => (q i).1, fun i => (q i).2, rfl, fun k hk => ⟨ad, rfl, (hq k hk).1⟩, fun k hk => wf64 (hq k hk).2⟩
end
end Go.Proofs.YtgnlhfndjpdpkaaDoor

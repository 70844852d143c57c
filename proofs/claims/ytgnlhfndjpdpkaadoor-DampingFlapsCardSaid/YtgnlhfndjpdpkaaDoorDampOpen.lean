/-
  Layer 42 (damping): the arguments and the table of penalties, read off what the rows say.
  No conditions beyond those that each statement names.
-/
import Derived.Test.YtgnlhfndjpdpkaaDoorRows
import Derived.Test.YtgnlhfndjpdpkaaDoorFrame
import Derived.Test.YtgnlhfndjpdpkaaDoorDampL
import Derived.LaidMore
import Derived.OpenShut
import Derived.Stop.Joined
import Derived.Lib.SmallJoins
namespace Go.Proofs.YtgnlhfndjpdpkaaDoor
open Go.ChangeShapes Go.WideShapes Go.ChangeAt Go.WideElems Go.RowKit Go.Joins

theorem own : ownKnob Tryd.prog.godebug = none := by kernel_rfl
abbrev laidP {H : Type} : List (String × DataW H) := [("routing/damping.penalties", Rows.laid_routing_damping_penalties)]
section
variable {H : Type} {enc : TypeId × Value → H}
theorem open_conf {w : World} {b0 : Nat} {spare : Nat → Bool} {held : Bool} {v : Value} {d : DataW H} {p : List MemPlace} (hv : Value.okWide Tryd.prog w .any b0 23 v) (h : DataW.Trod enc Tryd.prog w 0 spare held 23 v d p) : ∃ H R S M, v = confV H R S M := by
  obtain ⟨v0, v1, v2, v3, y0, y1, y2, y3, n, rfl, rfl, rfl, h0, h1, h2, h3⟩ := open_agg4 Tryd.underlying23 (by kernel_rfl) (by kernel_rfl) hv h
  obtain ⟨k0, e0, _⟩ := DataW.trod_int Tryd.underlying3 h0
  obtain ⟨k1, e1, _⟩ := DataW.trod_int Tryd.underlying3 h1
  obtain ⟨k2, e2, _⟩ := DataW.trod_int Tryd.underlying3 h2
  obtain ⟨k3, e3, _⟩ := DataW.trod_int Tryd.underlying3 h3
  cases e0; cases e1; cases e2; cases e3
  exact ⟨k0, k1, k2, k3, rfl⟩
theorem open_damp {w : World} {b0 : Nat} {spare : Nat → Bool} {held : Bool} {v : Value} {d : DataW H} {p : List MemPlace} (hv : Value.okWide Tryd.prog w .any b0 29 v) (h : DataW.Trod enc Tryd.prog w 0 spare held 29 v d p) : ∃ P A S, v = dampV P A S := by
  obtain ⟨v0, v1, v2, y0, y1, y2, n, rfl, rfl, rfl, h0, h1, h2⟩ := open_agg3 Tryd.underlying29 (by kernel_rfl) (by kernel_rfl) hv h
  obtain ⟨k0, e0, _⟩ := DataW.trod_int Tryd.underlying3 h0
  obtain ⟨k1, e1, _⟩ := DataW.trod_int Tryd.underlying3 h1
  obtain ⟨k2, e2, _⟩ := DataW.trod_bool Tryd.underlying4 h2
  cases e0; cases e1; cases e2
  exact ⟨k0, k1, k2, rfl⟩
end

theorem gPen : Tryd.prog.globalNamed "routing/damping.penalties" = some 0 := by kernel_rfl
theorem tPen : (Tryd.prog.globals[0]?).map (·.type) = some 40 := by kernel_rfl
theorem of_laid {W : World} (h : laidMetH Tryd.prog laidP W) : Tab W := by
  rw [MakeChecks.laidMetH_plain _ _ _ (by kernel_rfl)] at h
  obtain ⟨ps, ⟨g0, t0, cs0, f0, p0, q0, hg0, ht0, hv0, hd0, _, _⟩, _, _⟩ := h
  obtain rfl := Option.some.inj (gPen.symm.trans hg0)
  obtain rfl := Option.some.inj (tPen.symm.trans ht0)
  obtain ⟨xs, m1, rfl, hx1, hlen, hn2, hel⟩ := DataW.trod_array Tryd.underlying40 hd0
  have c3 : Tryd.prog.cellsOf 3 = 1 := by kernel_rfl
  have c40 : Tryd.prog.cellsOf 40 = 2 := by kernel_rfl
  have h0 := hel 0 (by decide)
  have h1 := hel 1 (by decide)
  rw [c40] at hlen
  rw [c3] at h0 h1
  obtain ⟨l0⟩ := cs0
  match l0, hlen, xs, hn2, hx1, h0, h1 with
  | [u0, u1], _, [x0, x1], _, hx1, h0, h1 =>
    simp only [Prod.mk.injEq, DataW.agg.injEq, List.map_cons, List.map_nil, List.cons.injEq, Rows.laid_routing_damping_penalties] at hx1
    obtain ⟨k0, e0, f0, _⟩ := DataW.trod_int Tryd.underlying3 (show DataW.trod _ Tryd.prog W 0 _ false m1 3 [u0] = some x0 from h0)
    obtain ⟨k1, e1, f1, _⟩ := DataW.trod_int Tryd.underlying3 (show DataW.trod _ Tryd.prog W 0 _ false m1 3 [u1] = some x1 from h1)
    have hk0 : k0 = 1000 := by rw [f0] at hx1; simpa using hx1.1.1.symm
    have hk1 : k1 = 500 := by rw [f1] at hx1; simpa using hx1.1.2.1.symm
    subst hk0; subst hk1
    cases e0; cases e1
    exact ⟨by simpa using World.var?_cell hg0 hv0 0, by simpa using World.var?_cell hg0 hv0 1⟩
/-- The door's own heap meets the condition. -/
theorem door_met (os : Os) (args : Array Value) : laidMetH Tryd.prog laidP ((World.doorLaid Tryd.prog 400 os).forCall (fun _ _ => 0) ⟨#[], args, []⟩).memory :=
  laidMetH_of_parts3 (fuel := 8) (laidMet_of_run' 8 (by kernel_rfl) (by kernel_rfl)) (by kernel_rfl) (by kernel_rfl)
end Go.Proofs.YtgnlhfndjpdpkaaDoor

/-
  Entries: the arguments, read off what the rows say.
  No conditions beyond those that each statement names.
-/
import Derived.Test.YtphifkbeanneaaaOpen
import Derived.Test.YtphifkbeanneaaaTrL
namespace Go.Proofs.Ytphifkbeanneaaa
open Go.ChangeShapes Go.WideShapes Go.ChangeAt Go.RowKit Go.Joins Go.Deep

theorem own : ownKnob Try.prog.godebug = none := by kernel_rfl
theorem uPrefix : ∃ fs, Try.prog.underlying 33 = some (.struct fs) ∧ fs.map (fun f => (f.type, f.offset)) = #[(23, 0), (3, 1)] := ⟨_, Try.underlying33, by kernel_rfl⟩
theorem uEntry : ∃ fs, Try.prog.underlying 35 = some (.struct fs) ∧ fs.map (fun f => (f.type, f.offset)) = #[(33, 0), (3, 2)] := ⟨_, Try.underlying35, by kernel_rfl⟩
theorem two_fields {fs : Array Field} {t0 t1 : TypeId} {o0 o1 : Nat} (h : fs.map (fun f => (f.type, f.offset)) = #[(t0, o0), (t1, o1)]) : ∃ f0 f1, fs[0]? = some f0 ∧ fs[1]? = some f1 ∧ f0.type = t0 ∧ f0.offset = o0 ∧ f1.type = t1 ∧ f1.offset = o1 := by
  have hs : fs.size = 2 := by have := congrArg Array.size h; simpa using this
  have h0 : fs[0]? = some (fs[0]'(by omega)) := Array.getElem?_eq_getElem (by omega)
  have h1 : fs[1]? = some (fs[1]'(by omega)) := Array.getElem?_eq_getElem (by omega)
  have e0 : (fs.map (fun f => (f.type, f.offset)))[0]? = some (t0, o0) := by rw [h]; rfl
  have e1 : (fs.map (fun f => (f.type, f.offset)))[1]? = some (t1, o1) := by rw [h]; rfl
  rw [Array.getElem?_map, h0] at e0
  rw [Array.getElem?_map, h1] at e1
  simp only [Option.map_some, Option.some.injEq, Prod.mk.injEq] at e0 e1
  exact ⟨_, _, h0, h1, e0.1, e0.2, e1.1, e1.2⟩
section
variable {H : Type} {enc : TypeId × Value → H} {w : World} {base : Nat} {spare : Nat → Bool} {held : Bool}
theorem addr_of {cs : List Value} (h : Reads enc Try.prog w base spare held 23 cs) : ∃ a : Nat, cs = [.int .u32 a] ∧ a < 4294967296 := by
  obtain ⟨n, e, hw⟩ := reads_int Try.underlying23 h
  have hb := bounds_u32 hw
  exact ⟨n.toNat, by rw [e, Int.toNat_of_nonneg hb.1], by omega⟩
theorem pf_of {cs : List Value} (h : Reads enc Try.prog w base spare held 33 cs) : ∃ p : Pf, cs = p.cells ∧ p.a < 4294967296 ∧ (Lit.int .i64 p.n).wf = true := by
  obtain ⟨fs, hu, hm⟩ := uPrefix
  obtain ⟨f0, f1, g0, g1, t0, o0, t1, o1⟩ := two_fields hm
  obtain ⟨hl, hf⟩ := reads_struct hu h
  have hC : Try.prog.cellsOf 33 = 2 := by kernel_rfl
  have c0 : Try.prog.cellsOf 23 = 1 := by kernel_rfl
  have c1 : Try.prog.cellsOf 3 = 1 := by kernel_rfl
  have h0 := hf 0 f0 g0
  have h1 := hf 1 f1 g1
  rw [t0, o0, c0] at h0
  rw [t1, o1, c1] at h1
  rw [hC] at hl
  match cs, hl with
  | [x, y], _ =>
    obtain ⟨a, e0, ha⟩ := addr_of h0
    obtain ⟨n, e1, hn⟩ := reads_int Try.underlying3 h1
    simp only [List.drop_zero, List.take_succ_cons, List.take_zero, List.drop_succ_cons, List.cons.injEq, and_true] at e0 e1
    subst e0; subst e1
    exact ⟨⟨a, n⟩, rfl, ha, hn⟩
theorem en_of (cs : List Value) (h : Reads enc Try.prog w base spare held 35 cs) (hl : cs.length = 3) : ∃ e : En, cs = e.cells ∧ (e.p.a < 4294967296 ∧ (Lit.int .i64 e.p.n).wf = true ∧ (Lit.int .i64 e.v).wf = true) := by
  obtain ⟨fs, hu, hm⟩ := uEntry
  obtain ⟨f0, f1, g0, g1, t0, o0, t1, o1⟩ := two_fields hm
  obtain ⟨_, hf⟩ := reads_struct hu h
  have c0 : Try.prog.cellsOf 33 = 2 := by kernel_rfl
  have c1 : Try.prog.cellsOf 3 = 1 := by kernel_rfl
  have h0 := hf 0 f0 g0
  have h1 := hf 1 f1 g1
  rw [t0, o0, c0] at h0
  rw [t1, o1, c1] at h1
  match cs, hl with
  | [x, y, z], _ =>
    obtain ⟨p, e0, ha, hn⟩ := pf_of h0
    obtain ⟨v, e1, hv⟩ := reads_int Try.underlying3 h1
    simp only [List.drop_zero, List.take_succ_cons, List.take_zero, List.drop_succ_cons, List.cons.injEq, and_true, Pf.cells] at e0 e1
    obtain ⟨rfl, rfl⟩ := e0
    subst e1
    exact ⟨⟨p, v⟩, rfl, ha, hn, hv⟩
theorem open_ens {v : Value} {d : DataW H} {p : List MemPlace} {b0 : Nat} (hv : Value.okWide Try.prog w .any b0 41 v) (h : DataW.Trod enc Try.prog w base spare held 41 v d p) :
    ∃ ao L c, v = .slice ao L.length c ∧ Ens w ao L ∧ ∀ e ∈ L, e.p.a < 4294967296 := by
  obtain ⟨ao, L, c, h1, h2, _, _, h3⟩ := open_list (φ := fun e : En => e.p.a < 4294967296 ∧ (Lit.int .i64 e.p.n).wf = true ∧ (Lit.int .i64 e.v).wf = true) En.cells Try.underlying41 (by kernel_rfl) hv h en_of
  exact ⟨ao, L, c, h1, h2, fun e he => (h3 e he).1⟩
theorem open_addr {v : Value} {d : DataW H} {p : List MemPlace} {b0 : Nat} (hv : Value.okWide Try.prog w .any b0 23 v) (h : DataW.Trod enc Try.prog w base spare held 23 v d p) : ∃ a : Nat, v = .int .u32 a ∧ a < 4294967296 := by
  obtain ⟨n, rfl, _, _, hw⟩ := open_int Try.underlying23 hv h
  have hb := bounds_u32 hw
  exact ⟨n.toNat, by rw [Int.toNat_of_nonneg hb.1], by omega⟩
theorem open_pf {v : Value} {d : DataW H} {p : List MemPlace} {b0 : Nat} (hv : Value.okWide Try.prog w .any b0 33 v) (h : DataW.Trod enc Try.prog w base spare held 33 v d p) : ∃ p : Pf, v = p.val ∧ p.a < 4294967296 := by
  obtain ⟨cs, rfl, _⟩ := okWide_struct Try.underlying33 hv
  obtain ⟨q, h1, h2, _⟩ := pf_of (reads_of h)
  refine ⟨q, ?_, h2⟩
  have : cs.toList = q.cells := h1
  have h4 : cs = q.cells.toArray := by rw [← this, Array.toArray_toList]
  rw [h4]; rfl
end
end Go.Proofs.Ytphifkbeanneaaa

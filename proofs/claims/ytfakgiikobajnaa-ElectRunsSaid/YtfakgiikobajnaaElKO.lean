/-
  Layer 27 (elect): the state of an interface, read off what the rows say.
  No conditions beyond those that each statement names.
-/
import Derived.Test.YtfakgiikobajnaaOpenW
import Derived.Test.YtfakgiikobajnaaElOpen
import Derived.Test.YtfakgiikobajnaaElKP
namespace Go.Proofs.Ytfakgiikobajnaa
open Go.ChangeShapes Go.WideShapes Go.ChangeAt Go.RowKit Go.Joins Go.Deep

theorem uHd : ∃ fs, Try.prog.underlying 60 = some (.struct fs) ∧ (fs.map (fun f => (f.type, f.offset))).toList = [(3, 0), (22, 1), (3, 2), (22, 3), (3, 4), (3, 5), (3, 6)] := ⟨_, Try.underlying60, by kernel_rfl⟩
theorem uNb : ∃ fs, Try.prog.underlying 31 = some (.struct fs) ∧ (fs.map (fun f => (f.type, f.offset))).toList = [(22, 0), (28, 1), (3, 2), (22, 3), (22, 4), (3, 5), (3, 6), (4, 7), (3, 8), (29, 9), (29, 10), (4, 11), (29, 12), (29, 13), (3, 14)] := ⟨_, Try.underlying31, by kernel_rfl⟩
theorem uPf : ∃ fs, Try.prog.underlying 35 = some (.struct fs) ∧ (fs.map (fun f => (f.type, f.offset))).toList = [(28, 0), (3, 1)] := ⟨_, Try.underlying35, by kernel_rfl⟩
theorem uIf : ∃ fs, Try.prog.underlying 37 = some (.struct fs) ∧ (fs.map (fun f => (f.type, f.offset))).toList = [(3, 0), (35, 1), (28, 3), (22, 4), (3, 5), (3, 6), (3, 7), (3, 8)] := ⟨_, Try.underlying37, by kernel_rfl⟩
theorem uIs : ∃ fs, Try.prog.underlying 39 = some (.struct fs) ∧ (fs.map (fun f => (f.type, f.offset))).toList = [(37, 0), (4, 9), (22, 10), (22, 11), (3, 12), (3, 13), (23, 14)] := ⟨_, Try.underlying39, by kernel_rfl⟩
theorem c22 : Try.prog.cellsOf 22 = 1 := by kernel_rfl
theorem c28 : Try.prog.cellsOf 28 = 1 := by kernel_rfl
theorem c3 : Try.prog.cellsOf 3 = 1 := by kernel_rfl
theorem c4 : Try.prog.cellsOf 4 = 1 := by kernel_rfl
theorem c29 : Try.prog.cellsOf 29 = 1 := by kernel_rfl
theorem c23 : Try.prog.cellsOf 23 = 1 := by kernel_rfl
theorem cPf : Try.prog.cellsOf 35 = 2 := by kernel_rfl
theorem cIf : Try.prog.cellsOf 37 = 9 := by kernel_rfl
section
variable {H : Type} {enc : TypeId × Value → H} {w : World} {base : Nat} {spare : Nat → Bool} {held : Bool}
theorem int_at {cs : List Value} {o : Nat} {t : TypeId} {k : IntKind} {v : Value} (hu : Try.prog.underlying t = some (.int k)) (hc : Try.prog.cellsOf t = 1) (h : RW enc Try.prog w base spare held t ((cs.drop o).take (Try.prog.cellsOf t))) (hv : cs[o]? = some v) : ∃ n, v = .int k n := by
  obtain ⟨hi, e⟩ := List.getElem?_eq_some_iff.1 hv
  rw [hc, List.drop_eq_getElem_cons hi, e] at h
  obtain ⟨n, h1, _⟩ := reads_int hu h.reads
  cases h1; exact ⟨n, rfl⟩
theorem bool_at {cs : List Value} {o : Nat} {v : Value} (h : RW enc Try.prog w base spare held 4 ((cs.drop o).take (Try.prog.cellsOf 4))) (hv : cs[o]? = some v) : ∃ b, v = .bool b := by
  obtain ⟨hi, e⟩ := List.getElem?_eq_some_iff.1 hv
  rw [c4, List.drop_eq_getElem_cons hi, e] at h
  obtain ⟨b, h1⟩ := reads_bool Try.underlying4 h.reads
  cases h1; exact ⟨b, rfl⟩
theorem hd_of (cs : List Value) (h : RW enc Try.prog w base spare held 60 cs) (hl : cs.length = 7) : ∃ x : Hd, cs = x.cells ∧ True := by
  obtain ⟨fs, hu, hm⟩ := uHd
  obtain ⟨_, hf⟩ := h.fields hu hm
  match cs, hl with
  | [x0, x1, x2, x3, x4, x5, x6], _ =>
    obtain ⟨a, rfl⟩ := int_at Try.underlying3 c3 (hf 0 _ _ rfl) rfl
    obtain ⟨b, rfl⟩ := int_at Try.underlying22 c22 (hf 1 _ _ rfl) rfl
    obtain ⟨c, rfl⟩ := int_at Try.underlying3 c3 (hf 2 _ _ rfl) rfl
    obtain ⟨d, rfl⟩ := int_at Try.underlying22 c22 (hf 3 _ _ rfl) rfl
    obtain ⟨e, rfl⟩ := int_at Try.underlying3 c3 (hf 4 _ _ rfl) rfl
    obtain ⟨f, rfl⟩ := int_at Try.underlying3 c3 (hf 5 _ _ rfl) rfl
    obtain ⟨g, rfl⟩ := int_at Try.underlying3 c3 (hf 6 _ _ rfl) rfl
    exact ⟨⟨a, b, c, d, e, f, g⟩, rfl, trivial⟩
theorem hds_at {cs : List Value} {o : Nat} {v : Value} (h : RW enc Try.prog w base spare held 29 ((cs.drop o).take (Try.prog.cellsOf 29))) (hv : cs[o]? = some v) : ∃ s : Sl, v = .slice s.ao s.n s.c ∧ ∃ H, HsB w s H := by
  obtain ⟨hi, e⟩ := List.getElem?_eq_some_iff.1 hv
  rw [c29, List.drop_eq_getElem_cons hi, e] at h
  obtain ⟨ao, L, c, h1, h2, hz, _, _, h3, _⟩ := RW.list (φ := fun _ => True) Hd.cells Try.underlying29 (by kernel_rfl) h hd_of
  cases h1
  refine ⟨⟨ao, L.length, c⟩, rfl, L, ⟨h2, rfl⟩, ?_, hz⟩
  have e : Try.prog.bytesOf 60 = 56 := by kernel_rfl
  rw [e] at h3
  unfold reachBytes at h3; omega
theorem nf_of (cs : List Value) (h : RW enc Try.prog w base spare held 31 cs) (hl : cs.length = 15) : ∃ x : Nf, cs = x.cells ∧ HdsOk w x := by
  obtain ⟨fs, hu, hm⟩ := uNb
  obtain ⟨_, hf⟩ := h.fields hu hm
  match cs, hl with
  | [x0, x1, x2, x3, x4, x5, x6, x7, x8, x9, x10, x11, x12, x13, x14], _ =>
    obtain ⟨r, rfl⟩ := int_at Try.underlying22 c22 (hf 0 _ _ rfl) rfl
    obtain ⟨ad, rfl⟩ := int_at Try.underlying28 c28 (hf 1 _ _ rfl) rfl
    obtain ⟨p, rfl⟩ := int_at Try.underlying3 c3 (hf 2 _ _ rfl) rfl
    obtain ⟨d, rfl⟩ := int_at Try.underlying22 c22 (hf 3 _ _ rfl) rfl
    obtain ⟨b, rfl⟩ := int_at Try.underlying22 c22 (hf 4 _ _ rfl) rfl
    obtain ⟨st, rfl⟩ := int_at Try.underlying3 c3 (hf 5 _ _ rfl) rfl
    obtain ⟨un, rfl⟩ := int_at Try.underlying3 c3 (hf 6 _ _ rfl) rfl
    obtain ⟨ma, rfl⟩ := bool_at (hf 7 _ _ rfl) rfl
    obtain ⟨sq, rfl⟩ := int_at Try.underlying3 c3 (hf 8 _ _ rfl) rfl
    obtain ⟨li, rfl, h1⟩ := hds_at (hf 9 _ _ rfl) rfl
    obtain ⟨se, rfl, h2⟩ := hds_at (hf 10 _ _ rfl) rfl
    obtain ⟨mo, rfl⟩ := bool_at (hf 11 _ _ rfl) rfl
    obtain ⟨re, rfl, h3⟩ := hds_at (hf 12 _ _ rfl) rfl
    obtain ⟨ua, rfl, h4⟩ := hds_at (hf 13 _ _ rfl) rfl
    obtain ⟨rs, rfl⟩ := int_at Try.underlying3 c3 (hf 14 _ _ rfl) rfl
    exact ⟨⟨r, ad, p, d, b, st, un, ma, sq, li, se, mo, re, ua, rs⟩, rfl, h1, h2, h3, h4⟩
theorem open_ist {ts : List TypeId} {ds : List (DataW H)} {j : Nat} {v : Value} {d : DataW H} {p : List MemPlace} {b0 : Nat} (hsz : (DataW.weightsEach Try.prog ts ds).all (· ≤ reachBytes) = true) (hj : ts[j]? = some 39) (hd : ds[j]? = some d) (hv : Value.okWide Try.prog w .any b0 39 v) (h : DataW.Trod enc Try.prog w base spare held 39 v d p) :
    ∃ (s : Ist) (L : List Nf), v = s.val ∧ Nfs w s.nb.ao L ∧ s.nb.n = L.length ∧ L.length * 168 ≤ 140737488351232 ∧ (s.nb.ao = none → L = []) ∧ s.nb.n ≤ s.nb.c ∧ ∀ x ∈ L, HdsOk w x := by
  have hrw := rw_of hsz hj hd h
  obtain ⟨cs, rfl, _⟩ := okWide_struct Try.underlying39 hv
  have hrw : RW enc Try.prog w base spare held 39 cs.toList := hrw
  obtain ⟨fs, hu, hm⟩ := uIs
  obtain ⟨hl, hf⟩ := hrw.fields hu hm
  have hC : Try.prog.cellsOf 39 = 15 := by kernel_rfl
  rw [hC] at hl
  have hcs : cs = cs.toList.toArray := by simp
  generalize cs.toList = l at *
  subst hcs
  match l, hl with
  | [x0, x1, x2, x3, x4, x5, x6, x7, x8, x9, x10, x11, x12, x13, x14], _ =>
    have h0 := hf 0 _ _ rfl
    rw [cIf] at h0
    obtain ⟨gs, gu, gm⟩ := uIf
    obtain ⟨_, gf⟩ := h0.fields gu gm
    have h1 := gf 1 _ _ rfl
    rw [cPf] at h1
    obtain ⟨qs, qu, qm⟩ := uPf
    obtain ⟨_, qf⟩ := h1.fields qu qm
    obtain ⟨k, rfl⟩ := int_at Try.underlying3 c3 (gf 0 _ _ rfl) rfl
    obtain ⟨pa, rfl⟩ := int_at Try.underlying28 c28 (qf 0 _ _ rfl) rfl
    obtain ⟨pl, rfl⟩ := int_at Try.underlying3 c3 (qf 1 _ _ rfl) rfl
    obtain ⟨ad, rfl⟩ := int_at Try.underlying28 c28 (gf 2 _ _ rfl) rfl
    obtain ⟨ar, rfl⟩ := int_at Try.underlying22 c22 (gf 3 _ _ rfl) rfl
    obtain ⟨co, rfl⟩ := int_at Try.underlying3 c3 (gf 4 _ _ rfl) rfl
    obtain ⟨pr, rfl⟩ := int_at Try.underlying3 c3 (gf 5 _ _ rfl) rfl
    obtain ⟨he, rfl⟩ := int_at Try.underlying3 c3 (gf 6 _ _ rfl) rfl
    obtain ⟨de, rfl⟩ := int_at Try.underlying3 c3 (gf 7 _ _ rfl) rfl
    obtain ⟨up, rfl⟩ := bool_at (hf 1 _ _ rfl) rfl
    obtain ⟨d, rfl⟩ := int_at Try.underlying22 c22 (hf 2 _ _ rfl) rfl
    obtain ⟨b, rfl⟩ := int_at Try.underlying22 c22 (hf 3 _ _ rfl) rfl
    obtain ⟨el, rfl⟩ := int_at Try.underlying3 c3 (hf 4 _ _ rfl) rfl
    obtain ⟨nh, rfl⟩ := int_at Try.underlying3 c3 (hf 5 _ _ rfl) rfl
    have h6 := hf 6 _ _ rfl
    rw [c23] at h6
    obtain ⟨ao, L, c, h7, h8, h9, h10, _, h11, h12⟩ := RW.list Nf.cells Try.underlying23 (by kernel_rfl) h6 nf_of
    have h7 : [x14] = [.slice ao L.length c] := h7
    cases h7
    refine ⟨⟨k, pa, pl, ad, ar, co, pr, he, de, up, d, b, el, nh, ⟨ao, L.length, c⟩⟩, L, rfl, h8, rfl, ?_, h9, h10, h12⟩
    have e : Try.prog.bytesOf 31 = 168 := by kernel_rfl
    rw [e] at h11
    unfold reachBytes at h11; omega
end
end Go.Proofs.Ytfakgiikobajnaa

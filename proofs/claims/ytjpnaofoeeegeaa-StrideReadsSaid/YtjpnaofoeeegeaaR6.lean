/-
  Part 6 of the texts that the proof of this claim leans on: rules of a walk, contracts of functions, plain facts. Each piece says below what it proves.
  No conditions beyond those that each lemma states.
-/
import Derived.Test.YtjpnaofoeeegeaaR5
import Derived.Deep.Slices
import Derived.Deep.Fields
import Derived.ChangeSame
import Derived.OpenShut
import Derived.Lib.SmallJoins
import Derived.ProofKit

/-
  What lies behind an argument that is a slice: a list, each of whose elements is read by its type.
  No conditions beyond those that each statement names.
-/
namespace Go.Proofs.Ytjpnaofoeeegeaa
open Go.ChangeShapes Go.WideShapes Go.ChangeAt Go.RowKit Go.Joins Go.Deep

section
variable {H : Type} {enc : TypeId × Value → H} {P : Program} {w : World} {base : Nat} {spare : Nat → Bool} {held : Bool}
/-- The cells read as a datum of the type. -/
def Reads (enc : TypeId × Value → H) (P : Program) (w : World) (base : Nat) (spare : Nat → Bool) (held : Bool) (t : TypeId) (cs : List Value) : Prop := ∃ n x, DataW.trod enc P w base spare held n t cs = some x
theorem reads_of {t : TypeId} {v : Value} {d : DataW H} {p : List MemPlace} (h : DataW.Trod enc P w base spare held t v d p) : Reads enc P w base spare held t v.cells.toList := by
  obtain ⟨n, hf⟩ := h
  exact ⟨n, _, hf⟩
theorem reads_int {t : TypeId} {k : IntKind} {cs : List Value} (ht : P.underlying t = some (.int k)) (h : Reads enc P w base spare held t cs) : ∃ n, cs = [.int k n] ∧ (Lit.int k n).wf = true := by
  obtain ⟨n, x, h⟩ := h
  obtain ⟨n, h1, _, h2⟩ := DataW.trod_int ht h
  exact ⟨n, h1, h2⟩
theorem reads_slice {t e : TypeId} {cs : List Value} (ht : P.underlying t = some (.slice e)) (h : Reads enc P w base spare held t cs) :
    ∃ (ao : Option Addr) (len cap : Nat) (D : Nat → List Value), cs = [.slice ao len cap] ∧ len ≤ cap ∧ cap ≤ maxLen ∧ (ao = none → len = 0) ∧
      ∀ i, i < len → ∃ ad, ao = some ad ∧ (D i).length = P.cellsOf e ∧ Cells w (ad.add (i * P.cellsOf e)) (D i) ∧ Reads enc P w base spare held e (D i) := by
  obtain ⟨n, x, h⟩ := h
  rcases open_slice ht h with ⟨rfl, _⟩ | ⟨a, len, cap, m, n, D, Pl, rfl, hb, hl, hm, hmm, _, hx⟩
  · exact ⟨none, 0, 0, fun _ => [], rfl, Nat.le_refl _, Nat.zero_le _, fun _ => rfl, fun i h => by omega⟩
  · have hlm : len ≤ m := by rw [hmm]; split <;> omega
    have each : ∀ i, i < len → ∃ q : List Value, q.length = P.cellsOf e ∧ Cells w (a.add (i * P.cellsOf e)) q ∧ Reads enc P w base spare held e q := by
      intro i hi
      obtain ⟨cs', h1, h2⟩ := hx i (by omega)
      obtain ⟨_, hlen, hcell⟩ := World.cells?_some h1
      refine ⟨cs', hlen, fun j v hj => ?_, n, _, h2⟩
      rw [hcell j (by rw [← hlen]; exact (List.getElem?_eq_some_iff.1 hj).1)]
      exact hj
    obtain ⟨q, hq⟩ := choose_lt each
    exact ⟨some a, len, cap, q, rfl, hl, hm, (fun h => by cases h), fun i hi => ⟨a, rfl, (hq i hi).1, (hq i hi).2.1, (hq i hi).2.2⟩⟩
/-- A slice of elements each of which is read by 'dec'. -/
theorem reads_list {t e : TypeId} {cs : List Value} {α : Type} {n0 : Nat} {φ : α → Prop} (en : α → List Value) (ht : P.underlying t = some (.slice e)) (hC : P.cellsOf e = n0) (h : Reads enc P w base spare held t cs)
    (dec : ∀ cs, Reads enc P w base spare held e cs → cs.length = n0 → ∃ a : α, cs = en a ∧ φ a) :
    ∃ (ao : Option Addr) (L : List α) (c : Nat), cs = [.slice ao L.length c] ∧ Arr w n0 ao (L.map en) ∧ L.length ≤ c ∧ c ≤ maxLen ∧ ∀ x ∈ L, φ x := by
  obtain ⟨ao, len, cap, D, rfl, hl, hm, hn, hD⟩ := reads_slice ht h
  have each : ∀ i, i < len → ∃ a : α, D i = en a ∧ φ a := fun i hi => by
    obtain ⟨ad, _, h2, _, h4⟩ := hD i hi
    exact dec (D i) h4 (h2.trans hC)
  have hlist : ∀ k, k ≤ len → ∃ L : List α, L.length = k ∧ (∀ x ∈ L, φ x) ∧ ∀ i x, L[i]? = some x → D i = en x := by
    intro k
    induction k with
    | zero => exact fun _ => ⟨[], rfl, by simp, fun i x h => by simp at h⟩
    | succ k ih =>
      intro hk
      obtain ⟨L, h1, h2, h3⟩ := ih (by omega)
      obtain ⟨a, ha, hφ⟩ := each k (by omega)
      refine ⟨L ++ [a], by simp [h1], fun x hx => ?_, fun i x hi => ?_⟩
      · rcases List.mem_append.1 hx with hx | hx
        · exact h2 x hx
        · obtain rfl := List.mem_singleton.1 hx; exact hφ
      · rw [List.getElem?_append] at hi
        split at hi
        · exact h3 i x hi
        · rename_i hge
          have : i = k := by
            have := (List.getElem?_eq_some_iff.1 hi).1
            simp at this; omega
          subst this
          rw [h1, Nat.sub_self] at hi
          cases hi
          exact ha
  obtain ⟨L, h1, h2, h3⟩ := hlist len (Nat.le_refl _)
  subst h1
  refine ⟨ao, L, cap, rfl, fun k x hk => ?_, hl, hm, h2⟩
  rw [List.getElem?_map] at hk
  obtain ⟨a, ha, rfl⟩ := Option.map_eq_some_iff.1 hk
  obtain ⟨ad, e1, _, e3, _⟩ := hD k (List.getElem?_eq_some_iff.1 ha).1
  rw [hC, h3 k a ha] at e3
  exact ⟨ad, e1, e3⟩
/-- A struct's fields, each of which reads by its own type. -/
theorem reads_struct {t : TypeId} {fs : Array Field} {cs : List Value} (ht : P.underlying t = some (.struct fs)) (h : Reads enc P w base spare held t cs) :
    cs.length = P.cellsOf t ∧ ∀ (i : Nat) (f : Field), fs[i]? = some f → Reads enc P w base spare held f.type ((cs.drop f.offset).take (P.cellsOf f.type)) := by
  obtain ⟨n, x, h⟩ := h
  obtain ⟨xs, m, _, _, h1, h2, h3⟩ := DataW.trod_struct ht h
  refine ⟨h1, fun i f hf => ⟨m, ?_⟩⟩
  have := h3 i f hf
  have hi : i < xs.length := by rw [h2]; exact (Array.getElem?_eq_some_iff.1 hf).1
  rw [List.getElem?_eq_getElem hi] at this
  exact ⟨_, this⟩
/-- A struct of fields of one cell each. -/
theorem reads_flat {t : TypeId} {fs : Array Field} {cs : List Value} (ht : P.underlying t = some (.struct fs)) (hone : oneCellFields P fs = true) (hC : P.cellsOf t = fs.size) (h : Reads enc P w base spare held t cs) :
    cs.length = fs.size ∧ ∀ (i : Nat) (f : Field) (v : Value), fs[i]? = some f → cs[i]? = some v → Reads enc P w base spare held f.type [v] := by
  obtain ⟨h1, h2⟩ := reads_struct ht h
  refine ⟨h1.trans hC, fun i f v hf hv => ?_⟩
  obtain ⟨ho, hk⟩ := hone_of hone i f hf
  have := h2 i f hf
  rw [ho, hk] at this
  have hi := List.getElem?_eq_some_iff.1 hv
  obtain ⟨hi, e⟩ := hi
  rw [List.drop_eq_getElem_cons hi, e] at this
  exact this
end
end Go.Proofs.Ytjpnaofoeeegeaa


/-
  Entries: the arguments, read off what the rows say.
  No conditions beyond those that each statement names.
-/
namespace Go.Proofs.Ytjpnaofoeeegeaa
open Go.ChangeShapes Go.WideShapes Go.ChangeAt Go.RowKit Go.Joins Go.Deep

theorem own : ownKnob Try.prog.godebug = none := by kernel_rfl
theorem two_fields {fs : Array Field} {t0 t1 : TypeId} {o0 o1 : Nat} (h : fs.map (fun f => (f.type, f.offset)) = #[(t0, o0), (t1, o1)]) : ∃ f0 f1, fs[0]? = some f0 ∧ fs[1]? = some f1 ∧ f0.type = t0 ∧ f0.offset = o0 ∧ f1.type = t1 ∧ f1.offset = o1 := by
  have hs : fs.size = 2 := by have := congrArg Array.size h; simpa using this
  have h0 : fs[0]? = some (fs[0]'(by omega)) := Array.getElem?_eq_getElem (by omega)
  have h1 : fs[1]? = some (fs[1]'(by omega)) := Array.getElem?_eq_getElem (by omega)
  have e0 : (fs.map (fun f => (f.type, f.offset)))[0]? = some (t0, o0) := by rw [h]; rfl
  have e1 : (fs.map (fun f => (f.type, f.offset)))[1]? = some (t1, o1) := by rw [h]; rfl
  rw [Array.getElem?_map, h0] at e0
  rw [Array.getElem?_map, h1] at e1
  simp only [Option.map_some, Option.some.injEq, Prod.mk.injEq] at e0 e1
  exact ⟨_, _, h0, h1, e0.1, e0.2, e1.1, e1.2⟩
section
variable {H : Type} {enc : TypeId × Value → H} {w : World} {base : Nat} {spare : Nat → Bool} {held : Bool}
theorem addr_of {cs : List Value} (h : Reads enc Try.prog w base spare held 24 cs) : ∃ a : Nat, cs = [.int .u32 a] ∧ a < 4294967296 := by
  obtain ⟨n, e, hw⟩ := reads_int Try.underlying24 h
  have hb := bounds_u32 hw
  exact ⟨n.toNat, by rw [e, Int.toNat_of_nonneg hb.1], by omega⟩
set_option maxRecDepth 100000 in
theorem open_addr {v : Value} {d : DataW H} {p : List MemPlace} {b0 : Nat} (hv : Value.okWide Try.prog w .any b0 24 v) (h : DataW.Trod enc Try.prog w base spare held 24 v d p) : ∃ a : Nat, v = .int .u32 a ∧ a < 4294967296 := by
  obtain ⟨n, rfl, _, _, hw⟩ := open_int Try.underlying24 hv h
  have hb := bounds_u32 hw
  exact ⟨n.toNat, by rw [Int.toNat_of_nonneg hb.1], by omega⟩
end
end Go.Proofs.Ytjpnaofoeeegeaa


/-
  Stride tables (layer 8): the statement StrideReads, walked; a compressed table that is an argument, read as lists.
  Conditions: what the rows say of the arguments.
-/
namespace Go.Proofs.Ytjpnaofoeeegeaa
open Go.ChangeShapes Go.WideShapes Go.ChangeAt Go.RowKit Go.Joins Go.Deep

theorem sameEntriesW_v (ao bo : Option Addr) (A B : List En) (c d : Nat) (w : World) (hA : Ens w ao A) (hB : Ens w bo B) (hn : A.length ≤ 4611686018427387904) : Calls Try.prog 31 #[.slice ao A.length c, .slice bo B.length d] w (Ret (.bool (decide (A = B))) w) := by
  refine V_enter (vs := [_, _]) Try.func31 rfl Try.ntmps31 (Nat.le_of_ble_eq_true rfl) ?_
  repeat (first | refine Vx ?_ | (apply Ops_q; (case hon => exact Va); (case hd => rfl); (case hq => exact YlA)) | refine Vr ?_ | refine Vt ?_ | refine Vf ?_ | refine Vm ?_ | refine Ve ?_ | refine Vo ?_ | refine Vz ?_ | refine Vn ?_)
  refine V_cond rfl (fun h1 => ?_) (fun h1 => ?_)
  · have hne : A.length ≠ B.length := fun e => by
      have : ¬((A.length : Int) = (B.length : Int)) := by simpa using h1
      omega
    repeat (first | refine Vx ?_ | (apply Ops_q; (case hon => exact Va); (case hd => rfl); (case hq => exact YlA)) | refine Vr ?_ | refine Vt ?_ | refine Vf ?_ | refine Vm ?_ | refine Ve ?_ | refine Vo ?_ | refine Vz ?_ | refine Vn ?_)
    refine ret1 (by first | exact .inl rfl | exact .inr rfl) rfl rfl ?_
    exact Ret_mk (by rw [decide_eq_false (fun e => hne (by rw [e]))]) (Ext.refl _)
  have hlen : A.length = B.length := by
    have : (A.length : Int) = (B.length : Int) := by simpa using h1
    omega
  repeat (first | refine Vx ?_ | (apply Ops_q; (case hon => exact Va); (case hd => rfl); (case hq => exact YlA)) | refine Vr ?_ | refine Vt ?_ | refine Vf ?_ | refine Vm ?_ | refine Ve ?_ | refine Vo ?_ | refine Vz ?_ | refine Vn ?_)
  refine V_loop (fun k : Nat => [(14, .int .i64 k), (13, .int .i64 A.length), (12, .slice ao A.length c), (1, .slice bo B.length d)]) (fun k w' => Ext w w' ∧ k ≤ A.length ∧ ∀ j, j < k → A[j]? = B[j]?) (fun k => A.length - k) 0 (by repeat (first | exact trivial | refine ⟨rfl, ?_⟩)) ⟨Ext.refl _, Nat.zero_le _, fun j h => by omega⟩ ?_
  rintro k w1 ⟨e1, hk, hs⟩
  repeat (first | refine Vx ?_ | (apply Ops_q; (case hon => exact Va); (case hd => rfl); (case hq => exact YlA)) | refine Vr ?_ | refine Vt ?_ | refine Vf ?_ | refine Vm ?_ | refine Ve ?_ | refine Vo ?_ | refine Vz ?_ | refine Vn ?_)
  refine V_cond rfl (fun hg => ?_) (fun hg => ?_)
  · replace hg := of_decide_eq_true hg
    have hkl : k < A.length := by omega
    obtain ⟨x, hx⟩ : ∃ x, A[k]? = some x := ⟨_, List.getElem?_eq_getElem hkl⟩
    obtain ⟨y, hy⟩ : ∃ y, B[k]? = some y := ⟨_, List.getElem?_eq_getElem (by omega)⟩
    obtain ⟨ad, rfl, hc⟩ := hA.at hx
    obtain ⟨bd, rfl, hd⟩ := hB.at hy
    have hc1 : Cells w1 (ad.add (k * 3)) [.int .u32 x.p.a, .int .i64 x.p.n, .int .i64 x.v] := hc.ext e1
    have hkb : k < B.length := by omega
    repeat (first | refine Vx ?_ | (apply Ops_q; (case hon => exact Va); (case hd => rfl); (case hq => exact YlA)) | refine Vr ?_ | refine Vt ?_ | refine Vf ?_ | refine Vm ?_ | refine Ve ?_ | refine Vo ?_ | refine Vz ?_ | refine Vn ?_)
    (apply Ops_q; (case hon => (exact Va)); (case hd => rfl); (case hq => exact Yl_indexS (j := k) rfl rfl (by omega)))
    repeat (first | refine Vx ?_ | (apply Ops_q; (case hon => exact Va); (case hd => rfl); (case hq => exact YlA)) | refine Vr ?_ | refine Vt ?_ | refine Vf ?_ | refine Vm ?_ | refine Ve ?_ | refine Vo ?_ | refine Vz ?_ | refine Vn ?_)
    (refine Ops_alloc (by exact Va) rfl ?_; intro w2 b2 n_b2; have k_b2 := n_b2.blk)
    repeat (first | refine Vx ?_ | (apply Ops_q; (case hon => exact Va); (case hd => rfl); (case hq => exact YlA)) | refine Vr ?_ | refine Vt ?_ | refine Vf ?_ | refine Vm ?_ | refine Ve ?_ | refine Vo ?_ | refine Vz ?_ | refine Vn ?_)
    (refine Ops_store (by exact Va) rfl rfl (by assumption) (by first | rfl | exact OneAll.h) ?_; intro w3 u_w3; have k_b2 := u_w3.blk)
    have e3 := u_w3.below (e1.trans n_b2.ext) (Nat.le_trans e1.size n_b2.ge)
    have hd1 : Cells w3 (bd.add (k * 3)) [.int .u32 y.p.a, .int .i64 y.p.n, .int .i64 y.v] := hd.ext e3
    repeat (first | refine Vx ?_ | (apply Ops_q; (case hon => exact Va); (case hd => rfl); (case hq => exact YlA)) | refine Vr ?_ | refine Vt ?_ | refine Vf ?_ | refine Vm ?_ | refine Ve ?_ | refine Vo ?_ | refine Vz ?_ | refine Vn ?_)
    (apply Ops_q; (case hon => (exact Va)); (case hd => rfl); (case hq => exact Yl_indexS (j := k) rfl rfl (by omega)))
    repeat (first | refine Vx ?_ | (apply Ops_q; (case hon => exact Va); (case hd => rfl); (case hq => exact YlA)) | refine Vr ?_ | refine Vt ?_ | refine Vf ?_ | refine Vm ?_ | refine Ve ?_ | refine Vo ?_ | refine Vz ?_ | refine Vn ?_)
    rw [eqEn_dec]
    refine V_cond rfl (fun h2 => ?_) (fun h2 => ?_)
    · have hne : x ≠ y := by simpa using h2
      repeat (first | refine Vx ?_ | (apply Ops_q; (case hon => exact Va); (case hd => rfl); (case hq => exact YlA)) | refine Vr ?_ | refine Vt ?_ | refine Vf ?_ | refine Vm ?_ | refine Ve ?_ | refine Vo ?_ | refine Vz ?_ | refine Vn ?_)
      refine ret1 (by first | exact .inl rfl | exact .inr rfl) rfl rfl ?_
      refine Ret_mk ?_ e3
      rw [decide_eq_false]
      intro e
      rw [e, hy] at hx; cases hx
      exact hne rfl
    · have he : x = y := by simpa using h2
      repeat (first | refine Vx ?_ | (apply Ops_q; (case hon => exact Va); (case hd => rfl); (case hq => exact YlA)) | refine Vr ?_ | refine Vt ?_ | refine Vf ?_ | refine Vm ?_ | refine Ve ?_ | refine Vo ?_ | refine Vz ?_ | refine Vn ?_)
      refine ⟨k + 1, (by repeat (first | exact trivial | refine ⟨rfl, ?_⟩)), ⟨e3, hkl, fun j hj => ?_⟩, by omega⟩
      rcases Nat.lt_or_ge j k with h3 | h3
      · exact hs j h3
      · obtain rfl : j = k := by omega
        rw [hx, hy, he]
  replace hg := of_decide_eq_false hg
  obtain rfl : k = A.length := by omega
  repeat (first | refine Vx ?_ | (apply Ops_q; (case hon => exact Va); (case hd => rfl); (case hq => exact YlA)) | refine Vr ?_ | refine Vt ?_ | refine Vf ?_ | refine Vm ?_ | refine Ve ?_ | refine Vo ?_ | refine Vz ?_ | refine Vn ?_)
  refine ret1 (by first | exact .inl rfl | exact .inr rfl) rfl rfl ?_
  refine Ret_mk ?_ e1
  rw [decide_eq_true]
  refine List.ext_getElem? fun j => ?_
  rcases Nat.lt_or_ge j A.length with h3 | h3
  · exact hs j h3
  · rw [List.getElem?_eq_none h3, List.getElem?_eq_none (by omega)]
/-! ### What the calls return -/
theorem lk_shape {N : List Nd} {L : List Int} {a : Nat} {r : Value} (h : LkC N L a r) : ∃ v n : Int, r = .tuple #[.int .i64 v, .int .i64 n] := by
  rcases h with ⟨g, _, _, h⟩ | ⟨_, h⟩
  · exact ⟨_, _, h⟩
  · exact ⟨_, _, h⟩
theorem lk_both {N : List Nd} {L : List Int} {a : Nat} {r r' : Value} (ha : a < 4294967296) (h : LkC N L a r) (h' : LkC N L a r') : r = r' := by
  rcases h with ⟨g, h1, h2, rfl⟩ | ⟨h1, rfl⟩ <;> rcases h' with ⟨g', h3, h4, rfl⟩ | ⟨h3, rfl⟩
  · have hs : ∀ a, a < 4294967296 → g a = g' a := fun a h => isCf_inj h2 h4 h
    rw [hs a ha, dep_congr hs a 6 (0, 0) ⟨by decide, by decide⟩]
  · exact absurd h2 (h3 g h1)
  · exact absurd h4 (h1 g' h3)
  · rfl
theorem chk_both {N : List Nd} {L : List Int} {v v' : Int} (h : ChkC N L v) (h' : ChkC N L v') : v = v' := by
  rcases h with ⟨rfl, g, h1, h2⟩ | ⟨rfl, h1⟩ <;> rcases h' with ⟨rfl, g', h3, h4⟩ | ⟨rfl, h3⟩
  · rfl
  · exact absurd h2 (h3 g h1)
  · exact absurd h4 (h1 g' h3)
  · rfl
theorem chk_ex (N : List Nd) (L : List Int) : ∃ v, ChkC N L v := by
  by_cases h : ∃ g, GeM g ∧ IsCf g N L
  · exact ⟨0, .inl ⟨rfl, h⟩⟩
  · exact ⟨_, .inr ⟨rfl, fun g h1 h2 => h ⟨g, h1, h2⟩⟩⟩
/-- A table of entries and an error. -/
def TbR (M : List En) (e : Int) (r : Value) (w' : World) : Prop := ∃ ao c, r = .tuple #[.slice ao M.length c, .int .i64 e] ∧ Ens w' ao M
theorem tbl_one {N : List Nd} {L : List Int} {w0 w' : World} {r : Value} (h : TblR N L w0 r w') : ∃ M e, TbR M e r w' ∧ M.length ≤ 4294967296 ∧ ∀ w1 r1 w1', TblR N L w1 r1 w1' → TbR M e r1 w1' := by
  rcases h with ⟨R, g, v, h1, h2, h3, rfl, h4⟩ | ⟨h1, rfl⟩
  · obtain ⟨ao, c, rfl, hA⟩ := ownS h4
    have hl := tabE_len h1 R.length (Nat.le_refl _)
    rw [List.getElem?_eq_none (Nat.le_refl _)] at hl
    refine ⟨tabE R R.length, 0, ⟨ao, c, rfl, hA⟩, hl, fun w1 r1 w1' hr => ?_⟩
    rcases hr with ⟨R', g', v', h5, h6, h7, rfl, h8⟩ | ⟨h5, _⟩
    · have e : R = R' := Canon.unique (h1.congr (fun a h => isCf_inj h7 h3 h)) h5
      subst e
      obtain ⟨ao', c', rfl, hA'⟩ := ownS h8
      exact ⟨ao', c', rfl, hA'⟩
    · exact absurd h3 (h5 g h2)
  · refine ⟨[], (if N.length = 0 then 3 else 1), ⟨none, 0, rfl, Arr.nil⟩, Nat.zero_le _, fun w1 r1 w1' hr => ?_⟩
    rcases hr with ⟨R', g', v', h5, h6, h7, _, _⟩ | ⟨_, rfl⟩
    · exact absurd h7 (h1 g' h6)
    · exact ⟨none, 0, rfl, Arr.nil⟩
theorem large_v (aN aL : Option Addr) (n l cN cL : Nat) (w : World) :
    Calls Try.prog 25 #[.agg #[.slice aN n cN, .slice aL l cL]] w (Ret (.bool (decide (400 < n ∨ 4000 < l))) w) := by
  refine V_enter (vs := [_]) Try.func25 rfl Try.ntmps25 (Nat.le_of_ble_eq_true rfl) ?_
  repeat (first | refine Vx ?_ | (apply Ops_q; (case hon => exact Va); (case hd => rfl); (case hq => exact YlA)) | refine Vr ?_ | refine Vt ?_ | refine Vf ?_ | refine Vm ?_ | refine Ve ?_ | refine Vo ?_ | refine Vz ?_ | refine Vn ?_)
  (refine Ops_box (by exact Va) rfl rfl rfl ?_; intro w1 b1 n_b1; have k_b1 := n_b1.blk)
  have x1 := n_b1.ext
  clear n_b1
  repeat (first | refine Vx ?_ | (apply Ops_q; (case hon => exact Va); (case hd => rfl); (case hq => exact YlA)) | refine Vr ?_ | refine Vt ?_ | refine Vf ?_ | refine Vm ?_ | refine Ve ?_ | refine Vo ?_ | refine Vz ?_ | refine Vn ?_)
  by_cases t1 : 400 < n
  · have d1 : decide ((400 : Int) < (n : Int)) = true := decide_eq_true (by omega)
    refine Ops_know rfl rfl d1 ?_
    repeat (first | refine Vx ?_ | (apply Ops_q; (case hon => exact Va); (case hd => rfl); (case hq => exact YlA)) | refine Vr ?_ | refine Vt ?_ | refine Vf ?_ | refine Vm ?_ | refine Ve ?_ | refine Vo ?_ | refine Vz ?_ | refine Vn ?_)
    refine ret1 (by first | exact .inl rfl | exact .inr rfl) rfl rfl ?_
    exact Ret_mk (by rw [decide_eq_true (Or.inl t1)]) x1
  · have d1 : decide ((400 : Int) < (n : Int)) = false := decide_eq_false (by omega)
    have e : decide (400 < n ∨ 4000 < l) = decide ((4000 : Int) < (l : Int)) := decide_eq_decide.2 (by omega)
    refine Ops_know rfl rfl d1 ?_
    repeat (first | refine Vx ?_ | (apply Ops_q; (case hon => exact Va); (case hd => rfl); (case hq => exact YlA)) | refine Vr ?_ | refine Vt ?_ | refine Vf ?_ | refine Vm ?_ | refine Ve ?_ | refine Vo ?_ | refine Vz ?_ | refine Vn ?_)
    refine ret1 (by first | exact .inl rfl | exact .inr rfl) rfl rfl ?_
    exact Ret_mk (by rw [e]) x1
set_option maxHeartbeats 4000000 in
theorem lawReads_v (aN aL : Option Addr) (N : List Nd) (L : List Int) (cN cL a : Nat) (w : World) (hN : Nds w aN N) (hL : Ins w aL L) (hW : NdW N) (hcap : L.length ≤ cL) (ha : a < 4294967296) :
    Calls Try.prog 8 #[.agg #[.slice aN N.length cN, .slice aL L.length cL], .int .u32 a] w (Ret (.bool true) w) := by
  refine V_enter (vs := [_, _]) Try.func8 rfl Try.ntmps8 (Nat.le_of_ble_eq_true rfl) ?_
  repeat (first | refine Vx ?_ | (apply Ops_q; (case hon => exact Va); (case hd => rfl); (case hq => exact YlA)) | refine Vr ?_ | refine Vt ?_ | refine Vf ?_ | refine Vm ?_ | refine Ve ?_ | refine Vo ?_ | refine Vz ?_ | refine Vn ?_)
  (refine Ops_box (by exact Va) rfl rfl rfl ?_; intro w1 b2 n_b2; have k_b2 := n_b2.blk)
  have x1 := n_b2.ext
  clear n_b2
  repeat (first | refine Vx ?_ | (apply Ops_q; (case hon => exact Va); (case hd => rfl); (case hq => exact YlA)) | refine Vr ?_ | refine Vt ?_ | refine Vf ?_ | refine Vm ?_ | refine Ve ?_ | refine Vo ?_ | refine Vz ?_ | refine Vn ?_)
  (apply Ops_q; (case hon => (exact Va)); (case hd => rfl); (case hq => exact Yl_call rfl (fun w_ e_ => large_v aN aL N.length L.length cN cL w_)))
  repeat (first | refine Vx ?_ | (apply Ops_q; (case hon => exact Va); (case hd => rfl); (case hq => exact YlA)) | refine Vr ?_ | refine Vt ?_ | refine Vf ?_ | refine Vm ?_ | refine Ve ?_ | refine Vo ?_ | refine Vz ?_ | refine Vn ?_)
  by_cases t1 : 400 < N.length ∨ 4000 < L.length
  · rw [decide_eq_true t1]
    repeat (first | refine Vx ?_ | (apply Ops_q; (case hon => exact Va); (case hd => rfl); (case hq => exact YlA)) | refine Vr ?_ | refine Vt ?_ | refine Vf ?_ | refine Vm ?_ | refine Ve ?_ | refine Vo ?_ | refine Vz ?_ | refine Vn ?_)
    (apply Ops_q; (case hon => (exact Va)); (case hd => rfl); (case hq => exact Yl_call rfl (fun w_ e_ => awake8_v w_)))
    repeat (first | refine Vx ?_ | (apply Ops_q; (case hon => exact Va); (case hd => rfl); (case hq => exact YlA)) | refine Vr ?_ | refine Vt ?_ | refine Vf ?_ | refine Vm ?_ | refine Ve ?_ | refine Vo ?_ | refine Vz ?_ | refine Vn ?_)
    refine ret1 (by first | exact .inl rfl | exact .inr rfl) rfl rfl ?_
    exact Ret_mk rfl x1
  · rw [decide_eq_false t1]
    have hn : N.length ≤ 1000000 := by omega
    have hl : L.length ≤ 1000000 := by omega
    have hn2 : N.length ≤ 80000000000 := by omega
    have hl2 : L.length ≤ 4611686018427387904 := by omega
    clear t1
    repeat (first | refine Vx ?_ | (apply Ops_q; (case hon => exact Va); (case hd => rfl); (case hq => exact YlA)) | refine Vr ?_ | refine Vt ?_ | refine Vf ?_ | refine Vm ?_ | refine Ve ?_ | refine Vo ?_ | refine Vz ?_ | refine Vn ?_)
    refine Ops_callR (R := fun _ r _ => LkC N L a r) (by exact Va) rfl rfl (fun w_ e_ => lookupS_v aN aL N L cN cL a w_ (hN.ext (x1.trans e_)) (hL.ext (x1.trans e_)) hW hn2 hl2 ha) ?_
    intro r3 w3 w0_ e0 e1 hR3
    obtain ⟨vl, nl, rfl⟩ := lk_shape hR3
    have x3 := x1.trans (e0.trans e1)
    replace k_b2 := k_b2.ext (e0.trans e1)
    clear e0 e1 x1
    repeat (first | refine Vx ?_ | (apply Ops_q; (case hon => exact Va); (case hd => rfl); (case hq => exact YlA)) | refine Vr ?_ | refine Vt ?_ | refine Vf ?_ | refine Vm ?_ | refine Ve ?_ | refine Vo ?_ | refine Vz ?_ | refine Vn ?_)
    refine Ops_callR (R := fun _ r _ => LkC N L a r) (by exact Va) rfl rfl (fun w_ e_ => lookupR8_v aN aL N L cN cL a w_ (hN.ext (x3.trans e_)) (hL.ext (x3.trans e_)) hW hn hl hcap ha) ?_
    intro r4 w4 w0_ e0 e1 hR4
    obtain rfl := lk_both ha hR3 hR4
    have x4 := x3.trans (e0.trans e1)
    replace k_b2 := k_b2.ext (e0.trans e1)
    clear e0 e1 x3 hR3 hR4 ha
    repeat (first | refine Vx ?_ | (apply Ops_q; (case hon => exact Va); (case hd => rfl); (case hq => exact YlA)) | refine Vr ?_ | refine Vt ?_ | refine Vf ?_ | refine Vm ?_ | refine Ve ?_ | refine Vo ?_ | refine Vz ?_ | refine Vn ?_)
    (apply Ops_q; (case hon => (exact Va)); (case hd => rfl); (case hq => exact Yl_call rfl (fun w_ e_ => sizeC_v aN aL N.length L.length cN cL w_)))
    repeat (first | refine Vx ?_ | (apply Ops_q; (case hon => exact Va); (case hd => rfl); (case hq => exact YlA)) | refine Vr ?_ | refine Vt ?_ | refine Vf ?_ | refine Vm ?_ | refine Ve ?_ | refine Vo ?_ | refine Vz ?_ | refine Vn ?_)
    refine Ops_callR (R := fun w0 r w' => TblR N L w0 r w') (by exact Va) rfl rfl (fun w_ e_ => tableS_v aN aL N L cN cL w_ (hN.ext (x4.trans e_)) (hL.ext (x4.trans e_)) hW hn2 hl2) ?_
    intro r5 w5 w0_ e0 e1 hR5
    obtain ⟨M, e, ⟨aT, cT, rfl, hT⟩, hM, hall⟩ := tbl_one hR5
    have x5 := x4.trans (e0.trans e1)
    replace k_b2 := k_b2.ext (e0.trans e1)
    clear e0 e1 x4 hR5
    repeat (first | refine Vx ?_ | (apply Ops_q; (case hon => exact Va); (case hd => rfl); (case hq => exact YlA)) | refine Vr ?_ | refine Vt ?_ | refine Vf ?_ | refine Vm ?_ | refine Ve ?_ | refine Vo ?_ | refine Vz ?_ | refine Vn ?_)
    refine Ops_callR (R := fun w0 r w' => TblR N L w0 r w') (by exact Va) rfl rfl (fun w_ e_ => tableR8_v aN aL N L cN cL w_ (hN.ext (x5.trans e_)) (hL.ext (x5.trans e_)) hW hn hl hcap) ?_
    intro r6 w6 w0_ e0 e1 hR6
    obtain ⟨aU, cU, rfl, hU⟩ := hall _ _ _ hR6
    have x6 := x5.trans (e0.trans e1)
    have hT6 := hT.ext (e0.trans e1)
    replace k_b2 := k_b2.ext (e0.trans e1)
    clear e0 e1 x5 hR6 hall hT
    obtain ⟨vc, hvc⟩ := chk_ex N L
    have hS : ∀ w_, Ext w6 w_ → Calls Try.prog 29 #[.agg #[.slice aN N.length cN, .slice aL L.length cL]] w_ (Ret (.int .i64 vc) w_) := fun w_ e_ =>
      (checkS_v aN aL N L cN cL w_ (hN.ext (x6.trans e_)) (hL.ext (x6.trans e_)) hW hn2 hl2).mono fun e' w' ⟨v, h1, h2, v', h3, h4⟩ => ⟨by rw [h1, h3, chk_both h4 hvc], h2⟩
    have hRr : ∀ w_, Ext w6 w_ → Calls Try.prog 30 #[.agg #[.slice aN N.length cN, .slice aL L.length cL]] w_ (Ret (.int .i64 vc) w_) := fun w_ e_ =>
      (checkR8_v aN aL N L cN cL w_ (hN.ext (x6.trans e_)) (hL.ext (x6.trans e_)) hW hn hl hcap).mono fun e' w' ⟨v, h1, h2, v', h3, h4⟩ => ⟨by rw [h1, h3, chk_both h4 hvc], h2⟩
    have hM2 : M.length ≤ 4611686018427387904 := by omega
    have hse := fun (w_ : World) (e_ : Ext w6 w_) => sameEntriesW_v aT aU M M cT cU w_ (hT6.ext e_) (hU.ext e_) hM2
    rw [decide_eq_true (rfl : M = M)] at hse
    have q1 : decide (vc = vc) = true := decide_eq_true rfl
    have q2 : decide (vl = vl) = true := decide_eq_true rfl
    have q3 : decide (nl = nl) = true := decide_eq_true rfl
    have q4 : decide ((N.length : Int) = (N.length : Int)) = true := decide_eq_true rfl
    have q5 : decide ((L.length : Int) = (L.length : Int)) = true := decide_eq_true rfl
    have q6 : decide (e = e) = true := decide_eq_true rfl
    clear hM hM2 hn hl hn2 hl2 hvc
    repeat (first | refine Vx ?_ | (apply Ops_q; (case hon => exact Va); (case hd => rfl); (case hq => exact YlA)) | refine Vr ?_ | refine Vt ?_ | refine Vf ?_ | refine Vm ?_ | refine Ve ?_ | refine Vo ?_ | refine Vz ?_ | refine Vn ?_)
    (apply Ops_q; (case hon => (exact Va)); (case hd => rfl); (case hq => exact Yl_call rfl (fun w_ e_ => awake8_v w_)))
    repeat (first | refine Vx ?_ | (apply Ops_q; (case hon => exact Va); (case hd => rfl); (case hq => exact YlA)) | refine Vr ?_ | refine Vt ?_ | refine Vf ?_ | refine Vm ?_ | refine Ve ?_ | refine Vo ?_ | refine Vz ?_ | refine Vn ?_)
    (apply Ops_q; (case hon => (exact Va)); (case hd => rfl); (case hq => exact Yl_call rfl (fun w_ e_ => hS w_ e_)))
    repeat (first | refine Vx ?_ | (apply Ops_q; (case hon => exact Va); (case hd => rfl); (case hq => exact YlA)) | refine Vr ?_ | refine Vt ?_ | refine Vf ?_ | refine Vm ?_ | refine Ve ?_ | refine Vo ?_ | refine Vz ?_ | refine Vn ?_)
    (apply Ops_q; (case hon => (exact Va)); (case hd => rfl); (case hq => exact Yl_call rfl (fun w_ e_ => hRr w_ e_)))
    repeat (first | refine Vx ?_ | (apply Ops_q; (case hon => exact Va); (case hd => rfl); (case hq => exact YlA)) | refine Vr ?_ | refine Vt ?_ | refine Vf ?_ | refine Vm ?_ | refine Ve ?_ | refine Vo ?_ | refine Vz ?_ | refine Vn ?_)
    rw [q1]
    repeat (first | refine Vx ?_ | (apply Ops_q; (case hon => exact Va); (case hd => rfl); (case hq => exact YlA)) | refine Vr ?_ | refine Vt ?_ | refine Vf ?_ | refine Vm ?_ | refine Ve ?_ | refine Vo ?_ | refine Vz ?_ | refine Vn ?_)
    rw [q2]
    repeat (first | refine Vx ?_ | (apply Ops_q; (case hon => exact Va); (case hd => rfl); (case hq => exact YlA)) | refine Vr ?_ | refine Vt ?_ | refine Vf ?_ | refine Vm ?_ | refine Ve ?_ | refine Vo ?_ | refine Vz ?_ | refine Vn ?_)
    rw [q3]
    repeat (first | refine Vx ?_ | (apply Ops_q; (case hon => exact Va); (case hd => rfl); (case hq => exact YlA)) | refine Vr ?_ | refine Vt ?_ | refine Vf ?_ | refine Vm ?_ | refine Ve ?_ | refine Vo ?_ | refine Vz ?_ | refine Vn ?_)
    rw [q4]
    repeat (first | refine Vx ?_ | (apply Ops_q; (case hon => exact Va); (case hd => rfl); (case hq => exact YlA)) | refine Vr ?_ | refine Vt ?_ | refine Vf ?_ | refine Vm ?_ | refine Ve ?_ | refine Vo ?_ | refine Vz ?_ | refine Vn ?_)
    rw [q5]
    repeat (first | refine Vx ?_ | (apply Ops_q; (case hon => exact Va); (case hd => rfl); (case hq => exact YlA)) | refine Vr ?_ | refine Vt ?_ | refine Vf ?_ | refine Vm ?_ | refine Ve ?_ | refine Vo ?_ | refine Vz ?_ | refine Vn ?_)
    (apply Ops_q; (case hon => (exact Va)); (case hd => rfl); (case hq => exact Yl_call rfl (fun w_ e_ => hse w_ e_)))
    repeat (first | refine Vx ?_ | (apply Ops_q; (case hon => exact Va); (case hd => rfl); (case hq => exact YlA)) | refine Vr ?_ | refine Vt ?_ | refine Vf ?_ | refine Vm ?_ | refine Ve ?_ | refine Vo ?_ | refine Vz ?_ | refine Vn ?_)
    rw [q6]
    repeat (first | refine Vx ?_ | (apply Ops_q; (case hon => exact Va); (case hd => rfl); (case hq => exact YlA)) | refine Vr ?_ | refine Vt ?_ | refine Vf ?_ | refine Vm ?_ | refine Ve ?_ | refine Vo ?_ | refine Vz ?_ | refine Vn ?_)
    refine ret1 (by first | exact .inl rfl | exact .inr rfl) rfl rfl ?_
    exact Ret_mk rfl x6
/-! ### The argument -/
theorem uNode : ∃ fs, Try.prog.underlying 73 = some (.struct fs) ∧ oneCellFields Try.prog fs = true ∧ fs.map (·.type) = #[53, 53, 3, 3] := ⟨_, Try.underlying73, by kernel_rfl, by kernel_rfl⟩
theorem uComp : ∃ fs, Try.prog.underlying 32 = some (.struct fs) ∧ fs.map (fun f => (f.type, f.offset)) = #[(29, 0), (30, 1)] := ⟨_, Try.underlying32, by kernel_rfl⟩
section
variable {H : Type} {enc : TypeId × Value → H} {w : World} {base : Nat} {spare : Nat → Bool} {held : Bool}
set_option maxRecDepth 100000 in
theorem node_of (cs : List Value) (h : Reads enc Try.prog w base spare held 73 cs) (hl : cs.length = 4) : ∃ x : Nd, cs = x.cells ∧ (x.inner < 18446744073709551616 ∧ x.leaf < 18446744073709551616) := by
  obtain ⟨fs, hu, hone, hty⟩ := uNode
  have hs : fs.size = 4 := by have := congrArg Array.size hty; simpa using this
  obtain ⟨_, hf⟩ := reads_flat hu hone (by rw [hs]; kernel_rfl) h
  have ht : ∀ (i : Nat) (v : Value), cs[i]? = some v → ∃ t, (fs.map (·.type))[i]? = some t ∧ Reads enc Try.prog w base spare held t [v] := fun i v hv => by
    have hi := (List.getElem?_eq_some_iff.1 hv).1
    have hfi : fs[i]? = some (fs[i]'(by omega)) := Array.getElem?_eq_getElem (by omega)
    exact ⟨_, by rw [Array.getElem?_map, hfi]; rfl, hf i _ v hfi hv⟩
  rw [hty] at ht
  match cs, hl with
  | [a, b, c, d], _ =>
    obtain ⟨_, h1, h2⟩ := ht 0 a rfl; cases h1
    obtain ⟨n0, e0, w0⟩ := reads_int Try.underlying53 h2; cases e0
    obtain ⟨_, h1, h2⟩ := ht 1 b rfl; cases h1
    obtain ⟨n1, e1, w1⟩ := reads_int Try.underlying53 h2; cases e1
    obtain ⟨_, h1, h2⟩ := ht 2 c rfl; cases h1
    obtain ⟨n2, e2, _⟩ := reads_int Try.underlying3 h2; cases e2
    obtain ⟨_, h1, h2⟩ := ht 3 d rfl; cases h1
    obtain ⟨n3, e3, _⟩ := reads_int Try.underlying3 h2; cases e3
    have b0 := bounds_u64 w0
    have b1 := bounds_u64 w1
    refine ⟨⟨n0.toNat, n1.toNat, n2, n3⟩, ?_, by dsimp only; omega, by dsimp only; omega⟩
    unfold Nd.cells
    dsimp only
    rw [Int.toNat_of_nonneg b0.1, Int.toNat_of_nonneg b1.1]
set_option maxRecDepth 100000 in
theorem leaf_of' (cs : List Value) (h : Reads enc Try.prog w base spare held 3 cs) (_hl : cs.length = 1) : ∃ x : Int, cs = ic x ∧ True := by
  obtain ⟨n, e, _⟩ := reads_int Try.underlying3 h
  exact ⟨n, e, trivial⟩
set_option maxRecDepth 100000 in
theorem open_comp {v : Value} {d : DataW H} {p : List MemPlace} {b0 : Nat} (hv : Value.okWide Try.prog w .any b0 32 v) (h : DataW.Trod enc Try.prog w base spare held 32 v d p) :
    ∃ aN N cN aL L cL, v = .agg #[.slice aN N.length cN, .slice aL L.length cL] ∧ Nds w aN N ∧ Ins w aL L ∧ NdW N ∧ L.length ≤ cL := by
  obtain ⟨cs, rfl, _⟩ := okWide_struct Try.underlying32 hv
  have hr := reads_of h
  have h4 : (Value.agg cs).cells.toList = cs.toList := rfl
  rw [h4] at hr
  obtain ⟨fs, hu, hm⟩ := uComp
  obtain ⟨f0, f1, g0, g1, t0, o0, t1, o1⟩ := two_fields hm
  obtain ⟨hl, hf⟩ := reads_struct hu hr
  have hC : Try.prog.cellsOf 32 = 2 := by kernel_rfl
  have c0 : Try.prog.cellsOf 29 = 1 := by kernel_rfl
  have c1 : Try.prog.cellsOf 30 = 1 := by kernel_rfl
  have h0 := hf 0 f0 g0
  have h1 := hf 1 f1 g1
  rw [t0, o0, c0] at h0
  rw [t1, o1, c1] at h1
  rw [hC] at hl
  have hcs : cs = cs.toList.toArray := by simp
  generalize cs.toList = l at *
  subst hcs
  match l, hl with
  | [x, y], _ =>
    obtain ⟨aN, N, cN, e0, hN, _, _, hNW⟩ := reads_list (φ := fun x : Nd => x.inner < 18446744073709551616 ∧ x.leaf < 18446744073709551616) Nd.cells Try.underlying29 (by kernel_rfl) h0 node_of
    obtain ⟨aL, L, cL, e1, hL, hc, _, _⟩ := reads_list (φ := fun _ : Int => True) ic Try.underlying30 (by kernel_rfl) h1 leaf_of'
    simp only [List.drop_zero, List.take_succ_cons, List.take_zero, List.drop_succ_cons, List.cons.injEq, and_true] at e0 e1
    subst e0; subst e1
    exact ⟨aN, N, cN, aL, L, cL, rfl, hN, hL, hNW, hc⟩
end
end Go.Proofs.Ytjpnaofoeeegeaa


/-
  The rules for maps of one's own with integer keys: making, looking up, setting.
  No conditions beyond those that each rule states.
-/
import Derived.Test.YtfakgiikobajnaaVSl
import Derived.MapKept
import Derived.Carry
namespace Go.Proofs.Ytfakgiikobajnaa
open Go.RowKit Go.MapKept

/-- Block b holds a map; F: what it has for each key. -/
def MapI (w : World) (b : Nat) (k : IntKind) (F : Int → Option Value) : Prop :=
  ∃ es clock, w.heap[b]? = some (.map es clock) ∧ (∀ x ∈ es.toList, IsKey (.int k) x.key) ∧ es.toList.Pairwise (fun x y => x.key ≠ y.key) ∧ ∀ y v, F y = some v ↔ ∃ e ∈ es.toList, e.key = .int k y ∧ e.val = v
section
variable {w w' w1 : World} {b : Nat} {k : IntKind} {F : Int → Option Value} {row : Option Nat}
theorem MapI.lt (h : MapI w b k F) : b < w.heap.size := by
  obtain ⟨es, clock, hb, _⟩ := h
  exact (Array.getElem?_eq_some_iff.1 hb).1
theorem MapI.ext (h : MapI w b k F) (he : Ext w w') : MapI w' b k F := by
  obtain ⟨es, clock, hb, h2⟩ := h
  exact ⟨es, clock, he.blk hb, h2⟩
theorem MapI.grow (h : MapI w b k F) (hg : w.grownBy w1 row) (hne : some b ≠ row) : MapI w1 b k F := by
  have hlt := h.lt
  obtain ⟨es, clock, hb, h2⟩ := h
  exact ⟨es, clock, by rw [hg.block b hlt hne]; exact hb, h2⟩
theorem MapI.upd {b' : Nat} {t : TypeId} {cs : List Value} (h : MapI w b k F) (hu : Upd w w1 b' t cs) (hne : b ≠ b') : MapI w1 b k F := by
  obtain ⟨es, clock, hb, h2⟩ := h
  exact ⟨es, clock, by rw [hu.other b hne]; exact hb, h2⟩
/-- What a search finds. -/
theorem MapI.find (h : MapI w b k F) (y : Int) : ∃ es clock, w.heap[b]? = some (.map es clock) ∧
    ((Instr.findNow (.int k) (.int k y) es.toList 0 = some none ∧ F y = none) ∨ ∃ j v, Instr.findNow (.int k) (.int k y) es.toList 0 = some (some (j, v)) ∧ F y = some v) := by
  obtain ⟨es, clock, hb, hks, hpw, hF⟩ := h
  refine ⟨es, clock, hb, ?_⟩
  rcases findNow_spec (d := .int k) (k := .int k y) rfl es.toList 0 hks with ⟨h1, h2⟩ | ⟨j, e, h1, h2, h3⟩
  · refine .inl ⟨h1, ?_⟩
    cases hf : F y with
    | none => rfl
    | some v =>
      obtain ⟨e, he, hk, _⟩ := (hF y v).1 hf
      exact absurd hk (h2 e he)
  · exact .inr ⟨0 + j, e.val, h1, (hF y e.val).2 ⟨e, List.mem_of_getElem? h2, h3, rfl⟩⟩
end

section
variable {P : Program} {N : Nat} {ops : Array Oper} {K : Env → World → Prop} {m : Env} {w : World} {rest : List Oper} {ty : TypeId} {pos : String} {after : Array Edge} {g : Option (Nat × Bool)} {dst : Option Tmp}
theorem run_zero {et : TypeId} {z : Value} {zs : List Value} [hz : TZero P et z zs] (w : World) : (zeroValue et).run P w = .ok z w := by
  obtain ⟨inf, h1, h2⟩ := Option.bind_eq_some_iff.1 hz.h
  simp [zeroValue, typeInfo, h1, h2]
theorem Yl_lookup {t kt et : TypeId} {x i : Operand} {b : Nat} {k : IntKind} {y : Int} {z : Value} {zs : List Value} {F : Int → Option Value} [ht : TMap P t kt et] [hk : TInt P kt k] [hz : TZero P et z zs]
    (hx : ev m x = some (.map (some b))) (hi : ev m i = some (.int k y)) (hM : MapI w b k F) : Yl P N m w ⟨dst, .lookup t x i false, ty, pos, after, g⟩ ((F y).getD z) :=
  Yl_of_run fun ac w' ha hw => by
    obtain ⟨es, clock, hb, h2⟩ := (hM.ext hw).find y
    have hck := MapKept.run_checkKey (P := P) (w := w') (k := .int k y) hk.h rfl es.isEmpty 9999
    rcases h2 with ⟨h3, h4⟩ | ⟨j, v, h3, h4⟩
    · simp [execOp, ha.ev hx, ha.ev hi, Instr.lookup, run_underlying ht.h, MapKept.run_getObj_map hb, hck, MapKept.run_findKey hk.h h3, run_zero (P := P) (et := et), h4]
    · simp [execOp, ha.ev hx, ha.ev hi, Instr.lookup, run_underlying ht.h, MapKept.run_getObj_map hb, hck, MapKept.run_findKey hk.h h3, h4]
theorem Yl_lookup2 {t kt et : TypeId} {x i : Operand} {b : Nat} {k : IntKind} {y : Int} {z : Value} {zs : List Value} {F : Int → Option Value} [ht : TMap P t kt et] [hk : TInt P kt k] [hz : TZero P et z zs]
    (hx : ev m x = some (.map (some b))) (hi : ev m i = some (.int k y)) (hM : MapI w b k F) : Yl P N m w ⟨dst, .lookup t x i true, ty, pos, after, g⟩ (.tuple #[(F y).getD z, .bool (F y).isSome]) :=
  Yl_of_run fun ac w' ha hw => by
    obtain ⟨es, clock, hb, h2⟩ := (hM.ext hw).find y
    have hck := MapKept.run_checkKey (P := P) (w := w') (k := .int k y) hk.h rfl es.isEmpty 9999
    rcases h2 with ⟨h3, h4⟩ | ⟨j, v, h3, h4⟩
    · simp [execOp, ha.ev hx, ha.ev hi, Instr.lookup, run_underlying ht.h, MapKept.run_getObj_map hb, hck, MapKept.run_findKey hk.h h3, run_zero (P := P) (et := et), h4]
    · simp [execOp, ha.ev hx, ha.ev hi, Instr.lookup, run_underlying ht.h, MapKept.run_getObj_map hb, hck, MapKept.run_findKey hk.h h3, h4]
theorem Ops_makeMap {dst : Nat} {t kt et : TypeId} {k : IntKind} [TMap P t kt et] [TInt P kt k] (hon : On N ops m ⟨some dst, .makeMap t none, ty, pos, after, g⟩) (hd : Nat.ble (dst + 1) N = true)
    (h : ∀ w1 b, Ext w w1 → w.heap.size ≤ b → MapI w1 b k (fun _ => none) → Ops P N ops false K rest ((dst, .map (some b)) :: m) w1) : Ops P N ops false K (⟨some dst, .makeMap t none, ty, pos, after, g⟩ :: rest) m w := by
  refine ⟨fun a w' ha hw => ?_⟩
  unfold wpList
  rw [if_pos (hon.out a ha)]
  refine .inl ?_
  have hr : (execOp a.eval ⟨some dst, .makeMap t none, ty, pos, after, g⟩).run P w' = .ok (.value (.map (some w'.heap.size))) (w'.alloc (.map #[] 0)) := by
    simp only [execOp, Option.map_none, Sem.run_bind, run_makeMap, Result.andThen_ok]
    first | rfl | simp [run_makeMap]
  unfold Oper.wp
  rw [hr]
  exact (h _ _ (hw.alloc _) hw.size ⟨#[], 0, alloc_heap _ _, by simp, by simp, by simp⟩).out _ _ (ha.put (Nat.le_of_ble_eq_true hd) _) (Ext.refl _)
theorem Ops_mapUpdate {t kt et : TypeId} {x i u : Operand} {b : Nat} {k : IntKind} {y : Int} {v : Value} {F : Int → Option Value} [ht : TMap P t kt et] [hk : TInt P kt k] (hon : On N ops m ⟨none, .mapUpdate t x i u, ty, pos, after, g⟩)
    (hx : ev m x = some (.map (some b))) (hi : ev m i = some (.int k y)) (hu : ev m u = some v) (hM : MapI w b k F)
    (h : ∀ w1, w.grownBy w1 (some b) → MapI w1 b k (fun y' => if y' = y then some v else F y') → Ops P N ops false K rest m w1) : Ops P N ops false K (⟨none, .mapUpdate t x i u, ty, pos, after, g⟩ :: rest) m w := by
  refine ⟨fun a w' ha hw => ?_⟩
  unfold wpList
  rw [if_pos (hon.out a ha)]
  refine .inl ?_
  obtain ⟨es, clock, hb, hks, hpw, hF⟩ := hM.ext hw
  have hck := MapKept.run_checkKey (P := P) (w := w') (k := .int k y) hk.h rfl false 9999
  have grow : ∀ o, w.grownBy { w' with heap := w'.heap.setIfInBounds b o } (some b) := fun o => grow_ext hw ⟨rfl, rfl, rfl, by simp, fun k hk hne => by
    have : b ≠ k := fun e => hne (by rw [e])
    simp [this]⟩
  have heap : ∀ o, (w'.heap.setIfInBounds b o)[b]? = some o := fun o => (heap_set hb).1
  rcases findNow_spec (d := .int k) (k := .int k y) rfl es.toList 0 hks with ⟨h1, h2⟩ | ⟨j, e, h1, h2, h3⟩
  · have hr : (execOp a.eval ⟨none, .mapUpdate t x i u, ty, pos, after, g⟩).run P w' = .ok .skip { w' with heap := w'.heap.setIfInBounds b (.map (es.push { key := .int k y, val := v, born := clock }) (clock + 1)) } := by
      simp [execOp, ha.ev hx, ha.ev hi, ha.ev hu, Instr.mapUpdate, run_underlying ht.h, MapKept.run_getObj_map hb, hck, MapKept.run_findKey hk.h h1, MapKept.run_setObj_map _ hb]
    unfold Oper.wp
    rw [hr]
    refine (h _ (grow _) ⟨_, _, heap _, ?_, ?_, ?_⟩).out _ _ (ha.put_none _) (Ext.refl _)
    · intro x hx
      simp only [Array.toList_push, List.mem_append, List.mem_singleton] at hx
      rcases hx with hx | rfl
      · exact hks x hx
      · exact rfl
    · rw [Array.toList_push, List.pairwise_append]
      exact ⟨hpw, List.pairwise_singleton _ _, fun x hx z hz => by rw [List.mem_singleton.1 hz]; exact h2 x hx⟩
    · intro y' v'
      simp only [Array.toList_push, List.mem_append, List.mem_singleton]
      by_cases e : y' = y
      · subst e
        simp only [if_true, Option.some.injEq]
        constructor
        · rintro rfl; exact ⟨_, .inr rfl, rfl, rfl⟩
        · rintro ⟨x, hx | rfl, q1, q2⟩
          · exact absurd q1 (h2 x hx)
          · exact q2
      · simp only [e, if_false]
        rw [hF]
        constructor
        · rintro ⟨x, hx, q⟩; exact ⟨x, .inl hx, q⟩
        · rintro ⟨x, hx | rfl, q1, q2⟩
          · exact ⟨x, hx, q1, q2⟩
          · simp only [Value.int.injEq, true_and] at q1; exact absurd q1.symm e
  · have hj : es[j]? = some e := by simpa using h2
    have hr : (execOp a.eval ⟨none, .mapUpdate t x i u, ty, pos, after, g⟩).run P w' = .ok .skip { w' with heap := w'.heap.setIfInBounds b (.map (es.modify j fun e => { e with key := .int k y, val := v }) clock) } := by
      simp [execOp, ha.ev hx, ha.ev hi, ha.ev hu, Instr.mapUpdate, run_underlying ht.h, MapKept.run_getObj_map hb, hck, MapKept.run_findKey hk.h h1, hj, h3, run_keyThatStays (d := .int k) (k := .int k y) rfl, MapKept.run_setObj_map _ hb]
    unfold Oper.wp
    rw [hr]
    have hkey : ∀ e', es[j]? = some e' → ({ e' with key := .int k y, val := v } : MapEntry).key = e'.key := fun e' he' => by rw [hj] at he'; cases he'; exact h3.symm
    have hkeys := modify_keys (es := es) j (fun e => { e with key := .int k y, val := v }) hkey
    refine (h _ (grow _) ⟨_, _, heap _, isKey_modify hks _ _ hkey, ?_, ?_⟩).out _ _ (ha.put_none _) (Ext.refl _)
    · have := List.pairwise_map (f := (·.key)) (R := fun a b => a ≠ b) (l := (es.modify j fun e => { e with key := .int k y, val := v }).toList)
      rw [hkeys] at this
      exact this.1 (List.pairwise_map.2 hpw)
    · intro y' v'
      have hget : ∀ i, (es.modify j fun e => { e with key := .int k y, val := v })[i]? = if j = i then (es[i]?).map (fun e => { e with key := .int k y, val := v }) else es[i]? := fun i => by rw [Array.getElem?_modify]
      have mem : ∀ x, x ∈ (es.modify j fun e => { e with key := .int k y, val := v }).toList ↔ ∃ i, (if j = i then (es[i]?).map (fun e => { e with key := .int k y, val := v }) else es[i]?) = some x := fun x => by
        rw [List.mem_iff_getElem?]
        constructor
        · rintro ⟨i, hi⟩; exact ⟨i, by rw [← hget, ← Array.getElem?_toList]; exact hi⟩
        · rintro ⟨i, hi⟩; exact ⟨i, by rw [← hget, ← Array.getElem?_toList] at hi; exact hi⟩
      have uniq : ∀ x, x ∈ es.toList → x.key = .int k y → ∀ i, es[i]? = some x → i = j := fun x _ hxk i hi => by
        rcases Nat.lt_trichotomy i j with q | q | q
        · have h5 := List.pairwise_iff_getElem.1 hpw i j (by have := (Array.getElem?_eq_some_iff.1 hi).1; simpa using this) (by have := (Array.getElem?_eq_some_iff.1 hj).1; simpa using this) q
          obtain ⟨p1, p2⟩ := Array.getElem?_eq_some_iff.1 hi
          obtain ⟨p3, p4⟩ := Array.getElem?_eq_some_iff.1 hj
          simp only [Array.getElem_toList] at h5
          rw [p2, p4, hxk, h3] at h5; exact absurd rfl h5
        · exact q
        · have h5 := List.pairwise_iff_getElem.1 hpw j i (by have := (Array.getElem?_eq_some_iff.1 hj).1; simpa using this) (by have := (Array.getElem?_eq_some_iff.1 hi).1; simpa using this) q
          obtain ⟨p1, p2⟩ := Array.getElem?_eq_some_iff.1 hi
          obtain ⟨p3, p4⟩ := Array.getElem?_eq_some_iff.1 hj
          simp only [Array.getElem_toList] at h5
          rw [p2, p4, hxk, h3] at h5; exact absurd rfl h5
      by_cases e9 : y' = y
      · subst e9
        simp only [if_true, Option.some.injEq]
        constructor
        · rintro rfl
          exact ⟨{ e with key := .int k y', val := v }, (mem _).2 ⟨j, by rw [if_pos rfl, hj]; rfl⟩, rfl, rfl⟩
        · rintro ⟨x, hx, q1, q2⟩
          obtain ⟨i, hi⟩ := (mem x).1 hx
          by_cases e8 : j = i
          · subst e8
            rw [if_pos rfl, hj] at hi
            simp only [Option.map_some, Option.some.injEq] at hi
            subst hi; exact q2
          · rw [if_neg e8] at hi
            exact absurd (uniq x (List.mem_iff_getElem?.2 ⟨i, by simpa using hi⟩) q1 i hi).symm e8
      · simp only [e9, if_false]
        rw [hF]
        constructor
        · rintro ⟨x, hx, q1, q2⟩
          obtain ⟨i, hi⟩ := List.mem_iff_getElem?.1 hx
          refine ⟨x, (mem x).2 ⟨i, ?_⟩, q1, q2⟩
          have hi' : es[i]? = some x := by simpa using hi
          rw [if_neg (fun e8 => by
            subst e8
            rw [hj] at hi'; cases hi'
            rw [h3] at q1
            simp only [Value.int.injEq, true_and] at q1
            exact e9 q1.symm)]
          exact hi'
        · rintro ⟨x, hx, q1, q2⟩
          obtain ⟨i, hi⟩ := (mem x).1 hx
          by_cases e8 : j = i
          · subst e8
            rw [if_pos rfl, hj] at hi
            simp only [Option.map_some, Option.some.injEq] at hi
            subst hi
            simp only [Value.int.injEq, true_and] at q1
            exact absurd q1.symm e9
          · rw [if_neg e8] at hi
            exact ⟨x, List.mem_iff_getElem?.2 ⟨i, by simpa using hi⟩, q1, q2⟩
end
/-! ### The automatic step -/
section
variable {P : Program} {N : Nat} {m : Env} {w : World}
/-- A value that can be read off the frame. -/
theorem YlA {o : Oper} {v : Value} (hq : Yl P N m w o v := by first | exact Yl_move rfl | exact Yl_assign rfl | exact Yl_pick_true rfl rfl | exact Yl_pick_false rfl rfl | exact Yl_pick rfl rfl rfl | exact Yl_cmp rfl rfl rfl | exact Yl_arith_in rfl rfl rfl (by first | assumption | (simp only [InK]; omega)) | exact Yl_arith rfl rfl rfl | exact Yl_bits rfl rfl rfl | exact Yl_quo_in rfl rfl (by first | assumption | omega) (by first | assumption | omega) | exact Yl_rem_in rfl rfl (by first | assumption | omega) (by first | assumption | omega) | exact Yl_shl_in rfl rfl (by first | assumption | (simp only [IntKind.bits]; omega)) (by first | assumption | (simp only [InK]; omega)) | exact Yl_shl rfl rfl (by first | assumption | (simp only [IntKind.bits]; omega)) | exact Yl_shr1 rfl rfl | exact Yl_shr rfl rfl (by first | assumption | (simp only [IntKind.bits]; omega)) | exact Yl_eqb rfl rfl | exact Yl_neb rfl rfl | exact Yl_eqnil rfl rfl | exact Yl_nenil rfl rfl | exact Yl_not rfl | exact Yl_conv_in rfl (by first | assumption | (simp only [InK]; omega)) | exact Yl_conv rfl | exact Yl_nilCheck rfl | exact Yl_fieldAddr0 rfl | exact Yl_fieldAddr rfl | exact Yl_field1 rfl rfl | exact Yl_fieldN rfl | exact Yl_extract rfl rfl | exact Yl_eqS rfl rfl | exact Yl_neS rfl rfl | exact Yl_build rfl | exact Yl_len rfl | exact Yl_min rfl rfl | exact Yl_max rfl rfl | exact Yl_makeFunc rfl rfl | (apply Yl_load; (case hx => rfl); (case hc => (first | assumption | (apply Blk.cell; assumption; rfl) | (apply Blk.cell_add; assumption; rfl)))) | (apply Yl_loadN; (case hx => rfl); (case hc => (first | assumption | (apply Blk.cells; assumption))); (case hn => infer_instance))) : Yl P N m w o v := hq
end
end Go.Proofs.Ytfakgiikobajnaa

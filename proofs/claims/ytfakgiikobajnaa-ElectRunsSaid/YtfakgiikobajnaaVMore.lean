/-
  More rules of the walk: ways that meet again; calls whose results lie in new memory.
  No conditions beyond those that each rule states.
-/
import Derived.Test.YtfakgiikobajnaaVSl
import Derived.Test.YtfakgiikobajnaaVMap
namespace Go.Proofs.Ytfakgiikobajnaa
open Go.RowKit

section
variable {P : Program} {N : Nat} {Q : Exit → Env → World → Prop} {m : Env} {w : World}
/-- A piece that may go several ways, which meet behind it: 's' is what is known there. -/
theorem V_meet {x : Code} {K : Env → World → Prop} {σ : Type} (e : σ → Env) (I : σ → World → Prop) (hK : ∀ m1 m2 w, Sub m1 m2 → K m1 w → K m2 w)
    (h1 : V P N x (thenV (fun m' w' => ∃ s, Sub (e s) m' ∧ I s w') Q) m w) (h2 : ∀ s w', I s w' → K (e s) w') : V P N x (thenV K Q) m w :=
  V_mono (fun ex m1 w1 hq => by
    cases ex with
    | normal => obtain ⟨s, hs, hI⟩ := hq; exact hK _ _ _ hs (h2 s w1 hI)
    | _ => exact hq) h1
theorem V_meet1 {x y : Code} {σ : Type} (e : σ → Env) (I : σ → World → Prop)
    (h1 : V P N x (thenV (fun m' w' => ∃ s, Sub (e s) m' ∧ I s w') Q) m w) (h2 : ∀ s w', I s w' → V P N y Q (e s) w') : V P N x (thenV (fun m w => V P N y Q m w) Q) m w :=
  V_meet e I (fun _ _ _ hs h => V_sub hs h) h1 h2
end

section
variable {P : Program} {N : Nat} {ops : Array Oper} {K : Env → World → Prop} {m : Env} {w : World} {rest : List Oper} {ty : TypeId} {pos : String} {after : Array Edge} {g : Option (Nat × Bool)}
/-- A row of operations that may go several ways and meets again at its end, the world being the same. -/
theorem Ops_meet {dr : Bool} {l : List Oper} (M : Env) (h1 : Ops P N ops dr (fun m' w' => Sub M m' ∧ w' = w) l m w) (h2 : K M w) : Ops P N ops dr K l m w :=
  Ops_cut l.length M (by rw [List.take_length]; exact h1) (by rw [List.drop_length]; exact Ops_end rfl h2)
/-- The call returned something of which 'R' is known, in a world that has grown. -/
abbrev Gives (R : Value → World → Prop) (w : World) : Ending → World → Prop := fun e w' => ∃ v, e = .returned v ∧ Ext w w' ∧ R v w'
theorem Gives_mk {R : Value → World → Prop} {v : Value} {w w1 : World} (hR : ∀ w', Ext w1 w' → R v w') (he : Ext w w1) : ∀ w', Ext w1 w' → Gives R w (.returned v) w' := fun w' h => ⟨v, rfl, he.trans h, hR w' h⟩
/-- A call in the text's order, whose result is known by 'R' alone. -/
theorem Ops_callR {dst : Nat} {f : FuncId} {xs : Array Operand} {ats : Array TypeId} {vs : List Value} {R : World → Value → World → Prop} [hf : TFun P f]
    (hon : On N ops m ⟨some dst, .call { callee := .value (.func f), args := xs, argTypes := ats }, ty, pos, after, g⟩) (hd : Nat.ble (dst + 1) N = true) (hx : evs m xs.toList = some vs)
    (hc : ∀ w', Ext w w' → Calls P f vs.toArray w' (Gives (R w') w'))
    (h : ∀ v w1 w0, Ext w w0 → Ext w0 w1 → R w0 v w1 → Ops P N ops false K rest ((dst, v) :: m) w1) : Ops P N ops false K (⟨some dst, .call { callee := .value (.func f), args := xs, argTypes := ats }, ty, pos, after, g⟩ :: rest) m w := by
  refine ⟨fun a w' ha hw => ?_⟩
  unfold wpList
  rw [if_pos (hon.out a ha)]
  refine .inl ?_
  have e1 : xs.map a.eval = vs.toArray := map_evs ha hx
  have hr : (execOp a.eval ⟨some dst, .call { callee := .value (.func f), args := xs, argTypes := ats }, ty, pos, after, g⟩).run P w' = .ok (.enter f vs.toArray) w' := by
    rw [execOp_call_go, e1]
    simpa using hf.h vs.toArray w'
  unfold Oper.wp
  rw [hr]
  refine Calls.mono (hc w' hw) fun e w2 hg => ?_
  obtain ⟨v, rfl, he, hR⟩ := hg
  exact (h v w2 w' hw he hR).out _ _ (ha.put (Nat.le_of_ble_eq_true hd) v) (Ext.refl _)
end

/-! ### Lists in memory -/
/-- The elements of a slice, each of 'n0' cells. -/
def Arr (w : World) (n0 : Nat) (ao : Option Addr) (L : List (List Value)) : Prop := ∀ k x, L[k]? = some x → ∃ ad, ao = some ad ∧ Cells w (ad.add (k * n0)) x
section
variable {w w' w0 w1 : World} {base n0 : Nat} {e : TypeId} {v : Value} {L : List (List Value)} {ao : Option Addr} {row : Option Nat}
theorem Arr.ext (h : Arr w n0 ao L) (he : Ext w w') : Arr w' n0 ao L := fun k x hk => by
  obtain ⟨ad, h1, h2⟩ := h k x hk
  exact ⟨ad, h1, h2.ext he⟩
theorem Arr.nil : Arr w n0 ao [] := fun k x hk => by simp at hk
structure Own (w : World) (base : Nat) (e : TypeId) (n0 : Nat) (v : Value) (L : List (List Value)) : Prop where
  row : w.ownsRow base e n0 v L.length L.flatten
  len : ∀ x ∈ L, x.length = n0
theorem Own.ext (h : Own w base e n0 v L) (he : Ext w w') : Own w' base e n0 v L := ⟨own_ext h.row he, h.len⟩
theorem Own.grow (h : Own w base e n0 v L) (hg : w.grownBy w' row) (hne : v.ownBlock ≠ row ∨ v.ownBlock = none) : Own w' base e n0 v L := ⟨own_grow h.row hg hne, h.len⟩
theorem Own.upd {b : Nat} {t : TypeId} {cs : List Value} (h : Own w base e n0 v L) (hu : Upd w w' b t cs) (hne : v.ownBlock ≠ some b) : Own w' base e n0 v L := ⟨own_upd h.row hu hne, h.len⟩
theorem Own.nil : Own w base e n0 (.slice none 0 0) [] := ⟨own_nil, by simp⟩
theorem Own.ge (h : Own w base e n0 v L) {b : Nat} (hb : v.ownBlock = some b) : base ≤ b := by
  obtain ⟨_, ⟨h1, _⟩ | ⟨g, cap, cur, h1, h2, _⟩⟩ := h.row
  · subst h1; cases hb
  · subst h1; cases hb; exact h2
theorem Own.lt (h : Own w base e n0 v L) {b : Nat} (hb : v.ownBlock = some b) : b < w.heap.size := by
  obtain ⟨_, ⟨h1, _⟩ | ⟨g, cap, cur, h1, h2, h3, _⟩⟩ := h.row
  · subst h1; cases hb
  · subst h1; cases hb
    exact (Array.getElem?_eq_some_iff.1 h3).1
theorem Own.mono {base' : Nat} (h : Own w base e n0 v L) (hb : base' ≤ base) : Own w base' e n0 v L :=
  ⟨⟨h.row.1, h.row.2.imp id fun ⟨g, cap, cur, h1, h2, h3⟩ => ⟨g, cap, cur, h1, Nat.le_trans hb h2, h3⟩⟩, h.len⟩
theorem add_add (a : Addr) (i j : Nat) : (a.add i).add j = a.add (i + j) := by
  unfold Addr.add
  by_cases hi : i = 0
  · subst hi; simp
  · by_cases hj : j = 0
    · subst hj; simp
    · simp [hi, hj, Nat.add_assoc]
theorem cells_flat : ∀ {L : List (List Value)} {w : World} {a : Addr}, Cells w a L.flatten → (∀ x ∈ L, x.length = n0) → ∀ k x, L[k]? = some x → Cells w (a.add (k * n0)) x
  | [], _, _, _, _, k, x, hk => by simp at hk
  | y :: r, w, a, h, hl, 0, x, hk => by
    simp only [List.getElem?_cons_zero, Option.some.injEq] at hk
    subst hk
    intro j u hj
    have hlt : j < y.length := (List.getElem?_eq_some_iff.1 hj).1
    have := h j u (by rw [List.flatten_cons, List.getElem?_append_left hlt]; exact hj)
    rw [add_add, Nat.zero_mul, Nat.zero_add]; exact this
  | y :: r, w, a, h, hl, k + 1, x, hk => by
    simp only [List.getElem?_cons_succ] at hk
    have hy := hl y (List.mem_cons_self ..)
    have h' : Cells w (a.add n0) r.flatten := fun j u hj => by
      rw [add_add]
      refine h (n0 + j) u ?_
      rw [List.flatten_cons, List.getElem?_append_right (by omega), hy]
      simpa using hj
    have := cells_flat (a := a.add n0) h' (fun z hz => hl z (List.mem_cons_of_mem _ hz)) k x hk
    rw [add_add, Nat.add_comm, ← Nat.succ_mul] at this; exact this
theorem flat_of : ∀ {L : List (List Value)} {w : World} {a : Addr}, (∀ k x, L[k]? = some x → Cells w (a.add (k * n0)) x) → (∀ x ∈ L, x.length = n0) → Cells w a L.flatten
  | [], _, _, _, _ => fun j u hj => by simp at hj
  | y :: r, w, a, h, hl => fun j u hj => by
    have hy := hl y (List.mem_cons_self ..)
    rw [List.flatten_cons, List.getElem?_append] at hj
    split at hj
    · have := h 0 y rfl j u hj
      rw [add_add, Nat.zero_mul, Nat.zero_add] at this; exact this
    · rename_i hge
      have := flat_of (L := r) (w := w) (a := a.add n0) (fun k x hk => by
        have := h (k + 1) x (by simpa using hk)
        rw [Nat.succ_mul, Nat.add_comm, ← add_add] at this; exact this) (fun z hz => hl z (List.mem_cons_of_mem _ hz)) _ u hj
      rw [add_add, hy] at this
      rw [show n0 + (j - n0) = j by omega] at this
      exact this
/-- What a slice of one's own is, and what it holds. -/
theorem Own.slice (h : Own w base e n0 v L) : ∃ ao c, v = .slice ao L.length c ∧ Arr w n0 ao L := by
  obtain ⟨ao, c, rfl⟩ := own_len h.row
  refine ⟨ao, c, rfl, fun k x hk => ?_⟩
  cases ao with
  | none =>
    obtain ⟨_, ⟨h1, h2⟩ | ⟨g, cap, cur, h1, _⟩⟩ := h.row
    · obtain rfl : L = [] := List.length_eq_zero_iff.1 h2
      simp at hk
    · cases h1
  | some ad => exact ⟨ad, rfl, cells_flat (a := ad) (own_cells h.row rfl) h.len k x hk⟩
theorem dis_app {v v' : Value} {b : Nat} {w : World} (h : v'.ownBlock = v.ownBlock ∨ ∃ b, v'.ownBlock = some b ∧ w.heap.size ≤ b) (hne : v.ownBlock ≠ some b) (hb : b < w.heap.size) : v'.ownBlock ≠ some b := by
  rcases h with h | ⟨c, h1, h2⟩
  · rw [h]; exact hne
  · rw [h1]; intro e; cases e; omega
theorem Own.len_le (h : Own w base e n0 v L) : L.length ≤ maxLen := by
  obtain ⟨_, ⟨_, h2⟩ | ⟨g, cap, cur, h1, _, _, h4, h5, _⟩⟩ := h.row
  · rw [h2]; exact Nat.zero_le _
  · exact Nat.le_trans h4 h5
end

section
variable {P : Program} {N : Nat} {ops : Array Oper} {K : Env → World → Prop} {m : Env} {w : World} {rest : List Oper} {ty : TypeId} {pos : String} {after : Array Edge} {g : Option (Nat × Bool)}
/-- append of more elements onto a slice of one's own. -/
theorem Ops_appendL {dst : Nat} {t e : TypeId} {x y : Operand} {base k c : Nat} {v : Value} {L M : List (List Value)} {zs : List Value} {z : Value} {n0 b0 : Nat} {ad : Addr} [ht : TSlice P t e] [hs : TSize P e n0 b0] [hz : TZero P e z zs]
    (hon : On N ops m ⟨some dst, .call { callee := .builtin .append, args := #[x, y], argTypes := #[t, t] }, ty, pos, after, g⟩) (hd : Nat.ble (dst + 1) N = true)
    (hx : ev m x = some v) (hy : ev m y = some (.slice (some ad) k c)) (hzs : (Nat.beq zs.length n0 && Nat.ble 1 n0) = true)
    (hown : Own w base e n0 v L) (hnews : Cells w ad M.flatten) (hl : M.length = k) (hM : ∀ u ∈ M, u.length = n0) (h1 : ∀ u ∈ M, u.all (fun u => u.oneCell') = true) (hb : (L.length + k) * b0 ≤ 140737488355328) (hb0 : 1 ≤ b0) (hbase : base ≤ w.heap.size)
    (h : ∀ v' w1, Own w1 base e n0 v' (L ++ M) → w.grownBy w1 v.ownBlock → (v'.ownBlock = v.ownBlock ∨ ∃ b, v'.ownBlock = some b ∧ w.heap.size ≤ b) → Ops P N ops false K rest ((dst, v') :: m) w1) :
    Ops P N ops false K (⟨some dst, .call { callee := .builtin .append, args := #[x, y], argTypes := #[t, t] }, ty, pos, after, g⟩ :: rest) m w := by
  have hle : L.length + k ≤ 140737488355328 := Nat.le_trans (Nat.le_mul_of_pos_right _ hb0) hb
  have h63 : L.length + k ≤ maxLen := by unfold maxLen; omega
  have hfl : ∀ M : List (List Value), (∀ u ∈ M, u.length = n0) → M.flatten.length = M.length * n0 := by
    intro M hM
    induction M with
    | nil => simp
    | cons a r ih =>
      rw [List.flatten_cons, List.length_append, ih (fun u hu => hM u (List.mem_cons_of_mem _ hu)), hM a (List.mem_cons_self ..), List.length_cons, Nat.succ_mul, Nat.add_comm]
  refine Ops_append (n := L.length) hon hd hx hy hzs hown.row hnews (by rw [hfl M hM, hl]) (fun u hu => ?_) h63 hb hbase (fun v' w1 o g d => h v' w1 ⟨?_, ?_⟩ g d)
  · obtain ⟨l, hl1, hl2⟩ := List.mem_flatten.1 hu
    exact List.all_eq_true.1 (h1 l hl1) u hl2
  · rw [List.length_append, List.flatten_append, hl]; exact o
  · intro u hu
    rcases List.mem_append.1 hu with hu | hu
    · exact hown.len u hu
    · exact hM u hu
theorem Ops_append1 {dst : Nat} {t e : TypeId} {x y : Operand} {base c : Nat} {v : Value} {L : List (List Value)} {u zs : List Value} {z : Value} {n0 b0 : Nat} {ad : Addr} [ht : TSlice P t e] [hs : TSize P e n0 b0] [hz : TZero P e z zs]
    (hon : On N ops m ⟨some dst, .call { callee := .builtin .append, args := #[x, y], argTypes := #[t, t] }, ty, pos, after, g⟩) (hd : Nat.ble (dst + 1) N = true)
    (hx : ev m x = some v) (hy : ev m y = some (.slice (some ad) 1 c)) (hzs : (Nat.beq zs.length n0 && Nat.ble 1 n0) = true)
    (hown : Own w base e n0 v L) (hnews : Cells w ad u) (hM : TLen u n0) (h1 : OneAll u) (hb : (L.length + 1) * b0 ≤ 140737488355328) (hb0 : Nat.ble 1 b0 = true) (hbase : base ≤ w.heap.size)
    (h : ∀ v' w1, Own w1 base e n0 v' (L ++ [u]) → w.grownBy w1 v.ownBlock → (v'.ownBlock = v.ownBlock ∨ ∃ b, v'.ownBlock = some b ∧ w.heap.size ≤ b) → Ops P N ops false K rest ((dst, v') :: m) w1) :
    Ops P N ops false K (⟨some dst, .call { callee := .builtin .append, args := #[x, y], argTypes := #[t, t] }, ty, pos, after, g⟩ :: rest) m w :=
  Ops_appendL (M := [u]) hon hd hx hy hzs hown (by simpa using hnews) rfl (by simpa using hM.h) (by simpa using h1.h) hb (Nat.le_of_ble_eq_true hb0) hbase (by simpa using h)
/-- The literal of a slice without elements. -/
theorem Ops_lit0 {dst : Nat} {t e : TypeId} {zs : List Value} {z : Value} {n0 b0 : Nat} [ht : TSlice P t e] [hs : TSize P e n0 b0] [hz : TZero P e z zs] (hon : On N ops m ⟨some dst, .buildSlice t 0 #[], ty, pos, after, g⟩) (hd : Nat.ble (dst + 1) N = true)
    (h : ∀ w1 b, New w w1 b e [] → Own w1 w.heap.size e n0 (.slice (some ⟨b, 0, none⟩) 0 0) [] → Ops P N ops false K rest ((dst, .slice (some ⟨b, 0, none⟩) 0 0) :: m) w1) : Ops P N ops false K (⟨some dst, .buildSlice t 0 #[], ty, pos, after, g⟩ :: rest) m w := by
  refine ⟨fun a w' ha hw => ?_⟩
  unfold wpList
  rw [if_pos (hon.out a ha)]
  refine .inl ?_
  obtain ⟨inf, hi, hsz⟩ := Option.map_eq_some_iff.1 hs.h
  simp only [Prod.mk.injEq] at hsz
  obtain ⟨inf', hi', hz'⟩ := Option.bind_eq_some_iff.1 hz.h
  obtain rfl := Option.some.inj (hi.symm.trans hi')
  have hr : (execOp a.eval ⟨some dst, .buildSlice t 0 #[], ty, pos, after, g⟩).run P w' = .ok (.value (.slice (some ⟨w'.heap.size, 0, none⟩) 0 0)) (w'.alloc (.cells #[] e)) := by
    simp [execOp, Instr.buildSlice, run_underlying ht.h, sizeOf, typeInfo, hi, newRow, Instr.fill, show Array.range 0 = #[] from rfl]
  unfold Oper.wp
  rw [hr]
  have hn := New.of hw e []
  refine (h _ _ hn ⟨⟨by simp, .inr ⟨w'.heap.size, 0, #[], rfl, hn.ge, ?_, Nat.le_refl _, Nat.zero_le _, by simp, by simp⟩⟩, by simp⟩).out _ _ (ha.put (Nat.le_of_ble_eq_true hd) _) (Ext.refl _)
  exact alloc_heap w' _
end

/-! ### A store into an element of a slice of one's own -/
theorem flatten_set {n0 : Nat} {u : Value} {f : Nat} (hf : f < n0) : ∀ (L : List (List Value)) (i : Nat) (x : List Value), (∀ x ∈ L, x.length = n0) → L[i]? = some x → (L.set i (x.set f u)).flatten = L.flatten.set (i * n0 + f) u
  | [], i, x, _, h => by simp at h
  | y :: r, 0, x, hl, h => by
    simp only [List.getElem?_cons_zero, Option.some.injEq] at h
    subst h
    have := hl y (List.mem_cons_self ..)
    rw [List.set_cons_zero, List.flatten_cons, List.flatten_cons, Nat.zero_mul, Nat.zero_add, List.set_append_left _ _ (by omega)]
  | y :: r, i + 1, x, hl, h => by
    simp only [List.getElem?_cons_succ] at h
    have := hl y (List.mem_cons_self ..)
    rw [List.set_cons_succ, List.flatten_cons, List.flatten_cons, flatten_set hf r i x (fun z hz => hl z (List.mem_cons_of_mem _ hz)) h, List.set_append_right _ _ (by rw [Nat.succ_mul]; omega)]
    congr 2
    rw [Nat.succ_mul]; omega
theorem splice_one : ∀ (cs : List Value) (o : Nat) (u : Value), o < cs.length → splice cs o [u] = cs.set o u := by
  intro cs o u h
  unfold splice
  rw [List.set_eq_take_append_cons_drop, if_pos h]
  simp
theorem Upd.grown {w w1 : World} {b : Nat} {t : TypeId} {cs : List Value} (h : Upd w w1 b t cs) : w.grownBy w1 (some b) :=
  ⟨h.os, h.tape, h.output, Nat.le_of_eq h.size.symm, fun k _ hne => h.other k (fun e => hne (by rw [e]))⟩
theorem Own.addr {w : World} {base n0 : Nat} {e : TypeId} {v : Value} {L : List (List Value)} (h : Own w base e n0 v L) (hne : L ≠ []) : ∃ g c, v = .slice (some ⟨g, 0, none⟩) L.length c ∧ base ≤ g ∧ g < w.heap.size ∧ Cells w ⟨g, 0, none⟩ L.flatten := by
  obtain ⟨_, ⟨h1, h2⟩ | ⟨g, cap, cur, h1, h2, h3, _⟩⟩ := h.row
  · exact absurd (List.length_eq_zero_iff.1 h2) hne
  · exact ⟨g, cap, h1, h2, (Array.getElem?_eq_some_iff.1 h3).1, own_cells h.row h1⟩
section
variable {P : Program} {N : Nat} {ops : Array Oper} {K : Env → World → Prop} {m : Env} {w : World} {rest : List Oper} {ty : TypeId} {pos : String} {after : Array Edge} {gd : Option (Nat × Bool)}
theorem Ops_storeOwn {t e : TypeId} {x y : Operand} {base b0 n0 g cap i f : Nat} {p : Addr} {u : Value} {xi : List Value} {L : List (List Value)} [hs : TSize P t 1 b0] (hon : On N ops m ⟨none, .store t x y, ty, pos, after, gd⟩)
    (hx : ev m x = some (.pointer (some p))) (hy : ev m y = some u) (hp : p = ⟨g, i * n0 + f, none⟩) (hown : Own w base e n0 (.slice (some ⟨g, 0, none⟩) L.length cap) L) (hi : L[i]? = some xi) (hf : f < n0) [hu : TCells u [u]] (h1 : u.oneCell' = true)
    (h : ∀ w1, Own w1 base e n0 (.slice (some ⟨g, 0, none⟩) L.length cap) (L.set i (xi.set f u)) → w.grownBy w1 (some g) → Ops P N ops false K rest m w1) : Ops P N ops false K (⟨none, .store t x y, ty, pos, after, gd⟩ :: rest) m w := by
  subst hp
  obtain ⟨hlen, ⟨h2, _⟩ | ⟨g', cap', cur, h2, h3, h4, h5, h6, h7, h8⟩⟩ := hown.row
  · cases h2
  cases h2
  have hB : Blk w g e cur.toList := by unfold Blk; simpa using h4
  have hil : i < L.length := (List.getElem?_eq_some_iff.1 hi).1
  have ho : i * n0 + f < L.length * n0 := by
    have : (i + 1) * n0 ≤ L.length * n0 := Nat.mul_le_mul_right _ hil
    rw [Nat.succ_mul] at this; omega
  have hc : cur.toList.length = cap * n0 := by simpa using h7
  have hlc : L.length * n0 ≤ cap * n0 := Nat.mul_le_mul_right _ h5
  have : TSplice (i * n0 + f) [u] cur.toList (splice cur.toList (i * n0 + f) [u]) := ⟨over_splice _ _ _ (by simp; omega), by simp; omega⟩
  refine Ops_store (vs := [u]) hon hx hy hB (by simp [h1]) (fun w1 hu1 => h w1 ⟨⟨?_, .inr ⟨g, cap, _, by rw [List.length_set], h3, hu1.blk, ?_, h6, ?_, ?_⟩⟩, ?_⟩ hu1.grown)
  · rw [flatten_set hf L i xi hown.len hi, List.length_set, List.length_set]; exact hlen
  · rw [List.length_set]; exact h5
  · rw [splice_one _ _ _ (by omega)]; simpa using h7
  · rw [splice_one _ _ _ (by omega), flatten_set hf L i xi hown.len hi, List.length_set, ← h8, List.take_set]
  · intro z hz
    rcases List.mem_or_eq_of_mem_set hz with hz | rfl
    · exact hown.len z hz
    · rw [List.length_set]; exact hown.len xi (List.mem_of_getElem? hi)
end

theorem flatten_set_all {n0 : Nat} {u : List Value} (hu : u.length = n0) : ∀ (L : List (List Value)) (i : Nat), (∀ x ∈ L, x.length = n0) → i < L.length → (L.set i u).flatten = splice L.flatten (i * n0) u
  | [], i, _, h => by simp at h
  | y :: r, 0, hl, _ => by
    have := hl y (List.mem_cons_self ..)
    rw [List.set_cons_zero, List.flatten_cons, List.flatten_cons, Nat.zero_mul]
    unfold splice
    rw [List.take_zero, List.nil_append, Nat.zero_add, List.drop_append_of_le_length (by omega), List.drop_of_length_le (by omega), List.nil_append]
  | y :: r, i + 1, hl, h => by
    have := hl y (List.mem_cons_self ..)
    rw [List.set_cons_succ, List.flatten_cons, List.flatten_cons, flatten_set_all hu r i (fun z hz => hl z (List.mem_cons_of_mem _ hz)) (by simpa using h)]
    have e1 : (i + 1) * n0 = y.length + i * n0 := by rw [Nat.succ_mul]; omega
    unfold splice
    rw [e1, Nat.add_assoc, List.take_length_add_append, List.drop_length_add_append]
    simp
section
variable {P : Program} {N : Nat} {ops : Array Oper} {K : Env → World → Prop} {m : Env} {w : World} {rest : List Oper} {ty : TypeId} {pos : String} {after : Array Edge} {gd : Option (Nat × Bool)}
/-- A store of a whole element. -/
theorem Ops_storeElem {t e : TypeId} {x y : Operand} {base b0 n0 g cap i : Nat} {p : Addr} {v : Value} {u : List Value} {L : List (List Value)} [hs : TSize P t n0 b0] (hon : On N ops m ⟨none, .store t x y, ty, pos, after, gd⟩)
    (hx : ev m x = some (.pointer (some p))) (hy : ev m y = some v) (hp : p = ⟨g, i * n0, none⟩) (hown : Own w base e n0 (.slice (some ⟨g, 0, none⟩) L.length cap) L) (hi : i < L.length) [hu : TCells v u] [hl : TLen u n0] (h1 : u.all (fun u => u.oneCell') = true)
    (h : ∀ w1, Own w1 base e n0 (.slice (some ⟨g, 0, none⟩) L.length cap) (L.set i u) → w.grownBy w1 (some g) → Ops P N ops false K rest m w1) : Ops P N ops false K (⟨none, .store t x y, ty, pos, after, gd⟩ :: rest) m w := by
  subst hp
  obtain ⟨hlen, ⟨h2, _⟩ | ⟨g', cap', cur, h2, h3, h4, h5, h6, h7, h8⟩⟩ := hown.row
  · cases h2
  cases h2
  have hB : Blk w g e cur.toList := by unfold Blk; simpa using h4
  have ho : i * n0 + n0 ≤ L.length * n0 := by
    have : (i + 1) * n0 ≤ L.length * n0 := Nat.mul_le_mul_right _ hi
    rw [Nat.succ_mul] at this; omega
  have hc : cur.toList.length = cap * n0 := by simpa using h7
  have hlc : L.length * n0 ≤ cap * n0 := Nat.mul_le_mul_right _ h5
  have hul := hl.h
  have : TSplice (i * n0) u cur.toList (splice cur.toList (i * n0) u) := ⟨over_splice _ _ _ (by omega), by omega⟩
  have hsl : (splice cur.toList (i * n0) u).length = cur.toList.length := by unfold splice; simp only [List.length_append, List.length_take, List.length_drop]; omega
  refine Ops_store (vs := u) hon hx hy hB h1 (fun w1 hu1 => h w1 ⟨⟨?_, .inr ⟨g, cap, _, by rw [List.length_set], h3, hu1.blk, ?_, h6, ?_, ?_⟩⟩, ?_⟩ hu1.grown)
  · rw [flatten_set_all hul L i hown.len hi, List.length_set]
    unfold splice; simp only [List.length_append, List.length_take, List.length_drop]; omega
  · rw [List.length_set]; exact h5
  · rw [← hc, ← hsl]; simp
  · rw [flatten_set_all hul L i hown.len hi, List.length_set, ← h8]
    unfold splice
    have e1 : (List.take (i * n0) cur.toList ++ u).length = i * n0 + n0 := by simp; omega
    rw [List.take_append, e1, List.take_of_length_le (by omega), List.take_take, Nat.min_eq_left (by omega), List.drop_take, hul]
  · intro z hz
    rcases List.mem_or_eq_of_mem_set hz with hz | rfl
    · exact hown.len z hz
    · exact hul
end

/-! ### Sets: maps from numbers to true -/
def BSet (w : World) (b : Nat) (k : IntKind) (S : Int → Bool) : Prop := MapI w b k (fun y => if S y then some (.bool true) else none)
section
variable {P : Program} {N : Nat} {ops : Array Oper} {K : Env → World → Prop} {m : Env} {w w' w1 : World} {rest : List Oper} {ty : TypeId} {pos : String} {after : Array Edge} {g : Option (Nat × Bool)} {b : Nat} {k : IntKind} {S : Int → Bool} {row : Option Nat}
theorem BSet.ext (h : BSet w b k S) (he : Ext w w') : BSet w' b k S := MapI.ext h he
theorem BSet.lt (h : BSet w b k S) : b < w.heap.size := MapI.lt h
theorem BSet.grow (h : BSet w b k S) (hg : w.grownBy w1 row) (hne : some b ≠ row) : BSet w1 b k S := MapI.grow h hg hne
theorem BSet.upd {b' : Nat} {t : TypeId} {cs : List Value} (h : BSet w b k S) (hu : Upd w w1 b' t cs) (hne : b ≠ b') : BSet w1 b k S := MapI.upd h hu hne
theorem Yl_has {dst : Option Tmp} {t kt et : TypeId} {x i : Operand} {y : Int} {zs : List Value} [ht : TMap P t kt et] [hk : TInt P kt k] [hz : TZero P et (.bool false) zs]
    (hx : ev m x = some (.map (some b))) (hi : ev m i = some (.int k y)) (hM : BSet w b k S) : Yl P N m w ⟨dst, .lookup t x i false, ty, pos, after, g⟩ (.bool (S y)) := by
  have := Yl_lookup (P := P) (t := t) (kt := kt) (et := et) (z := .bool false) (zs := zs) (N := N) (m := m) (w := w) (dst := dst) (ty := ty) (pos := pos) (after := after) (g := g) hx hi hM
  cases hS : S y with
  | false => simpa [hS] using this
  | true => simpa [hS] using this
theorem Ops_newSet {dst : Nat} {t kt et : TypeId} [TMap P t kt et] [TInt P kt k] (hon : On N ops m ⟨some dst, .makeMap t none, ty, pos, after, g⟩) (hd : Nat.ble (dst + 1) N = true)
    (h : ∀ w1 b, Ext w w1 → w.heap.size ≤ b → BSet w1 b k (fun _ => false) → Ops P N ops false K rest ((dst, .map (some b)) :: m) w1) : Ops P N ops false K (⟨some dst, .makeMap t none, ty, pos, after, g⟩ :: rest) m w :=
  Ops_makeMap (k := k) (kt := kt) (et := et) hon hd (fun w1 b he hb hM => h w1 b he hb (by unfold BSet; simpa using hM))
theorem Ops_put {t kt et : TypeId} {x i u : Operand} {y : Int} [ht : TMap P t kt et] [hk : TInt P kt k] (hon : On N ops m ⟨none, .mapUpdate t x i u, ty, pos, after, g⟩)
    (hx : ev m x = some (.map (some b))) (hi : ev m i = some (.int k y)) (hu : ev m u = some (.bool true)) (hM : BSet w b k S)
    (h : ∀ w1, w.grownBy w1 (some b) → BSet w1 b k (fun y' => decide (y' = y) || S y') → Ops P N ops false K rest m w1) : Ops P N ops false K (⟨none, .mapUpdate t x i u, ty, pos, after, g⟩ :: rest) m w :=
  Ops_mapUpdate hon hx hi hu hM (fun w1 hg hM' => h w1 hg (by
    unfold BSet
    have e : (fun y' => if (decide (y' = y) || S y') = true then some (Value.bool true) else none) = (fun y' => if y' = y then some (Value.bool true) else if S y' then some (.bool true) else none) := by
      funext y'
      by_cases h : y' = y <;> simp [h]
    rw [e]; exact hM'))
end
end Go.Proofs.Ytfakgiikobajnaa

/-
  The rules for operations that make or change memory, and for entering and leaving a function.
  No conditions beyond those that each rule states.
-/
import Derived.Test.YtfakgiikobajnaaVOps
namespace Go.Proofs.Ytfakgiikobajnaa
open Go.RowKit

section
variable {w w' : World} {b : Nat} {t : TypeId} {cs : List Value}
theorem Blk.lt (h : Blk w b t cs) : b < w.heap.size := by
  rcases Nat.lt_or_ge b w.heap.size with h1 | h1
  · exact h1
  · unfold Blk at h; rw [Array.getElem?_eq_none h1] at h; cases h
theorem Blk.ext (h : Blk w b t cs) (he : Ext w w') : Blk w' b t cs := he.blk h
theorem Blk.cell (h : Blk w b t cs) {o : Nat} {v : Value} (hv : cs[o]? = some v) : w.cell? ⟨b, o, none⟩ = some v := by
  unfold Blk at h; simp [World.cell?, h, hv]
theorem Blk.cell_add (h : Blk w b t cs) {o n : Nat} {v : Value} (hv : cs[o + n]? = some v) : w.cell? ((⟨b, o, none⟩ : Addr).add n) = some v := by
  rw [add_blk]; exact h.cell hv
theorem Blk.cells (h : Blk w b t cs) : Cells w ⟨b, 0, none⟩ cs := fun j v hj => by rw [add_blk]; exact h.cell (by simpa using hj)
theorem Blk.part (h : Blk w b t cs) (o n : Nat) : Cells w ⟨b, o, none⟩ ((cs.drop o).take n) := fun j v hj => by
  rw [add_blk]
  refine h.cell ?_
  rw [List.getElem?_take] at hj
  split at hj
  · simpa using hj
  · cases hj
theorem Blk.frozen (h : Blk w b t cs) (o : Nat) : w.frozen? ⟨b, o, none⟩ = false := by
  unfold Blk at h; simp [World.frozen?, h]
end

theorem New.of {w w' : World} (h : Ext w w') (t : TypeId) (cs : List Value) : New w (w'.alloc (.cells cs.toArray t)) w'.heap.size t cs :=
  ⟨h.alloc _, h.size, alloc_heap _ _⟩

/-- Block b has turned, and no other. -/
structure Upd (w w1 : World) (b : Nat) (t : TypeId) (cs : List Value) : Prop where
  os : w1.os = w.os
  tape : w1.tape = w.tape
  output : w1.output = w.output
  size : w1.heap.size = w.heap.size
  other : ∀ k, k ≠ b → w1.heap[k]? = w.heap[k]?
  blk : Blk w1 b t cs
theorem Upd.keep {w w1 : World} {b b' : Nat} {t t' : TypeId} {cs cs' : List Value} (h : Upd w w1 b t cs) (hb : Blk w b' t' cs') (hne : b' ≠ b) : Blk w1 b' t' cs' := by
  unfold Blk; rw [h.other b' hne]; exact hb
/-- What was there before block b stays. -/
theorem Upd.below {w0 w w1 : World} {b : Nat} {t : TypeId} {cs : List Value} (h : Upd w w1 b t cs) (he : Ext w0 w) (hge : w0.heap.size ≤ b) : Ext w0 w1 :=
  ⟨h.os.trans he.os, h.tape.trans he.tape, h.output.trans he.output, by rw [h.size]; exact he.size, fun k hk => by rw [h.other k (by omega)]; exact he.block k hk⟩
theorem Upd.cell {w w1 : World} {b : Nat} {t : TypeId} {cs : List Value} (h : Upd w w1 b t cs) {a : Addr} (hne : a.block ≠ b) : w1.cell? a = w.cell? a := World.cell?_of_block (h.other _ hne)

def splice (cs : List Value) (o : Nat) (vs : List Value) : List Value := cs.take o ++ vs ++ cs.drop (o + vs.length)

theorem Upd.of {w : World} {b : Nat} {t : TypeId} {cs cs' : List Value} (h : Blk w b t cs) : Upd w (w.setRow b cs'.toArray) b t cs' :=
  ⟨rfl, rfl, rfl, by simp, fun k hk => setRow_other w b k _ hk, setRow_heap w b _ _ _ _ h⟩
theorem ext_setRow {w w' : World} (h : Ext w w') {b : Nat} (cs : Array Value) : Ext (w.setRow b cs) (w'.setRow b cs) :=
  ⟨h.os, h.tape, h.output, by simpa using h.size, fun k hk => by
    have hk' : k < w.heap.size := by simpa using hk
    have e := h.block k hk'
    simp only [World.setRow, Array.getElem?_modify]
    split
    · rw [e]
    · exact e⟩

section
variable {P : Program} {N : Nat} {ops : Array Oper} {K : Env → World → Prop} {m : Env} {w : World} {rest : List Oper} {ty : TypeId} {pos : String} {after : Array Edge} {g : Option (Nat × Bool)}

theorem Ops_box {dst : Nat} {e : TypeId} {x : Operand} {v : Value} {cs : List Value} (hon : On N ops m ⟨some dst, .box e x, ty, pos, after, g⟩) (hd : Nat.ble (dst + 1) N = true) (hx : ev m x = some v) (hcs : v.cells = cs.toArray)
    (h : ∀ w1 b, New w w1 b e cs → Ops P N ops false K rest ((dst, .pointer (some ⟨b, 0, none⟩)) :: m) w1) : Ops P N ops false K (⟨some dst, .box e x, ty, pos, after, g⟩ :: rest) m w := by
  refine ⟨fun a w' ha hw => ?_⟩
  unfold wpList
  rw [if_pos (hon.out a ha)]
  refine .inl ?_
  have hr : (execOp a.eval ⟨some dst, .box e x, ty, pos, after, g⟩).run P w' = .ok (.value (.pointer (some ⟨w'.heap.size, 0, none⟩))) (w'.alloc (.cells cs.toArray e)) := by
    simp only [execOp, ha.ev hx, Instr.box, newVar, hcs]; rfl
  unfold Oper.wp
  rw [hr]
  exact (h _ _ (New.of hw e cs)).out _ _ (ha.put (Nat.le_of_ble_eq_true hd) _) (Ext.refl _)
theorem Ops_alloc {dst : Nat} {e : TypeId} {z : Value} {cs : List Value} [hz : TZero P e z cs] (hon : On N ops m ⟨some dst, .alloc e, ty, pos, after, g⟩) (hd : Nat.ble (dst + 1) N = true)
    (h : ∀ w1 b, New w w1 b e cs → Ops P N ops false K rest ((dst, .pointer (some ⟨b, 0, none⟩)) :: m) w1) : Ops P N ops false K (⟨some dst, .alloc e, ty, pos, after, g⟩ :: rest) m w := by
  refine ⟨fun a w' ha hw => ?_⟩
  unfold wpList
  rw [if_pos (hon.out a ha)]
  refine .inl ?_
  have hr : (execOp a.eval ⟨some dst, .alloc e, ty, pos, after, g⟩).run P w' = .ok (.value (.pointer (some ⟨w'.heap.size, 0, none⟩))) (w'.alloc (.cells cs.toArray e)) := by
    obtain ⟨inf, h1, h2⟩ := Option.bind_eq_some_iff.1 hz.h
    have hz' : (zeroValue e).run P w' = .ok z w' := by simp [zeroValue, typeInfo, h1, h2]
    simp only [execOp, Instr.alloc, Sem.run_bind, hz', Result.andThen_ok, newVar, hz.cells]
    rfl
  unfold Oper.wp
  rw [hr]
  exact (h _ _ (New.of hw e cs)).out _ _ (ha.put (Nat.le_of_ble_eq_true hd) _) (Ext.refl _)
theorem over_splice : ∀ (o : Nat) (vs cs : List Value), o + vs.length ≤ cs.length → over o vs cs = splice cs o vs
  | o, [], cs, _ => by rw [over_nil]; simp [splice]
  | 0, v :: vs, c :: cs, h => by
    have := over_splice 0 vs cs (by simp at h ⊢; omega)
    simp only [over, this, splice]; simp
  | o + 1, v :: vs, c :: cs, h => by
    have := over_splice o (v :: vs) cs (by simp at h ⊢; omega)
    simp only [over, this, splice]
    rw [List.take_succ_cons, show o + 1 + (v :: vs).length = (o + (v :: vs).length) + 1 by omega, List.drop_succ_cons]; rfl
/-- A store into a block of one's own. -/
theorem Ops_store {t t0 : TypeId} {x y : Operand} {b o : Nat} {cs vs out : List Value} {v : Value} {n0 b0 : Nat} [hs : TSize P t n0 b0] (hon : On N ops m ⟨none, .store t x y, ty, pos, after, g⟩)
    (hx : ev m x = some (.pointer (some ⟨b, o, none⟩))) (hy : ev m y = some v) (hB : Blk w b t0 cs) [hv : TCells v vs] [hl : TLen vs n0] [hp : TSplice o vs cs out] (h1 : vs.all (fun u => u.oneCell') = true)
    (h : ∀ w1, Upd w w1 b t0 out → Ops P N ops false K rest m w1) : Ops P N ops false K (⟨none, .store t x y, ty, pos, after, g⟩ :: rest) m w := by
  refine ⟨fun a w' ha hw => ?_⟩
  unfold wpList
  rw [if_pos (hon.out a ha)]
  refine .inl ?_
  obtain ⟨inf, hi, hsz⟩ := Option.map_eq_some_iff.1 hs.h
  simp only [Prod.mk.injEq] at hsz
  have hlen := hl.h
  have ho := hp.len
  have hst := run_storeCells_at P b o t0 vs 0 cs.toArray w' (hB.ext hw) (by simpa using ho) (List.all_eq_true.1 h1)
  simp only [Nat.add_zero] at hst
  have e : out = splice cs o vs := by rw [← hp.h]; exact over_splice _ _ _ ho
  have hr : (execOp a.eval ⟨none, .store t x y, ty, pos, after, g⟩).run P w' = .ok .skip (w'.setRow b out.toArray) := by
    rw [e]
    simp only [execOp, ha.ev hx, ha.ev hy, Instr.storeAt, Instr.sureAddr, storeVar, sizeOf, typeInfo]
    simp [hi, hsz.1, hv.h, hlen, hst, splice]
  unfold Oper.wp
  rw [hr]
  exact (h _ (Upd.of hB)).out _ _ (ha.put_none _) (ext_setRow hw _)
end

/-! ### Regions that draw their order and make memory -/
section
variable {P : Program} {N : Nat} {m : Env} {w : World}
theorem allocRuns {e : TypeId} {z : Value} {cs : List Value} [hz : TZero P e z cs] : AllocRuns P e cs := fun ρ o w' ho => by
  obtain ⟨inf, h1, h2⟩ := Option.bind_eq_some_iff.1 hz.h
  have hz' : (zeroValue e).run P w' = .ok z w' := by simp [zeroValue, typeInfo, h1, h2]
  simp only [execOp, ho, Instr.alloc, Sem.run_bind, hz', Result.andThen_ok, newVar, hz.cells]
  rfl
theorem V_region_drawn (n : Nat) {Q : Exit → Env → World → Prop} {id : Nat} {l : List Oper} (Z : Nat → List Value) (hm : P.follows .mixedOrders = true) (hB : drawB l.toArray n = true)
    (hZ : ∀ p ∈ allocsOf (l.take n), p.1 < N ∧ AllocRuns P p.2 (Z p.1))
    (h : Ops P N ((l.take n).map skipA).toArray true (fun m' _ => ∀ (w1 : World) (f : Nat → Nat), Ext w w1 → (∀ p ∈ allocsOf (l.take n), w.heap.size ≤ f p.1 ∧ Blk w1 (f p.1) p.2 (Z p.1)) →
      (∀ p ∈ allocsOf (l.take n), ∀ q ∈ allocsOf (l.take n), p.1 ≠ q.1 → f p.1 ≠ f q.1) →
      Ops P N l.toArray false (fun m w => Q .normal m w) (l.drop n) ((allocsOf (l.take n)).map (fun p => (p.1, Value.pointer (some ⟨f p.1, 0, none⟩))) ++ m') w1) ((l.take n).map skipA) m w) :
    V P N (.region id l.toArray true) Q m w := by
  refine ⟨fun a w' ha hw => ?_⟩
  refine wp_drawn (Z := Z) hm hB (fun p hp => ⟨by rw [ha.size]; exact (hZ p hp).1, (hZ p hp).2⟩) hw (h.out a ha) ?_
  rintro a' a1 w1 f hw1 ⟨m', hk, ag⟩ hb hmd
  have o1 := hk w1 f hw1 (fun p hp => (hmd.slot p.1 p.2 hp).2) (fun p hp q hq hne => hmd.apart p.1 p.2 q.1 q.2 hp hq hne)
  have key : ∀ (xs : Env) (i : Nat) (v : Value), look (xs ++ m') i = some v → (∃ p ∈ xs, p.1 = i ∧ p.2 = v) ∨ (i ∉ xs.map (·.1) ∧ look m' i = some v) := by
    intro xs
    induction xs with
    | nil => exact fun i v h => .inr ⟨by simp, h⟩
    | cons p r ih =>
      intro i v hi
      obtain ⟨j, u⟩ := p
      by_cases e : j = i
      · subst e
        rw [List.cons_append, look_same] at hi
        cases hi
        exact .inl ⟨_, List.mem_cons_self .., rfl, rfl⟩
      · rw [List.cons_append, look_other _ _ e] at hi
        rcases ih i v hi with ⟨q, hq, h2⟩ | ⟨h2, h3⟩
        · exact .inl ⟨q, List.mem_cons_of_mem _ hq, h2⟩
        · exact .inr ⟨by simp only [List.map_cons, List.mem_cons, not_or]; exact ⟨fun h4 => e h4.symm, h2⟩, h3⟩
  have ag1 : Agree N ((allocsOf (l.take n)).map (fun p => (p.1, Value.pointer (some ⟨f p.1, 0, none⟩))) ++ m') a1 := by
    refine ⟨by rw [hb.defers]; exact ag.defers, by rw [hb.size]; exact ag.size, fun i v hi => ?_⟩
    rcases key _ i v hi with ⟨p, hp, h1, h2⟩ | ⟨h1, h2⟩
    · obtain ⟨q, hq, rfl⟩ := List.mem_map.1 hp
      subst h1; subst h2
      exact (hmd.slot q.1 q.2 hq).1
    · rw [hb.slot i (by simpa [List.map_map] using h1)]
      exact ag.slot i v h2
  have h5 := o1.out a1 w1 ag1 (Ext.refl _)
  have mono : ∀ (l' : List Oper) (a : Act) (w0 : World), wpList P l.toArray (fun e a' w'' => e = .normal ∧ ∃ m' w1, Q .normal m' w1 ∧ Agree N m' a' ∧ Ext w1 w'') l' a w0 → wpList P l.toArray (lift N Q) l' a w0 := by
    intro l'
    induction l' with
    | nil => exact fun a w0 ⟨_, m', w1, q, ag, ex⟩ => ⟨m', w1, q, ag, ex⟩
    | cons o r ih =>
      intro a w0 h6
      unfold wpList at h6 ⊢
      split
      · rename_i hwn
        rw [if_pos hwn] at h6
        rcases h6 with h6 | h6
        · exact .inl (wp_normal (fun a1 w1 hh => ih a1 w1 hh) h6)
        · obtain ⟨_, _, _, h7, _⟩ := h6; cases h7
      · rename_i hwn
        rw [if_neg hwn] at h6
        exact ih _ _ h6
  exact mono _ _ _ h5
/-- No allocation among the first n. -/
theorem V_region_mixed (n : Nat) {Q : Exit → Env → World → Prop} {id : Nat} {l : List Oper} (hm : P.follows .mixedOrders = true) (hB : drawB l.toArray n = true) (h0 : allocsOf (l.take n) = [])
    (h : Ops P N ((l.take n).map skipA).toArray true (fun m' w' => Ops P N l.toArray false (fun m w => Q .normal m w) (l.drop n) m' w') ((l.take n).map skipA) m w) : V P N (.region id l.toArray true) Q m w := by
  refine V_region_drawn n (fun _ => []) hm hB (by rw [h0]; intro p hp; cases hp) ⟨fun a ha => listY_mono (fun a' ⟨m', hk, ag⟩ => ⟨m', fun w1 f hw1 _ _ => ?_, ag⟩) _ _ (h.out a ha)⟩
  rw [h0]
  exact ⟨fun a1 w2 ha1 hw2 => hk.out a1 w2 ha1 (hw1.trans hw2)⟩
theorem V_draw1 (n : Nat) {Q : Exit → Env → World → Prop} {id : Nat} {l : List Oper} {d : Nat} {t : TypeId} {z : Value} {cs : List Value} (hm : P.follows .mixedOrders = true) (hB : drawB l.toArray n = true) (h0 : allocsOf (l.take n) = [(d, t)])
    (hd : Nat.ble (d + 1) N = true) [hz : TZero P t z cs]
    (h : Ops P N ((l.take n).map skipA).toArray true (fun m' _ => ∀ (w1 : World) (b : Nat), New w w1 b t cs → Ops P N l.toArray false (fun m w => Q .normal m w) (l.drop n) ((d, .pointer (some ⟨b, 0, none⟩)) :: m') w1) ((l.take n).map skipA) m w) :
    V P N (.region id l.toArray true) Q m w := by
  refine V_region_drawn n (fun _ => cs) hm hB (by rw [h0]; intro p hp; obtain rfl := List.mem_singleton.1 hp; exact ⟨Nat.le_of_ble_eq_true hd, allocRuns⟩)
    ⟨fun a ha => listY_mono (fun a' ⟨m', hk, ag⟩ => ⟨m', fun w1 f hw1 h1 _ => ?_, ag⟩) _ _ (h.out a ha)⟩
  rw [h0] at h1 ⊢
  obtain ⟨h2, h3⟩ := h1 _ (List.mem_singleton.2 rfl)
  exact hk w1 (f d) ⟨hw1, h2, h3⟩
theorem V_draw2 (n : Nat) {Q : Exit → Env → World → Prop} {id : Nat} {l : List Oper} {d d' : Nat} {t t' : TypeId} {z z' : Value} {cs cs' : List Value} (hm : P.follows .mixedOrders = true) (hB : drawB l.toArray n = true)
    (h0 : allocsOf (l.take n) = [(d, t), (d', t')]) (hd : Nat.ble (d + 1) N = true) (hd' : Nat.ble (d' + 1) N = true) (hne : Nat.beq d d' = false) [hz : TZero P t z cs] [hz' : TZero P t' z' cs']
    (h : Ops P N ((l.take n).map skipA).toArray true (fun m' _ => ∀ (w1 : World) (b b' : Nat), Ext w w1 → w.heap.size ≤ b → w.heap.size ≤ b' → b ≠ b' → Blk w1 b t cs → Blk w1 b' t' cs' →
      Ops P N l.toArray false (fun m w => Q .normal m w) (l.drop n) ((d, .pointer (some ⟨b, 0, none⟩)) :: (d', .pointer (some ⟨b', 0, none⟩)) :: m') w1) ((l.take n).map skipA) m w) :
    V P N (.region id l.toArray true) Q m w := by
  have hne' : d' ≠ d := fun e => by subst e; rw [Nat.beq_refl] at hne; cases hne
  refine V_region_drawn n (fun x => if x = d then cs else cs') hm hB (by
      rw [h0]; intro p hp
      simp only [List.mem_cons, List.not_mem_nil, or_false] at hp
      rcases hp with rfl | rfl
      · exact ⟨Nat.le_of_ble_eq_true hd, by simp only [if_true]; exact allocRuns⟩
      · exact ⟨Nat.le_of_ble_eq_true hd', by simp only [hne', if_false]; exact allocRuns⟩)
    ⟨fun a ha => listY_mono (fun a' ⟨m', hk, ag⟩ => ⟨m', fun w1 f hw1 h1 h9 => ?_, ag⟩) _ _ (h.out a ha)⟩
  rw [h0] at h1 h9 ⊢
  obtain ⟨h2, h3⟩ := h1 (d, t) (by simp)
  obtain ⟨h4, h5⟩ := h1 (d', t') (by simp)
  simp only [if_true] at h3
  simp only [hne', if_false] at h5
  exact hk w1 (f d) (f d') hw1 h2 h4 (h9 (d, t) (by simp) (d', t') (by simp) (Ne.symm hne')) h3 h5
end

/-! ### Entering and leaving -/
section
variable {P : Program} {N : Nat} {m : Env} {w : World}
def paramsFrom : Nat → List Value → Env
  | _, [] => []
  | i, v :: r => (i, v) :: paramsFrom (i + 1) r
theorem look_params (vs : List Value) : ∀ (i j : Nat) (v : Value), look (paramsFrom i vs) j = some v → i ≤ j ∧ vs[j - i]? = some v := by
  induction vs with
  | nil => intro i j v h; simp [paramsFrom, look] at h
  | cons u r ih =>
    intro i j v h
    simp only [paramsFrom] at h
    by_cases e : i = j
    · subst e; rw [look_same] at h; cases h; simp
    · rw [look_other _ _ e] at h
      obtain ⟨h1, h2⟩ := ih (i + 1) j v h
      refine ⟨by omega, ?_⟩
      have : j - i = (j - (i + 1)) + 1 := by omega
      rw [this]; simpa using h2
def retV (P : Program) (fn : Func) (N : Nat) (R : Ending → World → Prop) : Exit → Env → World → Prop
  | .normal, m, w | .ret, m, w => ∃ v, (∀ a w', Agree N m a → Ext w w' → (results fn a.tmps).run P w' = .ok v w') ∧ ∀ w', Ext w w' → R (.returned v) w'
  | _, _, _ => False
theorem V_enter {f : FuncId} {fn : Func} {c : Code} {vs : List Value} {R : Ending → World → Prop} (hf : P.funcs[f]? = some fn) (hb : fn.body = some c) (hn : fn.ntmps = N) (hl : vs.length ≤ N)
    (h : V P N c (retV P fn N R) (paramsFrom 0 vs) w) : Calls P f vs.toArray w R := by
  refine calls_of_wp hf hb (Code.wp_mono (fun e a w' hq => ?_) (h.out _ w ⟨rfl, by simp [hn]; omega, fun i v hi => ?_⟩ (Ext.refl _)))
  · obtain ⟨m1, w1, q, ag, ex⟩ := hq
    cases e with
    | normal =>
      obtain ⟨v, h1, h2⟩ := q
      exact ⟨ag.defers, v, h1 a w' ag ex, h2 w' ex⟩
    | ret =>
      obtain ⟨v, h1, h2⟩ := q
      exact ⟨ag.defers, v, h1 a w' ag ex, h2 w' ex⟩
    | _ => exact q.elim
  · obtain ⟨_, h2⟩ := look_params vs 0 i v hi
    simp only [Nat.sub_zero] at h2
    have hlt : i < vs.length := by
      rcases Nat.lt_or_ge i vs.length with h3 | h3
      · exact h3
      · rw [List.getElem?_eq_none h3] at h2; cases h2
    rw [Array.getElem?_append_left (by simpa using hlt)]
    simpa using h2
theorem slot_get {a : Act} (ha : Agree N m a) {t : Nat} {v : Value} (hl : look m t = some v) : a.tmps.getD t undef = v := by
  have := ha.slot t v hl
  simp [this]
theorem ret1 {fn : Func} {R : Ending → World → Prop} {e : Exit} {t : Nat} {v : Value} (he : e = .ret ∨ e = .normal) (hr : fn.results = #[.tmp t]) (hl : look m t = some v) (hR : ∀ w', Ext w w' → R (.returned v) w') :
    retV P fn N R e m w := by
  have : ∃ v, (∀ a w', Agree N m a → Ext w w' → (results fn a.tmps).run P w' = .ok v w') ∧ ∀ w', Ext w w' → R (.returned v) w' :=
    ⟨v, fun a w' ha _ => by rw [results_tmp hr, slot_get ha hl], hR⟩
  rcases he with rfl | rfl <;> exact this
theorem ret0 {fn : Func} {R : Ending → World → Prop} {e : Exit} (he : e = .ret ∨ e = .normal) (hr : fn.results = #[]) (hR : ∀ w', Ext w w' → R (.returned (.tuple #[])) w') : retV P fn N R e m w := by
  have : ∃ v, (∀ a w', Agree N m a → Ext w w' → (results fn a.tmps).run P w' = .ok v w') ∧ ∀ w', Ext w w' → R (.returned v) w' :=
    ⟨_, fun a w' _ _ => by rw [results_none hr], hR⟩
  rcases he with rfl | rfl <;> exact this
theorem ret2 {fn : Func} {R : Ending → World → Prop} {e : Exit} {t u : Nat} {v x : Value} (he : e = .ret ∨ e = .normal) (hr : fn.results = #[.tmp t, .tmp u]) (hl : look m t = some v) (hx : look m u = some x)
    (hR : ∀ w', Ext w w' → R (.returned (.tuple #[v, x])) w') : retV P fn N R e m w := by
  have : ∃ v, (∀ a w', Agree N m a → Ext w w' → (results fn a.tmps).run P w' = .ok v w') ∧ ∀ w', Ext w w' → R (.returned v) w' :=
    ⟨_, fun a w' ha _ => by rw [results_tmp2 hr, slot_get ha hl, slot_get ha hx], hR⟩
  rcases he with rfl | rfl <;> exact this
/-- What one result variable holds. -/
def Res (P : Program) (N : Nat) (m : Env) (w : World) : ResultVar → Value → Prop
  | .tmp t, v => look m t = some v
  | .cell a t, v => ∃ ad, 0 ≤ N ∧ look m a = some (.pointer (some ad)) ∧ ∀ w', Ext w w' → (loadVar t ad).run P w' = .ok v w'
theorem res_agg {a : Nat} {t : TypeId} {n : Nat} {ad : Addr} {vs : List Value} [ht : TAgg P t n] (hl : look m a = some (.pointer (some ad))) (hc : Cells w ad vs) [hn : TLen vs n] : Res P N m w (.cell a t) (.agg vs.toArray) :=
  ⟨ad, Nat.zero_le _, hl, fun w' hw => by
    obtain ⟨inf, h1, h2⟩ := Option.map_eq_some_iff.1 ht.size
    have hld := run_loadCells_list (P := P) w' ad vs (fun j v hj => (hc.ext hw) j v hj)
    rw [hn.h] at hld
    simp [loadVar, ht.agg, sizeOf, typeInfo, h1, h2, hld]⟩
theorem res_one {a : Nat} {t : TypeId} {ad : Addr} {v : Value} [ht : TOne P t] (hl : look m a = some (.pointer (some ad))) (hc : w.cell? ad = some v) : Res P N m w (.cell a t) v :=
  ⟨ad, Nat.zero_le _, hl, fun w' hw => by simp [loadVar, ht.h, hw.cell hc]⟩
def resF (tmps : Array Value) : ResultVar → Sem Value
  | .tmp t => pure (tmps.getD t undef)
  | .cell a t => do loadVar t (← asAddr (tmps.getD a undef))
theorem results_eq (fn : Func) (tmps : Array Value) : results fn tmps = (do let vs ← fn.results.mapM (resF tmps); pure (if h : vs.size = 1 then vs[0] else .tuple vs)) := rfl
theorem run_res {r : ResultVar} {v : Value} (h : Res P N m w r v) {a : Act} {w' : World} (ha : Agree N m a) (hw : Ext w w') : (resF a.tmps r).run P w' = .ok v w' := by
  cases r with
  | tmp t => simp only [Res] at h; simp only [resF, slot_get ha h]; rfl
  | cell x t =>
    obtain ⟨ad, _, hl, hr⟩ := h
    simp only [resF, slot_get ha hl]
    simp [asAddr, hr w' hw]
theorem retR1 {fn : Func} {R : Ending → World → Prop} {e : Exit} {r : ResultVar} {v : Value} (he : e = .ret ∨ e = .normal) (hr : fn.results = #[r]) (hv : Res P N m w r v) (hR : ∀ w', Ext w w' → R (.returned v) w') :
    retV P fn N R e m w := by
  have : ∃ v, (∀ a w', Agree N m a → Ext w w' → (results fn a.tmps).run P w' = .ok v w') ∧ ∀ w', Ext w w' → R (.returned v) w' :=
    ⟨v, fun a w' ha hw => by
      rw [results_eq, hr]
      simp [run_res hv ha hw], hR⟩
  rcases he with rfl | rfl <;> exact this
theorem retR2 {fn : Func} {R : Ending → World → Prop} {e : Exit} {r s : ResultVar} {v x : Value} (he : e = .ret ∨ e = .normal) (hr : fn.results = #[r, s]) (hv : Res P N m w r v) (hx : Res P N m w s x)
    (hR : ∀ w', Ext w w' → R (.returned (.tuple #[v, x])) w') : retV P fn N R e m w := by
  have : ∃ v, (∀ a w', Agree N m a → Ext w w' → (results fn a.tmps).run P w' = .ok v w') ∧ ∀ w', Ext w w' → R (.returned v) w' :=
    ⟨_, fun a w' ha hw => by
      rw [results_eq, hr]
      simp [run_res hv ha hw, run_res hx ha hw], hR⟩
  rcases he with rfl | rfl <;> exact this
theorem retR3 {fn : Func} {R : Ending → World → Prop} {e : Exit} {r s q : ResultVar} {v x y : Value} (he : e = .ret ∨ e = .normal) (hr : fn.results = #[r, s, q]) (hv : Res P N m w r v) (hx : Res P N m w s x) (hy : Res P N m w q y)
    (hR : ∀ w', Ext w w' → R (.returned (.tuple #[v, x, y])) w') : retV P fn N R e m w := by
  have : ∃ v, (∀ a w', Agree N m a → Ext w w' → (results fn a.tmps).run P w' = .ok v w') ∧ ∀ w', Ext w w' → R (.returned v) w' :=
    ⟨_, fun a w' ha hw => by
      rw [results_eq, hr]
      simp [run_res hv ha hw, run_res hx ha hw, run_res hy ha hw], hR⟩
  rcases he with rfl | rfl <;> exact this
end
end Go.Proofs.Ytfakgiikobajnaa

/-
  Regions that draw their order: one walk in the order of the text serves every order, for operations that leave the memory that was there alone; allocations may stand among them; the last operations may be any, if each waits for all of the first.
  No conditions beyond those that each rule states.
-/
import Derived.WalkKit
import Derived.Deep.Quiet
import Derived.KernelRfl
import Derived.Laws.Rows
import Derived.Deep.LoopGhost
import Derived.Laws.CopyRow
import Derived.Laws.Tables
namespace Go.Proofs.Ytfakgiikobajnaa
open Go.RowKit

/-! ### Worlds -/
/-- The world has at most grown: new blocks, draws. -/
abbrev Ext (w w' : World) : Prop := Below w.heap.size w w'
theorem Ext.refl (w : World) : Ext w w := Below.refl _ _
theorem Ext.trans {a b c : World} (h : Ext a b) (k : Ext b c) : Ext a c := Below.trans h (Below.mono k h.size)
theorem Ext.draw {a b : World} (h : Ext a b) : Ext a { b with drawn := b.drawn + 1 } := ⟨h.os, h.tape, h.output, h.size, h.block⟩
theorem Ext.cell {w w' : World} (h : Ext w w') {a : Addr} {v : Value} (hc : w.cell? a = some v) : w'.cell? a = some v := by
  have := World.block_lt_of_cell? w a hc
  rw [Below.cell h this]; exact hc
theorem Ext.blk {w w' : World} (h : Ext w w') {g : Nat} {o : Obj} (hc : w.heap[g]? = some o) : w'.heap[g]? = some o := by
  have : g < w.heap.size := by
    rcases Nat.lt_or_ge g w.heap.size with h1 | h1
    · exact h1
    · rw [Array.getElem?_eq_none h1] at hc; cases hc
  rw [h.block g this]; exact hc
theorem Ext.alloc {w w' : World} (h : Ext w w') (o : Obj) : Ext w (w'.alloc o) := Below.alloc h h.size o
theorem alloc_heap (w : World) (o : Obj) : (w.alloc o).heap[w.heap.size]? = some o := by
  show (w.heap.push o)[w.heap.size]? = _
  simp
theorem alloc_size (w : World) (o : Obj) : (w.alloc o).heap.size = w.heap.size + 1 := by
  show (w.heap.push o).size = _
  simp

section
variable {P : Program} {md : Region.Mode} {ops : Array Oper} {Y : Oper → Act → Value → Prop}

/-! ### The order of the text -/
/-- What an operation leaves hangs on nothing but what it is asked to do. -/
def Same (Y : Oper → Act → Value → Prop) : Prop := ∀ o a a' v, execOp a'.eval o = execOp a.eval o → Y o a v → Y o a' v
def listY (ops : Array Oper) (Y : Oper → Act → Value → Prop) (Q : Act → Prop) : List Oper → Act → Prop
  | [], a => Q a
  | o :: r, a => if Region.wanted o (yielded ops a.tmps) then ∃ v, Y o a v ∧ listY ops Y Q r (a.put o.dst v) else listY ops Y Q r (a.put o.dst undef)
def stepY (ops : Array Oper) (Y : Oper → Act → Value → Prop) (i : Nat) (K : Act → Prop) (a : Act) : Prop :=
  match ops[i]? with
  | none => K a
  | some o => if Region.wanted o (yielded ops a.tmps) then ∃ v, Y o a v ∧ K (a.put o.dst v) else K (a.put o.dst undef)
def anyY (md : Region.Mode) (ops : Array Oper) (Y : Oper → Act → Value → Prop) (Q : Act → Prop) : Nat → Array Bool → Act → Prop
  | 0, listed, a => Region.ready md ops listed = [] ∧ Q a
  | f + 1, listed, a => (Region.ready md ops listed = [] → Q a) ∧ ∀ i ∈ Region.ready md ops listed, stepY ops Y i (anyY md ops Y Q f (listed.setIfInBounds i true)) a
/-- In this state the operation leaves v. -/
def GivesY (ops : Array Oper) (Y : Oper → Act → Value → Prop) (o : Oper) (v : Value) (a : Act) : Prop :=
  (Region.wanted o (yielded ops a.tmps) = true ∧ Y o a v) ∨ (Region.wanted o (yielded ops a.tmps) = false ∧ v = undef)
theorem stepY_iff {i : Nat} {o : Oper} (hi : ops[i]? = some o) {K : Act → Prop} {a : Act} : stepY ops Y i K a ↔ ∃ v, GivesY ops Y o v a ∧ K (a.put o.dst v) := by
  unfold stepY GivesY
  simp only [hi]
  by_cases h : Region.wanted o (yielded ops a.tmps) = true
  · simp [h]
  · simp only [h]
    constructor
    · exact fun hk => ⟨undef, .inr ⟨by simp, rfl⟩, hk⟩
    · rintro ⟨v, h1 | h1, hk⟩
      · exact absurd h1.1 (by simp)
      · rw [h1.2] at hk; exact hk
theorem GivesY.same (hY : Same Y) {o : Oper} {v : Value} {a a' : Act} (h : GivesY ops Y o v a) (he : execOp a'.eval o = execOp a.eval o) (hw : Region.wanted o (yielded ops a'.tmps) = Region.wanted o (yielded ops a.tmps)) :
    GivesY ops Y o v a' := by
  unfold GivesY at *
  rw [hw]
  exact h.imp (fun h1 => ⟨h1.1, hY _ _ _ _ he h1.2⟩) id
/-- An operation that may come up may be taken first. -/
theorem anyY_first (hY : Same Y) {Q : Act → Prop} {i : Nat} {oi : Oper} {v : Value} (hi : ops[i]? = some oi) (hsel : ∀ (j : Nat) (o : Oper) cs b, ops[j]? = some o → o.op ≠ .select cs b) :
    ∀ (f : Nat) (L : Array Bool) (a : Act), (∀ j oj, ops[j]? = some oj → j ≠ i → L.getD j true = false → (∀ e ∈ oj.after, Region.binds md e = true → e.on ≠ i) → oi.apart ops oj = true) →
      i ∈ Region.ready md ops L → GivesY ops Y oi v a → anyY md ops Y Q f (L.setIfInBounds i true) (a.put oi.dst v) → anyY md ops Y Q (f + 1) L a
  | f, L, a, hfree, hr, hy, H => by
    refine ⟨fun h => (by rw [h] at hr; cases hr), fun j hj => ?_⟩
    by_cases hji : j = i
    · subst hji; exact (stepY_iff hi).2 ⟨v, hy, H⟩
    obtain ⟨hjun, oj, hoj, hall⟩ := mem_ready.1 hj
    have hj' := ready_mono hj hji
    cases f with
    | zero => rw [H.1] at hj'; cases hj'
    | succ f =>
      have hno : ∀ e ∈ oj.after, Region.binds md e = true → e.on ≠ i := fun e he hb heq => by
        have h1 := hall e he hb
        have h0 := (mem_ready.1 hr).1
        rw [heq] at h1
        rcases Nat.lt_or_ge i L.size with h' | h'
        · simp [h'] at h0 h1; rw [h0] at h1; cases h1
        · simp [Array.getElem?_eq_none h'] at h1
      obtain ⟨p1, p2, p3⟩ := Oper.apart_spec (hfree j oj hoj hji hjun hno)
      obtain ⟨u, hu, hK⟩ := (stepY_iff hoj).1 (H.2 j hj')
      have hu' : GivesY ops Y oj u a := hu.same hY (execOp_put oj (fun cs b => hsel j oj cs b hoj) a oi.dst v p1).symm (wanted_put oj a oi.dst v p1).symm
      have hy' : GivesY ops Y oi v (a.put oj.dst u) := hy.same hY (execOp_put oi (fun cs b => hsel i oi cs b hi) a oj.dst u p3) (wanted_put oi a oj.dst u p3)
      refine (stepY_iff hoj).2 ⟨u, hu', anyY_first hY hi hsel f _ _ (fun k ok hk hki hun hno' => ?_) (ready_mono hr (Ne.symm hji)) hy' ?_⟩
      · refine hfree k ok hk hki ?_ hno'
        by_cases hjk : j = k
        · subst hjk; exact hjun
        · rwa [getD_set_ne true hjk] at hun
      · rw [Array.setIfInBounds_comm _ _ hji, ← Act.put_comm a v u p2]
        exact hK
theorem anyY_lex (hY : Same Y) {Q : Act → Prop} (hs : Region.noSelect ops = true) : ∀ (l : List Oper) (k : Nat) (L : Array Bool) (a : Act), (∀ j, l[j]? = ops[k + j]?) →
    Region.lexFrom md ops l.length k L = true → listY ops Y Q l a → anyY md ops Y Q l.length L a
  | [], _, _, _, _, hB, h => ⟨by simpa [Region.lexFrom] using hB, h⟩
  | o :: l, k, L, a, hl, hB, h => by
    have h0 : ops[k]? = some o := by simpa using (hl 0).symm
    simp only [List.length_cons, Region.lexFrom, Bool.and_eq_true] at hB
    obtain ⟨⟨hr, hf⟩, hB'⟩ := hB
    have hst : stepY ops Y k (listY ops Y Q l) a := by unfold stepY; simp only [h0]; exact h
    obtain ⟨v, hy, hK⟩ := (stepY_iff h0).1 hst
    exact anyY_first hY h0 (Region.noSelect_spec hs) l.length L a (Region.free_spec h0 hf) (by simpa using hr) hy
      (anyY_lex hY hs l (k + 1) _ _ (fun j => by have := hl (j + 1); simpa [Nat.add_assoc, Nat.add_comm 1 j] using this) hB' hK)
theorem listY_mono {Q Q' : Act → Prop} (h : ∀ a, Q a → Q' a) : ∀ (l : List Oper) (a : Act), listY ops Y Q l a → listY ops Y Q' l a
  | [], a, hq => h a hq
  | o :: r, a, hq => by
    unfold listY at hq ⊢
    split
    · rename_i hw
      rw [if_pos hw] at hq
      obtain ⟨v, h1, h2⟩ := hq
      exact ⟨v, h1, listY_mono h r _ h2⟩
    · rename_i hw
      rw [if_neg hw] at hq
      exact listY_mono h r _ hq

/-! ### The operations listed so far -/
def cnt (n : Nat) (L : Array Bool) : Nat := (List.range n).countP fun j => !L.getD j true
theorem cnt_set : ∀ (n : Nat) (L : Array Bool) (i : Nat), i < n → L.getD i true = false → cnt n L = cnt n (L.setIfInBounds i true) + 1 := by
  have other : ∀ (n : Nat) (L : Array Bool) (i : Nat), n ≤ i → cnt n (L.setIfInBounds i true) = cnt n L := by
    intro n L i h
    refine List.countP_congr fun j hj => ?_
    have : i ≠ j := by have := List.mem_range.1 hj; omega
    rw [getD_set_ne true this]
  intro n
  induction n with
  | zero => intro L i h; omega
  | succ n ih =>
    intro L i h hi
    simp only [cnt, List.range_succ, List.countP_append, List.countP_singleton]
    have hlt : i < L.size := by
      rcases Nat.lt_or_ge i L.size with h' | h'
      · exact h'
      · simp [Array.getElem?_eq_none h'] at hi
    by_cases e : i = n
    · subst e
      have h1 := other i L i (Nat.le_refl _)
      unfold cnt at h1
      rw [h1]
      have h2 : (L.setIfInBounds i true).getD i true = true := by simp [hlt]
      rw [h2, hi]; simp
    · have h1 := ih L i (by omega) hi
      unfold cnt at h1
      rw [h1, getD_set_ne true e]; omega
def upto (sz k : Nat) : Array Bool := ((List.range sz).map fun j => decide (j < k)).toArray
theorem upto_get (sz k j : Nat) (h : j < sz) : (upto sz k)[j]? = some (decide (j < k)) := by simp [upto, h]
theorem upto_size (sz k : Nat) : (upto sz k).size = sz := by simp [upto]
theorem upto_set (sz k : Nat) (h : k < sz) : (upto sz k).setIfInBounds k true = upto sz (k + 1) := by
  refine Array.ext_getElem? fun j => ?_
  rcases Nat.lt_or_ge j sz with hj | hj
  · rw [upto_get _ _ _ hj]
    by_cases e : k = j
    · subst e; simp [upto_size, h]
    · rw [Array.getElem?_setIfInBounds_ne e, upto_get _ _ _ hj]; congr 1; simp; omega
  · rw [Array.getElem?_eq_none (by simpa [upto_size] using hj), Array.getElem?_eq_none (by simpa [upto_size] using hj)]
theorem getD_of {L : Array Bool} {j : Nat} {b : Bool} (h : L[j]? = some b) (d : Bool) : L.getD j d = b := by simp [h]

/-! ### The last operations: one order -/
theorem one_any {n : Nat} {Q : Exit → Act → World → Prop} (hr : ∀ k, n ≤ k → k < ops.size → Region.ready md ops (upto ops.size k) = [k]) (he : Region.ready md ops (upto ops.size ops.size) = []) :
    ∀ (l : List Oper) (k : Nat), n ≤ k → k + l.length = ops.size → (∀ j, l[j]? = ops[k + j]?) → ∀ a w, wpList P ops Q l a w → wpAny P md ops Q l.length (upto ops.size k) a w
  | [], k, hk, hs, hl, a, w, h => by
    have : k = ops.size := by simpa using hs
    subst this
    exact ⟨he, h⟩
  | o :: l, k, hk, hs, hl, a, w, h => by
    have hlt : k < ops.size := by simp at hs; omega
    have h0 : ops[k]? = some o := by simpa using (hl 0).symm
    have hrk := hr k hk hlt
    have nxt := one_any (Q := Q) hr he l (k + 1) (by omega) (by simp at hs; omega) (fun j => by have := hl (j + 1); simpa [Nat.add_assoc, Nat.add_comm 1 j] using this)
    refine ⟨fun h' => (by rw [hrk] at h'; cases h'), fun i hi => ?_⟩
    rw [hrk] at hi
    obtain rfl := List.mem_singleton.1 hi
    rw [upto_set _ _ hlt]
    unfold wpOp
    simp only [h0]
    unfold wpList at h
    split
    · rename_i hw
      rw [if_pos hw] at h
      rcases h with h | h
      · exact .inl (Oper.wp_mono (fun a' w' hh => nxt a' w' hh) h)
      · exact .inr h
    · rename_i hw
      rw [if_neg hw] at h
      exact nxt _ _ h

/-! ### Allocations among the first -/
def allocOf (o : Oper) : Option (Nat × TypeId) :=
  match o.op, o.dst, o.guard with
  | .alloc t, some d, none => some (d, t)
  | _, _, _ => none
def skipA (o : Oper) : Oper :=
  match allocOf o with
  | some _ => { o with dst := none, op := .assign (.const (.tuple #[])) }
  | none => o
theorem allocOf_eq {o : Oper} {d : Nat} {t : TypeId} (h : allocOf o = some (d, t)) : o.op = .alloc t ∧ o.dst = some d ∧ o.guard = none := by
  unfold allocOf at h
  split at h
  · rename_i h1 h2 h3
    simp only [Option.some.injEq, Prod.mk.injEq] at h
    exact ⟨by rw [h1, h.2], by rw [h2, h.1], h3⟩
  · cases h
theorem skipA_after (o : Oper) : (skipA o).after = o.after := by unfold skipA; split <;> rfl
theorem skipA_some {o : Oper} {p : Nat × TypeId} (h : allocOf o = some p) : (skipA o).dst = none := by unfold skipA; rw [h]
theorem skipA_none {o : Oper} (h : allocOf o = none) : skipA o = o := by unfold skipA; rw [h]
/-- Two states that agree but for some slots. -/
structure But (D : List Nat) (a' a : Act) : Prop where
  defers : a.defers = a'.defers
  size : a.tmps.size = a'.tmps.size
  slot : ∀ i, i ∉ D → a.tmps[i]? = a'.tmps[i]?
theorem But.put {D : List Nat} {a' a : Act} (h : But D a' a) (dst : Option Tmp) (v : Value) : But D (a'.put dst v) (a.put dst v) := by
  cases dst with
  | none => exact h
  | some d =>
    refine ⟨h.defers, by simp [Act.put, h.size], fun i hi => ?_⟩
    simp only [Act.put, Array.getElem?_setIfInBounds, h.size, h.slot i hi]
theorem But.put_in {D : List Nat} {a' a : Act} (h : But D a' a) {d : Nat} (hd : d ∈ D) (v : Value) : But D a' (a.put (some d) v) := by
  refine ⟨h.defers, by simp [Act.put, h.size], fun i hi => ?_⟩
  have : d ≠ i := fun e => hi (e ▸ hd)
  simp only [Act.put]
  rw [Array.getElem?_setIfInBounds_ne this]; exact h.slot i hi
theorem But.eval {D : List Nat} {a' a : Act} (h : But D a' a) {x : Operand} (hx : ∀ d ∈ D, x ≠ .tmp d) : a.eval x = a'.eval x := by
  cases x with
  | tmp t =>
    have := h.slot t (fun ht => hx t ht rfl)
    simp only [Act.eval, Array.getD_eq_getD_getElem?, this]
  | _ => rfl
theorem But.exec {D : List Nat} {a' a : Act} (h : But D a' a) (o : Oper) (hs : ∀ cs b, o.op ≠ .select cs b) (hD : ∀ d ∈ D, d ∉ o.looksAt ops) : execOp a.eval o = execOp a'.eval o :=
  execOp_congr o hs fun x hx => h.eval fun d hd hxd => hD d hd (by
    subst hxd
    exact List.mem_append_left _ (List.mem_filterMap.2 ⟨.tmp d, by simpa using hx, rfl⟩))

/-- Block b holds just these cells, none frozen. -/
def Blk (w : World) (b : Nat) (t : TypeId) (cs : List Value) : Prop := w.heap[b]? = some (.cells cs.toArray t (0, 0))
/-- A new block. -/
structure New (w w1 : World) (b : Nat) (t : TypeId) (cs : List Value) : Prop where
  ext : Ext w w1
  ge : w.heap.size ≤ b
  blk : Blk w1 b t cs
/-- What the allocations that have come up have made. -/
structure Made (w0 : World) (Z : Nat → List Value) (f : Nat → Nat) (S : Nat × TypeId → Prop) (a : Act) (w : World) : Prop where
  slot : ∀ d t, S (d, t) → a.tmps[d]? = some (.pointer (some ⟨f d, 0, none⟩)) ∧ w0.heap.size ≤ f d ∧ Blk w (f d) t (Z d)
  apart : ∀ d t d' t', S (d, t) → S (d', t') → d ≠ d' → f d ≠ f d'

/-- What an allocation of this type does. -/
def AllocRuns (P : Program) (t : TypeId) (z : List Value) : Prop := ∀ (ρ : Operand → Value) (o : Oper) (w : World), o.op = .alloc t → (execOp ρ o).run P w = .ok (.value (.pointer (some ⟨w.heap.size, 0, none⟩))) (w.alloc (.cells z.toArray t))
/-- One way through the edges. -/
def reach (ops : Array Oper) (md : Region.Mode) : Nat → Nat → Nat → Bool
  | 0, _, _ => false
  | f + 1, i, j => match ops[i]? with
    | none => false
    | some o => o.after.any fun e => Region.binds md e && (Nat.beq e.on j || reach ops md f e.on j)
/-- With each operation that has come up, those that it waits for. -/
def Closed (ops : Array Oper) (md : Region.Mode) (L : Array Bool) : Prop := ∀ k o, L.getD k false = true → ops[k]? = some o → ∀ e ∈ o.after, Region.binds md e = true → L.getD e.on false = true
theorem reach_listed {L : Array Bool} (hc : Closed ops md L) : ∀ (f i j : Nat), (∀ o, ops[i]? = some o → ∀ e ∈ o.after, Region.binds md e = true → L.getD e.on false = true) → reach ops md f i j = true → L.getD j false = true
  | 0, i, j, _, h => by simp [reach] at h
  | f + 1, i, j, hi, h => by
    unfold reach at h
    split at h
    · cases h
    · rename_i o ho
      obtain ⟨k, hk, h2⟩ := Array.any_eq_true.1 h
      simp only [Bool.and_eq_true, Bool.or_eq_true] at h2
      have hl := hi o ho _ (Array.getElem_mem hk) h2.1
      rcases h2.2 with h3 | h3
      · rw [← Nat.eq_of_beq_eq_true h3]; exact hl
      · exact reach_listed hc f _ j (fun o' ho' => hc _ o' hl ho') h3
theorem Closed.set {L : Array Bool} (hc : Closed ops md L) {i : Nat} (hi : i ∈ Region.ready md ops L) : Closed ops md (L.setIfInBounds i true) := by
  intro k o hk ho e he hb
  by_cases hki : i = k
  · subst hki
    obtain ⟨_, o', ho', hall⟩ := mem_ready.1 hi
    obtain rfl := Option.some.inj (ho.symm.trans ho')
    exact getD_set_true (hall e he hb)
  · rw [getD_set_ne false hki] at hk
    exact getD_set_true (hc k o hk ho e he hb)

/-- What each operation leaves, in every world that has grown from w: a value, and a world that has grown from the one at hand. -/
def yW (P : Program) (w : World) (o : Oper) (a : Act) (v : Value) : Prop := ∀ w', Ext w w' → o.quietAt P a (Ext w') w' v
theorem same_yW (P : Program) (w : World) : Same (yW P w) := fun o a a' v he h w' hw' => by
  have := h w' hw'
  unfold Oper.quietAt at *
  rwa [he]

theorem drawn_any {n s : Nat} {Q1 : Act → Prop} {Q : Exit → Act → World → Prop} {w0 : World} {D : List Nat} {Z : Nat → List Value} {pre : Array Oper} (hn : n ≤ ops.size) (hP : ∀ i o, i < n → ops[i]? = some o → pre[i]? = some (skipA o))
    (hA : ∀ i, n ≤ i → i < ops.size → ∀ j, j < n → reach ops md 9 i j = true)
    (hE : ∀ i o, ops[i]? = some o → i < n → ∀ e ∈ o.after, Region.binds md e = true → e.on < i)
    (hG : ∀ i o, ops[i]? = some o → i < n → ∀ g, o.guard = some g → g.1 < n ∧ ∀ o', ops[g.1]? = some o' → allocOf o' = none)
    (hsel : ∀ (j : Nat) (o : Oper) cs b, ops[j]? = some o → j < n → o.op ≠ .select cs b)
    (hD : ∀ i o, ops[i]? = some o → i < n → allocOf o = none → (∀ d ∈ D, d ∉ o.looksAt ops) ∧ (∀ d ∈ D, o.dst ≠ some d))
    (hDa : ∀ i o d t, ops[i]? = some o → i < n → allocOf o = some (d, t) → d ∈ D ∧ AllocRuns P t (Z d))
    (hDn : ∀ i o d t i' o' t', ops[i]? = some o → i < n → allocOf o = some (d, t) → ops[i']? = some o' → i' < n → allocOf o' = some (d, t') → i = i')
    (last : ∀ a' a w f, Ext w0 w → Q1 a' → But D a' a → Made w0 Z f (fun p => ∃ i o, i < n ∧ ops[i]? = some o ∧ allocOf o = some p) a w → wpAny P md ops Q s (upto ops.size n) a w) :
    ∀ (f : Nat) (L L' : Array Bool) (a' a : Act) (w : World) (g : Nat → Nat), Ext w0 w → L'.size = n → L.size = ops.size → (∀ j, j < n → L[j]? = L'[j]?) → (∀ j, n ≤ j → j < ops.size → L[j]? = some false) → cnt n L' = f →
      Closed ops md L → But D a' a → (∀ d ∈ D, d < a.tmps.size) → Made w0 Z g (fun p => ∃ i o, L[i]? = some true ∧ i < n ∧ ops[i]? = some o ∧ allocOf o = some p) a w →
      anyY md pre (yW P w0) Q1 f L' a' → wpAny P md ops Q (f + s) L a w := by
  intro f
  induction f with
  | zero =>
    intro L L' a' a w g hC hs' hs h1 h2 hc hcl hbut hDs hm h
    have hlist : ∀ j, j < n → L[j]? = some true := fun j hj => by
      rw [h1 j hj]
      have := List.countP_eq_zero.1 hc j (List.mem_range.2 hj)
      have hlt : j < L'.size := by omega
      simp [hlt] at this
      simp [hlt, this]
    have hL : L = upto ops.size n := by
      refine Array.ext_getElem? fun j => ?_
      rcases Nat.lt_or_ge j ops.size with hj | hj
      · rw [upto_get _ _ _ hj]
        rcases Nat.lt_or_ge j n with hjn | hjn
        · rw [hlist j hjn]; simp [hjn]
        · rw [h2 j hjn hj]; simp; omega
      · rw [Array.getElem?_eq_none (by omega), Array.getElem?_eq_none (by rw [upto_size]; omega)]
    rw [Nat.zero_add]
    have hm' : Made w0 Z g (fun p => ∃ i o, i < n ∧ ops[i]? = some o ∧ allocOf o = some p) a w :=
      ⟨fun d t ⟨i, o, hi, ho, ha⟩ => hm.slot d t ⟨i, o, hlist i hi, hi, ho, ha⟩, fun d t d' t' ⟨i, o, hi, ho, ha⟩ ⟨i', o', hi', ho', ha'⟩ => hm.apart d t d' t' ⟨i, o, hlist i hi, hi, ho, ha⟩ ⟨i', o', hlist i' hi', hi', ho', ha'⟩⟩
    rw [hL]
    exact last a' a w g hC h.2 hbut hm'
  | succ f ih =>
    intro L L' a' a w g hC hs' hs h1 h2 hc hcl hbut hDs hm h
    rw [Nat.succ_add]
    have un : ∃ j, j < n ∧ L'[j]? = some false ∧ ∀ k, k < j → L'[k]? = some true := by
      have hpos : 0 < cnt n L' := by omega
      obtain ⟨j, hj, hjf⟩ := List.countP_pos_iff.1 hpos
      have hjn := List.mem_range.1 hj
      have hjl : j < L'.size := by omega
      have hjf' : L'[j]? = some false := by simp [hjl] at hjf ⊢; exact hjf
      clear hj hjf hjl
      induction j using Nat.strongRecOn with
      | ind j ihj =>
        by_cases hall : ∀ k, k < j → L'[k]? = some true
        · exact ⟨j, hjn, hjf', hall⟩
        · obtain ⟨k, hk⟩ := Classical.not_forall.1 hall
          obtain ⟨hkj, hk⟩ := Classical.not_imp.1 hk
          have hkl : k < L'.size := by omega
          refine ihj k hkj (by omega) ?_
          rw [Array.getElem?_eq_getElem hkl] at hk ⊢
          cases hb : L'[k] with
          | true => rw [hb] at hk; exact absurd rfl hk
          | false => rfl
    obtain ⟨j0, hj0, hjf, hbelow⟩ := un
    have on_lt : ∀ {i : Nat} {o : Oper} {e : Edge}, ops[i]? = some o → i < n → e ∈ o.after → Region.binds md e = true → L.getD e.on false = L'.getD e.on false := fun ho hi he hb => by
      have h4 := hE _ _ ho hi _ he hb
      rename_i i0 o0 e0
      have h3 := h1 e0.on (by omega)
      rw [Array.getD_eq_getD_getElem?, Array.getD_eq_getD_getElem?, h3]
    have lt_n : ∀ i, i ∈ Region.ready md ops L → i < n := fun i hi => by
      obtain ⟨_, o, ho, hall⟩ := mem_ready.1 hi
      rcases Nat.lt_or_ge i n with h3 | h3
      · exact h3
      · have hlt : i < ops.size := by
          rcases Nat.lt_or_ge i ops.size with h' | h'
          · exact h'
          · rw [Array.getElem?_eq_none h'] at ho; cases ho
        have := reach_listed hcl 9 i j0 (fun o' ho' => by obtain rfl := Option.some.inj (ho.symm.trans ho'); exact hall) (hA i h3 hlt j0 hj0)
        rw [getD_of ((h1 j0 hj0).trans hjf)] at this
        cases this
    refine ⟨fun hr => ?_, fun i hi => ?_⟩
    · exfalso
      have hmem : j0 ∈ Region.ready md ops L := by
        have hlt : j0 < ops.size := by omega
        refine mem_ready.2 ⟨getD_of ((h1 j0 hj0).trans hjf) _, ops[j0], Array.getElem?_eq_getElem hlt, fun e he hb => ?_⟩
        have hlt' := hE j0 _ (Array.getElem?_eq_getElem hlt) hj0 e he hb
        exact getD_of ((h1 _ (by omega)).trans (hbelow _ hlt')) _
      rw [hr] at hmem; cases hmem
    · have hin := lt_n i hi
      have hcl' := hcl.set hi
      obtain ⟨hun, o, ho, hall⟩ := mem_ready.1 hi
      have hpo : pre[i]? = some (skipA o) := hP i o hin ho
      have hun' : L'.getD i true = false := by
        have := h1 i hin
        simp only [Array.getD_eq_getD_getElem?, ← this] at hun ⊢; exact hun
      have hi' : i ∈ Region.ready md pre L' := mem_ready.2 ⟨hun', skipA o, hpo, fun e he hb => by rw [skipA_after] at he; rw [← on_lt ho hin he hb]; exact hall e he hb⟩
      have hq := (stepY_iff hpo).1 (h.2 i hi')
      obtain ⟨v, hv, hK⟩ := hq
      have hset : ∀ j, j < n → (L.setIfInBounds i true)[j]? = (L'.setIfInBounds i true)[j]? := fun j hj => by
        by_cases e : i = j
        · subst e
          have hl1 : i < L.size := by omega
          have hl2 : i < L'.size := by omega
          simp [hl1, hl2]
        · rw [Array.getElem?_setIfInBounds_ne e, Array.getElem?_setIfInBounds_ne e]; exact h1 j hj
      have hset2 : ∀ j, n ≤ j → j < ops.size → (L.setIfInBounds i true)[j]? = some false := fun j hj hjs => by
        rw [Array.getElem?_setIfInBounds_ne (by omega)]; exact h2 j hj hjs
      have hc' : cnt n (L'.setIfInBounds i true) = f := by have := cnt_set n L' i hin hun'; omega
      have old : ∀ k, (L.setIfInBounds i true)[k]? = some true → k ≠ i → L[k]? = some true := fun k hk hki => by
        rwa [Array.getElem?_setIfInBounds_ne (Ne.symm hki)] at hk
      have hLi : L[i]? = some false := by
        have hlt : i < L.size := by omega
        simp [hlt] at hun ⊢; exact hun
      unfold wpOp
      simp only [ho]
      cases hao : allocOf o with
      | none =>
        rw [skipA_none hao] at hpo hv hK
        obtain ⟨hr1, hr2⟩ := hD i o ho hin hao
        have hw : Region.wanted o (yielded pre a'.tmps) = Region.wanted o (yielded ops a.tmps) := by
          unfold Region.wanted
          cases hg : o.guard with
          | none => rfl
          | some gd =>
            obtain ⟨hg1, hg2⟩ := hG i o ho hin gd hg
            have hlt : gd.1 < ops.size := by omega
            have hog := Array.getElem?_eq_getElem hlt
            have hpg := hP _ _ hg1 hog
            rw [skipA_none (hg2 _ hog)] at hpg
            have hy : yielded pre a'.tmps gd.1 = yielded ops a.tmps gd.1 := by
              simp only [yielded, hpg, hog, Option.bind_some]
              cases hd : (ops[gd.1]'hlt).dst with
              | none => rfl
              | some d =>
                have hdD : d ∉ D := fun hdD => (hD _ _ hog hg1 (hg2 _ hog)).2 d hdD hd
                simp only [Option.bind_some, hbut.slot d hdD]
            simp only [hy]
        have hex : execOp a.eval o = execOp a'.eval o := hbut.exec o (fun cs b => hsel i o cs b ho hin) hr1
        have made : ∀ u w'', Ext w w'' → Made w0 Z g (fun p => ∃ k o, (L.setIfInBounds i true)[k]? = some true ∧ k < n ∧ ops[k]? = some o ∧ allocOf o = some p) (a.put o.dst u) w'' := fun u w'' hw'' =>
          ⟨fun d t ⟨k, ok, hk, hkn, hok, hka⟩ => by
            have hki : k ≠ i := fun e => by subst e; obtain rfl := Option.some.inj (ho.symm.trans hok); rw [hao] at hka; cases hka
            obtain ⟨m1, m2, m3⟩ := hm.slot d t ⟨k, ok, old k hk hki, hkn, hok, hka⟩
            refine ⟨?_, m2, hw''.blk m3⟩
            have hne := hr2 d (hDa k ok d t hok hkn hka).1
            cases hdst : o.dst with
            | none => exact m1
            | some x =>
              have : x ≠ d := fun e => hne (by rw [hdst, e])
              simp only [Act.put]
              rw [Array.getElem?_setIfInBounds_ne this]; exact m1,
          fun d t d' t' ⟨k, ok, hk, hkn, hok, hka⟩ ⟨k', ok', hk', hkn', hok', hka'⟩ => by
            have hki : k ≠ i := fun e => by subst e; obtain rfl := Option.some.inj (ho.symm.trans hok); rw [hao] at hka; cases hka
            have hki' : k' ≠ i := fun e => by subst e; obtain rfl := Option.some.inj (ho.symm.trans hok'); rw [hao] at hka'; cases hka'
            exact hm.apart d t d' t' ⟨k, ok, old k hk hki, hkn, hok, hka⟩ ⟨k', ok', old k' hk' hki', hkn', hok', hka'⟩⟩
        have szP : ∀ u, ∀ d ∈ D, d < (a.put o.dst u).tmps.size := fun u d hd => by
          have := hDs d hd
          cases o.dst <;> simp [Act.put, this]
        rcases hv with ⟨hwn, hy⟩ | ⟨hwn, hvu⟩
        · rw [hw] at hwn
          rw [if_pos hwn]
          have hq := hy w hC
          unfold Oper.quietAt at hq
          rw [← hex] at hq
          refine .inl (Oper.wp_of_quiet (C := fun w'' => Ext w w'') (K := fun x => x = a.put o.dst v) (Ext.refl w) (fun a1 w1 hw1 e => ?_) ?_)
          · subst e
            exact ih _ _ (a'.put o.dst v) _ w1 g (hC.trans hw1) (by simpa using hs') (by simpa using hs) hset hset2 hc' hcl' (hbut.put _ _) (szP v) (made v w1 hw1) hK
          · refine ⟨v, fun w1 hw1 => ?_, rfl⟩
            have hq1 := hy w1 (hC.trans hw1)
            unfold Oper.quietAt at hq1 ⊢
            rw [← hex] at hq1
            generalize (execOp a.eval o).run P w1 = r at *
            cases r with
            | ok nx w2 =>
              cases nx <;> simp only [Oper.quietUpon] at hq1 ⊢ <;> first | exact hq1 | exact ⟨hq1.1, hq1.2.mono fun e w3 h3 => ⟨h3.1, hw1.trans h3.2⟩⟩
            | halt x w2 => simp only [Oper.quietUpon] at hq1
        · rw [hw] at hwn
          rw [if_neg (by rw [hwn]; exact Bool.false_ne_true)]
          subst hvu
          exact ih _ _ (a'.put o.dst undef) _ w g hC (by simpa using hs') (by simpa using hs) hset hset2 hc' hcl' (hbut.put _ _) (szP _) (made undef w (Ext.refl w)) hK
      | some p =>
        obtain ⟨d, t⟩ := p
        obtain ⟨e1, e2, e3⟩ := allocOf_eq hao
        obtain ⟨hdD, hrun⟩ := hDa i o d t ho hin hao
        rw [if_pos (by unfold Region.wanted; rw [e3])]
        have hdst : (skipA o).dst = none := skipA_some hao
        rw [hdst] at hK
        refine .inl ?_
        have hr : (execOp a.eval o).run P w = .ok (.value (.pointer (some ⟨w.heap.size, 0, none⟩))) (w.alloc (.cells (Z d).toArray t)) := by
          exact hrun _ _ _ e1
        unfold Oper.wp
        rw [hr]
        show wpAny P md ops Q (f + s) (L.setIfInBounds i true) (a.put o.dst (.pointer (some ⟨w.heap.size, 0, none⟩))) (w.alloc (.cells (Z d).toArray t))
        rw [e2]
        have hext : Ext w (w.alloc (.cells (Z d).toArray t)) := (Ext.refl w).alloc _
        have hb_lt : ∀ d1 t1, (∃ k o, L[k]? = some true ∧ k < n ∧ ops[k]? = some o ∧ allocOf o = some (d1, t1)) → g d1 < w.heap.size := fun d1 t1 hs1 => by
          obtain ⟨_, _, m3⟩ := hm.slot d1 t1 hs1
          rcases Nat.lt_or_ge (g d1) w.heap.size with h' | h'
          · exact h'
          · unfold Blk at m3; rw [Array.getElem?_eq_none h'] at m3; cases m3
        have not_old : ∀ d1 t1, (∃ k o, L[k]? = some true ∧ k < n ∧ ops[k]? = some o ∧ allocOf o = some (d1, t1)) → d1 ≠ d := fun d1 t1 ⟨k, ok, hk, hkn, hok, hka⟩ e => by
          subst e
          have := hDn k ok d1 t1 i o t hok hkn hka ho hin hao
          subst this
          rw [hLi] at hk; cases hk
        refine ih _ _ a' _ _ (fun x => if x = d then w.heap.size else g x) (hC.trans hext) (by simpa using hs') (by simpa using hs) hset hset2 hc' hcl' (hbut.put_in hdD _) (fun d1 hd1 => by have := hDs d1 hd1; simp [Act.put, this]) ?_ hK
        have cases' : ∀ d1 t1, (∃ k o, (L.setIfInBounds i true)[k]? = some true ∧ k < n ∧ ops[k]? = some o ∧ allocOf o = some (d1, t1)) → (d1 = d ∧ t1 = t) ∨ (∃ k o, L[k]? = some true ∧ k < n ∧ ops[k]? = some o ∧ allocOf o = some (d1, t1)) := fun d1 t1 ⟨k, ok, hk, hkn, hok, hka⟩ => by
          by_cases hki : k = i
          · subst hki
            obtain rfl := Option.some.inj (ho.symm.trans hok)
            rw [hao] at hka
            simp only [Option.some.injEq, Prod.mk.injEq] at hka
            exact .inl ⟨hka.1.symm, hka.2.symm⟩
          · exact .inr ⟨k, ok, old k hk hki, hkn, hok, hka⟩
        constructor
        · intro d1 t1 h5
          rcases cases' d1 t1 h5 with ⟨rfl, rfl⟩ | h6
          · refine ⟨?_, by simpa using hC.size, ?_⟩
            · have := hDs d1 hdD
              simp [Act.put, this]
            · simp only [if_true]
              exact alloc_heap _ _
          · obtain ⟨m1, m2, m3⟩ := hm.slot d1 t1 h6
            have hne := not_old d1 t1 h6
            simp only [hne, if_false]
            refine ⟨?_, m2, hext.blk m3⟩
            simp only [Act.put]
            rw [Array.getElem?_setIfInBounds_ne (Ne.symm hne)]; exact m1
        · intro d1 t1 d2 t2 h5 h6 hne
          rcases cases' d1 t1 h5 with ⟨rfl, rfl⟩ | h7
          · rcases cases' d2 t2 h6 with ⟨rfl, rfl⟩ | h8
            · exact absurd rfl hne
            · have := hb_lt d2 t2 h8
              simp only [if_true, Ne.symm hne, if_false]; omega
          · rcases cases' d2 t2 h6 with ⟨rfl, rfl⟩ | h8
            · have := hb_lt d1 t1 h7
              simp only [if_true, hne, if_false]; omega
            · simp only [not_old d1 t1 h7, not_old d2 t2 h8, if_false]
              exact hm.apart d1 t1 d2 t2 h7 h8 hne

/-! ### The test -/
def allocsOf (l : List Oper) : List (Nat × TypeId) := l.filterMap allocOf
def drawB (ops : Array Oper) (n : Nat) : Bool :=
  Nat.ble n ops.size && Region.noSelect ops && Region.lexB .any ((ops.toList.take n).map skipA).toArray &&
  (List.range ops.size).all (fun i => match ops[i]? with
    | none => true
    | some o => if Nat.ble (i + 1) n then (o.after.all fun e => !Region.binds .any e || Nat.ble (e.on + 1) i) &&
        (match o.guard with
          | none => true
          | some g => Nat.ble (g.1 + 1) n && (match ops[g.1]? with
            | none => true
            | some o' => (allocOf o').isNone)) &&
        (match allocOf o with
          | some p => (List.range n).all fun i' => Nat.beq i i' || (match (ops[i']?).bind allocOf with
            | some p' => !Nat.beq p.1 p'.1
            | none => true)
          | none => (allocsOf (ops.toList.take n)).all fun p => !(o.looksAt ops).contains p.1 && (match o.dst with
            | some d => !Nat.beq d p.1
            | none => true))
      else (List.range n).all fun j => reach ops .any 9 i j) &&
  (List.range ops.size).all (fun k => Nat.ble (k + 1) n || (match Region.ready .any ops (upto ops.size k) with
    | [k'] => Nat.beq k' k
    | _ => false)) &&
  (Region.ready .any ops (upto ops.size ops.size)).isEmpty

/-- **A region that draws its order**: the first n operations in the order of the text (each allocation left out), then the others, from a world in which the allocations have been made. -/
theorem wp_drawn {l : List Oper} {n id : Nat} {Q1 : Act → Prop} {Q : Exit → Act → World → Prop} {w0 w : World} {a : Act} {Z : Nat → List Value} (hm : P.follows .mixedOrders = true) (hB : drawB l.toArray n = true)
    (hZ : ∀ p ∈ allocsOf (l.take n), p.1 < a.tmps.size ∧ AllocRuns P p.2 (Z p.1)) (hw : Ext w0 w)
    (h : listY ((l.take n).map skipA).toArray (yW P w0) Q1 ((l.take n).map skipA) a)
    (last : ∀ a' a w f, Ext w0 w → Q1 a' → But ((allocsOf (l.take n)).map (·.1)) a' a → Made w0 Z f (fun p => p ∈ allocsOf (l.take n)) a w → wpList P l.toArray Q (l.drop n) a w) :
    (Code.region id l.toArray true).wp P Q a w := by
  simp only [drawB, Bool.and_eq_true] at hB
  obtain ⟨⟨⟨⟨⟨b1, b0⟩, b2⟩, b3⟩, b4⟩, b5⟩ := hB
  have hn : n ≤ l.toArray.size := Nat.le_of_ble_eq_true b1
  have hnl : n ≤ l.length := by simpa using hn
  have mem_als : ∀ p, p ∈ allocsOf (l.take n) ↔ ∃ i o, i < n ∧ l.toArray[i]? = some o ∧ allocOf o = some p := fun p => by
    unfold allocsOf
    rw [List.mem_filterMap]
    constructor
    · rintro ⟨o, ho, ha⟩
      obtain ⟨i, hi⟩ := List.mem_iff_getElem?.1 ho
      rw [List.getElem?_take] at hi
      split at hi
      · rename_i hlt; exact ⟨i, o, hlt, by simpa using hi, ha⟩
      · cases hi
    · rintro ⟨i, o, hi, ho, ha⟩
      exact ⟨o, List.mem_iff_getElem?.2 ⟨i, by rw [List.getElem?_take, if_pos hi]; simpa using ho⟩, ha⟩
  have at3 : ∀ i o, l.toArray[i]? = some o → _ := fun i o ho => by
    have hlt : i < l.toArray.size := by
      rcases Nat.lt_or_ge i l.toArray.size with h' | h'
      · exact h'
      · rw [Array.getElem?_eq_none h'] at ho; cases ho
    have := List.all_eq_true.1 b3 i (List.mem_range.2 hlt)
    simp only [ho] at this
    exact this
  have pre3 : ∀ i o, l.toArray[i]? = some o → i < n → _ := fun i o ho hi => by
    have := at3 i o ho
    rw [if_pos (Nat.ble_eq_true_of_le hi)] at this
    simp only [Bool.and_eq_true] at this
    exact this
  have hP : ∀ i o, i < n → l.toArray[i]? = some o → ((l.take n).map skipA).toArray[i]? = some (skipA o) := fun i o hi ho => by
    have : l[i]? = some o := by simpa using ho
    simp [hi, this]
  have hE : ∀ i o, l.toArray[i]? = some o → i < n → ∀ e ∈ o.after, Region.binds .any e = true → e.on < i := fun i o ho hi e he hb => by
    have := Array.all_eq_true_iff_forall_mem.1 (pre3 i o ho hi).1.1 e he
    rw [hb, Bool.not_true, Bool.false_or] at this
    exact Nat.le_of_ble_eq_true this
  have hG : ∀ i o, l.toArray[i]? = some o → i < n → ∀ g, o.guard = some g → g.1 < n ∧ ∀ o', l.toArray[g.1]? = some o' → allocOf o' = none := fun i o ho hi g hg => by
    have h2 := (pre3 i o ho hi).1.2
    rw [hg] at h2
    simp only [Bool.and_eq_true] at h2
    refine ⟨Nat.le_of_ble_eq_true h2.1, fun o' ho' => ?_⟩
    have h3 := h2.2
    rw [ho'] at h3
    simpa using h3
  have hD : ∀ i o, l.toArray[i]? = some o → i < n → allocOf o = none → (∀ d ∈ (allocsOf (l.take n)).map (·.1), d ∉ o.looksAt l.toArray) ∧ (∀ d ∈ (allocsOf (l.take n)).map (·.1), o.dst ≠ some d) := fun i o ho hi ha => by
    have h2 := (pre3 i o ho hi).2
    rw [ha] at h2
    have h2' := List.all_eq_true.1 h2
    refine ⟨fun d hd => ?_, fun d hd hdst => ?_⟩
    · obtain ⟨p, hp, rfl⟩ := List.mem_map.1 hd
      have := h2' p hp
      simp only [Bool.and_eq_true] at this
      simpa using this.1
    · obtain ⟨p, hp, rfl⟩ := List.mem_map.1 hd
      have := h2' p hp
      simp only [Bool.and_eq_true, hdst, Nat.beq_refl, Bool.not_true, Bool.false_eq_true, and_false] at this
  have hDn : ∀ i o d t i' o' t', l.toArray[i]? = some o → i < n → allocOf o = some (d, t) → l.toArray[i']? = some o' → i' < n → allocOf o' = some (d, t') → i = i' := fun i o d t i' o' t' ho hi ha ho' hi' ha' => by
    have h2 := (pre3 i o ho hi).2
    rw [ha] at h2
    have := List.all_eq_true.1 h2 i' (List.mem_range.2 hi')
    simp only [Bool.or_eq_true] at this
    rcases this with h3 | h3
    · exact Nat.eq_of_beq_eq_true h3
    · simp only [ho', Option.bind_some, ha', Nat.beq_refl, Bool.not_true, Bool.false_eq_true] at h3
  have hA : ∀ i, n ≤ i → i < l.toArray.size → ∀ j, j < n → reach l.toArray .any 9 i j = true := fun i hi his j hj => by
    have := at3 i _ (Array.getElem?_eq_getElem his)
    rw [if_neg (fun hb => by have := Nat.le_of_ble_eq_true hb; omega)] at this
    exact List.all_eq_true.1 this j (List.mem_range.2 hj)
  have hr : ∀ k, n ≤ k → k < l.toArray.size → Region.ready .any l.toArray (upto l.toArray.size k) = [k] := fun k hk hks => by
    have := List.all_eq_true.1 b4 k (List.mem_range.2 hks)
    simp only [Bool.or_eq_true] at this
    rcases this with h' | h'
    · have := Nat.le_of_ble_eq_true h'; omega
    · split at h'
      · rename_i k' he
        rw [he, Nat.eq_of_beq_eq_true h']
      · cases h'
  have he : Region.ready .any l.toArray (upto l.toArray.size l.toArray.size) = [] := by simpa using b5
  simp only [Region.lexB, Bool.and_eq_true] at b2
  have hd : (l.drop n).length = l.toArray.size - n := by simp
  have hlen : ((l.take n).map skipA).length = n := by simp; omega
  refine wp_region_any hm ?_
  have quiet := anyY_lex (md := .any) (same_yW P w0) b2.1 ((l.take n).map skipA) 0 (Array.replicate ((l.take n).map skipA).toArray.size false) a (by simp) (by simpa using b2.2) h
  have := drawn_any (P := P) (md := .any) (ops := l.toArray) (pre := ((l.take n).map skipA).toArray) (n := n) (s := (l.drop n).length) (Q := Q) (Q1 := Q1) (w0 := w0) (D := (allocsOf (l.take n)).map (·.1)) (Z := Z)
    hn hP hA hE hG (fun j o cs b ho _ => Region.noSelect_spec b0 j o cs b ho) hD
    (fun i o d t ho hi ha => by
      have hmem := (mem_als (d, t)).2 ⟨i, o, hi, ho, ha⟩
      exact ⟨List.mem_map.2 ⟨(d, t), hmem, rfl⟩, (hZ _ hmem).2⟩) hDn
    (fun a' a1 w1 f hw1 q1 hb hmd => one_any hr he (l.drop n) n (Nat.le_refl _) (by rw [hd]; omega) (fun j => by simp) a1 w1
      (last a' a1 w1 f hw1 q1 hb ⟨fun d t hp => hmd.slot d t ((mem_als _).1 hp), fun d t d' t' hp hp' => hmd.apart d t d' t' ((mem_als _).1 hp) ((mem_als _).1 hp')⟩))
    ((l.take n).map skipA).length (Array.replicate l.toArray.size false) (Array.replicate ((l.take n).map skipA).toArray.size false) a a { w with drawn := w.drawn + 1 } (fun _ => 0) hw.draw (by simp; omega) (by simp)
    (fun j hj => by
      have h1 : j < l.length := by omega
      have h2 : j < ((l.take n).map skipA).length := by omega
      simp only [Array.getElem?_replicate]
      rw [if_pos (by simpa using h1), if_pos (by simpa using h2)])
    (fun j _ hj => by simp only [Array.getElem?_replicate]; rw [if_pos hj])
    (by
      unfold cnt
      rw [List.countP_eq_length.2]
      · rw [hlen]; simp
      · intro j hj
        have := List.mem_range.1 hj
        have h2 : j < ((l.take n).map skipA).toArray.size := by simp; omega
        simp only [Array.getD_eq_getD_getElem?, Array.getElem?_replicate]
        rw [if_pos h2]; rfl)
    (fun k o hk => by
      simp only [Array.getD_eq_getD_getElem?, Array.getElem?_replicate] at hk
      split at hk <;> simp at hk)
    ⟨rfl, rfl, fun _ _ => rfl⟩ (fun d hd => by
      obtain ⟨p, hp, rfl⟩ := List.mem_map.1 hd
      exact (hZ p hp).1)
    ⟨fun d t ⟨i, o, hi, _⟩ => by
      simp only [Array.getElem?_replicate] at hi
      split at hi <;> simp at hi, fun d t d' t' ⟨i, o, hi, _⟩ => by
      simp only [Array.getElem?_replicate] at hi
      split at hi <;> simp at hi⟩ quiet
  have e : ((l.take n).map skipA).length + (l.drop n).length = l.toArray.size := by rw [hlen, hd]; omega
  rwa [e] at this
end
end Go.Proofs.Ytfakgiikobajnaa

/-
  Part 1 of the texts that the proofs of this seat share: rules of a walk, contracts of functions, plain facts. Each piece says below what it proves.
  No conditions beyond those that each lemma states.
-/
import Derived.WalkKit
import Derived.Deep.Quiet
import Derived.KernelRfl
import Derived.Sort.LoopGhostIn
import Derived.OrdersIn
import Derived.RangeFuncNested
import Derived.Laws.Rows
import Derived.Deep.LoopGhost
import Derived.Laws.CopyRow
import Derived.Laws.Tables
import Derived.Below
import Derived.Carry
import Derived.ChangeSame
import Derived.OpenShut
import Derived.ProofKit
import Derived.Lib.SmallJoins
import Derived.WalkSpells
import Derived.WalkLawsBesides
import Derived.Laws.BitsAllLaws
import Derived.Test.YtkdjbddjblahkaaProg
import Derived.Maps.AppendAt
import Derived.Great.BuildSlice
import Derived.MapKept
import Derived.Lib.Hide

/-
  Frames of a function's own run and of a round of a loop over an iterator: how many slots, which marks among the deferred calls, which round; pieces of code walked in any of them.
  No conditions beyond those that each rule states.
-/
namespace Go.Proofs.Ytkdjbddjblahkaa
open Go.RowKit

/-- What a walk knows of its frame, beside the slots: their number, the deferred calls (marks of loops over iterators), the round. -/
structure Fr where
  n : Nat
  ds : List Deferred
  ro : Option Nat
/-- Every function, any depth, in a round or not. -/
def fenceR (ro : Option Nat) : Fence := { fn := fun _ => True, depth := none, alive := false, round := ro }
theorem fenceR_none : fenceR none = Fence.wide := rfl
def WpR (ro : Option Nat) (P : Program) (c : Code) (Q : Exit → Act → World → Prop) (a : Act) (w : World) : Prop := c.wpIn (fenceR ro) 0 P Q a w
theorem wpR_none {P : Program} {c : Code} {Q : Exit → Act → World → Prop} {a : Act} {w : World} : WpR none P c Q a w ↔ c.wp P Q a w := wpIn_wide
theorem callsR {ro : Option Nat} {n : Nat} {P : Program} {f : FuncId} {args : Array Value} {w : World} {R : Ending → World → Prop} (h : Calls P f args w R) : CallsIn (fenceR ro) n P f args w R := by
  have h1 : CallsIn Fence.wide n P f args w R := callsIn_wide.2 h
  exact h1
theorem callsR_iff {n : Nat} {P : Program} {f : FuncId} {args : Array Value} {w : World} {R : Ending → World → Prop} : CallsIn (fenceR none) n P f args w R ↔ Calls P f args w R := callsIn_wide
theorem rowsR {ro : Option Nat} {n : Nat} {P : Program} {row : String} {args : Array Value} {w : World} {R : Value → World → Prop} (h : Rows P row args w R) : RowsIn (fenceR ro) n P row args w R := fun c cs _ => by
  obtain ⟨v, w', r, s⟩ := h c cs
  exact ⟨v, w', r, stepsIn_wide.2 s⟩
/-- No defer statement. -/
def nodefB : Op → Bool
  | .defer _ => false
  | _ => true
def NoDef (ro : Option Nat) (l : List Oper) : Prop := ro = none ∨ l.all (fun o => nodefB o.op) = true
theorem NoDef.mem {ro : Option Nat} {l : List Oper} (h : NoDef ro l) {o : Oper} (ho : o ∈ l) : NoDef ro [o] := by
  rcases h with h | h
  · exact .inl h
  · exact .inr (by simpa using List.all_eq_true.1 h o ho)
theorem NoDef.tail {ro : Option Nat} {l : List Oper} {o : Oper} (h : NoDef ro (o :: l)) : NoDef ro l := by
  rcases h with h | h
  · exact .inl h
  · rw [List.all_cons, Bool.and_eq_true] at h; exact .inr h.2
theorem NoDef.drop {ro : Option Nat} {l : List Oper} (h : NoDef ro l) (n : Nat) : NoDef ro (l.drop n) := by
  rcases h with h | h
  · exact .inl h
  · exact .inr (List.all_eq_true.2 fun o ho => List.all_eq_true.1 h o (List.mem_of_mem_drop ho))

section
variable {ro : Option Nat} {P : Program} {ops : Array Oper} {Q : Exit → Act → World → Prop} {a : Act} {w : World} {K : Act → World → Prop}

theorem semAtR {o : Oper} (h : NoDef ro [o]) (ρ : Operand → Value) : o.semAt ro ρ = execOp ρ o := by
  rcases h with rfl | h
  · exact Oper.semAt_none ρ o
  · exact Oper.semAt_eq ro ρ o (fun c hc => by simp [hc, nodefB] at h)
theorem operR {o : Oper} (hnd : NoDef ro [o]) (h : o.wp P a w K Q) : o.wpIn (fenceR ro) 0 P a w K Q := by
  refine ⟨fun _ _ => trivial, ?_⟩
  rw [show (fenceR ro).round = ro from rfl, semAtR hnd]
  unfold Oper.wp at h
  generalize (execOp a.eval o).run P w = r at *
  cases r with
  | ok x w' =>
    cases x <;> simp only [Oper.upon] at h <;> simp only [Oper.uponIn] <;>
      first
        | exact h
        | exact ⟨(fun h => by cases h), callsR h⟩
        | exact ⟨(fun h => by cases h), rowsR h⟩
        | exact h.elim
  | halt x w' => cases x <;> simp only [Oper.upon] at h <;> simp only [Oper.uponIn] <;> first | exact h | exact h.elim
theorem opR {i : Nat} (hnd : NoDef ro ops.toList) (hQ : ¬LetsOut Q) (h : wpOp P ops Q i K a w) : wpOpIn (fenceR ro) 0 P ops Q i K a w := by
  unfold wpOp at h
  unfold wpOpIn
  split
  · rename_i h0; simp only [h0] at h; exact h
  · rename_i o ho
    simp only [ho] at h
    split
    · rename_i hw
      simp only [hw, if_true] at h
      rcases h with h | h
      · exact operR (hnd.mem (by obtain ⟨hl, rfl⟩ := Array.getElem?_eq_some_iff.1 ho; exact Array.getElem_mem_toList hl)) h
      · exact absurd h.2 hQ
    · rename_i hw
      simp only [hw] at h
      exact ⟨fun _ _ => trivial, h⟩
theorem listR (hQ : ¬LetsOut Q) : ∀ (l : List Oper) (a : Act) (w : World), NoDef ro l → wpList P ops Q l a w → wpListIn (fenceR ro) 0 P ops Q l a w
  | [], _, _, _, h => h
  | o :: r, a, w, hnd, h => by
    unfold wpList at h
    unfold wpListIn
    split
    · rename_i hw
      rw [if_pos hw] at h
      rcases h with h | h
      · exact Oper.wpIn_mono (fun a w h => listR hQ r a w hnd.tail h) (operR (hnd.mem (List.mem_cons_self ..)) h)
      · exact absurd h.2 hQ
    · rename_i hw
      rw [if_neg hw] at h
      exact ⟨fun _ _ => trivial, listR hQ r _ w hnd.tail h⟩
theorem anyR {md : Region.Mode} (hnd : NoDef ro ops.toList) (hQ : ¬LetsOut Q) : ∀ (fuel : Nat) (listed : Array Bool) (a : Act) (w : World), wpAny P md ops Q fuel listed a w → wpAnyIn (fenceR ro) 0 P md ops Q fuel listed a w
  | 0, _, _, _, h => h
  | fuel + 1, _, _, _, h => ⟨h.1, fun i hi => wpOpIn_mono (fun a w h => anyR hnd hQ fuel _ a w h) (opR hnd hQ (h.2 i hi))⟩
theorem wpR_mono {c : Code} {Q' : Exit → Act → World → Prop} (hq : ∀ e a w, Q e a w → Q' e a w) (h : WpR ro P c Q a w) : WpR ro P c Q' a w := wpIn_mono h hq
theorem wpR_region_lit {id : Nat} {l : List Oper} (hnd : NoDef ro l) (hQ : ¬LetsOut Q) (h : wpList P l.toArray Q l a w) : WpR ro P (.region id l.toArray false) Q a w :=
  wpIn_region_lit (listR hQ l a w hnd h)
theorem wpR_region_any {id : Nat} (hnd : NoDef ro ops.toList) (hQ : ¬LetsOut Q) (hm : P.follows .mixedOrders = true)
    (h : wpAny P .any ops Q ops.size (Array.replicate ops.size false) a { w with drawn := w.drawn + 1 }) : WpR ro P (.region id ops true) Q a w :=
  wpIn_region_any hm (anyR hnd hQ _ _ _ _ h)
theorem wpR_region_quiet {C : World → Prop} {id : Nat} (hnd : NoDef ro ops.toList) (hQ : ¬LetsOut Q) (hm : P.follows .mixedOrders = true) (hB : Region.lexB .any ops = true) (hC : C { w with drawn := w.drawn + 1 })
    (h : wpQuiet P ops C (fun a' => ∀ w', C w' → Q .normal a' w') ops.toList a) : WpR ro P (.region id ops true) Q a w := by
  simp only [Region.lexB, Bool.and_eq_true] at hB
  refine wpR_region_any hnd hQ hm (wpAny_of_quiet (Q := fun a' => ∀ w', C w' → Q .normal a' w') (fun _ w' hw' h => h w' hw') _ _ _ _ hC ?_)
  have := wpAnyQ_lex (C := C) (md := .any) hB.1 ops.toList 0 (Array.replicate ops.size false) a (by simp) (by simpa using hB.2) h
  simpa using this
end
theorem noLet {A : Act → World → Prop} : ¬LetsOut (fun e a w => e = .normal ∧ A a w) := fun ⟨_, _, h, _⟩ => by cases h
end Go.Proofs.Ytkdjbddjblahkaa

/-
  Regions that draw their order: one walk in the order of the text serves every order, for operations that leave the memory that was there alone; allocations may stand among them; the last operations may be any, if each waits for all of the first.
  No conditions beyond those that each rule states.
-/
namespace Go.Proofs.Ytkdjbddjblahkaa
open Go.RowKit

/-! ### Worlds -/
/-- The world has at most grown: new blocks, draws. -/
abbrev Ext (w w' : World) : Prop := Below w.heap.size w w'
theorem Ext.refl (w : World) : Ext w w := Below.refl _ _
theorem Ext.trans {a b c : World} (h : Ext a b) (k : Ext b c) : Ext a c := Below.trans h (Below.mono k h.size)
theorem Ext.draw {a b : World} (h : Ext a b) : Ext a { b with drawn := b.drawn + 1 } := ⟨h.os, h.tape, h.output, h.size, h.block⟩
theorem Ext.cell {w w' : World} (h : Ext w w') {a : Addr} {v : Value} (hc : w.cell? a = some v) : w'.cell? a = some v := by
  have := World.block_lt_of_cell? w a hc
  rw [Below.cell h this]; exact hc
theorem Ext.blk {w w' : World} (h : Ext w w') {g : Nat} {o : Obj} (hc : w.heap[g]? = some o) : w'.heap[g]? = some o := by
  have : g < w.heap.size := by
    rcases Nat.lt_or_ge g w.heap.size with h1 | h1
    · exact h1
    · rw [Array.getElem?_eq_none h1] at hc; cases hc
  rw [h.block g this]; exact hc
theorem Ext.alloc {w w' : World} (h : Ext w w') (o : Obj) : Ext w (w'.alloc o) := Below.alloc h h.size o
theorem alloc_heap (w : World) (o : Obj) : (w.alloc o).heap[w.heap.size]? = some o := by
  show (w.heap.push o)[w.heap.size]? = _
  simp
theorem alloc_size (w : World) (o : Obj) : (w.alloc o).heap.size = w.heap.size + 1 := by
  show (w.heap.push o).size = _
  simp

section
variable {P : Program} {md : Region.Mode} {ops : Array Oper} {Y : Oper → Act → Value → Prop}

/-! ### The order of the text -/
/-- What an operation leaves hangs on nothing but what it is asked to do. -/
def Same (Y : Oper → Act → Value → Prop) : Prop := ∀ o a a' v, execOp a'.eval o = execOp a.eval o → Y o a v → Y o a' v
def listY (ops : Array Oper) (Y : Oper → Act → Value → Prop) (Q : Act → Prop) : List Oper → Act → Prop
  | [], a => Q a
  | o :: r, a => if Region.wanted o (yielded ops a.tmps) then ∃ v, Y o a v ∧ listY ops Y Q r (a.put o.dst v) else listY ops Y Q r (a.put o.dst undef)
def stepY (ops : Array Oper) (Y : Oper → Act → Value → Prop) (i : Nat) (K : Act → Prop) (a : Act) : Prop :=
  match ops[i]? with
  | none => K a
  | some o => if Region.wanted o (yielded ops a.tmps) then ∃ v, Y o a v ∧ K (a.put o.dst v) else K (a.put o.dst undef)
def anyY (md : Region.Mode) (ops : Array Oper) (Y : Oper → Act → Value → Prop) (Q : Act → Prop) : Nat → Array Bool → Act → Prop
  | 0, listed, a => Region.ready md ops listed = [] ∧ Q a
  | f + 1, listed, a => (Region.ready md ops listed = [] → Q a) ∧ ∀ i ∈ Region.ready md ops listed, stepY ops Y i (anyY md ops Y Q f (listed.setIfInBounds i true)) a
/-- In this state the operation leaves v. -/
def GivesY (ops : Array Oper) (Y : Oper → Act → Value → Prop) (o : Oper) (v : Value) (a : Act) : Prop :=
  (Region.wanted o (yielded ops a.tmps) = true ∧ Y o a v) ∨ (Region.wanted o (yielded ops a.tmps) = false ∧ v = undef)
theorem stepY_iff {i : Nat} {o : Oper} (hi : ops[i]? = some o) {K : Act → Prop} {a : Act} : stepY ops Y i K a ↔ ∃ v, GivesY ops Y o v a ∧ K (a.put o.dst v) := by
  unfold stepY GivesY
  simp only [hi]
  by_cases h : Region.wanted o (yielded ops a.tmps) = true
  · simp [h]
  · simp only [h]
    constructor
    · exact fun hk => ⟨undef, .inr ⟨by simp, rfl⟩, hk⟩
    · rintro ⟨v, h1 | h1, hk⟩
      · exact absurd h1.1 (by simp)
      · rw [h1.2] at hk; exact hk
theorem GivesY.same (hY : Same Y) {o : Oper} {v : Value} {a a' : Act} (h : GivesY ops Y o v a) (he : execOp a'.eval o = execOp a.eval o) (hw : Region.wanted o (yielded ops a'.tmps) = Region.wanted o (yielded ops a.tmps)) :
    GivesY ops Y o v a' := by
  unfold GivesY at *
  rw [hw]
  exact h.imp (fun h1 => ⟨h1.1, hY _ _ _ _ he h1.2⟩) id
/-- An operation that may come up may be taken first. -/
theorem anyY_first (hY : Same Y) {Q : Act → Prop} {i : Nat} {oi : Oper} {v : Value} (hi : ops[i]? = some oi) (hsel : ∀ (j : Nat) (o : Oper) cs b, ops[j]? = some o → o.op ≠ .select cs b) :
    ∀ (f : Nat) (L : Array Bool) (a : Act), (∀ j oj, ops[j]? = some oj → j ≠ i → L.getD j true = false → (∀ e ∈ oj.after, Region.binds md e = true → e.on ≠ i) → oi.apart ops oj = true) →
      i ∈ Region.ready md ops L → GivesY ops Y oi v a → anyY md ops Y Q f (L.setIfInBounds i true) (a.put oi.dst v) → anyY md ops Y Q (f + 1) L a
  | f, L, a, hfree, hr, hy, H => by
    refine ⟨fun h => (by rw [h] at hr; cases hr), fun j hj => ?_⟩
    by_cases hji : j = i
    · subst hji; exact (stepY_iff hi).2 ⟨v, hy, H⟩
    obtain ⟨hjun, oj, hoj, hall⟩ := mem_ready.1 hj
    have hj' := ready_mono hj hji
    cases f with
    | zero => rw [H.1] at hj'; cases hj'
    | succ f =>
      have hno : ∀ e ∈ oj.after, Region.binds md e = true → e.on ≠ i := fun e he hb heq => by
        have h1 := hall e he hb
        have h0 := (mem_ready.1 hr).1
        rw [heq] at h1
        rcases Nat.lt_or_ge i L.size with h' | h'
        · simp [h'] at h0 h1; rw [h0] at h1; cases h1
        · simp [Array.getElem?_eq_none h'] at h1
      obtain ⟨p1, p2, p3⟩ := Oper.apart_spec (hfree j oj hoj hji hjun hno)
      obtain ⟨u, hu, hK⟩ := (stepY_iff hoj).1 (H.2 j hj')
      have hu' : GivesY ops Y oj u a := hu.same hY (execOp_put oj (fun cs b => hsel j oj cs b hoj) a oi.dst v p1).symm (wanted_put oj a oi.dst v p1).symm
      have hy' : GivesY ops Y oi v (a.put oj.dst u) := hy.same hY (execOp_put oi (fun cs b => hsel i oi cs b hi) a oj.dst u p3) (wanted_put oi a oj.dst u p3)
      refine (stepY_iff hoj).2 ⟨u, hu', anyY_first hY hi hsel f _ _ (fun k ok hk hki hun hno' => ?_) (ready_mono hr (Ne.symm hji)) hy' ?_⟩
      · refine hfree k ok hk hki ?_ hno'
        by_cases hjk : j = k
        · subst hjk; exact hjun
        · rwa [getD_set_ne true hjk] at hun
      · rw [Array.setIfInBounds_comm _ _ hji, ← Act.put_comm a v u p2]
        exact hK
theorem anyY_lex (hY : Same Y) {Q : Act → Prop} (hs : Region.noSelect ops = true) : ∀ (l : List Oper) (k : Nat) (L : Array Bool) (a : Act), (∀ j, l[j]? = ops[k + j]?) →
    Region.lexFrom md ops l.length k L = true → listY ops Y Q l a → anyY md ops Y Q l.length L a
  | [], _, _, _, _, hB, h => ⟨by simpa [Region.lexFrom] using hB, h⟩
  | o :: l, k, L, a, hl, hB, h => by
    have h0 : ops[k]? = some o := by simpa using (hl 0).symm
    simp only [List.length_cons, Region.lexFrom, Bool.and_eq_true] at hB
    obtain ⟨⟨hr, hf⟩, hB'⟩ := hB
    have hst : stepY ops Y k (listY ops Y Q l) a := by unfold stepY; simp only [h0]; exact h
    obtain ⟨v, hy, hK⟩ := (stepY_iff h0).1 hst
    exact anyY_first hY h0 (Region.noSelect_spec hs) l.length L a (Region.free_spec h0 hf) (by simpa using hr) hy
      (anyY_lex hY hs l (k + 1) _ _ (fun j => by have := hl (j + 1); simpa [Nat.add_assoc, Nat.add_comm 1 j] using this) hB' hK)
theorem listY_mono {Q Q' : Act → Prop} (h : ∀ a, Q a → Q' a) : ∀ (l : List Oper) (a : Act), listY ops Y Q l a → listY ops Y Q' l a
  | [], a, hq => h a hq
  | o :: r, a, hq => by
    unfold listY at hq ⊢
    split
    · rename_i hw
      rw [if_pos hw] at hq
      obtain ⟨v, h1, h2⟩ := hq
      exact ⟨v, h1, listY_mono h r _ h2⟩
    · rename_i hw
      rw [if_neg hw] at hq
      exact listY_mono h r _ hq

/-! ### The operations listed so far -/
def cnt (n : Nat) (L : Array Bool) : Nat := (List.range n).countP fun j => !L.getD j true
theorem cnt_set : ∀ (n : Nat) (L : Array Bool) (i : Nat), i < n → L.getD i true = false → cnt n L = cnt n (L.setIfInBounds i true) + 1 := by
  have other : ∀ (n : Nat) (L : Array Bool) (i : Nat), n ≤ i → cnt n (L.setIfInBounds i true) = cnt n L := by
    intro n L i h
    refine List.countP_congr fun j hj => ?_
    have : i ≠ j := by have := List.mem_range.1 hj; omega
    rw [getD_set_ne true this]
  intro n
  induction n with
  | zero => intro L i h; omega
  | succ n ih =>
    intro L i h hi
    simp only [cnt, List.range_succ, List.countP_append, List.countP_singleton]
    have hlt : i < L.size := by
      rcases Nat.lt_or_ge i L.size with h' | h'
      · exact h'
      · simp [Array.getElem?_eq_none h'] at hi
    by_cases e : i = n
    · subst e
      have h1 := other i L i (Nat.le_refl _)
      unfold cnt at h1
      rw [h1]
      have h2 : (L.setIfInBounds i true).getD i true = true := by simp [hlt]
      rw [h2, hi]; simp
    · have h1 := ih L i (by omega) hi
      unfold cnt at h1
      rw [h1, getD_set_ne true e]; omega
def upto (sz k : Nat) : Array Bool := ((List.range sz).map fun j => decide (j < k)).toArray
theorem upto_get (sz k j : Nat) (h : j < sz) : (upto sz k)[j]? = some (decide (j < k)) := by simp [upto, h]
theorem upto_size (sz k : Nat) : (upto sz k).size = sz := by simp [upto]
theorem upto_set (sz k : Nat) (h : k < sz) : (upto sz k).setIfInBounds k true = upto sz (k + 1) := by
  refine Array.ext_getElem? fun j => ?_
  rcases Nat.lt_or_ge j sz with hj | hj
  · rw [upto_get _ _ _ hj]
    by_cases e : k = j
    · subst e; simp [upto_size, h]
    · rw [Array.getElem?_setIfInBounds_ne e, upto_get _ _ _ hj]; congr 1; simp; omega
  · rw [Array.getElem?_eq_none (by simpa [upto_size] using hj), Array.getElem?_eq_none (by simpa [upto_size] using hj)]
theorem getD_of {L : Array Bool} {j : Nat} {b : Bool} (h : L[j]? = some b) (d : Bool) : L.getD j d = b := by simp [h]

/-! ### The last operations: one order -/
theorem one_any {n : Nat} {Q : Exit → Act → World → Prop} (hr : ∀ k, n ≤ k → k < ops.size → Region.ready md ops (upto ops.size k) = [k]) (he : Region.ready md ops (upto ops.size ops.size) = []) :
    ∀ (l : List Oper) (k : Nat), n ≤ k → k + l.length = ops.size → (∀ j, l[j]? = ops[k + j]?) → ∀ a w, wpList P ops Q l a w → wpAny P md ops Q l.length (upto ops.size k) a w
  | [], k, hk, hs, hl, a, w, h => by
    have : k = ops.size := by simpa using hs
    subst this
    exact ⟨he, h⟩
  | o :: l, k, hk, hs, hl, a, w, h => by
    have hlt : k < ops.size := by simp at hs; omega
    have h0 : ops[k]? = some o := by simpa using (hl 0).symm
    have hrk := hr k hk hlt
    have nxt := one_any (Q := Q) hr he l (k + 1) (by omega) (by simp at hs; omega) (fun j => by have := hl (j + 1); simpa [Nat.add_assoc, Nat.add_comm 1 j] using this)
    refine ⟨fun h' => (by rw [hrk] at h'; cases h'), fun i hi => ?_⟩
    rw [hrk] at hi
    obtain rfl := List.mem_singleton.1 hi
    rw [upto_set _ _ hlt]
    unfold wpOp
    simp only [h0]
    unfold wpList at h
    split
    · rename_i hw
      rw [if_pos hw] at h
      rcases h with h | h
      · exact .inl (Oper.wp_mono (fun a' w' hh => nxt a' w' hh) h)
      · exact .inr h
    · rename_i hw
      rw [if_neg hw] at h
      exact nxt _ _ h

/-! ### Allocations among the first -/
def allocOf (o : Oper) : Option (Nat × TypeId) :=
  match o.op, o.dst, o.guard with
  | .alloc t, some d, none => some (d, t)
  | _, _, _ => none
def skipA (o : Oper) : Oper :=
  match allocOf o with
  | some _ => { o with dst := none, op := .assign (.const (.tuple #[])) }
  | none => o
theorem allocOf_eq {o : Oper} {d : Nat} {t : TypeId} (h : allocOf o = some (d, t)) : o.op = .alloc t ∧ o.dst = some d ∧ o.guard = none := by
  unfold allocOf at h
  split at h
  · rename_i h1 h2 h3
    simp only [Option.some.injEq, Prod.mk.injEq] at h
    exact ⟨by rw [h1, h.2], by rw [h2, h.1], h3⟩
  · cases h
theorem skipA_after (o : Oper) : (skipA o).after = o.after := by unfold skipA; split <;> rfl
theorem skipA_some {o : Oper} {p : Nat × TypeId} (h : allocOf o = some p) : (skipA o).dst = none := by unfold skipA; rw [h]
theorem skipA_none {o : Oper} (h : allocOf o = none) : skipA o = o := by unfold skipA; rw [h]
/-- Two states that agree but for some slots. -/
structure But (D : List Nat) (a' a : Act) : Prop where
  defers : a.defers = a'.defers
  size : a.tmps.size = a'.tmps.size
  slot : ∀ i, i ∉ D → a.tmps[i]? = a'.tmps[i]?
theorem But.put {D : List Nat} {a' a : Act} (h : But D a' a) (dst : Option Tmp) (v : Value) : But D (a'.put dst v) (a.put dst v) := by
  cases dst with
  | none => exact h
  | some d =>
    refine ⟨h.defers, by simp [Act.put, h.size], fun i hi => ?_⟩
    simp only [Act.put, Array.getElem?_setIfInBounds, h.size, h.slot i hi]
theorem But.put_in {D : List Nat} {a' a : Act} (h : But D a' a) {d : Nat} (hd : d ∈ D) (v : Value) : But D a' (a.put (some d) v) := by
  refine ⟨h.defers, by simp [Act.put, h.size], fun i hi => ?_⟩
  have : d ≠ i := fun e => hi (e ▸ hd)
  simp only [Act.put]
  rw [Array.getElem?_setIfInBounds_ne this]; exact h.slot i hi
theorem But.eval {D : List Nat} {a' a : Act} (h : But D a' a) {x : Operand} (hx : ∀ d ∈ D, x ≠ .tmp d) : a.eval x = a'.eval x := by
  cases x with
  | tmp t =>
    have := h.slot t (fun ht => hx t ht rfl)
    simp only [Act.eval, Array.getD_eq_getD_getElem?, this]
  | _ => rfl
theorem But.exec {D : List Nat} {a' a : Act} (h : But D a' a) (o : Oper) (hs : ∀ cs b, o.op ≠ .select cs b) (hD : ∀ d ∈ D, d ∉ o.looksAt ops) : execOp a.eval o = execOp a'.eval o :=
  execOp_congr o hs fun x hx => h.eval fun d hd hxd => hD d hd (by
    subst hxd
    exact List.mem_append_left _ (List.mem_filterMap.2 ⟨.tmp d, by simpa using hx, rfl⟩))

/-- Block b holds just these cells, none frozen. -/
def Blk (w : World) (b : Nat) (t : TypeId) (cs : List Value) : Prop := w.heap[b]? = some (.cells cs.toArray t (0, 0))
/-- A new block. -/
structure New (w w1 : World) (b : Nat) (t : TypeId) (cs : List Value) : Prop where
  ext : Ext w w1
  ge : w.heap.size ≤ b
  blk : Blk w1 b t cs
/-- What the allocations that have come up have made. -/
structure Made (w0 : World) (Z : Nat → List Value) (f : Nat → Nat) (S : Nat × TypeId → Prop) (a : Act) (w : World) : Prop where
  slot : ∀ d t, S (d, t) → a.tmps[d]? = some (.pointer (some ⟨f d, 0, none⟩)) ∧ w0.heap.size ≤ f d ∧ Blk w (f d) t (Z d)
  apart : ∀ d t d' t', S (d, t) → S (d', t') → d ≠ d' → f d ≠ f d'

/-- What an allocation of this type does. -/
def AllocRuns (P : Program) (t : TypeId) (z : List Value) : Prop := ∀ (ρ : Operand → Value) (o : Oper) (w : World), o.op = .alloc t → (execOp ρ o).run P w = .ok (.value (.pointer (some ⟨w.heap.size, 0, none⟩))) (w.alloc (.cells z.toArray t))
/-- One way through the edges. -/
def reach (ops : Array Oper) (md : Region.Mode) : Nat → Nat → Nat → Bool
  | 0, _, _ => false
  | f + 1, i, j => match ops[i]? with
    | none => false
    | some o => o.after.any fun e => Region.binds md e && (Nat.beq e.on j || reach ops md f e.on j)
/-- With each operation that has come up, those that it waits for. -/
def Closed (ops : Array Oper) (md : Region.Mode) (L : Array Bool) : Prop := ∀ k o, L.getD k false = true → ops[k]? = some o → ∀ e ∈ o.after, Region.binds md e = true → L.getD e.on false = true
theorem reach_listed {L : Array Bool} (hc : Closed ops md L) : ∀ (f i j : Nat), (∀ o, ops[i]? = some o → ∀ e ∈ o.after, Region.binds md e = true → L.getD e.on false = true) → reach ops md f i j = true → L.getD j false = true
  | 0, i, j, _, h => by simp [reach] at h
  | f + 1, i, j, hi, h => by
    unfold reach at h
    split at h
    · cases h
    · rename_i o ho
      obtain ⟨k, hk, h2⟩ := Array.any_eq_true.1 h
      simp only [Bool.and_eq_true, Bool.or_eq_true] at h2
      have hl := hi o ho _ (Array.getElem_mem hk) h2.1
      rcases h2.2 with h3 | h3
      · rw [← Nat.eq_of_beq_eq_true h3]; exact hl
      · exact reach_listed hc f _ j (fun o' ho' => hc _ o' hl ho') h3
theorem Closed.set {L : Array Bool} (hc : Closed ops md L) {i : Nat} (hi : i ∈ Region.ready md ops L) : Closed ops md (L.setIfInBounds i true) := by
  intro k o hk ho e he hb
  by_cases hki : i = k
  · subst hki
    obtain ⟨_, o', ho', hall⟩ := mem_ready.1 hi
    obtain rfl := Option.some.inj (ho.symm.trans ho')
    exact getD_set_true (hall e he hb)
  · rw [getD_set_ne false hki] at hk
    exact getD_set_true (hc k o hk ho e he hb)

/-- What each operation leaves, in every world that has grown from w: a value, and a world that has grown from the one at hand. -/
def yW (P : Program) (w : World) (o : Oper) (a : Act) (v : Value) : Prop := ∀ w', Ext w w' → o.quietAt P a (Ext w') w' v
theorem same_yW (P : Program) (w : World) : Same (yW P w) := fun o a a' v he h w' hw' => by
  have := h w' hw'
  unfold Oper.quietAt at *
  rwa [he]

theorem drawn_any {n s : Nat} {Q1 : Act → Prop} {Q : Exit → Act → World → Prop} {w0 : World} {D : List Nat} {Z : Nat → List Value} {pre : Array Oper} (hn : n ≤ ops.size) (hP : ∀ i o, i < n → ops[i]? = some o → pre[i]? = some (skipA o))
    (hA : ∀ i, n ≤ i → i < ops.size → ∀ j, j < n → reach ops md 9 i j = true)
    (hE : ∀ i o, ops[i]? = some o → i < n → ∀ e ∈ o.after, Region.binds md e = true → e.on < i)
    (hG : ∀ i o, ops[i]? = some o → i < n → ∀ g, o.guard = some g → g.1 < n ∧ ∀ o', ops[g.1]? = some o' → allocOf o' = none)
    (hsel : ∀ (j : Nat) (o : Oper) cs b, ops[j]? = some o → j < n → o.op ≠ .select cs b)
    (hD : ∀ i o, ops[i]? = some o → i < n → allocOf o = none → (∀ d ∈ D, d ∉ o.looksAt ops) ∧ (∀ d ∈ D, o.dst ≠ some d))
    (hDa : ∀ i o d t, ops[i]? = some o → i < n → allocOf o = some (d, t) → d ∈ D ∧ AllocRuns P t (Z d))
    (hDn : ∀ i o d t i' o' t', ops[i]? = some o → i < n → allocOf o = some (d, t) → ops[i']? = some o' → i' < n → allocOf o' = some (d, t') → i = i')
    (last : ∀ a' a w f, Ext w0 w → Q1 a' → But D a' a → Made w0 Z f (fun p => ∃ i o, i < n ∧ ops[i]? = some o ∧ allocOf o = some p) a w → wpAny P md ops Q s (upto ops.size n) a w) :
    ∀ (f : Nat) (L L' : Array Bool) (a' a : Act) (w : World) (g : Nat → Nat), Ext w0 w → L'.size = n → L.size = ops.size → (∀ j, j < n → L[j]? = L'[j]?) → (∀ j, n ≤ j → j < ops.size → L[j]? = some false) → cnt n L' = f →
      Closed ops md L → But D a' a → (∀ d ∈ D, d < a.tmps.size) → Made w0 Z g (fun p => ∃ i o, L[i]? = some true ∧ i < n ∧ ops[i]? = some o ∧ allocOf o = some p) a w →
      anyY md pre (yW P w0) Q1 f L' a' → wpAny P md ops Q (f + s) L a w := by
  intro f
  induction f with
  | zero =>
    intro L L' a' a w g hC hs' hs h1 h2 hc hcl hbut hDs hm h
    have hlist : ∀ j, j < n → L[j]? = some true := fun j hj => by
      rw [h1 j hj]
      have := List.countP_eq_zero.1 hc j (List.mem_range.2 hj)
      have hlt : j < L'.size := by omega
      simp [hlt] at this
      simp [hlt, this]
    have hL : L = upto ops.size n := by
      refine Array.ext_getElem? fun j => ?_
      rcases Nat.lt_or_ge j ops.size with hj | hj
      · rw [upto_get _ _ _ hj]
        rcases Nat.lt_or_ge j n with hjn | hjn
        · rw [hlist j hjn]; simp [hjn]
        · rw [h2 j hjn hj]; simp; omega
      · rw [Array.getElem?_eq_none (by omega), Array.getElem?_eq_none (by rw [upto_size]; omega)]
    rw [Nat.zero_add]
    have hm' : Made w0 Z g (fun p => ∃ i o, i < n ∧ ops[i]? = some o ∧ allocOf o = some p) a w :=
      ⟨fun d t ⟨i, o, hi, ho, ha⟩ => hm.slot d t ⟨i, o, hlist i hi, hi, ho, ha⟩, fun d t d' t' ⟨i, o, hi, ho, ha⟩ ⟨i', o', hi', ho', ha'⟩ => hm.apart d t d' t' ⟨i, o, hlist i hi, hi, ho, ha⟩ ⟨i', o', hlist i' hi', hi', ho', ha'⟩⟩
    rw [hL]
    exact last a' a w g hC h.2 hbut hm'
  | succ f ih =>
    intro L L' a' a w g hC hs' hs h1 h2 hc hcl hbut hDs hm h
    rw [Nat.succ_add]
    have un : ∃ j, j < n ∧ L'[j]? = some false ∧ ∀ k, k < j → L'[k]? = some true := by
      have hpos : 0 < cnt n L' := by omega
      obtain ⟨j, hj, hjf⟩ := List.countP_pos_iff.1 hpos
      have hjn := List.mem_range.1 hj
      have hjl : j < L'.size := by omega
      have hjf' : L'[j]? = some false := by simp [hjl] at hjf ⊢; exact hjf
      clear hj hjf hjl
      induction j using Nat.strongRecOn with
      | ind j ihj =>
        by_cases hall : ∀ k, k < j → L'[k]? = some true
        · exact ⟨j, hjn, hjf', hall⟩
        · obtain ⟨k, hk⟩ := Classical.not_forall.1 hall
          obtain ⟨hkj, hk⟩ := Classical.not_imp.1 hk
          have hkl : k < L'.size := by omega
          refine ihj k hkj (by omega) ?_
          rw [Array.getElem?_eq_getElem hkl] at hk ⊢
          cases hb : L'[k] with
          | true => rw [hb] at hk; exact absurd rfl hk
          | false => rfl
    obtain ⟨j0, hj0, hjf, hbelow⟩ := un
    have on_lt : ∀ {i : Nat} {o : Oper} {e : Edge}, ops[i]? = some o → i < n → e ∈ o.after → Region.binds md e = true → L.getD e.on false = L'.getD e.on false := fun ho hi he hb => by
      have h4 := hE _ _ ho hi _ he hb
      rename_i i0 o0 e0
      have h3 := h1 e0.on (by omega)
      rw [Array.getD_eq_getD_getElem?, Array.getD_eq_getD_getElem?, h3]
    have lt_n : ∀ i, i ∈ Region.ready md ops L → i < n := fun i hi => by
      obtain ⟨_, o, ho, hall⟩ := mem_ready.1 hi
      rcases Nat.lt_or_ge i n with h3 | h3
      · exact h3
      · have hlt : i < ops.size := by
          rcases Nat.lt_or_ge i ops.size with h' | h'
          · exact h'
          · rw [Array.getElem?_eq_none h'] at ho; cases ho
        have := reach_listed hcl 9 i j0 (fun o' ho' => by obtain rfl := Option.some.inj (ho.symm.trans ho'); exact hall) (hA i h3 hlt j0 hj0)
        rw [getD_of ((h1 j0 hj0).trans hjf)] at this
        cases this
    refine ⟨fun hr => ?_, fun i hi => ?_⟩
    · exfalso
      have hmem : j0 ∈ Region.ready md ops L := by
        have hlt : j0 < ops.size := by omega
        refine mem_ready.2 ⟨getD_of ((h1 j0 hj0).trans hjf) _, ops[j0], Array.getElem?_eq_getElem hlt, fun e he hb => ?_⟩
        have hlt' := hE j0 _ (Array.getElem?_eq_getElem hlt) hj0 e he hb
        exact getD_of ((h1 _ (by omega)).trans (hbelow _ hlt')) _
      rw [hr] at hmem; cases hmem
    · have hin := lt_n i hi
      have hcl' := hcl.set hi
      obtain ⟨hun, o, ho, hall⟩ := mem_ready.1 hi
      have hpo : pre[i]? = some (skipA o) := hP i o hin ho
      have hun' : L'.getD i true = false := by
        have := h1 i hin
        simp only [Array.getD_eq_getD_getElem?, ← this] at hun ⊢; exact hun
      have hi' : i ∈ Region.ready md pre L' := mem_ready.2 ⟨hun', skipA o, hpo, fun e he hb => by rw [skipA_after] at he; rw [← on_lt ho hin he hb]; exact hall e he hb⟩
      have hq := (stepY_iff hpo).1 (h.2 i hi')
      obtain ⟨v, hv, hK⟩ := hq
      have hset : ∀ j, j < n → (L.setIfInBounds i true)[j]? = (L'.setIfInBounds i true)[j]? := fun j hj => by
        by_cases e : i = j
        · subst e
          have hl1 : i < L.size := by omega
          have hl2 : i < L'.size := by omega
          simp [hl1, hl2]
        · rw [Array.getElem?_setIfInBounds_ne e, Array.getElem?_setIfInBounds_ne e]; exact h1 j hj
      have hset2 : ∀ j, n ≤ j → j < ops.size → (L.setIfInBounds i true)[j]? = some false := fun j hj hjs => by
        rw [Array.getElem?_setIfInBounds_ne (by omega)]; exact h2 j hj hjs
      have hc' : cnt n (L'.setIfInBounds i true) = f := by have := cnt_set n L' i hin hun'; omega
      have old : ∀ k, (L.setIfInBounds i true)[k]? = some true → k ≠ i → L[k]? = some true := fun k hk hki => by
        rwa [Array.getElem?_setIfInBounds_ne (Ne.symm hki)] at hk
      have hLi : L[i]? = some false := by
        have hlt : i < L.size := by omega
        simp [hlt] at hun ⊢; exact hun
      unfold wpOp
      simp only [ho]
      cases hao : allocOf o with
      | none =>
        rw [skipA_none hao] at hpo hv hK
        obtain ⟨hr1, hr2⟩ := hD i o ho hin hao
        have hw : Region.wanted o (yielded pre a'.tmps) = Region.wanted o (yielded ops a.tmps) := by
          unfold Region.wanted
          cases hg : o.guard with
          | none => rfl
          | some gd =>
            obtain ⟨hg1, hg2⟩ := hG i o ho hin gd hg
            have hlt : gd.1 < ops.size := by omega
            have hog := Array.getElem?_eq_getElem hlt
            have hpg := hP _ _ hg1 hog
            rw [skipA_none (hg2 _ hog)] at hpg
            have hy : yielded pre a'.tmps gd.1 = yielded ops a.tmps gd.1 := by
              simp only [yielded, hpg, hog, Option.bind_some]
              cases hd : (ops[gd.1]'hlt).dst with
              | none => rfl
              | some d =>
                have hdD : d ∉ D := fun hdD => (hD _ _ hog hg1 (hg2 _ hog)).2 d hdD hd
                simp only [Option.bind_some, hbut.slot d hdD]
            simp only [hy]
        have hex : execOp a.eval o = execOp a'.eval o := hbut.exec o (fun cs b => hsel i o cs b ho hin) hr1
        have made : ∀ u w'', Ext w w'' → Made w0 Z g (fun p => ∃ k o, (L.setIfInBounds i true)[k]? = some true ∧ k < n ∧ ops[k]? = some o ∧ allocOf o = some p) (a.put o.dst u) w'' := fun u w'' hw'' =>
          ⟨fun d t ⟨k, ok, hk, hkn, hok, hka⟩ => by
            have hki : k ≠ i := fun e => by subst e; obtain rfl := Option.some.inj (ho.symm.trans hok); rw [hao] at hka; cases hka
            obtain ⟨m1, m2, m3⟩ := hm.slot d t ⟨k, ok, old k hk hki, hkn, hok, hka⟩
            refine ⟨?_, m2, hw''.blk m3⟩
            have hne := hr2 d (hDa k ok d t hok hkn hka).1
            cases hdst : o.dst with
            | none => exact m1
            | some x =>
              have : x ≠ d := fun e => hne (by rw [hdst, e])
              simp only [Act.put]
              rw [Array.getElem?_setIfInBounds_ne this]; exact m1,
          fun d t d' t' ⟨k, ok, hk, hkn, hok, hka⟩ ⟨k', ok', hk', hkn', hok', hka'⟩ => by
            have hki : k ≠ i := fun e => by subst e; obtain rfl := Option.some.inj (ho.symm.trans hok); rw [hao] at hka; cases hka
            have hki' : k' ≠ i := fun e => by subst e; obtain rfl := Option.some.inj (ho.symm.trans hok'); rw [hao] at hka'; cases hka'
            exact hm.apart d t d' t' ⟨k, ok, old k hk hki, hkn, hok, hka⟩ ⟨k', ok', old k' hk' hki', hkn', hok', hka'⟩⟩
        have szP : ∀ u, ∀ d ∈ D, d < (a.put o.dst u).tmps.size := fun u d hd => by
          have := hDs d hd
          cases o.dst <;> simp [Act.put, this]
        rcases hv with ⟨hwn, hy⟩ | ⟨hwn, hvu⟩
        · rw [hw] at hwn
          rw [if_pos hwn]
          have hq := hy w hC
          unfold Oper.quietAt at hq
          rw [← hex] at hq
          refine .inl (Oper.wp_of_quiet (C := fun w'' => Ext w w'') (K := fun x => x = a.put o.dst v) (Ext.refl w) (fun a1 w1 hw1 e => ?_) ?_)
          · subst e
            exact ih _ _ (a'.put o.dst v) _ w1 g (hC.trans hw1) (by simpa using hs') (by simpa using hs) hset hset2 hc' hcl' (hbut.put _ _) (szP v) (made v w1 hw1) hK
          · refine ⟨v, fun w1 hw1 => ?_, rfl⟩
            have hq1 := hy w1 (hC.trans hw1)
            unfold Oper.quietAt at hq1 ⊢
            rw [← hex] at hq1
            generalize (execOp a.eval o).run P w1 = r at *
            cases r with
            | ok nx w2 =>
              cases nx <;> simp only [Oper.quietUpon] at hq1 ⊢ <;> first | exact hq1 | exact ⟨hq1.1, hq1.2.mono fun e w3 h3 => ⟨h3.1, hw1.trans h3.2⟩⟩
            | halt x w2 => simp only [Oper.quietUpon] at hq1
        · rw [hw] at hwn
          rw [if_neg (by rw [hwn]; exact Bool.false_ne_true)]
          subst hvu
          exact ih _ _ (a'.put o.dst undef) _ w g hC (by simpa using hs') (by simpa using hs) hset hset2 hc' hcl' (hbut.put _ _) (szP _) (made undef w (Ext.refl w)) hK
      | some p =>
        obtain ⟨d, t⟩ := p
        obtain ⟨e1, e2, e3⟩ := allocOf_eq hao
        obtain ⟨hdD, hrun⟩ := hDa i o d t ho hin hao
        rw [if_pos (by unfold Region.wanted; rw [e3])]
        have hdst : (skipA o).dst = none := skipA_some hao
        rw [hdst] at hK
        refine .inl ?_
        have hr : (execOp a.eval o).run P w = .ok (.value (.pointer (some ⟨w.heap.size, 0, none⟩))) (w.alloc (.cells (Z d).toArray t)) := by
          exact hrun _ _ _ e1
        unfold Oper.wp
        rw [hr]
        show wpAny P md ops Q (f + s) (L.setIfInBounds i true) (a.put o.dst (.pointer (some ⟨w.heap.size, 0, none⟩))) (w.alloc (.cells (Z d).toArray t))
        rw [e2]
        have hext : Ext w (w.alloc (.cells (Z d).toArray t)) := (Ext.refl w).alloc _
        have hb_lt : ∀ d1 t1, (∃ k o, L[k]? = some true ∧ k < n ∧ ops[k]? = some o ∧ allocOf o = some (d1, t1)) → g d1 < w.heap.size := fun d1 t1 hs1 => by
          obtain ⟨_, _, m3⟩ := hm.slot d1 t1 hs1
          rcases Nat.lt_or_ge (g d1) w.heap.size with h' | h'
          · exact h'
          · unfold Blk at m3; rw [Array.getElem?_eq_none h'] at m3; cases m3
        have not_old : ∀ d1 t1, (∃ k o, L[k]? = some true ∧ k < n ∧ ops[k]? = some o ∧ allocOf o = some (d1, t1)) → d1 ≠ d := fun d1 t1 ⟨k, ok, hk, hkn, hok, hka⟩ e => by
          subst e
          have := hDn k ok d1 t1 i o t hok hkn hka ho hin hao
          subst this
          rw [hLi] at hk; cases hk
        refine ih _ _ a' _ _ (fun x => if x = d then w.heap.size else g x) (hC.trans hext) (by simpa using hs') (by simpa using hs) hset hset2 hc' hcl' (hbut.put_in hdD _) (fun d1 hd1 => by have := hDs d1 hd1; simp [Act.put, this]) ?_ hK
        have cases' : ∀ d1 t1, (∃ k o, (L.setIfInBounds i true)[k]? = some true ∧ k < n ∧ ops[k]? = some o ∧ allocOf o = some (d1, t1)) → (d1 = d ∧ t1 = t) ∨ (∃ k o, L[k]? = some true ∧ k < n ∧ ops[k]? = some o ∧ allocOf o = some (d1, t1)) := fun d1 t1 ⟨k, ok, hk, hkn, hok, hka⟩ => by
          by_cases hki : k = i
          · subst hki
            obtain rfl := Option.some.inj (ho.symm.trans hok)
            rw [hao] at hka
            simp only [Option.some.injEq, Prod.mk.injEq] at hka
            exact .inl ⟨hka.1.symm, hka.2.symm⟩
          · exact .inr ⟨k, ok, old k hk hki, hkn, hok, hka⟩
        constructor
        · intro d1 t1 h5
          rcases cases' d1 t1 h5 with ⟨rfl, rfl⟩ | h6
          · refine ⟨?_, by simpa using hC.size, ?_⟩
            · have := hDs d1 hdD
              simp [Act.put, this]
            · simp only [if_true]
              exact alloc_heap _ _
          · obtain ⟨m1, m2, m3⟩ := hm.slot d1 t1 h6
            have hne := not_old d1 t1 h6
            simp only [hne, if_false]
            refine ⟨?_, m2, hext.blk m3⟩
            simp only [Act.put]
            rw [Array.getElem?_setIfInBounds_ne (Ne.symm hne)]; exact m1
        · intro d1 t1 d2 t2 h5 h6 hne
          rcases cases' d1 t1 h5 with ⟨rfl, rfl⟩ | h7
          · rcases cases' d2 t2 h6 with ⟨rfl, rfl⟩ | h8
            · exact absurd rfl hne
            · have := hb_lt d2 t2 h8
              simp only [if_true, Ne.symm hne, if_false]; omega
          · rcases cases' d2 t2 h6 with ⟨rfl, rfl⟩ | h8
            · have := hb_lt d1 t1 h7
              simp only [if_true, hne, if_false]; omega
            · simp only [not_old d1 t1 h7, not_old d2 t2 h8, if_false]
              exact hm.apart d1 t1 d2 t2 h7 h8 hne

/-! ### The test -/
def allocsOf (l : List Oper) : List (Nat × TypeId) := l.filterMap allocOf
def drawB (ops : Array Oper) (n : Nat) : Bool :=
  Nat.ble n ops.size && Region.noSelect ops && Region.lexB .any ((ops.toList.take n).map skipA).toArray &&
  (List.range ops.size).all (fun i => match ops[i]? with
    | none => true
    | some o => if Nat.ble (i + 1) n then (o.after.all fun e => !Region.binds .any e || Nat.ble (e.on + 1) i) &&
        (match o.guard with
          | none => true
          | some g => Nat.ble (g.1 + 1) n && (match ops[g.1]? with
            | none => true
            | some o' => (allocOf o').isNone)) &&
        (match allocOf o with
          | some p => (List.range n).all fun i' => Nat.beq i i' || (match (ops[i']?).bind allocOf with
            | some p' => !Nat.beq p.1 p'.1
            | none => true)
          | none => (allocsOf (ops.toList.take n)).all fun p => !(o.looksAt ops).contains p.1 && (match o.dst with
            | some d => !Nat.beq d p.1
            | none => true))
      else (List.range n).all fun j => reach ops .any 9 i j) &&
  (List.range ops.size).all (fun k => Nat.ble (k + 1) n || (match Region.ready .any ops (upto ops.size k) with
    | [k'] => Nat.beq k' k
    | _ => false)) &&
  (Region.ready .any ops (upto ops.size ops.size)).isEmpty

/-- **A region that draws its order**: the first n operations in the order of the text (each allocation left out), then the others, from a world in which the allocations have been made. -/
theorem wp_drawn {ro : Option Nat} {l : List Oper} {n id : Nat} {Q1 : Act → Prop} {Q : Exit → Act → World → Prop} {w0 w : World} {a : Act} {Z : Nat → List Value} (hnd : NoDef ro l) (hQ : ¬LetsOut Q) (hm : P.follows .mixedOrders = true) (hB : drawB l.toArray n = true)
    (hZ : ∀ p ∈ allocsOf (l.take n), p.1 < a.tmps.size ∧ AllocRuns P p.2 (Z p.1)) (hw : Ext w0 w)
    (h : listY ((l.take n).map skipA).toArray (yW P w0) Q1 ((l.take n).map skipA) a)
    (last : ∀ a' a w f, Ext w0 w → Q1 a' → But ((allocsOf (l.take n)).map (·.1)) a' a → Made w0 Z f (fun p => p ∈ allocsOf (l.take n)) a w → wpList P l.toArray Q (l.drop n) a w) :
    WpR ro P (.region id l.toArray true) Q a w := by
  simp only [drawB, Bool.and_eq_true] at hB
  obtain ⟨⟨⟨⟨⟨b1, b0⟩, b2⟩, b3⟩, b4⟩, b5⟩ := hB
  have hn : n ≤ l.toArray.size := Nat.le_of_ble_eq_true b1
  have hnl : n ≤ l.length := by simpa using hn
  have mem_als : ∀ p, p ∈ allocsOf (l.take n) ↔ ∃ i o, i < n ∧ l.toArray[i]? = some o ∧ allocOf o = some p := fun p => by
    unfold allocsOf
    rw [List.mem_filterMap]
    constructor
    · rintro ⟨o, ho, ha⟩
      obtain ⟨i, hi⟩ := List.mem_iff_getElem?.1 ho
      rw [List.getElem?_take] at hi
      split at hi
      · rename_i hlt; exact ⟨i, o, hlt, by simpa using hi, ha⟩
      · cases hi
    · rintro ⟨i, o, hi, ho, ha⟩
      exact ⟨o, List.mem_iff_getElem?.2 ⟨i, by rw [List.getElem?_take, if_pos hi]; simpa using ho⟩, ha⟩
  have at3 : ∀ i o, l.toArray[i]? = some o → _ := fun i o ho => by
    have hlt : i < l.toArray.size := by
      rcases Nat.lt_or_ge i l.toArray.size with h' | h'
      · exact h'
      · rw [Array.getElem?_eq_none h'] at ho; cases ho
    have := List.all_eq_true.1 b3 i (List.mem_range.2 hlt)
    simp only [ho] at this
    exact this
  have pre3 : ∀ i o, l.toArray[i]? = some o → i < n → _ := fun i o ho hi => by
    have := at3 i o ho
    rw [if_pos (Nat.ble_eq_true_of_le hi)] at this
    simp only [Bool.and_eq_true] at this
    exact this
  have hP : ∀ i o, i < n → l.toArray[i]? = some o → ((l.take n).map skipA).toArray[i]? = some (skipA o) := fun i o hi ho => by
    have : l[i]? = some o := by simpa using ho
    simp [hi, this]
  have hE : ∀ i o, l.toArray[i]? = some o → i < n → ∀ e ∈ o.after, Region.binds .any e = true → e.on < i := fun i o ho hi e he hb => by
    have := Array.all_eq_true_iff_forall_mem.1 (pre3 i o ho hi).1.1 e he
    rw [hb, Bool.not_true, Bool.false_or] at this
    exact Nat.le_of_ble_eq_true this
  have hG : ∀ i o, l.toArray[i]? = some o → i < n → ∀ g, o.guard = some g → g.1 < n ∧ ∀ o', l.toArray[g.1]? = some o' → allocOf o' = none := fun i o ho hi g hg => by
    have h2 := (pre3 i o ho hi).1.2
    rw [hg] at h2
    simp only [Bool.and_eq_true] at h2
    refine ⟨Nat.le_of_ble_eq_true h2.1, fun o' ho' => ?_⟩
    have h3 := h2.2
    rw [ho'] at h3
    simpa using h3
  have hD : ∀ i o, l.toArray[i]? = some o → i < n → allocOf o = none → (∀ d ∈ (allocsOf (l.take n)).map (·.1), d ∉ o.looksAt l.toArray) ∧ (∀ d ∈ (allocsOf (l.take n)).map (·.1), o.dst ≠ some d) := fun i o ho hi ha => by
    have h2 := (pre3 i o ho hi).2
    rw [ha] at h2
    have h2' := List.all_eq_true.1 h2
    refine ⟨fun d hd => ?_, fun d hd hdst => ?_⟩
    · obtain ⟨p, hp, rfl⟩ := List.mem_map.1 hd
      have := h2' p hp
      simp only [Bool.and_eq_true] at this
      simpa using this.1
    · obtain ⟨p, hp, rfl⟩ := List.mem_map.1 hd
      have := h2' p hp
      simp only [Bool.and_eq_true, hdst, Nat.beq_refl, Bool.not_true, Bool.false_eq_true, and_false] at this
  have hDn : ∀ i o d t i' o' t', l.toArray[i]? = some o → i < n → allocOf o = some (d, t) → l.toArray[i']? = some o' → i' < n → allocOf o' = some (d, t') → i = i' := fun i o d t i' o' t' ho hi ha ho' hi' ha' => by
    have h2 := (pre3 i o ho hi).2
    rw [ha] at h2
    have := List.all_eq_true.1 h2 i' (List.mem_range.2 hi')
    simp only [Bool.or_eq_true] at this
    rcases this with h3 | h3
    · exact Nat.eq_of_beq_eq_true h3
    · simp only [ho', Option.bind_some, ha', Nat.beq_refl, Bool.not_true, Bool.false_eq_true] at h3
  have hA : ∀ i, n ≤ i → i < l.toArray.size → ∀ j, j < n → reach l.toArray .any 9 i j = true := fun i hi his j hj => by
    have := at3 i _ (Array.getElem?_eq_getElem his)
    rw [if_neg (fun hb => by have := Nat.le_of_ble_eq_true hb; omega)] at this
    exact List.all_eq_true.1 this j (List.mem_range.2 hj)
  have hr : ∀ k, n ≤ k → k < l.toArray.size → Region.ready .any l.toArray (upto l.toArray.size k) = [k] := fun k hk hks => by
    have := List.all_eq_true.1 b4 k (List.mem_range.2 hks)
    simp only [Bool.or_eq_true] at this
    rcases this with h' | h'
    · have := Nat.le_of_ble_eq_true h'; omega
    · split at h'
      · rename_i k' he
        rw [he, Nat.eq_of_beq_eq_true h']
      · cases h'
  have he : Region.ready .any l.toArray (upto l.toArray.size l.toArray.size) = [] := by simpa using b5
  simp only [Region.lexB, Bool.and_eq_true] at b2
  have hd : (l.drop n).length = l.toArray.size - n := by simp
  have hlen : ((l.take n).map skipA).length = n := by simp; omega
  refine wpR_region_any (by simpa using hnd) hQ hm ?_
  have quiet := anyY_lex (md := .any) (same_yW P w0) b2.1 ((l.take n).map skipA) 0 (Array.replicate ((l.take n).map skipA).toArray.size false) a (by simp) (by simpa using b2.2) h
  have := drawn_any (P := P) (md := .any) (ops := l.toArray) (pre := ((l.take n).map skipA).toArray) (n := n) (s := (l.drop n).length) (Q := Q) (Q1 := Q1) (w0 := w0) (D := (allocsOf (l.take n)).map (·.1)) (Z := Z)
    hn hP hA hE hG (fun j o cs b ho _ => Region.noSelect_spec b0 j o cs b ho) hD
    (fun i o d t ho hi ha => by
      have hmem := (mem_als (d, t)).2 ⟨i, o, hi, ho, ha⟩
      exact ⟨List.mem_map.2 ⟨(d, t), hmem, rfl⟩, (hZ _ hmem).2⟩) hDn
    (fun a' a1 w1 f hw1 q1 hb hmd => one_any hr he (l.drop n) n (Nat.le_refl _) (by rw [hd]; omega) (fun j => by simp) a1 w1
      (last a' a1 w1 f hw1 q1 hb ⟨fun d t hp => hmd.slot d t ((mem_als _).1 hp), fun d t d' t' hp hp' => hmd.apart d t d' t' ((mem_als _).1 hp) ((mem_als _).1 hp')⟩))
    ((l.take n).map skipA).length (Array.replicate l.toArray.size false) (Array.replicate ((l.take n).map skipA).toArray.size false) a a { w with drawn := w.drawn + 1 } (fun _ => 0) hw.draw (by simp; omega) (by simp)
    (fun j hj => by
      have h1 : j < l.length := by omega
      have h2 : j < ((l.take n).map skipA).length := by omega
      simp only [Array.getElem?_replicate]
      rw [if_pos (by simpa using h1), if_pos (by simpa using h2)])
    (fun j _ hj => by simp only [Array.getElem?_replicate]; rw [if_pos hj])
    (by
      unfold cnt
      rw [List.countP_eq_length.2]
      · rw [hlen]; simp
      · intro j hj
        have := List.mem_range.1 hj
        have h2 : j < ((l.take n).map skipA).toArray.size := by simp; omega
        simp only [Array.getD_eq_getD_getElem?, Array.getElem?_replicate]
        rw [if_pos h2]; rfl)
    (fun k o hk => by
      simp only [Array.getD_eq_getD_getElem?, Array.getElem?_replicate] at hk
      split at hk <;> simp at hk)
    ⟨rfl, rfl, fun _ _ => rfl⟩ (fun d hd => by
      obtain ⟨p, hp, rfl⟩ := List.mem_map.1 hd
      exact (hZ p hp).1)
    ⟨fun d t ⟨i, o, hi, _⟩ => by
      simp only [Array.getElem?_replicate] at hi
      split at hi <;> simp at hi, fun d t d' t' ⟨i, o, hi, _⟩ => by
      simp only [Array.getElem?_replicate] at hi
      split at hi <;> simp at hi⟩ quiet
  have e : ((l.take n).map skipA).length + (l.drop n).length = l.toArray.size := by rw [hlen, hd]; omega
  rwa [e] at this
end
end Go.Proofs.Ytkdjbddjblahkaa

/-
  The last step of a proof: a law that returned true and left a world that has at most grown meets its row.
  No conditions beyond those that each statement names.
-/
namespace Go.Proofs.Ytkdjbddjblahkaa
open Go.RowKit Go.WideShapes Go.ChangeShapes

section
variable {H : Type} {enc : TypeId × Value → H} {P : Program}
theorem post_of_below {f : Func} {s : ChangeSpec} {apart fresh handsOn again : Bool} {W W' : World} {args : Array Value} {v : Value} {ds gs : List (DataW H)} {before pa pv : List MemPlace}
    (hW : DataW.Whole enc P f.params.toList s.vars apart W args.toList ds gs before)
    (hres : ∀ (b : Nat) (sp : Nat → Bool) (hd : Bool), DataW.TrodAll enc P W' b sp hd f.resultTypes.toList (v.resultList f.resultTypes.size) (s.fn H (ds ++ gs)).results [])
    (hargs : ∀ sp : Nat → Bool, (∀ p ∈ before, sp p.block = true) → DataW.TrodAll enc P W' 0 sp true f.params.toList args.toList (s.fn H (ds ++ gs)).args pa)
    (hvars : ∀ sp : Nat → Bool, (∀ p ∈ before, sp p.block = true) → DataW.TrodVars enc P W' sp s.vars (s.fn H (ds ++ gs)).vars pv)
    (hps : before = pa ++ pv) (hb : Below W.heap.size W W')
    (hok : ∀ (j : Nat) (t : TypeId) (r : Value), f.resultTypes[j]? = some t → (v.resultList f.resultTypes.size)[j]? = some r → Value.okWide P W' .any 0 t r) :
    s.post enc P f apart fresh handsOn again W args v W' := by
  have hlt : ∀ p ∈ before, p.block < W.heap.size := fun p hp => hW.lt p hp
  have hold : ∀ p ∈ before, (fun b => decide (b < W.heap.size)) p.block = true := fun p hp => by simpa using hlt p hp
  refine ⟨ds, gs, before, [], pa, pv, hW, hres _ _ _, hargs _ hold, hvars _ hold, World.keptBut_mono (fun p hp => ⟨hp, ?_⟩) (hb.frame (· ∈ before)), fun _ => ?_⟩
  · rw [hps, List.mem_append] at hp
    exact Or.inr hp
  · obtain ⟨_, _, _, _, _, hz, hn⟩ := hW
    refine ⟨hok, _, _, ([] ++ pa) ++ pv, ⟨[] ++ pa, pv, trodAll_append (hargs _ (fun _ _ => rfl)) (hres _ _ _), hvars _ (fun _ _ => rfl), rfl, ?_, ?_⟩, ?_⟩
    · intro b off hp
      have hin : MemPlace.cell b off ∈ before := by rw [hps]; simpa using hp
      rw [hb.frozen (hlt _ hin)]
      exact hz b off hin
    · intro ha
      have := hn ha
      rw [hps] at this
      simpa using this
    · intro p hp _
      rw [hps]
      simpa using hp

theorem trodAll_stays (hl : laidOutB P = true) {W W' : World} (hb : Below W.heap.size W W') (sp : Nat → Bool) : ∀ (ts : List TypeId) (vs : List Value) (ds : List (DataW H)) (ps : List MemPlace),
    (∀ t ∈ ts, P.readableRec t = true ∧ t < P.types.size) → DataW.TrodAll enc P W 0 (fun _ => true) true ts vs ds ps → (∀ p ∈ ps, p.block < W.heap.size) → (∀ p ∈ ps, sp p.block = true) → DataW.TrodAll enc P W' 0 sp true ts vs ds ps
  | [], vs, ds, ps, _, h, _, _ => by
    obtain ⟨rfl, rfl, rfl⟩ := trodAll_nil h
    exact trodAll_mk0
  | t :: ts, vs, ds, ps, ht, h, hlt, hsp => by
    obtain ⟨v, vs', d, ds', p, q, rfl, rfl, rfl, h0, h1⟩ := trodAll_cons h
    obtain ⟨r1, r2⟩ := ht t (List.mem_cons_self ..)
    exact trodAll_cons_mk (WideElems.Trod_stays hl r1 r2 h0 (fun x hx => hb.same (hlt x (List.mem_append_left _ hx))) (fun x hx => hsp x (List.mem_append_left _ hx)))
      (trodAll_stays hl hb sp ts vs' ds' q (fun u hu => ht u (List.mem_cons_of_mem _ hu)) h1 (fun x hx => hlt x (List.mem_append_right _ hx)) (fun x hx => hsp x (List.mem_append_right _ hx)))

theorem post_law {f : Func} {s : ChangeSpec} {apart fresh handsOn again : Bool} {W W' : World} {args : Array Value} {ds : List (DataW H)} {before : List MemPlace} {t4 : TypeId}
    (hl : laidOutB P = true) (hts0 : (f.params.toList.all fun u => P.readableRec u && decide (u < P.types.size)) = true) (hvars : s.vars = [])
    (hW : DataW.Whole enc P f.params.toList s.vars apart W args.toList ds [] before)
    (hres : f.resultTypes = #[t4]) (ht4 : P.underlying t4 = some .bool) (hr : (s.fn H (ds ++ [])).results = [.lit (.bool true)]) (ha : (s.fn H (ds ++ [])).args = ds) (hv : (s.fn H (ds ++ [])).vars = []) (hb : Below W.heap.size W W') :
    s.post enc P f apart fresh handsOn again W args (.bool true) W' := by
  have hts : ∀ t ∈ f.params.toList, P.readableRec t = true ∧ t < P.types.size := fun t ht => by
    have := List.all_eq_true.1 hts0 t ht
    exact ⟨(Bool.and_eq_true_iff.1 this).1, of_decide_eq_true (Bool.and_eq_true_iff.1 this).2⟩
  have hlt := hW.lt
  have hW' := hW
  obtain ⟨p, q, hA, hV, rfl, _, _⟩ := hW'
  rw [hvars] at hV
  obtain ⟨_, rfl⟩ := trodVars_none hV
  refine post_of_below (pa := p) (pv := []) hW (fun b sp hd => ?_) (fun sp hsp => ?_) (fun sp hsp => ?_) rfl hb (ok_one hres rfl (okWide_bool_mk ht4 _))
  · rw [hres, hr]
    exact trodAll_cons_mk (shut_bool ht4 _) trodAll_mk0
  · rw [ha]
    exact trodAll_stays hl hb sp _ _ _ _ hts hA (fun x hx => hlt x (by simpa using hx)) (fun x hx => hsp x (by simpa using hx))
  · rw [hvars, hv]; rfl
end
end Go.Proofs.Ytkdjbddjblahkaa

/-
  A walk over the code of a Go function that keeps the frame as a short list of slots, and the world as "any world that has grown from this one": the rules by which the walks of this seat step through operations, tests, loops and calls.
  No conditions beyond those that each rule states.
-/
namespace Go.Proofs.Ytkdjbddjblahkaa
open Go.RowKit

/-! ### Frames -/
abbrev Env := List (Nat × Value)
def look : Env → Nat → Option Value
  | [], _ => none
  | (j, v) :: r, i => match Nat.beq j i with
    | true => some v
    | false => look r i
theorem look_same (d : Nat) (v : Value) (m : Env) : look ((d, v) :: m) d = some v := by
  simp [look]
theorem look_other {d i : Nat} (v : Value) (m : Env) (h : d ≠ i) : look ((d, v) :: m) i = look m i := by
  have : Nat.beq d i = false := by
    cases hb : Nat.beq d i
    · rfl
    · exact absurd (Nat.eq_of_beq_eq_true hb) h
  simp [look, this]

structure Agree (N : Fr) (m : Env) (a : Act) : Prop where
  defers : a.defers = N.ds
  size : a.tmps.size = N.n
  slot : ∀ i v, look m i = some v → a.tmps[i]? = some v

theorem Agree.put {N : Fr} {m : Env} {a : Act} (h : Agree N m a) {d : Nat} (hd : d < N.n) (v : Value) : Agree N ((d, v) :: m) (a.put (some d) v) := by
  refine ⟨h.defers, by simp [Act.put, h.size], fun i u hi => ?_⟩
  by_cases e : d = i
  · subst e
    rw [look_same] at hi
    cases hi
    simp [Act.put, h.size, hd]
  · rw [look_other _ _ e] at hi
    simp only [Act.put, Array.getElem?_setIfInBounds, e, if_false]
    exact h.slot i u hi
theorem Agree.put_none {N : Fr} {m : Env} {a : Act} (h : Agree N m a) (v : Value) : Agree N m (a.put none v) := h

/-- Every slot of the first list reads so in the second. -/
def Sub : Env → Env → Prop
  | [], _ => True
  | (i, v) :: r, m => look m i = some v ∧ Sub r m
theorem sub_look {m1 m : Env} (h : Sub m1 m) {i : Nat} {v : Value} (hi : look m1 i = some v) : look m i = some v := by
  induction m1 with
  | nil => simp [look] at hi
  | cons p r ih =>
    obtain ⟨j, u⟩ := p
    obtain ⟨h1, h2⟩ := h
    by_cases e : j = i
    · subst e; rw [look_same] at hi; cases hi; exact h1
    · rw [look_other _ _ e] at hi; exact ih h2 hi
theorem Agree.sub {N : Fr} {m m1 : Env} {a : Act} (h : Agree N m a) (hs : Sub m1 m) : Agree N m1 a :=
  ⟨h.defers, h.size, fun i v hi => h.slot i v (sub_look hs hi)⟩

def ev (m : Env) : Operand → Option Value
  | .tmp t => look m t
  | .const v => some v
  | .global g => some (.pointer (some ⟨g, 0, none⟩))
  | .func f => some (.func (.func f) #[] #[])
theorem Agree.ev {N : Fr} {m : Env} {a : Act} (h : Agree N m a) {x : Operand} {v : Value} (hx : ev m x = some v) : a.eval x = v := by
  cases x with
  | tmp t =>
    have := h.slot t v hx
    simp [Act.eval, this]
  | const u => simp only [ev.eq_2, Option.some.injEq] at hx; exact hx
  | global g => simp only [ev.eq_3, Option.some.injEq] at hx; exact hx
  | func f => simp only [ev.eq_4, Option.some.injEq] at hx; exact hx
def evs (m : Env) : List Operand → Option (List Value)
  | [] => some []
  | x :: r => match ev m x, evs m r with
    | some v, some vs => some (v :: vs)
    | _, _ => none
theorem Agree.evs {N : Fr} {m : Env} {a : Act} (h : Agree N m a) {xs : List Operand} {vs : List Value} (hx : evs m xs = some vs) : xs.map a.eval = vs := by
  induction xs generalizing vs with
  | nil => simp [Proofs.Ytkdjbddjblahkaa.evs] at hx; simp [hx]
  | cons x r ih =>
    simp only [Proofs.Ytkdjbddjblahkaa.evs] at hx
    split at hx
    · rename_i v vs' h1 h2
      cases hx
      simp [h.ev h1, ih h2]
    · cases hx

/-! ### Code -/
/-- What holds behind a piece of code, said of a short frame and of a world from which the world at hand has grown. -/
def lift (N : Fr) (Q : Exit → Env → World → Prop) : Exit → Act → World → Prop := fun e a w => ∃ m w1, Q e m w1 ∧ Agree N m a ∧ Ext w1 w
theorem lift_mono {N : Fr} {Q Q' : Exit → Env → World → Prop} (h : ∀ e m w, Q e m w → Q' e m w) {e : Exit} {a : Act} {w : World} (hl : lift N Q e a w) : lift N Q' e a w :=
  let ⟨m, w1, q, ag, ex⟩ := hl; ⟨m, w1, h _ _ _ q, ag, ex⟩

structure V (P : Program) (N : Fr) (c : Code) (Q : Exit → Env → World → Prop) (m : Env) (w : World) : Prop where
  out : ∀ a w', Agree N m a → Ext w w' → WpR N.ro P c (lift N Q) a w'

section
variable {P : Program} {N : Fr} {Q : Exit → Env → World → Prop} {m : Env} {w : World}

def thenV (K : Env → World → Prop) (Q : Exit → Env → World → Prop) : Exit → Env → World → Prop
  | .normal, m, w => K m w
  | e, m, w => Q e m w
theorem V_mono {c : Code} {Q' : Exit → Env → World → Prop} (hq : ∀ e m w, Q e m w → Q' e m w) (h : V P N c Q m w) : V P N c Q' m w :=
  ⟨fun a w' ha hw => wpR_mono (fun _ _ _ hl => lift_mono hq hl) (h.out a w' ha hw)⟩
theorem V_sub {c : Code} {m1 : Env} (hs : Sub m1 m) (h : V P N c Q m1 w) : V P N c Q m w := ⟨fun a w' ha hw => h.out a w' (ha.sub hs) hw⟩
theorem V_ext {c : Code} {w0 : World} (he : Ext w0 w) (h : V P N c Q m w0) : V P N c Q m w := ⟨fun a w' ha hw => h.out a w' ha (he.trans hw)⟩
theorem V_seq {x y : Code} (h : V P N x (thenV (fun m w => V P N y Q m w) Q) m w) : V P N (.seq x y) Q m w :=
  ⟨fun a w' ha hw => wpIn_seq (wpR_mono (fun e a1 w1 hl => by
    obtain ⟨m1, w2, q, ag, ex⟩ := hl
    cases e with
    | normal => exact q.out a1 w1 ag ex
    | _ => exact ⟨m1, w2, q, ag, ex⟩) (h.out a w' ha hw))⟩
theorem V_skip (h : Q .normal m w) : V P N .skip Q m w := ⟨fun _ _ ha hw => wpIn_skip ⟨m, w, h, ha, hw⟩⟩
theorem V_ret (h : Q .ret m w) : V P N .ret Q m w := ⟨fun _ _ ha hw => wpIn_ret ⟨m, w, h, ha, hw⟩⟩
theorem V_exit {id : Nat} (h : Q (.exit id) m w) : V P N (.exit id) Q m w := ⟨fun _ _ ha hw => wpIn_exit ⟨m, w, h, ha, hw⟩⟩
theorem V_cond {c : Operand} {x y : Code} {t : Bool} (hc : ev m c = some (.bool t)) (ht : t = true → V P N x Q m w) (hf : t = false → V P N y Q m w) : V P N (.cond c x y) Q m w :=
  ⟨fun a w' ha hw => wpIn_cond_split (ha.ev hc) (fun h => (ht h).out a w' ha hw) (fun h => (hf h).out a w' ha hw)⟩
theorem V_true {c : Operand} {x y : Code} (hc : ev m c = some (.bool true)) (h : V P N x Q m w) : V P N (.cond c x y) Q m w := V_cond hc (fun _ => h) (fun h => by cases h)
theorem V_false {c : Operand} {x y : Code} (hc : ev m c = some (.bool false)) (h : V P N y Q m w) : V P N (.cond c x y) Q m w := V_cond hc (fun h => by cases h) (fun _ => h)
theorem V_yes {c : Operand} {x y : Code} {t : Bool} (hc : ev m c = some (.bool t)) (e : t = true) (h : V P N x Q m w) : V P N (.cond c x y) Q m w := V_cond hc (fun _ => h) (fun h => by rw [e] at h; cases h)
theorem V_no {c : Operand} {x y : Code} {t : Bool} (hc : ev m c = some (.bool t)) (e : t = false) (h : V P N y Q m w) : V P N (.cond c x y) Q m w := V_cond hc (fun h => by rw [e] at h; cases h) (fun _ => h)
def blockV (id : Nat) (Q : Exit → Env → World → Prop) : Exit → Env → World → Prop
  | .exit id', m, w => if id' = id then Q .normal m w else Q (.exit id') m w
  | e, m, w => Q e m w
theorem V_block {id : Nat} {c : Code} (h : V P N c (blockV id Q) m w) : V P N (.block id c) Q m w :=
  ⟨fun a w' ha hw => wpIn_block (wpR_mono (fun e a1 w1 hl => by
    obtain ⟨m1, w2, q, ag, ex⟩ := hl
    cases e with
    | exit id' =>
      by_cases e : id' = id
      · subst e; simp only [blockV, if_true] at q; simp only [Exit.inBlock, if_true]; exact ⟨m1, w2, q, ag, ex⟩
      · simp only [blockV, e, if_false] at q; simp only [Exit.inBlock, e, if_false]; exact ⟨m1, w2, q, ag, ex⟩
    | _ => exact ⟨m1, w2, q, ag, ex⟩) (h.out a w' ha hw))⟩
theorem then_normal {K : Env → World → Prop} (h : K m w) : thenV K Q .normal m w := h
theorem then_ret {K : Env → World → Prop} (h : Q .ret m w) : thenV K Q .ret m w := h
theorem then_exit {K : Env → World → Prop} {id : Nat} (h : Q (.exit id) m w) : thenV K Q (.exit id) m w := h
theorem block_normal {id : Nat} (h : Q .normal m w) : blockV id Q .normal m w := h
theorem block_ret {id : Nat} (h : Q .ret m w) : blockV id Q .ret m w := h
theorem block_hit {id : Nat} (h : Q .normal m w) : blockV id Q (.exit id) m w := by simp only [blockV, if_true]; exact h
theorem block_miss {id id' : Nat} (hne : Nat.beq id' id = false) (h : Q (.exit id') m w) : blockV id Q (.exit id') m w := by
  have : id' ≠ id := fun e => by subst e; rw [Nat.beq_refl] at hne; cases hne
  simp only [blockV, this, if_false]; exact h

/-- Two pieces, the first of which may go several ways: behind it 's' is what is known. -/
theorem V_join {x y : Code} {σ : Type} (e : σ → Env) (I : σ → World → Prop)
    (h1 : V P N x (thenV (fun m' w' => ∃ s, Sub (e s) m' ∧ I s w') Q) m w) (h2 : ∀ s w', I s w' → V P N y Q (e s) w') : V P N (.seq x y) Q m w :=
  V_seq (V_mono (fun e m1 w1 hq => by
    cases e with
    | normal => obtain ⟨s, hs, hI⟩ := hq; exact V_sub hs (h2 s w1 hI)
    | _ => exact hq) h1)

/-- A loop: 's' is what changes from round to round: 'e s' the slots, 'I s' what holds of the world, 'μ s' a number that each round lowers. -/
theorem V_loop {c : Code} {σ : Type} (e : σ → Env) (I : σ → World → Prop) (μ : σ → Nat) (s0 : σ) (hs : Sub (e s0) m) (h0 : I s0 w)
    (round : ∀ s w, I s w → V P N c (thenV (fun m' w' => ∃ s', Sub (e s') m' ∧ I s' w' ∧ μ s' < μ s) Q) (e s) w) : V P N (.loop c) Q m w := by
  refine ⟨fun a w' ha hw => ?_⟩
  refine wpIn_loop_ghost (fun n a1 w1 => ∃ s w0, μ s = n ∧ Agree N (e s) a1 ∧ I s w0 ∧ Ext w0 w1) (μ s0) ⟨s0, w, rfl, ha.sub hs, h0, hw⟩ ?_
  rintro n a1 w1 ⟨s, w0, rfl, ag, hI, hE⟩
  refine wpR_mono (fun ex a2 w2 hl => ?_) ((round s w0 hI).out a1 w1 ag hE)
  obtain ⟨m2, w3, q, ag2, ex2⟩ := hl
  cases ex with
  | normal =>
    obtain ⟨s', hs', hI', hμ⟩ := q
    exact ⟨μ s', hμ, s', w3, rfl, ag2.sub hs', hI', ex2⟩
  | _ => exact ⟨m2, w3, q, ag2, ex2⟩
end

/-! ### A row of operations -/
section
variable {P : Program} {N : Fr} {ops : Array Oper} {dr : Bool} {K : Env → World → Prop} {m : Env} {w : World}

/-- The operations of a region, in the order of the text: 'dr': the region draws its order (then each operation must be quiet). -/
def OpsD (P : Program) (N : Fr) (ops : Array Oper) : Bool → (Env → World → Prop) → List Oper → Env → World → Prop
  | false, K, l, m, w => ∀ a w', Agree N m a → Ext w w' → wpList P ops (fun e a' w'' => e = .normal ∧ ∃ m' w1, K m' w1 ∧ Agree N m' a' ∧ Ext w1 w'') l a w'
  | true, K, l, m, w => ∀ a, Agree N m a → listY ops (yW P w) (fun a' => ∃ m', K m' w ∧ Agree N m' a') l a

structure Ops (P : Program) (N : Fr) (ops : Array Oper) (dr : Bool) (K : Env → World → Prop) (l : List Oper) (m : Env) (w : World) : Prop where
  out : OpsD P N ops dr K l m w

theorem V_region {Q : Exit → Env → World → Prop} {id : Nat} {l : List Oper} (h : Ops P N l.toArray false (fun m w => Q .normal m w) l m w)
    (hnd : NoDef N.ro l := by first | exact .inl rfl | exact .inr (by kernel_rfl)) : V P N (.region id l.toArray false) Q m w :=
  ⟨fun a w' ha hw => wpR_mono (fun e a1 w1 ⟨he, m1, w2, q, ag, ex⟩ => by subst he; exact ⟨m1, w2, q, ag, ex⟩) (wpR_region_lit hnd noLet (Q := fun e a' w'' => e = .normal ∧ ∃ m' w1, Q .normal m' w1 ∧ Agree N m' a' ∧ Ext w1 w'') (h.out a w' ha hw))⟩
theorem quietAt_mono {o : Oper} {a : Act} {C C' : World → Prop} {w : World} {v : Value} (h : ∀ w, C w → C' w) (hq : o.quietAt P a C w v) : o.quietAt P a C' w v := by
  unfold Oper.quietAt at *
  generalize (execOp a.eval o).run P w = r at *
  cases r with
  | ok nx w2 =>
    cases nx <;> simp only [Oper.quietUpon] at hq ⊢ <;> first | exact hq | exact ⟨hq.1, hq.2.mono fun e w3 h3 => ⟨h3.1, h _ h3.2⟩⟩
  | halt x w2 => simp only [Oper.quietUpon] at hq
theorem quiet_of_list {Q : Act → Prop} : ∀ (l : List Oper) (a : Act), listY ops (yW P w) Q l a → wpQuiet P ops (Ext w) Q l a
  | [], _, h => h
  | o :: r, a, h => by
    unfold listY at h
    unfold wpQuiet
    split
    · rename_i hw
      rw [if_pos hw] at h
      obtain ⟨v, h1, h2⟩ := h
      exact ⟨v, fun w' hw' => quietAt_mono (fun _ h3 => hw'.trans h3) (h1 w' hw'), quiet_of_list r _ h2⟩
    · rename_i hw
      rw [if_neg hw] at h
      exact quiet_of_list r _ h
theorem V_region_draw {Q : Exit → Env → World → Prop} {id : Nat} {l : List Oper} (hm : P.follows .mixedOrders = true) (hB : Region.lexB .any l.toArray = true)
    (h : Ops P N l.toArray true (fun m w => Q .normal m w) l m w) (hnd : NoDef N.ro l := by first | exact .inl rfl | exact .inr (by kernel_rfl)) : V P N (.region id l.toArray true) Q m w :=
  ⟨fun a w' ha hw => wpR_mono (Q := fun e a w => e = .normal ∧ lift N Q .normal a w) (fun e a w ⟨h1, h2⟩ => by rw [h1]; exact h2) (wpR_region_quiet (C := Ext w) (by simpa using hnd) noLet hm hB hw.draw (by
    have hh : listY l.toArray (yW P w) (fun a' => ∃ m', Q .normal m' w ∧ Agree N m' a') l a := h.out a ha
    have := quiet_of_list l a (listY_mono (Q' := fun a' => ∀ w', Ext w w' → lift N Q .normal a' w') (fun a' ⟨m', q, ag⟩ w'' hw'' => ⟨m', w, q, ag, hw''⟩) l a hh)
    simpa using this))⟩
/-- No operation of the kinds that make or change memory (but for what calls do). -/
def stillB : Op → Bool
  | .store .. | .alloc .. | .box .. | .makeSlice .. | .makeMap .. | .insert .. | .buildSlice .. | .mapUpdate .. | .entryStore .. => false
  | .call { callee := .builtin .append, .. } | .call { callee := .builtin .copy, .. } | .call { callee := .builtin .delete, .. } => false
  | _ => true
theorem V_region_still {Q : Exit → Env → World → Prop} {id : Nat} {l : List Oper} (_ : l.all (fun o => stillB o.op) = true) (hm : P.follows .mixedOrders = true) (hB : Region.lexB .any l.toArray = true)
    (h : Ops P N l.toArray true (fun m w => Q .normal m w) l m w) (hnd : NoDef N.ro l := by first | exact .inl rfl | exact .inr (by kernel_rfl)) : V P N (.region id l.toArray true) Q m w := V_region_draw hm hB h hnd

theorem Ops_end {l : List Oper} (hl : l = []) (h : K m w) : Ops P N ops dr K l m w := by
  subst hl
  cases dr with
  | false => exact ⟨fun a w' ha hw => ⟨rfl, m, w, h, ha, hw⟩⟩
  | true => exact ⟨fun a ha => ⟨m, h, ha⟩⟩

/-- In every frame that agrees and every world that has grown from w: the operation leaves v, and a world that has grown from w. -/
structure Yl (P : Program) (N : Fr) (m : Env) (w : World) (o : Oper) (v : Value) : Prop where
  out : ∀ a w', Agree N m a → Ext w w' → o.quietAt P a (Ext w') w' v

/-- The operation's guard asks for it. -/
structure On (N : Fr) (ops : Array Oper) (m : Env) (o : Oper) : Prop where
  out : ∀ a, Agree N m a → Region.wanted o (yielded ops a.tmps) = true
structure Off (N : Fr) (ops : Array Oper) (m : Env) (o : Oper) : Prop where
  out : ∀ a, Agree N m a → Region.wanted o (yielded ops a.tmps) = false
theorem on_none {dst : Option Tmp} {op : Op} {ty : TypeId} {pos : String} {after : Array Edge} : On N ops m ⟨dst, op, ty, pos, after, none⟩ := ⟨fun _ _ => rfl⟩
theorem on_guard {dst : Option Tmp} {op : Op} {ty : TypeId} {pos : String} {after : Array Edge} {j d : Nat} {b : Bool} (hj : (ops[j]?).bind (·.dst) = some d) (hl : look m d = some (.bool b)) :
    On N ops m ⟨dst, op, ty, pos, after, some (j, b)⟩ := ⟨fun a ha => by
  simp [Region.wanted, yielded, hj, ha.slot d _ hl]⟩
theorem off_guard {dst : Option Tmp} {op : Op} {ty : TypeId} {pos : String} {after : Array Edge} {j d : Nat} {b b' : Bool} (hj : (ops[j]?).bind (·.dst) = some d) (hl : look m d = some (.bool b'))
    (hne : (b' == b) = false) : Off N ops m ⟨dst, op, ty, pos, after, some (j, b)⟩ := ⟨fun a ha => by
  simp only [Region.wanted, yielded, hj, Option.bind_some, ha.slot d _ hl]
  cases b <;> cases b' <;> simp at hne ⊢⟩
theorem off_undef {dst : Option Tmp} {op : Op} {ty : TypeId} {pos : String} {after : Array Edge} {j d : Nat} {b : Bool} (hj : (ops[j]?).bind (·.dst) = some d) (hl : look m d = some (.tuple #[])) :
    Off N ops m ⟨dst, op, ty, pos, after, some (j, b)⟩ := ⟨fun a ha => by
  simp [Region.wanted, yielded, hj, ha.slot d _ hl]⟩

theorem Ops_q {dst : Nat} {op : Op} {ty : TypeId} {pos : String} {after : Array Edge} {g : Option (Nat × Bool)} {rest : List Oper} {v : Value}
    (hon : On N ops m ⟨some dst, op, ty, pos, after, g⟩) (hd : Nat.ble (dst + 1) N.n = true) (hq : Yl P N m w ⟨some dst, op, ty, pos, after, g⟩ v)
    (h : Ops P N ops dr K rest ((dst, v) :: m) w) : Ops P N ops dr K (⟨some dst, op, ty, pos, after, g⟩ :: rest) m w := by
  have hlt : dst < N.n := Nat.le_of_ble_eq_true hd
  cases dr with
  | false =>
    refine ⟨fun a w' ha hw => ?_⟩
    unfold wpList
    rw [if_pos (hon.out a ha)]
    exact .inl (Oper.wp_of_quiet (C := Ext w) (K := fun a1 => Agree N ((dst, v) :: m) a1) hw (fun a1 w1 hw1 ha1 => h.out a1 w1 ha1 hw1) ⟨v, fun w1 hw1 => quietAt_mono (fun _ h3 => hw1.trans h3) (hq.out a w1 ha hw1), ha.put hlt v⟩)
  | true =>
    refine ⟨fun a ha => ?_⟩
    unfold listY
    rw [if_pos (hon.out a ha)]
    exact ⟨v, fun w1 hw1 => hq.out a w1 ha hw1, h.out _ (ha.put hlt v)⟩
/-- A call whose result goes nowhere. -/
theorem Ops_q0 {op : Op} {ty : TypeId} {pos : String} {after : Array Edge} {g : Option (Nat × Bool)} {rest : List Oper} {v : Value}
    (hon : On N ops m ⟨none, op, ty, pos, after, g⟩) (hq : Yl P N m w ⟨none, op, ty, pos, after, g⟩ v)
    (h : Ops P N ops dr K rest m w) : Ops P N ops dr K (⟨none, op, ty, pos, after, g⟩ :: rest) m w := by
  cases dr with
  | false =>
    refine ⟨fun a w' ha hw => ?_⟩
    unfold wpList
    rw [if_pos (hon.out a ha)]
    exact .inl (Oper.wp_of_quiet (C := Ext w) (K := fun a1 => Agree N m a1) hw (fun a1 w1 hw1 ha1 => h.out a1 w1 ha1 hw1) ⟨v, fun w1 hw1 => quietAt_mono (fun _ h3 => hw1.trans h3) (hq.out a w1 ha hw1), ha.put_none v⟩)
  | true =>
    refine ⟨fun a ha => ?_⟩
    unfold listY
    rw [if_pos (hon.out a ha)]
    exact ⟨v, fun w1 hw1 => hq.out a w1 ha hw1, h.out _ (ha.put_none v)⟩
theorem Ops_off {dst : Nat} {op : Op} {ty : TypeId} {pos : String} {after : Array Edge} {g : Option (Nat × Bool)} {rest : List Oper}
    (hoff : Off N ops m ⟨some dst, op, ty, pos, after, g⟩) (hd : Nat.ble (dst + 1) N.n = true)
    (h : Ops P N ops dr K rest ((dst, .tuple #[]) :: m) w) : Ops P N ops dr K (⟨some dst, op, ty, pos, after, g⟩ :: rest) m w := by
  have hlt : dst < N.n := Nat.le_of_ble_eq_true hd
  cases dr with
  | false =>
    refine ⟨fun a w' ha hw => ?_⟩
    unfold wpList
    rw [if_neg (by rw [hoff.out a ha]; exact Bool.false_ne_true)]
    exact h.out _ _ (ha.put hlt _) hw
  | true =>
    refine ⟨fun a ha => ?_⟩
    unfold listY
    rw [if_neg (by rw [hoff.out a ha]; exact Bool.false_ne_true)]
    exact h.out _ (ha.put hlt _)
theorem Ops_sub {l : List Oper} {m1 : Env} (hs : Sub m1 m) (h : Ops P N ops dr K l m1 w) : Ops P N ops dr K l m w := by
  cases dr with
  | false => exact ⟨fun a w' ha hw => h.out a w' (ha.sub hs) hw⟩
  | true => exact ⟨fun a ha => h.out a (ha.sub hs)⟩
/-- Two ways on, by a guard that is not decided. -/
theorem Ops_split {dst : Option Tmp} {op : Op} {ty : TypeId} {pos : String} {after : Array Edge} {j d : Nat} {b bb : Bool} {rest : List Oper}
    (_hj : (ops[j]?).bind (·.dst) = some d) (hl : look m d = some (.bool b))
    (ht : b = true → Ops P N ops dr K (⟨dst, op, ty, pos, after, some (j, bb)⟩ :: rest) ((d, .bool true) :: m) w)
    (hf : b = false → Ops P N ops dr K (⟨dst, op, ty, pos, after, some (j, bb)⟩ :: rest) ((d, .bool false) :: m) w) :
    Ops P N ops dr K (⟨dst, op, ty, pos, after, some (j, bb)⟩ :: rest) m w := by
  have sub : ∀ m' : Env, (∀ i v, look m' i = some v → look m i = some v) → ∀ l, Ops P N ops dr K l m' w → Ops P N ops dr K l m w := by
    intro m' hm l h
    have ag : ∀ {a}, Agree N m a → Agree N m' a := fun ha => ⟨ha.defers, ha.size, fun i v hi => ha.slot i v (hm i v hi)⟩
    cases dr with
    | false => exact ⟨fun a w' ha hw => h.out a w' (ag ha) hw⟩
    | true => exact ⟨fun a ha => h.out a (ag ha)⟩
  have hm : ∀ i v, look ((d, .bool b) :: m) i = some v → look m i = some v := by
    intro i v hi
    by_cases e : d = i
    · subst e; rw [look_same] at hi; rw [hl, ← hi]
    · rwa [look_other _ _ e] at hi
  cases b with
  | true => exact sub _ hm _ (ht rfl)
  | false => exact sub _ hm _ (hf rfl)
/-- A guard's value, put plainly. -/
theorem Ops_know {dst : Option Tmp} {op : Op} {ty : TypeId} {pos : String} {after : Array Edge} {j d : Nat} {b b' bb : Bool} {rest : List Oper}
    (hj : (ops[j]?).bind (·.dst) = some d) (hl : look m d = some (.bool b)) (e : b = b')
    (h : Ops P N ops dr K (⟨dst, op, ty, pos, after, some (j, bb)⟩ :: rest) ((d, .bool b') :: m) w) :
    Ops P N ops dr K (⟨dst, op, ty, pos, after, some (j, bb)⟩ :: rest) m w := by
  subst e
  refine Ops_split hj hl (fun e => ?_) (fun e => ?_) <;> subst e <;> exact h
omit ops dr K m w in
/-- An operation behind which only the normal way on is foreseen. -/
theorem wp_normal {o : Oper} {a : Act} {w : World} {K1 K2 : Act → World → Prop} {A : Act → World → Prop} {Q2 : Exit → Act → World → Prop} (h : ∀ a w, K1 a w → K2 a w)
    (hh : o.wp P a w K1 (fun e a w => e = .normal ∧ A a w)) : o.wp P a w K2 Q2 := by
  unfold Oper.wp at *
  generalize (execOp a.eval o).run P w = r at *
  cases r with
  | ok n w' =>
    cases n <;> simp only [Oper.upon] at hh ⊢ <;>
      first
        | exact h _ _ hh
        | exact Calls.mono hh (fun e w'' he => by
            cases e with
            | returned v => exact h _ _ he
            | panicked c => exact absurd he.1 (by simp)
            | outgrown => obtain ⟨_, _, he, _⟩ := he; cases he)
        | exact Rows.mono hh (fun _ _ he => h _ _ he)
  | halt x w' => cases x <;> simp only [Oper.upon] at hh ⊢ <;> first | exact absurd hh.1 (by simp) | exact hh
/-- A row of operations in two parts, the world being the same between them. -/
theorem Ops_cut (n : Nat) (M : Env) {l : List Oper} (h1 : Ops P N ops dr (fun m' w' => Sub M m' ∧ w' = w) (l.take n) m w) (h2 : Ops P N ops dr K (l.drop n) M w) :
    Ops P N ops dr K l m w := by
  have key : ∀ (l1 l2 : List Oper) (m0 : Env), Ops P N ops dr (fun m' w' => Sub M m' ∧ w' = w) l1 m0 w → Ops P N ops dr K l2 M w → Ops P N ops dr K (l1 ++ l2) m0 w := by
    intro l1 l2 m0 h1 h2
    cases dr with
    | false =>
      refine ⟨fun a w' ha hw => ?_⟩
      have h := h1.out a w' ha hw
      clear h1 ha hw
      induction l1 generalizing a w' with
      | nil =>
        obtain ⟨_, m', w1, ⟨hs, he⟩, ag, ex⟩ := h
        subst he
        exact h2.out a w' (ag.sub hs) ex
      | cons o r ih =>
        rw [List.cons_append]
        unfold wpList at h ⊢
        split
        · rename_i hwn
          rw [if_pos hwn] at h
          rcases h with h | h
          · exact .inl (wp_normal (fun a1 w1 hh => ih a1 w1 hh) h)
          · obtain ⟨_, _, _, he, _⟩ := h; cases he
        · rename_i hwn
          rw [if_neg hwn] at h
          exact ih _ _ h
    | true =>
      refine ⟨fun a ha => ?_⟩
      have h := h1.out a ha
      clear h1 ha
      induction l1 generalizing a with
      | nil =>
        obtain ⟨m', ⟨hs, he⟩, ag⟩ := h
        exact h2.out a (ag.sub hs)
      | cons o r ih =>
        rw [List.cons_append]
        unfold listY at h ⊢
        split
        · rename_i hwn
          rw [if_pos hwn] at h
          obtain ⟨v, h3, h4⟩ := h
          exact ⟨v, h3, ih _ h4⟩
        · rename_i hwn
          rw [if_neg hwn] at h
          exact ih _ h
  have := key _ _ _ h1 h2
  rwa [List.take_append_drop] at this
end
end Go.Proofs.Ytkdjbddjblahkaa

/-
  The rules for single operations: what a move, an arithmetic operation, a load, a call .. leaves in its slot.
  No conditions beyond those that each rule states.
-/
namespace Go.Proofs.Ytkdjbddjblahkaa
open Go.RowKit

class TInt (P : Program) (t : TypeId) (k : outParam IntKind) : Prop where h : P.underlying t = some (.int k)
class TOne (P : Program) (t : TypeId) : Prop where h : ∀ w, (isAgg t).run P w = .ok false w
class TAgg (P : Program) (t : TypeId) (n : outParam Nat) : Prop where
  agg : ∀ w, (isAgg t).run P w = .ok true w
  size : (P.info? t).map (·.size) = some n
class TZero (P : Program) (t : TypeId) (z : outParam Value) (cs : outParam (List Value)) : Prop where
  h : (P.info? t).bind (·.zero) = some z
  cells : z.cells = cs.toArray
class TSize (P : Program) (t : TypeId) (n b : outParam Nat) : Prop where h : (P.info? t).map (fun i => (i.size, i.bytes)) = some (n, b)
class TField (P : Program) (s : TypeId) (f : Nat) (ft : outParam TypeId) (off : outParam Nat) : Prop where
  h : ∀ a w, (Instr.fieldAt s (.pointer (some a)) f).run P w = .ok (.pointer (some (a.add off))) w
class TPart1 (P : Program) (s : TypeId) (f : Nat) (off : outParam Nat) : Prop where
  h : ∀ cs w, (Instr.field s (.agg cs) f).run P w = ((match cs[off]? with | some v => pure v | none => stuck "part: no such cell") : Sem Value).run P w
class TPartN (P : Program) (s : TypeId) (f : Nat) (off n : outParam Nat) : Prop where
  h : ∀ cs w, (Instr.field s (.agg cs) f).run P w = .ok (.agg (cs.extract off (off + n))) w
/-- One row of cells laid over another from a place on. -/
def over : Nat → List Value → List Value → List Value
  | _, _, [] => []
  | 0, [], z :: zs => z :: zs
  | 0, v :: vc, _ :: zs => v :: over 0 vc zs
  | n + 1, vc, z :: zs => z :: over n vc zs
theorem over_nil : ∀ (n : Nat) (zs : List Value), over n [] zs = zs
  | 0, [] => rfl
  | _ + 1, [] => rfl
  | 0, _ :: _ => rfl
  | n + 1, z :: zs => by simp only [over, over_nil n zs]
theorem over_cons : ∀ (n : Nat) (v : Value) (vc zs : List Value), over n (v :: vc) zs = over (n + 1) vc (zs.set n v)
  | 0, _, _, [] => rfl
  | _ + 1, _, _, [] => rfl
  | 0, v, vc, z :: zs => rfl
  | n + 1, v, vc, z :: zs => by
    show z :: over n (v :: vc) zs = z :: over (n + 1) vc (zs.set n v)
    rw [over_cons n v vc zs]
/-- The cells of a value; a row laid into another; a struct built of its parts: looked up piece by piece. -/
class TCells (v : Value) (l : outParam (List Value)) : Prop where h : v.cells = l.toArray
instance (l : List Value) : TCells (.agg l.toArray) l := ⟨rfl⟩
instance (k : IntKind) (n : Int) : TCells (.int k n) [.int k n] := ⟨rfl⟩
instance (b : Bool) : TCells (.bool b) [.bool b] := ⟨rfl⟩
instance (b : ByteArray) : TCells (.string b) [.string b] := ⟨rfl⟩
instance (a : Option Addr) : TCells (.pointer a) [.pointer a] := ⟨rfl⟩
instance (a : Option Addr) (n c : Nat) : TCells (.slice a n c) [.slice a n c] := ⟨rfl⟩
instance (a : Option Nat) : TCells (.map a) [.map a] := ⟨rfl⟩
class TSplice (o : Nat) (vs cs : List Value) (out : outParam (List Value)) : Prop where
  h : over o vs cs = out
  len : o + vs.length ≤ cs.length
instance (cs : List Value) : TSplice 0 [] cs cs := ⟨over_nil 0 cs, by simp⟩
instance (v c : Value) (vs cs out : List Value) [x : TSplice 0 vs cs out] : TSplice 0 (v :: vs) (c :: cs) (v :: out) := ⟨by simp only [over, x.h], by have := x.len; simp; omega⟩
instance (n : Nat) (c : Value) (vs cs out : List Value) [x : TSplice n vs cs out] : TSplice (n + 1) vs (c :: cs) (c :: out) := ⟨by simp only [over, x.h], by have := x.len; simp; omega⟩
class TNext (i : Nat) (j : outParam Nat) : Prop where h : i + 1 = j
class TLen (l : List Value) (n : outParam Nat) : Prop where h : l.length = n
instance : TLen [] 0 := ⟨rfl⟩
instance (v : Value) (l : List Value) (n : Nat) [x : TLen l n] : TLen (v :: l) (n + 1) := ⟨by simp [x.h]⟩
instance (priority := low) (vs cs : List Value) (n : Nat) [x : TLen vs n] [y : TLen cs n] : TSplice 0 vs cs vs := ⟨by
  have : ∀ (xs1 bs : List Value), xs1.length = bs.length → over 0 xs1 bs = xs1 := by
    intro xs1
    induction xs1 with
    | nil => intro bs hb; cases bs <;> simp_all [over]
    | cons a r ih =>
      intro bs hb
      cases bs with
      | nil => simp at hb
      | cons b s => simp only [over]; rw [ih s (by simpa using hb)]
  exact this vs cs (x.h.trans y.h.symm), by rw [x.h, y.h]; simp⟩
/-- Each is one cell. -/
class OneAll (l : List Value) : Prop where h : l.all (fun u => u.oneCell') = true
class TAt (l : List (Nat × Nat)) (i : Nat) (p : outParam (Nat × Nat)) : Prop where h : l[i]? = some p
instance (p : Nat × Nat) (l : List (Nat × Nat)) : TAt (p :: l) 0 p := ⟨rfl⟩
instance (p q : Nat × Nat) (l : List (Nat × Nat)) (i : Nat) [x : TAt l i q] : TAt (p :: l) (i + 1) q := ⟨by simp [x.h]⟩
def fillL (places : List (Nat × Nat)) : List Value → List (Nat × Value) → Option (List Value)
  | zs, [] => some zs
  | zs, (i, v) :: r => match places[i]? with
    | none => none
    | some (off, size) => match Nat.beq v.cells.size size && Nat.ble (off + size) zs.length with
      | true => fillL places (over off v.cells.toList zs) r
      | false => none
class TFill (places : List (Nat × Nat)) (zs : List Value) (vs : List (Nat × Value)) (out : outParam (List Value)) : Prop where h : fillL places zs vs = some out
instance (pl : List (Nat × Nat)) (zs : List Value) : TFill pl zs [] zs := ⟨rfl⟩
instance (pl : List (Nat × Nat)) (zs zs' out vc : List Value) (i off size : Nat) (v : Value) (r : List (Nat × Value)) [x : TAt pl i (off, size)] [y : TCells v vc] [l : TLen vc size] [s : TSplice off vc zs zs'] [f : TFill pl zs' r out] :
    TFill pl zs ((i, v) :: r) out := ⟨by
  have e1 : v.cells.size = size := by rw [y.h]; simp [l.h]
  have e2 := s.len
  rw [l.h] at e2
  have e3 : (Nat.beq v.cells.size size && Nat.ble (off + size) zs.length) = true := by
    rw [e1, Nat.beq_refl, Nat.ble_eq_true_of_le e2]; rfl
  have e4 : over off v.cells.toList zs = zs' := by rw [y.h]; exact s.h
  simp only [fillL, x.h, e3, e4]
  exact f.h⟩
theorem fold_over (off : Nat) : ∀ (vc : List Value) (j : Nat) (zs : List Value), (vc.zipIdx j).foldl (fun (cs : Array Value) (p : Value × Nat) => cs.setIfInBounds (off + p.2) p.1) zs.toArray = (over (off + j) vc zs).toArray
  | [], j, zs => by simp [over_nil]
  | v :: vc, j, zs => by
    rw [List.zipIdx_cons, List.foldl_cons, over_cons]
    have := fold_over off vc (j + 1) (zs.set (off + j) v)
    rw [← Nat.add_assoc] at this
    rw [← this]
    simp
theorem fill_of {places : List (Nat × Nat)} : ∀ {vs : List (Nat × Value)} {zs cs : List Value}, fillL places zs vs = some cs → Instr.fill (places.toArray[·]?) zs.toArray vs = some cs.toArray
  | [], zs, cs, h => by simp only [fillL, Option.some.injEq] at h; simp [Instr.fill, h]
  | (i, v) :: r, zs, cs, h => by
    simp only [fillL] at h
    unfold Instr.fill
    cases hp : places[i]? with
    | none => simp [hp] at h
    | some q =>
      obtain ⟨off, size⟩ := q
      simp only [hp] at h
      split at h
      · rename_i hc
        simp only [Bool.and_eq_true] at hc
        have h1 := Nat.eq_of_beq_eq_true hc.1
        have h2 := Nat.le_of_ble_eq_true hc.2
        have e : v.cells.zipIdx.foldl (fun cs (x : Value × Nat) => match x with | (c, j) => cs.setIfInBounds (off + j) c) zs.toArray = (over off v.cells.toList zs).toArray := by
          have := fold_over off v.cells.toList 0 zs
          rw [Nat.add_zero] at this
          rw [← this, ← Array.foldl_toList, Array.toList_zipIdx]
        have e2 : places.toArray[i]? = some (off, size) := by simpa using hp
        simp only [e2]
        rw [if_neg (by simp; omega), e]
        exact fill_of h
      · cases h
class TBuild (P : Program) (t : TypeId) (places : outParam (List (Nat × Nat))) (zs : outParam (List Value)) : Prop where
  h : ∀ parts, P.built t parts = Instr.fill (places.toArray[·]?) zs.toArray parts
class TEqv (P : Program) (t : TypeId) (x y : Value) (b : outParam Bool) : Prop where
  h : ∀ w, (Op.equal t x y).run P w = .ok b w
  g : P.eqGuardType P.depth t = false
class TSlice (P : Program) (t : TypeId) (e : outParam TypeId) : Prop where h : P.underlying t = some (.slice e)
class TArray (P : Program) (t : TypeId) (n : outParam Nat) (e : outParam TypeId) : Prop where h : P.underlying t = some (.array n e)
class TMap (P : Program) (t : TypeId) (k e : outParam TypeId) : Prop where h : P.underlying t = some (.map k e)
class TBool (P : Program) (t : TypeId) : Prop where h : P.underlying t = some .bool
class TPtr (P : Program) (t : TypeId) (e : outParam TypeId) : Prop where h : P.underlying t = some (.pointer e)
class TFun (P : Program) (f : FuncId) : Prop where h : ∀ args w, (callFunc f args).run P w = .ok (.enter f args) w

section
variable {P : Program} {N : Fr} {m : Env} {w : World} {dst : Option Tmp} {ty : TypeId} {pos : String} {after : Array Edge} {g : Option (Nat × Bool)}

theorem Yl_of_run {o : Oper} {v : Value} (h : ∀ a w', Agree N m a → Ext w w' → (execOp a.eval o).run P w' = .ok (.value v) w') : Yl P N m w o v := ⟨fun a w' ha hw => by
  unfold Oper.quietAt; rw [h a w' ha hw]; exact ⟨rfl, rfl⟩⟩

theorem Yl_move {x : Operand} {v : Value} (hx : ev m x = some v) : Yl P N m w ⟨dst, .move x, ty, pos, after, g⟩ v :=
  Yl_of_run fun a w' ha _ => by simp [execOp, ha.ev hx]
theorem Yl_assign {x : Operand} {v : Value} (hx : ev m x = some v) : Yl P N m w ⟨dst, .assign x, ty, pos, after, g⟩ v :=
  Yl_of_run fun a w' ha _ => by simp [execOp, ha.ev hx]

/-- '&&' and '||' behind their guards. -/
def pickV : Bool → Value → Value → Value
  | true, a, _ => a
  | false, _, b => b
theorem Yl_pick {c x y : Operand} {t : Bool} {a b : Value} (hc : ev m c = some (.bool t)) (hx : ev m x = some a) (hy : ev m y = some b) : Yl P N m w ⟨dst, .pick c x y, ty, pos, after, g⟩ (pickV t a b) :=
  Yl_of_run fun ac w' ha _ => by cases t <;> simp [execOp, asBool, ha.ev hc, ha.ev hx, ha.ev hy, pickV]
theorem Yl_pick_true {c x y : Operand} {a : Value} (hc : ev m c = some (.bool true)) (hx : ev m x = some a) : Yl P N m w ⟨dst, .pick c x y, ty, pos, after, g⟩ a :=
  Yl_of_run fun ac w' ha _ => by simp [execOp, asBool, ha.ev hc, ha.ev hx]
theorem Yl_pick_false {c x y : Operand} {b : Value} (hc : ev m c = some (.bool false)) (hy : ev m y = some b) : Yl P N m w ⟨dst, .pick c x y, ty, pos, after, g⟩ b :=
  Yl_of_run fun ac w' ha _ => by simp [execOp, asBool, ha.ev hc, ha.ev hy]

/-- Operations on two integers that cannot panic; comparisons as 'decide'. -/
def cmpV : BinOp → Int → Int → Option Bool
  | .eql, a, b => some (decide (a = b))
  | .neq, a, b => some (!decide (a = b))
  | .lss, a, b => some (decide (a < b))
  | .leq, a, b => some (decide (a ≤ b))
  | .gtr, a, b => some (decide (b < a))
  | .geq, a, b => some (decide (b ≤ a))
  | _, _, _ => none
theorem Yl_cmp {op : BinOp} {t t' : TypeId} {x y : Operand} {k : IntKind} {a b : Int} {c : Bool} (hx : ev m x = some (.int k a)) (hy : ev m y = some (.int k b)) (hc : cmpV op a b = some c) :
    Yl P N m w ⟨dst, .binOp op t x y t', ty, pos, after, g⟩ (.bool c) :=
  Yl_of_run fun ac w' ha _ => by
    cases op <;> simp only [cmpV, Option.some.injEq, reduceCtorEq] at hc <;> subst hc <;> simp [execOp, ha.ev hx, ha.ev hy, binOp, eqGuard, Op.intCmp] <;> rfl
def arithV : BinOp → Int → Int → Option Int
  | .add, a, b => some (a + b)
  | .sub, a, b => some (a - b)
  | .mul, a, b => some (a * b)
  | _, _, _ => none
theorem Yl_arith {op : BinOp} {t t' : TypeId} {x y : Operand} {k : IntKind} {a b c : Int} (hx : ev m x = some (.int k a)) (hy : ev m y = some (.int k b)) (hc : arithV op a b = some c) :
    Yl P N m w ⟨dst, .binOp op t x y t', ty, pos, after, g⟩ (.int k (k.wrap c)) :=
  Yl_of_run fun ac w' ha _ => by
    cases op <;> simp only [arithV, Option.some.injEq, reduceCtorEq] at hc <;> subst hc <;> simp [execOp, ha.ev hx, ha.ev hy, binOp, eqGuard, Op.intArith]
/-- The numbers that a kind holds. -/
def InK : IntKind → Int → Prop
  | .i8, n => -128 ≤ n ∧ n ≤ 127
  | .i16, n => -32768 ≤ n ∧ n ≤ 32767
  | .i32, n => -2147483648 ≤ n ∧ n ≤ 2147483647
  | .i64, n => -9223372036854775808 ≤ n ∧ n ≤ 9223372036854775807
  | .u8, n => 0 ≤ n ∧ n ≤ 255
  | .u16, n => 0 ≤ n ∧ n ≤ 65535
  | .u32, n => 0 ≤ n ∧ n ≤ 4294967295
  | .u64, n => 0 ≤ n ∧ n ≤ 18446744073709551615
theorem wrap_in {k : IntKind} {n : Int} (h : InK k n) : k.wrap n = n := by
  cases k <;> simp only [InK] at h <;> simp [IntKind.wrap, IntKind.bits, IntKind.signed] <;> omega
theorem Yl_arith_in {op : BinOp} {t t' : TypeId} {x y : Operand} {k : IntKind} {a b c : Int} (hx : ev m x = some (.int k a)) (hy : ev m y = some (.int k b)) (hc : arithV op a b = some c) (hk : InK k c) :
    Yl P N m w ⟨dst, .binOp op t x y t', ty, pos, after, g⟩ (.int k c) := by
  have := Yl_arith (P := P) (N := N) (w := w) (dst := dst) (ty := ty) (pos := pos) (after := after) (g := g) (t := t) (t' := t') hx hy hc
  rwa [wrap_in hk] at this
def bitsV : BinOp → Bool
  | .and | .or | .xor | .andNot => true
  | _ => false
theorem Yl_bits {op : BinOp} {t t' : TypeId} {x y : Operand} {k : IntKind} {a b : Int} (hop : bitsV op = true) (hx : ev m x = some (.int k a)) (hy : ev m y = some (.int k b)) :
    Yl P N m w ⟨dst, .binOp op t x y t', ty, pos, after, g⟩ (.int k (bits op k a b)) :=
  Yl_of_run fun ac w' ha _ => by
    cases op <;> simp only [bitsV, Bool.false_eq_true] at hop <;> simp [execOp, ha.ev hx, ha.ev hy, binOp, eqGuard, intBits_and, intBits_or, intBits_xor, intBits_andNot]
theorem Yl_quo {t t' : TypeId} {x y : Operand} {k : IntKind} {a b : Int} (hx : ev m x = some (.int k a)) (hy : ev m y = some (.int k b)) (hb : b ≠ 0) :
    Yl P N m w ⟨dst, .binOp .quo t x y t', ty, pos, after, g⟩ (.int k (k.wrap (a.tdiv b))) :=
  Yl_of_run fun ac w' ha _ => by simp [execOp, ha.ev hx, ha.ev hy, binOp, eqGuard, Op.intDiv, hb]
theorem Yl_quo_in {t t' : TypeId} {x y : Operand} {a b : Int} (hx : ev m x = some (.int .i64 a)) (hy : ev m y = some (.int .i64 b)) (ha0 : 0 ≤ a ∧ a ≤ 9223372036854775807) (hb : 1 ≤ b) :
    Yl P N m w ⟨dst, .binOp .quo t x y t', ty, pos, after, g⟩ (.int .i64 (a / b)) := by
  have := Yl_quo (P := P) (N := N) (w := w) (dst := dst) (ty := ty) (pos := pos) (after := after) (g := g) (t := t) (t' := t') hx hy (by omega)
  have hd : 0 ≤ a / b := Int.ediv_nonneg ha0.1 (by omega)
  have hl : a / b ≤ a := Int.ediv_le_self _ ha0.1
  rwa [Int.tdiv_eq_ediv_of_nonneg ha0.1, wrap_in (by simp only [InK]; omega)] at this
theorem Yl_rem {t t' : TypeId} {x y : Operand} {k : IntKind} {a b : Int} (hx : ev m x = some (.int k a)) (hy : ev m y = some (.int k b)) (hb : b ≠ 0) :
    Yl P N m w ⟨dst, .binOp .rem t x y t', ty, pos, after, g⟩ (.int k (a.tmod b)) :=
  Yl_of_run fun ac w' ha _ => by simp [execOp, ha.ev hx, ha.ev hy, binOp, eqGuard, Op.intDiv, hb]
theorem Yl_rem_in {t t' : TypeId} {x y : Operand} {k : IntKind} {a b : Int} (hx : ev m x = some (.int k a)) (hy : ev m y = some (.int k b)) (ha0 : 0 ≤ a) (hb : 1 ≤ b) :
    Yl P N m w ⟨dst, .binOp .rem t x y t', ty, pos, after, g⟩ (.int k (a % b)) := by
  have := Yl_rem (P := P) (N := N) (w := w) (dst := dst) (ty := ty) (pos := pos) (after := after) (g := g) (t := t) (t' := t') hx hy (by omega)
  rwa [Int.tmod_eq_emod_of_nonneg ha0] at this
theorem Yl_shl {t t' : TypeId} {x y : Operand} {k yk : IntKind} {a b : Int} (hx : ev m x = some (.int k a)) (hy : ev m y = some (.int yk b)) (hb : 0 ≤ b ∧ b ≤ k.bits) :
    Yl P N m w ⟨dst, .binOp .shl t x y t', ty, pos, after, g⟩ (.int k (k.wrap (a * 2 ^ b.toNat))) :=
  Yl_of_run fun ac w' ha _ => by
    have h1 : ¬ b < 0 := by omega
    have h2 : min b.toNat k.bits = b.toNat := by omega
    simp [execOp, ha.ev hx, ha.ev hy, binOp, eqGuard, Op.shift, h1, h2]
theorem Yl_shl_in {t t' : TypeId} {x y : Operand} {k yk : IntKind} {a b : Int} (hx : ev m x = some (.int k a)) (hy : ev m y = some (.int yk b)) (hb : 0 ≤ b ∧ b ≤ k.bits) (hk : InK k (a * 2 ^ b.toNat)) :
    Yl P N m w ⟨dst, .binOp .shl t x y t', ty, pos, after, g⟩ (.int k (a * 2 ^ b.toNat)) := by
  have := Yl_shl (P := P) (N := N) (w := w) (dst := dst) (ty := ty) (pos := pos) (after := after) (g := g) (t := t) (t' := t') hx hy hb
  rwa [wrap_in hk] at this
theorem Yl_shr {t t' : TypeId} {x y : Operand} {k yk : IntKind} {a b : Int} (hx : ev m x = some (.int k a)) (hy : ev m y = some (.int yk b)) (hb : 0 ≤ b ∧ b ≤ k.bits) :
    Yl P N m w ⟨dst, .binOp .shr t x y t', ty, pos, after, g⟩ (.int k (a / 2 ^ b.toNat)) :=
  Yl_of_run fun ac w' ha _ => by
    have h1 : ¬ b < 0 := by omega
    have h2 : min b.toNat k.bits = b.toNat := by omega
    have h3 : a.fdiv (2 ^ b.toNat) = a / 2 ^ b.toNat := Int.fdiv_eq_ediv_of_nonneg _ (Int.le_of_lt (Int.pow_pos (by omega)))
    simp [execOp, ha.ev hx, ha.ev hy, binOp, eqGuard, Op.shift, h1, h2, h3]
theorem Yl_shr1 {t t' : TypeId} {x y : Operand} {k yk : IntKind} {a : Int} (hx : ev m x = some (.int k a)) (hy : ev m y = some (.int yk 1)) :
    Yl P N m w ⟨dst, .binOp .shr t x y t', ty, pos, after, g⟩ (.int k (a / 2)) :=
  Yl_shr hx hy ⟨by omega, by cases k <;> simp [IntKind.bits]⟩
theorem eqb_run {t : TypeId} (hu : P.underlying t = some .bool) (a b : Bool) (w : World) : (Op.equal t (.bool a) (.bool b)).run P w = .ok (a == b) w := by
  have h : ∀ d : Nat, (Op.equalIn (d + 1) t (.bool a) (.bool b)).run P w = .ok (a == b) w := fun d => by simp [Op.equalIn, run_underlying hu]
  exact h 9999
theorem eqp_run {t e : TypeId} (hu : P.underlying t = some (.pointer e)) (p : Option Addr) (w : World) : (Op.equal t (.pointer p) (.pointer none)).run P w = .ok p.isNone w := by
  have h : ∀ d : Nat, (Op.equalIn (d + 1) t (.pointer p) (.pointer none)).run P w = .ok p.isNone w := fun d => by cases p <;> simp [Op.equalIn, run_underlying hu]
  exact h 9999
theorem Yl_eqb {t t' : TypeId} {x y : Operand} {a b : Bool} [hu : TBool P t] (hx : ev m x = some (.bool a)) (hy : ev m y = some (.bool b)) :
    Yl P N m w ⟨dst, .binOp .eql t x y t', ty, pos, after, g⟩ (.bool (a == b)) :=
  Yl_of_run fun ac w' ha _ => by
    simp [execOp, ha.ev hx, ha.ev hy, binOp, eqGuard, eqb_run hu.h]
theorem Yl_neb {t t' : TypeId} {x y : Operand} {a b : Bool} [hu : TBool P t] (hx : ev m x = some (.bool a)) (hy : ev m y = some (.bool b)) :
    Yl P N m w ⟨dst, .binOp .neq t x y t', ty, pos, after, g⟩ (.bool (!(a == b))) :=
  Yl_of_run fun ac w' ha _ => by
    simp [execOp, ha.ev hx, ha.ev hy, binOp, eqGuard, eqb_run hu.h]
/-- A pointer held against nil. -/
theorem Yl_eqnil {t t' e : TypeId} {x y : Operand} {p : Option Addr} [hu : TPtr P t e] (hx : ev m x = some (.pointer p)) (hy : ev m y = some (.pointer none)) :
    Yl P N m w ⟨dst, .binOp .eql t x y t', ty, pos, after, g⟩ (.bool p.isNone) :=
  Yl_of_run fun ac w' ha _ => by
    simp [execOp, ha.ev hx, ha.ev hy, binOp, eqGuard, eqp_run hu.h]
theorem Yl_nenil {t t' e : TypeId} {x y : Operand} {p : Option Addr} [hu : TPtr P t e] (hx : ev m x = some (.pointer p)) (hy : ev m y = some (.pointer none)) :
    Yl P N m w ⟨dst, .binOp .neq t x y t', ty, pos, after, g⟩ (.bool p.isSome) :=
  Yl_of_run fun ac w' ha _ => by
    simp [execOp, ha.ev hx, ha.ev hy, binOp, eqGuard, eqp_run hu.h]
theorem Yl_not {t : TypeId} {x : Operand} {b : Bool} (hx : ev m x = some (.bool b)) : Yl P N m w ⟨dst, .unOp .not t x, ty, pos, after, g⟩ (.bool (!b)) :=
  Yl_of_run fun ac w' ha _ => by simp [execOp, ha.ev hx, Op.unary]
theorem Yl_conv {s d s' : TypeId} {x : Operand} {k k0 k' : IntKind} {n : Int} [hd : TInt P d k'] [hs : TInt P s k0] (hx : ev m x = some (.int k n)) :
    Yl P N m w ⟨dst, .convert s d x, s', pos, after, g⟩ (.int k' (k'.wrap n)) :=
  Yl_of_run fun ac w' ha _ => by
    simp [execOp, ha.ev hx, convert, run_underlying hd.h, run_underlying hs.h, Conv.intToInt]
theorem Yl_conv_in {s d s' : TypeId} {x : Operand} {k k0 k' : IntKind} {n : Int} [hd : TInt P d k'] [hs : TInt P s k0] (hx : ev m x = some (.int k n)) (hk : InK k' n) :
    Yl P N m w ⟨dst, .convert s d x, s', pos, after, g⟩ (.int k' n) := by
  have := Yl_conv (P := P) (N := N) (w := w) (dst := dst) (s' := s') (pos := pos) (after := after) (g := g) (s := s) (d := d) hx
  rwa [wrap_in hk] at this
theorem Yl_nilCheck {x : Operand} {a : Addr} (hx : ev m x = some (.pointer (some a))) : Yl P N m w ⟨dst, .nilCheck x, ty, pos, after, g⟩ (.pointer (some a)) :=
  Yl_of_run fun ac w' ha _ => by simp [execOp, ha.ev hx]
theorem add_blk (b o n : Nat) : (⟨b, o, none⟩ : Addr).add n = ⟨b, o + n, none⟩ := by unfold Addr.add; split <;> simp_all
theorem Yl_fieldAddr {s ft : TypeId} {f off : Nat} {x : Operand} {a : Addr} [hf : TField P s f ft off] (hx : ev m x = some (.pointer (some a))) :
    Yl P N m w ⟨dst, .fieldAddr s x f, ty, pos, after, g⟩ (.pointer (some (a.add off))) :=
  Yl_of_run fun ac w' ha _ => by simp [execOp, ha.ev hx, hf.h]
/-- A field of a block that is known from its head on. -/
theorem Yl_fieldAddr0 {s ft : TypeId} {f off : Nat} {x : Operand} {b : Nat} [hf : TField P s f ft off] (hx : ev m x = some (.pointer (some ⟨b, 0, none⟩))) :
    Yl P N m w ⟨dst, .fieldAddr s x f, ty, pos, after, g⟩ (.pointer (some ⟨b, off, none⟩)) := by
  have := Yl_fieldAddr (P := P) (N := N) (w := w) (dst := dst) (ty := ty) (pos := pos) (after := after) (g := g) (s := s) (f := f) hx
  rwa [add_blk, Nat.zero_add] at this
theorem Yl_field1 {s : TypeId} {f off : Nat} {x : Operand} {cs : List Value} {v : Value} [hf : TPart1 P s f off] (hx : ev m x = some (.agg cs.toArray)) (hv : cs[off]? = some v) :
    Yl P N m w ⟨dst, .field s x f, ty, pos, after, g⟩ v :=
  Yl_of_run fun ac w' ha _ => by simp [execOp, ha.ev hx, hf.h, hv]
theorem Yl_fieldN {s : TypeId} {f off n : Nat} {x : Operand} {cs : List Value} [hf : TPartN P s f off n] (hx : ev m x = some (.agg cs.toArray)) :
    Yl P N m w ⟨dst, .field s x f, ty, pos, after, g⟩ (.agg ((cs.drop off).take n).toArray) :=
  Yl_of_run fun ac w' ha _ => by
    have e : cs.toArray.extract off (off + n) = ((cs.drop off).take n).toArray := by
      simp [List.extract_eq_take_drop]
    simp [execOp, ha.ev hx, hf.h, e]
def evp (m : Env) : List (Nat × Operand) → Option (List (Nat × Value))
  | [] => some []
  | (i, x) :: r => match ev m x, evp m r with
    | some v, some vs => some ((i, v) :: vs)
    | _, _ => none
theorem Agree.evp {a : Act} (h : Agree N m a) {xs : List (Nat × Operand)} {vs : List (Nat × Value)} (hx : evp m xs = some vs) : xs.map (fun p => (p.1, a.eval p.2)) = vs := by
  induction xs generalizing vs with
  | nil => simp [Proofs.Ytkdjbddjblahkaa.evp] at hx; simp [hx]
  | cons x r ih =>
    obtain ⟨i, x⟩ := x
    simp only [Proofs.Ytkdjbddjblahkaa.evp] at hx
    split at hx
    · rename_i v vs' h1 h2
      cases hx
      simp [h.ev h1, ih h2]
    · cases hx
theorem Yl_build {t : TypeId} {ps : Array (Nat × Operand)} {vs : List (Nat × Value)} {places : List (Nat × Nat)} {zs cs : List Value} [ht : TBuild P t places zs] (hp : evp m ps.toList = some vs) [hf : TFill places zs vs cs] :
    Yl P N m w ⟨dst, .build t ps, ty, pos, after, g⟩ (.agg cs.toArray) :=
  Yl_of_run fun ac w' ha _ => by
    have e1 : ps.map (fun p => (p.1, ac.eval p.2)) = vs.toArray := by rw [← ha.evp hp, ← Array.toList_map]
    have hb : P.built t vs = some cs.toArray := by rw [ht.h, fill_of hf.h]
    have := run_build (P := P) w' t vs.toArray cs.toArray hb
    simp only [execOp, e1]
    simp [this]
theorem Yl_eqS {t t' : TypeId} {x y : Operand} {a b : Array Value} {c : Bool} (hx : ev m x = some (.agg a)) (hy : ev m y = some (.agg b)) [hu : TEqv P t (.agg a) (.agg b) c] :
    Yl P N m w ⟨dst, .binOp .eql t x y t', ty, pos, after, g⟩ (.bool c) :=
  Yl_of_run fun ac w' ha _ => by
    simp [execOp, ha.ev hx, ha.ev hy, binOp, eqGuard, hu.h, hu.g]
theorem Yl_neS {t t' : TypeId} {x y : Operand} {a b : Array Value} {c : Bool} (hx : ev m x = some (.agg a)) (hy : ev m y = some (.agg b)) [hu : TEqv P t (.agg a) (.agg b) c] :
    Yl P N m w ⟨dst, .binOp .neq t x y t', ty, pos, after, g⟩ (.bool (!c)) :=
  Yl_of_run fun ac w' ha _ => by
    simp [execOp, ha.ev hx, ha.ev hy, binOp, eqGuard, hu.h, hu.g]
theorem Yl_extract {x : Operand} {i : Nat} {vs : List Value} {v : Value} (hx : ev m x = some (.tuple vs.toArray)) (hv : vs[i]? = some v) : Yl P N m w ⟨dst, .extract x i, ty, pos, after, g⟩ v :=
  Yl_of_run fun ac w' ha _ => by simp [execOp, ha.ev hx, Instr.extract, hv]
theorem Yl_len {t e : TypeId} {x : Operand} {A : Option Addr} {n c : Nat} [ht : TSlice P t e] (hx : ev m x = some (.slice A n c)) :
    Yl P N m w ⟨dst, .call { callee := .builtin .len, args := #[x], argTypes := #[t] }, ty, pos, after, g⟩ (.int .i64 n) :=
  Yl_of_run fun ac w' ha _ => by
    simp [execOp, resolve, invoke, builtin, ha.ev hx, Builtin.len_, run_underlying ht.h, goInt]
theorem Yl_min {t : Array TypeId} {x y : Operand} {k : IntKind} {a b : Int} (hx : ev m x = some (.int k a)) (hy : ev m y = some (.int k b)) :
    Yl P N m w ⟨dst, .call { callee := .builtin .min, args := #[x, y], argTypes := t }, ty, pos, after, g⟩ (.int k (min a b)) :=
  Yl_of_run fun ac w' ha _ => by
    have e : (if b < a then b else a) = min a b := by omega
    simp [execOp, resolve, invoke, builtin, ha.ev hx, ha.ev hy, Builtin.min_, Builtin.min2, e]
theorem Yl_max {t : Array TypeId} {x y : Operand} {k : IntKind} {a b : Int} (hx : ev m x = some (.int k a)) (hy : ev m y = some (.int k b)) :
    Yl P N m w ⟨dst, .call { callee := .builtin .max, args := #[x, y], argTypes := t }, ty, pos, after, g⟩ (.int k (max a b)) :=
  Yl_of_run fun ac w' ha _ => by
    have e : (if a < b then b else a) = max a b := by omega
    simp [execOp, resolve, invoke, builtin, ha.ev hx, ha.ev hy, Builtin.max_, Builtin.max2, e]
theorem Yl_indexS {t e : TypeId} {n0 b0 : Nat} {x i : Operand} {ad : Addr} {n c : Nat} {k : IntKind} {j : Nat} [ht : TSlice P t e] [hs : TSize P e n0 b0] (hx : ev m x = some (.slice (some ad) n c))
    (hi : ev m i = some (.int k (j : Int))) (hj : j < n) : Yl P N m w ⟨dst, .indexAddr t x i, ty, pos, after, g⟩ (.pointer (some (ad.add (j * n0)))) :=
  Yl_of_run fun ac w' ha _ => by
    obtain ⟨inf, h1, h2⟩ := Option.map_eq_some_iff.1 hs.h
    simp only [Prod.mk.injEq] at h2
    simp [execOp, ha.ev hx, ha.ev hi, Instr.indexAt, asIntOf, run_underlying ht.h, sizeOf, typeInfo, h1, h2.1, hj]
theorem Yl_indexA {t e : TypeId} {n n0 b0 : Nat} {x i : Operand} {ad : Addr} {k : IntKind} {j : Nat} [ht : TArray P t n e] [hs : TSize P e n0 b0] (hx : ev m x = some (.pointer (some ad)))
    (hi : ev m i = some (.int k (j : Int))) (hj : j < n) : Yl P N m w ⟨dst, .indexAddr t x i, ty, pos, after, g⟩ (.pointer (some (ad.add (j * n0)))) :=
  Yl_of_run fun ac w' ha _ => by
    obtain ⟨inf, h1, h2⟩ := Option.map_eq_some_iff.1 hs.h
    simp only [Prod.mk.injEq] at h2
    simp [execOp, ha.ev hx, ha.ev hi, Instr.indexAt, asIntOf, Instr.sureAddr, run_underlying ht.h, sizeOf, typeInfo, h1, h2.1, hj]
theorem map_evs {a : Act} (ha : Agree N m a) {xs : Array Operand} {vs : List Value} (h : evs m xs.toList = some vs) : xs.map a.eval = vs.toArray := by
  rw [← ha.evs h, ← Array.toList_map]
theorem Yl_makeFunc {fn : Fn} {first cap : Array Operand} {vs us : List Value} (h1 : evs m first.toList = some vs) (h2 : evs m cap.toList = some us) :
    Yl P N m w ⟨dst, .makeFunc fn first cap, ty, pos, after, g⟩ (.func fn vs.toArray us.toArray) :=
  Yl_of_run fun ac w' ha _ => by
    have e1 : first.map ac.eval = vs.toArray := map_evs ha h1
    have e2 : cap.map ac.eval = us.toArray := map_evs ha h2
    simp [execOp, Instr.makeFunc, e1, e2]

/-! ### Loads -/
/-- The cells from an address on. -/
def Cells (w : World) (a : Addr) (vs : List Value) : Prop := ∀ j v, vs[j]? = some v → w.cell? (a.add j) = some v
theorem Cells.ext {w' : World} {a : Addr} {vs : List Value} (h : Cells w a vs) (he : Ext w w') : Cells w' a vs := fun j v hj => he.cell (h j v hj)
theorem Yl_load {t : TypeId} {x : Operand} {a : Addr} {v : Value} [ht : TOne P t] (hx : ev m x = some (.pointer (some a))) (hc : w.cell? a = some v) : Yl P N m w ⟨dst, .load t x, ty, pos, after, g⟩ v :=
  Yl_of_run fun ac w' ha hw => by
    simp [execOp, ha.ev hx, Instr.loadAt, Instr.sureAddr, loadVar, ht.h, hw.cell hc]
theorem Yl_loadN {t : TypeId} {n : Nat} {x : Operand} {a : Addr} {vs : List Value} [ht : TAgg P t n] (hx : ev m x = some (.pointer (some a))) (hc : Cells w a vs) (hn : TLen vs n) :
    Yl P N m w ⟨dst, .load t x, ty, pos, after, g⟩ (.agg vs.toArray) :=
  Yl_of_run fun ac w' ha hw => by
    obtain ⟨inf, h1, h2⟩ := Option.map_eq_some_iff.1 ht.size
    have hl := run_loadCells_list (P := P) w' a vs (fun j v hj => (hc.ext hw) j v hj)
    rw [hn.h] at hl
    simp [execOp, ha.ev hx, Instr.loadAt, Instr.sureAddr, loadVar, ht.agg, sizeOf, typeInfo, h1, h2, hl]

/-! ### Calls -/
/-- What a function that only computes leaves: its value, and a world that has at most grown. -/
abbrev Ret (v : Value) (w : World) : Ending → World → Prop := fun e w' => e = .returned v ∧ Ext w w'
theorem Yl_call {f : FuncId} {xs : Array Operand} {ats : Array TypeId} {vs : List Value} {v : Value} [hf : TFun P f] (hx : evs m xs.toList = some vs)
    (hc : ∀ w', Ext w w' → Calls P f vs.toArray w' (Ret v w')) : Yl P N m w ⟨dst, .call { callee := .value (.func f), args := xs, argTypes := ats }, ty, pos, after, g⟩ v := ⟨fun a w' ha hw => by
  have e1 : xs.map a.eval = vs.toArray := map_evs ha hx
  have hr : (execOp a.eval ⟨dst, .call { callee := .value (.func f), args := xs, argTypes := ats }, ty, pos, after, g⟩).run P w' = .ok (.enter f vs.toArray) w' := by
    rw [execOp_call_go, e1]
    simpa using hf.h vs.toArray w'
  unfold Oper.quietAt
  rw [hr]
  exact ⟨rfl, (hc w' hw).mono fun e w'' ⟨he, hw''⟩ => ⟨he, hw''⟩⟩⟩
/-- A call of a function value. -/
theorem Yl_callv {f : FuncId} {t : Operand} {first cap : List Value} {xs : Array Operand} {ats : Array TypeId} {vs : List Value} {v : Value} [hf : TFun P f]
    (ht : ev m t = some (.func (.func f) first.toArray cap.toArray)) (hx : evs m xs.toList = some vs)
    (hc : ∀ w', Ext w w' → Calls P f (first ++ vs ++ cap).toArray w' (Ret v w')) : Yl P N m w ⟨dst, .call { callee := .value t, args := xs, argTypes := ats }, ty, pos, after, g⟩ v := ⟨fun a w' ha hw => by
  have e1 : xs.map a.eval = vs.toArray := map_evs ha hx
  have hr : (execOp a.eval ⟨dst, .call { callee := .value t, args := xs, argTypes := ats }, ty, pos, after, g⟩).run P w' = .ok (.enter f (first ++ vs ++ cap).toArray) w' := by
    have := hf.h (first ++ vs ++ cap).toArray w'
    simp only [execOp, resolve, e1, ha.ev ht, Deferred.ofValue, invoke]
    simpa [Array.append_assoc] using this
  unfold Oper.quietAt
  rw [hr]
  exact ⟨rfl, (hc w' hw).mono fun e w'' ⟨he, hw''⟩ => ⟨he, hw''⟩⟩⟩
end
end Go.Proofs.Ytkdjbddjblahkaa

/-
  Facts on the types and functions of this seat's translation, each closed and checked by the kernel: what the rules of the text V look up.
  No conditions. Written by a program of the prover's own.
-/
namespace Go.Proofs.Ytkdjbddjblahkaa
instance : TOne Try.prog 1 := ⟨fun _ => by kernel_rfl⟩
instance : TZero Try.prog 1 (.nilFunc) [.nilFunc] := ⟨by kernel_rfl, rfl⟩
instance : TSize Try.prog 1 1 8 := ⟨by kernel_rfl⟩
instance : TInt Try.prog 2 .i64 := ⟨by kernel_rfl⟩
instance : TOne Try.prog 2 := ⟨fun _ => by kernel_rfl⟩
instance : TZero Try.prog 2 (.int .i64 0) [.int .i64 0] := ⟨by kernel_rfl, rfl⟩
instance : TSize Try.prog 2 1 8 := ⟨by kernel_rfl⟩
instance : TInt Try.prog 3 .i64 := ⟨by kernel_rfl⟩
instance : TOne Try.prog 3 := ⟨fun _ => by kernel_rfl⟩
instance : TZero Try.prog 3 (.int .i64 0) [.int .i64 0] := ⟨by kernel_rfl, rfl⟩
instance : TSize Try.prog 3 1 8 := ⟨by kernel_rfl⟩
instance : TBool Try.prog 4 := ⟨by kernel_rfl⟩
instance : TOne Try.prog 4 := ⟨fun _ => by kernel_rfl⟩
instance : TZero Try.prog 4 (.bool false) [.bool false] := ⟨by kernel_rfl, rfl⟩
instance : TSize Try.prog 4 1 1 := ⟨by kernel_rfl⟩
instance : TInt Try.prog 5 .u8 := ⟨by kernel_rfl⟩
instance : TOne Try.prog 5 := ⟨fun _ => by kernel_rfl⟩
instance : TZero Try.prog 5 (.int .u8 0) [.int .u8 0] := ⟨by kernel_rfl, rfl⟩
instance : TSize Try.prog 5 1 1 := ⟨by kernel_rfl⟩
instance : TOne Try.prog 9 := ⟨fun _ => by kernel_rfl⟩
instance : TZero Try.prog 9 (.string ByteArray.empty) [.string ByteArray.empty] := ⟨by kernel_rfl, rfl⟩
instance : TSize Try.prog 9 1 16 := ⟨by kernel_rfl⟩
instance : TInt Try.prog 12 .u64 := ⟨by kernel_rfl⟩
instance : TOne Try.prog 12 := ⟨fun _ => by kernel_rfl⟩
instance : TZero Try.prog 12 (.int .u64 0) [.int .u64 0] := ⟨by kernel_rfl, rfl⟩
instance : TSize Try.prog 12 1 8 := ⟨by kernel_rfl⟩
instance : TAgg Try.prog 13 2 := ⟨fun _ => by kernel_rfl, by kernel_rfl⟩
instance : TZero Try.prog 13 (.agg #[.string ByteArray.empty, .int .u64 0]) [.string ByteArray.empty, .int .u64 0] := ⟨by kernel_rfl, rfl⟩
instance : TSize Try.prog 13 2 24 := ⟨by kernel_rfl⟩
instance : TField Try.prog 13 0 9 0 := ⟨fun _ _ => by kernel_rfl⟩
instance : TPart1 Try.prog 13 0 0 := ⟨fun _ _ => by kernel_rfl⟩
instance : TField Try.prog 13 1 12 1 := ⟨fun _ _ => by kernel_rfl⟩
instance : TPart1 Try.prog 13 1 1 := ⟨fun _ _ => by kernel_rfl⟩
instance : TBuild Try.prog 13 [(0, 1), (1, 1)] [.string ByteArray.empty, .int .u64 0] := ⟨fun _ => by kernel_rfl⟩
instance : TOne Try.prog 20 := ⟨fun _ => by kernel_rfl⟩
instance : TZero Try.prog 20 (.nilIface) [.nilIface] := ⟨by kernel_rfl, rfl⟩
instance : TSize Try.prog 20 1 16 := ⟨by kernel_rfl⟩
instance : TInt Try.prog 21 .i32 := ⟨by kernel_rfl⟩
instance : TOne Try.prog 21 := ⟨fun _ => by kernel_rfl⟩
instance : TZero Try.prog 21 (.int .i32 0) [.int .i32 0] := ⟨by kernel_rfl, rfl⟩
instance : TSize Try.prog 21 1 4 := ⟨by kernel_rfl⟩
instance : TOne Try.prog 22 := ⟨fun _ => by kernel_rfl⟩
instance : TZero Try.prog 22 (.slice none 0 0) [.slice none 0 0] := ⟨by kernel_rfl, rfl⟩
instance : TSize Try.prog 22 1 24 := ⟨by kernel_rfl⟩
instance : TSlice Try.prog 22 31 := ⟨by kernel_rfl⟩
instance : TInt Try.prog 23 .u32 := ⟨by kernel_rfl⟩
instance : TOne Try.prog 23 := ⟨fun _ => by kernel_rfl⟩
instance : TZero Try.prog 23 (.int .u32 0) [.int .u32 0] := ⟨by kernel_rfl, rfl⟩
instance : TSize Try.prog 23 1 4 := ⟨by kernel_rfl⟩
instance : TInt Try.prog 24 .u32 := ⟨by kernel_rfl⟩
instance : TOne Try.prog 24 := ⟨fun _ => by kernel_rfl⟩
instance : TZero Try.prog 24 (.int .u32 0) [.int .u32 0] := ⟨by kernel_rfl, rfl⟩
instance : TSize Try.prog 24 1 4 := ⟨by kernel_rfl⟩
instance : TOne Try.prog 25 := ⟨fun _ => by kernel_rfl⟩
instance : TZero Try.prog 25 (.nilFunc) [.nilFunc] := ⟨by kernel_rfl, rfl⟩
instance : TSize Try.prog 25 1 8 := ⟨by kernel_rfl⟩
instance : TOne Try.prog 26 := ⟨fun _ => by kernel_rfl⟩
instance : TZero Try.prog 26 (.nilFunc) [.nilFunc] := ⟨by kernel_rfl, rfl⟩
instance : TSize Try.prog 26 1 8 := ⟨by kernel_rfl⟩
instance : TAgg Try.prog 27 2 := ⟨fun _ => by kernel_rfl, by kernel_rfl⟩
instance : TZero Try.prog 27 (.agg #[.int .u32 0, .int .i64 0]) [.int .u32 0, .int .i64 0] := ⟨by kernel_rfl, rfl⟩
instance : TSize Try.prog 27 2 16 := ⟨by kernel_rfl⟩
instance : TField Try.prog 27 0 24 0 := ⟨fun _ _ => by kernel_rfl⟩
instance : TPart1 Try.prog 27 0 0 := ⟨fun _ _ => by kernel_rfl⟩
instance : TField Try.prog 27 1 3 1 := ⟨fun _ _ => by kernel_rfl⟩
instance : TPart1 Try.prog 27 1 1 := ⟨fun _ _ => by kernel_rfl⟩
instance : TBuild Try.prog 27 [(0, 1), (1, 1)] [.int .u32 0, .int .i64 0] := ⟨fun _ => by kernel_rfl⟩
instance : TAgg Try.prog 28 2 := ⟨fun _ => by kernel_rfl, by kernel_rfl⟩
instance : TZero Try.prog 28 (.agg #[.int .u32 0, .int .i64 0]) [.int .u32 0, .int .i64 0] := ⟨by kernel_rfl, rfl⟩
instance : TSize Try.prog 28 2 16 := ⟨by kernel_rfl⟩
instance : TField Try.prog 28 0 24 0 := ⟨fun _ _ => by kernel_rfl⟩
instance : TPart1 Try.prog 28 0 0 := ⟨fun _ _ => by kernel_rfl⟩
instance : TField Try.prog 28 1 3 1 := ⟨fun _ _ => by kernel_rfl⟩
instance : TPart1 Try.prog 28 1 1 := ⟨fun _ _ => by kernel_rfl⟩
instance : TBuild Try.prog 28 [(0, 1), (1, 1)] [.int .u32 0, .int .i64 0] := ⟨fun _ => by kernel_rfl⟩
instance : TOne Try.prog 29 := ⟨fun _ => by kernel_rfl⟩
instance : TZero Try.prog 29 (.slice none 0 0) [.slice none 0 0] := ⟨by kernel_rfl, rfl⟩
instance : TSize Try.prog 29 1 24 := ⟨by kernel_rfl⟩
instance : TSlice Try.prog 29 48 := ⟨by kernel_rfl⟩
instance : TAgg Try.prog 30 7 := ⟨fun _ => by kernel_rfl, by kernel_rfl⟩
instance : TZero Try.prog 30 (.agg #[.int .u32 0, .int .i64 0, .int .i64 0, .int .i64 0, .int .i64 0, .int .i64 0, .slice none 0 0]) [.int .u32 0, .int .i64 0, .int .i64 0, .int .i64 0, .int .i64 0, .int .i64 0, .slice none 0 0] := ⟨by kernel_rfl, rfl⟩
instance : TSize Try.prog 30 7 72 := ⟨by kernel_rfl⟩
instance : TField Try.prog 30 0 28 0 := ⟨fun _ _ => by kernel_rfl⟩
instance : TPartN Try.prog 30 0 0 2 := ⟨fun _ _ => by kernel_rfl⟩
instance : TField Try.prog 30 1 3 2 := ⟨fun _ _ => by kernel_rfl⟩
instance : TPart1 Try.prog 30 1 2 := ⟨fun _ _ => by kernel_rfl⟩
instance : TField Try.prog 30 2 3 3 := ⟨fun _ _ => by kernel_rfl⟩
instance : TPart1 Try.prog 30 2 3 := ⟨fun _ _ => by kernel_rfl⟩
instance : TField Try.prog 30 3 3 4 := ⟨fun _ _ => by kernel_rfl⟩
instance : TPart1 Try.prog 30 3 4 := ⟨fun _ _ => by kernel_rfl⟩
instance : TField Try.prog 30 4 3 5 := ⟨fun _ _ => by kernel_rfl⟩
instance : TPart1 Try.prog 30 4 5 := ⟨fun _ _ => by kernel_rfl⟩
instance : TField Try.prog 30 5 29 6 := ⟨fun _ _ => by kernel_rfl⟩
instance : TPart1 Try.prog 30 5 6 := ⟨fun _ _ => by kernel_rfl⟩
instance : TBuild Try.prog 30 [(0, 2), (2, 1), (3, 1), (4, 1), (5, 1), (6, 1)] [.int .u32 0, .int .i64 0, .int .i64 0, .int .i64 0, .int .i64 0, .int .i64 0, .slice none 0 0] := ⟨fun _ => by kernel_rfl⟩
instance : TAgg Try.prog 31 7 := ⟨fun _ => by kernel_rfl, by kernel_rfl⟩
instance : TZero Try.prog 31 (.agg #[.int .u32 0, .int .i64 0, .int .i64 0, .int .i64 0, .int .i64 0, .int .i64 0, .slice none 0 0]) [.int .u32 0, .int .i64 0, .int .i64 0, .int .i64 0, .int .i64 0, .int .i64 0, .slice none 0 0] := ⟨by kernel_rfl, rfl⟩
instance : TSize Try.prog 31 7 72 := ⟨by kernel_rfl⟩
instance : TField Try.prog 31 0 28 0 := ⟨fun _ _ => by kernel_rfl⟩
instance : TPartN Try.prog 31 0 0 2 := ⟨fun _ _ => by kernel_rfl⟩
instance : TField Try.prog 31 1 3 2 := ⟨fun _ _ => by kernel_rfl⟩
instance : TPart1 Try.prog 31 1 2 := ⟨fun _ _ => by kernel_rfl⟩
instance : TField Try.prog 31 2 3 3 := ⟨fun _ _ => by kernel_rfl⟩
instance : TPart1 Try.prog 31 2 3 := ⟨fun _ _ => by kernel_rfl⟩
instance : TField Try.prog 31 3 3 4 := ⟨fun _ _ => by kernel_rfl⟩
instance : TPart1 Try.prog 31 3 4 := ⟨fun _ _ => by kernel_rfl⟩
instance : TField Try.prog 31 4 3 5 := ⟨fun _ _ => by kernel_rfl⟩
instance : TPart1 Try.prog 31 4 5 := ⟨fun _ _ => by kernel_rfl⟩
instance : TField Try.prog 31 5 29 6 := ⟨fun _ _ => by kernel_rfl⟩
instance : TPart1 Try.prog 31 5 6 := ⟨fun _ _ => by kernel_rfl⟩
instance : TBuild Try.prog 31 [(0, 2), (2, 1), (3, 1), (4, 1), (5, 1), (6, 1)] [.int .u32 0, .int .i64 0, .int .i64 0, .int .i64 0, .int .i64 0, .int .i64 0, .slice none 0 0] := ⟨fun _ => by kernel_rfl⟩
instance : TOne Try.prog 33 := ⟨fun _ => by kernel_rfl⟩
instance : TZero Try.prog 33 (.nilFunc) [.nilFunc] := ⟨by kernel_rfl, rfl⟩
instance : TSize Try.prog 33 1 8 := ⟨by kernel_rfl⟩
instance : TOne Try.prog 35 := ⟨fun _ => by kernel_rfl⟩
instance : TZero Try.prog 35 (.nilFunc) [.nilFunc] := ⟨by kernel_rfl, rfl⟩
instance : TSize Try.prog 35 1 8 := ⟨by kernel_rfl⟩
instance : TOne Try.prog 36 := ⟨fun _ => by kernel_rfl⟩
instance : TZero Try.prog 36 (.nilFunc) [.nilFunc] := ⟨by kernel_rfl, rfl⟩
instance : TSize Try.prog 36 1 8 := ⟨by kernel_rfl⟩
instance : TOne Try.prog 37 := ⟨fun _ => by kernel_rfl⟩
instance : TZero Try.prog 37 (.nilFunc) [.nilFunc] := ⟨by kernel_rfl, rfl⟩
instance : TSize Try.prog 37 1 8 := ⟨by kernel_rfl⟩
instance : TInt Try.prog 38 .i64 := ⟨by kernel_rfl⟩
instance : TOne Try.prog 38 := ⟨fun _ => by kernel_rfl⟩
instance : TZero Try.prog 38 (.int .i64 0) [.int .i64 0] := ⟨by kernel_rfl, rfl⟩
instance : TSize Try.prog 38 1 8 := ⟨by kernel_rfl⟩
instance : TOne Try.prog 40 := ⟨fun _ => by kernel_rfl⟩
instance : TZero Try.prog 40 (.nilFunc) [.nilFunc] := ⟨by kernel_rfl, rfl⟩
instance : TSize Try.prog 40 1 8 := ⟨by kernel_rfl⟩
instance : TOne Try.prog 41 := ⟨fun _ => by kernel_rfl⟩
instance : TZero Try.prog 41 (.nilFunc) [.nilFunc] := ⟨by kernel_rfl, rfl⟩
instance : TSize Try.prog 41 1 8 := ⟨by kernel_rfl⟩
instance : TOne Try.prog 42 := ⟨fun _ => by kernel_rfl⟩
instance : TZero Try.prog 42 (.nilFunc) [.nilFunc] := ⟨by kernel_rfl, rfl⟩
instance : TSize Try.prog 42 1 8 := ⟨by kernel_rfl⟩
instance : TOne Try.prog 43 := ⟨fun _ => by kernel_rfl⟩
instance : TZero Try.prog 43 (.nilFunc) [.nilFunc] := ⟨by kernel_rfl, rfl⟩
instance : TSize Try.prog 43 1 8 := ⟨by kernel_rfl⟩
instance : TOne Try.prog 44 := ⟨fun _ => by kernel_rfl⟩
instance : TZero Try.prog 44 (.nilFunc) [.nilFunc] := ⟨by kernel_rfl, rfl⟩
instance : TSize Try.prog 44 1 8 := ⟨by kernel_rfl⟩
instance : TOne Try.prog 45 := ⟨fun _ => by kernel_rfl⟩
instance : TZero Try.prog 45 (.slice none 0 0) [.slice none 0 0] := ⟨by kernel_rfl, rfl⟩
instance : TSize Try.prog 45 1 24 := ⟨by kernel_rfl⟩
instance : TSlice Try.prog 45 3 := ⟨by kernel_rfl⟩
instance : TOne Try.prog 46 := ⟨fun _ => by kernel_rfl⟩
instance : TZero Try.prog 46 (.nilFunc) [.nilFunc] := ⟨by kernel_rfl, rfl⟩
instance : TSize Try.prog 46 1 8 := ⟨by kernel_rfl⟩
instance : TAgg Try.prog 47 6 := ⟨fun _ => by kernel_rfl, by kernel_rfl⟩
instance : TZero Try.prog 47 (.agg #[.int .u32 0, .int .i64 0, .int .u32 0, .int .i64 0, .int .u32 0, .int .i64 0]) [.int .u32 0, .int .i64 0, .int .u32 0, .int .i64 0, .int .u32 0, .int .i64 0] := ⟨by kernel_rfl, rfl⟩
instance : TSize Try.prog 47 6 48 := ⟨by kernel_rfl⟩
instance : TField Try.prog 47 0 24 0 := ⟨fun _ _ => by kernel_rfl⟩
instance : TPart1 Try.prog 47 0 0 := ⟨fun _ _ => by kernel_rfl⟩
instance : TField Try.prog 47 1 3 1 := ⟨fun _ _ => by kernel_rfl⟩
instance : TPart1 Try.prog 47 1 1 := ⟨fun _ _ => by kernel_rfl⟩
instance : TField Try.prog 47 2 23 2 := ⟨fun _ _ => by kernel_rfl⟩
instance : TPart1 Try.prog 47 2 2 := ⟨fun _ _ => by kernel_rfl⟩
instance : TField Try.prog 47 3 3 3 := ⟨fun _ _ => by kernel_rfl⟩
instance : TPart1 Try.prog 47 3 3 := ⟨fun _ _ => by kernel_rfl⟩
instance : TField Try.prog 47 4 28 4 := ⟨fun _ _ => by kernel_rfl⟩
instance : TPartN Try.prog 47 4 4 2 := ⟨fun _ _ => by kernel_rfl⟩
instance : TBuild Try.prog 47 [(0, 1), (1, 1), (2, 1), (3, 1), (4, 2)] [.int .u32 0, .int .i64 0, .int .u32 0, .int .i64 0, .int .u32 0, .int .i64 0] := ⟨fun _ => by kernel_rfl⟩
instance : TAgg Try.prog 48 6 := ⟨fun _ => by kernel_rfl, by kernel_rfl⟩
instance : TZero Try.prog 48 (.agg #[.int .u32 0, .int .i64 0, .int .u32 0, .int .i64 0, .int .u32 0, .int .i64 0]) [.int .u32 0, .int .i64 0, .int .u32 0, .int .i64 0, .int .u32 0, .int .i64 0] := ⟨by kernel_rfl, rfl⟩
instance : TSize Try.prog 48 6 48 := ⟨by kernel_rfl⟩
instance : TField Try.prog 48 0 24 0 := ⟨fun _ _ => by kernel_rfl⟩
instance : TPart1 Try.prog 48 0 0 := ⟨fun _ _ => by kernel_rfl⟩
instance : TField Try.prog 48 1 3 1 := ⟨fun _ _ => by kernel_rfl⟩
instance : TPart1 Try.prog 48 1 1 := ⟨fun _ _ => by kernel_rfl⟩
instance : TField Try.prog 48 2 23 2 := ⟨fun _ _ => by kernel_rfl⟩
instance : TPart1 Try.prog 48 2 2 := ⟨fun _ _ => by kernel_rfl⟩
instance : TField Try.prog 48 3 3 3 := ⟨fun _ _ => by kernel_rfl⟩
instance : TPart1 Try.prog 48 3 3 := ⟨fun _ _ => by kernel_rfl⟩
instance : TField Try.prog 48 4 28 4 := ⟨fun _ _ => by kernel_rfl⟩
instance : TPartN Try.prog 48 4 4 2 := ⟨fun _ _ => by kernel_rfl⟩
instance : TBuild Try.prog 48 [(0, 1), (1, 1), (2, 1), (3, 1), (4, 2)] [.int .u32 0, .int .i64 0, .int .u32 0, .int .i64 0, .int .u32 0, .int .i64 0] := ⟨fun _ => by kernel_rfl⟩
instance : TOne Try.prog 49 := ⟨fun _ => by kernel_rfl⟩
instance : TZero Try.prog 49 (.nilFunc) [.nilFunc] := ⟨by kernel_rfl, rfl⟩
instance : TSize Try.prog 49 1 8 := ⟨by kernel_rfl⟩
instance : TOne Try.prog 50 := ⟨fun _ => by kernel_rfl⟩
instance : TZero Try.prog 50 (.nilFunc) [.nilFunc] := ⟨by kernel_rfl, rfl⟩
instance : TSize Try.prog 50 1 8 := ⟨by kernel_rfl⟩
instance : TOne Try.prog 51 := ⟨fun _ => by kernel_rfl⟩
instance : TZero Try.prog 51 (.nilFunc) [.nilFunc] := ⟨by kernel_rfl, rfl⟩
instance : TSize Try.prog 51 1 8 := ⟨by kernel_rfl⟩
instance : TOne Try.prog 52 := ⟨fun _ => by kernel_rfl⟩
instance : TZero Try.prog 52 (.nilFunc) [.nilFunc] := ⟨by kernel_rfl, rfl⟩
instance : TSize Try.prog 52 1 8 := ⟨by kernel_rfl⟩
instance : TOne Try.prog 53 := ⟨fun _ => by kernel_rfl⟩
instance : TZero Try.prog 53 (.nilFunc) [.nilFunc] := ⟨by kernel_rfl, rfl⟩
instance : TSize Try.prog 53 1 8 := ⟨by kernel_rfl⟩
instance : TOne Try.prog 54 := ⟨fun _ => by kernel_rfl⟩
instance : TZero Try.prog 54 (.nilFunc) [.nilFunc] := ⟨by kernel_rfl, rfl⟩
instance : TSize Try.prog 54 1 8 := ⟨by kernel_rfl⟩
instance : TOne Try.prog 55 := ⟨fun _ => by kernel_rfl⟩
instance : TZero Try.prog 55 (.nilFunc) [.nilFunc] := ⟨by kernel_rfl, rfl⟩
instance : TSize Try.prog 55 1 8 := ⟨by kernel_rfl⟩
instance : TOne Try.prog 56 := ⟨fun _ => by kernel_rfl⟩
instance : TZero Try.prog 56 (.pointer none) [.pointer none] := ⟨by kernel_rfl, rfl⟩
instance : TSize Try.prog 56 1 8 := ⟨by kernel_rfl⟩
instance : TPtr Try.prog 56 99 := ⟨by kernel_rfl⟩
instance : TOne Try.prog 57 := ⟨fun _ => by kernel_rfl⟩
instance : TZero Try.prog 57 (.nilFunc) [.nilFunc] := ⟨by kernel_rfl, rfl⟩
instance : TSize Try.prog 57 1 8 := ⟨by kernel_rfl⟩
instance : TOne Try.prog 58 := ⟨fun _ => by kernel_rfl⟩
instance : TZero Try.prog 58 (.nilFunc) [.nilFunc] := ⟨by kernel_rfl, rfl⟩
instance : TSize Try.prog 58 1 8 := ⟨by kernel_rfl⟩
instance : TOne Try.prog 59 := ⟨fun _ => by kernel_rfl⟩
instance : TZero Try.prog 59 (.nilFunc) [.nilFunc] := ⟨by kernel_rfl, rfl⟩
instance : TSize Try.prog 59 1 8 := ⟨by kernel_rfl⟩
instance : TOne Try.prog 60 := ⟨fun _ => by kernel_rfl⟩
instance : TZero Try.prog 60 (.nilFunc) [.nilFunc] := ⟨by kernel_rfl, rfl⟩
instance : TSize Try.prog 60 1 8 := ⟨by kernel_rfl⟩
instance : TOne Try.prog 61 := ⟨fun _ => by kernel_rfl⟩
instance : TZero Try.prog 61 (.pointer none) [.pointer none] := ⟨by kernel_rfl, rfl⟩
instance : TSize Try.prog 61 1 8 := ⟨by kernel_rfl⟩
instance : TPtr Try.prog 61 67 := ⟨by kernel_rfl⟩
instance : TOne Try.prog 62 := ⟨fun _ => by kernel_rfl⟩
instance : TZero Try.prog 62 (.nilFunc) [.nilFunc] := ⟨by kernel_rfl, rfl⟩
instance : TSize Try.prog 62 1 8 := ⟨by kernel_rfl⟩
instance : TOne Try.prog 63 := ⟨fun _ => by kernel_rfl⟩
instance : TZero Try.prog 63 (.map none) [.map none] := ⟨by kernel_rfl, rfl⟩
instance : TSize Try.prog 63 1 8 := ⟨by kernel_rfl⟩
instance : TMap Try.prog 63 3 124 := ⟨by kernel_rfl⟩
instance : TOne Try.prog 64 := ⟨fun _ => by kernel_rfl⟩
instance : TZero Try.prog 64 (.map none) [.map none] := ⟨by kernel_rfl, rfl⟩
instance : TSize Try.prog 64 1 8 := ⟨by kernel_rfl⟩
instance : TMap Try.prog 64 3 3 := ⟨by kernel_rfl⟩
instance : TOne Try.prog 65 := ⟨fun _ => by kernel_rfl⟩
instance : TZero Try.prog 65 (.map none) [.map none] := ⟨by kernel_rfl, rfl⟩
instance : TSize Try.prog 65 1 8 := ⟨by kernel_rfl⟩
instance : TMap Try.prog 65 3 106 := ⟨by kernel_rfl⟩
instance : TAgg Try.prog 66 5 := ⟨fun _ => by kernel_rfl, by kernel_rfl⟩
instance : TZero Try.prog 66 (.agg #[.slice none 0 0, .pointer none, .map none, .map none, .map none]) [.slice none 0 0, .pointer none, .map none, .map none, .map none] := ⟨by kernel_rfl, rfl⟩
instance : TSize Try.prog 66 5 56 := ⟨by kernel_rfl⟩
instance : TField Try.prog 66 0 22 0 := ⟨fun _ _ => by kernel_rfl⟩
instance : TPart1 Try.prog 66 0 0 := ⟨fun _ _ => by kernel_rfl⟩
instance : TField Try.prog 66 1 56 1 := ⟨fun _ _ => by kernel_rfl⟩
instance : TPart1 Try.prog 66 1 1 := ⟨fun _ _ => by kernel_rfl⟩
instance : TField Try.prog 66 2 63 2 := ⟨fun _ _ => by kernel_rfl⟩
instance : TPart1 Try.prog 66 2 2 := ⟨fun _ _ => by kernel_rfl⟩
instance : TField Try.prog 66 3 64 3 := ⟨fun _ _ => by kernel_rfl⟩
instance : TPart1 Try.prog 66 3 3 := ⟨fun _ _ => by kernel_rfl⟩
instance : TField Try.prog 66 4 65 4 := ⟨fun _ _ => by kernel_rfl⟩
instance : TPart1 Try.prog 66 4 4 := ⟨fun _ _ => by kernel_rfl⟩
instance : TBuild Try.prog 66 [(0, 1), (1, 1), (2, 1), (3, 1), (4, 1)] [.slice none 0 0, .pointer none, .map none, .map none, .map none] := ⟨fun _ => by kernel_rfl⟩
instance : TAgg Try.prog 67 5 := ⟨fun _ => by kernel_rfl, by kernel_rfl⟩
instance : TZero Try.prog 67 (.agg #[.slice none 0 0, .pointer none, .map none, .map none, .map none]) [.slice none 0 0, .pointer none, .map none, .map none, .map none] := ⟨by kernel_rfl, rfl⟩
instance : TSize Try.prog 67 5 56 := ⟨by kernel_rfl⟩
instance : TField Try.prog 67 0 22 0 := ⟨fun _ _ => by kernel_rfl⟩
instance : TPart1 Try.prog 67 0 0 := ⟨fun _ _ => by kernel_rfl⟩
instance : TField Try.prog 67 1 56 1 := ⟨fun _ _ => by kernel_rfl⟩
instance : TPart1 Try.prog 67 1 1 := ⟨fun _ _ => by kernel_rfl⟩
instance : TField Try.prog 67 2 63 2 := ⟨fun _ _ => by kernel_rfl⟩
instance : TPart1 Try.prog 67 2 2 := ⟨fun _ _ => by kernel_rfl⟩
instance : TField Try.prog 67 3 64 3 := ⟨fun _ _ => by kernel_rfl⟩
instance : TPart1 Try.prog 67 3 3 := ⟨fun _ _ => by kernel_rfl⟩
instance : TField Try.prog 67 4 65 4 := ⟨fun _ _ => by kernel_rfl⟩
instance : TPart1 Try.prog 67 4 4 := ⟨fun _ _ => by kernel_rfl⟩
instance : TBuild Try.prog 67 [(0, 1), (1, 1), (2, 1), (3, 1), (4, 1)] [.slice none 0 0, .pointer none, .map none, .map none, .map none] := ⟨fun _ => by kernel_rfl⟩
instance : TOne Try.prog 68 := ⟨fun _ => by kernel_rfl⟩
instance : TZero Try.prog 68 (.nilFunc) [.nilFunc] := ⟨by kernel_rfl, rfl⟩
instance : TSize Try.prog 68 1 8 := ⟨by kernel_rfl⟩
instance : TOne Try.prog 69 := ⟨fun _ => by kernel_rfl⟩
instance : TZero Try.prog 69 (.nilFunc) [.nilFunc] := ⟨by kernel_rfl, rfl⟩
instance : TSize Try.prog 69 1 8 := ⟨by kernel_rfl⟩
instance : TOne Try.prog 70 := ⟨fun _ => by kernel_rfl⟩
instance : TZero Try.prog 70 (.nilFunc) [.nilFunc] := ⟨by kernel_rfl, rfl⟩
instance : TSize Try.prog 70 1 8 := ⟨by kernel_rfl⟩
instance : TOne Try.prog 71 := ⟨fun _ => by kernel_rfl⟩
instance : TZero Try.prog 71 (.nilFunc) [.nilFunc] := ⟨by kernel_rfl, rfl⟩
instance : TSize Try.prog 71 1 8 := ⟨by kernel_rfl⟩
instance : TOne Try.prog 72 := ⟨fun _ => by kernel_rfl⟩
instance : TZero Try.prog 72 (.nilFunc) [.nilFunc] := ⟨by kernel_rfl, rfl⟩
instance : TSize Try.prog 72 1 8 := ⟨by kernel_rfl⟩
instance : TOne Try.prog 73 := ⟨fun _ => by kernel_rfl⟩
instance : TZero Try.prog 73 (.nilFunc) [.nilFunc] := ⟨by kernel_rfl, rfl⟩
instance : TSize Try.prog 73 1 8 := ⟨by kernel_rfl⟩
instance : TInt Try.prog 74 .u64 := ⟨by kernel_rfl⟩
instance : TOne Try.prog 74 := ⟨fun _ => by kernel_rfl⟩
instance : TZero Try.prog 74 (.int .u64 0) [.int .u64 0] := ⟨by kernel_rfl, rfl⟩
instance : TSize Try.prog 74 1 8 := ⟨by kernel_rfl⟩
instance : TAgg Try.prog 75 3 := ⟨fun _ => by kernel_rfl, by kernel_rfl⟩
instance : TZero Try.prog 75 (.agg #[.int .u32 0, .int .i64 0, .int .i64 0]) [.int .u32 0, .int .i64 0, .int .i64 0] := ⟨by kernel_rfl, rfl⟩
instance : TSize Try.prog 75 3 24 := ⟨by kernel_rfl⟩
instance : TField Try.prog 75 0 28 0 := ⟨fun _ _ => by kernel_rfl⟩
instance : TPartN Try.prog 75 0 0 2 := ⟨fun _ _ => by kernel_rfl⟩
instance : TField Try.prog 75 1 3 2 := ⟨fun _ _ => by kernel_rfl⟩
instance : TPart1 Try.prog 75 1 2 := ⟨fun _ _ => by kernel_rfl⟩
instance : TBuild Try.prog 75 [(0, 2), (2, 1)] [.int .u32 0, .int .i64 0, .int .i64 0] := ⟨fun _ => by kernel_rfl⟩
instance : TAgg Try.prog 76 3 := ⟨fun _ => by kernel_rfl, by kernel_rfl⟩
instance : TZero Try.prog 76 (.agg #[.int .u32 0, .int .i64 0, .int .i64 0]) [.int .u32 0, .int .i64 0, .int .i64 0] := ⟨by kernel_rfl, rfl⟩
instance : TSize Try.prog 76 3 24 := ⟨by kernel_rfl⟩
instance : TField Try.prog 76 0 28 0 := ⟨fun _ _ => by kernel_rfl⟩
instance : TPartN Try.prog 76 0 0 2 := ⟨fun _ _ => by kernel_rfl⟩
instance : TField Try.prog 76 1 3 2 := ⟨fun _ _ => by kernel_rfl⟩
instance : TPart1 Try.prog 76 1 2 := ⟨fun _ _ => by kernel_rfl⟩
instance : TBuild Try.prog 76 [(0, 2), (2, 1)] [.int .u32 0, .int .i64 0, .int .i64 0] := ⟨fun _ => by kernel_rfl⟩
instance : TOne Try.prog 78 := ⟨fun _ => by kernel_rfl⟩
instance : TZero Try.prog 78 (.nilFunc) [.nilFunc] := ⟨by kernel_rfl, rfl⟩
instance : TSize Try.prog 78 1 8 := ⟨by kernel_rfl⟩
instance : TOne Try.prog 79 := ⟨fun _ => by kernel_rfl⟩
instance : TZero Try.prog 79 (.nilFunc) [.nilFunc] := ⟨by kernel_rfl, rfl⟩
instance : TSize Try.prog 79 1 8 := ⟨by kernel_rfl⟩
instance : TOne Try.prog 81 := ⟨fun _ => by kernel_rfl⟩
instance : TZero Try.prog 81 (.nilFunc) [.nilFunc] := ⟨by kernel_rfl, rfl⟩
instance : TSize Try.prog 81 1 8 := ⟨by kernel_rfl⟩
instance : TOne Try.prog 82 := ⟨fun _ => by kernel_rfl⟩
instance : TZero Try.prog 82 (.nilFunc) [.nilFunc] := ⟨by kernel_rfl, rfl⟩
instance : TSize Try.prog 82 1 8 := ⟨by kernel_rfl⟩
instance : TOne Try.prog 83 := ⟨fun _ => by kernel_rfl⟩
instance : TZero Try.prog 83 (.nilFunc) [.nilFunc] := ⟨by kernel_rfl, rfl⟩
instance : TSize Try.prog 83 1 8 := ⟨by kernel_rfl⟩
instance : TOne Try.prog 84 := ⟨fun _ => by kernel_rfl⟩
instance : TZero Try.prog 84 (.map none) [.map none] := ⟨by kernel_rfl, rfl⟩
instance : TSize Try.prog 84 1 8 := ⟨by kernel_rfl⟩
instance : TMap Try.prog 84 86 4 := ⟨by kernel_rfl⟩
instance : TAgg Try.prog 85 3 := ⟨fun _ => by kernel_rfl, by kernel_rfl⟩
instance : TZero Try.prog 85 (.agg #[.int .u32 0, .int .i64 0, .int .i64 0]) [.int .u32 0, .int .i64 0, .int .i64 0] := ⟨by kernel_rfl, rfl⟩
instance : TSize Try.prog 85 3 24 := ⟨by kernel_rfl⟩
instance : TField Try.prog 85 0 28 0 := ⟨fun _ _ => by kernel_rfl⟩
instance : TPartN Try.prog 85 0 0 2 := ⟨fun _ _ => by kernel_rfl⟩
instance : TField Try.prog 85 1 3 2 := ⟨fun _ _ => by kernel_rfl⟩
instance : TPart1 Try.prog 85 1 2 := ⟨fun _ _ => by kernel_rfl⟩
instance : TBuild Try.prog 85 [(0, 2), (2, 1)] [.int .u32 0, .int .i64 0, .int .i64 0] := ⟨fun _ => by kernel_rfl⟩
instance : TAgg Try.prog 86 3 := ⟨fun _ => by kernel_rfl, by kernel_rfl⟩
instance : TZero Try.prog 86 (.agg #[.int .u32 0, .int .i64 0, .int .i64 0]) [.int .u32 0, .int .i64 0, .int .i64 0] := ⟨by kernel_rfl, rfl⟩
instance : TSize Try.prog 86 3 24 := ⟨by kernel_rfl⟩
instance : TField Try.prog 86 0 28 0 := ⟨fun _ _ => by kernel_rfl⟩
instance : TPartN Try.prog 86 0 0 2 := ⟨fun _ _ => by kernel_rfl⟩
instance : TField Try.prog 86 1 3 2 := ⟨fun _ _ => by kernel_rfl⟩
instance : TPart1 Try.prog 86 1 2 := ⟨fun _ _ => by kernel_rfl⟩
instance : TBuild Try.prog 86 [(0, 2), (2, 1)] [.int .u32 0, .int .i64 0, .int .i64 0] := ⟨fun _ => by kernel_rfl⟩
instance : TOne Try.prog 87 := ⟨fun _ => by kernel_rfl⟩
instance : TZero Try.prog 87 (.nilFunc) [.nilFunc] := ⟨by kernel_rfl, rfl⟩
instance : TSize Try.prog 87 1 8 := ⟨by kernel_rfl⟩
instance : TOne Try.prog 88 := ⟨fun _ => by kernel_rfl⟩
instance : TZero Try.prog 88 (.nilFunc) [.nilFunc] := ⟨by kernel_rfl, rfl⟩
instance : TSize Try.prog 88 1 8 := ⟨by kernel_rfl⟩
instance : TOne Try.prog 89 := ⟨fun _ => by kernel_rfl⟩
instance : TZero Try.prog 89 (.nilFunc) [.nilFunc] := ⟨by kernel_rfl, rfl⟩
instance : TSize Try.prog 89 1 8 := ⟨by kernel_rfl⟩
instance : TOne Try.prog 90 := ⟨fun _ => by kernel_rfl⟩
instance : TZero Try.prog 90 (.nilFunc) [.nilFunc] := ⟨by kernel_rfl, rfl⟩
instance : TSize Try.prog 90 1 8 := ⟨by kernel_rfl⟩
instance : TOne Try.prog 91 := ⟨fun _ => by kernel_rfl⟩
instance : TZero Try.prog 91 (.nilFunc) [.nilFunc] := ⟨by kernel_rfl, rfl⟩
instance : TSize Try.prog 91 1 8 := ⟨by kernel_rfl⟩
instance : TOne Try.prog 92 := ⟨fun _ => by kernel_rfl⟩
instance : TZero Try.prog 92 (.slice none 0 0) [.slice none 0 0] := ⟨by kernel_rfl, rfl⟩
instance : TSize Try.prog 92 1 24 := ⟨by kernel_rfl⟩
instance : TSlice Try.prog 92 76 := ⟨by kernel_rfl⟩
instance : TOne Try.prog 93 := ⟨fun _ => by kernel_rfl⟩
instance : TZero Try.prog 93 (.nilFunc) [.nilFunc] := ⟨by kernel_rfl, rfl⟩
instance : TSize Try.prog 93 1 8 := ⟨by kernel_rfl⟩
instance : TOne Try.prog 94 := ⟨fun _ => by kernel_rfl⟩
instance : TZero Try.prog 94 (.pointer none) [.pointer none] := ⟨by kernel_rfl, rfl⟩
instance : TSize Try.prog 94 1 8 := ⟨by kernel_rfl⟩
instance : TPtr Try.prog 94 97 := ⟨by kernel_rfl⟩
instance : TAgg Try.prog 95 2 := ⟨fun _ => by kernel_rfl, by kernel_rfl⟩
instance : TZero Try.prog 95 (.agg #[.pointer none, .pointer none]) [.pointer none, .pointer none] := ⟨by kernel_rfl, rfl⟩
instance : TSize Try.prog 95 2 16 := ⟨by kernel_rfl⟩
instance : TArray Try.prog 95 2 94 := ⟨by kernel_rfl⟩
instance : TAgg Try.prog 96 4 := ⟨fun _ => by kernel_rfl, by kernel_rfl⟩
instance : TZero Try.prog 96 (.agg #[.pointer none, .pointer none, .bool false, .int .i64 0]) [.pointer none, .pointer none, .bool false, .int .i64 0] := ⟨by kernel_rfl, rfl⟩
instance : TSize Try.prog 96 4 32 := ⟨by kernel_rfl⟩
instance : TField Try.prog 96 0 95 0 := ⟨fun _ _ => by kernel_rfl⟩
instance : TPartN Try.prog 96 0 0 2 := ⟨fun _ _ => by kernel_rfl⟩
instance : TField Try.prog 96 1 4 2 := ⟨fun _ _ => by kernel_rfl⟩
instance : TPart1 Try.prog 96 1 2 := ⟨fun _ _ => by kernel_rfl⟩
instance : TField Try.prog 96 2 3 3 := ⟨fun _ _ => by kernel_rfl⟩
instance : TPart1 Try.prog 96 2 3 := ⟨fun _ _ => by kernel_rfl⟩
instance : TBuild Try.prog 96 [(0, 2), (2, 1), (3, 1)] [.pointer none, .pointer none, .bool false, .int .i64 0] := ⟨fun _ => by kernel_rfl⟩
instance : TAgg Try.prog 97 4 := ⟨fun _ => by kernel_rfl, by kernel_rfl⟩
instance : TZero Try.prog 97 (.agg #[.pointer none, .pointer none, .bool false, .int .i64 0]) [.pointer none, .pointer none, .bool false, .int .i64 0] := ⟨by kernel_rfl, rfl⟩
instance : TSize Try.prog 97 4 32 := ⟨by kernel_rfl⟩
instance : TField Try.prog 97 0 95 0 := ⟨fun _ _ => by kernel_rfl⟩
instance : TPartN Try.prog 97 0 0 2 := ⟨fun _ _ => by kernel_rfl⟩
instance : TField Try.prog 97 1 4 2 := ⟨fun _ _ => by kernel_rfl⟩
instance : TPart1 Try.prog 97 1 2 := ⟨fun _ _ => by kernel_rfl⟩
instance : TField Try.prog 97 2 3 3 := ⟨fun _ _ => by kernel_rfl⟩
instance : TPart1 Try.prog 97 2 3 := ⟨fun _ _ => by kernel_rfl⟩
instance : TBuild Try.prog 97 [(0, 2), (2, 1), (3, 1)] [.pointer none, .pointer none, .bool false, .int .i64 0] := ⟨fun _ => by kernel_rfl⟩
instance : TAgg Try.prog 98 5 := ⟨fun _ => by kernel_rfl, by kernel_rfl⟩
instance : TZero Try.prog 98 (.agg #[.pointer none, .pointer none, .bool false, .int .i64 0, .int .i64 0]) [.pointer none, .pointer none, .bool false, .int .i64 0, .int .i64 0] := ⟨by kernel_rfl, rfl⟩
instance : TSize Try.prog 98 5 40 := ⟨by kernel_rfl⟩
instance : TField Try.prog 98 0 97 0 := ⟨fun _ _ => by kernel_rfl⟩
instance : TPartN Try.prog 98 0 0 4 := ⟨fun _ _ => by kernel_rfl⟩
instance : TField Try.prog 98 1 3 4 := ⟨fun _ _ => by kernel_rfl⟩
instance : TPart1 Try.prog 98 1 4 := ⟨fun _ _ => by kernel_rfl⟩
instance : TBuild Try.prog 98 [(0, 4), (4, 1)] [.pointer none, .pointer none, .bool false, .int .i64 0, .int .i64 0] := ⟨fun _ => by kernel_rfl⟩
instance : TAgg Try.prog 99 5 := ⟨fun _ => by kernel_rfl, by kernel_rfl⟩
instance : TZero Try.prog 99 (.agg #[.pointer none, .pointer none, .bool false, .int .i64 0, .int .i64 0]) [.pointer none, .pointer none, .bool false, .int .i64 0, .int .i64 0] := ⟨by kernel_rfl, rfl⟩
instance : TSize Try.prog 99 5 40 := ⟨by kernel_rfl⟩
instance : TField Try.prog 99 0 97 0 := ⟨fun _ _ => by kernel_rfl⟩
instance : TPartN Try.prog 99 0 0 4 := ⟨fun _ _ => by kernel_rfl⟩
instance : TField Try.prog 99 1 3 4 := ⟨fun _ _ => by kernel_rfl⟩
instance : TPart1 Try.prog 99 1 4 := ⟨fun _ _ => by kernel_rfl⟩
instance : TBuild Try.prog 99 [(0, 4), (4, 1)] [.pointer none, .pointer none, .bool false, .int .i64 0, .int .i64 0] := ⟨fun _ => by kernel_rfl⟩
instance : TOne Try.prog 100 := ⟨fun _ => by kernel_rfl⟩
instance : TZero Try.prog 100 (.nilFunc) [.nilFunc] := ⟨by kernel_rfl, rfl⟩
instance : TSize Try.prog 100 1 8 := ⟨by kernel_rfl⟩
instance : TOne Try.prog 101 := ⟨fun _ => by kernel_rfl⟩
instance : TZero Try.prog 101 (.nilFunc) [.nilFunc] := ⟨by kernel_rfl, rfl⟩
instance : TSize Try.prog 101 1 8 := ⟨by kernel_rfl⟩
instance : TOne Try.prog 102 := ⟨fun _ => by kernel_rfl⟩
instance : TZero Try.prog 102 (.nilFunc) [.nilFunc] := ⟨by kernel_rfl, rfl⟩
instance : TSize Try.prog 102 1 8 := ⟨by kernel_rfl⟩
instance : TOne Try.prog 103 := ⟨fun _ => by kernel_rfl⟩
instance : TZero Try.prog 103 (.nilFunc) [.nilFunc] := ⟨by kernel_rfl, rfl⟩
instance : TSize Try.prog 103 1 8 := ⟨by kernel_rfl⟩
instance : TOne Try.prog 104 := ⟨fun _ => by kernel_rfl⟩
instance : TZero Try.prog 104 (.nilFunc) [.nilFunc] := ⟨by kernel_rfl, rfl⟩
instance : TSize Try.prog 104 1 8 := ⟨by kernel_rfl⟩
instance : TAgg Try.prog 105 2 := ⟨fun _ => by kernel_rfl, by kernel_rfl⟩
instance : TZero Try.prog 105 (.agg #[.slice none 0 0, .int .i64 0]) [.slice none 0 0, .int .i64 0] := ⟨by kernel_rfl, rfl⟩
instance : TSize Try.prog 105 2 32 := ⟨by kernel_rfl⟩
instance : TField Try.prog 105 0 29 0 := ⟨fun _ _ => by kernel_rfl⟩
instance : TPart1 Try.prog 105 0 0 := ⟨fun _ _ => by kernel_rfl⟩
instance : TField Try.prog 105 1 38 1 := ⟨fun _ _ => by kernel_rfl⟩
instance : TPart1 Try.prog 105 1 1 := ⟨fun _ _ => by kernel_rfl⟩
instance : TBuild Try.prog 105 [(0, 1), (1, 1)] [.slice none 0 0, .int .i64 0] := ⟨fun _ => by kernel_rfl⟩
instance : TAgg Try.prog 106 2 := ⟨fun _ => by kernel_rfl, by kernel_rfl⟩
instance : TZero Try.prog 106 (.agg #[.slice none 0 0, .int .i64 0]) [.slice none 0 0, .int .i64 0] := ⟨by kernel_rfl, rfl⟩
instance : TSize Try.prog 106 2 32 := ⟨by kernel_rfl⟩
instance : TField Try.prog 106 0 29 0 := ⟨fun _ _ => by kernel_rfl⟩
instance : TPart1 Try.prog 106 0 0 := ⟨fun _ _ => by kernel_rfl⟩
instance : TField Try.prog 106 1 38 1 := ⟨fun _ _ => by kernel_rfl⟩
instance : TPart1 Try.prog 106 1 1 := ⟨fun _ _ => by kernel_rfl⟩
instance : TBuild Try.prog 106 [(0, 1), (1, 1)] [.slice none 0 0, .int .i64 0] := ⟨fun _ => by kernel_rfl⟩
instance : TOne Try.prog 108 := ⟨fun _ => by kernel_rfl⟩
instance : TZero Try.prog 108 (.nilFunc) [.nilFunc] := ⟨by kernel_rfl, rfl⟩
instance : TSize Try.prog 108 1 8 := ⟨by kernel_rfl⟩
instance : TOne Try.prog 109 := ⟨fun _ => by kernel_rfl⟩
instance : TZero Try.prog 109 (.nilFunc) [.nilFunc] := ⟨by kernel_rfl, rfl⟩
instance : TSize Try.prog 109 1 8 := ⟨by kernel_rfl⟩
instance : TOne Try.prog 110 := ⟨fun _ => by kernel_rfl⟩
instance : TZero Try.prog 110 (.nilFunc) [.nilFunc] := ⟨by kernel_rfl, rfl⟩
instance : TSize Try.prog 110 1 8 := ⟨by kernel_rfl⟩
instance : TOne Try.prog 111 := ⟨fun _ => by kernel_rfl⟩
instance : TZero Try.prog 111 (.nilFunc) [.nilFunc] := ⟨by kernel_rfl, rfl⟩
instance : TSize Try.prog 111 1 8 := ⟨by kernel_rfl⟩
instance : TOne Try.prog 112 := ⟨fun _ => by kernel_rfl⟩
instance : TZero Try.prog 112 (.nilFunc) [.nilFunc] := ⟨by kernel_rfl, rfl⟩
instance : TSize Try.prog 112 1 8 := ⟨by kernel_rfl⟩
instance : TOne Try.prog 113 := ⟨fun _ => by kernel_rfl⟩
instance : TZero Try.prog 113 (.nilFunc) [.nilFunc] := ⟨by kernel_rfl, rfl⟩
instance : TSize Try.prog 113 1 8 := ⟨by kernel_rfl⟩
instance : TOne Try.prog 114 := ⟨fun _ => by kernel_rfl⟩
instance : TZero Try.prog 114 (.nilFunc) [.nilFunc] := ⟨by kernel_rfl, rfl⟩
instance : TSize Try.prog 114 1 8 := ⟨by kernel_rfl⟩
instance : TOne Try.prog 115 := ⟨fun _ => by kernel_rfl⟩
instance : TZero Try.prog 115 (.nilFunc) [.nilFunc] := ⟨by kernel_rfl, rfl⟩
instance : TSize Try.prog 115 1 8 := ⟨by kernel_rfl⟩
instance : TOne Try.prog 116 := ⟨fun _ => by kernel_rfl⟩
instance : TZero Try.prog 116 (.nilFunc) [.nilFunc] := ⟨by kernel_rfl, rfl⟩
instance : TSize Try.prog 116 1 8 := ⟨by kernel_rfl⟩
instance : TOne Try.prog 117 := ⟨fun _ => by kernel_rfl⟩
instance : TZero Try.prog 117 (.nilFunc) [.nilFunc] := ⟨by kernel_rfl, rfl⟩
instance : TSize Try.prog 117 1 8 := ⟨by kernel_rfl⟩
instance : TOne Try.prog 118 := ⟨fun _ => by kernel_rfl⟩
instance : TZero Try.prog 118 (.nilFunc) [.nilFunc] := ⟨by kernel_rfl, rfl⟩
instance : TSize Try.prog 118 1 8 := ⟨by kernel_rfl⟩
instance : TAgg Try.prog 119 1 := ⟨fun _ => by kernel_rfl, by kernel_rfl⟩
instance : TZero Try.prog 119 (.agg #[.slice none 0 0]) [.slice none 0 0] := ⟨by kernel_rfl, rfl⟩
instance : TSize Try.prog 119 1 24 := ⟨by kernel_rfl⟩
instance : TField Try.prog 119 0 92 0 := ⟨fun _ _ => by kernel_rfl⟩
instance : TPart1 Try.prog 119 0 0 := ⟨fun _ _ => by kernel_rfl⟩
instance : TBuild Try.prog 119 [(0, 1)] [.slice none 0 0] := ⟨fun _ => by kernel_rfl⟩
instance : TAgg Try.prog 120 1 := ⟨fun _ => by kernel_rfl, by kernel_rfl⟩
instance : TZero Try.prog 120 (.agg #[.slice none 0 0]) [.slice none 0 0] := ⟨by kernel_rfl, rfl⟩
instance : TSize Try.prog 120 1 24 := ⟨by kernel_rfl⟩
instance : TField Try.prog 120 0 92 0 := ⟨fun _ _ => by kernel_rfl⟩
instance : TPart1 Try.prog 120 0 0 := ⟨fun _ _ => by kernel_rfl⟩
instance : TBuild Try.prog 120 [(0, 1)] [.slice none 0 0] := ⟨fun _ => by kernel_rfl⟩
instance : TOne Try.prog 121 := ⟨fun _ => by kernel_rfl⟩
instance : TZero Try.prog 121 (.nilFunc) [.nilFunc] := ⟨by kernel_rfl, rfl⟩
instance : TSize Try.prog 121 1 8 := ⟨by kernel_rfl⟩
instance : TOne Try.prog 122 := ⟨fun _ => by kernel_rfl⟩
instance : TZero Try.prog 122 (.nilFunc) [.nilFunc] := ⟨by kernel_rfl, rfl⟩
instance : TSize Try.prog 122 1 8 := ⟨by kernel_rfl⟩
instance : TOne Try.prog 123 := ⟨fun _ => by kernel_rfl⟩
instance : TZero Try.prog 123 (.nilFunc) [.nilFunc] := ⟨by kernel_rfl, rfl⟩
instance : TSize Try.prog 123 1 8 := ⟨by kernel_rfl⟩
instance : TOne Try.prog 124 := ⟨fun _ => by kernel_rfl⟩
instance : TZero Try.prog 124 (.slice none 0 0) [.slice none 0 0] := ⟨by kernel_rfl, rfl⟩
instance : TSize Try.prog 124 1 24 := ⟨by kernel_rfl⟩
instance : TSlice Try.prog 124 4 := ⟨by kernel_rfl⟩
instance : TOne Try.prog 125 := ⟨fun _ => by kernel_rfl⟩
instance : TZero Try.prog 125 (.nilFunc) [.nilFunc] := ⟨by kernel_rfl, rfl⟩
instance : TSize Try.prog 125 1 8 := ⟨by kernel_rfl⟩
instance : TOne Try.prog 126 := ⟨fun _ => by kernel_rfl⟩
instance : TZero Try.prog 126 (.slice none 0 0) [.slice none 0 0] := ⟨by kernel_rfl, rfl⟩
instance : TSize Try.prog 126 1 24 := ⟨by kernel_rfl⟩
instance : TSlice Try.prog 126 24 := ⟨by kernel_rfl⟩
instance : TOne Try.prog 127 := ⟨fun _ => by kernel_rfl⟩
instance : TZero Try.prog 127 (.slice none 0 0) [.slice none 0 0] := ⟨by kernel_rfl, rfl⟩
instance : TSize Try.prog 127 1 24 := ⟨by kernel_rfl⟩
instance : TSlice Try.prog 127 23 := ⟨by kernel_rfl⟩
instance : TOne Try.prog 128 := ⟨fun _ => by kernel_rfl⟩
instance : TZero Try.prog 128 (.nilFunc) [.nilFunc] := ⟨by kernel_rfl, rfl⟩
instance : TSize Try.prog 128 1 8 := ⟨by kernel_rfl⟩
instance : TOne Try.prog 129 := ⟨fun _ => by kernel_rfl⟩
instance : TZero Try.prog 129 (.nilFunc) [.nilFunc] := ⟨by kernel_rfl, rfl⟩
instance : TSize Try.prog 129 1 8 := ⟨by kernel_rfl⟩
instance : TOne Try.prog 130 := ⟨fun _ => by kernel_rfl⟩
instance : TZero Try.prog 130 (.nilFunc) [.nilFunc] := ⟨by kernel_rfl, rfl⟩
instance : TSize Try.prog 130 1 8 := ⟨by kernel_rfl⟩
instance : TOne Try.prog 131 := ⟨fun _ => by kernel_rfl⟩
instance : TZero Try.prog 131 (.nilFunc) [.nilFunc] := ⟨by kernel_rfl, rfl⟩
instance : TSize Try.prog 131 1 8 := ⟨by kernel_rfl⟩
instance : TOne Try.prog 132 := ⟨fun _ => by kernel_rfl⟩
instance : TZero Try.prog 132 (.nilFunc) [.nilFunc] := ⟨by kernel_rfl, rfl⟩
instance : TSize Try.prog 132 1 8 := ⟨by kernel_rfl⟩
instance : TOne Try.prog 134 := ⟨fun _ => by kernel_rfl⟩
instance : TZero Try.prog 134 (.nilFunc) [.nilFunc] := ⟨by kernel_rfl, rfl⟩
instance : TSize Try.prog 134 1 8 := ⟨by kernel_rfl⟩
instance : TOne Try.prog 135 := ⟨fun _ => by kernel_rfl⟩
instance : TZero Try.prog 135 (.pointer none) [.pointer none] := ⟨by kernel_rfl, rfl⟩
instance : TSize Try.prog 135 1 8 := ⟨by kernel_rfl⟩
instance : TPtr Try.prog 135 120 := ⟨by kernel_rfl⟩
instance : TOne Try.prog 136 := ⟨fun _ => by kernel_rfl⟩
instance : TZero Try.prog 136 (.nilFunc) [.nilFunc] := ⟨by kernel_rfl, rfl⟩
instance : TSize Try.prog 136 1 8 := ⟨by kernel_rfl⟩
instance : TOne Try.prog 138 := ⟨fun _ => by kernel_rfl⟩
instance : TZero Try.prog 138 (.nilFunc) [.nilFunc] := ⟨by kernel_rfl, rfl⟩
instance : TSize Try.prog 138 1 8 := ⟨by kernel_rfl⟩
instance : TOne Try.prog 139 := ⟨fun _ => by kernel_rfl⟩
instance : TZero Try.prog 139 (.nilFunc) [.nilFunc] := ⟨by kernel_rfl, rfl⟩
instance : TSize Try.prog 139 1 8 := ⟨by kernel_rfl⟩
instance : TOne Try.prog 140 := ⟨fun _ => by kernel_rfl⟩
instance : TZero Try.prog 140 (.nilFunc) [.nilFunc] := ⟨by kernel_rfl, rfl⟩
instance : TSize Try.prog 140 1 8 := ⟨by kernel_rfl⟩
instance : TOne Try.prog 141 := ⟨fun _ => by kernel_rfl⟩
instance : TZero Try.prog 141 (.nilFunc) [.nilFunc] := ⟨by kernel_rfl, rfl⟩
instance : TSize Try.prog 141 1 8 := ⟨by kernel_rfl⟩
instance : TOne Try.prog 142 := ⟨fun _ => by kernel_rfl⟩
instance : TZero Try.prog 142 (.nilFunc) [.nilFunc] := ⟨by kernel_rfl, rfl⟩
instance : TSize Try.prog 142 1 8 := ⟨by kernel_rfl⟩
instance : TOne Try.prog 143 := ⟨fun _ => by kernel_rfl⟩
instance : TZero Try.prog 143 (.nilFunc) [.nilFunc] := ⟨by kernel_rfl, rfl⟩
instance : TSize Try.prog 143 1 8 := ⟨by kernel_rfl⟩
instance : TOne Try.prog 149 := ⟨fun _ => by kernel_rfl⟩
instance : TZero Try.prog 149 (.nilFunc) [.nilFunc] := ⟨by kernel_rfl, rfl⟩
instance : TSize Try.prog 149 1 8 := ⟨by kernel_rfl⟩
instance : TOne Try.prog 153 := ⟨fun _ => by kernel_rfl⟩
instance : TZero Try.prog 153 (.pointer none) [.pointer none] := ⟨by kernel_rfl, rfl⟩
instance : TSize Try.prog 153 1 8 := ⟨by kernel_rfl⟩
instance : TPtr Try.prog 153 5 := ⟨by kernel_rfl⟩
instance : TFun Try.prog 3 := ⟨fun _ _ => by kernel_rfl⟩      -- routing/routinglaw49.ResolveFinds
instance : TFun Try.prog 4 := ⟨fun _ _ => by kernel_rfl⟩      -- routing/routinglaw49.ResolveHops
instance : TFun Try.prog 5 := ⟨fun _ _ => by kernel_rfl⟩      -- routing/routinglaw49.ResolveAll
instance : TFun Try.prog 6 := ⟨fun _ _ => by kernel_rfl⟩      -- routing/routinglaw49.ResolveEnds
instance : TFun Try.prog 7 := ⟨fun _ _ => by kernel_rfl⟩      -- routing/routinglaw49.ResolveKeeps
instance : TFun Try.prog 8 := ⟨fun _ _ => by kernel_rfl⟩      -- routing/routinglaw49.ResolveChain
instance : TFun Try.prog 9 := ⟨fun _ _ => by kernel_rfl⟩      -- routing/routinglaw49.large
instance : TFun Try.prog 10 := ⟨fun _ _ => by kernel_rfl⟩      -- routing/routinglaw49.awake
instance : TFun Try.prog 11 := ⟨fun _ _ => by kernel_rfl⟩      -- routing/resolve.Find
instance : TFun Try.prog 12 := ⟨fun _ _ => by kernel_rfl⟩      -- routing/routingref49.Find
instance : TFun Try.prog 13 := ⟨fun _ _ => by kernel_rfl⟩      -- routing/resolve.Cost
instance : TFun Try.prog 14 := ⟨fun _ _ => by kernel_rfl⟩      -- routing/routingref49.Cost
instance : TFun Try.prog 15 := ⟨fun _ _ => by kernel_rfl⟩      -- routing/routingref48.Same
instance : TFun Try.prog 16 := ⟨fun _ _ => by kernel_rfl⟩      -- routing/resolve.Hops
instance : TFun Try.prog 17 := ⟨fun _ _ => by kernel_rfl⟩      -- routing/routingref49.Hops
instance : TFun Try.prog 18 := ⟨fun _ _ => by kernel_rfl⟩      -- routing/routingref03.SameNextHops
instance : TFun Try.prog 19 := ⟨fun _ _ => by kernel_rfl⟩      -- routing/routinglaw49.same
instance : TFun Try.prog 20 := ⟨fun _ _ => by kernel_rfl⟩      -- routing/resolve.All
instance : TFun Try.prog 21 := ⟨fun _ _ => by kernel_rfl⟩      -- routing/routingref49.All
instance : TFun Try.prog 22 := ⟨fun _ _ => by kernel_rfl⟩      -- routing/routinglaw49.ifaces
instance : TFun Try.prog 23 := ⟨fun _ _ => by kernel_rfl⟩      -- routing/routingref03.HasInt
instance : TFun Try.prog 24 := ⟨fun _ _ => by kernel_rfl⟩      -- routing/routingref48.Less
instance : TFun Try.prog 25 := ⟨fun _ _ => by kernel_rfl⟩      -- routing/routingref02.Valid
instance : TFun Try.prog 26 := ⟨fun _ _ => by kernel_rfl⟩      -- routing/routingref48.Valid
instance : TFun Try.prog 27 := ⟨fun _ _ => by kernel_rfl⟩      -- routing/routinglaw49.eight
instance : TFun Try.prog 28 := ⟨fun _ _ => by kernel_rfl⟩      -- routing/resolve.list
instance : TFun Try.prog 29 := ⟨fun _ _ => by kernel_rfl⟩      -- routing/resolve.longest
instance : TFun Try.prog 30 := ⟨fun _ _ => by kernel_rfl⟩      -- routing/resolve.tree
instance : TFun Try.prog 31 := ⟨fun _ _ => by kernel_rfl⟩      -- routing/resolve.Find$1
instance : TFun Try.prog 32 := ⟨fun _ _ => by kernel_rfl⟩      -- slices.Clone[[]routing/api.NextHop,routing/api.NextHop]
instance : TFun Try.prog 33 := ⟨fun _ _ => by kernel_rfl⟩      -- routing/routingref49.longest
instance : TFun Try.prog 34 := ⟨fun _ _ => by kernel_rfl⟩      -- routing/routingref48.List
instance : TFun Try.prog 35 := ⟨fun _ _ => by kernel_rfl⟩      -- routing/resolve.newSolver
instance : TFun Try.prog 36 := ⟨fun _ _ => by kernel_rfl⟩      -- (*routing/resolve.solver).route
instance : TFun Try.prog 37 := ⟨fun _ _ => by kernel_rfl⟩      -- routing/rib.Check
instance : TFun Try.prog 38 := ⟨fun _ _ => by kernel_rfl⟩      -- routing/routingref49.hops
instance : TFun Try.prog 39 := ⟨fun _ _ => by kernel_rfl⟩      -- routing/routingref03.IndexInt
instance : TFun Try.prog 40 := ⟨fun _ _ => by kernel_rfl⟩      -- routing/routingref01.Keep
instance : TFun Try.prog 41 := ⟨fun _ _ => by kernel_rfl⟩      -- routing/routingref48.proto
instance : TFun Try.prog 42 := ⟨fun _ _ => by kernel_rfl⟩      -- routing/routingref48.hops
instance : TFun Try.prog 43 := ⟨fun _ _ => by kernel_rfl⟩      -- (*routing/trie.Trie).Lookup
instance : TFun Try.prog 44 := ⟨fun _ _ => by kernel_rfl⟩      -- routing/trie.New
instance : TFun Try.prog 45 := ⟨fun _ _ => by kernel_rfl⟩      -- (*routing/trie.Trie).Put
instance : TFun Try.prog 46 := ⟨fun _ _ => by kernel_rfl⟩      -- routing/routingref02.Contains
instance : TFun Try.prog 47 := ⟨fun _ _ => by kernel_rfl⟩      -- routing/routingref49.vector
instance : TFun Try.prog 48 := ⟨fun _ _ => by kernel_rfl⟩      -- routing/routingref48.Active
instance : TFun Try.prog 49 := ⟨fun _ _ => by kernel_rfl⟩      -- routing/resolve.newSolver$1
instance : TFun Try.prog 50 := ⟨fun _ _ => by kernel_rfl⟩      -- routing/resolve.vector
instance : TFun Try.prog 51 := ⟨fun _ _ => by kernel_rfl⟩      -- (*routing/resolve.solver).hop
instance : TFun Try.prog 52 := ⟨fun _ _ => by kernel_rfl⟩      -- routing/resolve.combined
instance : TFun Try.prog 53 := ⟨fun _ _ => by kernel_rfl⟩      -- routing/rib.checkRoute
instance : TFun Try.prog 54 := ⟨fun _ _ => by kernel_rfl⟩      -- routing/rib.compare
instance : TFun Try.prog 55 := ⟨fun _ _ => by kernel_rfl⟩      -- routing/routingref49.hop
instance : TFun Try.prog 56 := ⟨fun _ _ => by kernel_rfl⟩      -- routing/routingref49.combined
instance : TFun Try.prog 57 := ⟨fun _ _ => by kernel_rfl⟩      -- routing/routingref01.Low
instance : TFun Try.prog 58 := ⟨fun _ _ => by kernel_rfl⟩      -- routing/routingref01.At
instance : TFun Try.prog 59 := ⟨fun _ _ => by kernel_rfl⟩      -- (*routing/trie.Trie).Above
instance : TFun Try.prog 60 := ⟨fun _ _ => by kernel_rfl⟩      -- routing/prefix.Valid
instance : TFun Try.prog 61 := ⟨fun _ _ => by kernel_rfl⟩      -- routing/trie.bit
instance : TFun Try.prog 62 := ⟨fun _ _ => by kernel_rfl⟩      -- routing/routingref02.Make
instance : TFun Try.prog 63 := ⟨fun _ _ => by kernel_rfl⟩      -- routing/routingref48.Check
instance : TFun Try.prog 64 := ⟨fun _ _ => by kernel_rfl⟩      -- (*routing/resolve.solver).next
instance : TFun Try.prog 65 := ⟨fun _ _ => by kernel_rfl⟩      -- (*routing/resolve.solver).loops
instance : TFun Try.prog 66 := ⟨fun _ _ => by kernel_rfl⟩      -- (*routing/resolve.solver).depth
instance : TFun Try.prog 67 := ⟨fun _ _ => by kernel_rfl⟩      -- cmp.Or[routing/api.Addr]
instance : TFun Try.prog 68 := ⟨fun _ _ => by kernel_rfl⟩      -- cmp.Or[uint32]
instance : TFun Try.prog 69 := ⟨fun _ _ => by kernel_rfl⟩      -- slices.SortStableFunc[[]routing/api.NextHop,routing/api.NextHop]
instance : TFun Try.prog 70 := ⟨fun _ _ => by kernel_rfl⟩      -- routing/resolve.compare
instance : TFun Try.prog 71 := ⟨fun _ _ => by kernel_rfl⟩      -- routing/prefix.Compare
instance : TFun Try.prog 72 := ⟨fun _ _ => by kernel_rfl⟩      -- routing/rib.outside
instance : TFun Try.prog 73 := ⟨fun _ _ => by kernel_rfl⟩      -- routing/rib.compareHops
instance : TFun Try.prog 74 := ⟨fun _ _ => by kernel_rfl⟩      -- routing/rib.first
instance : TFun Try.prog 75 := ⟨fun _ _ => by kernel_rfl⟩      -- routing/rib.compare$1
instance : TFun Try.prog 76 := ⟨fun _ _ => by kernel_rfl⟩      -- cmp.Compare[int]
instance : TFun Try.prog 77 := ⟨fun _ _ => by kernel_rfl⟩      -- routing/routingref49.next
instance : TFun Try.prog 78 := ⟨fun _ _ => by kernel_rfl⟩      -- routing/routingref49.loops
instance : TFun Try.prog 79 := ⟨fun _ _ => by kernel_rfl⟩      -- routing/routingref49.depth
instance : TFun Try.prog 80 := ⟨fun _ _ => by kernel_rfl⟩      -- routing/routingref02.Compare
instance : TFun Try.prog 81 := ⟨fun _ _ => by kernel_rfl⟩      -- (*routing/trie.Trie).down
instance : TFun Try.prog 82 := ⟨fun _ _ => by kernel_rfl⟩      -- (*routing/trie.list).add
instance : TFun Try.prog 83 := ⟨fun _ _ => by kernel_rfl⟩      -- routing/bits.Keep
instance : TFun Try.prog 84 := ⟨fun _ _ => by kernel_rfl⟩      -- routing/bits.At
instance : TFun Try.prog 85 := ⟨fun _ _ => by kernel_rfl⟩      -- routing/routingref48.has
instance : TFun Try.prog 86 := ⟨fun _ _ => by kernel_rfl⟩      -- routing/routingref48.before
instance : TFun Try.prog 87 := ⟨fun _ _ => by kernel_rfl⟩      -- (*routing/resolve.solver).loops$1
instance : TFun Try.prog 88 := ⟨fun _ _ => by kernel_rfl⟩      -- (*routing/resolve.solver).leads
instance : TFun Try.prog 89 := ⟨fun _ _ => by kernel_rfl⟩      -- slices.stableCmpFunc[routing/api.NextHop]
instance : TFun Try.prog 90 := ⟨fun _ _ => by kernel_rfl⟩      -- cmp.Or[int]
instance : TFun Try.prog 91 := ⟨fun _ _ => by kernel_rfl⟩      -- cmp.Compare[routing/api.Addr]
instance : TFun Try.prog 92 := ⟨fun _ _ => by kernel_rfl⟩      -- cmp.Compare[uint32]
instance : TFun Try.prog 93 := ⟨fun _ _ => by kernel_rfl⟩      -- routing/rib.compareHops$1
instance : TFun Try.prog 94 := ⟨fun _ _ => by kernel_rfl⟩      -- cmp.isNaN[int]
instance : TFun Try.prog 95 := ⟨fun _ _ => by kernel_rfl⟩      -- routing/routingref49.same
instance : TFun Try.prog 96 := ⟨fun _ _ => by kernel_rfl⟩      -- routing/routingref49.leads
instance : TFun Try.prog 97 := ⟨fun _ _ => by kernel_rfl⟩      -- routing/prefix.Make
instance : TFun Try.prog 98 := ⟨fun _ _ => by kernel_rfl⟩      -- routing/bits.Mask
instance : TFun Try.prog 99 := ⟨fun _ _ => by kernel_rfl⟩      -- (*routing/resolve.solver).leads$1
instance : TFun Try.prog 100 := ⟨fun _ _ => by kernel_rfl⟩      -- slices.insertionSortCmpFunc[routing/api.NextHop]
instance : TFun Try.prog 101 := ⟨fun _ _ => by kernel_rfl⟩      -- slices.symMergeCmpFunc[routing/api.NextHop]
instance : TFun Try.prog 102 := ⟨fun _ _ => by kernel_rfl⟩      -- cmp.isNaN[routing/api.Addr]
instance : TFun Try.prog 103 := ⟨fun _ _ => by kernel_rfl⟩      -- cmp.isNaN[uint32]
instance : TFun Try.prog 104 := ⟨fun _ _ => by kernel_rfl⟩      -- routing/routingref49.contains
instance : TFun Try.prog 105 := ⟨fun _ _ => by kernel_rfl⟩      -- routing/prefix.of
instance : TFun Try.prog 106 := ⟨fun _ _ => by kernel_rfl⟩      -- routing/bits.clamp
instance : TFun Try.prog 107 := ⟨fun _ _ => by kernel_rfl⟩      -- slices.rotateCmpFunc[routing/api.NextHop]
instance : TFun Try.prog 108 := ⟨fun _ _ => by kernel_rfl⟩      -- slices.swapRangeCmpFunc[routing/api.NextHop]
end Go.Proofs.Ytkdjbddjblahkaa

/-
  The rules for operations that make or change memory, and for entering and leaving a function.
  No conditions beyond those that each rule states.
-/
namespace Go.Proofs.Ytkdjbddjblahkaa
open Go.RowKit

section
variable {w w' : World} {b : Nat} {t : TypeId} {cs : List Value}
theorem Blk.lt (h : Blk w b t cs) : b < w.heap.size := by
  rcases Nat.lt_or_ge b w.heap.size with h1 | h1
  · exact h1
  · unfold Blk at h; rw [Array.getElem?_eq_none h1] at h; cases h
theorem Blk.ext (h : Blk w b t cs) (he : Ext w w') : Blk w' b t cs := he.blk h
theorem Blk.cell (h : Blk w b t cs) {o : Nat} {v : Value} (hv : cs[o]? = some v) : w.cell? ⟨b, o, none⟩ = some v := by
  unfold Blk at h; simp [World.cell?, h, hv]
theorem Blk.cell_add (h : Blk w b t cs) {o n : Nat} {v : Value} (hv : cs[o + n]? = some v) : w.cell? ((⟨b, o, none⟩ : Addr).add n) = some v := by
  rw [add_blk]; exact h.cell hv
theorem Blk.cells (h : Blk w b t cs) : Cells w ⟨b, 0, none⟩ cs := fun j v hj => by rw [add_blk]; exact h.cell (by simpa using hj)
theorem Blk.part (h : Blk w b t cs) (o n : Nat) : Cells w ⟨b, o, none⟩ ((cs.drop o).take n) := fun j v hj => by
  rw [add_blk]
  refine h.cell ?_
  rw [List.getElem?_take] at hj
  split at hj
  · simpa using hj
  · cases hj
theorem Blk.frozen (h : Blk w b t cs) (o : Nat) : w.frozen? ⟨b, o, none⟩ = false := by
  unfold Blk at h; simp [World.frozen?, h]
end

theorem New.of {w w' : World} (h : Ext w w') (t : TypeId) (cs : List Value) : New w (w'.alloc (.cells cs.toArray t)) w'.heap.size t cs :=
  ⟨h.alloc _, h.size, alloc_heap _ _⟩

/-- Block b has turned, and no other. -/
structure Upd (w w1 : World) (b : Nat) (t : TypeId) (cs : List Value) : Prop where
  os : w1.os = w.os
  tape : w1.tape = w.tape
  output : w1.output = w.output
  size : w1.heap.size = w.heap.size
  other : ∀ k, k ≠ b → w1.heap[k]? = w.heap[k]?
  blk : Blk w1 b t cs
theorem Upd.keep {w w1 : World} {b b' : Nat} {t t' : TypeId} {cs cs' : List Value} (h : Upd w w1 b t cs) (hb : Blk w b' t' cs') (hne : b' ≠ b) : Blk w1 b' t' cs' := by
  unfold Blk; rw [h.other b' hne]; exact hb
/-- What was there before block b stays. -/
theorem Upd.below {w0 w w1 : World} {b : Nat} {t : TypeId} {cs : List Value} (h : Upd w w1 b t cs) (he : Ext w0 w) (hge : w0.heap.size ≤ b) : Ext w0 w1 :=
  ⟨h.os.trans he.os, h.tape.trans he.tape, h.output.trans he.output, by rw [h.size]; exact he.size, fun k hk => by rw [h.other k (by omega)]; exact he.block k hk⟩
theorem Upd.cell {w w1 : World} {b : Nat} {t : TypeId} {cs : List Value} (h : Upd w w1 b t cs) {a : Addr} (hne : a.block ≠ b) : w1.cell? a = w.cell? a := World.cell?_of_block (h.other _ hne)

def splice (cs : List Value) (o : Nat) (vs : List Value) : List Value := cs.take o ++ vs ++ cs.drop (o + vs.length)

theorem Upd.of {w : World} {b : Nat} {t : TypeId} {cs cs' : List Value} (h : Blk w b t cs) : Upd w (w.setRow b cs'.toArray) b t cs' :=
  ⟨rfl, rfl, rfl, by simp, fun k hk => setRow_other w b k _ hk, setRow_heap w b _ _ _ _ h⟩
theorem ext_setRow {w w' : World} (h : Ext w w') {b : Nat} (cs : Array Value) : Ext (w.setRow b cs) (w'.setRow b cs) :=
  ⟨h.os, h.tape, h.output, by simpa using h.size, fun k hk => by
    have hk' : k < w.heap.size := by simpa using hk
    have e := h.block k hk'
    simp only [World.setRow, Array.getElem?_modify]
    split
    · rw [e]
    · exact e⟩

section
variable {P : Program} {N : Fr} {ops : Array Oper} {K : Env → World → Prop} {m : Env} {w : World} {rest : List Oper} {ty : TypeId} {pos : String} {after : Array Edge} {g : Option (Nat × Bool)}

theorem Ops_box {dst : Nat} {e : TypeId} {x : Operand} {v : Value} {cs : List Value} (hon : On N ops m ⟨some dst, .box e x, ty, pos, after, g⟩) (hd : Nat.ble (dst + 1) N.n = true) (hx : ev m x = some v) (hcs : v.cells = cs.toArray)
    (h : ∀ w1 b, New w w1 b e cs → Ops P N ops false K rest ((dst, .pointer (some ⟨b, 0, none⟩)) :: m) w1) : Ops P N ops false K (⟨some dst, .box e x, ty, pos, after, g⟩ :: rest) m w := by
  refine ⟨fun a w' ha hw => ?_⟩
  unfold wpList
  rw [if_pos (hon.out a ha)]
  refine .inl ?_
  have hr : (execOp a.eval ⟨some dst, .box e x, ty, pos, after, g⟩).run P w' = .ok (.value (.pointer (some ⟨w'.heap.size, 0, none⟩))) (w'.alloc (.cells cs.toArray e)) := by
    simp only [execOp, ha.ev hx, Instr.box, newVar, hcs]; rfl
  unfold Oper.wp
  rw [hr]
  exact (h _ _ (New.of hw e cs)).out _ _ (ha.put (Nat.le_of_ble_eq_true hd) _) (Ext.refl _)
theorem Ops_alloc {dst : Nat} {e : TypeId} {z : Value} {cs : List Value} [hz : TZero P e z cs] (hon : On N ops m ⟨some dst, .alloc e, ty, pos, after, g⟩) (hd : Nat.ble (dst + 1) N.n = true)
    (h : ∀ w1 b, New w w1 b e cs → Ops P N ops false K rest ((dst, .pointer (some ⟨b, 0, none⟩)) :: m) w1) : Ops P N ops false K (⟨some dst, .alloc e, ty, pos, after, g⟩ :: rest) m w := by
  refine ⟨fun a w' ha hw => ?_⟩
  unfold wpList
  rw [if_pos (hon.out a ha)]
  refine .inl ?_
  have hr : (execOp a.eval ⟨some dst, .alloc e, ty, pos, after, g⟩).run P w' = .ok (.value (.pointer (some ⟨w'.heap.size, 0, none⟩))) (w'.alloc (.cells cs.toArray e)) := by
    obtain ⟨inf, h1, h2⟩ := Option.bind_eq_some_iff.1 hz.h
    have hz' : (zeroValue e).run P w' = .ok z w' := by simp [zeroValue, typeInfo, h1, h2]
    simp only [execOp, Instr.alloc, Sem.run_bind, hz', Result.andThen_ok, newVar, hz.cells]
    rfl
  unfold Oper.wp
  rw [hr]
  exact (h _ _ (New.of hw e cs)).out _ _ (ha.put (Nat.le_of_ble_eq_true hd) _) (Ext.refl _)
theorem over_splice : ∀ (o : Nat) (vs cs : List Value), o + vs.length ≤ cs.length → over o vs cs = splice cs o vs
  | o, [], cs, _ => by rw [over_nil]; simp [splice]
  | 0, v :: vs, c :: cs, h => by
    have := over_splice 0 vs cs (by simp at h ⊢; omega)
    simp only [over, this, splice]; simp
  | o + 1, v :: vs, c :: cs, h => by
    have := over_splice o (v :: vs) cs (by simp at h ⊢; omega)
    simp only [over, this, splice]
    rw [List.take_succ_cons, show o + 1 + (v :: vs).length = (o + (v :: vs).length) + 1 by omega, List.drop_succ_cons]; rfl
/-- A store into a block of one's own. -/
theorem Ops_store {t t0 : TypeId} {x y : Operand} {b o : Nat} {cs vs out : List Value} {v : Value} {n0 b0 : Nat} [hs : TSize P t n0 b0] (hon : On N ops m ⟨none, .store t x y, ty, pos, after, g⟩)
    (hx : ev m x = some (.pointer (some ⟨b, o, none⟩))) (hy : ev m y = some v) (hB : Blk w b t0 cs) [hv : TCells v vs] [hl : TLen vs n0] [hp : TSplice o vs cs out] (h1 : vs.all (fun u => u.oneCell') = true)
    (h : ∀ w1, Upd w w1 b t0 out → Ops P N ops false K rest m w1) : Ops P N ops false K (⟨none, .store t x y, ty, pos, after, g⟩ :: rest) m w := by
  refine ⟨fun a w' ha hw => ?_⟩
  unfold wpList
  rw [if_pos (hon.out a ha)]
  refine .inl ?_
  obtain ⟨inf, hi, hsz⟩ := Option.map_eq_some_iff.1 hs.h
  simp only [Prod.mk.injEq] at hsz
  have hlen := hl.h
  have ho := hp.len
  have hst := run_storeCells_at P b o t0 vs 0 cs.toArray w' (hB.ext hw) (by simpa using ho) (List.all_eq_true.1 h1)
  simp only [Nat.add_zero] at hst
  have e : out = splice cs o vs := by rw [← hp.h]; exact over_splice _ _ _ ho
  have hr : (execOp a.eval ⟨none, .store t x y, ty, pos, after, g⟩).run P w' = .ok .skip (w'.setRow b out.toArray) := by
    rw [e]
    simp only [execOp, ha.ev hx, ha.ev hy, Instr.storeAt, Instr.sureAddr, storeVar, sizeOf, typeInfo]
    simp [hi, hsz.1, hv.h, hlen, hst, splice]
  unfold Oper.wp
  rw [hr]
  exact (h _ (Upd.of hB)).out _ _ (ha.put_none _) (ext_setRow hw _)
end

/-! ### Regions that draw their order and make memory -/
section
variable {P : Program} {N : Fr} {m : Env} {w : World}
theorem allocRuns {e : TypeId} {z : Value} {cs : List Value} [hz : TZero P e z cs] : AllocRuns P e cs := fun ρ o w' ho => by
  obtain ⟨inf, h1, h2⟩ := Option.bind_eq_some_iff.1 hz.h
  have hz' : (zeroValue e).run P w' = .ok z w' := by simp [zeroValue, typeInfo, h1, h2]
  simp only [execOp, ho, Instr.alloc, Sem.run_bind, hz', Result.andThen_ok, newVar, hz.cells]
  rfl
theorem V_region_drawn (n : Nat) {Q : Exit → Env → World → Prop} {id : Nat} {l : List Oper} (Z : Nat → List Value) (hm : P.follows .mixedOrders = true) (hB : drawB l.toArray n = true)
    (hZ : ∀ p ∈ allocsOf (l.take n), p.1 < N.n ∧ AllocRuns P p.2 (Z p.1))
    (h : Ops P N ((l.take n).map skipA).toArray true (fun m' _ => ∀ (w1 : World) (f : Nat → Nat), Ext w w1 → (∀ p ∈ allocsOf (l.take n), w.heap.size ≤ f p.1 ∧ Blk w1 (f p.1) p.2 (Z p.1)) →
      (∀ p ∈ allocsOf (l.take n), ∀ q ∈ allocsOf (l.take n), p.1 ≠ q.1 → f p.1 ≠ f q.1) →
      Ops P N l.toArray false (fun m w => Q .normal m w) (l.drop n) ((allocsOf (l.take n)).map (fun p => (p.1, Value.pointer (some ⟨f p.1, 0, none⟩))) ++ m') w1) ((l.take n).map skipA) m w)
    (hnd : NoDef N.ro l := by first | exact .inl rfl | exact .inr (by kernel_rfl)) :
    V P N (.region id l.toArray true) Q m w := by
  refine ⟨fun a w' ha hw => wpR_mono (Q := fun e a w => e = .normal ∧ lift N Q .normal a w) (fun e a w ⟨h1, h2⟩ => by rw [h1]; exact h2) ?_⟩
  refine wp_drawn (Z := Z) hnd noLet hm hB (fun p hp => ⟨by rw [ha.size]; exact (hZ p hp).1, (hZ p hp).2⟩) hw (h.out a ha) ?_
  rintro a' a1 w1 f hw1 ⟨m', hk, ag⟩ hb hmd
  have o1 := hk w1 f hw1 (fun p hp => (hmd.slot p.1 p.2 hp).2) (fun p hp q hq hne => hmd.apart p.1 p.2 q.1 q.2 hp hq hne)
  have key : ∀ (xs : Env) (i : Nat) (v : Value), look (xs ++ m') i = some v → (∃ p ∈ xs, p.1 = i ∧ p.2 = v) ∨ (i ∉ xs.map (·.1) ∧ look m' i = some v) := by
    intro xs
    induction xs with
    | nil => exact fun i v h => .inr ⟨by simp, h⟩
    | cons p r ih =>
      intro i v hi
      obtain ⟨j, u⟩ := p
      by_cases e : j = i
      · subst e
        rw [List.cons_append, look_same] at hi
        cases hi
        exact .inl ⟨_, List.mem_cons_self .., rfl, rfl⟩
      · rw [List.cons_append, look_other _ _ e] at hi
        rcases ih i v hi with ⟨q, hq, h2⟩ | ⟨h2, h3⟩
        · exact .inl ⟨q, List.mem_cons_of_mem _ hq, h2⟩
        · exact .inr ⟨by simp only [List.map_cons, List.mem_cons, not_or]; exact ⟨fun h4 => e h4.symm, h2⟩, h3⟩
  have ag1 : Agree N ((allocsOf (l.take n)).map (fun p => (p.1, Value.pointer (some ⟨f p.1, 0, none⟩))) ++ m') a1 := by
    refine ⟨by rw [hb.defers]; exact ag.defers, by rw [hb.size]; exact ag.size, fun i v hi => ?_⟩
    rcases key _ i v hi with ⟨p, hp, h1, h2⟩ | ⟨h1, h2⟩
    · obtain ⟨q, hq, rfl⟩ := List.mem_map.1 hp
      subst h1; subst h2
      exact (hmd.slot q.1 q.2 hq).1
    · rw [hb.slot i (by simpa [List.map_map] using h1)]
      exact ag.slot i v h2
  have h5 := o1.out a1 w1 ag1 (Ext.refl _)
  have mono : ∀ (l' : List Oper) (a : Act) (w0 : World), wpList P l.toArray (fun e a' w'' => e = .normal ∧ ∃ m' w1, Q .normal m' w1 ∧ Agree N m' a' ∧ Ext w1 w'') l' a w0 → wpList P l.toArray (fun e a w => e = .normal ∧ lift N Q .normal a w) l' a w0 := by
    intro l'
    induction l' with
    | nil => exact fun a w0 ⟨_, m', w1, q, ag, ex⟩ => ⟨rfl, m', w1, q, ag, ex⟩
    | cons o r ih =>
      intro a w0 h6
      unfold wpList at h6 ⊢
      split
      · rename_i hwn
        rw [if_pos hwn] at h6
        rcases h6 with h6 | h6
        · exact .inl (wp_normal (fun a1 w1 hh => ih a1 w1 hh) h6)
        · obtain ⟨_, _, _, h7, _⟩ := h6; cases h7
      · rename_i hwn
        rw [if_neg hwn] at h6
        exact ih _ _ h6
  exact mono _ _ _ h5
/-- No allocation among the first n. -/
theorem V_region_mixed (n : Nat) {Q : Exit → Env → World → Prop} {id : Nat} {l : List Oper} (hm : P.follows .mixedOrders = true) (hB : drawB l.toArray n = true) (h0 : allocsOf (l.take n) = [])
    (h : Ops P N ((l.take n).map skipA).toArray true (fun m' w' => Ops P N l.toArray false (fun m w => Q .normal m w) (l.drop n) m' w') ((l.take n).map skipA) m w)
    (hnd : NoDef N.ro l := by first | exact .inl rfl | exact .inr (by kernel_rfl)) : V P N (.region id l.toArray true) Q m w := by
  refine V_region_drawn n (fun _ => []) hm hB (by rw [h0]; intro p hp; cases hp) ⟨fun a ha => listY_mono (fun a' ⟨m', hk, ag⟩ => ⟨m', fun w1 f hw1 _ _ => ?_, ag⟩) _ _ (h.out a ha)⟩ hnd
  rw [h0]
  exact ⟨fun a1 w2 ha1 hw2 => hk.out a1 w2 ha1 (hw1.trans hw2)⟩
theorem V_draw1 (n : Nat) {Q : Exit → Env → World → Prop} {id : Nat} {l : List Oper} {d : Nat} {t : TypeId} {z : Value} {cs : List Value} (hm : P.follows .mixedOrders = true) (hB : drawB l.toArray n = true) (h0 : allocsOf (l.take n) = [(d, t)])
    (hd : Nat.ble (d + 1) N.n = true) [hz : TZero P t z cs]
    (h : Ops P N ((l.take n).map skipA).toArray true (fun m' _ => ∀ (w1 : World) (b : Nat), New w w1 b t cs → Ops P N l.toArray false (fun m w => Q .normal m w) (l.drop n) ((d, .pointer (some ⟨b, 0, none⟩)) :: m') w1) ((l.take n).map skipA) m w)
    (hnd : NoDef N.ro l := by first | exact .inl rfl | exact .inr (by kernel_rfl)) :
    V P N (.region id l.toArray true) Q m w := by
  refine V_region_drawn n (fun _ => cs) hm hB (by rw [h0]; intro p hp; obtain rfl := List.mem_singleton.1 hp; exact ⟨Nat.le_of_ble_eq_true hd, allocRuns⟩)
    ⟨fun a ha => listY_mono (fun a' ⟨m', hk, ag⟩ => ⟨m', fun w1 f hw1 h1 _ => ?_, ag⟩) _ _ (h.out a ha)⟩ hnd
  rw [h0] at h1 ⊢
  obtain ⟨h2, h3⟩ := h1 _ (List.mem_singleton.2 rfl)
  exact hk w1 (f d) ⟨hw1, h2, h3⟩
theorem V_draw2 (n : Nat) {Q : Exit → Env → World → Prop} {id : Nat} {l : List Oper} {d d' : Nat} {t t' : TypeId} {z z' : Value} {cs cs' : List Value} (hm : P.follows .mixedOrders = true) (hB : drawB l.toArray n = true)
    (h0 : allocsOf (l.take n) = [(d, t), (d', t')]) (hd : Nat.ble (d + 1) N.n = true) (hd' : Nat.ble (d' + 1) N.n = true) (hne : Nat.beq d d' = false) [hz : TZero P t z cs] [hz' : TZero P t' z' cs']
    (h : Ops P N ((l.take n).map skipA).toArray true (fun m' _ => ∀ (w1 : World) (b b' : Nat), Ext w w1 → w.heap.size ≤ b → w.heap.size ≤ b' → b ≠ b' → Blk w1 b t cs → Blk w1 b' t' cs' →
      Ops P N l.toArray false (fun m w => Q .normal m w) (l.drop n) ((d, .pointer (some ⟨b, 0, none⟩)) :: (d', .pointer (some ⟨b', 0, none⟩)) :: m') w1) ((l.take n).map skipA) m w)
    (hnd : NoDef N.ro l := by first | exact .inl rfl | exact .inr (by kernel_rfl)) :
    V P N (.region id l.toArray true) Q m w := by
  have hne' : d' ≠ d := fun e => by subst e; rw [Nat.beq_refl] at hne; cases hne
  refine V_region_drawn n (fun x => if x = d then cs else cs') hm hB (by
      rw [h0]; intro p hp
      simp only [List.mem_cons, List.not_mem_nil, or_false] at hp
      rcases hp with rfl | rfl
      · exact ⟨Nat.le_of_ble_eq_true hd, by simp only [if_true]; exact allocRuns⟩
      · exact ⟨Nat.le_of_ble_eq_true hd', by simp only [hne', if_false]; exact allocRuns⟩)
    ⟨fun a ha => listY_mono (fun a' ⟨m', hk, ag⟩ => ⟨m', fun w1 f hw1 h1 h9 => ?_, ag⟩) _ _ (h.out a ha)⟩ hnd
  rw [h0] at h1 h9 ⊢
  obtain ⟨h2, h3⟩ := h1 (d, t) (by simp)
  obtain ⟨h4, h5⟩ := h1 (d', t') (by simp)
  simp only [if_true] at h3
  simp only [hne', if_false] at h5
  exact hk w1 (f d) (f d') hw1 h2 h4 (h9 (d, t) (by simp) (d', t') (by simp) (Ne.symm hne')) h3 h5
end

/-! ### Entering and leaving -/
section
variable {P : Program} {N : Fr} {m : Env} {w : World}
def paramsFrom : Nat → List Value → Env
  | _, [] => []
  | i, v :: r => (i, v) :: paramsFrom (i + 1) r
theorem look_params (vs : List Value) : ∀ (i j : Nat) (v : Value), look (paramsFrom i vs) j = some v → i ≤ j ∧ vs[j - i]? = some v := by
  induction vs with
  | nil => intro i j v h; simp [paramsFrom, look] at h
  | cons u r ih =>
    intro i j v h
    simp only [paramsFrom] at h
    by_cases e : i = j
    · subst e; rw [look_same] at h; cases h; simp
    · rw [look_other _ _ e] at h
      obtain ⟨h1, h2⟩ := ih (i + 1) j v h
      refine ⟨by omega, ?_⟩
      have : j - i = (j - (i + 1)) + 1 := by omega
      rw [this]; simpa using h2
def retV (P : Program) (fn : Func) (N : Fr) (R : Ending → World → Prop) : Exit → Env → World → Prop
  | .normal, m, w | .ret, m, w => ∃ v, (∀ a w', Agree N m a → Ext w w' → (results fn a.tmps).run P w' = .ok v w') ∧ ∀ w', Ext w w' → R (.returned v) w'
  | _, _, _ => False
theorem V_enter {n : Nat} {f : FuncId} {fn : Func} {c : Code} {vs : List Value} {R : Ending → World → Prop} (hf : P.funcs[f]? = some fn) (hb : fn.body = some c) (hn : fn.ntmps = n) (hl : vs.length ≤ n)
    (h : V P ⟨n, [], none⟩ c (retV P fn ⟨n, [], none⟩ R) (paramsFrom 0 vs) w) : Calls P f vs.toArray w R := by
  refine calls_of_wp hf hb (wpR_none.1 (wpR_mono (fun e a w' hq => ?_) (h.out _ w ⟨rfl, by simp [hn]; omega, fun i v hi => ?_⟩ (Ext.refl _))))
  · obtain ⟨m1, w1, q, ag, ex⟩ := hq
    cases e with
    | normal =>
      obtain ⟨v, h1, h2⟩ := q
      exact ⟨ag.defers, v, h1 a w' ag ex, h2 w' ex⟩
    | ret =>
      obtain ⟨v, h1, h2⟩ := q
      exact ⟨ag.defers, v, h1 a w' ag ex, h2 w' ex⟩
    | _ => exact q.elim
  · obtain ⟨_, h2⟩ := look_params vs 0 i v hi
    simp only [Nat.sub_zero] at h2
    have hlt : i < vs.length := by
      rcases Nat.lt_or_ge i vs.length with h3 | h3
      · exact h3
      · rw [List.getElem?_eq_none h3] at h2; cases h2
    rw [Array.getElem?_append_left (by simpa using hlt)]
    simpa using h2
theorem slot_get {a : Act} (ha : Agree N m a) {t : Nat} {v : Value} (hl : look m t = some v) : a.tmps.getD t undef = v := by
  have := ha.slot t v hl
  simp [this]
theorem ret1 {fn : Func} {R : Ending → World → Prop} {e : Exit} {t : Nat} {v : Value} (he : e = .ret ∨ e = .normal) (hr : fn.results = #[.tmp t]) (hl : look m t = some v) (hR : ∀ w', Ext w w' → R (.returned v) w') :
    retV P fn N R e m w := by
  have : ∃ v, (∀ a w', Agree N m a → Ext w w' → (results fn a.tmps).run P w' = .ok v w') ∧ ∀ w', Ext w w' → R (.returned v) w' :=
    ⟨v, fun a w' ha _ => by rw [results_tmp hr, slot_get ha hl], hR⟩
  rcases he with rfl | rfl <;> exact this
theorem ret0 {fn : Func} {R : Ending → World → Prop} {e : Exit} (he : e = .ret ∨ e = .normal) (hr : fn.results = #[]) (hR : ∀ w', Ext w w' → R (.returned (.tuple #[])) w') : retV P fn N R e m w := by
  have : ∃ v, (∀ a w', Agree N m a → Ext w w' → (results fn a.tmps).run P w' = .ok v w') ∧ ∀ w', Ext w w' → R (.returned v) w' :=
    ⟨_, fun a w' _ _ => by rw [results_none hr], hR⟩
  rcases he with rfl | rfl <;> exact this
theorem ret2 {fn : Func} {R : Ending → World → Prop} {e : Exit} {t u : Nat} {v x : Value} (he : e = .ret ∨ e = .normal) (hr : fn.results = #[.tmp t, .tmp u]) (hl : look m t = some v) (hx : look m u = some x)
    (hR : ∀ w', Ext w w' → R (.returned (.tuple #[v, x])) w') : retV P fn N R e m w := by
  have : ∃ v, (∀ a w', Agree N m a → Ext w w' → (results fn a.tmps).run P w' = .ok v w') ∧ ∀ w', Ext w w' → R (.returned v) w' :=
    ⟨_, fun a w' ha _ => by rw [results_tmp2 hr, slot_get ha hl, slot_get ha hx], hR⟩
  rcases he with rfl | rfl <;> exact this
/-- What one result variable holds. -/
def Res (P : Program) (N : Fr) (m : Env) (w : World) : ResultVar → Value → Prop
  | .tmp t, v => look m t = some v
  | .cell a t, v => ∃ ad, 0 ≤ N.n ∧ look m a = some (.pointer (some ad)) ∧ ∀ w', Ext w w' → (loadVar t ad).run P w' = .ok v w'
theorem res_agg {a : Nat} {t : TypeId} {n : Nat} {ad : Addr} {vs : List Value} [ht : TAgg P t n] (hl : look m a = some (.pointer (some ad))) (hc : Cells w ad vs) [hn : TLen vs n] : Res P N m w (.cell a t) (.agg vs.toArray) :=
  ⟨ad, Nat.zero_le _, hl, fun w' hw => by
    obtain ⟨inf, h1, h2⟩ := Option.map_eq_some_iff.1 ht.size
    have hld := run_loadCells_list (P := P) w' ad vs (fun j v hj => (hc.ext hw) j v hj)
    rw [hn.h] at hld
    simp [loadVar, ht.agg, sizeOf, typeInfo, h1, h2, hld]⟩
theorem res_one {a : Nat} {t : TypeId} {ad : Addr} {v : Value} [ht : TOne P t] (hl : look m a = some (.pointer (some ad))) (hc : w.cell? ad = some v) : Res P N m w (.cell a t) v :=
  ⟨ad, Nat.zero_le _, hl, fun w' hw => by simp [loadVar, ht.h, hw.cell hc]⟩
def resF (tmps : Array Value) : ResultVar → Sem Value
  | .tmp t => pure (tmps.getD t undef)
  | .cell a t => do loadVar t (← asAddr (tmps.getD a undef))
theorem results_eq (fn : Func) (tmps : Array Value) : results fn tmps = (do let vs ← fn.results.mapM (resF tmps); pure (if h : vs.size = 1 then vs[0] else .tuple vs)) := rfl
theorem run_res {r : ResultVar} {v : Value} (h : Res P N m w r v) {a : Act} {w' : World} (ha : Agree N m a) (hw : Ext w w') : (resF a.tmps r).run P w' = .ok v w' := by
  cases r with
  | tmp t => simp only [Res] at h; simp only [resF, slot_get ha h]; rfl
  | cell x t =>
    obtain ⟨ad, _, hl, hr⟩ := h
    simp only [resF, slot_get ha hl]
    simp [asAddr, hr w' hw]
theorem retR1 {fn : Func} {R : Ending → World → Prop} {e : Exit} {r : ResultVar} {v : Value} (he : e = .ret ∨ e = .normal) (hr : fn.results = #[r]) (hv : Res P N m w r v) (hR : ∀ w', Ext w w' → R (.returned v) w') :
    retV P fn N R e m w := by
  have : ∃ v, (∀ a w', Agree N m a → Ext w w' → (results fn a.tmps).run P w' = .ok v w') ∧ ∀ w', Ext w w' → R (.returned v) w' :=
    ⟨v, fun a w' ha hw => by
      rw [results_eq, hr]
      simp [run_res hv ha hw], hR⟩
  rcases he with rfl | rfl <;> exact this
theorem retR2 {fn : Func} {R : Ending → World → Prop} {e : Exit} {r s : ResultVar} {v x : Value} (he : e = .ret ∨ e = .normal) (hr : fn.results = #[r, s]) (hv : Res P N m w r v) (hx : Res P N m w s x)
    (hR : ∀ w', Ext w w' → R (.returned (.tuple #[v, x])) w') : retV P fn N R e m w := by
  have : ∃ v, (∀ a w', Agree N m a → Ext w w' → (results fn a.tmps).run P w' = .ok v w') ∧ ∀ w', Ext w w' → R (.returned v) w' :=
    ⟨_, fun a w' ha hw => by
      rw [results_eq, hr]
      simp [run_res hv ha hw, run_res hx ha hw], hR⟩
  rcases he with rfl | rfl <;> exact this
theorem retR3 {fn : Func} {R : Ending → World → Prop} {e : Exit} {r s q : ResultVar} {v x y : Value} (he : e = .ret ∨ e = .normal) (hr : fn.results = #[r, s, q]) (hv : Res P N m w r v) (hx : Res P N m w s x) (hy : Res P N m w q y)
    (hR : ∀ w', Ext w w' → R (.returned (.tuple #[v, x, y])) w') : retV P fn N R e m w := by
  have : ∃ v, (∀ a w', Agree N m a → Ext w w' → (results fn a.tmps).run P w' = .ok v w') ∧ ∀ w', Ext w w' → R (.returned v) w' :=
    ⟨_, fun a w' ha hw => by
      rw [results_eq, hr]
      simp [run_res hv ha hw, run_res hx ha hw, run_res hy ha hw], hR⟩
  rcases he with rfl | rfl <;> exact this
end
end Go.Proofs.Ytkdjbddjblahkaa

/-
  The rules for slices of one's own: append, the literal of one element; what becomes of blocks and rows.
  No conditions beyond those that each rule states.
-/
namespace Go.Proofs.Ytkdjbddjblahkaa
open Go.RowKit

section
variable {w w' w0 w1 : World} {base : Nat} {e : TypeId} {size : Nat} {v : Value} {n : Nat} {xs : List Value} {row : Option Nat}
theorem own_ext (h : w.ownsRow base e size v n xs) (he : Ext w w') : w'.ownsRow base e size v n xs := by
  refine ⟨h.1, h.2.imp id fun ⟨g, cap, cur, h1, h2, h3, h4⟩ => ⟨g, cap, cur, h1, h2, he.blk h3, h4⟩⟩
theorem own_grow (h : w.ownsRow base e size v n xs) (hg : w.grownBy w' row) (hne : v.ownBlock ≠ row ∨ v.ownBlock = none) : w'.ownsRow base e size v n xs := by
  refine ⟨h.1, h.2.imp id fun ⟨g, cap, cur, h1, h2, h3, h4⟩ => ⟨g, cap, cur, h1, h2, ?_, h4⟩⟩
  have hlt : g < w.heap.size := by
    rcases Nat.lt_or_ge g w.heap.size with h5 | h5
    · exact h5
    · rw [Array.getElem?_eq_none h5] at h3; cases h3
  rw [hg.block g hlt (by
    intro he
    rw [h1] at hne
    rcases hne with h6 | h6
    · exact h6 he
    · cases h6)]
  exact h3
theorem own_upd {b : Nat} {t : TypeId} {cs : List Value} (h : w.ownsRow base e size v n xs) (hu : Upd w w' b t cs) (hne : v.ownBlock ≠ some b) : w'.ownsRow base e size v n xs := by
  refine ⟨h.1, h.2.imp id fun ⟨g, cap, cur, h1, h2, h3, h4⟩ => ⟨g, cap, cur, h1, h2, ?_, h4⟩⟩
  rw [hu.other g (by intro he; subst he; rw [h1] at hne; exact hne rfl)]
  exact h3
theorem own_nil : w.ownsRow base e size (.slice none 0 0) 0 [] := ⟨by simp, .inl ⟨rfl, rfl⟩⟩
theorem grow_ext (he : Ext w w') (hg : w'.grownBy w1 row) : w.grownBy w1 row :=
  ⟨hg.os.trans he.os, hg.tape.trans he.tape, hg.output.trans he.output, Nat.le_trans he.size hg.size, fun k hk hne => by
    rw [hg.block k (Nat.lt_of_lt_of_le hk he.size) hne, he.block k hk]⟩
theorem grow_below (he : Ext w0 w) (hg : w.grownBy w1 row) (hr : ∀ k, row = some k → w0.heap.size ≤ k) : Ext w0 w1 :=
  ⟨hg.os.trans he.os, hg.tape.trans he.tape, hg.output.trans he.output, Nat.le_trans he.size hg.size, fun k hk => by
    rw [hg.block k (Nat.lt_of_lt_of_le hk he.size) (fun e => by have := hr k e.symm; omega), he.block k hk]⟩
theorem grow_blk {b : Nat} {t : TypeId} {cs : List Value} (hg : w.grownBy w1 row) (h : Blk w b t cs) (hne : some b ≠ row) : Blk w1 b t cs := by
  unfold Blk; rw [hg.block b h.lt hne]; exact h
theorem grow_cells {a : Addr} {vs : List Value} (hg : w.grownBy w1 row) (h : Cells w a vs) (hne : some a.block ≠ row) : Cells w1 a vs := fun j u hj => by
  have hc := h j u hj
  have hlt := World.block_lt_of_cell? w _ hc
  have hb : (a.add j).block = a.block := by unfold Addr.add; split <;> rfl
  rw [World.cell?_of_block (hg.block _ hlt (by rw [hb]; exact hne))]; exact hc
/-- The cells of a row of one's own. -/
theorem own_cells (h : w.ownsRow base e size v n xs) {a : Addr} {k c : Nat} (hv : v = .slice (some a) k c) : Cells w a xs := by
  subst hv
  obtain ⟨h0, h1 | ⟨g, cap, cur, h1, h2, h3, h4, h5, h6, h7⟩⟩ := h
  · cases h1.1
  · cases h1
    intro j u hj
    rw [add_blk, Nat.zero_add]
    have hj' : cur.toList[j]? = some u := by
      rw [← h7, List.getElem?_take] at hj
      split at hj
      · exact hj
      · cases hj
    have : cur[j]? = some u := by simpa using hj'
    simp [World.cell?, h3, this]
theorem own_len (h : w.ownsRow base e size v n xs) : ∃ ao c, v = .slice ao n c := by
  obtain ⟨h0, ⟨h1, rfl⟩ | ⟨g, cap, cur, h1, _⟩⟩ := h
  · exact ⟨_, _, h1⟩
  · exact ⟨_, _, h1⟩
end

section
variable {P : Program} {N : Fr} {ops : Array Oper} {K : Env → World → Prop} {m : Env} {w : World} {rest : List Oper} {ty : TypeId} {pos : String} {after : Array Edge} {g : Option (Nat × Bool)}
instance : TNext 0 1 := ⟨rfl⟩
instance : TNext 1 2 := ⟨rfl⟩
instance : TNext 2 3 := ⟨rfl⟩
instance : TNext 3 4 := ⟨rfl⟩
instance : TNext 4 5 := ⟨rfl⟩
instance : TNext 5 6 := ⟨rfl⟩
instance : TNext 6 7 := ⟨rfl⟩
instance : TNext 7 8 := ⟨rfl⟩
instance : TNext 8 9 := ⟨rfl⟩
instance : TNext 9 10 := ⟨rfl⟩
instance : TNext 10 11 := ⟨rfl⟩
instance : TNext 11 12 := ⟨rfl⟩
/-- The cells of the elements of a literal, one behind the other. -/
class TApp (a b : List Value) (c : outParam (List Value)) : Prop where h : a ++ b = c
instance (b : List Value) : TApp [] b b := ⟨rfl⟩
instance (x : Value) (a b c : List Value) [y : TApp a b c] : TApp (x :: a) b (x :: c) := ⟨by rw [List.cons_append, y.h]⟩
class TParts (n0 i : Nat) (vs : List (Nat × Value)) (out : outParam (List Value)) : Prop where
  fill : ∀ done init : List Value, done.length = i * n0 → init.length = vs.length * n0 → Instr.fill (fun j => some (j * n0, n0)) (done ++ init).toArray vs = some (done ++ out).toArray
instance (n0 i : Nat) : TParts n0 i [] [] := ⟨fun done init _ h => by
  have : init = [] := List.length_eq_zero_iff.1 (by simpa using h)
  subst this; simp [Instr.fill]⟩
theorem over_all : ∀ (xs1 bs : List Value), xs1.length = bs.length → over 0 xs1 bs = xs1
  | [], bs, h => by cases bs <;> simp_all [over]
  | x :: r, [], h => by simp at h
  | x :: r, y :: s, h => by simp only [over]; rw [over_all r s (by simpa using h)]
theorem over_skip : ∀ (d xs1 bs : List Value), over d.length xs1 (d ++ bs) = d ++ over 0 xs1 bs
  | [], xs1, bs => rfl
  | x :: d, xs1, bs => by simp only [List.length_cons, List.cons_append, over, over_skip d xs1 bs]
theorem over_part : ∀ (xs1 bs cs : List Value), xs1.length = bs.length → over 0 xs1 (bs ++ cs) = xs1 ++ cs
  | [], [], cs, _ => over_nil 0 cs
  | [], y :: s, cs, h => by simp at h
  | x :: r, [], cs, h => by simp at h
  | x :: r, y :: s, cs, h => by simp only [List.cons_append, over]; rw [over_part r s cs (by simpa using h)]
instance (n0 i i' : Nat) (v : Value) (vc out out' : List Value) (r : List (Nat × Value)) [hi : TNext i i'] [hv : TCells v vc] [hl : TLen vc n0] [hp : TParts n0 i' r out] [ha : TApp vc out out'] : TParts n0 i ((i, v) :: r) out' := ⟨fun done init hd hin => by
  have hlen := hl.h
  have e1 : v.cells.size = n0 := by rw [hv.h]; simp [hlen]
  have hin' : init.length = n0 + r.length * n0 := by rw [hin, List.length_cons, Nat.succ_mul, Nat.add_comm]
  unfold Instr.fill
  simp only
  rw [if_neg (by simp [e1]; omega)]
  have hf := fold_over (i * n0) vc 0 (done ++ init)
  rw [Nat.add_zero] at hf
  have e2 : v.cells.zipIdx.foldl (fun cs (x : Value × Nat) => match x with | (c, j) => cs.setIfInBounds (i * n0 + j) c) (done ++ init).toArray = (over (i * n0) vc (done ++ init)).toArray := by
    rw [← hf, ← Array.foldl_toList, Array.toList_zipIdx, hv.h]
  rw [e2]
  have e3 : over (i * n0) vc (done ++ init) = (done ++ vc) ++ init.drop n0 := by
    rw [← hd, over_skip]
    have := over_part vc (init.take n0) (init.drop n0) (by simp [hlen]; omega)
    rw [List.take_append_drop] at this
    rw [this, List.append_assoc]
  rw [e3]
  have := hp.fill (done ++ vc) (init.drop n0) (by rw [List.length_append, hd, hlen, ← hi.h, Nat.succ_mul]) (by rw [List.length_drop, hin']; omega)
  rw [this, ← ha.h, List.append_assoc]⟩
/-- The literal of a slice, every element given. -/
theorem Ops_lit {dst : Nat} {t e : TypeId} {k : Nat} {ps : Array (Nat × Operand)} {pvs : List (Nat × Value)} {out zs : List Value} {z : Value} {n0 b0 : Nat} [ht : TSlice P t e] [hs : TSize P e n0 b0] [hz : TZero P e z zs] (hon : On N ops m ⟨some dst, .buildSlice t k ps, ty, pos, after, g⟩) (hd : Nat.ble (dst + 1) N.n = true)
    (hx : evp m ps.toList = some pvs) [hp : TParts n0 0 pvs out] (hn : (Nat.ble 1 (k * n0) && Nat.ble (k * n0) 16777216 && Nat.beq pvs.length k) = true)
    (h : ∀ w1 b, New w w1 b e out → Ops P N ops false K rest ((dst, .slice (some ⟨b, 0, none⟩) k k) :: m) w1) : Ops P N ops false K (⟨some dst, .buildSlice t k ps, ty, pos, after, g⟩ :: rest) m w := by
  refine ⟨fun a w' ha hw => ?_⟩
  unfold wpList
  rw [if_pos (hon.out a ha)]
  refine .inl ?_
  simp only [Bool.and_eq_true] at hn
  have n1 := Nat.le_of_ble_eq_true hn.1.1
  have n2 := Nat.le_of_ble_eq_true hn.1.2
  have n3 := Nat.eq_of_beq_eq_true hn.2
  obtain ⟨inf, hi, hsz⟩ := Option.map_eq_some_iff.1 hs.h
  simp only [Prod.mk.injEq] at hsz
  obtain ⟨inf', hi', hz'⟩ := Option.bind_eq_some_iff.1 hz.h
  obtain rfl := Option.some.inj (hi.symm.trans hi')
  have hfill : Instr.fill (fun i => some (i * inf.size, inf.size)) ((Array.range (k * inf.size)).map (z.cells[· % z.cells.size]!)) pvs = some out.toArray := by
    rw [hsz.1]
    have := hp.fill [] ((Array.range (k * n0)).map (z.cells[· % z.cells.size]!)).toList (by simp) (by simp [n3])
    rw [List.nil_append, List.nil_append, Array.toArray_toList] at this
    exact this
  have e1 : ps.map (fun p => (p.1, a.eval p.2)) = pvs.toArray := by rw [← ha.evp hx, ← Array.toList_map]
  have hr : (execOp a.eval ⟨some dst, .buildSlice t k ps, ty, pos, after, g⟩).run P w' = .ok (.value (.slice (some ⟨w'.heap.size, 0, none⟩) k k)) (w'.alloc (.cells out.toArray e)) := by
    have := run_buildSlice (P := P) w' t e k pvs.toArray out.toArray inf z ht.h hi hz' (by rw [hsz.1]; omega) (by rw [hsz.1]; omega) hfill
    simp only [execOp, e1]
    simp [this]
  unfold Oper.wp
  rw [hr]
  exact (h _ _ (New.of hw e out)).out _ _ (ha.put (Nat.le_of_ble_eq_true hd) _) (Ext.refl _)

/-- append onto a row of one's own. -/
theorem Ops_append {dst : Nat} {t e : TypeId} {x y : Operand} {base n k c : Nat} {v : Value} {xs news zs : List Value} {z : Value} {n0 b0 : Nat} {ad : Addr} [ht : TSlice P t e] [hs : TSize P e n0 b0] [hz : TZero P e z zs]
    (hon : On N ops m ⟨some dst, .call { callee := .builtin .append, args := #[x, y], argTypes := #[t, t] }, ty, pos, after, g⟩) (hd : Nat.ble (dst + 1) N.n = true)
    (hx : ev m x = some v) (hy : ev m y = some (.slice (some ad) k c)) (hzs : (Nat.beq zs.length n0 && Nat.ble 1 n0) = true)
    (hown : w.ownsRow base e n0 v n xs) (hnews : Cells w ad news) (hl : news.length = k * n0) (h1 : ∀ u ∈ news, u.oneCell' = true) (h63 : n + k ≤ maxLen) (hb : (n + k) * b0 ≤ 140737488355328) (hbase : base ≤ w.heap.size)
    (h : ∀ v' w1, w1.ownsRow base e n0 v' (n + k) (xs ++ news) → w.grownBy w1 v.ownBlock → (v'.ownBlock = v.ownBlock ∨ ∃ b, v'.ownBlock = some b ∧ w.heap.size ≤ b) → Ops P N ops false K rest ((dst, v') :: m) w1) :
    Ops P N ops false K (⟨some dst, .call { callee := .builtin .append, args := #[x, y], argTypes := #[t, t] }, ty, pos, after, g⟩ :: rest) m w := by
  refine ⟨fun a w' ha hw => ?_⟩
  unfold wpList
  rw [if_pos (hon.out a ha)]
  refine .inl ?_
  simp only [Bool.and_eq_true] at hzs
  obtain ⟨inf, hi, hsz⟩ := Option.map_eq_some_iff.1 hs.h
  simp only [Prod.mk.injEq] at hsz
  obtain ⟨inf', hi', hz'⟩ := Option.bind_eq_some_iff.1 hz.h
  obtain rfl := Option.some.inj (hi.symm.trans hi')
  have hzc : z.cells.size = n0 := by rw [hz.cells]; simpa using Nat.eq_of_beq_eq_true hzs.1
  obtain ⟨v', w1, hr, o1, o2, _, o4⟩ := run_append_own_at (P := P) w' base t ty e inf z n0 b0 ht.h hi hz' hsz.1 hsz.2 hzc (Nat.le_of_ble_eq_true hzs.2) v n xs (own_ext hown hw) ad k c news hl
    (fun j u hj => (hnews.ext hw) j u hj) h1 h63 hb (Nat.le_trans hbase hw.size)
  have hr2 : (execOp a.eval ⟨some dst, .call { callee := .builtin .append, args := #[x, y], argTypes := #[t, t] }, ty, pos, after, g⟩).run P w' = .ok (.value v') w1 := by
    simp only [execOp, resolve, invoke, builtin, Sem.run_bind, Sem.run_pure, Result.andThen_ok, List.map_toArray, List.map_cons, List.map_nil, ha.ev hx, ha.ev hy, hr]
  unfold Oper.wp
  rw [hr2]
  exact (h v' w1 o1 (grow_ext hw o2) (o4.imp id (fun e => ⟨_, e, hw.size⟩))).out _ _ (ha.put (Nat.le_of_ble_eq_true hd) _) (Ext.refl _)
end
end Go.Proofs.Ytkdjbddjblahkaa

/-
  The rules for maps of one's own with integer keys: making, looking up, setting.
  No conditions beyond those that each rule states.
-/
namespace Go.Proofs.Ytkdjbddjblahkaa
open Go.RowKit Go.MapKept

/-- Block b holds a map; F: what it has for each key. -/
def MapI (w : World) (b : Nat) (k : IntKind) (F : Int → Option Value) : Prop :=
  ∃ es clock, w.heap[b]? = some (.map es clock) ∧ (∀ x ∈ es.toList, IsKey (.int k) x.key) ∧ es.toList.Pairwise (fun x y => x.key ≠ y.key) ∧ ∀ y v, F y = some v ↔ ∃ e ∈ es.toList, e.key = .int k y ∧ e.val = v
section
variable {w w' w1 : World} {b : Nat} {k : IntKind} {F : Int → Option Value} {row : Option Nat}
theorem MapI.lt (h : MapI w b k F) : b < w.heap.size := by
  obtain ⟨es, clock, hb, _⟩ := h
  exact (Array.getElem?_eq_some_iff.1 hb).1
theorem MapI.ext (h : MapI w b k F) (he : Ext w w') : MapI w' b k F := by
  obtain ⟨es, clock, hb, h2⟩ := h
  exact ⟨es, clock, he.blk hb, h2⟩
theorem MapI.grow (h : MapI w b k F) (hg : w.grownBy w1 row) (hne : some b ≠ row) : MapI w1 b k F := by
  have hlt := h.lt
  obtain ⟨es, clock, hb, h2⟩ := h
  exact ⟨es, clock, by rw [hg.block b hlt hne]; exact hb, h2⟩
theorem MapI.upd {b' : Nat} {t : TypeId} {cs : List Value} (h : MapI w b k F) (hu : Upd w w1 b' t cs) (hne : b ≠ b') : MapI w1 b k F := by
  obtain ⟨es, clock, hb, h2⟩ := h
  exact ⟨es, clock, by rw [hu.other b hne]; exact hb, h2⟩
/-- What a search finds. -/
theorem MapI.find (h : MapI w b k F) (y : Int) : ∃ es clock, w.heap[b]? = some (.map es clock) ∧
    ((Instr.findNow (.int k) (.int k y) es.toList 0 = some none ∧ F y = none) ∨ ∃ j v, Instr.findNow (.int k) (.int k y) es.toList 0 = some (some (j, v)) ∧ F y = some v) := by
  obtain ⟨es, clock, hb, hks, hpw, hF⟩ := h
  refine ⟨es, clock, hb, ?_⟩
  rcases findNow_spec (d := .int k) (k := .int k y) rfl es.toList 0 hks with ⟨h1, h2⟩ | ⟨j, e, h1, h2, h3⟩
  · refine .inl ⟨h1, ?_⟩
    cases hf : F y with
    | none => rfl
    | some v =>
      obtain ⟨e, he, hk, _⟩ := (hF y v).1 hf
      exact absurd hk (h2 e he)
  · exact .inr ⟨0 + j, e.val, h1, (hF y e.val).2 ⟨e, List.mem_of_getElem? h2, h3, rfl⟩⟩
end

section
variable {P : Program} {N : Fr} {ops : Array Oper} {K : Env → World → Prop} {m : Env} {w : World} {rest : List Oper} {ty : TypeId} {pos : String} {after : Array Edge} {g : Option (Nat × Bool)} {dst : Option Tmp}
theorem run_zero {et : TypeId} {z : Value} {zs : List Value} [hz : TZero P et z zs] (w : World) : (zeroValue et).run P w = .ok z w := by
  obtain ⟨inf, h1, h2⟩ := Option.bind_eq_some_iff.1 hz.h
  simp [zeroValue, typeInfo, h1, h2]
theorem Yl_lookup {t kt et : TypeId} {x i : Operand} {b : Nat} {k : IntKind} {y : Int} {z : Value} {zs : List Value} {F : Int → Option Value} [ht : TMap P t kt et] [hk : TInt P kt k] [hz : TZero P et z zs]
    (hx : ev m x = some (.map (some b))) (hi : ev m i = some (.int k y)) (hM : MapI w b k F) : Yl P N m w ⟨dst, .lookup t x i false, ty, pos, after, g⟩ ((F y).getD z) :=
  Yl_of_run fun ac w' ha hw => by
    obtain ⟨es, clock, hb, h2⟩ := (hM.ext hw).find y
    have hck := MapKept.run_checkKey (P := P) (w := w') (k := .int k y) hk.h rfl es.isEmpty 9999
    rcases h2 with ⟨h3, h4⟩ | ⟨j, v, h3, h4⟩
    · simp [execOp, ha.ev hx, ha.ev hi, Instr.lookup, run_underlying ht.h, MapKept.run_getObj_map hb, hck, MapKept.run_findKey hk.h h3, run_zero (P := P) (et := et), h4]
    · simp [execOp, ha.ev hx, ha.ev hi, Instr.lookup, run_underlying ht.h, MapKept.run_getObj_map hb, hck, MapKept.run_findKey hk.h h3, h4]
theorem Yl_lookup2 {t kt et : TypeId} {x i : Operand} {b : Nat} {k : IntKind} {y : Int} {z : Value} {zs : List Value} {F : Int → Option Value} [ht : TMap P t kt et] [hk : TInt P kt k] [hz : TZero P et z zs]
    (hx : ev m x = some (.map (some b))) (hi : ev m i = some (.int k y)) (hM : MapI w b k F) : Yl P N m w ⟨dst, .lookup t x i true, ty, pos, after, g⟩ (.tuple #[(F y).getD z, .bool (F y).isSome]) :=
  Yl_of_run fun ac w' ha hw => by
    obtain ⟨es, clock, hb, h2⟩ := (hM.ext hw).find y
    have hck := MapKept.run_checkKey (P := P) (w := w') (k := .int k y) hk.h rfl es.isEmpty 9999
    rcases h2 with ⟨h3, h4⟩ | ⟨j, v, h3, h4⟩
    · simp [execOp, ha.ev hx, ha.ev hi, Instr.lookup, run_underlying ht.h, MapKept.run_getObj_map hb, hck, MapKept.run_findKey hk.h h3, run_zero (P := P) (et := et), h4]
    · simp [execOp, ha.ev hx, ha.ev hi, Instr.lookup, run_underlying ht.h, MapKept.run_getObj_map hb, hck, MapKept.run_findKey hk.h h3, h4]
theorem Ops_makeMap {dst : Nat} {t kt et : TypeId} {k : IntKind} [TMap P t kt et] [TInt P kt k] (hon : On N ops m ⟨some dst, .makeMap t none, ty, pos, after, g⟩) (hd : Nat.ble (dst + 1) N.n = true)
    (h : ∀ w1 b, Ext w w1 → w.heap.size ≤ b → MapI w1 b k (fun _ => none) → Ops P N ops false K rest ((dst, .map (some b)) :: m) w1) : Ops P N ops false K (⟨some dst, .makeMap t none, ty, pos, after, g⟩ :: rest) m w := by
  refine ⟨fun a w' ha hw => ?_⟩
  unfold wpList
  rw [if_pos (hon.out a ha)]
  refine .inl ?_
  have hr : (execOp a.eval ⟨some dst, .makeMap t none, ty, pos, after, g⟩).run P w' = .ok (.value (.map (some w'.heap.size))) (w'.alloc (.map #[] 0)) := by
    simp only [execOp, Option.map_none, Sem.run_bind, run_makeMap, Result.andThen_ok]
    first | rfl | simp [run_makeMap]
  unfold Oper.wp
  rw [hr]
  exact (h _ _ (hw.alloc _) hw.size ⟨#[], 0, alloc_heap _ _, by simp, by simp, by simp⟩).out _ _ (ha.put (Nat.le_of_ble_eq_true hd) _) (Ext.refl _)
theorem Ops_mapUpdate {t kt et : TypeId} {x i u : Operand} {b : Nat} {k : IntKind} {y : Int} {v : Value} {F : Int → Option Value} [ht : TMap P t kt et] [hk : TInt P kt k] (hon : On N ops m ⟨none, .mapUpdate t x i u, ty, pos, after, g⟩)
    (hx : ev m x = some (.map (some b))) (hi : ev m i = some (.int k y)) (hu : ev m u = some v) (hM : MapI w b k F)
    (h : ∀ w1, w.grownBy w1 (some b) → MapI w1 b k (fun y' => if y' = y then some v else F y') → Ops P N ops false K rest m w1) : Ops P N ops false K (⟨none, .mapUpdate t x i u, ty, pos, after, g⟩ :: rest) m w := by
  refine ⟨fun a w' ha hw => ?_⟩
  unfold wpList
  rw [if_pos (hon.out a ha)]
  refine .inl ?_
  obtain ⟨es, clock, hb, hks, hpw, hF⟩ := hM.ext hw
  have hck := MapKept.run_checkKey (P := P) (w := w') (k := .int k y) hk.h rfl false 9999
  have grow : ∀ o, w.grownBy { w' with heap := w'.heap.setIfInBounds b o } (some b) := fun o => grow_ext hw ⟨rfl, rfl, rfl, by simp, fun k hk hne => by
    have : b ≠ k := fun e => hne (by rw [e])
    simp [this]⟩
  have heap : ∀ o, (w'.heap.setIfInBounds b o)[b]? = some o := fun o => (heap_set hb).1
  rcases findNow_spec (d := .int k) (k := .int k y) rfl es.toList 0 hks with ⟨h1, h2⟩ | ⟨j, e, h1, h2, h3⟩
  · have hr : (execOp a.eval ⟨none, .mapUpdate t x i u, ty, pos, after, g⟩).run P w' = .ok .skip { w' with heap := w'.heap.setIfInBounds b (.map (es.push { key := .int k y, val := v, born := clock }) (clock + 1)) } := by
      simp [execOp, ha.ev hx, ha.ev hi, ha.ev hu, Instr.mapUpdate, run_underlying ht.h, MapKept.run_getObj_map hb, hck, MapKept.run_findKey hk.h h1, MapKept.run_setObj_map _ hb]
    unfold Oper.wp
    rw [hr]
    refine (h _ (grow _) ⟨_, _, heap _, ?_, ?_, ?_⟩).out _ _ (ha.put_none _) (Ext.refl _)
    · intro x hx
      simp only [Array.toList_push, List.mem_append, List.mem_singleton] at hx
      rcases hx with hx | rfl
      · exact hks x hx
      · exact rfl
    · rw [Array.toList_push, List.pairwise_append]
      exact ⟨hpw, List.pairwise_singleton _ _, fun x hx z hz => by rw [List.mem_singleton.1 hz]; exact h2 x hx⟩
    · intro y' v'
      simp only [Array.toList_push, List.mem_append, List.mem_singleton]
      by_cases e : y' = y
      · subst e
        simp only [if_true, Option.some.injEq]
        constructor
        · rintro rfl; exact ⟨_, .inr rfl, rfl, rfl⟩
        · rintro ⟨x, hx | rfl, q1, q2⟩
          · exact absurd q1 (h2 x hx)
          · exact q2
      · simp only [e, if_false]
        rw [hF]
        constructor
        · rintro ⟨x, hx, q⟩; exact ⟨x, .inl hx, q⟩
        · rintro ⟨x, hx | rfl, q1, q2⟩
          · exact ⟨x, hx, q1, q2⟩
          · simp only [Value.int.injEq, true_and] at q1; exact absurd q1.symm e
  · have hj : es[j]? = some e := by simpa using h2
    have hr : (execOp a.eval ⟨none, .mapUpdate t x i u, ty, pos, after, g⟩).run P w' = .ok .skip { w' with heap := w'.heap.setIfInBounds b (.map (es.modify j fun e => { e with key := .int k y, val := v }) clock) } := by
      simp [execOp, ha.ev hx, ha.ev hi, ha.ev hu, Instr.mapUpdate, run_underlying ht.h, MapKept.run_getObj_map hb, hck, MapKept.run_findKey hk.h h1, hj, h3, run_keyThatStays (d := .int k) (k := .int k y) rfl, MapKept.run_setObj_map _ hb]
    unfold Oper.wp
    rw [hr]
    have hkey : ∀ e', es[j]? = some e' → ({ e' with key := .int k y, val := v } : MapEntry).key = e'.key := fun e' he' => by rw [hj] at he'; cases he'; exact h3.symm
    have hkeys := modify_keys (es := es) j (fun e => { e with key := .int k y, val := v }) hkey
    refine (h _ (grow _) ⟨_, _, heap _, isKey_modify hks _ _ hkey, ?_, ?_⟩).out _ _ (ha.put_none _) (Ext.refl _)
    · have := List.pairwise_map (f := (·.key)) (R := fun a b => a ≠ b) (l := (es.modify j fun e => { e with key := .int k y, val := v }).toList)
      rw [hkeys] at this
      exact this.1 (List.pairwise_map.2 hpw)
    · intro y' v'
      have hget : ∀ i, (es.modify j fun e => { e with key := .int k y, val := v })[i]? = if j = i then (es[i]?).map (fun e => { e with key := .int k y, val := v }) else es[i]? := fun i => by rw [Array.getElem?_modify]
      have mem : ∀ x, x ∈ (es.modify j fun e => { e with key := .int k y, val := v }).toList ↔ ∃ i, (if j = i then (es[i]?).map (fun e => { e with key := .int k y, val := v }) else es[i]?) = some x := fun x => by
        rw [List.mem_iff_getElem?]
        constructor
        · rintro ⟨i, hi⟩; exact ⟨i, by rw [← hget, ← Array.getElem?_toList]; exact hi⟩
        · rintro ⟨i, hi⟩; exact ⟨i, by rw [← hget, ← Array.getElem?_toList] at hi; exact hi⟩
      have uniq : ∀ x, x ∈ es.toList → x.key = .int k y → ∀ i, es[i]? = some x → i = j := fun x _ hxk i hi => by
        rcases Nat.lt_trichotomy i j with q | q | q
        · have h5 := List.pairwise_iff_getElem.1 hpw i j (by have := (Array.getElem?_eq_some_iff.1 hi).1; simpa using this) (by have := (Array.getElem?_eq_some_iff.1 hj).1; simpa using this) q
          obtain ⟨p1, p2⟩ := Array.getElem?_eq_some_iff.1 hi
          obtain ⟨p3, p4⟩ := Array.getElem?_eq_some_iff.1 hj
          simp only [Array.getElem_toList] at h5
          rw [p2, p4, hxk, h3] at h5; exact absurd rfl h5
        · exact q
        · have h5 := List.pairwise_iff_getElem.1 hpw j i (by have := (Array.getElem?_eq_some_iff.1 hj).1; simpa using this) (by have := (Array.getElem?_eq_some_iff.1 hi).1; simpa using this) q
          obtain ⟨p1, p2⟩ := Array.getElem?_eq_some_iff.1 hi
          obtain ⟨p3, p4⟩ := Array.getElem?_eq_some_iff.1 hj
          simp only [Array.getElem_toList] at h5
          rw [p2, p4, hxk, h3] at h5; exact absurd rfl h5
      by_cases e9 : y' = y
      · subst e9
        simp only [if_true, Option.some.injEq]
        constructor
        · rintro rfl
          exact ⟨{ e with key := .int k y', val := v }, (mem _).2 ⟨j, by rw [if_pos rfl, hj]; rfl⟩, rfl, rfl⟩
        · rintro ⟨x, hx, q1, q2⟩
          obtain ⟨i, hi⟩ := (mem x).1 hx
          by_cases e8 : j = i
          · subst e8
            rw [if_pos rfl, hj] at hi
            simp only [Option.map_some, Option.some.injEq] at hi
            subst hi; exact q2
          · rw [if_neg e8] at hi
            exact absurd (uniq x (List.mem_iff_getElem?.2 ⟨i, by simpa using hi⟩) q1 i hi).symm e8
      · simp only [e9, if_false]
        rw [hF]
        constructor
        · rintro ⟨x, hx, q1, q2⟩
          obtain ⟨i, hi⟩ := List.mem_iff_getElem?.1 hx
          refine ⟨x, (mem x).2 ⟨i, ?_⟩, q1, q2⟩
          have hi' : es[i]? = some x := by simpa using hi
          rw [if_neg (fun e8 => by
            subst e8
            rw [hj] at hi'; cases hi'
            rw [h3] at q1
            simp only [Value.int.injEq, true_and] at q1
            exact e9 q1.symm)]
          exact hi'
        · rintro ⟨x, hx, q1, q2⟩
          obtain ⟨i, hi⟩ := (mem x).1 hx
          by_cases e8 : j = i
          · subst e8
            rw [if_pos rfl, hj] at hi
            simp only [Option.map_some, Option.some.injEq] at hi
            subst hi
            simp only [Value.int.injEq, true_and] at q1
            exact absurd q1.symm e9
          · rw [if_neg e8] at hi
            exact ⟨x, List.mem_iff_getElem?.2 ⟨i, by simpa using hi⟩, q1, q2⟩
end
/-! ### The automatic step -/
section
variable {P : Program} {N : Fr} {m : Env} {w : World}
/-- A value that can be read off the frame. -/
theorem YlA {o : Oper} {v : Value} (hq : Yl P N m w o v := by first | exact Yl_move rfl | exact Yl_assign rfl | exact Yl_pick_true rfl rfl | exact Yl_pick_false rfl rfl | exact Yl_pick rfl rfl rfl | exact Yl_cmp rfl rfl rfl | exact Yl_arith_in rfl rfl rfl (by first | assumption | (simp only [InK]; omega)) | exact Yl_arith rfl rfl rfl | exact Yl_bits rfl rfl rfl | exact Yl_quo_in rfl rfl (by first | assumption | omega) (by first | assumption | omega) | exact Yl_rem_in rfl rfl (by first | assumption | omega) (by first | assumption | omega) | exact Yl_shl_in rfl rfl (by first | assumption | (simp only [IntKind.bits]; omega)) (by first | assumption | (simp only [InK]; omega)) | exact Yl_shl rfl rfl (by first | assumption | (simp only [IntKind.bits]; omega)) | exact Yl_shr1 rfl rfl | exact Yl_shr rfl rfl (by first | assumption | (simp only [IntKind.bits]; omega)) | exact Yl_eqb rfl rfl | exact Yl_neb rfl rfl | exact Yl_eqnil rfl rfl | exact Yl_nenil rfl rfl | exact Yl_not rfl | exact Yl_conv_in rfl (by first | assumption | (simp only [InK]; omega)) | exact Yl_conv rfl | exact Yl_nilCheck rfl | exact Yl_fieldAddr0 rfl | exact Yl_fieldAddr rfl | exact Yl_field1 rfl rfl | exact Yl_fieldN rfl | exact Yl_extract rfl rfl | exact Yl_eqS rfl rfl | exact Yl_neS rfl rfl | exact Yl_build rfl | exact Yl_len rfl | exact Yl_min rfl rfl | exact Yl_max rfl rfl | exact Yl_makeFunc rfl rfl | (apply Yl_load; (case hx => rfl); (case hc => (first | assumption | (apply Blk.cell; assumption; rfl) | (apply Blk.cell_add; assumption; rfl)))) | (apply Yl_loadN; (case hx => rfl); (case hc => (first | assumption | (apply Blk.cells; assumption))); (case hn => infer_instance))) : Yl P N m w o v := hq
end
/-! ### The automatic step, in short: each a lemma whose side goals are its default arguments -/
section
variable {P : Program} {N : Fr} {ops : Array Oper} {dr : Bool} {K : Env → World → Prop} {Q : Exit → Env → World → Prop} {m : Env} {w : World}
theorem Va {o : Oper} (h : On N ops m o := by first | exact on_none | exact on_guard rfl rfl) : On N ops m o := h
/-- G follows from R, by the form of the code. -/
class Nx (G : Prop) (R : outParam Prop) : Prop where imp : R → G
/-- In a frame that is no round's nothing is asked of the operations. -/
class NoD (N : Fr) (l : List Oper) : Prop where h : NoDef N.ro l
instance {n : Nat} {ds : List Deferred} {l : List Oper} : NoD ⟨n, ds, none⟩ l := ⟨.inl rfl⟩
theorem Vx {G R : Prop} [h : Nx G R] (r : R) : G := h.imp r
instance {x y : Code} : Nx (V P N (.seq x y) Q m w) (V P N x (thenV (fun m w => V P N y Q m w) Q) m w) := ⟨V_seq⟩
instance {id : Nat} {c : Code} : Nx (V P N (.block id c) Q m w) (V P N c (blockV id Q) m w) := ⟨V_block⟩
instance {id : Nat} {l : List Oper} [hn : NoD N l] : Nx (V P N (.region id l.toArray false) Q m w) (Ops P N l.toArray false (fun m w => Q .normal m w) l m w) := ⟨fun h => V_region h hn.h⟩
/-- In a round. -/
theorem Vn {id : Nat} {l : List Oper} (h : Ops P N l.toArray false (fun m w => Q .normal m w) l m w) (hnd : NoDef N.ro l := by exact .inr (by kernel_rfl)) : V P N (.region id l.toArray false) Q m w := V_region h hnd
instance : Nx (V P N .skip Q m w) (Q .normal m w) := ⟨V_skip⟩
instance : Nx (V P N .ret Q m w) (Q .ret m w) := ⟨V_ret⟩
instance {id : Nat} : Nx (V P N (.exit id) Q m w) (Q (.exit id) m w) := ⟨V_exit⟩
instance : Nx (thenV K Q .normal m w) (K m w) := ⟨then_normal⟩
instance : Nx (thenV K Q .ret m w) (Q .ret m w) := ⟨then_ret⟩
instance {id : Nat} : Nx (thenV K Q (.exit id) m w) (Q (.exit id) m w) := ⟨then_exit⟩
instance {id : Nat} : Nx (blockV id Q .normal m w) (Q .normal m w) := ⟨block_normal⟩
instance {id : Nat} : Nx (blockV id Q .ret m w) (Q .ret m w) := ⟨block_ret⟩
instance {id : Nat} : Nx (blockV id Q (.exit id) m w) (Q .normal m w) := ⟨block_hit⟩
theorem Vm {id id' : Nat} (h : Q (.exit id') m w) (hne : Nat.beq id' id = false := by rfl) : blockV id Q (.exit id') m w := block_miss hne h
theorem Vr {id : Nat} {l : List Oper} (h : Ops P N l.toArray true (fun m w => Q .normal m w) l m w) (h1 : l.all (fun o => stillB o.op) = true := by rfl) (hm : P.follows .mixedOrders = true := by kernel_rfl) (hB : Region.lexB .any l.toArray = true := by kernel_rfl) (hnd : NoDef N.ro l := by first | exact .inl rfl | exact .inr (by kernel_rfl)) :
    V P N (.region id l.toArray true) Q m w := V_region_still h1 hm hB h hnd
theorem Vt {c : Operand} {x y : Code} (h : V P N x Q m w) (hc : ev m c = some (.bool true) := by rfl) : V P N (.cond c x y) Q m w := V_true hc h
theorem Vf {c : Operand} {x y : Code} (h : V P N y Q m w) (hc : ev m c = some (.bool false) := by rfl) : V P N (.cond c x y) Q m w := V_false hc h
theorem Ve {l : List Oper} (h : K m w) (hl : l = [] := by rfl) : Ops P N ops dr K l m w := Ops_end hl h
theorem Vo {dst : Nat} {op : Op} {ty : TypeId} {pos : String} {after : Array Edge} {g : Option (Nat × Bool)} {rest : List Oper} (h : Ops P N ops dr K rest ((dst, .tuple #[]) :: m) w)
    (hoff : Off N ops m ⟨some dst, op, ty, pos, after, g⟩ := by first | exact off_guard rfl rfl rfl | exact off_undef rfl rfl) (hd : Nat.ble (dst + 1) N.n = true := by rfl) :
    Ops P N ops dr K (⟨some dst, op, ty, pos, after, g⟩ :: rest) m w := Ops_off hoff hd h
theorem Vz {op : Op} {ty : TypeId} {pos : String} {after : Array Edge} {g : Option (Nat × Bool)} {rest : List Oper} {v : Value} (h : Ops P N ops dr K rest m w)
    (hon : On N ops m ⟨none, op, ty, pos, after, g⟩ := by exact on_none) (hq : Yl P N m w ⟨none, op, ty, pos, after, g⟩ v := by exact Yl_assign rfl) : Ops P N ops dr K (⟨none, op, ty, pos, after, g⟩ :: rest) m w := Ops_q0 hon hq h
end
end Go.Proofs.Ytkdjbddjblahkaa

/-
  More rules of the walk: ways that meet again; calls whose results lie in new memory.
  No conditions beyond those that each rule states.
-/
namespace Go.Proofs.Ytkdjbddjblahkaa
open Go.RowKit

section
variable {P : Program} {N : Fr} {Q : Exit → Env → World → Prop} {m : Env} {w : World}
/-- A piece that may go several ways, which meet behind it: 's' is what is known there. -/
theorem V_meet {x : Code} {K : Env → World → Prop} {σ : Type} (e : σ → Env) (I : σ → World → Prop) (hK : ∀ m1 m2 w, Sub m1 m2 → K m1 w → K m2 w)
    (h1 : V P N x (thenV (fun m' w' => ∃ s, Sub (e s) m' ∧ I s w') Q) m w) (h2 : ∀ s w', I s w' → K (e s) w') : V P N x (thenV K Q) m w :=
  V_mono (fun ex m1 w1 hq => by
    cases ex with
    | normal => obtain ⟨s, hs, hI⟩ := hq; exact hK _ _ _ hs (h2 s w1 hI)
    | _ => exact hq) h1
theorem V_meet1 {x y : Code} {σ : Type} (e : σ → Env) (I : σ → World → Prop)
    (h1 : V P N x (thenV (fun m' w' => ∃ s, Sub (e s) m' ∧ I s w') Q) m w) (h2 : ∀ s w', I s w' → V P N y Q (e s) w') : V P N x (thenV (fun m w => V P N y Q m w) Q) m w :=
  V_meet e I (fun _ _ _ hs h => V_sub hs h) h1 h2
end

section
variable {P : Program} {N : Fr} {ops : Array Oper} {K : Env → World → Prop} {m : Env} {w : World} {rest : List Oper} {ty : TypeId} {pos : String} {after : Array Edge} {g : Option (Nat × Bool)}
/-- A row of operations that may go several ways and meets again at its end, the world being the same. -/
theorem Ops_meet {dr : Bool} {l : List Oper} (M : Env) (h1 : Ops P N ops dr (fun m' w' => Sub M m' ∧ w' = w) l m w) (h2 : K M w) : Ops P N ops dr K l m w :=
  Ops_cut l.length M (by rw [List.take_length]; exact h1) (by rw [List.drop_length]; exact Ops_end rfl h2)
/-- The call returned something of which 'R' is known, in a world that has grown. -/
abbrev Gives (R : Value → World → Prop) (w : World) : Ending → World → Prop := fun e w' => ∃ v, e = .returned v ∧ Ext w w' ∧ R v w'
theorem Gives_mk {R : Value → World → Prop} {v : Value} {w w1 : World} (hR : ∀ w', Ext w1 w' → R v w') (he : Ext w w1) : ∀ w', Ext w1 w' → Gives R w (.returned v) w' := fun w' h => ⟨v, rfl, he.trans h, hR w' h⟩
/-- A call in the text's order, whose result is known by 'R' alone. -/
theorem Ops_callR {dst : Nat} {f : FuncId} {xs : Array Operand} {ats : Array TypeId} {vs : List Value} {R : World → Value → World → Prop} [hf : TFun P f]
    (hon : On N ops m ⟨some dst, .call { callee := .value (.func f), args := xs, argTypes := ats }, ty, pos, after, g⟩) (hd : Nat.ble (dst + 1) N.n = true) (hx : evs m xs.toList = some vs)
    (hc : ∀ w', Ext w w' → Calls P f vs.toArray w' (Gives (R w') w'))
    (h : ∀ v w1 w0, Ext w w0 → Ext w0 w1 → R w0 v w1 → Ops P N ops false K rest ((dst, v) :: m) w1) : Ops P N ops false K (⟨some dst, .call { callee := .value (.func f), args := xs, argTypes := ats }, ty, pos, after, g⟩ :: rest) m w := by
  refine ⟨fun a w' ha hw => ?_⟩
  unfold wpList
  rw [if_pos (hon.out a ha)]
  refine .inl ?_
  have e1 : xs.map a.eval = vs.toArray := map_evs ha hx
  have hr : (execOp a.eval ⟨some dst, .call { callee := .value (.func f), args := xs, argTypes := ats }, ty, pos, after, g⟩).run P w' = .ok (.enter f vs.toArray) w' := by
    rw [execOp_call_go, e1]
    simpa using hf.h vs.toArray w'
  unfold Oper.wp
  rw [hr]
  refine Calls.mono (hc w' hw) fun e w2 hg => ?_
  obtain ⟨v, rfl, he, hR⟩ := hg
  exact (h v w2 w' hw he hR).out _ _ (ha.put (Nat.le_of_ble_eq_true hd) v) (Ext.refl _)
end

/-! ### Lists in memory -/
/-- The elements of a slice, each of 'n0' cells. -/
def Arr (w : World) (n0 : Nat) (ao : Option Addr) (L : List (List Value)) : Prop := ∀ k x, L[k]? = some x → ∃ ad, ao = some ad ∧ Cells w (ad.add (k * n0)) x
section
variable {w w' w0 w1 : World} {base n0 : Nat} {e : TypeId} {v : Value} {L : List (List Value)} {ao : Option Addr} {row : Option Nat}
theorem Arr.ext (h : Arr w n0 ao L) (he : Ext w w') : Arr w' n0 ao L := fun k x hk => by
  obtain ⟨ad, h1, h2⟩ := h k x hk
  exact ⟨ad, h1, h2.ext he⟩
theorem Arr.nil : Arr w n0 ao [] := fun k x hk => by simp at hk
structure Own (w : World) (base : Nat) (e : TypeId) (n0 : Nat) (v : Value) (L : List (List Value)) : Prop where
  row : w.ownsRow base e n0 v L.length L.flatten
  len : ∀ x ∈ L, x.length = n0
theorem Own.ext (h : Own w base e n0 v L) (he : Ext w w') : Own w' base e n0 v L := ⟨own_ext h.row he, h.len⟩
theorem Own.grow (h : Own w base e n0 v L) (hg : w.grownBy w' row) (hne : v.ownBlock ≠ row ∨ v.ownBlock = none) : Own w' base e n0 v L := ⟨own_grow h.row hg hne, h.len⟩
theorem Own.upd {b : Nat} {t : TypeId} {cs : List Value} (h : Own w base e n0 v L) (hu : Upd w w' b t cs) (hne : v.ownBlock ≠ some b) : Own w' base e n0 v L := ⟨own_upd h.row hu hne, h.len⟩
theorem Own.nil : Own w base e n0 (.slice none 0 0) [] := ⟨own_nil, by simp⟩
theorem Own.ge (h : Own w base e n0 v L) {b : Nat} (hb : v.ownBlock = some b) : base ≤ b := by
  obtain ⟨_, ⟨h1, _⟩ | ⟨g, cap, cur, h1, h2, _⟩⟩ := h.row
  · subst h1; cases hb
  · subst h1; cases hb; exact h2
theorem Own.lt (h : Own w base e n0 v L) {b : Nat} (hb : v.ownBlock = some b) : b < w.heap.size := by
  obtain ⟨_, ⟨h1, _⟩ | ⟨g, cap, cur, h1, h2, h3, _⟩⟩ := h.row
  · subst h1; cases hb
  · subst h1; cases hb
    exact (Array.getElem?_eq_some_iff.1 h3).1
theorem Own.mono {base' : Nat} (h : Own w base e n0 v L) (hb : base' ≤ base) : Own w base' e n0 v L :=
  ⟨⟨h.row.1, h.row.2.imp id fun ⟨g, cap, cur, h1, h2, h3⟩ => ⟨g, cap, cur, h1, Nat.le_trans hb h2, h3⟩⟩, h.len⟩
theorem add_add (a : Addr) (i j : Nat) : (a.add i).add j = a.add (i + j) := by
  unfold Addr.add
  by_cases hi : i = 0
  · subst hi; simp
  · by_cases hj : j = 0
    · subst hj; simp
    · simp [hi, hj, Nat.add_assoc]
theorem cells_flat : ∀ {L : List (List Value)} {w : World} {a : Addr}, Cells w a L.flatten → (∀ x ∈ L, x.length = n0) → ∀ k x, L[k]? = some x → Cells w (a.add (k * n0)) x
  | [], _, _, _, _, k, x, hk => by simp at hk
  | y :: r, w, a, h, hl, 0, x, hk => by
    simp only [List.getElem?_cons_zero, Option.some.injEq] at hk
    subst hk
    intro j u hj
    have hlt : j < y.length := (List.getElem?_eq_some_iff.1 hj).1
    have := h j u (by rw [List.flatten_cons, List.getElem?_append_left hlt]; exact hj)
    rw [add_add, Nat.zero_mul, Nat.zero_add]; exact this
  | y :: r, w, a, h, hl, k + 1, x, hk => by
    simp only [List.getElem?_cons_succ] at hk
    have hy := hl y (List.mem_cons_self ..)
    have h' : Cells w (a.add n0) r.flatten := fun j u hj => by
      rw [add_add]
      refine h (n0 + j) u ?_
      rw [List.flatten_cons, List.getElem?_append_right (by omega), hy]
      simpa using hj
    have := cells_flat (a := a.add n0) h' (fun z hz => hl z (List.mem_cons_of_mem _ hz)) k x hk
    rw [add_add, Nat.add_comm, ← Nat.succ_mul] at this; exact this
theorem flat_of : ∀ {L : List (List Value)} {w : World} {a : Addr}, (∀ k x, L[k]? = some x → Cells w (a.add (k * n0)) x) → (∀ x ∈ L, x.length = n0) → Cells w a L.flatten
  | [], _, _, _, _ => fun j u hj => by simp at hj
  | y :: r, w, a, h, hl => fun j u hj => by
    have hy := hl y (List.mem_cons_self ..)
    rw [List.flatten_cons, List.getElem?_append] at hj
    split at hj
    · have := h 0 y rfl j u hj
      rw [add_add, Nat.zero_mul, Nat.zero_add] at this; exact this
    · rename_i hge
      have := flat_of (L := r) (w := w) (a := a.add n0) (fun k x hk => by
        have := h (k + 1) x (by simpa using hk)
        rw [Nat.succ_mul, Nat.add_comm, ← add_add] at this; exact this) (fun z hz => hl z (List.mem_cons_of_mem _ hz)) _ u hj
      rw [add_add, hy] at this
      rw [show n0 + (j - n0) = j by omega] at this
      exact this
/-- What a slice of one's own is, and what it holds. -/
theorem Own.slice (h : Own w base e n0 v L) : ∃ ao c, v = .slice ao L.length c ∧ Arr w n0 ao L := by
  obtain ⟨ao, c, rfl⟩ := own_len h.row
  refine ⟨ao, c, rfl, fun k x hk => ?_⟩
  cases ao with
  | none =>
    obtain ⟨_, ⟨h1, h2⟩ | ⟨g, cap, cur, h1, _⟩⟩ := h.row
    · obtain rfl : L = [] := List.length_eq_zero_iff.1 h2
      simp at hk
    · cases h1
  | some ad => exact ⟨ad, rfl, cells_flat (a := ad) (own_cells h.row rfl) h.len k x hk⟩
theorem dis_app {v v' : Value} {b : Nat} {w : World} (h : v'.ownBlock = v.ownBlock ∨ ∃ b, v'.ownBlock = some b ∧ w.heap.size ≤ b) (hne : v.ownBlock ≠ some b) (hb : b < w.heap.size) : v'.ownBlock ≠ some b := by
  rcases h with h | ⟨c, h1, h2⟩
  · rw [h]; exact hne
  · rw [h1]; intro e; cases e; omega
theorem Own.len_le (h : Own w base e n0 v L) : L.length ≤ maxLen := by
  obtain ⟨_, ⟨_, h2⟩ | ⟨g, cap, cur, h1, _, _, h4, h5, _⟩⟩ := h.row
  · rw [h2]; exact Nat.zero_le _
  · exact Nat.le_trans h4 h5
end

section
variable {P : Program} {N : Fr} {ops : Array Oper} {K : Env → World → Prop} {m : Env} {w : World} {rest : List Oper} {ty : TypeId} {pos : String} {after : Array Edge} {g : Option (Nat × Bool)}
/-- append of more elements onto a slice of one's own. -/
theorem Ops_appendL {dst : Nat} {t e : TypeId} {x y : Operand} {base k c : Nat} {v : Value} {L M : List (List Value)} {zs : List Value} {z : Value} {n0 b0 : Nat} {ad : Addr} [ht : TSlice P t e] [hs : TSize P e n0 b0] [hz : TZero P e z zs]
    (hon : On N ops m ⟨some dst, .call { callee := .builtin .append, args := #[x, y], argTypes := #[t, t] }, ty, pos, after, g⟩) (hd : Nat.ble (dst + 1) N.n = true)
    (hx : ev m x = some v) (hy : ev m y = some (.slice (some ad) k c)) (hzs : (Nat.beq zs.length n0 && Nat.ble 1 n0) = true)
    (hown : Own w base e n0 v L) (hnews : Cells w ad M.flatten) (hl : M.length = k) (hM : ∀ u ∈ M, u.length = n0) (h1 : ∀ u ∈ M, u.all (fun u => u.oneCell') = true) (hb : (L.length + k) * b0 ≤ 140737488355328) (hb0 : 1 ≤ b0) (hbase : base ≤ w.heap.size)
    (h : ∀ v' w1, Own w1 base e n0 v' (L ++ M) → w.grownBy w1 v.ownBlock → (v'.ownBlock = v.ownBlock ∨ ∃ b, v'.ownBlock = some b ∧ w.heap.size ≤ b) → Ops P N ops false K rest ((dst, v') :: m) w1) :
    Ops P N ops false K (⟨some dst, .call { callee := .builtin .append, args := #[x, y], argTypes := #[t, t] }, ty, pos, after, g⟩ :: rest) m w := by
  have hle : L.length + k ≤ 140737488355328 := Nat.le_trans (Nat.le_mul_of_pos_right _ hb0) hb
  have h63 : L.length + k ≤ maxLen := by unfold maxLen; omega
  have hfl : ∀ M : List (List Value), (∀ u ∈ M, u.length = n0) → M.flatten.length = M.length * n0 := by
    intro M hM
    induction M with
    | nil => simp
    | cons a r ih =>
      rw [List.flatten_cons, List.length_append, ih (fun u hu => hM u (List.mem_cons_of_mem _ hu)), hM a (List.mem_cons_self ..), List.length_cons, Nat.succ_mul, Nat.add_comm]
  refine Ops_append (n := L.length) hon hd hx hy hzs hown.row hnews (by rw [hfl M hM, hl]) (fun u hu => ?_) h63 hb hbase (fun v' w1 o g d => h v' w1 ⟨?_, ?_⟩ g d)
  · obtain ⟨l, hl1, hl2⟩ := List.mem_flatten.1 hu
    exact List.all_eq_true.1 (h1 l hl1) u hl2
  · rw [List.length_append, List.flatten_append, hl]; exact o
  · intro u hu
    rcases List.mem_append.1 hu with hu | hu
    · exact hown.len u hu
    · exact hM u hu
theorem Ops_append1 {dst : Nat} {t e : TypeId} {x y : Operand} {base c : Nat} {v : Value} {L : List (List Value)} {u zs : List Value} {z : Value} {n0 b0 : Nat} {ad : Addr} [ht : TSlice P t e] [hs : TSize P e n0 b0] [hz : TZero P e z zs]
    (hon : On N ops m ⟨some dst, .call { callee := .builtin .append, args := #[x, y], argTypes := #[t, t] }, ty, pos, after, g⟩) (hd : Nat.ble (dst + 1) N.n = true)
    (hx : ev m x = some v) (hy : ev m y = some (.slice (some ad) 1 c)) (hzs : (Nat.beq zs.length n0 && Nat.ble 1 n0) = true)
    (hown : Own w base e n0 v L) (hnews : Cells w ad u) (hM : TLen u n0) (h1 : OneAll u) (hb : (L.length + 1) * b0 ≤ 140737488355328) (hb0 : Nat.ble 1 b0 = true) (hbase : base ≤ w.heap.size)
    (h : ∀ v' w1, Own w1 base e n0 v' (L ++ [u]) → w.grownBy w1 v.ownBlock → (v'.ownBlock = v.ownBlock ∨ ∃ b, v'.ownBlock = some b ∧ w.heap.size ≤ b) → Ops P N ops false K rest ((dst, v') :: m) w1) :
    Ops P N ops false K (⟨some dst, .call { callee := .builtin .append, args := #[x, y], argTypes := #[t, t] }, ty, pos, after, g⟩ :: rest) m w :=
  Ops_appendL (M := [u]) hon hd hx hy hzs hown (by simpa using hnews) rfl (by simpa using hM.h) (by simpa using h1.h) hb (Nat.le_of_ble_eq_true hb0) hbase (by simpa using h)
/-- The literal of a slice without elements. -/
theorem Ops_lit0 {dst : Nat} {t e : TypeId} {zs : List Value} {z : Value} {n0 b0 : Nat} [ht : TSlice P t e] [hs : TSize P e n0 b0] [hz : TZero P e z zs] (hon : On N ops m ⟨some dst, .buildSlice t 0 #[], ty, pos, after, g⟩) (hd : Nat.ble (dst + 1) N.n = true)
    (h : ∀ w1 b, New w w1 b e [] → Own w1 w.heap.size e n0 (.slice (some ⟨b, 0, none⟩) 0 0) [] → Ops P N ops false K rest ((dst, .slice (some ⟨b, 0, none⟩) 0 0) :: m) w1) : Ops P N ops false K (⟨some dst, .buildSlice t 0 #[], ty, pos, after, g⟩ :: rest) m w := by
  refine ⟨fun a w' ha hw => ?_⟩
  unfold wpList
  rw [if_pos (hon.out a ha)]
  refine .inl ?_
  obtain ⟨inf, hi, hsz⟩ := Option.map_eq_some_iff.1 hs.h
  simp only [Prod.mk.injEq] at hsz
  obtain ⟨inf', hi', hz'⟩ := Option.bind_eq_some_iff.1 hz.h
  obtain rfl := Option.some.inj (hi.symm.trans hi')
  have hr : (execOp a.eval ⟨some dst, .buildSlice t 0 #[], ty, pos, after, g⟩).run P w' = .ok (.value (.slice (some ⟨w'.heap.size, 0, none⟩) 0 0)) (w'.alloc (.cells #[] e)) := by
    simp [execOp, Instr.buildSlice, run_underlying ht.h, sizeOf, typeInfo, hi, newRow, Instr.fill, show Array.range 0 = #[] from rfl]
  unfold Oper.wp
  rw [hr]
  have hn := New.of hw e []
  refine (h _ _ hn ⟨⟨by simp, .inr ⟨w'.heap.size, 0, #[], rfl, hn.ge, ?_, Nat.le_refl _, Nat.zero_le _, by simp, by simp⟩⟩, by simp⟩).out _ _ (ha.put (Nat.le_of_ble_eq_true hd) _) (Ext.refl _)
  exact alloc_heap w' _
end

/-! ### A store into an element of a slice of one's own -/
theorem flatten_set {n0 : Nat} {u : Value} {f : Nat} (hf : f < n0) : ∀ (L : List (List Value)) (i : Nat) (x : List Value), (∀ x ∈ L, x.length = n0) → L[i]? = some x → (L.set i (x.set f u)).flatten = L.flatten.set (i * n0 + f) u
  | [], i, x, _, h => by simp at h
  | y :: r, 0, x, hl, h => by
    simp only [List.getElem?_cons_zero, Option.some.injEq] at h
    subst h
    have := hl y (List.mem_cons_self ..)
    rw [List.set_cons_zero, List.flatten_cons, List.flatten_cons, Nat.zero_mul, Nat.zero_add, List.set_append_left _ _ (by omega)]
  | y :: r, i + 1, x, hl, h => by
    simp only [List.getElem?_cons_succ] at h
    have := hl y (List.mem_cons_self ..)
    rw [List.set_cons_succ, List.flatten_cons, List.flatten_cons, flatten_set hf r i x (fun z hz => hl z (List.mem_cons_of_mem _ hz)) h, List.set_append_right _ _ (by rw [Nat.succ_mul]; omega)]
    congr 2
    rw [Nat.succ_mul]; omega
theorem splice_one : ∀ (cs : List Value) (o : Nat) (u : Value), o < cs.length → splice cs o [u] = cs.set o u := by
  intro cs o u h
  unfold splice
  rw [List.set_eq_take_append_cons_drop, if_pos h]
  simp
theorem Upd.grown {w w1 : World} {b : Nat} {t : TypeId} {cs : List Value} (h : Upd w w1 b t cs) : w.grownBy w1 (some b) :=
  ⟨h.os, h.tape, h.output, Nat.le_of_eq h.size.symm, fun k _ hne => h.other k (fun e => hne (by rw [e]))⟩
theorem Own.addr {w : World} {base n0 : Nat} {e : TypeId} {v : Value} {L : List (List Value)} (h : Own w base e n0 v L) (hne : L ≠ []) : ∃ g c, v = .slice (some ⟨g, 0, none⟩) L.length c ∧ base ≤ g ∧ g < w.heap.size ∧ Cells w ⟨g, 0, none⟩ L.flatten := by
  obtain ⟨_, ⟨h1, h2⟩ | ⟨g, cap, cur, h1, h2, h3, _⟩⟩ := h.row
  · exact absurd (List.length_eq_zero_iff.1 h2) hne
  · exact ⟨g, cap, h1, h2, (Array.getElem?_eq_some_iff.1 h3).1, own_cells h.row h1⟩
section
variable {P : Program} {N : Fr} {ops : Array Oper} {K : Env → World → Prop} {m : Env} {w : World} {rest : List Oper} {ty : TypeId} {pos : String} {after : Array Edge} {gd : Option (Nat × Bool)}
theorem Ops_storeOwn {t e : TypeId} {x y : Operand} {base b0 n0 g cap i f : Nat} {p : Addr} {u : Value} {xi : List Value} {L : List (List Value)} [hs : TSize P t 1 b0] (hon : On N ops m ⟨none, .store t x y, ty, pos, after, gd⟩)
    (hx : ev m x = some (.pointer (some p))) (hy : ev m y = some u) (hp : p = ⟨g, i * n0 + f, none⟩) (hown : Own w base e n0 (.slice (some ⟨g, 0, none⟩) L.length cap) L) (hi : L[i]? = some xi) (hf : f < n0) [hu : TCells u [u]] (h1 : u.oneCell' = true)
    (h : ∀ w1, Own w1 base e n0 (.slice (some ⟨g, 0, none⟩) L.length cap) (L.set i (xi.set f u)) → w.grownBy w1 (some g) → Ops P N ops false K rest m w1) : Ops P N ops false K (⟨none, .store t x y, ty, pos, after, gd⟩ :: rest) m w := by
  subst hp
  obtain ⟨hlen, ⟨h2, _⟩ | ⟨g', cap', cur, h2, h3, h4, h5, h6, h7, h8⟩⟩ := hown.row
  · cases h2
  cases h2
  have hB : Blk w g e cur.toList := by unfold Blk; simpa using h4
  have hil : i < L.length := (List.getElem?_eq_some_iff.1 hi).1
  have ho : i * n0 + f < L.length * n0 := by
    have : (i + 1) * n0 ≤ L.length * n0 := Nat.mul_le_mul_right _ hil
    rw [Nat.succ_mul] at this; omega
  have hc : cur.toList.length = cap * n0 := by simpa using h7
  have hlc : L.length * n0 ≤ cap * n0 := Nat.mul_le_mul_right _ h5
  have : TSplice (i * n0 + f) [u] cur.toList (splice cur.toList (i * n0 + f) [u]) := ⟨over_splice _ _ _ (by simp; omega), by simp; omega⟩
  refine Ops_store (vs := [u]) hon hx hy hB (by simp [h1]) (fun w1 hu1 => h w1 ⟨⟨?_, .inr ⟨g, cap, _, by rw [List.length_set], h3, hu1.blk, ?_, h6, ?_, ?_⟩⟩, ?_⟩ hu1.grown)
  · rw [flatten_set hf L i xi hown.len hi, List.length_set, List.length_set]; exact hlen
  · rw [List.length_set]; exact h5
  · rw [splice_one _ _ _ (by omega)]; simpa using h7
  · rw [splice_one _ _ _ (by omega), flatten_set hf L i xi hown.len hi, List.length_set, ← h8, List.take_set]
  · intro z hz
    rcases List.mem_or_eq_of_mem_set hz with hz | rfl
    · exact hown.len z hz
    · rw [List.length_set]; exact hown.len xi (List.mem_of_getElem? hi)
end

theorem flatten_set_all {n0 : Nat} {u : List Value} (hu : u.length = n0) : ∀ (L : List (List Value)) (i : Nat), (∀ x ∈ L, x.length = n0) → i < L.length → (L.set i u).flatten = splice L.flatten (i * n0) u
  | [], i, _, h => by simp at h
  | y :: r, 0, hl, _ => by
    have := hl y (List.mem_cons_self ..)
    rw [List.set_cons_zero, List.flatten_cons, List.flatten_cons, Nat.zero_mul]
    unfold splice
    rw [List.take_zero, List.nil_append, Nat.zero_add, List.drop_append_of_le_length (by omega), List.drop_of_length_le (by omega), List.nil_append]
  | y :: r, i + 1, hl, h => by
    have := hl y (List.mem_cons_self ..)
    rw [List.set_cons_succ, List.flatten_cons, List.flatten_cons, flatten_set_all hu r i (fun z hz => hl z (List.mem_cons_of_mem _ hz)) (by simpa using h)]
    have e1 : (i + 1) * n0 = y.length + i * n0 := by rw [Nat.succ_mul]; omega
    unfold splice
    rw [e1, Nat.add_assoc, List.take_length_add_append, List.drop_length_add_append]
    simp
section
variable {P : Program} {N : Fr} {ops : Array Oper} {K : Env → World → Prop} {m : Env} {w : World} {rest : List Oper} {ty : TypeId} {pos : String} {after : Array Edge} {gd : Option (Nat × Bool)}
/-- A store of a whole element. -/
theorem Ops_storeElem {t e : TypeId} {x y : Operand} {base b0 n0 g cap i : Nat} {p : Addr} {v : Value} {u : List Value} {L : List (List Value)} [hs : TSize P t n0 b0] (hon : On N ops m ⟨none, .store t x y, ty, pos, after, gd⟩)
    (hx : ev m x = some (.pointer (some p))) (hy : ev m y = some v) (hp : p = ⟨g, i * n0, none⟩) (hown : Own w base e n0 (.slice (some ⟨g, 0, none⟩) L.length cap) L) (hi : i < L.length) [hu : TCells v u] [hl : TLen u n0] (h1 : u.all (fun u => u.oneCell') = true)
    (h : ∀ w1, Own w1 base e n0 (.slice (some ⟨g, 0, none⟩) L.length cap) (L.set i u) → w.grownBy w1 (some g) → Ops P N ops false K rest m w1) : Ops P N ops false K (⟨none, .store t x y, ty, pos, after, gd⟩ :: rest) m w := by
  subst hp
  obtain ⟨hlen, ⟨h2, _⟩ | ⟨g', cap', cur, h2, h3, h4, h5, h6, h7, h8⟩⟩ := hown.row
  · cases h2
  cases h2
  have hB : Blk w g e cur.toList := by unfold Blk; simpa using h4
  have ho : i * n0 + n0 ≤ L.length * n0 := by
    have : (i + 1) * n0 ≤ L.length * n0 := Nat.mul_le_mul_right _ hi
    rw [Nat.succ_mul] at this; omega
  have hc : cur.toList.length = cap * n0 := by simpa using h7
  have hlc : L.length * n0 ≤ cap * n0 := Nat.mul_le_mul_right _ h5
  have hul := hl.h
  have : TSplice (i * n0) u cur.toList (splice cur.toList (i * n0) u) := ⟨over_splice _ _ _ (by omega), by omega⟩
  have hsl : (splice cur.toList (i * n0) u).length = cur.toList.length := by unfold splice; simp only [List.length_append, List.length_take, List.length_drop]; omega
  refine Ops_store (vs := u) hon hx hy hB h1 (fun w1 hu1 => h w1 ⟨⟨?_, .inr ⟨g, cap, _, by rw [List.length_set], h3, hu1.blk, ?_, h6, ?_, ?_⟩⟩, ?_⟩ hu1.grown)
  · rw [flatten_set_all hul L i hown.len hi, List.length_set]
    unfold splice; simp only [List.length_append, List.length_take, List.length_drop]; omega
  · rw [List.length_set]; exact h5
  · rw [← hc, ← hsl]; simp
  · rw [flatten_set_all hul L i hown.len hi, List.length_set, ← h8]
    unfold splice
    have e1 : (List.take (i * n0) cur.toList ++ u).length = i * n0 + n0 := by simp; omega
    rw [List.take_append, e1, List.take_of_length_le (by omega), List.take_take, Nat.min_eq_left (by omega), List.drop_take, hul]
  · intro z hz
    rcases List.mem_or_eq_of_mem_set hz with hz | rfl
    · exact hown.len z hz
    · exact hul
end

/-! ### Sets: maps from numbers to true -/
def BSet (w : World) (b : Nat) (k : IntKind) (S : Int → Bool) : Prop := MapI w b k (fun y => if S y then some (.bool true) else none)
section
variable {P : Program} {N : Fr} {ops : Array Oper} {K : Env → World → Prop} {m : Env} {w w' w1 : World} {rest : List Oper} {ty : TypeId} {pos : String} {after : Array Edge} {g : Option (Nat × Bool)} {b : Nat} {k : IntKind} {S : Int → Bool} {row : Option Nat}
theorem BSet.ext (h : BSet w b k S) (he : Ext w w') : BSet w' b k S := MapI.ext h he
theorem BSet.lt (h : BSet w b k S) : b < w.heap.size := MapI.lt h
theorem BSet.grow (h : BSet w b k S) (hg : w.grownBy w1 row) (hne : some b ≠ row) : BSet w1 b k S := MapI.grow h hg hne
theorem BSet.upd {b' : Nat} {t : TypeId} {cs : List Value} (h : BSet w b k S) (hu : Upd w w1 b' t cs) (hne : b ≠ b') : BSet w1 b k S := MapI.upd h hu hne
theorem Yl_has {dst : Option Tmp} {t kt et : TypeId} {x i : Operand} {y : Int} {zs : List Value} [ht : TMap P t kt et] [hk : TInt P kt k] [hz : TZero P et (.bool false) zs]
    (hx : ev m x = some (.map (some b))) (hi : ev m i = some (.int k y)) (hM : BSet w b k S) : Yl P N m w ⟨dst, .lookup t x i false, ty, pos, after, g⟩ (.bool (S y)) := by
  have := Yl_lookup (P := P) (t := t) (kt := kt) (et := et) (z := .bool false) (zs := zs) (N := N) (m := m) (w := w) (dst := dst) (ty := ty) (pos := pos) (after := after) (g := g) hx hi hM
  cases hS : S y with
  | false => simpa [hS] using this
  | true => simpa [hS] using this
theorem Ops_newSet {dst : Nat} {t kt et : TypeId} [TMap P t kt et] [TInt P kt k] (hon : On N ops m ⟨some dst, .makeMap t none, ty, pos, after, g⟩) (hd : Nat.ble (dst + 1) N.n = true)
    (h : ∀ w1 b, Ext w w1 → w.heap.size ≤ b → BSet w1 b k (fun _ => false) → Ops P N ops false K rest ((dst, .map (some b)) :: m) w1) : Ops P N ops false K (⟨some dst, .makeMap t none, ty, pos, after, g⟩ :: rest) m w :=
  Ops_makeMap (k := k) (kt := kt) (et := et) hon hd (fun w1 b he hb hM => h w1 b he hb (by unfold BSet; simpa using hM))
theorem Ops_put {t kt et : TypeId} {x i u : Operand} {y : Int} [ht : TMap P t kt et] [hk : TInt P kt k] (hon : On N ops m ⟨none, .mapUpdate t x i u, ty, pos, after, g⟩)
    (hx : ev m x = some (.map (some b))) (hi : ev m i = some (.int k y)) (hu : ev m u = some (.bool true)) (hM : BSet w b k S)
    (h : ∀ w1, w.grownBy w1 (some b) → BSet w1 b k (fun y' => decide (y' = y) || S y') → Ops P N ops false K rest m w1) : Ops P N ops false K (⟨none, .mapUpdate t x i u, ty, pos, after, g⟩ :: rest) m w :=
  Ops_mapUpdate hon hx hi hu hM (fun w1 hg hM' => h w1 hg (by
    unfold BSet
    have e : (fun y' => if (decide (y' = y) || S y') = true then some (Value.bool true) else none) = (fun y' => if y' = y then some (Value.bool true) else if S y' then some (.bool true) else none) := by
      funext y'
      by_cases h : y' = y <;> simp [h]
    rw [e]; exact hM'))
end
end Go.Proofs.Ytkdjbddjblahkaa

/-
  Plain facts about the bits of 32-bit and 64-bit words, with no program in sight: what At, Keep, Mask, Common, Lead, Trail and Rank are, as functions of natural numbers.
  No conditions beyond those that each lemma states.
-/
namespace Go.Proofs.Ytkdjbddjblahkaa

/-- The first number below n at which p holds, or n. -/
def firstN (n : Nat) (p : Nat → Bool) : Nat := (List.range n).findIdx p

theorem firstN_eq {n k : Nat} {p : Nat → Bool} (hk : k ≤ n) (h : ∀ j, j < k → p j = false) (h' : k < n → p k = true) : firstN n p = k := by
  unfold firstN
  by_cases e : k < n
  · rw [List.findIdx_eq (by simpa using e)]
    exact ⟨by simpa using h' e, fun j hj => by simpa using h j hj⟩
  · have : k = n := by omega
    subst this
    have := List.findIdx_eq_length (p := p) (xs := List.range k)
    simp only [List.length_range, List.mem_range] at this
    exact this.2 (fun x hx => h x hx)

theorem firstN_congr {n : Nat} {p q : Nat → Bool} (h : ∀ j, j < n → p j = q j) : firstN n p = firstN n q := by
  unfold firstN
  induction n with
  | zero => rfl
  | succ n ih =>
    rw [List.range_succ, List.findIdx_append, List.findIdx_append, ih (fun j hj => h j (by omega))]
    simp [List.findIdx_cons, h n (by omega)]

theorem firstN_le (n : Nat) (p : Nat → Bool) : firstN n p ≤ n := by
  have := List.findIdx_le_length (p := p) (xs := List.range n)
  simpa [firstN] using this

theorem firstN_before {n : Nat} {p : Nat → Bool} {j : Nat} (h : j < firstN n p) : p j = false := by
  have := List.not_of_lt_findIdx (p := p) (xs := List.range n) h
  simpa using this

theorem firstN_at {n : Nat} {p : Nat → Bool} (h : firstN n p < n) : p (firstN n p) = true := by
  have hl : (List.range n).findIdx p < (List.range n).length := by simpa [firstN] using h
  have := List.findIdx_getElem (w := hl)
  simpa [firstN] using this

/-- Bit i of a 32-bit word; bit 0 is the most significant. -/
def bitAt (x : Nat) (i : Int) : Nat := if 0 ≤ i ∧ i < 32 then x / 2 ^ (31 - i).toNat % 2 else 0

theorem bitAt_lt (x : Nat) (i : Int) : bitAt x i < 2 := by
  unfold bitAt; split <;> omega

theorem bitAt_nat (x k : Nat) (h : k < 32) : bitAt x (k : Int) = x / 2 ^ (31 - k) % 2 := by
  unfold bitAt
  rw [if_pos (by omega)]
  congr 3
  omega

/-- A number held between 0 and a bound, as a natural number. -/
def lowN (n : Int) (most : Nat) : Nat := (min (max n 0) most).toNat

theorem lowN_le (n : Int) (most : Nat) : lowN n most ≤ most := by unfold lowN; omega
theorem lowN_cast (n : Int) (most : Nat) : ((lowN n most : Nat) : Int) = min (max n 0) most := by unfold lowN; omega
theorem lowN_nat (k most : Nat) (h : k ≤ most) : lowN (k : Int) most = k := by unfold lowN; omega

/-- The first c bits of a word, the others cleared. -/
def top (x c : Nat) : Nat := x / 2 ^ (32 - c) * 2 ^ (32 - c)
/-- The word whose first c bits are set. -/
def maskN (c : Nat) : Nat := 2 ^ 32 - 2 ^ (32 - c)

theorem top_le (x c : Nat) : top x c ≤ x := Nat.div_mul_le_self _ _
theorem top_zero (x : Nat) (h : x < 4294967296) : top x 0 = 0 := by
  unfold top; rw [Nat.div_eq_of_lt (by simpa using h), Nat.zero_mul]
theorem top_full (x : Nat) : top x 32 = x := by simp [top]
theorem maskN_zero : maskN 0 = 0 := by simp [maskN]

theorem div_step (x k : Nat) (h : k < 32) : x / 2 ^ (31 - k) = 2 * (x / 2 ^ (32 - k)) + x / 2 ^ (31 - k) % 2 := by
  have e : 32 - k = (31 - k) + 1 := by omega
  rw [e, Nat.pow_succ, ← Nat.div_div_eq_div_mul]
  omega

theorem nat_disjoint (i x y : Nat) (hy : y < 2 ^ i) : (x * 2 ^ i) ||| y = x * 2 ^ i + y := by
  rw [Nat.mul_comm, Nat.two_pow_add_eq_or_of_lt hy]

theorem top_succ (x k : Nat) (h : k < 32) : top x (k + 1) = top x k ||| (bitAt x (k : Int) * 2 ^ (31 - k)) := by
  have hb : bitAt x (k : Int) * 2 ^ (31 - k) < 2 ^ (32 - k) := by
    have := bitAt_lt x (k : Int)
    have e : 32 - k = (31 - k) + 1 := by omega
    rw [e, Nat.pow_succ]
    have hp : 0 < 2 ^ (31 - k) := Nat.two_pow_pos _
    calc bitAt x (k : Int) * 2 ^ (31 - k) ≤ 1 * 2 ^ (31 - k) := Nat.mul_le_mul_right _ (by omega)
      _ < 2 ^ (31 - k) * 2 := by omega
  unfold top
  rw [nat_disjoint _ _ _ hb, bitAt_nat x k h]
  have e1 : 32 - (k + 1) = 31 - k := by omega
  rw [e1, div_step x k h]
  have e : 32 - k = (31 - k) + 1 := by omega
  rw [e, Nat.pow_succ]
  generalize 2 ^ (31 - k) = p
  generalize x / (p * 2) = q
  have : (2 * q + x / p % 2) % 2 = x / p % 2 := by omega
  rw [this, Nat.add_mul, Nat.mul_comm p 2, ← Nat.mul_assoc, Nat.mul_comm q 2]

theorem maskN_succ (k : Nat) (h : k < 32) : maskN (k + 1) = maskN k ||| 2 ^ (31 - k) := by
  have e : 32 - k = (31 - k) + 1 := by omega
  have e1 : 32 - (k + 1) = 31 - k := by omega
  have hk : (2 : Nat) ^ 32 = 2 ^ k * 2 ^ (32 - k) := by rw [← Nat.pow_add]; congr 1; omega
  have hm : maskN k = (2 ^ k - 1) * 2 ^ (32 - k) := by
    unfold maskN; rw [hk, Nat.sub_mul, Nat.one_mul]
  rw [hm, nat_disjoint _ _ _ (by rw [e, Nat.pow_succ]; have := Nat.two_pow_pos (31 - k); omega), ← hm]
  unfold maskN
  rw [e1, e, Nat.pow_succ]
  have : 2 ^ (31 - k) * 2 ≤ 2 ^ 32 := by rw [← Nat.pow_succ]; exact Nat.pow_le_pow_right (by omega) (by omega)
  omega

theorem maskN_lt (c : Nat) : maskN c < 4294967296 := by
  unfold maskN; have := Nat.two_pow_pos (32 - c); omega

/-- A mask keeps the first c bits. -/
theorem and_maskN (x c : Nat) (hx : x < 4294967296) (hc : c ≤ 32) : x &&& maskN c = top x c := by
  apply Nat.eq_of_testBit_eq
  intro i
  have hm : maskN c = (2 ^ c - 1) * 2 ^ (32 - c) := by
    unfold maskN
    have hk : (2 : Nat) ^ 32 = 2 ^ c * 2 ^ (32 - c) := by rw [← Nat.pow_add]; congr 1; omega
    rw [hk, Nat.sub_mul, Nat.one_mul]
  unfold top
  rw [Nat.testBit_and, hm, Nat.testBit_mul_two_pow, Nat.testBit_mul_two_pow, Nat.testBit_two_pow_sub_one, Nat.testBit_div_two_pow]
  by_cases h : 32 - c ≤ i
  · simp only [h, decide_true, Bool.true_and]
    have e : i - (32 - c) + (32 - c) = i := by omega
    rw [e]
    by_cases h2 : i < 32
    · have : decide (i - (32 - c) < c) = true := by simp; omega
      rw [this]; simp
    · have : x.testBit i = false := Nat.testBit_lt_two_pow (Nat.lt_of_lt_of_le hx (by
        have h3 : 2 ^ 32 ≤ 2 ^ i := Nat.pow_le_pow_right (by omega) (by omega)
        simpa using h3))
      simp [this]
  · simp [h]

/-- The number of leading zero bits. -/
def leadN (x : Nat) : Nat := firstN 32 fun i => bitAt x (i : Int) == 1
/-- The number of trailing zero bits. -/
def trailN (x : Nat) : Nat := firstN 32 fun i => x / 2 ^ i % 2 == 1
/-- The number of leading bits that two words share. -/
def commonN (a b : Nat) : Nat := firstN 32 fun i => !(bitAt a (i : Int) == bitAt b (i : Int))

theorem testBit_val (x i : Nat) : x / 2 ^ i % 2 = (x.testBit i).toNat := by
  rw [Nat.testBit_eq_decide_div_mod_eq]
  have := Nat.mod_two_eq_zero_or_one (x / 2 ^ i)
  rcases this with h | h <;> simp [h]

theorem lead_xor (a b : Nat) : leadN (a ^^^ b) = commonN a b := by
  unfold leadN commonN
  apply firstN_congr
  intro j hj
  rw [bitAt_nat _ _ hj, bitAt_nat _ _ hj, bitAt_nat _ _ hj, testBit_val, testBit_val, testBit_val, Nat.testBit_xor]
  cases a.testBit (31 - j) <;> cases b.testBit (31 - j) <;> rfl

theorem lead_common (a : Nat) : leadN a = commonN a 0 := by
  have := lead_xor a 0
  simpa using this

theorem trail_ref (x : Nat) : trailN x = firstN 32 (fun i => !(bitAt x (31 - (i : Int)) == 0)) := by
  unfold trailN
  apply firstN_congr
  intro j hj
  have e : (31 - (j : Int)) = ((31 - j : Nat) : Int) := by omega
  rw [e, bitAt_nat _ _ (by omega)]
  have e2 : 31 - (31 - j) = j := by omega
  rw [e2]
  have := Nat.mod_two_eq_zero_or_one (x / 2 ^ j)
  rcases this with h | h <;> simp [h]

/-- The number of set bits below bit c. -/
def rankN (x : Nat) : Nat → Nat
  | 0 => 0
  | c + 1 => rankN x c + x / 2 ^ c % 2

theorem rankN_le (x c : Nat) : rankN x c ≤ c := by
  induction c with
  | zero => simp [rankN]
  | succ c ih => simp only [rankN]; omega

theorem top_iff (a b n : Nat) : top a n = top b n ↔ a / 2 ^ (32 - n) = b / 2 ^ (32 - n) := by
  unfold top
  have := Nat.two_pow_pos (32 - n)
  exact ⟨fun h => Nat.eq_of_mul_eq_mul_right this h, fun h => by rw [h]⟩

theorem div_eq_iff_bits (a b n : Nat) (ha : a < 4294967296) (hb : b < 4294967296) (hn : n ≤ 32) :
    a / 2 ^ (32 - n) = b / 2 ^ (32 - n) ↔ ∀ j, j < n → bitAt a (j : Int) = bitAt b (j : Int) := by
  induction n with
  | zero =>
    have e1 : a / 2 ^ (32 - 0) = 0 := Nat.div_eq_of_lt (by simpa using ha)
    have e2 : b / 2 ^ (32 - 0) = 0 := Nat.div_eq_of_lt (by simpa using hb)
    rw [e1, e2]; simp
  | succ n ih =>
    have e1 : 32 - (n + 1) = 31 - n := by omega
    have ih := ih (by omega)
    have da := div_step a n (by omega)
    have db := div_step b n (by omega)
    rw [e1]
    constructor
    · intro h j hj
      have hq : a / 2 ^ (32 - n) = b / 2 ^ (32 - n) := by omega
      rcases Nat.lt_succ_iff_lt_or_eq.1 hj with h1 | h1
      · exact ih.1 hq j h1
      · subst h1; rw [bitAt_nat _ _ (by omega), bitAt_nat _ _ (by omega), h]
    · intro h
      have hq := ih.2 (fun j hj => h j (by omega))
      have hb := h n (by omega)
      rw [bitAt_nat _ _ (by omega), bitAt_nat _ _ (by omega)] at hb
      omega

/-- The first n bits of two words are equal if and only if n is at most Common. -/
theorem top_common (a b n : Nat) (ha : a < 4294967296) (hb : b < 4294967296) (hn : n ≤ 32) : top a n = top b n ↔ n ≤ commonN a b := by
  rw [top_iff _ _ _, div_eq_iff_bits a b n ha hb hn]
  constructor
  · intro h
    rcases Nat.lt_or_ge (commonN a b) n with h1 | h1
    · exfalso
      have h2 : commonN a b < 32 := by omega
      have h3 := firstN_at (p := fun i => !(bitAt a (i : Int) == bitAt b (i : Int))) h2
      have h4 := h _ h1
      unfold commonN at h4
      simp [h4] at h3
    · exact h1
  · intro h j hj
    have := firstN_before (n := 32) (p := fun i => !(bitAt a (i : Int) == bitAt b (i : Int))) (j := j) (by unfold commonN at h; omega)
    simpa using this

end Go.Proofs.Ytkdjbddjblahkaa

/-
  What some functions of the packages bits and routingref01 return, each for every word and number: said in the plain terms of the text BitsPlain.
  Conditions: words are natural numbers below 2^32 (2^64 for Rank), as Go's types have them.
-/
namespace Go.Proofs.Ytkdjbddjblahkaa
open Go.RowKit

theorem ret_int {k : IntKind} {a b : Int} (h : a = b) : Ending.returned (.int k a) = .returned (.int k b) := by rw [h]

theorem clamp_any (a b : Int) (w : World) :
    Calls Try.prog 106 #[.int .i64 a, .int .i64 b] w fun e w' => e = .returned (.int .i64 (min (max a 0) b)) ∧ w = w' := by
  go_enter Try.func106, Try.ntmps106
  go_wp2
  all_goals
    go_ret
    exact ⟨ret_int (by omega), rfl⟩


theorem cast_div (x n : Nat) : (x : Int) / 2 ^ n = ((x / 2 ^ n : Nat) : Int) := by
  rw [Int.natCast_ediv]; rfl

theorem bit_val (x n : Nat) (hx : x < 4294967296) : bits .and .u32 ((x : Int) / 2 ^ n) 1 = ((x / 2 ^ n % 2 : Nat) : Int) := by
  have h : x / 2 ^ n < 4294967296 := Nat.lt_of_le_of_lt (Nat.div_le_self _ _) hx
  rw [cast_div, show (1 : Int) = ((1 : Nat) : Int) from rfl, u32_and_nat _ _ h (by omega), nat_mask1]

theorem bit_wrap (x n : Nat) : wrap64 (((x / 2 ^ n % 2 : Nat) : Int)) = ((x / 2 ^ n % 2 : Nat) : Int) := by
  have := Nat.mod_two_eq_zero_or_one (x / 2 ^ n)
  exact IntWalk.wrap64_in _ (by omega)

theorem at_eq (x : Nat) (i : Int) (hx : x < 4294967296) (h : 0 ≤ i ∧ i < 32) :
    wrap64 (bits .and .u32 ((x : Int) / 2 ^ (31 - i).toNat) 1) = ((bitAt x i : Nat) : Int) := by
  rw [bit_val _ _ hx, bit_wrap]; unfold bitAt; rw [if_pos h]
theorem at_out (x : Nat) (i : Int) (h : i < 0 ∨ 32 ≤ i) : (0 : Int) = ((bitAt x i : Nat) : Int) := by
  unfold bitAt; rw [if_neg (by omega)]; rfl

theorem bitsAt (x : Nat) (i : Int) (w : World) (hx : x < 4294967296) :
    Calls Try.prog 84 #[.int .u32 x, .int .i64 i] w fun e w' => e = .returned (.int .i64 (bitAt x i)) ∧ w = w' := by
  go_enter Try.func84, Try.ntmps84
  go_wp2
  all_goals
    go_ret
    exact ⟨ret_int (by first | exact at_eq x i hx (by omega) | exact at_out x i (by omega)), rfl⟩

theorem refAt (x : Nat) (i : Int) (w : World) (hx : x < 4294967296) :
    Calls Try.prog 58 #[.int .u32 x, .int .i64 i] w fun e w' => e = .returned (.int .i64 (bitAt x i)) ∧ w = w' := by
  go_enter Try.func58, Try.ntmps58
  go_wp2
  all_goals
    go_ret
    exact ⟨ret_int (by first | exact at_eq x i hx (by omega) | exact at_out x i (by omega)), rfl⟩

theorem refLow (a b : Int) (w : World) :
    Calls Try.prog 57 #[.int .i64 a, .int .i64 b] w fun e w' => e = .returned (.int .i64 (min (max a 0) b)) ∧ w = w' := by
  go_enter Try.func57, Try.ntmps57
  go_wp2
  all_goals
    go_ret
    exact ⟨ret_int (by omega), rfl⟩


theorem clamp32 (a : Int) (w : World) :
    Calls Try.prog 106 #[.int .i64 a, .int .i64 32] w fun e w' => e = .returned (.int .i64 (lowN a 32)) ∧ w = w' :=
  (clamp_any a 32 w).mono fun _ _ ⟨he, hw⟩ => ⟨he.trans (ret_int (lowN_cast a 32).symm), hw⟩
theorem low32 (a : Int) (w : World) :
    Calls Try.prog 57 #[.int .i64 a, .int .i64 32] w fun e w' => e = .returned (.int .i64 (lowN a 32)) ∧ w = w' :=
  (refLow a 32 w).mono fun _ _ ⟨he, hw⟩ => ⟨he.trans (ret_int (lowN_cast a 32).symm), hw⟩
theorem shl_mask (c : Nat) (hc : c ≤ 32) : 4294967295 * 2 ^ (32 - c) % 4294967296 = ((maskN c : Nat) : Int) := by
  have h1 : (4294967295 : Int) * 2 ^ (32 - c) % 4294967296 = ((4294967295 * 2 ^ (32 - c) % 4294967296 : Nat) : Int) := by simp
  rw [h1]
  congr 1
  unfold maskN
  have hp := Nat.two_pow_pos (32 - c)
  have hle : 2 ^ (32 - c) ≤ 2 ^ 32 := Nat.pow_le_pow_right (by omega) (by omega)
  generalize 2 ^ (32 - c) = p at *
  have e2 : 4294967295 * p = (4294967296 - p) + (p - 1) * 4294967296 := by omega
  rw [e2, Nat.add_mul_mod_self_right, Nat.mod_eq_of_lt (by omega)]

theorem bitsMask (n : Int) (w : World) :
    Calls Try.prog 98 #[.int .i64 n] w fun e w' => e = .returned (.int .u32 (maskN (lowN n 32))) ∧ w = w' := by
  have hle := lowN_le n 32
  go_enter Try.func98, Try.ntmps98
  go_wp2_with (go_at_call 106; refine (clamp32 _ _).mono ?_; rintro e w' ⟨rfl, rfl⟩)
  go_ret
  exact ⟨ret_int (shl_mask _ hle), rfl⟩

theorem and_mask (x c : Nat) (hx : x < 4294967296) (hc : c ≤ 32) : bits .and .u32 (x : Int) (maskN c : Nat) = ((top x c : Nat) : Int) := by
  rw [u32_and_nat _ _ hx (maskN_lt c), and_maskN x c hx hc]

theorem bitsKeep (x : Nat) (n : Int) (w : World) (hx : x < 4294967296) :
    Calls Try.prog 83 #[.int .u32 x, .int .i64 n] w fun e w' => e = .returned (.int .u32 (top x (lowN n 32))) ∧ w = w' := by
  have hle := lowN_le n 32
  go_enter Try.func83, Try.ntmps83
  go_wp2_with (go_at_call 98; refine (bitsMask _ _).mono ?_; rintro e w' ⟨rfl, rfl⟩)
  go_ret
  exact ⟨ret_int (and_mask _ _ hx hle), rfl⟩

theorem pow_i (n : Nat) : ((2 : Int) ^ n) = ((2 ^ n : Nat) : Int) := by simp

theorem mask_step (k : Nat) (h : k < 32) :
    bits .or .u32 (maskN k : Nat) (2 ^ (31 - k) % 4294967296) = ((maskN (k + 1) : Nat) : Int) := by
  have hlt : 2 ^ (31 - k) < 4294967296 := Nat.lt_of_le_of_lt (Nat.pow_le_pow_right (by omega) (by omega)) (show 2 ^ 31 < 4294967296 by decide)
  have e : ((2 : Int) ^ (31 - k)) % 4294967296 = ((2 ^ (31 - k) : Nat) : Int) := by
    rw [pow_i]; generalize 2 ^ (31 - k) = p at *; omega
  rw [e, u32_or_nat _ _ (maskN_lt k) hlt, maskN_succ k h]

theorem top_lt (x c : Nat) (hx : x < 4294967296) : top x c < 4294967296 := Nat.lt_of_le_of_lt (top_le x c) hx

theorem keep_step (x k : Nat) (hx : x < 4294967296) (h : k < 32) :
    bits .or .u32 (top x k : Nat) ((bitAt x (k : Int) : Nat) * 2 ^ (31 - k) % 4294967296) = ((top x (k + 1) : Nat) : Int) := by
  have hb := bitAt_lt x (k : Int)
  have hlt : 2 ^ (31 - k) ≤ 2147483648 := Nat.pow_le_pow_right (n := 2) (j := 31) (by omega) (by omega)
  have h2 : bitAt x (k : Int) * 2 ^ (31 - k) < 4294967296 := by
    have := Nat.mul_le_mul (show bitAt x (k : Int) ≤ 1 by omega) hlt
    omega
  have e : ((bitAt x (k : Int) : Nat) : Int) * 2 ^ (31 - k) % 4294967296 = ((bitAt x (k : Int) * 2 ^ (31 - k) : Nat) : Int) := by
    rw [pow_i, ← Int.natCast_mul]; generalize bitAt x (k : Int) * 2 ^ (31 - k) = p at *; omega
  rw [e, u32_or_nat _ _ (top_lt x k hx) h2, top_succ x k h]

theorem refKeep (x : Nat) (n : Int) (w : World) (hx : x < 4294967296) :
    Calls Try.prog 40 #[.int .u32 x, .int .i64 n] w fun e w' => e = .returned (.int .u32 (top x (lowN n 32))) ∧ w = w' := by
  have hle := lowN_le n 32
  go_enter Try.func40, Try.ntmps40
  go_wp2_with (go_at_call 57; refine (low32 _ _).mono ?_; rintro e w' ⟨rfl, rfl⟩)
  go_loop [5, 9] (fun y j => ∃ k : Nat, k ≤ lowN n 32 ∧ j = .int .i64 k ∧ y = .int .u32 (top x k)) (fun _ j => 32 - (intOf j).toNat)
  case atStart => exact ⟨0, Nat.zero_le _, rfl, by rw [top_zero x hx]; rfl⟩
  case round =>
    obtain ⟨k, hk, rfl, rfl⟩ := hrel
    by_cases hlt : k < lowN n 32
    · have hs := Lib.hid (keep_step x k hx (by omega))
      have hb := bitAt_lt x (k : Int)
      go_wp2_with (go_at_call 58; refine (refAt _ _ _ hx).mono ?_; rintro e w' ⟨rfl, rfl⟩)
      go_round
      case rel => exact ⟨k + 1, by omega, by go_num, by rw [← hs.out]⟩
      case measure => simp [intOf]; omega
    · go_wp2
      go_ret
      exact ⟨ret_int (by rw [show k = lowN n 32 by omega]), rfl⟩

theorem keepP_v (x : Nat) (n : Int) (w : World) (hx : x < 4294967296) : Calls Try.prog 83 #[.int .u32 x, .int .i64 n] w (Ret (.int .u32 (top x (lowN n 32))) w) :=
  (bitsKeep x n w hx).mono fun _ _ ⟨h1, h2⟩ => ⟨h1, h2 ▸ Ext.refl _⟩
theorem maskP_v (n : Int) (w : World) : Calls Try.prog 98 #[.int .i64 n] w (Ret (.int .u32 (maskN (lowN n 32))) w) :=
  (bitsMask n w).mono fun _ _ ⟨h1, h2⟩ => ⟨h1, h2 ▸ Ext.refl _⟩
theorem atP_v (x : Nat) (i : Int) (w : World) (hx : x < 4294967296) : Calls Try.prog 84 #[.int .u32 x, .int .i64 i] w (Ret (.int .i64 (bitAt x i)) w) :=
  (bitsAt x i w hx).mono fun _ _ ⟨h1, h2⟩ => ⟨h1, h2 ▸ Ext.refl _⟩
theorem keepR_v (x : Nat) (n : Int) (w : World) (hx : x < 4294967296) : Calls Try.prog 40 #[.int .u32 x, .int .i64 n] w (Ret (.int .u32 (top x (lowN n 32))) w) :=
  (refKeep x n w hx).mono fun _ _ ⟨h1, h2⟩ => ⟨h1, h2 ▸ Ext.refl _⟩
end Go.Proofs.Ytkdjbddjblahkaa

/-
  Prefixes: what the functions of the package prefix return, in plain terms.
  Conditions: addresses are below 2^32, as Go's type has them.
-/
namespace Go.Proofs.Ytkdjbddjblahkaa
open Go.RowKit

theorem Ret_mk {v v' : Value} {w w1 : World} (hv : v' = v) (he : Ext w w1) : ∀ w', Ext w1 w' → Ret v w (.returned v') w' := fun _ h => ⟨by rw [hv], he.trans h⟩
theorem none_of {α : Type} {o : Option α} (h : o.isSome = false) : o = none := by cases o <;> simp_all

/-- A prefix, as Go's struct has it. -/
structure Pf where
  a : Nat
  n : Int
deriving DecidableEq
def Pf.cells (p : Pf) : List Value := [.int .u32 p.a, .int .i64 p.n]
abbrev Pf.val (p : Pf) : Value := .agg #[.int .u32 p.a, .int .i64 p.n]
def Pf.valid (p : Pf) : Bool := decide (0 ≤ p.n) && (decide (p.n ≤ 32) && decide (top p.a p.n.toNat = p.a))
theorem lowN_in {n : Int} (h0 : 0 ≤ n) (h1 : n ≤ 32) : lowN n 32 = n.toNat := by unfold lowN; omega
theorem Pf.valid_iff {p : Pf} : p.valid = true ↔ 0 ≤ p.n ∧ p.n ≤ 32 ∧ top p.a p.n.toNat = p.a := by
  unfold Pf.valid
  simp only [Bool.and_eq_true, decide_eq_true_eq]

theorem castEq (a b : Nat) : decide ((a : Int) = (b : Int)) = decide (a = b) := by
  by_cases h : a = b
  · rw [decide_eq_true h, decide_eq_true (by rw [h])]
  · rw [decide_eq_false h, decide_eq_false (by omega)]
theorem valid_v (p : Pf) (w : World) (ha : p.a < 4294967296) : Calls Try.prog 60 #[p.val] w (Ret (.bool p.valid) w) := by
  refine V_enter (vs := [_]) Try.func60 rfl Try.ntmps60 (Nat.le_of_ble_eq_true rfl) ?_
  repeat (first | refine Vx ?_ | (apply Ops_q; (case hon => exact Va); (case hd => rfl); (case hq => exact YlA)) | refine Vr ?_ | refine Vt ?_ | refine Vf ?_ | refine Vm ?_ | refine Ve ?_ | refine Vo ?_ | refine Vz ?_ | refine Vn ?_)
  (refine Ops_box (by exact Va) rfl rfl rfl ?_; intro w1 b1 n_b1; have k_b1 := n_b1.blk)
  repeat (first | refine Vx ?_ | (apply Ops_q; (case hon => exact Va); (case hd => rfl); (case hq => exact YlA)) | refine Vr ?_ | refine Vt ?_ | refine Vf ?_ | refine Vm ?_ | refine Ve ?_ | refine Vo ?_ | refine Vz ?_ | refine Vn ?_)
  refine Ops_split rfl rfl (fun h1 => ?_) (fun h1 => ?_)
  · repeat (first | refine Vx ?_ | (apply Ops_q; (case hon => exact Va); (case hd => rfl); (case hq => exact YlA)) | refine Vr ?_ | refine Vt ?_ | refine Vf ?_ | refine Vm ?_ | refine Ve ?_ | refine Vo ?_ | refine Vz ?_ | refine Vn ?_)
    refine Ops_split rfl rfl (fun h2 => ?_) (fun h2 => ?_)
    · repeat (first | refine Vx ?_ | (apply Ops_q; (case hon => exact Va); (case hd => rfl); (case hq => exact YlA)) | refine Vr ?_ | refine Vt ?_ | refine Vf ?_ | refine Vm ?_ | refine Ve ?_ | refine Vo ?_ | refine Vz ?_ | refine Vn ?_)
      (apply Ops_q; (case hon => (exact Va)); (case hd => rfl); (case hq => exact Yl_call rfl (fun w_ e_ => keepP_v p.a p.n w_ ha)))
      repeat (first | refine Vx ?_ | (apply Ops_q; (case hon => exact Va); (case hd => rfl); (case hq => exact YlA)) | refine Vr ?_ | refine Vt ?_ | refine Vf ?_ | refine Vm ?_ | refine Ve ?_ | refine Vo ?_ | refine Vz ?_ | refine Vn ?_)
      refine ret1 (by first | exact .inl rfl | exact .inr rfl) rfl rfl ?_
      refine Ret_mk ?_ n_b1.ext
      rw [Pf.valid, h1, h2, Bool.true_and, Bool.true_and, castEq, lowN_in (of_decide_eq_true h1) (of_decide_eq_true h2)]
    · repeat (first | refine Vx ?_ | (apply Ops_q; (case hon => exact Va); (case hd => rfl); (case hq => exact YlA)) | refine Vr ?_ | refine Vt ?_ | refine Vf ?_ | refine Vm ?_ | refine Ve ?_ | refine Vo ?_ | refine Vz ?_ | refine Vn ?_)
      refine ret1 (by first | exact .inl rfl | exact .inr rfl) rfl rfl ?_
      exact Ret_mk (by rw [Pf.valid, h1, h2]; rfl) n_b1.ext
  · repeat (first | refine Vx ?_ | (apply Ops_q; (case hon => exact Va); (case hd => rfl); (case hq => exact YlA)) | refine Vr ?_ | refine Vt ?_ | refine Vf ?_ | refine Vm ?_ | refine Ve ?_ | refine Vo ?_ | refine Vz ?_ | refine Vn ?_)
    refine ret1 (by first | exact .inl rfl | exact .inr rfl) rfl rfl ?_
    exact Ret_mk (by rw [Pf.valid, h1]; rfl) n_b1.ext
/-- The prefix of the first n bits. -/
def Pf.of (a : Nat) (n : Int) : Pf := ⟨top a (lowN n 32), n⟩
theorem of_v (a : Nat) (n : Int) (w : World) (ha : a < 4294967296) : Calls Try.prog 105 #[.int .u32 a, .int .i64 n] w (Ret (Pf.of a n).val w) := by
  refine V_enter (vs := [_, _]) Try.func105 rfl Try.ntmps105 (Nat.le_of_ble_eq_true rfl) ?_
  repeat (first | refine Vx ?_ | (apply Ops_q; (case hon => exact Va); (case hd => rfl); (case hq => exact YlA)) | refine Vr ?_ | refine Vt ?_ | refine Vf ?_ | refine Vm ?_ | refine Ve ?_ | refine Vo ?_ | refine Vz ?_ | refine Vn ?_)
  (refine Ops_alloc (by exact Va) rfl ?_; intro w1 b1 n_b1; have k_b1 := n_b1.blk)
  repeat (first | refine Vx ?_ | (apply Ops_q; (case hon => exact Va); (case hd => rfl); (case hq => exact YlA)) | refine Vr ?_ | refine Vt ?_ | refine Vf ?_ | refine Vm ?_ | refine Ve ?_ | refine Vo ?_ | refine Vz ?_ | refine Vn ?_)
  (apply Ops_q; (case hon => (exact Va)); (case hd => rfl); (case hq => exact Yl_call rfl (fun w_ e_ => keepP_v a n w_ ha)))
  repeat (first | refine Vx ?_ | (apply Ops_q; (case hon => exact Va); (case hd => rfl); (case hq => exact YlA)) | refine Vr ?_ | refine Vt ?_ | refine Vf ?_ | refine Vm ?_ | refine Ve ?_ | refine Vo ?_ | refine Vz ?_ | refine Vn ?_)
  (refine Ops_store (by exact Va) rfl rfl (by assumption) (by first | rfl | exact OneAll.h) ?_; intro w2 u_w2; have k_b1 := u_w2.blk)
  have e2 := u_w2.below n_b1.ext n_b1.ge
  repeat (first | refine Vx ?_ | (apply Ops_q; (case hon => exact Va); (case hd => rfl); (case hq => exact YlA)) | refine Vr ?_ | refine Vt ?_ | refine Vf ?_ | refine Vm ?_ | refine Ve ?_ | refine Vo ?_ | refine Vz ?_ | refine Vn ?_)
  refine retR1 (by first | exact .inl rfl | exact .inr rfl) rfl (res_agg rfl k_b1.cells) ?_
  exact Ret_mk rfl e2
theorem make_v (a : Nat) (k : Nat) (w : World) (ha : a < 4294967296) (hk : k ≤ 32) : Calls Try.prog 97 #[.int .u32 a, .int .i64 k] w (Ret (.tuple #[(⟨top a k, k⟩ : Pf).val, .int .i64 0]) w) := by
  have h1 : decide ((k : Int) < 0) = false := decide_eq_false (by omega)
  have h2 : decide ((32 : Int) < k) = false := decide_eq_false (by omega)
  refine V_enter (vs := [_, _]) Try.func97 rfl Try.ntmps97 (Nat.le_of_ble_eq_true rfl) ?_
  repeat (first | refine Vx ?_ | (apply Ops_q; (case hon => exact Va); (case hd => rfl); (case hq => exact YlA)) | refine Vr ?_ | refine Vt ?_ | refine Vf ?_ | refine Vm ?_ | refine Ve ?_ | refine Vo ?_ | refine Vz ?_ | refine Vn ?_)
  (refine Ops_alloc (by exact Va) rfl ?_; intro w1 b1 n_b1; have k_b1 := n_b1.blk)
  repeat (first | refine Vx ?_ | (apply Ops_q; (case hon => exact Va); (case hd => rfl); (case hq => exact YlA)) | refine Vr ?_ | refine Vt ?_ | refine Vf ?_ | refine Vm ?_ | refine Ve ?_ | refine Vo ?_ | refine Vz ?_ | refine Vn ?_)
  refine V_no rfl h2 ?_
  repeat (first | refine Vx ?_ | (apply Ops_q; (case hon => exact Va); (case hd => rfl); (case hq => exact YlA)) | refine Vr ?_ | refine Vt ?_ | refine Vf ?_ | refine Vm ?_ | refine Ve ?_ | refine Vo ?_ | refine Vz ?_ | refine Vn ?_)
  (apply Ops_q; (case hon => (exact Va)); (case hd => rfl); (case hq => exact Yl_call rfl (fun w_ e_ => of_v a k w_ ha)))
  repeat (first | refine Vx ?_ | (apply Ops_q; (case hon => exact Va); (case hd => rfl); (case hq => exact YlA)) | refine Vr ?_ | refine Vt ?_ | refine Vf ?_ | refine Vm ?_ | refine Ve ?_ | refine Vo ?_ | refine Vz ?_ | refine Vn ?_)
  (refine Ops_store (by exact Va) rfl rfl (by assumption) (by first | rfl | exact OneAll.h) ?_; intro w2 u_w2; have k_b1 := u_w2.blk)
  have e2 := u_w2.below n_b1.ext n_b1.ge
  repeat (first | refine Vx ?_ | (apply Ops_q; (case hon => exact Va); (case hd => rfl); (case hq => exact YlA)) | refine Vr ?_ | refine Vt ?_ | refine Vf ?_ | refine Vm ?_ | refine Ve ?_ | refine Vo ?_ | refine Vz ?_ | refine Vn ?_)
  refine retR2 (by first | exact .inl rfl | exact .inr rfl) rfl (res_agg rfl k_b1.cells) rfl ?_
  refine Ret_mk ?_ e2
  rw [Pf.of, lowN_nat k 32 hk]
/-- All bits turned. -/
theorem xor_all (n : Nat) (h : n ≤ 4294967295) : bits .xor .u32 4294967295 (n : Int) = ((4294967295 - n : Nat) : Int) := by
  have e : (4294967295 : Int) = ((4294967295 : Nat) : Int) := rfl
  rw [e, u32_xor_nat _ _ (by omega) (by omega)]
  congr 1
  have e2 : 4294967295 ^^^ n = 4294967295 - n := by
    have h1 : n < 2 ^ 32 := by omega
    refine Nat.eq_of_testBit_eq fun i => ?_
    have h2 := Nat.testBit_two_pow_sub_succ h1 i
    have h3 : Nat.testBit 4294967295 i = decide (i < 32) := Nat.testBit_two_pow_sub_one 32 i
    rw [show 4294967295 - n = 2 ^ 32 - (n + 1) by omega, h2, Nat.testBit_xor, h3]
    by_cases hi : i < 32
    · simp [hi]
    · have h4 : n.testBit i = false := Nat.testBit_lt_two_pow (Nat.lt_of_lt_of_le h1 (Nat.pow_le_pow_right (by omega) (by omega)))
      simp [hi, h4]
  exact e2
theorem Yl_com {P : Program} {N : Fr} {m : Env} {w : World} {dst : Option Tmp} {t ty : TypeId} {pos : String} {after : Array Edge} {g : Option (Nat × Bool)} {x : Operand} {n : Nat} (hx : ev m x = some (.int .u32 n)) (hn : n ≤ 4294967295) :
    Yl P N m w ⟨dst, .unOp .xor t x, ty, pos, after, g⟩ (.int .u32 ((4294967295 - n : Nat) : Int)) :=
  Yl_of_run fun ac w' ha _ => by
    rw [← xor_all n hn]
    have e : (2 : Int) ^ IntKind.u32.bits - 1 = 4294967295 := rfl
    simp [execOp, ha.ev hx, Op.unary, IntKind.signed, IntKind.max, intBits_xor, e]
/-- The greatest address. -/
def Pf.last (p : Pf) : Nat := if p.valid then p.a + (2 ^ (32 - p.n.toNat) - 1) else 0
theorem last_eq {a k : Nat} (ht : top a k = a) (hk : k ≤ 32) (ha : a < 4294967296) : bits .or .u32 (a : Int) ((4294967295 - maskN k : Nat) : Int) = ((a + (2 ^ (32 - k) - 1) : Nat) : Int) := by
  have hp : 0 < 2 ^ (32 - k) := Nat.two_pow_pos _
  have hle : 2 ^ (32 - k) ≤ 4294967296 := Nat.pow_le_pow_right (n := 2) (j := 32) (by omega) (by omega)
  have e : 4294967295 - maskN k = 2 ^ (32 - k) - 1 := by unfold maskN; omega
  rw [e, u32_or_nat _ _ ha (by omega)]
  congr 1
  have h2 : a = a / 2 ^ (32 - k) * 2 ^ (32 - k) := by unfold top at ht; exact ht.symm
  rw [h2]
  generalize a / 2 ^ (32 - k) = q
  exact nat_disjoint (32 - k) q (2 ^ (32 - k) - 1) (by omega)
theorem last_lt {a k : Nat} (ht : top a k = a) (hk : k ≤ 32) (ha : a < 4294967296) : a + (2 ^ (32 - k) - 1) < 4294967296 := by
  have h2 : a = a / 2 ^ (32 - k) * 2 ^ (32 - k) := by unfold top at ht; exact ht.symm
  have hp : 2 ^ k * 2 ^ (32 - k) = 4294967296 := by rw [← Nat.pow_add, show k + (32 - k) = 32 by omega]
  have hpos : 0 < 2 ^ (32 - k) := Nat.two_pow_pos _
  have hq : a / 2 ^ (32 - k) < 2 ^ k := Nat.div_lt_of_lt_mul (by rw [Nat.mul_comm, hp]; exact ha)
  have h3 : (a / 2 ^ (32 - k) + 1) * 2 ^ (32 - k) ≤ 2 ^ k * 2 ^ (32 - k) := Nat.mul_le_mul_right _ hq
  rw [Nat.succ_mul, hp, ← h2] at h3
  omega
end Go.Proofs.Ytkdjbddjblahkaa

/-
  A trie in memory: its nodes are found by prefixes.
  No conditions beyond those that each statement names.
-/
namespace Go.Proofs.Ytkdjbddjblahkaa
open Go.RowKit

/-! ### Prefixes in plain numbers -/
theorem pow_up {k : Nat} (h : k < 32) : 2 ^ (32 - k) = 2 * 2 ^ (31 - k) := by rw [show 32 - k = (31 - k) + 1 by omega, Nat.pow_succ, Nat.mul_comm]
/-- The address of a prefix that is one bit longer. -/
def kidA (x k bit : Nat) : Nat := x + bit * 2 ^ (31 - k)
theorem top_kid (a : Nat) {k : Nat} (h : k < 32) : top a (k + 1) = kidA (top a k) k (bitAt a k) := by
  unfold kidA top
  rw [bitAt_nat a k h, pow_up h, show 32 - (k + 1) = 31 - k by omega]
  have hd := div_step a k h
  rw [pow_up h] at hd
  generalize a / 2 ^ (31 - k) % 2 = r at *
  rw [hd, Nat.add_mul, Nat.mul_assoc, Nat.mul_comm 2, Nat.mul_assoc, Nat.mul_comm _ 2, ← Nat.mul_assoc]
theorem kid_top {x k bit : Nat} (h : k < 32) (hx : top x k = x) (hb : bit < 2) : top (kidA x k bit) (k + 1) = kidA x k bit ∧ top (kidA x k bit) k = x := by
  unfold kidA
  unfold top at *
  rw [pow_up h] at *
  rw [show 32 - (k + 1) = 31 - k by omega]
  have hp : 0 < 2 ^ (31 - k) := Nat.two_pow_pos _
  generalize 2 ^ (31 - k) = p at *
  obtain ⟨q, hq⟩ : ∃ q, x = q * (2 * p) := ⟨_, hx.symm⟩
  subst hq
  have e1 : q * (2 * p) + bit * p = (2 * q + bit) * p := by rw [Nat.add_mul, ← Nat.mul_assoc, Nat.mul_comm q 2]
  rw [e1]
  refine ⟨by rw [Nat.mul_div_cancel _ hp], ?_⟩
  rw [Nat.mul_comm 2 p, ← Nat.div_div_eq_div_mul, Nat.mul_div_cancel _ hp]
  rw [show (2 * q + bit) / 2 = q by omega]
theorem top_top (a : Nat) {j k : Nat} (h : j ≤ k) (hk : k ≤ 32) : top (top a k) j = top a j := by
  unfold top
  have e : 2 ^ (32 - j) = 2 ^ (32 - k) * 2 ^ (k - j) := by rw [← Nat.pow_add]; congr 1; omega
  have hp : 0 < 2 ^ (32 - k) := Nat.two_pow_pos _
  rw [e, ← Nat.div_div_eq_div_mul, Nat.mul_div_cancel _ hp, Nat.div_div_eq_div_mul]
theorem kid_lt {x k bit : Nat} (h : k < 32) (hx : top x k = x) (hb : bit < 2) (hl : x < 4294967296) : kidA x k bit < 4294967296 := by
  have := last_lt hx (by omega) hl
  rw [pow_up h] at this
  have hp : 0 < 2 ^ (31 - k) := Nat.two_pow_pos _
  unfold kidA
  rcases (by omega : bit = 0 ∨ bit = 1) with rfl | rfl <;> omega
theorem kid_inj {x x' k bit bit' : Nat} (h : k < 32) (hx : top x k = x) (hx' : top x' k = x') (hb : bit < 2) (hb' : bit' < 2) (e : kidA x k bit = kidA x' k bit') : x = x' ∧ bit = bit' := by
  have h1 := (kid_top h hx hb).2
  have h2 := (kid_top h hx' hb').2
  rw [e, h2] at h1
  subst h1
  refine ⟨rfl, ?_⟩
  have hp : 0 < 2 ^ (31 - k) := Nat.two_pow_pos _
  unfold kidA at e
  exact Nat.eq_of_mul_eq_mul_right hp (by omega)
theorem bit_lt (a k : Nat) : bitAt a (k : Int) < 2 := bitAt_lt a _

/-! ### Nodes -/
def ptrV (o : Option Nat) : Value := .pointer (o.map fun b => ⟨b, 0, none⟩)
/-- The node below, one bit on. -/
def kid (N : Nat → Nat → Option Nat) (x k bit : Nat) : Option Nat := if k < 32 then N (kidA x k bit) (k + 1) else none
def nodeC (N : Nat → Nat → Option Nat) (E : Nat → Nat → Option Int) (x k : Nat) (tl : List Value) : List Value := ptrV (kid N x k 0) :: ptrV (kid N x k 1) :: .bool (E x k).isSome :: .int .i64 ((E x k).getD 0) :: tl
def nodeT (k : Nat) : Nat := if k = 0 then 99 else 97
def nodeL (k : Nat) (n : Int) : List Value := if k = 0 then [.int .i64 n] else []
structure TrieM (w : World) (base b0 : Nat) (N : Nat → Nat → Option Nat) (E : Nat → Nat → Option Int) (n : Int) : Prop where
  root : N 0 0 = some b0
  node : ∀ x k b, N x k = some b → Blk w b (nodeT k) (nodeC N E x k (nodeL k n))
  can : ∀ x k b, N x k = some b → k ≤ 32 ∧ top x k = x ∧ x < 4294967296
  inj : ∀ x k x' k' b, N x k = some b → N x' k' = some b → x = x' ∧ k = k'
  par : ∀ x k b, N x (k + 1) = some b → N (top x k) k ≠ none
  ent : ∀ x k v, E x k = some v → N x k ≠ none
  ge : ∀ x k b, N x k = some b → base ≤ b
/-- The trie's blocks. -/
def Foot (N : Nat → Nat → Option Nat) (b : Nat) : Prop := ∃ x k, N x k = some b
section
variable {w w1 : World} {base b0 : Nat} {N : Nat → Nat → Option Nat} {E : Nat → Nat → Option Int} {n : Int}
theorem TrieM.ext (h : TrieM w base b0 N E n) (he : Ext w w1) : TrieM w1 base b0 N E n := { h with node := fun x k b hb => (h.node x k b hb).ext he }
theorem TrieM.lt (h : TrieM w base b0 N E n) {b : Nat} (hb : Foot N b) : b < w.heap.size := by
  obtain ⟨x, k, hb⟩ := hb
  exact (h.node x k b hb).lt
theorem TrieM.foot_ge (h : TrieM w base b0 N E n) {b : Nat} (hb : Foot N b) : base ≤ b := by
  obtain ⟨x, k, hb⟩ := hb
  exact h.ge x k b hb
theorem TrieM.none_below (h : TrieM w base b0 N E n) (a : Nat) {k j : Nat} (hk : N (top a k) k = none) (hkj : k ≤ j) (hj : j ≤ 32) : N (top a j) j = none := by
  induction j with
  | zero => obtain rfl : k = 0 := by omega
            exact hk
  | succ j ih =>
    rcases Nat.lt_or_ge k (j + 1) with h1 | h1
    · have := ih (by omega) (by omega)
      cases hn : N (top a (j + 1)) (j + 1) with
      | none => rfl
      | some b =>
        have h2 := h.par _ _ _ hn
        rw [top_top a (by omega) hj] at h2
        exact absurd this h2
    · obtain rfl : k = j + 1 := by omega
      exact hk
theorem TrieM.kid_eq (_ : TrieM w base b0 N E n) (a : Nat) {k : Nat} (hk : k < 32) : kid N (top a k) k (bitAt a k) = N (top a (k + 1)) (k + 1) := by
  rw [kid, if_pos hk, top_kid a hk]
/-- The cells of a node. -/
theorem TrieM.kid_cell (h : TrieM w base b0 N E n) {x k b : Nat} (hb : N x k = some b) {bit : Nat} (hbit : bit < 2) : w.cell? ((⟨b, 0, none⟩ : Addr).add (bit * 1)) = some (ptrV (kid N x k bit)) := by
  have hB := h.node x k b hb
  rcases (by omega : bit = 0 ∨ bit = 1) with rfl | rfl
  · exact hB.cell_add rfl
  · exact hB.cell_add rfl
theorem TrieM.has_cell (h : TrieM w base b0 N E n) {x k b : Nat} (hb : N x k = some b) : w.cell? ⟨b, 2, none⟩ = some (.bool (E x k).isSome) := (h.node x k b hb).cell rfl
theorem TrieM.val_cell (h : TrieM w base b0 N E n) {x k b : Nat} (hb : N x k = some b) : w.cell? ⟨b, 3, none⟩ = some (.int .i64 ((E x k).getD 0)) := (h.node x k b hb).cell rfl
theorem TrieM.n_cell (h : TrieM w base b0 N E n) : w.cell? ⟨b0, 4, none⟩ = some (.int .i64 n) := (h.node 0 0 b0 h.root).cell rfl
/-- A node's entry has changed. -/
theorem TrieM.setE (h : TrieM w base b0 N E n) {x k b : Nat} {E' : Nat → Nat → Option Int} (hb : N x k = some b) (hw : ∀ c, c ≠ b → w1.heap[c]? = w.heap[c]?) (hB : Blk w1 b (nodeT k) (nodeC N E' x k (nodeL k n)))
    (hE : ∀ x' k', ¬(x' = x ∧ k' = k) → E' x' k' = E x' k') : TrieM w1 base b0 N E' n := by
  refine { h with node := fun x' k' b' hb' => ?_, ent := fun x' k' v hv => ?_ }
  · by_cases e : x' = x ∧ k' = k
    · obtain ⟨rfl, rfl⟩ := e
      rw [hb] at hb'; cases hb'
      exact hB
    · have hne : b' ≠ b := fun e2 => by
        subst e2
        exact e (h.inj _ _ _ _ _ hb' hb)
      have := h.node x' k' b' hb'
      unfold Blk at *
      rw [hw b' hne, this]
      unfold nodeC
      rw [hE x' k' e]
  · by_cases e : x' = x ∧ k' = k
    · obtain ⟨rfl, rfl⟩ := e
      rw [hb]; exact fun h => nomatch h
    · rw [hE x' k' e] at hv
      exact h.ent x' k' v hv
/-- The number of entries has changed. -/
theorem TrieM.setN (h : TrieM w base b0 N E n) {n' : Int} (hw : ∀ c, c ≠ b0 → w1.heap[c]? = w.heap[c]?) (hB : Blk w1 b0 99 (nodeC N E 0 0 [.int .i64 n'])) : TrieM w1 base b0 N E n' := by
  refine { h with node := fun x' k' b' hb' => ?_ }
  by_cases e : b' = b0
  · subst e
    obtain ⟨rfl, rfl⟩ := h.inj _ _ _ _ _ hb' h.root
    exact hB
  · have := h.node x' k' b' hb'
    have hk : k' ≠ 0 := fun e2 => by
      subst e2
      have h1 := (h.can _ _ _ hb').2.1
      rw [top_zero _ (h.can _ _ _ hb').2.2] at h1
      subst h1
      rw [h.root] at hb'; cases hb'
      exact e rfl
    unfold Blk at *
    rw [hw b' e, this, nodeL, nodeL, if_neg hk, if_neg hk]
/-- A node has been added below another. -/
def addN (N : Nat → Nat → Option Nat) (x k b : Nat) : Nat → Nat → Option Nat := fun x' k' => if x' = x ∧ k' = k then some b else N x' k'
theorem TrieM.addNode (h : TrieM w base b0 N E n) {x k b bit b' : Nat} (hb : N x k = some b) (hk : k < 32) (hbit : bit < 2) (hnone : N (kidA x k bit) (k + 1) = none) (hb' : w.heap.size ≤ b') (hbase : base ≤ b')
    (hw : ∀ c, c < w.heap.size → c ≠ b → w1.heap[c]? = w.heap[c]?) (hB' : Blk w1 b' 97 [.pointer none, .pointer none, .bool false, .int .i64 0])
    (hB : Blk w1 b (nodeT k) (nodeC (addN N (kidA x k bit) (k + 1) b') E x k (nodeL k n))) : TrieM w1 base b0 (addN N (kidA x k bit) (k + 1) b') E n := by
  obtain ⟨_, hcx, hlx⟩ := h.can _ _ _ hb
  obtain ⟨ht1, ht2⟩ := kid_top hk hcx hbit
  have hold : ∀ x' k' c, N x' k' = some c → c ≠ b' := fun x' k' c hc e => by
    subst e
    have := h.lt ⟨_, _, hc⟩
    omega
  have hE0 : E (kidA x k bit) (k + 1) = none := by
    cases he : E (kidA x k bit) (k + 1) with
    | none => rfl
    | some v => exact absurd hnone (h.ent _ _ _ he)
  have hkids : ∀ bit', bit' < 2 → kid (addN N (kidA x k bit) (k + 1) b') (kidA x k bit) (k + 1) bit' = none := fun bit' hb2 => by
    unfold kid
    split
    · rename_i hlt
      rw [addN, if_neg (fun e => by omega)]
      cases hn : N (kidA (kidA x k bit) (k + 1) bit') (k + 1 + 1) with
      | none => rfl
      | some c =>
        have := h.par _ _ _ hn
        rw [(kid_top hlt ht1 hb2).2] at this
        exact absurd hnone this
    · rfl
  have cases' : ∀ x' k' c, addN N (kidA x k bit) (k + 1) b' x' k' = some c → (x' = kidA x k bit ∧ k' = k + 1 ∧ c = b') ∨ (N x' k' = some c ∧ ¬(x' = kidA x k bit ∧ k' = k + 1)) := fun x' k' c hc => by
    unfold addN at hc
    split at hc
    · rename_i e; cases hc; exact .inl ⟨e.1, e.2, rfl⟩
    · rename_i e; exact .inr ⟨hc, e⟩
  refine ⟨?_, fun x' k' c hc => ?_, fun x' k' c hc => ?_, fun x1 k1 x2 k2 c h1 h2 => ?_, fun x' k' c hc => ?_, fun x' k' v hv => ?_, fun x' k' c hc => ?_⟩
  · rw [addN, if_neg (fun e => by omega)]; exact h.root
  · rcases cases' _ _ _ hc with ⟨rfl, rfl, rfl⟩ | ⟨hc2, hne⟩
    · unfold nodeC nodeT nodeL
      rw [hkids 0 (by omega), hkids 1 (by omega), hE0, if_neg (by omega), if_neg (by omega)]
      exact hB'
    · by_cases e : c = b
      · subst e
        obtain ⟨rfl, rfl⟩ := h.inj _ _ _ _ _ hc2 hb
        exact hB
      · have hB1 := h.node _ _ _ hc2
        have hkk : ∀ bit', bit' < 2 → kid (addN N (kidA x k bit) (k + 1) b') x' k' bit' = kid N x' k' bit' := fun bit' hb2 => by
          unfold kid
          split
          · rename_i hlt
            rw [addN, if_neg]
            rintro ⟨e1, e2⟩
            obtain rfl : k' = k := by omega
            obtain ⟨rfl, _⟩ := kid_inj hlt (h.can _ _ _ hc2).2.1 hcx hb2 hbit e1
            rw [hb] at hc2; cases hc2
            exact e rfl
          · rfl
        unfold Blk nodeC at *
        rw [hw c (h.lt ⟨_, _, hc2⟩) e, hB1, hkk 0 (by omega), hkk 1 (by omega)]
  · rcases cases' _ _ _ hc with ⟨rfl, rfl, rfl⟩ | ⟨hc, _⟩
    · exact ⟨hk, ht1, kid_lt hk hcx hbit hlx⟩
    · exact h.can _ _ _ hc
  · rcases cases' _ _ _ h1 with ⟨rfl, rfl, rfl⟩ | ⟨h1, _⟩ <;> rcases cases' _ _ _ h2 with ⟨rfl, rfl, h5⟩ | ⟨h2, _⟩
    · exact ⟨rfl, rfl⟩
    · exact absurd rfl (hold _ _ _ h2)
    · exact absurd h5 (hold _ _ _ h1)
    · exact h.inj _ _ _ _ _ h1 h2
  · have key : N (top x' k') k' ≠ none := by
      rcases cases' _ _ _ hc with ⟨rfl, h5, rfl⟩ | ⟨hc, _⟩
      · obtain rfl : k' = k := by omega
        rw [ht2, hb]; exact fun h => nomatch h
      · exact h.par _ _ _ hc
    unfold addN
    split
    · exact fun h => nomatch h
    · exact key
  · have := h.ent x' k' v hv
    unfold addN
    split
    · exact fun h => nomatch h
    · exact this
  · rcases cases' _ _ _ hc with ⟨rfl, rfl, rfl⟩ | ⟨hc, _⟩
    · exact hbase
    · exact h.ge _ _ _ hc
end
end Go.Proofs.Ytkdjbddjblahkaa

/-
  Calls that change what was there: which blocks they may change.
  No conditions beyond those that each rule states.
-/
import Derived.Test.YtfakgiikobajnaaVMore
namespace Go.Proofs.Ytfakgiikobajnaa
open Go.RowKit

/-- Only blocks of S, and new ones, have changed. -/
structure Mod (S : Nat → Prop) (w w' : World) : Prop where
  os : w'.os = w.os
  tape : w'.tape = w.tape
  output : w'.output = w.output
  size : w.heap.size ≤ w'.heap.size
  other : ∀ c, c < w.heap.size → ¬S c → w'.heap[c]? = w.heap[c]?
section
variable {S S' : Nat → Prop} {w w0 w1 w2 : World}
theorem Mod.of_ext (h : Ext w w1) : Mod S w w1 := ⟨h.os, h.tape, h.output, h.size, fun c hc _ => h.block c hc⟩
theorem Mod.trans (h : Mod S w w1) (h2 : Mod S w1 w2) : Mod S w w2 :=
  ⟨h2.os.trans h.os, h2.tape.trans h.tape, h2.output.trans h.output, Nat.le_trans h.size h2.size, fun c hc hs => by rw [h2.other c (Nat.lt_of_lt_of_le hc h.size) hs, h.other c hc hs]⟩
/-- The second may change what is new since the first, too. -/
theorem Mod.trans' (h : Mod S w w1) (h2 : Mod S' w1 w2) (hs : ∀ c, S' c → S c ∨ w.heap.size ≤ c) : Mod S w w2 :=
  ⟨h2.os.trans h.os, h2.tape.trans h.tape, h2.output.trans h.output, Nat.le_trans h.size h2.size, fun c hc hn => by
    rw [h2.other c (Nat.lt_of_lt_of_le hc h.size) (fun h3 => (hs c h3).elim hn (fun h4 => by omega)), h.other c hc hn]⟩
theorem Mod.ext (h : Mod S w w1) (h2 : Ext w1 w2) : Mod S w w2 := h.trans (.of_ext h2)
theorem Mod.mono (h : Mod S w w1) (hs : ∀ c, S c → S' c) : Mod S' w w1 := ⟨h.os, h.tape, h.output, h.size, fun c hc hn => h.other c hc (fun h2 => hn (hs c h2))⟩
theorem Mod.upd {b : Nat} {t : TypeId} {cs : List Value} (h : Mod S w w1) (hu : Upd w1 w2 b t cs) (hb : S b ∨ w.heap.size ≤ b) : Mod S w w2 :=
  ⟨hu.os.trans h.os, hu.tape.trans h.tape, hu.output.trans h.output, by rw [hu.size]; exact h.size, fun c hc hn => by
    rw [hu.other c (fun e => by subst e; exact hb.elim hn (fun h4 => by omega)), h.other c hc hn]⟩
theorem Mod.grow {row : Option Nat} (h : Mod S w w1) (hg : w1.grownBy w2 row) (hb : ∀ b, row = some b → S b ∨ w.heap.size ≤ b) : Mod S w w2 :=
  ⟨hg.os.trans h.os, hg.tape.trans h.tape, hg.output.trans h.output, Nat.le_trans h.size hg.size, fun c hc hn => by
    rw [hg.block c (Nat.lt_of_lt_of_le hc h.size) (fun e => (hb c e.symm).elim hn (fun h4 => by omega)), h.other c hc hn]⟩
theorem Mod.ext_of (he : Ext w0 w) (h : Mod S w w1) (hs : ∀ c, S c → w0.heap.size ≤ c) : Ext w0 w1 :=
  ⟨h.os.trans he.os, h.tape.trans he.tape, h.output.trans he.output, Nat.le_trans he.size h.size, fun c hc => by
    rw [h.other c (Nat.lt_of_lt_of_le hc he.size) (fun h3 => by have := hs c h3; omega), he.block c hc]⟩
theorem Mod.blk {b : Nat} {t : TypeId} {cs : List Value} (h : Mod S w w1) (hB : Blk w b t cs) (hb : ¬S b) : Blk w1 b t cs := by
  have := hB.lt
  unfold Blk at *
  rw [h.other b this hb]; exact hB
theorem Mod.own {base n0 : Nat} {e : TypeId} {v : Value} {L : List (List Value)} (h : Mod S w w1) (ho : Own w base e n0 v L) (hb : ∀ b, v.ownBlock = some b → ¬S b) : Own w1 base e n0 v L := by
  refine ⟨⟨ho.row.1, ho.row.2.imp id fun ⟨g, cap, cur, h1, h2, h3, h4⟩ => ⟨g, cap, cur, h1, h2, ?_, h4⟩⟩, ho.len⟩
  rw [h.other g (Array.getElem?_eq_some_iff.1 h3).1 (hb g (by rw [h1]; rfl))]
  exact h3
theorem Mod.cells {a : Addr} {vs : List Value} (h : Mod S w w1) (hc : Cells w a vs) (hb : ¬S a.block) : Cells w1 a vs := fun j u hj => by
  have hc := hc j u hj
  have hlt := World.block_lt_of_cell? w _ hc
  have hb' : (a.add j).block = a.block := by unfold Addr.add; split <;> rfl
  rw [World.cell?_of_block (h.other _ hlt (by rw [hb']; exact hb))]; exact hc
theorem Mod.arr {n0 : Nat} {ao : Option Addr} {L : List (List Value)} (h : Mod S w w1) (ha : Arr w n0 ao L) (hb : ∀ a, ao = some a → ¬S a.block) : Arr w1 n0 ao L := fun k x hk => by
  obtain ⟨ad, h1, h2⟩ := ha k x hk
  refine ⟨ad, h1, h.cells h2 ?_⟩
  have : (ad.add (k * n0)).block = ad.block := by unfold Addr.add; split <;> rfl
  rw [this]; exact hb ad h1
end
/-- The call returned something of which 'R' is known; it may have changed the blocks of S. -/
abbrev Does (S : Nat → Prop) (R : Value → World → Prop) (w : World) : Ending → World → Prop := fun e w' => ∃ v, e = .returned v ∧ Mod S w w' ∧ R v w'
theorem Does_mk {S : Nat → Prop} {R : Value → World → Prop} {v : Value} {w w1 : World} (hR : ∀ w', Ext w1 w' → R v w') (hm : Mod S w w1) : ∀ w', Ext w1 w' → Does S R w (.returned v) w' := fun w' h => ⟨v, rfl, hm.ext h, hR w' h⟩
section
variable {P : Program} {N : Nat} {ops : Array Oper} {K : Env → World → Prop} {m : Env} {w : World} {rest : List Oper} {ty : TypeId} {pos : String} {after : Array Edge} {g : Option (Nat × Bool)}
theorem Ops_callM {dst : Nat} {f : FuncId} {xs : Array Operand} {ats : Array TypeId} {vs : List Value} {S : Nat → Prop} {R : World → Value → World → Prop} [hf : TFun P f]
    (hon : On N ops m ⟨some dst, .call { callee := .value (.func f), args := xs, argTypes := ats }, ty, pos, after, g⟩) (hd : Nat.ble (dst + 1) N = true) (hx : evs m xs.toList = some vs)
    (hc : ∀ w', Ext w w' → Calls P f vs.toArray w' (Does S (R w') w'))
    (h : ∀ v w1 w0, Ext w w0 → Mod S w0 w1 → R w0 v w1 → Ops P N ops false K rest ((dst, v) :: m) w1) : Ops P N ops false K (⟨some dst, .call { callee := .value (.func f), args := xs, argTypes := ats }, ty, pos, after, g⟩ :: rest) m w := by
  refine ⟨fun a w' ha hw => ?_⟩
  unfold wpList
  rw [if_pos (hon.out a ha)]
  refine .inl ?_
  have e1 : xs.map a.eval = vs.toArray := map_evs ha hx
  have hr : (execOp a.eval ⟨some dst, .call { callee := .value (.func f), args := xs, argTypes := ats }, ty, pos, after, g⟩).run P w' = .ok (.enter f vs.toArray) w' := by
    rw [execOp_call_go, e1]
    simpa using hf.h vs.toArray w'
  unfold Oper.wp
  rw [hr]
  refine Calls.mono (hc w' hw) fun e w2 hg => ?_
  obtain ⟨v, rfl, he, hR⟩ := hg
  exact (h v w2 w' hw he hR).out _ _ (ha.put (Nat.le_of_ble_eq_true hd) v) (Ext.refl _)
theorem Ops_callvM {dst : Nat} {f : FuncId} {t : Operand} {first cap : List Value} {xs : Array Operand} {ats : Array TypeId} {vs : List Value} {S : Nat → Prop} {R : World → Value → World → Prop} [hf : TFun P f]
    (hon : On N ops m ⟨some dst, .call { callee := .value t, args := xs, argTypes := ats }, ty, pos, after, g⟩) (hd : Nat.ble (dst + 1) N = true) (ht : ev m t = some (.func (.func f) first.toArray cap.toArray)) (hx : evs m xs.toList = some vs)
    (hc : ∀ w', Ext w w' → Calls P f (first ++ vs ++ cap).toArray w' (Does S (R w') w'))
    (h : ∀ v w1 w0, Ext w w0 → Mod S w0 w1 → R w0 v w1 → Ops P N ops false K rest ((dst, v) :: m) w1) : Ops P N ops false K (⟨some dst, .call { callee := .value t, args := xs, argTypes := ats }, ty, pos, after, g⟩ :: rest) m w := by
  refine ⟨fun a w' ha hw => ?_⟩
  unfold wpList
  rw [if_pos (hon.out a ha)]
  refine .inl ?_
  have e1 : xs.map a.eval = vs.toArray := map_evs ha hx
  have hr : (execOp a.eval ⟨some dst, .call { callee := .value t, args := xs, argTypes := ats }, ty, pos, after, g⟩).run P w' = .ok (.enter f (first ++ vs ++ cap).toArray) w' := by
    have := hf.h (first ++ vs ++ cap).toArray w'
    simp only [execOp, resolve, e1, ha.ev ht, Deferred.ofValue, invoke]
    simpa [Array.append_assoc] using this
  unfold Oper.wp
  rw [hr]
  refine Calls.mono (hc w' hw) fun e w2 hg => ?_
  obtain ⟨v, rfl, he, hR⟩ := hg
  exact (h v w2 w' hw he hR).out _ _ (ha.put (Nat.le_of_ble_eq_true hd) v) (Ext.refl _)
end
end Go.Proofs.Ytfakgiikobajnaa

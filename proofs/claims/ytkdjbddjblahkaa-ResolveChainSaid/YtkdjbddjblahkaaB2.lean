/-
  Part 2 of the texts that the proofs of this seat share: rules of a walk, contracts of functions, plain facts. Each piece says below what it proves.
  No conditions beyond those that each lemma states.
-/
import Derived.Test.YtkdjbddjblahkaaB1
import Derived.Laws.OwnMore
import Derived.Laws.Slices
import Derived.Maps.Keyed
import Derived.DeepKeys4

/-
  Calls that change what was there: which blocks they may change.
  No conditions beyond those that each rule states.
-/
namespace Go.Proofs.Ytkdjbddjblahkaa
open Go.RowKit

/-- Only blocks of S, and new ones, have changed. -/
structure Mod (S : Nat → Prop) (w w' : World) : Prop where
  os : w'.os = w.os
  tape : w'.tape = w.tape
  output : w'.output = w.output
  size : w.heap.size ≤ w'.heap.size
  other : ∀ c, c < w.heap.size → ¬S c → w'.heap[c]? = w.heap[c]?
section
variable {S S' : Nat → Prop} {w w0 w1 w2 : World}
theorem Mod.of_ext (h : Ext w w1) : Mod S w w1 := ⟨h.os, h.tape, h.output, h.size, fun c hc _ => h.block c hc⟩
theorem Mod.trans (h : Mod S w w1) (h2 : Mod S w1 w2) : Mod S w w2 :=
  ⟨h2.os.trans h.os, h2.tape.trans h.tape, h2.output.trans h.output, Nat.le_trans h.size h2.size, fun c hc hs => by rw [h2.other c (Nat.lt_of_lt_of_le hc h.size) hs, h.other c hc hs]⟩
/-- The second may change what is new since the first, too. -/
theorem Mod.trans' (h : Mod S w w1) (h2 : Mod S' w1 w2) (hs : ∀ c, S' c → S c ∨ w.heap.size ≤ c) : Mod S w w2 :=
  ⟨h2.os.trans h.os, h2.tape.trans h.tape, h2.output.trans h.output, Nat.le_trans h.size h2.size, fun c hc hn => by
    rw [h2.other c (Nat.lt_of_lt_of_le hc h.size) (fun h3 => (hs c h3).elim hn (fun h4 => by omega)), h.other c hc hn]⟩
theorem Mod.ext (h : Mod S w w1) (h2 : Ext w1 w2) : Mod S w w2 := h.trans (.of_ext h2)
theorem Mod.mono (h : Mod S w w1) (hs : ∀ c, S c → S' c) : Mod S' w w1 := ⟨h.os, h.tape, h.output, h.size, fun c hc hn => h.other c hc (fun h2 => hn (hs c h2))⟩
theorem Mod.upd {b : Nat} {t : TypeId} {cs : List Value} (h : Mod S w w1) (hu : Upd w1 w2 b t cs) (hb : S b ∨ w.heap.size ≤ b) : Mod S w w2 :=
  ⟨hu.os.trans h.os, hu.tape.trans h.tape, hu.output.trans h.output, by rw [hu.size]; exact h.size, fun c hc hn => by
    rw [hu.other c (fun e => by subst e; exact hb.elim hn (fun h4 => by omega)), h.other c hc hn]⟩
theorem Mod.grow {row : Option Nat} (h : Mod S w w1) (hg : w1.grownBy w2 row) (hb : ∀ b, row = some b → S b ∨ w.heap.size ≤ b) : Mod S w w2 :=
  ⟨hg.os.trans h.os, hg.tape.trans h.tape, hg.output.trans h.output, Nat.le_trans h.size hg.size, fun c hc hn => by
    rw [hg.block c (Nat.lt_of_lt_of_le hc h.size) (fun e => (hb c e.symm).elim hn (fun h4 => by omega)), h.other c hc hn]⟩
theorem Mod.ext_of (he : Ext w0 w) (h : Mod S w w1) (hs : ∀ c, S c → w0.heap.size ≤ c) : Ext w0 w1 :=
  ⟨h.os.trans he.os, h.tape.trans he.tape, h.output.trans he.output, Nat.le_trans he.size h.size, fun c hc => by
    rw [h.other c (Nat.lt_of_lt_of_le hc he.size) (fun h3 => by have := hs c h3; omega), he.block c hc]⟩
theorem Mod.blk {b : Nat} {t : TypeId} {cs : List Value} (h : Mod S w w1) (hB : Blk w b t cs) (hb : ¬S b) : Blk w1 b t cs := by
  have := hB.lt
  unfold Blk at *
  rw [h.other b this hb]; exact hB
theorem Mod.own {base n0 : Nat} {e : TypeId} {v : Value} {L : List (List Value)} (h : Mod S w w1) (ho : Own w base e n0 v L) (hb : ∀ b, v.ownBlock = some b → ¬S b) : Own w1 base e n0 v L := by
  refine ⟨⟨ho.row.1, ho.row.2.imp id fun ⟨g, cap, cur, h1, h2, h3, h4⟩ => ⟨g, cap, cur, h1, h2, ?_, h4⟩⟩, ho.len⟩
  rw [h.other g (Array.getElem?_eq_some_iff.1 h3).1 (hb g (by rw [h1]; rfl))]
  exact h3
theorem Mod.cells {a : Addr} {vs : List Value} (h : Mod S w w1) (hc : Cells w a vs) (hb : ¬S a.block) : Cells w1 a vs := fun j u hj => by
  have hc := hc j u hj
  have hlt := World.block_lt_of_cell? w _ hc
  have hb' : (a.add j).block = a.block := by unfold Addr.add; split <;> rfl
  rw [World.cell?_of_block (h.other _ hlt (by rw [hb']; exact hb))]; exact hc
theorem Mod.arr {n0 : Nat} {ao : Option Addr} {L : List (List Value)} (h : Mod S w w1) (ha : Arr w n0 ao L) (hb : ∀ a, ao = some a → ¬S a.block) : Arr w1 n0 ao L := fun k x hk => by
  obtain ⟨ad, h1, h2⟩ := ha k x hk
  refine ⟨ad, h1, h.cells h2 ?_⟩
  have : (ad.add (k * n0)).block = ad.block := by unfold Addr.add; split <;> rfl
  rw [this]; exact hb ad h1
end
/-- The call returned something of which 'R' is known; it may have changed the blocks of S. -/
abbrev Does (S : Nat → Prop) (R : Value → World → Prop) (w : World) : Ending → World → Prop := fun e w' => ∃ v, e = .returned v ∧ Mod S w w' ∧ R v w'
theorem Does_mk {S : Nat → Prop} {R : Value → World → Prop} {v : Value} {w w1 : World} (hR : ∀ w', Ext w1 w' → R v w') (hm : Mod S w w1) : ∀ w', Ext w1 w' → Does S R w (.returned v) w' := fun w' h => ⟨v, rfl, hm.ext h, hR w' h⟩
section
variable {P : Program} {N : Fr} {ops : Array Oper} {K : Env → World → Prop} {m : Env} {w : World} {rest : List Oper} {ty : TypeId} {pos : String} {after : Array Edge} {g : Option (Nat × Bool)}
theorem Ops_callM {dst : Nat} {f : FuncId} {xs : Array Operand} {ats : Array TypeId} {vs : List Value} {S : Nat → Prop} {R : World → Value → World → Prop} [hf : TFun P f]
    (hon : On N ops m ⟨some dst, .call { callee := .value (.func f), args := xs, argTypes := ats }, ty, pos, after, g⟩) (hd : Nat.ble (dst + 1) N.n = true) (hx : evs m xs.toList = some vs)
    (hc : ∀ w', Ext w w' → Calls P f vs.toArray w' (Does S (R w') w'))
    (h : ∀ v w1 w0, Ext w w0 → Mod S w0 w1 → R w0 v w1 → Ops P N ops false K rest ((dst, v) :: m) w1) : Ops P N ops false K (⟨some dst, .call { callee := .value (.func f), args := xs, argTypes := ats }, ty, pos, after, g⟩ :: rest) m w := by
  refine ⟨fun a w' ha hw => ?_⟩
  unfold wpList
  rw [if_pos (hon.out a ha)]
  refine .inl ?_
  have e1 : xs.map a.eval = vs.toArray := map_evs ha hx
  have hr : (execOp a.eval ⟨some dst, .call { callee := .value (.func f), args := xs, argTypes := ats }, ty, pos, after, g⟩).run P w' = .ok (.enter f vs.toArray) w' := by
    rw [execOp_call_go, e1]
    simpa using hf.h vs.toArray w'
  unfold Oper.wp
  rw [hr]
  refine Calls.mono (hc w' hw) fun e w2 hg => ?_
  obtain ⟨v, rfl, he, hR⟩ := hg
  exact (h v w2 w' hw he hR).out _ _ (ha.put (Nat.le_of_ble_eq_true hd) v) (Ext.refl _)
theorem Ops_callvM {dst : Nat} {f : FuncId} {t : Operand} {first cap : List Value} {xs : Array Operand} {ats : Array TypeId} {vs : List Value} {S : Nat → Prop} {R : World → Value → World → Prop} [hf : TFun P f]
    (hon : On N ops m ⟨some dst, .call { callee := .value t, args := xs, argTypes := ats }, ty, pos, after, g⟩) (hd : Nat.ble (dst + 1) N.n = true) (ht : ev m t = some (.func (.func f) first.toArray cap.toArray)) (hx : evs m xs.toList = some vs)
    (hc : ∀ w', Ext w w' → Calls P f (first ++ vs ++ cap).toArray w' (Does S (R w') w'))
    (h : ∀ v w1 w0, Ext w w0 → Mod S w0 w1 → R w0 v w1 → Ops P N ops false K rest ((dst, v) :: m) w1) : Ops P N ops false K (⟨some dst, .call { callee := .value t, args := xs, argTypes := ats }, ty, pos, after, g⟩ :: rest) m w := by
  refine ⟨fun a w' ha hw => ?_⟩
  unfold wpList
  rw [if_pos (hon.out a ha)]
  refine .inl ?_
  have e1 : xs.map a.eval = vs.toArray := map_evs ha hx
  have hr : (execOp a.eval ⟨some dst, .call { callee := .value t, args := xs, argTypes := ats }, ty, pos, after, g⟩).run P w' = .ok (.enter f (first ++ vs ++ cap).toArray) w' := by
    have := hf.h (first ++ vs ++ cap).toArray w'
    simp only [execOp, resolve, e1, ha.ev ht, Deferred.ofValue, invoke]
    simpa [Array.append_assoc] using this
  unfold Oper.wp
  rw [hr]
  refine Calls.mono (hc w' hw) fun e w2 hg => ?_
  obtain ⟨v, rfl, he, hR⟩ := hg
  exact (h v w2 w' hw he hR).out _ _ (ha.put (Nat.le_of_ble_eq_true hd) v) (Ext.refl _)
end
end Go.Proofs.Ytkdjbddjblahkaa

/-
  Layer 6 (trie): the walks of New, find, Get, Len, Put.
  Conditions: addresses are below 2^32.
-/
namespace Go.Proofs.Ytkdjbddjblahkaa
open Go.RowKit

theorem bit_v (a : Nat) (k : Nat) (w : World) (ha : a < 4294967296) : Calls Try.prog 61 #[.int .u32 a, .int .i64 k] w (Ret (.int .i64 (bitAt a k)) w) := by
  refine V_enter (vs := [_, _]) Try.func61 rfl Try.ntmps61 (Nat.le_of_ble_eq_true rfl) ?_
  repeat (first | refine Vx ?_ | (apply Ops_q; (case hon => exact Va); (case hd => rfl); (case hq => exact YlA)) | refine Vr ?_ | refine Vt ?_ | refine Vf ?_ | refine Vm ?_ | refine Ve ?_ | refine Vo ?_ | refine Vz ?_ | refine Vn ?_)
  (apply Ops_q; (case hon => (exact Va)); (case hd => rfl); (case hq => exact Yl_call rfl (fun w_ e_ => atP_v a k w_ ha)))
  repeat (first | refine Vx ?_ | (apply Ops_q; (case hon => exact Va); (case hd => rfl); (case hq => exact YlA)) | refine Vr ?_ | refine Vt ?_ | refine Vf ?_ | refine Vm ?_ | refine Ve ?_ | refine Vo ?_ | refine Vz ?_ | refine Vn ?_)
  refine ret1 (by first | exact .inl rfl | exact .inr rfl) rfl rfl ?_
  exact Ret_mk rfl (Ext.refl _)
def N0 (b : Nat) : Nat → Nat → Option Nat := fun x k => if x = 0 ∧ k = 0 then some b else none
theorem new_trie {w : World} {b base : Nat} (hB : Blk w b 99 [.pointer none, .pointer none, .bool false, .int .i64 0, .int .i64 0]) (hb : base ≤ b) : TrieM w base b (N0 b) (fun _ _ => none) 0 := by
  have at0 : ∀ x k c, N0 b x k = some c → x = 0 ∧ k = 0 ∧ c = b := fun x k c h => by
    unfold N0 at h
    split at h
    · rename_i e; cases h; exact ⟨e.1, e.2, rfl⟩
    · cases h
  refine ⟨rfl, fun x k c h => ?_, fun x k c h => ?_, fun x k x' k' c h h' => ?_, fun x k c h => ?_, fun x k v h => (nomatch h), fun x k c h => ?_⟩
  · obtain ⟨rfl, rfl, rfl⟩ := at0 x k c h
    have hk : ∀ bit, kid (N0 c) 0 0 bit = none := fun bit => by
      unfold kid
      rw [if_pos (by omega), N0, if_neg (fun e => by omega)]
    unfold nodeC
    rw [hk, hk]
    exact hB
  · obtain ⟨rfl, rfl, rfl⟩ := at0 x k c h
    exact ⟨by omega, by decide, by omega⟩
  · obtain ⟨rfl, rfl, _⟩ := at0 x k c h
    obtain ⟨rfl, rfl, _⟩ := at0 x' k' c h'
    exact ⟨rfl, rfl⟩
  · have := at0 _ _ _ h
    omega
  · obtain ⟨_, _, rfl⟩ := at0 x k c h
    exact hb
theorem new_v (w : World) : Calls Try.prog 44 #[] w (Gives (fun v w' => ∃ b, v = .pointer (some ⟨b, 0, none⟩) ∧ TrieM w' w.heap.size b (N0 b) (fun _ _ => none) 0) w) := by
  refine V_enter (vs := []) Try.func44 rfl Try.ntmps44 (Nat.le_of_ble_eq_true rfl) ?_
  repeat (first | refine Vx ?_ | (apply Ops_q; (case hon => exact Va); (case hd => rfl); (case hq => exact YlA)) | refine Vr ?_ | refine Vt ?_ | refine Vf ?_ | refine Vm ?_ | refine Ve ?_ | refine Vo ?_ | refine Vz ?_ | refine Vn ?_)
  (refine Ops_box (by exact Va) rfl rfl rfl ?_; intro w1 b1 n_b1; have k_b1 := n_b1.blk)
  repeat (first | refine Vx ?_ | (apply Ops_q; (case hon => exact Va); (case hd => rfl); (case hq => exact YlA)) | refine Vr ?_ | refine Vt ?_ | refine Vf ?_ | refine Vm ?_ | refine Ve ?_ | refine Vo ?_ | refine Vz ?_ | refine Vn ?_)
  refine ret1 (by first | exact .inl rfl | exact .inr rfl) rfl rfl ?_
  exact Gives_mk (fun w' h => ⟨b1, rfl, (new_trie k_b1 n_b1.ge).ext h⟩) n_b1.ext
theorem ptrV_none : ptrV none = .pointer none := rfl
theorem ptrV_some (b : Nat) : ptrV (some b) = .pointer (some ⟨b, 0, none⟩) := rfl
/-- The entry of a valid prefix. -/
abbrev at_ (E : Nat → Nat → Option Int) (p : Pf) : Option Int := E p.a p.n.toNat
theorem TrieM.at_none {w : World} {base b0 : Nat} {N : Nat → Nat → Option Nat} {E : Nat → Nat → Option Int} {n : Int} (h : TrieM w base b0 N E n) {x k : Nat} (hn : N x k = none) : E x k = none := by
  cases he : E x k with
  | none => rfl
  | some v => exact absurd hn (h.ent _ _ _ he)
def getV (E : Nat → Nat → Option Int) (p : Pf) : Option Int := if p.valid then at_ E p else none
end Go.Proofs.Ytkdjbddjblahkaa

/-
  Layer 6 (trie): the walk of Put.
  Conditions: addresses are below 2^32.
-/
namespace Go.Proofs.Ytkdjbddjblahkaa
open Go.RowKit

def setE (E : Nat → Nat → Option Int) (p : Pf) (v : Int) : Nat → Nat → Option Int := fun x k => if x = p.a ∧ k = p.n.toNat then some v else E x k
section
variable {w w1 : World} {base b0 : Nat} {N : Nat → Nat → Option Nat} {E : Nat → Nat → Option Int} {n : Int}
theorem kid_add_same (N : Nat → Nat → Option Nat) {x k bit b' : Nat} (hk : k < 32) : kid (addN N (kidA x k bit) (k + 1) b') x k bit = some b' := by
  rw [kid, if_pos hk, addN, if_pos ⟨rfl, rfl⟩]
theorem kid_add_other (N : Nat → Nat → Option Nat) {x k bit bit' b' : Nat} (hk : k < 32) (hx : top x k = x) (hb : bit < 2) (hb' : bit' < 2) (hne : bit' ≠ bit) : kid (addN N (kidA x k bit) (k + 1) b') x k bit' = kid N x k bit' := by
  rw [kid, if_pos hk, kid, if_pos hk, addN, if_neg]
  rintro ⟨e, _⟩
  exact hne (kid_inj hk hx hx hb' hb e).2
theorem foot_add {N : Nat → Nat → Option Nat} {x k b' c : Nat} (h : Foot (addN N x k b') c) : Foot N c ∨ c = b' := by
  obtain ⟨y, j, h⟩ := h
  unfold addN at h
  split at h
  · cases h; exact .inr rfl
  · exact .inl ⟨y, j, h⟩
end
/-- What Put leaves. -/
def PutR (base b0 : Nat) (N : Nat → Nat → Option Nat) (E : Nat → Nat → Option Int) (n : Int) (p : Pf) (v : Int) (w : World) (r : Value) (w' : World) : Prop :=
  r = .tuple #[.bool (at_ E p).isNone, .int .i64 0] ∧ ∃ N', TrieM w' base b0 N' (setE E p v) (if (at_ E p).isNone then n + 1 else n) ∧ ∀ c, Foot N' c → Foot N c ∨ w.heap.size ≤ c
theorem put_bad (b0 : Nat) (p : Pf) (v : Int) (w : World) (ha : p.a < 4294967296) (hv : p.valid = false) :
    Calls Try.prog 45 #[.pointer (some ⟨b0, 0, none⟩), p.val, .int .i64 v] w (Ret (.tuple #[.bool false, .int .i64 1]) w) := by
  refine V_enter (vs := [_, _, _]) Try.func45 rfl Try.ntmps45 (Nat.le_of_ble_eq_true rfl) ?_
  repeat (first | refine Vx ?_ | (apply Ops_q; (case hon => exact Va); (case hd => rfl); (case hq => exact YlA)) | refine Vr ?_ | refine Vt ?_ | refine Vf ?_ | refine Vm ?_ | refine Ve ?_ | refine Vo ?_ | refine Vz ?_ | refine Vn ?_)
  (refine Ops_box (by exact Va) rfl rfl rfl ?_; intro w1 b1 n_b1; have k_b1 := n_b1.blk)
  repeat (first | refine Vx ?_ | (apply Ops_q; (case hon => exact Va); (case hd => rfl); (case hq => exact YlA)) | refine Vr ?_ | refine Vt ?_ | refine Vf ?_ | refine Vm ?_ | refine Ve ?_ | refine Vo ?_ | refine Vz ?_ | refine Vn ?_)
  (apply Ops_q; (case hon => (exact Va)); (case hd => rfl); (case hq => exact Yl_call rfl (fun w_ e_ => valid_v p w_ ha)))
  rw [hv]
  repeat (first | refine Vx ?_ | (apply Ops_q; (case hon => exact Va); (case hd => rfl); (case hq => exact YlA)) | refine Vr ?_ | refine Vt ?_ | refine Vf ?_ | refine Vm ?_ | refine Ve ?_ | refine Vo ?_ | refine Vz ?_ | refine Vn ?_)
  refine ret2 (by first | exact .inl rfl | exact .inr rfl) rfl rfl rfl ?_
  exact Ret_mk rfl n_b1.ext
set_option maxHeartbeats 1000000 in
theorem put_v {base b0 : Nat} {N : Nat → Nat → Option Nat} {E : Nat → Nat → Option Int} {n : Int} (p : Pf) (v : Int) (w : World) (h : TrieM w base b0 N E n) (ha : p.a < 4294967296) (hv : p.valid = true) (hbase : base ≤ w.heap.size) (hn0 : 0 ≤ n) (hn1 : n ≤ 4611686018427387904) :
    Calls Try.prog 45 #[.pointer (some ⟨b0, 0, none⟩), p.val, .int .i64 v] w (Does (Foot N) (PutR base b0 N E n p v w) w) := by
  obtain ⟨v1, v2, v3⟩ := Pf.valid_iff.1 hv
  obtain ⟨len, hlen⟩ : ∃ len : Nat, p.n = len := ⟨p.n.toNat, by omega⟩
  have hat : at_ E p = E p.a len := by rw [at_, hlen, Int.toNat_natCast]
  rw [hlen, Int.toNat_natCast] at v3
  have hl32 : len ≤ 32 := by omega
  refine V_enter (vs := [_, _, _]) Try.func45 rfl Try.ntmps45 (Nat.le_of_ble_eq_true rfl) ?_
  repeat (first | refine Vx ?_ | (apply Ops_q; (case hon => exact Va); (case hd => rfl); (case hq => exact YlA)) | refine Vr ?_ | refine Vt ?_ | refine Vf ?_ | refine Vm ?_ | refine Ve ?_ | refine Vo ?_ | refine Vz ?_ | refine Vn ?_)
  (refine Ops_box (by exact Va) rfl rfl rfl ?_; intro w1 b1 n_b1; have k_b1 := n_b1.blk)
  rw [hlen] at k_b1
  have hst : N (top p.a 0) 0 = some b0 := by rw [top_zero _ ha, h.root]
  have hf1 : ¬Foot N b1 := fun hf => by have := h.lt hf; have := n_b1.ge; omega
  replace h := h.ext n_b1.ext
  repeat (first | refine Vx ?_ | (apply Ops_q; (case hon => exact Va); (case hd => rfl); (case hq => exact YlA)) | refine Vr ?_ | refine Vt ?_ | refine Vf ?_ | refine Vm ?_ | refine Ve ?_ | refine Vo ?_ | refine Vz ?_ | refine Vn ?_)
  have hpv : (⟨p.a, (len : Int)⟩ : Pf).valid = true := by rw [← hlen]; exact hv
  (apply Ops_q; (case hon => (exact Va)); (case hd => rfl); (case hq => exact Yl_call rfl (fun w_ e_ => valid_v (⟨p.a, (len : Int)⟩ : Pf) w_ ha)))
  rw [hpv]
  repeat (first | refine Vx ?_ | (apply Ops_q; (case hon => exact Va); (case hd => rfl); (case hq => exact YlA)) | refine Vr ?_ | refine Vt ?_ | refine Vf ?_ | refine Vm ?_ | refine Ve ?_ | refine Vo ?_ | refine Vz ?_ | refine Vn ?_)
  refine V_loop (fun s : Nat × Nat × (Nat → Nat → Option Nat) => [(22, .int .i64 s.1), (8, .pointer (some ⟨s.2.1, 0, none⟩)), (21, .int .i64 len), (4, .pointer (some ⟨b1, 0, none⟩)), (0, .pointer (some ⟨b0, 0, none⟩)), (2, .int .i64 v)])
    (fun s w' => Mod (Foot N) w w' ∧ s.1 ≤ len ∧ TrieM w' base b0 s.2.2 E n ∧ Blk w' b1 28 [.int .u32 p.a, .int .i64 len] ∧ s.2.2 (top p.a s.1) s.1 = some s.2.1 ∧ (∀ c, Foot s.2.2 c → Foot N c ∨ w.heap.size ≤ c) ∧ ¬Foot s.2.2 b1) (fun s => len - s.1) (0, b0, N)
    (by repeat (first | exact trivial | refine ⟨rfl, ?_⟩)) ⟨.of_ext n_b1.ext, Nat.zero_le _, h, k_b1, hst, fun c hc => .inl hc, hf1⟩ ?_
  clear h hf1 hst k_b1
  rintro ⟨k, b, M⟩ w2 ⟨m2, hk, h, k_b1, hb, hf, hf1⟩
  dsimp only at hk h hb hf hf1 ⊢
  repeat (first | refine Vx ?_ | (apply Ops_q; (case hon => exact Va); (case hd => rfl); (case hq => exact YlA)) | refine Vr ?_ | refine Vt ?_ | refine Vf ?_ | refine Vm ?_ | refine Ve ?_ | refine Vo ?_ | refine Vz ?_ | refine Vn ?_)
  refine V_cond rfl (fun hg => ?_) (fun hg => ?_)
  · replace hg := of_decide_eq_true hg
    have hkl : k < len := by omega
    have hk32 : k < 32 := by omega
    have hkc := h.kid_cell hb (bit_lt p.a k)
    have hb2 := bit_lt p.a k
    have hcan := h.can _ _ _ hb
    have hkid := top_kid p.a hk32
    repeat (first | refine Vx ?_ | (apply Ops_q; (case hon => exact Va); (case hd => rfl); (case hq => exact YlA)) | refine Vr ?_ | refine Vt ?_ | refine Vf ?_ | refine Vm ?_ | refine Ve ?_ | refine Vo ?_ | refine Vz ?_ | refine Vn ?_)
    (apply Ops_q; (case hon => (exact Va)); (case hd => rfl); (case hq => exact Yl_call rfl (fun w_ e_ => bit_v p.a k w_ ha)))
    repeat (first | refine Vx ?_ | (apply Ops_q; (case hon => exact Va); (case hd => rfl); (case hq => exact YlA)) | refine Vr ?_ | refine Vt ?_ | refine Vf ?_ | refine Vm ?_ | refine Ve ?_ | refine Vo ?_ | refine Vz ?_ | refine Vn ?_)
    (apply Ops_q; (case hon => (exact Va)); (case hd => rfl); (case hq => exact Yl_indexA (j := (bitAt p.a k)) rfl rfl (by first | exact Nat.le_of_ble_eq_true rfl | omega)))
    repeat (first | refine Vx ?_ | (apply Ops_q; (case hon => exact Va); (case hd => rfl); (case hq => exact YlA)) | refine Vr ?_ | refine Vt ?_ | refine Vf ?_ | refine Vm ?_ | refine Ve ?_ | refine Vo ?_ | refine Vz ?_ | refine Vn ?_)
    refine V_meet1 (fun M : Nat → Nat → Option Nat => [(22, .int .i64 k), (8, .pointer (some ⟨b, 0, none⟩)), (10, .int .i64 (bitAt p.a k)), (21, .int .i64 len), (4, .pointer (some ⟨b1, 0, none⟩)), (0, .pointer (some ⟨b0, 0, none⟩)), (2, .int .i64 v)])
      (fun M w' => Mod (Foot N) w w' ∧ TrieM w' base b0 M E n ∧ Blk w' b1 28 [.int .u32 p.a, .int .i64 len] ∧ M (top p.a k) k = some b ∧ (∃ b', M (top p.a (k + 1)) (k + 1) = some b') ∧ (∀ c, Foot M c → Foot N c ∨ w.heap.size ≤ c) ∧ ¬Foot M b1) ?_ ?_
    · cases hkb : kid M (top p.a k) k (bitAt p.a k) with
      | some b' =>
        rw [ptrV_some]
        repeat (first | refine Vx ?_ | (apply Ops_q; (case hon => exact Va); (case hd => rfl); (case hq => exact YlA)) | refine Vr ?_ | refine Vt ?_ | refine Vf ?_ | refine Vm ?_ | refine Ve ?_ | refine Vo ?_ | refine Vz ?_ | refine Vn ?_)
        refine ⟨M, (by repeat (first | exact trivial | refine ⟨rfl, ?_⟩)), m2, h, k_b1, hb, ⟨b', ?_⟩, hf, hf1⟩
        rw [kid, if_pos hk32, ← hkid] at hkb; exact hkb
      | none =>
        rw [ptrV_none]
        have hnone : M (kidA (top p.a k) k (bitAt p.a k)) (k + 1) = none := by rw [kid, if_pos hk32] at hkb; exact hkb
        rw [hkid]
        generalize bitAt p.a k = bit at *
        generalize top p.a k = x at *
        repeat (first | refine Vx ?_ | (apply Ops_q; (case hon => exact Va); (case hd => rfl); (case hq => exact YlA)) | refine Vr ?_ | refine Vt ?_ | refine Vf ?_ | refine Vm ?_ | refine Ve ?_ | refine Vo ?_ | refine Vz ?_ | refine Vn ?_)
        (refine Ops_box (by exact Va) rfl rfl rfl ?_; intro w3 b3 n_b3; have k_b3 := n_b3.blk)
        have hB := h.node _ _ _ hb
        have hne : b ≠ b3 := fun e => by have := hB.lt; have := n_b3.ge; omega
        have hB3 : Blk w3 b (nodeT k) (ptrV (kid M x k 0) :: ptrV (kid M x k 1) :: .bool (E x k).isSome :: .int .i64 ((E x k).getD 0) :: nodeL k n) := hB.ext n_b3.ext
        have g3 : w.heap.size ≤ b3 := Nat.le_trans m2.size n_b3.ge
        have hbS : Foot N b ∨ w.heap.size ≤ b := hf b ⟨_, _, hb⟩
        have hne1 : b1 ≠ b := fun e => hf1 (by rw [e]; exact ⟨_, _, hb⟩)
        have hfin : ∀ w4, Upd w3 w4 b (nodeT k) (nodeC (addN M (kidA x k bit) (k + 1) b3) E x k (nodeL k n)) → ∃ M', Mod (Foot N) w w4 ∧ TrieM w4 base b0 M' E n ∧ Blk w4 b1 28 [.int .u32 p.a, .int .i64 len] ∧ M' x k = some b ∧ (∃ b', M' (kidA x k bit) (k + 1) = some b') ∧ (∀ c, Foot M' c → Foot N c ∨ w.heap.size ≤ c) ∧ ¬Foot M' b1 := fun w4 u => by
          refine ⟨addN M (kidA x k bit) (k + 1) b3, (m2.ext n_b3.ext).upd u hbS, ?_, ?_, ?_, ⟨b3, ?_⟩, fun c hc => ?_, fun hc => ?_⟩
          · refine h.addNode hb hk32 hb2 hnone n_b3.ge (Nat.le_trans hbase g3) (fun c hc hcb => by rw [u.other c hcb, n_b3.ext.block c hc]) (u.keep k_b3 (Ne.symm hne)) u.blk
          · exact u.keep (k_b1.ext n_b3.ext) hne1
          · rw [addN, if_neg (fun e => by omega)]; exact hb
          · rw [addN, if_pos ⟨rfl, rfl⟩]
          · rcases foot_add hc with hc | rfl
            · exact hf c hc
            · exact .inr g3
          · rcases foot_add hc with hc | e
            · exact hf1 hc
            · have := k_b1.lt; have := n_b3.ge; omega
        repeat (first | refine Vx ?_ | (apply Ops_q; (case hon => exact Va); (case hd => rfl); (case hq => exact YlA)) | refine Vr ?_ | refine Vt ?_ | refine Vf ?_ | refine Vm ?_ | refine Ve ?_ | refine Vo ?_ | refine Vz ?_ | refine Vn ?_)
        rcases (by omega : bit = 0 ∨ bit = 1) with rfl | rfl
        · (apply Ops_q; (case hon => (exact Va)); (case hd => rfl); (case hq => exact Yl_indexA (j := 0) rfl rfl (by first | exact Nat.le_of_ble_eq_true rfl | omega)))
          (refine Ops_store (by exact Va) rfl rfl hB3 (by rfl) ?_; intro w4 u_w4)
          have e1 : nodeC (addN M (kidA x k 0) (k + 1) b3) E x k (nodeL k n) = .pointer (some ⟨b3, 0, none⟩) :: ptrV (kid M x k 1) :: .bool (E x k).isSome :: .int .i64 ((E x k).getD 0) :: nodeL k n := by
            rw [nodeC, kid_add_same M hk32, kid_add_other M hk32 hcan.2.1 hb2 (by omega) (by omega)]; rfl
          rw [← e1] at u_w4
          obtain ⟨M', h1⟩ := hfin w4 u_w4
          repeat (first | refine Vx ?_ | (apply Ops_q; (case hon => exact Va); (case hd => rfl); (case hq => exact YlA)) | refine Vr ?_ | refine Vt ?_ | refine Vf ?_ | refine Vm ?_ | refine Ve ?_ | refine Vo ?_ | refine Vz ?_ | refine Vn ?_)
          exact ⟨M', (by repeat (first | exact trivial | refine ⟨rfl, ?_⟩)), h1⟩
        · (apply Ops_q; (case hon => (exact Va)); (case hd => rfl); (case hq => exact Yl_indexA (j := 1) rfl rfl (by first | exact Nat.le_of_ble_eq_true rfl | omega)))
          (refine Ops_store (by exact Va) rfl rfl hB3 (by rfl) ?_; intro w4 u_w4)
          have e1 : nodeC (addN M (kidA x k 1) (k + 1) b3) E x k (nodeL k n) = ptrV (kid M x k 0) :: .pointer (some ⟨b3, 0, none⟩) :: .bool (E x k).isSome :: .int .i64 ((E x k).getD 0) :: nodeL k n := by
            rw [nodeC, kid_add_same M hk32, kid_add_other M hk32 hcan.2.1 hb2 (by omega) (by omega)]; rfl
          rw [← e1] at u_w4
          obtain ⟨M', h1⟩ := hfin w4 u_w4
          repeat (first | refine Vx ?_ | (apply Ops_q; (case hon => exact Va); (case hd => rfl); (case hq => exact YlA)) | refine Vr ?_ | refine Vt ?_ | refine Vf ?_ | refine Vm ?_ | refine Ve ?_ | refine Vo ?_ | refine Vz ?_ | refine Vn ?_)
          exact ⟨M', (by repeat (first | exact trivial | refine ⟨rfl, ?_⟩)), h1⟩
    · clear hkc h hb hf hf1 m2 k_b1
      rintro M w3 ⟨m3, h, k_b1, hb, ⟨b', hb'⟩, hf, hf1⟩
      have hkc := h.kid_cell hb (bit_lt p.a k)
      rw [h.kid_eq p.a hk32, hb', ptrV_some] at hkc
      repeat (first | refine Vx ?_ | (apply Ops_q; (case hon => exact Va); (case hd => rfl); (case hq => exact YlA)) | refine Vr ?_ | refine Vt ?_ | refine Vf ?_ | refine Vm ?_ | refine Ve ?_ | refine Vo ?_ | refine Vz ?_ | refine Vn ?_)
      (apply Ops_q; (case hon => (exact Va)); (case hd => rfl); (case hq => exact Yl_indexA (j := (bitAt p.a k)) rfl rfl (by first | exact Nat.le_of_ble_eq_true rfl | omega)))
      repeat (first | refine Vx ?_ | (apply Ops_q; (case hon => exact Va); (case hd => rfl); (case hq => exact YlA)) | refine Vr ?_ | refine Vt ?_ | refine Vf ?_ | refine Vm ?_ | refine Ve ?_ | refine Vo ?_ | refine Vz ?_ | refine Vn ?_)
      exact ⟨(k + 1, b', M), (by repeat (first | exact trivial | refine ⟨rfl, ?_⟩)), ⟨m3, hkl, h, k_b1, hb', hf, hf1⟩, by simp only; omega⟩
  replace hg := of_decide_eq_false hg
  obtain rfl : k = len := by omega
  rw [v3] at hb
  have h1 := h.has_cell hb
  have hB : Blk w2 b (nodeT k) (ptrV (kid M p.a k 0) :: ptrV (kid M p.a k 1) :: .bool (E p.a k).isSome :: .int .i64 ((E p.a k).getD 0) :: nodeL k n) := h.node _ _ _ hb
  have hbS : Foot N b ∨ w.heap.size ≤ b := hf b ⟨_, _, hb⟩
  repeat (first | refine Vx ?_ | (apply Ops_q; (case hon => exact Va); (case hd => rfl); (case hq => exact YlA)) | refine Vr ?_ | refine Vt ?_ | refine Vf ?_ | refine Vm ?_ | refine Ve ?_ | refine Vo ?_ | refine Vz ?_ | refine Vn ?_)
  (refine Ops_store (by exact Va) rfl rfl hB (by rfl) ?_; intro w3 u_w3)
  repeat (first | refine Vx ?_ | (apply Ops_q; (case hon => exact Va); (case hd => rfl); (case hq => exact YlA)) | refine Vr ?_ | refine Vt ?_ | refine Vf ?_ | refine Vm ?_ | refine Ve ?_ | refine Vo ?_ | refine Vz ?_ | refine Vn ?_)
  have hB3 := u_w3.blk
  (refine Ops_store (by exact Va) rfl rfl hB3 (by rfl) ?_; intro w4 u_w4)
  have m4 := (m2.upd u_w3 hbS).upd u_w4 hbS
  have hsE : setE E p v p.a k = some v := by rw [setE, hlen, Int.toNat_natCast, if_pos ⟨rfl, rfl⟩]
  have h4 : TrieM w4 base b0 M (setE E p v) n := h.setE hb (fun c hc => by rw [u_w4.other c hc, u_w3.other c hc]) (by unfold nodeC; rw [hsE]; exact u_w4.blk) (fun x' k' hne => by
    rw [setE, if_neg]
    rw [hlen, Int.toNat_natCast]; exact hne)
  repeat (first | refine Vx ?_ | (apply Ops_q; (case hon => exact Va); (case hd => rfl); (case hq => exact YlA)) | refine Vr ?_ | refine Vt ?_ | refine Vf ?_ | refine Vm ?_ | refine Ve ?_ | refine Vo ?_ | refine Vz ?_ | refine Vn ?_)
  refine V_cond rfl (fun h5 => ?_) (fun h5 => ?_)
  · have h6 : (at_ E p).isNone = true := by rw [hat]; simpa using h5
    have hR := h4.n_cell
    have hB0 : Blk w4 b0 99 (ptrV (kid M 0 0 0) :: ptrV (kid M 0 0 1) :: .bool (setE E p v 0 0).isSome :: .int .i64 ((setE E p v 0 0).getD 0) :: [.int .i64 n]) := h4.node _ _ _ h4.root
    repeat (first | refine Vx ?_ | (apply Ops_q; (case hon => exact Va); (case hd => rfl); (case hq => exact YlA)) | refine Vr ?_ | refine Vt ?_ | refine Vf ?_ | refine Vm ?_ | refine Ve ?_ | refine Vo ?_ | refine Vz ?_ | refine Vn ?_)
    (refine Ops_store (by exact Va) rfl rfl hB0 (by rfl) ?_; intro w5 u_w5)
    have h7 := h4.setN u_w5.other u_w5.blk
    have m5 := m4.upd u_w5 (hf b0 ⟨_, _, h4.root⟩)
    repeat (first | refine Vx ?_ | (apply Ops_q; (case hon => exact Va); (case hd => rfl); (case hq => exact YlA)) | refine Vr ?_ | refine Vt ?_ | refine Vf ?_ | refine Vm ?_ | refine Ve ?_ | refine Vo ?_ | refine Vz ?_ | refine Vn ?_)
    refine ret2 (by first | exact .inl rfl | exact .inr rfl) rfl rfl rfl ?_
    refine Does_mk (fun w' he => ⟨by rw [hat]; cases hE : E p.a k <;> rw [hE] at h5 <;> simp at h5 ⊢, M, ?_, hf⟩) m5
    rw [h6]; exact h7.ext he
  · have h6 : (at_ E p).isNone = false := by rw [hat]; simpa using h5
    repeat (first | refine Vx ?_ | (apply Ops_q; (case hon => exact Va); (case hd => rfl); (case hq => exact YlA)) | refine Vr ?_ | refine Vt ?_ | refine Vf ?_ | refine Vm ?_ | refine Ve ?_ | refine Vo ?_ | refine Vz ?_ | refine Vn ?_)
    refine ret2 (by first | exact .inl rfl | exact .inr rfl) rfl rfl rfl ?_
    refine Does_mk (fun w' he => ⟨by rw [hat]; cases hE : E p.a k <;> rw [hE] at h5 <;> simp at h5 ⊢, M, ?_, hf⟩) m4
    rw [h6]; exact h4.ext he
end Go.Proofs.Ytkdjbddjblahkaa

/-
  Regions that draw their order and hold one operation among the first that makes memory out of what the others give (the literal of a slice).
  No conditions beyond those that each rule states.
-/
namespace Go.Proofs.Ytkdjbddjblahkaa
open Go.RowKit

section
variable {P : Program} {md : Region.Mode} {ops : Array Oper}
/-- In every world that has grown from w0 the operation leaves a value of which R is known, and a world that has grown. -/
def Late (P : Program) (w0 : World) (R : Value → World → Prop) (o : Oper) (a : Act) : Prop :=
  ∀ w', Ext w0 w' → ∃ x w'', (execOp a.eval o).run P w' = .ok (.value x) w'' ∧ Ext w' w'' ∧ R x w''
def lateY (P : Program) (w0 : World) (R : Value → World → Prop) (d : Nat) (o : Oper) (a : Act) (v : Value) : Prop :=
  if o.dst = some d then v = undef ∧ Late P w0 R o a else yW P w0 o a v
theorem same_lateY (P : Program) (w0 : World) (R : Value → World → Prop) (d : Nat) : Same (lateY P w0 R d) := fun o a a' v he h => by
  unfold lateY at *
  split at h
  · rename_i hd
    rw [if_pos hd]
    refine ⟨h.1, fun w' hw' => ?_⟩
    rw [he]; exact h.2 w' hw'
  · rename_i hd
    rw [if_neg hd]
    exact same_yW P w0 o a a' v he h

theorem late_any {n s d : Nat} (early : Nat → Bool) {Q1 : Act → Prop} {Q : Exit → Act → World → Prop} {w0 : World} {R : Value → World → Prop} {pre : Array Oper} (hR : ∀ x w w', Ext w w' → R x w → R x w') (hn : n ≤ ops.size) (hP : ∀ i o, i < n → ops[i]? = some o → pre[i]? = some o)
    (hA : ∀ i, n ≤ i → i < ops.size → ∀ j, j < n → early j = true ∨ reach ops md 9 i j = true)
    (hE : ∀ i o, ops[i]? = some o → i < n → ∀ e ∈ o.after, e.on < i)
    (hG : ∀ i o, ops[i]? = some o → i < n → ∀ g, o.guard = some g → g.1 < n ∧ ∀ o', ops[g.1]? = some o' → o'.dst ≠ some d)
    (hsel : ∀ (j : Nat) (o : Oper) cs b, ops[j]? = some o → j < n → o.op ≠ .select cs b)
    (hD : ∀ i o, ops[i]? = some o → i < n → d ∉ o.looksAt ops)
    (hg0 : ∀ i o, ops[i]? = some o → i < n → o.dst = some d → o.guard = none)
    (hin : ∃ i o, i < n ∧ ops[i]? = some o ∧ o.dst = some d)
    (last : ∀ a' a w, Ext w0 w → Q1 a' → But [d] a' a → (∃ x, a.tmps[d]? = some x ∧ R x w) → wpAny P md ops Q s (upto ops.size n) a w) :
    ∀ (f : Nat) (L L' : Array Bool) (a' a : Act) (w : World), Ext w0 w → L'.size = n → L.size = ops.size → (∀ j, j < n → L[j]? = L'[j]?) → (∀ j, n ≤ j → j < ops.size → L[j]? = some false) → cnt n L' = f →
      (∀ j, j < n → early j = true → L[j]? = some true) → Closed ops md L → But [d] a' a → d < a.tmps.size → ((∃ i o, L[i]? = some true ∧ i < n ∧ ops[i]? = some o ∧ o.dst = some d) → ∃ x, a.tmps[d]? = some x ∧ R x w) →
      anyY md pre (lateY P w0 R d) Q1 f L' a' → wpAny P md ops Q (f + s) L a w := by
  intro f
  induction f with
  | zero =>
    intro L L' a' a w hC hs' hs h1 h2 hc hea hcl hbut hDs hm h
    have hlist : ∀ j, j < n → L[j]? = some true := fun j hj => by
      rw [h1 j hj]
      have := List.countP_eq_zero.1 hc j (List.mem_range.2 hj)
      have hlt : j < L'.size := by omega
      simp [hlt] at this
      simp [hlt, this]
    have hL : L = upto ops.size n := by
      refine Array.ext_getElem? fun j => ?_
      rcases Nat.lt_or_ge j ops.size with hj | hj
      · rw [upto_get _ _ _ hj]
        rcases Nat.lt_or_ge j n with hjn | hjn
        · rw [hlist j hjn]; simp [hjn]
        · rw [h2 j hjn hj]; simp; omega
      · rw [Array.getElem?_eq_none (by omega), Array.getElem?_eq_none (by rw [upto_size]; omega)]
    rw [Nat.zero_add]
    obtain ⟨i, o, hi, ho, hd⟩ := hin
    have hm' := hm ⟨i, o, hlist i hi, hi, ho, hd⟩
    rw [hL]
    exact last a' a w hC h.2 hbut hm'
  | succ f ih =>
    intro L L' a' a w hC hs' hs h1 h2 hc hea hcl hbut hDs hm h
    rw [Nat.succ_add]
    have un : ∃ j, j < n ∧ L'[j]? = some false ∧ ∀ k, k < j → L'[k]? = some true := by
      have hpos : 0 < cnt n L' := by omega
      obtain ⟨j, hj, hjf⟩ := List.countP_pos_iff.1 hpos
      have hjn := List.mem_range.1 hj
      have hjl : j < L'.size := by omega
      have hjf' : L'[j]? = some false := by simp [hjl] at hjf ⊢; exact hjf
      clear hj hjf hjl
      induction j using Nat.strongRecOn with
      | ind j ihj =>
        by_cases hall : ∀ k, k < j → L'[k]? = some true
        · exact ⟨j, hjn, hjf', hall⟩
        · obtain ⟨k, hk⟩ := Classical.not_forall.1 hall
          obtain ⟨hkj, hk⟩ := Classical.not_imp.1 hk
          have hkl : k < L'.size := by omega
          refine ihj k hkj (by omega) ?_
          rw [Array.getElem?_eq_getElem hkl] at hk ⊢
          cases hb : L'[k] with
          | true => rw [hb] at hk; exact absurd rfl hk
          | false => rfl
    obtain ⟨j0, hj0, hjf, hbelow⟩ := un
    have on_lt : ∀ {i : Nat} {o : Oper} {e : Edge}, ops[i]? = some o → i < n → e ∈ o.after → L.getD e.on false = L'.getD e.on false := fun ho hi he => by
      have h4 := hE _ _ ho hi _ he
      rename_i i0 o0 e0
      have h3 := h1 e0.on (by omega)
      rw [Array.getD_eq_getD_getElem?, Array.getD_eq_getD_getElem?, h3]
    have lt_n : ∀ i, i ∈ Region.ready md ops L → i < n := fun i hi => by
      obtain ⟨_, o, ho, hall⟩ := mem_ready.1 hi
      rcases Nat.lt_or_ge i n with h3 | h3
      · exact h3
      · have hlt : i < ops.size := by
          rcases Nat.lt_or_ge i ops.size with h' | h'
          · exact h'
          · rw [Array.getElem?_eq_none h'] at ho; cases ho
        rcases hA i h3 hlt j0 hj0 with h4 | h4
        · have := hea j0 hj0 h4
          rw [h1 j0 hj0, hjf] at this; cases this
        · have := reach_listed hcl 9 i j0 (fun o' ho' => by obtain rfl := Option.some.inj (ho.symm.trans ho'); exact hall) h4
          rw [getD_of ((h1 j0 hj0).trans hjf)] at this
          cases this
    refine ⟨fun hr => ?_, fun i hi => ?_⟩
    · exfalso
      have hmem : j0 ∈ Region.ready md ops L := by
        have hlt : j0 < ops.size := by omega
        refine mem_ready.2 ⟨getD_of ((h1 j0 hj0).trans hjf) _, ops[j0], Array.getElem?_eq_getElem hlt, fun e he _ => ?_⟩
        have hlt' := hE j0 _ (Array.getElem?_eq_getElem hlt) hj0 e he
        exact getD_of ((h1 _ (by omega)).trans (hbelow _ hlt')) _
      rw [hr] at hmem; cases hmem
    · have hin' := lt_n i hi
      have hcl' := hcl.set hi
      obtain ⟨hun, o, ho, hall⟩ := mem_ready.1 hi
      have hpo : pre[i]? = some o := hP i o hin' ho
      have hun' : L'.getD i true = false := by
        have := h1 i hin'
        simp only [Array.getD_eq_getD_getElem?, ← this] at hun ⊢; exact hun
      have hi' : i ∈ Region.ready md pre L' := mem_ready.2 ⟨hun', o, hpo, fun e he hb => by rw [← on_lt ho hin' he]; exact hall e he hb⟩
      have hq := (stepY_iff hpo).1 (h.2 i hi')
      obtain ⟨v, hv, hK⟩ := hq
      have hset : ∀ j, j < n → (L.setIfInBounds i true)[j]? = (L'.setIfInBounds i true)[j]? := fun j hj => by
        by_cases e : i = j
        · subst e
          have hl1 : i < L.size := by omega
          have hl2 : i < L'.size := by omega
          simp [hl1, hl2]
        · rw [Array.getElem?_setIfInBounds_ne e, Array.getElem?_setIfInBounds_ne e]; exact h1 j hj
      have hset2 : ∀ j, n ≤ j → j < ops.size → (L.setIfInBounds i true)[j]? = some false := fun j hj hjs => by
        rw [Array.getElem?_setIfInBounds_ne (by omega)]; exact h2 j hj hjs
      have hea' : ∀ j, j < n → early j = true → (L.setIfInBounds i true)[j]? = some true := fun j hj he => by
        by_cases e : i = j
        · subst e
          have hl1 : i < L.size := by omega
          simp [hl1]
        · rw [Array.getElem?_setIfInBounds_ne e]; exact hea j hj he
      have hc' : cnt n (L'.setIfInBounds i true) = f := by have := cnt_set n L' i hin' hun'; omega
      have old : ∀ k, (L.setIfInBounds i true)[k]? = some true → k ≠ i → L[k]? = some true := fun k hk hki => by
        rwa [Array.getElem?_setIfInBounds_ne (Ne.symm hki)] at hk
      have hex : execOp a.eval o = execOp a'.eval o := hbut.exec o (fun cs b => hsel i o cs b ho hin') (fun x hx => by rw [List.mem_singleton.1 hx]; exact hD i o ho hin')
      unfold wpOp
      simp only [ho]
      by_cases hdo : o.dst = some d
      · have hgn := hg0 i o ho hin' hdo
        have hwt : ∀ y, Region.wanted o y = true := fun y => by unfold Region.wanted; rw [hgn]
        rw [if_pos (hwt _)]
        rcases hv with ⟨_, hy⟩ | ⟨hwn, _⟩
        · unfold lateY at hy
          rw [if_pos hdo] at hy
          obtain ⟨rfl, hl⟩ := hy
          obtain ⟨x, w'', hrun, hext, hRx⟩ := hl w hC
          rw [← hex] at hrun
          refine .inl ?_
          unfold Oper.wp
          rw [hrun]
          show wpAny P md ops Q (f + s) (L.setIfInBounds i true) (a.put o.dst x) w''
          rw [hdo] at hK ⊢
          have hb2 : But [d] (a'.put (some d) undef) (a.put (some d) x) := by
            refine ⟨hbut.defers, by simp [Act.put, hbut.size], fun k hk => ?_⟩
            have hne : d ≠ k := fun e => hk (by rw [e]; exact List.mem_singleton.2 rfl)
            simp only [Act.put]
            rw [Array.getElem?_setIfInBounds_ne hne, Array.getElem?_setIfInBounds_ne hne]
            exact hbut.slot k hk
          exact ih _ _ _ _ w'' (hC.trans hext) (by simpa using hs') (by simpa using hs) hset hset2 hc' hea' hcl' hb2 (by simp [Act.put, hDs]) (fun _ => ⟨x, by simp [Act.put, hDs], hRx⟩) hK
        · rw [hwt] at hwn; cases hwn
      · have hw : Region.wanted o (yielded pre a'.tmps) = Region.wanted o (yielded ops a.tmps) := by
          unfold Region.wanted
          cases hg : o.guard with
          | none => rfl
          | some gd =>
            obtain ⟨hg1, hg2⟩ := hG i o ho hin' gd hg
            have hlt : gd.1 < ops.size := by omega
            have hog := Array.getElem?_eq_getElem hlt
            have hpg := hP _ _ hg1 hog
            have hy : yielded pre a'.tmps gd.1 = yielded ops a.tmps gd.1 := by
              simp only [yielded, hpg, hog, Option.bind_some]
              cases hd : (ops[gd.1]'hlt).dst with
              | none => rfl
              | some d' =>
                have hdD : d' ∉ [d] := fun hdD => hg2 _ hog (by rw [hd, List.mem_singleton.1 hdD])
                simp only [Option.bind_some, hbut.slot d' hdD]
            simp only [hy]
        have made : ∀ u w'', Ext w w'' → (∃ k o, (L.setIfInBounds i true)[k]? = some true ∧ k < n ∧ ops[k]? = some o ∧ o.dst = some d) → ∃ x, (a.put o.dst u).tmps[d]? = some x ∧ R x w'' := fun u w'' hw'' ⟨k, ok, hk, hkn, hok, hkd⟩ => by
          have hki : k ≠ i := fun e => by subst e; obtain rfl := Option.some.inj (ho.symm.trans hok); exact hdo hkd
          obtain ⟨x, m1, m2⟩ := hm ⟨k, ok, old k hk hki, hkn, hok, hkd⟩
          refine ⟨x, ?_, hR x _ _ hw'' m2⟩
          cases hdst : o.dst with
          | none => exact m1
          | some y =>
            have : y ≠ d := fun e => hdo (by rw [hdst, e])
            simp only [Act.put]
            rw [Array.getElem?_setIfInBounds_ne this]; exact m1
        have szP : ∀ u, d < (a.put o.dst u).tmps.size := fun u => by cases o.dst <;> simp [Act.put, hDs]
        rcases hv with ⟨hwn, hy⟩ | ⟨hwn, hvu⟩
        · unfold lateY at hy
          rw [if_neg hdo] at hy
          rw [hw] at hwn
          rw [if_pos hwn]
          refine .inl (Oper.wp_of_quiet (C := fun w'' => Ext w w'') (K := fun x => x = a.put o.dst v) (Ext.refl w) (fun a1 w1 hw1 e => ?_) ?_)
          · subst e
            exact ih _ _ (a'.put o.dst v) _ w1 (hC.trans hw1) (by simpa using hs') (by simpa using hs) hset hset2 hc' hea' hcl' (hbut.put _ _) (szP v) (made v w1 hw1) hK
          · refine ⟨v, fun w1 hw1 => ?_, rfl⟩
            have hq1 := hy w1 (hC.trans hw1)
            unfold Oper.quietAt at hq1 ⊢
            rw [← hex] at hq1
            generalize (execOp a.eval o).run P w1 = r at *
            cases r with
            | ok nx w2 =>
              cases nx <;> simp only [Oper.quietUpon] at hq1 ⊢ <;> first | exact hq1 | exact ⟨hq1.1, hq1.2.mono fun e w3 h3 => ⟨h3.1, hw1.trans h3.2⟩⟩
            | halt x w2 => simp only [Oper.quietUpon] at hq1
        · rw [hw] at hwn
          rw [if_neg (by rw [hwn]; exact Bool.false_ne_true)]
          subst hvu
          exact ih _ _ (a'.put o.dst undef) _ w hC (by simpa using hs') (by simpa using hs) hset hset2 hc' hea' hcl' (hbut.put _ _) (szP _) (made undef w (Ext.refl w)) hK

/-! ### The test -/
def lateB (ops : Array Oper) (n d : Nat) (m0 : Bool) : Bool :=
  Nat.ble n ops.size && Region.noSelect ops && Region.lexB .any (ops.toList.take n).toArray &&
  (List.range ops.size).all (fun i => match ops[i]? with
    | none => true
    | some o => if Nat.ble (i + 1) n then (o.after.all fun e => Nat.ble (e.on + 1) i) &&
        (match o.guard with
          | none => true
          | some g => Nat.ble (g.1 + 1) n && (match ops[g.1]? with
            | none => true
            | some o' => !(o'.dst == some d))) &&
        !(o.looksAt ops).contains d &&
        (if o.dst == some d then o.guard.isNone && (List.range n).all fun i' => Nat.beq i i' || (match ops[i']? with
            | some o' => !(o'.dst == some d)
            | none => true) else true)
      else (List.range n).all fun j => (m0 && Nat.beq j 0) || reach ops .any 9 i j) &&
  (List.range ops.size).all (fun k => Nat.ble (k + 1) n || (match Region.ready .any ops (upto ops.size k) with
    | [k'] => Nat.beq k' k
    | _ => false)) &&
  (Region.ready .any ops (upto ops.size ops.size)).isEmpty &&
  (List.range n).any (fun i => match ops[i]? with
    | some o => o.dst == some d
    | none => false)

theorem rep_getD {m j : Nat} (h : j < m) : (Array.replicate m false).getD j true = false := by
  simp only [Array.getD_eq_getD_getElem?, Array.getElem?_replicate]
  rw [if_pos h]; rfl
theorem rep_set {m : Nat} (h : 0 < m) : ((Array.replicate m false).setIfInBounds 0 true)[0]? = some true := by
  rw [Array.getElem?_setIfInBounds]
  simp [h]
theorem wp_late {ro : Option Nat} {l : List Oper} {n d id : Nat} {Q1 : Act → Prop} {Q : Exit → Act → World → Prop} {w0 w : World} {a : Act} {R : Value → World → Prop} (m0 : Bool) (hR : ∀ x w w', Ext w w' → R x w → R x w') (hnd : NoDef ro l) (hQ : ¬LetsOut Q) (hm : P.follows .mixedOrders = true) (hB : lateB l.toArray n d m0 = true)
    (h0 : m0 = true → (∃ d0 x ty pos after r, l = ⟨some d0, .move x, ty, pos, after, none⟩ :: r ∧ d0 ≠ d) ∧ 0 < n ∧ Region.free .any l.toArray (Array.replicate l.toArray.size false) 0 = true ∧ (Region.ready .any l.toArray (Array.replicate l.toArray.size false)).contains 0 = true ∧ ∀ c a w, ¬Q (.panic c) a w)
    (hd : d < a.tmps.size) (hw : Ext w0 w)
    (h : listY (l.take n).toArray (lateY P w0 R d) Q1 (l.take n) a)
    (last : ∀ a' a w, Ext w0 w → Q1 a' → But [d] a' a → (∃ x, a.tmps[d]? = some x ∧ R x w) → wpList P l.toArray Q (l.drop n) a w) :
    WpR ro P (.region id l.toArray true) Q a w := by
  simp only [lateB, Bool.and_eq_true] at hB
  obtain ⟨⟨⟨⟨⟨⟨b1, b0⟩, b2⟩, b3⟩, b4⟩, b5⟩, b6⟩ := hB
  have hn : n ≤ l.toArray.size := Nat.le_of_ble_eq_true b1
  have hnl : n ≤ l.length := by simpa using hn
  have at3 : ∀ i o, l.toArray[i]? = some o → _ := fun i o ho => by
    have hlt : i < l.toArray.size := by
      rcases Nat.lt_or_ge i l.toArray.size with h' | h'
      · exact h'
      · rw [Array.getElem?_eq_none h'] at ho; cases ho
    have := List.all_eq_true.1 b3 i (List.mem_range.2 hlt)
    simp only [ho] at this
    exact this
  have pre3 : ∀ i o, l.toArray[i]? = some o → i < n → _ := fun i o ho hi => by
    have := at3 i o ho
    rw [if_pos (Nat.ble_eq_true_of_le hi)] at this
    simp only [Bool.and_eq_true] at this
    exact this
  have hP : ∀ i o, i < n → l.toArray[i]? = some o → (l.take n).toArray[i]? = some o := fun i o hi ho => by
    have : l[i]? = some o := by simpa using ho
    simp [hi, this]
  have hE : ∀ i o, l.toArray[i]? = some o → i < n → ∀ e ∈ o.after, e.on < i := fun i o ho hi e he =>
    Nat.le_of_ble_eq_true (Array.all_eq_true_iff_forall_mem.1 (pre3 i o ho hi).1.1.1 e he)
  have hG : ∀ i o, l.toArray[i]? = some o → i < n → ∀ g, o.guard = some g → g.1 < n ∧ ∀ o', l.toArray[g.1]? = some o' → o'.dst ≠ some d := fun i o ho hi g hg => by
    have h2 := (pre3 i o ho hi).1.1.2
    rw [hg] at h2
    simp only [Bool.and_eq_true] at h2
    refine ⟨Nat.le_of_ble_eq_true h2.1, fun o' ho' => ?_⟩
    have h3 := h2.2
    rw [ho'] at h3
    simpa using h3
  have hD : ∀ i o, l.toArray[i]? = some o → i < n → d ∉ o.looksAt l.toArray := fun i o ho hi => by
    have h2 := (pre3 i o ho hi).1.2
    simpa using h2
  have hlate : ∀ i o, l.toArray[i]? = some o → i < n → o.dst = some d → o.guard = none ∧ ∀ i' o', l.toArray[i']? = some o' → i' < n → o'.dst = some d → i = i' := fun i o ho hi hdo => by
    have h2 := (pre3 i o ho hi).2
    rw [if_pos (by rw [hdo]; simp)] at h2
    simp only [Bool.and_eq_true] at h2
    refine ⟨by simpa using h2.1, fun i' o' ho' hi' hdo' => ?_⟩
    have h3 := List.all_eq_true.1 h2.2 i' (List.mem_range.2 hi')
    simp only [Bool.or_eq_true] at h3
    rcases h3 with h3 | h3
    · exact Nat.eq_of_beq_eq_true h3
    · rw [ho'] at h3
      simp [hdo'] at h3
  have hA : ∀ i, n ≤ i → i < l.toArray.size → ∀ j, j < n → (fun j => m0 && Nat.beq j 0) j = true ∨ reach l.toArray .any 9 i j = true := fun i hi his j hj => by
    have := at3 i _ (Array.getElem?_eq_getElem his)
    rw [if_neg (fun hb => by have := Nat.le_of_ble_eq_true hb; omega)] at this
    exact Bool.or_eq_true_iff.1 (List.all_eq_true.1 this j (List.mem_range.2 hj))
  have hr : ∀ k, n ≤ k → k < l.toArray.size → Region.ready .any l.toArray (upto l.toArray.size k) = [k] := fun k hk hks => by
    have := List.all_eq_true.1 b4 k (List.mem_range.2 hks)
    simp only [Bool.or_eq_true] at this
    rcases this with h' | h'
    · have := Nat.le_of_ble_eq_true h'; omega
    · split at h'
      · rename_i k' he
        rw [he, Nat.eq_of_beq_eq_true h']
      · cases h'
  have he : Region.ready .any l.toArray (upto l.toArray.size l.toArray.size) = [] := by simpa using b5
  have hex : ∃ i o, i < n ∧ l.toArray[i]? = some o ∧ o.dst = some d := by
    obtain ⟨i, hi, h2⟩ := List.any_eq_true.1 b6
    have hi' := List.mem_range.1 hi
    have hlt : i < l.toArray.size := by omega
    rw [Array.getElem?_eq_getElem hlt] at h2
    exact ⟨i, _, hi', Array.getElem?_eq_getElem hlt, by simpa using h2⟩
  simp only [Region.lexB, Bool.and_eq_true] at b2
  have hdl : (l.drop n).length = l.toArray.size - n := by simp
  have hlen : (l.take n).length = n := by simp; omega
  refine wpR_region_any (by simpa using hnd) hQ hm ?_
  have quiet := anyY_lex (md := .any) (same_lateY P w0 R d) b2.1 (l.take n) 0 (Array.replicate (l.take n).toArray.size false) a (by simp) (by simpa using b2.2) h
  have key := late_any (P := P) (md := .any) (ops := l.toArray) (pre := (l.take n).toArray) (n := n) (s := (l.drop n).length) (d := d) (fun j => m0 && Nat.beq j 0) (Q := Q) (Q1 := Q1) (w0 := w0) (R := R)
    hR hn hP hA hE hG (fun j o cs b ho _ => Region.noSelect_spec b0 j o cs b ho) hD (fun i o ho hi hdo => (hlate i o ho hi hdo).1) hex
    (fun a' a1 w1 hw1 q1 hb hmd => one_any hr he (l.drop n) n (Nat.le_refl _) (by rw [hdl]; omega) (fun j => by simp) a1 w1
      (last a' a1 w1 hw1 q1 hb hmd))
  have hall : ∀ k : Nat, (Array.replicate l.toArray.size false)[k]? ≠ some true := fun k hk => by
    simp only [Array.getElem?_replicate] at hk
    split at hk <;> simp at hk
  have hcnt : cnt n (Array.replicate (l.take n).toArray.size false) = (l.take n).length := by
    unfold cnt
    rw [List.countP_eq_length.2]
    · rw [hlen]; simp
    · intro j hj
      have := List.mem_range.1 hj
      have h2 : j < (l.take n).toArray.size := by simp; omega
      simp only [Array.getD_eq_getD_getElem?, Array.getElem?_replicate]
      rw [if_pos h2]; rfl
  have hsame : ∀ j, j < n → (Array.replicate l.toArray.size false)[j]? = (Array.replicate (l.take n).toArray.size false)[j]? := fun j hj => by
    have h1 : j < l.length := by omega
    have h2 : j < (l.take n).length := by omega
    simp only [Array.getElem?_replicate]
    rw [if_pos (by simpa using h1), if_pos (by simpa using h2)]
  have hclosed : Closed l.toArray .any (Array.replicate l.toArray.size false) := fun (k : Nat) o hk => by
    simp only [Array.getD_eq_getD_getElem?, Array.getElem?_replicate] at hk
    split at hk <;> simp at hk
  have e : (l.take n).length + (l.drop n).length = l.toArray.size := by rw [hlen, hdl]; omega
  cases hm0 : m0 with
  | false =>
    have := key (l.take n).length (Array.replicate l.toArray.size false) (Array.replicate (l.take n).toArray.size false) a a { w with drawn := w.drawn + 1 } hw.draw (by simp; omega) (by simp)
      hsame (fun j _ hj => by simp only [Array.getElem?_replicate]; rw [if_pos hj]) hcnt (fun j _ h => by rw [hm0] at h; cases h) hclosed ⟨rfl, rfl, fun _ _ => rfl⟩ hd (fun ⟨i, o, hi, _⟩ => absurd hi (hall i)) quiet
    rwa [e] at this
  | true =>
    obtain ⟨⟨d0, x, ty, pos, after, r, hl, hd0⟩, hn0, hf, hrd, hQ⟩ := h0 hm0
    have ho0 : l.toArray[0]? = some ⟨some d0, .move x, ty, pos, after, none⟩ := by rw [hl]; rfl
    have hp0 := hP 0 _ hn0 ho0
    have hl1 : (l.take n).length = (n - 1) + 1 := by omega
    have hrun : ∀ (a : Act) (w : World), (execOp a.eval ⟨some d0, .move x, ty, pos, after, none⟩).run P w = .ok (.value (a.eval x)) w := fun a w => by simp [execOp]
    have hsz1 : 0 < l.toArray.size := by omega
    have hsz2 : 0 < (l.take n).toArray.size := by simp; omega
    have hrd' : 0 ∈ Region.ready .any (l.take n).toArray (Array.replicate (l.take n).toArray.size false) := by
      obtain ⟨_, o, ho, hall⟩ := mem_ready.1 (by simpa using hrd : 0 ∈ Region.ready .any l.toArray (Array.replicate l.toArray.size false))
      obtain rfl := Option.some.inj (ho0.symm.trans ho)
      refine mem_ready.2 ⟨rep_getD hsz2, _, hp0, fun ed hed hb => ?_⟩
      have := hE 0 _ ho0 hn0 ed hed
      omega
    rw [hl1] at quiet
    obtain ⟨v, hv, hK⟩ := (stepY_iff hp0).1 (quiet.2 0 hrd')
    have hv' : v = a.eval x := by
      rcases hv with ⟨_, hy⟩ | ⟨hwn, _⟩
      · unfold lateY at hy
        rw [if_neg (fun e => hd0 (by cases e; rfl))] at hy
        have := hy w0 (Ext.refl w0)
        unfold Oper.quietAt at this
        rw [hrun] at this
        simp only [Oper.quietUpon] at this
        exact this.2.symm
      · unfold Region.wanted at hwn; simp at hwn
    subst hv'
    have e' : l.toArray.size = (n - 1 + (l.drop n).length) + 1 := by omega
    suffices h9 : ∀ z, z = (n - 1 + (l.drop n).length) + 1 → wpAny P .any l.toArray Q z (Array.replicate l.toArray.size false) a { w with drawn := w.drawn + 1 } from h9 _ e'
    intro z hz
    subst hz
    refine wpAny_take ho0 b0 hf hrd (fun c a w hq => absurd hq (hQ c _ w)) (.inl ⟨by unfold Region.wanted; rfl, fun w => hrun a w⟩) ?_
    refine key (n - 1) _ _ _ _ { w with drawn := w.drawn + 1 } hw.draw (by rw [Array.size_setIfInBounds, Array.size_replicate, List.size_toArray]; exact hlen) (by rw [Array.size_setIfInBounds, Array.size_replicate]) (fun j hj => ?_) (fun j hj hjs => ?_) ?_ (fun j hj hea => ?_) (fun k o hk ho ed hed hb => ?_) ⟨rfl, rfl, fun _ _ => rfl⟩ (by show d < (a.tmps.setIfInBounds d0 _).size; rw [Array.size_setIfInBounds]; exact hd) (fun ⟨i, o, hi, hin, ho, hdo⟩ => ?_) hK
    · by_cases ej : 0 = j
      · subst ej; rw [rep_set hsz1, rep_set hsz2]
      · rw [Array.getElem?_setIfInBounds_ne ej, Array.getElem?_setIfInBounds_ne ej]; exact hsame j hj
    · rw [Array.getElem?_setIfInBounds_ne (by omega)]
      simp only [Array.getElem?_replicate]; rw [if_pos hjs]
    · have := cnt_set n (Array.replicate (l.take n).toArray.size false) 0 hn0 (rep_getD hsz2)
      omega
    · rw [hm0, Bool.true_and] at hea
      obtain rfl := Nat.eq_of_beq_eq_true hea
      exact rep_set hsz1
    · by_cases ek : 0 = k
      · subst ek
        have := hE 0 _ ho hn0 ed hed
        omega
      · rw [getD_set_ne false ek] at hk
        exact absurd (hclosed k o hk ho ed hed hb) (by
          intro _
          simp only [Array.getD_eq_getD_getElem?, Array.getElem?_replicate] at hk
          split at hk <;> simp at hk)
    · by_cases ei : 0 = i
      · subst ei
        obtain rfl := Option.some.inj (ho0.symm.trans ho)
        exact absurd (by cases hdo; rfl) hd0
      · rw [Array.getElem?_setIfInBounds_ne ei] at hi
        exact absurd hi (hall i)
end

section
variable {P : Program} {N : Fr} {m : Env} {w : World}
theorem listY_append {ops : Array Oper} {Y : Oper → Act → Value → Prop} {Q : Act → Prop} : ∀ (l1 l2 : List Oper) (a : Act), listY ops Y (fun a => listY ops Y Q l2 a) l1 a → listY ops Y Q (l1 ++ l2) a
  | [], _, _, h => h
  | o :: r, l2, a, h => by
    rw [List.cons_append]
    unfold listY at h ⊢
    split
    · rename_i hw
      rw [if_pos hw] at h
      obtain ⟨v, h1, h2⟩ := h
      exact ⟨v, h1, listY_append r l2 _ h2⟩
    · rename_i hw
      rw [if_neg hw] at h
      exact listY_append r l2 _ h
theorem listY_late {ops : Array Oper} {Q : Act → Prop} {w0 : World} {R : Value → World → Prop} {d : Nat} : ∀ (l : List Oper) (a : Act), (∀ o ∈ l, o.dst ≠ some d) → listY ops (yW P w0) Q l a → listY ops (lateY P w0 R d) Q l a
  | [], _, _, h => h
  | o :: r, a, hd, h => by
    have hr := fun o' ho' => hd o' (List.mem_cons_of_mem _ ho')
    unfold listY at h ⊢
    split
    · rename_i hw
      rw [if_pos hw] at h
      obtain ⟨v, h1, h2⟩ := h
      refine ⟨v, ?_, listY_late r _ hr h2⟩
      unfold lateY
      rw [if_neg (hd o (List.mem_cons_self ..))]; exact h1
    · rename_i hw
      rw [if_neg hw] at h
      exact listY_late r _ hr h
theorem run_lit {dst : Option Tmp} {t e : TypeId} {k : Nat} {ps : Array (Nat × Operand)} {pvs : List (Nat × Value)} {out zs : List Value} {z : Value} {n0 b0 : Nat} {ty : TypeId} {pos : String} {after : Array Edge} {g : Option (Nat × Bool)} [ht : TSlice P t e] [hs : TSize P e n0 b0] [hz : TZero P e z zs]
    {a : Act} (ha : Agree N m a) (hx : evp m ps.toList = some pvs) (hp : TParts n0 0 pvs out) (hn : (Nat.ble 1 (k * n0) && Nat.ble (k * n0) 16777216 && Nat.beq pvs.length k) = true) (w' : World) :
    (execOp a.eval ⟨dst, .buildSlice t k ps, ty, pos, after, g⟩).run P w' = .ok (.value (.slice (some ⟨w'.heap.size, 0, none⟩) k k)) (w'.alloc (.cells out.toArray e)) := by
  simp only [Bool.and_eq_true] at hn
  have n1 := Nat.le_of_ble_eq_true hn.1.1
  have n2 := Nat.le_of_ble_eq_true hn.1.2
  have n3 := Nat.eq_of_beq_eq_true hn.2
  obtain ⟨inf, hi, hsz⟩ := Option.map_eq_some_iff.1 hs.h
  simp only [Prod.mk.injEq] at hsz
  obtain ⟨inf', hi', hz'⟩ := Option.bind_eq_some_iff.1 hz.h
  obtain rfl := Option.some.inj (hi.symm.trans hi')
  have hfill : Instr.fill (fun i => some (i * inf.size, inf.size)) ((Array.range (k * inf.size)).map (z.cells[· % z.cells.size]!)) pvs = some out.toArray := by
    rw [hsz.1]
    have := hp.fill [] ((Array.range (k * n0)).map (z.cells[· % z.cells.size]!)).toList (by simp) (by simp [n3])
    rw [List.nil_append, List.nil_append, Array.toArray_toList] at this
    exact this
  have e1 : ps.map (fun p => (p.1, a.eval p.2)) = pvs.toArray := by rw [← ha.evp hx, ← Array.toList_map]
  have := run_buildSlice (P := P) w' t e k pvs.toArray out.toArray inf z ht.h hi hz' (by rw [hsz.1]; omega) (by rw [hsz.1]; omega) hfill
  simp only [execOp, e1]
  simp [this]
/-- A region that draws its order, with the literal of a slice at place i0 among its first n operations. -/
theorem V_lit0 (m0 : Bool) (n i0 : Nat) (out : List Value) {Q : Exit → Env → World → Prop} {id : Nat} {l : List Oper} {d : Nat} {t e : TypeId} {k : Nat} {ps : Array (Nat × Operand)} {ty : TypeId} {pos : String} {after : Array Edge} {zs : List Value} {z : Value} {n0 b0 : Nat} [ht : TSlice P t e] [hs : TSize P e n0 b0] [hz : TZero P e z zs]
    (hm : P.follows .mixedOrders = true) (ho : l.take n = l.take i0 ++ ⟨some d, .buildSlice t k ps, ty, pos, after, none⟩ :: (l.take n).drop (i0 + 1)) (hB : lateB l.toArray n d m0 = true)
    (h0 : m0 = true → (∃ d0 x ty pos after r, l = ⟨some d0, .move x, ty, pos, after, none⟩ :: r ∧ d0 ≠ d) ∧ 0 < n ∧ Region.free .any l.toArray (Array.replicate l.toArray.size false) 0 = true ∧ (Region.ready .any l.toArray (Array.replicate l.toArray.size false)).contains 0 = true) (hd : Nat.ble (d + 1) N.n = true)
    (hne : ((l.take i0).all (fun o => !(o.dst == some d)) && ((l.take n).drop (i0 + 1)).all (fun o => !(o.dst == some d))) = true)
    (h : Ops P N (l.take n).toArray true (fun m1 _ => ∃ pvs, evp m1 ps.toList = some pvs ∧ TParts n0 0 pvs out ∧ (Nat.ble 1 (k * n0) && Nat.ble (k * n0) 16777216 && Nat.beq pvs.length k) = true ∧
      Ops P N (l.take n).toArray true (fun m2 _ => ∀ w2 b, New w w2 b e out → Ops P N l.toArray false (fun m w => Q .normal m w) (l.drop n) ((d, .slice (some ⟨b, 0, none⟩) k k) :: m2) w2) ((l.take n).drop (i0 + 1)) ((d, undef) :: m1) w) (l.take i0) m w)
    (hnd : NoDef N.ro l := by first | exact .inl rfl | exact .inr (by kernel_rfl)) :
    V P N (.region id l.toArray true) Q m w := by
  have hlt : d < N.n := Nat.le_of_ble_eq_true hd
  simp only [Bool.and_eq_true] at hne
  have hne1 : ∀ o ∈ l.take i0, o.dst ≠ some d := fun o ho e => by
    have := List.all_eq_true.1 hne.1 o ho
    rw [e] at this; simp at this
  have hne2 : ∀ o ∈ (l.take n).drop (i0 + 1), o.dst ≠ some d := fun o ho e => by
    have := List.all_eq_true.1 hne.2 o ho
    rw [e] at this; simp at this
  refine ⟨fun a w' ha hw => wpR_mono (Q := fun e a w => e = .normal ∧ lift N Q .normal a w) (fun e a w ⟨h1, h2⟩ => by rw [h1]; exact h2) ?_⟩
  refine wp_late m0 (w0 := w) (R := fun x w2 => ∃ b, x = .slice (some ⟨b, 0, none⟩) k k ∧ w.heap.size ≤ b ∧ Blk w2 b e out) (fun x w1 w2 he ⟨b, h1, h2, h3⟩ => ⟨b, h1, h2, h3.ext he⟩) hnd noLet hm hB (fun h => by
      obtain ⟨h1, h2, h3, h4⟩ := h0 h
      exact ⟨h1, h2, h3, h4, fun c a w hq => nomatch hq.1⟩) (by rw [ha.size]; exact hlt) hw
    (Q1 := fun a' => ∃ m2, (∀ w2 b, New w w2 b e out → Ops P N l.toArray false (fun m w => Q .normal m w) (l.drop n) ((d, .slice (some ⟨b, 0, none⟩) k k) :: m2) w2) ∧ Agree N m2 a') ?_ ?_
  · generalize hL : (l.take n).toArray = A at h ⊢
    rw [ho]
    refine listY_append _ _ _ (listY_mono (fun a1 ⟨m1, ⟨pvs, p1, p2, p3, h2⟩, ag1⟩ => ?_) _ _ (listY_late _ _ hne1 (h.out a ha)))
    unfold listY
    rw [if_pos (by unfold Region.wanted; rfl)]
    refine ⟨undef, ?_, ?_⟩
    · unfold lateY
      rw [if_pos rfl]
      refine ⟨rfl, fun w1 hw1 => ⟨_, _, run_lit ag1 p1 p2 p3 w1, (Ext.refl _).alloc _, w1.heap.size, rfl, hw1.size, alloc_heap _ _⟩⟩
    · exact listY_late _ _ hne2 (h2.out _ (ag1.put hlt undef))
  · rintro a' a1 w1 hw1 ⟨m2, h2, ag⟩ hb ⟨x, hx, b, rfl, hbl, hB1⟩
    have ag1 : Agree N ((d, .slice (some ⟨b, 0, none⟩) k k) :: m2) a1 := by
      refine ⟨by rw [hb.defers]; exact ag.defers, by rw [hb.size]; exact ag.size, fun i v hi => ?_⟩
      by_cases e : d = i
      · subst e
        rw [look_same] at hi; cases hi; exact hx
      · rw [look_other _ _ e] at hi
        rw [hb.slot i (fun h => e (List.mem_singleton.1 h).symm)]
        exact ag.slot i v hi
    have h5 := (h2 w1 b ⟨hw1, hbl, hB1⟩).out a1 w1 ag1 (Ext.refl _)
    have mono : ∀ (l' : List Oper) (a : Act) (w0 : World), wpList P l.toArray (fun e a' w'' => e = .normal ∧ ∃ m' w1, Q .normal m' w1 ∧ Agree N m' a' ∧ Ext w1 w'') l' a w0 → wpList P l.toArray (fun e a w => e = .normal ∧ lift N Q .normal a w) l' a w0 := by
      intro l'
      induction l' with
      | nil => exact fun a w0 ⟨_, m', w1, q, ag, ex⟩ => ⟨rfl, m', w1, q, ag, ex⟩
      | cons o r ih =>
        intro a w0 h6
        unfold wpList at h6 ⊢
        split
        · rename_i hwn
          rw [if_pos hwn] at h6
          rcases h6 with h6 | h6
          · exact .inl (wp_normal (fun a1 w1 hh => ih a1 w1 hh) h6)
          · obtain ⟨_, _, _, h7, _⟩ := h6; cases h7
        · rename_i hwn
          rw [if_neg hwn] at h6
          exact ih _ _ h6
    exact mono _ _ _ h5
theorem V_lit (n i0 : Nat) (out : List Value) {Q : Exit → Env → World → Prop} {id : Nat} {l : List Oper} {d : Nat} {t e : TypeId} {k : Nat} {ps : Array (Nat × Operand)} {ty : TypeId} {pos : String} {after : Array Edge} {zs : List Value} {z : Value} {n0 b0 : Nat} [ht : TSlice P t e] [hs : TSize P e n0 b0] [hz : TZero P e z zs]
    (hm : P.follows .mixedOrders = true) (ho : l.take n = l.take i0 ++ ⟨some d, .buildSlice t k ps, ty, pos, after, none⟩ :: (l.take n).drop (i0 + 1)) (hB : lateB l.toArray n d false = true) (hd : Nat.ble (d + 1) N.n = true)
    (hne : ((l.take i0).all (fun o => !(o.dst == some d)) && ((l.take n).drop (i0 + 1)).all (fun o => !(o.dst == some d))) = true)
    (h : Ops P N (l.take n).toArray true (fun m1 _ => ∃ pvs, evp m1 ps.toList = some pvs ∧ TParts n0 0 pvs out ∧ (Nat.ble 1 (k * n0) && Nat.ble (k * n0) 16777216 && Nat.beq pvs.length k) = true ∧
      Ops P N (l.take n).toArray true (fun m2 _ => ∀ w2 b, New w w2 b e out → Ops P N l.toArray false (fun m w => Q .normal m w) (l.drop n) ((d, .slice (some ⟨b, 0, none⟩) k k) :: m2) w2) ((l.take n).drop (i0 + 1)) ((d, undef) :: m1) w) (l.take i0) m w)
    (hnd : NoDef N.ro l := by first | exact .inl rfl | exact .inr (by kernel_rfl)) :
    V P N (.region id l.toArray true) Q m w :=
  V_lit0 false n i0 out hm ho hB (fun h => nomatch h) hd hne h hnd
/-- The same, where the first operation is a plain move that some of the last do not wait for. -/
theorem V_litM (n i0 : Nat) (out : List Value) {Q : Exit → Env → World → Prop} {id : Nat} {l : List Oper} {d d0 : Nat} {x : Operand} {r : List Oper} {ty0 : TypeId} {pos0 : String} {after0 : Array Edge} {t e : TypeId} {k : Nat} {ps : Array (Nat × Operand)} {ty : TypeId} {pos : String} {after : Array Edge} {zs : List Value} {z : Value} {n0 b0 : Nat} [ht : TSlice P t e] [hs : TSize P e n0 b0] [hz : TZero P e z zs]
    (hm : P.follows .mixedOrders = true) (ho : l.take n = l.take i0 ++ ⟨some d, .buildSlice t k ps, ty, pos, after, none⟩ :: (l.take n).drop (i0 + 1)) (hB : lateB l.toArray n d true = true)
    (hl : l = ⟨some d0, .move x, ty0, pos0, after0, none⟩ :: r) (hd0 : (!(Nat.beq d0 d) && Nat.ble 1 n) = true) (hf : (Region.free .any l.toArray (Array.replicate l.toArray.size false) 0 && (Region.ready .any l.toArray (Array.replicate l.toArray.size false)).contains 0) = true) (hd : Nat.ble (d + 1) N.n = true)
    (hne : ((l.take i0).all (fun o => !(o.dst == some d)) && ((l.take n).drop (i0 + 1)).all (fun o => !(o.dst == some d))) = true)
    (h : Ops P N (l.take n).toArray true (fun m1 _ => ∃ pvs, evp m1 ps.toList = some pvs ∧ TParts n0 0 pvs out ∧ (Nat.ble 1 (k * n0) && Nat.ble (k * n0) 16777216 && Nat.beq pvs.length k) = true ∧
      Ops P N (l.take n).toArray true (fun m2 _ => ∀ w2 b, New w w2 b e out → Ops P N l.toArray false (fun m w => Q .normal m w) (l.drop n) ((d, .slice (some ⟨b, 0, none⟩) k k) :: m2) w2) ((l.take n).drop (i0 + 1)) ((d, undef) :: m1) w) (l.take i0) m w)
    (hnd : NoDef N.ro l := by first | exact .inl rfl | exact .inr (by kernel_rfl)) :
    V P N (.region id l.toArray true) Q m w := by
  simp only [Bool.and_eq_true] at hd0 hf
  refine V_lit0 true n i0 out hm ho hB (fun _ => ⟨⟨d0, x, ty0, pos0, after0, r, hl, fun e => ?_⟩, Nat.le_of_ble_eq_true hd0.2, hf.1, hf.2⟩) hd hne h hnd
  subst e
  have := hd0.1
  rw [Nat.beq_refl] at this; cases this
end
end Go.Proofs.Ytkdjbddjblahkaa

/-
  Layer 6 (trie): the walks of add, down, Above, Lookup.
  Conditions: addresses are below 2^32.
-/
namespace Go.Proofs.Ytkdjbddjblahkaa
open Go.RowKit

instance : OneAll [] := ⟨rfl⟩
instance (k : IntKind) (n : Int) (l : List Value) [h : OneAll l] : OneAll (.int k n :: l) := ⟨by rw [List.all_cons, h.h]; rfl⟩
instance (b : Bool) (l : List Value) [h : OneAll l] : OneAll (.bool b :: l) := ⟨by rw [List.all_cons, h.h]; rfl⟩
instance (a : Option Addr) (l : List Value) [h : OneAll l] : OneAll (.pointer a :: l) := ⟨by rw [List.all_cons, h.h]; rfl⟩
instance (a : Option Addr) (n c : Nat) (l : List Value) [h : OneAll l] : OneAll (.slice a n c :: l) := ⟨by rw [List.all_cons, h.h]; rfl⟩
/-- An entry, as Go's struct has it. -/
structure En where
  p : Pf
  v : Int
deriving DecidableEq
def En.cells (e : En) : List Value := [.int .u32 e.p.a, .int .i64 e.p.n, .int .i64 e.v]
abbrev En.val (e : En) : Value := .agg #[.int .u32 e.p.a, .int .i64 e.p.n, .int .i64 e.v]
/-- What add appends. -/
def adds (p : Pf) (o : Option Int) : List En := match o with
  | some v => [⟨p, v⟩]
  | none => []
/-- The blocks of a list under construction. -/
def LFoot (bl : Nat) (v : Value) (c : Nat) : Prop := c = bl ∨ v.ownBlock = some c
/-- A list under construction. -/
structure Acc (w : World) (base bl : Nat) (v : Value) (M : List En) : Prop where
  blk : Blk w bl 120 [v]
  own : Own w base 76 3 v (M.map En.cells)
  ne : v.ownBlock ≠ some bl
def AccR (base bl : Nat) (v : Value) (M : List En) (w : World) (r : Value) (w' : World) : Prop := r = .tuple #[] ∧ ∃ v', Acc w' base bl v' M ∧ ∀ c, v'.ownBlock = some c → v.ownBlock = some c ∨ w.heap.size ≤ c
theorem add_v {base bl nb : Nat} {v : Value} {M : List En} (p : Pf) (o : Option Int) (w : World) (h : Acc w base bl v M) (h1 : w.cell? ⟨nb, 2, none⟩ = some (.bool o.isSome)) (h2 : w.cell? ⟨nb, 3, none⟩ = some (.int .i64 (o.getD 0)))
    (hbase : base ≤ w.heap.size) (hM : (M.length + 1) * 24 ≤ 140737488355328) :
    Calls Try.prog 82 #[.pointer (some ⟨bl, 0, none⟩), p.val, .pointer (some ⟨nb, 0, none⟩)] w (Does (LFoot bl v) (AccR base bl v (M ++ adds p o) w) w) := by
  obtain ⟨hB, hO, hne⟩ := h
  refine V_enter (vs := [_, _, _]) Try.func82 rfl Try.ntmps82 (Nat.le_of_ble_eq_true rfl) ?_
  repeat (first | refine Vx ?_ | (apply Ops_q; (case hon => exact Va); (case hd => rfl); (case hq => exact YlA)) | refine Vr ?_ | refine Vt ?_ | refine Vf ?_ | refine Vm ?_ | refine Ve ?_ | refine Vo ?_ | refine Vz ?_ | refine Vn ?_)
  (refine Ops_box (by exact Va) rfl rfl rfl ?_; intro w1 b1 n_b1; have k_b1 := n_b1.blk)
  have g1 := hB.ext n_b1.ext
  have o1 := hO.ext n_b1.ext
  have c1 := n_b1.ext.cell h1
  have c2 := n_b1.ext.cell h2
  repeat (first | refine Vx ?_ | (apply Ops_q; (case hon => exact Va); (case hd => rfl); (case hq => exact YlA)) | refine Vr ?_ | refine Vt ?_ | refine Vf ?_ | refine Vm ?_ | refine Ve ?_ | refine Vo ?_ | refine Vz ?_ | refine Vn ?_)
  cases o with
  | none =>
    repeat (first | refine Vx ?_ | (apply Ops_q; (case hon => exact Va); (case hd => rfl); (case hq => exact YlA)) | refine Vr ?_ | refine Vt ?_ | refine Vf ?_ | refine Vm ?_ | refine Ve ?_ | refine Vo ?_ | refine Vz ?_ | refine Vn ?_)
    refine ret0 (by first | exact .inl rfl | exact .inr rfl) rfl ?_
    exact Does_mk (fun w' he => ⟨rfl, v, ⟨g1.ext he, by rw [adds, List.append_nil]; exact o1.ext he, hne⟩, fun c hc => .inl hc⟩) (.of_ext n_b1.ext)
  | some x =>
    repeat (first | refine Vx ?_ | (apply Ops_q; (case hon => exact Va); (case hd => rfl); (case hq => exact YlA)) | refine Vr ?_ | refine Vt ?_ | refine Vf ?_ | refine Vm ?_ | refine Ve ?_ | refine Vo ?_ | refine Vz ?_ | refine Vn ?_)
    refine V_litM 12 11 [.int .u32 p.a, .int .i64 p.n, .int .i64 x] (by kernel_rfl) rfl (by kernel_rfl) rfl rfl (by kernel_rfl) rfl rfl ?_
    repeat (first | refine Vx ?_ | (apply Ops_q; (case hon => exact Va); (case hd => rfl); (case hq => exact YlA)) | refine Vr ?_ | refine Vt ?_ | refine Vf ?_ | refine Vm ?_ | refine Ve ?_ | refine Vo ?_ | refine Vz ?_ | refine Vn ?_)
    refine ⟨_, rfl, inferInstance, rfl, ?_⟩
    repeat (first | refine Vx ?_ | (apply Ops_q; (case hon => exact Va); (case hd => rfl); (case hq => exact YlA)) | refine Vr ?_ | refine Vt ?_ | refine Vf ?_ | refine Vm ?_ | refine Ve ?_ | refine Vo ?_ | refine Vz ?_ | refine Vn ?_)
    intro w2 b2 n_b2
    have k_b2 := n_b2.blk
    have o2 := o1.ext n_b2.ext
    have g2 := g1.ext n_b2.ext
    have e2 := n_b1.ext.trans n_b2.ext
    have ne2 : bl ≠ b2 := fun e => by have := g1.lt; have := n_b2.ge; omega
    (refine Ops_append1 (by exact Va) rfl rfl rfl rfl o2 k_b2.cells inferInstance inferInstance (by first | omega | (rw [List.length_map]; omega)) rfl (Nat.le_trans hbase e2.size) ?_; intro v' w3 o_v' g_w3 d_v')
    have g3 := grow_blk g_w3 g2 (fun e => hne e.symm)
    have hnv : v'.ownBlock ≠ some bl := dis_app d_v' hne g2.lt
    obtain ⟨ao', c', rfl, _⟩ := o_v'.slice
    repeat (first | refine Vx ?_ | (apply Ops_q; (case hon => exact Va); (case hd => rfl); (case hq => exact YlA)) | refine Vr ?_ | refine Vt ?_ | refine Vf ?_ | refine Vm ?_ | refine Ve ?_ | refine Vo ?_ | refine Vz ?_ | refine Vn ?_)
    (refine Ops_store (by exact Va) rfl rfl g3 (by rfl) ?_; intro w4 u_w4)
    have o4 := o_v'.upd u_w4 hnv
    have m4 : Mod (LFoot bl v) w w4 := ((Mod.of_ext e2).grow g_w3 (fun b hb => .inl (.inr hb))).upd u_w4 (.inl (.inl rfl))
    repeat (first | refine Vx ?_ | (apply Ops_q; (case hon => exact Va); (case hd => rfl); (case hq => exact YlA)) | refine Vr ?_ | refine Vt ?_ | refine Vf ?_ | refine Vm ?_ | refine Ve ?_ | refine Vo ?_ | refine Vz ?_ | refine Vn ?_)
    refine ret0 (by first | exact .inl rfl | exact .inr rfl) rfl ?_
    refine Does_mk (fun w' he => ⟨rfl, _, ⟨u_w4.blk.ext he, ?_, hnv⟩, fun c hc => ?_⟩) m4
    · have := o4.ext he
      rw [List.map_append]; exact this
    · rcases d_v' with h5 | ⟨b, h5, h6⟩
      · exact .inl (by rw [← h5]; exact hc)
      · rw [h5] at hc; cases hc
        exact .inr (Nat.le_trans e2.size h6)

theorem TrieM.mod {w w1 : World} {base b0 : Nat} {N : Nat → Nat → Option Nat} {E : Nat → Nat → Option Int} {n : Int} {S : Nat → Prop} (h : TrieM w base b0 N E n) (hm : Mod S w w1) (hs : ∀ c, Foot N c → ¬S c) : TrieM w1 base b0 N E n :=
  { h with node := fun x k b hb => hm.blk (h.node x k b hb) (hs b ⟨x, k, hb⟩) }
/-- The entries along a path. -/
def pre (E : Nat → Nat → Option Int) (a k : Nat) : List En := (List.range k).flatMap fun j => adds ⟨top a j, j⟩ (E (top a j) j)
theorem pre_succ (E : Nat → Nat → Option Int) (a k : Nat) : pre E a (k + 1) = pre E a k ++ adds ⟨top a k, k⟩ (E (top a k) k) := by
  unfold pre
  rw [List.range_succ, List.flatMap_append]
  simp
theorem adds_len (p : Pf) (o : Option Int) : (adds p o).length ≤ 1 := by unfold adds; split <;> simp
theorem pre_len (E : Nat → Nat → Option Int) (a : Nat) : ∀ k, (pre E a k).length ≤ k
  | 0 => by simp [pre]
  | k + 1 => by
    have := pre_len E a k
    have h2 := adds_len ⟨top a k, k⟩ (E (top a k) k)
    rw [pre_succ, List.length_append]
    omega
theorem pre_none {E : Nat → Nat → Option Int} {a k : Nat} (m : Nat) (h : ∀ j, k ≤ j → j < m → E (top a j) j = none) (hk : k ≤ m) : pre E a m = pre E a k := by
  induction m with
  | zero => obtain rfl : k = 0 := by omega
            rfl
  | succ m ih =>
    rcases Nat.lt_or_ge k (m + 1) with h1 | h1
    · rw [pre_succ, ih (fun j h2 h3 => h j h2 (by omega)) (by omega), h m (by omega) (by omega), adds, List.append_nil]
    · obtain rfl : k = m + 1 := by omega
      rfl
theorem room {m p k n : Nat} (hp : p ≤ k) (hk : k ≤ n) (hn : n ≤ 32) (hM : (m + 33) * 24 ≤ 140737488355328) : (m + p + 1) * 24 ≤ 140737488355328 :=
  Nat.le_trans (Nat.mul_le_mul_right 24 (by omega : m + p + 1 ≤ m + 33)) hM
def addF (bl : Nat) : Value := .func (.func 82) #[.pointer (some ⟨bl, 0, none⟩)] #[]
set_option maxHeartbeats 1000000 in
theorem down_v {base b0 base2 bl : Nat} {N : Nat → Nat → Option Nat} {E : Nat → Nat → Option Int} {cnt : Int} {v : Value} {M : List En} (a n : Nat) (w : World) (h : TrieM w base b0 N E cnt) (hA : Acc w base2 bl v M) (ha : a < 4294967296) (hn : n ≤ 32)
    (hd1 : ¬Foot N bl) (hd2 : ∀ c, v.ownBlock = some c → ¬Foot N c) (hbase : base2 ≤ w.heap.size) (hM : (M.length + 33) * 24 ≤ 140737488355328) :
    Calls Try.prog 81 #[.pointer (some ⟨b0, 0, none⟩), .int .u32 a, .int .i64 n, addF bl] w (Does (LFoot bl v) (AccR base2 bl v (M ++ pre E a (n + 1)) w) w) := by
  have hst : N (top a 0) 0 = some b0 := by rw [top_zero _ ha, h.root]
  have hdis : ∀ c, Foot N c → ¬LFoot bl v c := fun c hc hl => hl.elim (fun e => hd1 (e ▸ hc)) (fun e => hd2 c e hc)
  unfold addF
  refine V_enter (vs := [_, _, _, _]) Try.func81 rfl Try.ntmps81 (Nat.le_of_ble_eq_true rfl) ?_
  repeat (first | refine Vx ?_ | (apply Ops_q; (case hon => exact Va); (case hd => rfl); (case hq => exact YlA)) | refine Vr ?_ | refine Vt ?_ | refine Vf ?_ | refine Vm ?_ | refine Ve ?_ | refine Vo ?_ | refine Vz ?_ | refine Vn ?_)
  refine V_loop (fun s : Nat × Value => [(9, .int .i64 s.1), (8, ptrV (N (top a s.1) s.1)), (1, .int .u32 a), (2, .int .i64 n), (3, .func (.func 82) #[.pointer (some ⟨bl, 0, none⟩)] #[])])
    (fun s w' => Mod (LFoot bl v) w w' ∧ s.1 ≤ n ∧ Acc w' base2 bl s.2 (M ++ pre E a s.1) ∧ ∀ c, s.2.ownBlock = some c → v.ownBlock = some c ∨ w.heap.size ≤ c) (fun s => n - s.1) (0, v)
    ⟨rfl, by rw [hst]; exact rfl, rfl, rfl, rfl, trivial⟩ ⟨.of_ext (Ext.refl _), Nat.zero_le _, by simpa [pre] using hA, fun c hc => .inl hc⟩ ?_
  rintro ⟨k, v'⟩ w1 ⟨m1, hk, hA, hv⟩
  dsimp only at hk hA hv ⊢
  have h1 := h.mod m1 hdis
  cases hnk : N (top a k) k with
  | none =>
    rw [ptrV_none]
    repeat (first | refine Vx ?_ | (apply Ops_q; (case hon => exact Va); (case hd => rfl); (case hq => exact YlA)) | refine Vr ?_ | refine Vt ?_ | refine Vf ?_ | refine Vm ?_ | refine Ve ?_ | refine Vo ?_ | refine Vz ?_ | refine Vn ?_)
    refine ret0 (by first | exact .inl rfl | exact .inr rfl) rfl ?_
    refine Does_mk (fun w' he => ⟨rfl, v', ?_, hv⟩) m1
    have : pre E a (n + 1) = pre E a k := pre_none (n + 1) (fun j h2 h3 => h.at_none (h.none_below a hnk h2 (by omega))) (by omega)
    rw [this]
    exact ⟨hA.blk.ext he, hA.own.ext he, hA.ne⟩
  | some b =>
    rw [ptrV_some]
    have hkc := h1.kid_cell hnk (bit_lt a k)
    have hb2 := bit_lt a k
    repeat (first | refine Vx ?_ | (apply Ops_q; (case hon => exact Va); (case hd => rfl); (case hq => exact YlA)) | refine Vr ?_ | refine Vt ?_ | refine Vf ?_ | refine Vm ?_ | refine Ve ?_ | refine Vo ?_ | refine Vz ?_ | refine Vn ?_)
    (apply Ops_q; (case hon => (exact Va)); (case hd => rfl); (case hq => exact Yl_call rfl (fun w_ e_ => make_v a k w_ ha (by omega))))
    repeat (first | refine Vx ?_ | (apply Ops_q; (case hon => exact Va); (case hd => rfl); (case hq => exact YlA)) | refine Vr ?_ | refine Vt ?_ | refine Vf ?_ | refine Vm ?_ | refine Ve ?_ | refine Vo ?_ | refine Vz ?_ | refine Vn ?_)
    (refine Ops_alloc (by exact Va) rfl ?_; intro w2 b2 n_b2; have k_b2 := n_b2.blk)
    have g2 : w.heap.size ≤ b2 := Nat.le_trans m1.size n_b2.ge
    repeat (first | refine Vx ?_ | (apply Ops_q; (case hon => exact Va); (case hd => rfl); (case hq => exact YlA)) | refine Vr ?_ | refine Vt ?_ | refine Vf ?_ | refine Vm ?_ | refine Ve ?_ | refine Vo ?_ | refine Vz ?_ | refine Vn ?_)
    (refine Ops_store (by exact Va) rfl rfl (by assumption) (by first | rfl | exact OneAll.h) ?_; intro w3 u_w3; have k_b2 := u_w3.blk)
    have m3 : Mod (LFoot bl v) w w3 := (m1.ext n_b2.ext).upd u_w3 (.inr g2)
    have h3 := h.mod m3 hdis
    have hpl := pre_len E a k
    have hbl2 : bl ≠ b2 := fun e => by have := hA.blk.lt; have := n_b2.ge; omega
    have hvb : v'.ownBlock ≠ some b2 := fun e => by have := hA.own.lt e; have := n_b2.ge; omega
    have hA3 : Acc w3 base2 bl v' (M ++ pre E a k) := ⟨u_w3.keep (hA.blk.ext n_b2.ext) hbl2, (hA.own.ext n_b2.ext).upd u_w3 hvb, hA.ne⟩
    have hlen : (M ++ pre E a k).length = M.length + (pre E a k).length := List.length_append ..
    have hadd := fun w_ (e_ : Ext w3 w_) => add_v (base := base2) (bl := bl) (nb := b) (v := v') (M := M ++ pre E a k) ⟨top a k, k⟩ (E (top a k) k) w_ ⟨hA3.blk.ext e_, hA3.own.ext e_, hA3.ne⟩ (e_.cell (h3.has_cell hnk)) (e_.cell (h3.val_cell hnk)) (Nat.le_trans hbase (Nat.le_trans m3.size e_.size)) (hlen ▸ room hpl hk hn hM)
    repeat (first | refine Vx ?_ | (apply Ops_q; (case hon => exact Va); (case hd => rfl); (case hq => exact YlA)) | refine Vr ?_ | refine Vt ?_ | refine Vf ?_ | refine Vm ?_ | refine Ve ?_ | refine Vo ?_ | refine Vz ?_ | refine Vn ?_)
    refine Ops_callvM (S := LFoot bl v') (R := fun w_ => AccR base2 bl v' ((M ++ pre E a k) ++ adds ⟨top a k, k⟩ (E (top a k) k)) w_) (first := [.pointer (some ⟨bl, 0, none⟩)]) (cap := []) (by exact Va) rfl rfl rfl hadd ?_
    intro r w4 w0_ e0 m4 hR
    obtain ⟨rfl, v2, hA4, hv2⟩ := hR
    have m4' : Mod (LFoot bl v) w w4 := (m3.ext e0).trans' m4 (fun c hc => hc.elim (fun e => .inl (.inl e)) (fun e => (hv c e).elim (fun e2 => .inl (.inr e2)) (fun e2 => .inr e2)))
    have hv4 : ∀ c, v2.ownBlock = some c → v.ownBlock = some c ∨ w.heap.size ≤ c := fun c hc => (hv2 c hc).elim (fun e => hv c e) (fun e => .inr (Nat.le_trans (Nat.le_trans m3.size e0.size) e))
    rw [List.append_assoc, ← pre_succ] at hA4
    have h4 := h.mod m4' hdis
    repeat (first | refine Vx ?_ | (apply Ops_q; (case hon => exact Va); (case hd => rfl); (case hq => exact YlA)) | refine Vr ?_ | refine Vt ?_ | refine Vf ?_ | refine Vm ?_ | refine Ve ?_ | refine Vo ?_ | refine Vz ?_ | refine Vn ?_)
    refine V_cond rfl (fun hg => ?_) (fun hg => ?_)
    · have : k = n := by have := of_decide_eq_true hg; omega
      subst this
      repeat (first | refine Vx ?_ | (apply Ops_q; (case hon => exact Va); (case hd => rfl); (case hq => exact YlA)) | refine Vr ?_ | refine Vt ?_ | refine Vf ?_ | refine Vm ?_ | refine Ve ?_ | refine Vo ?_ | refine Vz ?_ | refine Vn ?_)
      refine ret0 (by first | exact .inl rfl | exact .inr rfl) rfl ?_
      exact Does_mk (fun w' he => ⟨rfl, v2, ⟨hA4.blk.ext he, hA4.own.ext he, hA4.ne⟩, hv4⟩) m4'
    · have hkn : k < n := by have := of_decide_eq_false hg; omega
      have hkc4 := h4.kid_cell hnk (bit_lt a k)
      rw [h4.kid_eq a (by omega)] at hkc4
      repeat (first | refine Vx ?_ | (apply Ops_q; (case hon => exact Va); (case hd => rfl); (case hq => exact YlA)) | refine Vr ?_ | refine Vt ?_ | refine Vf ?_ | refine Vm ?_ | refine Ve ?_ | refine Vo ?_ | refine Vz ?_ | refine Vn ?_)
      (apply Ops_q; (case hon => (exact Va)); (case hd => rfl); (case hq => exact Yl_call rfl (fun w_ e_ => bit_v a k w_ ha)))
      repeat (first | refine Vx ?_ | (apply Ops_q; (case hon => exact Va); (case hd => rfl); (case hq => exact YlA)) | refine Vr ?_ | refine Vt ?_ | refine Vf ?_ | refine Vm ?_ | refine Ve ?_ | refine Vo ?_ | refine Vz ?_ | refine Vn ?_)
      (apply Ops_q; (case hon => (exact Va)); (case hd => rfl); (case hq => exact Yl_indexA (j := (bitAt a k)) rfl rfl (by first | exact Nat.le_of_ble_eq_true rfl | omega)))
      repeat (first | refine Vx ?_ | (apply Ops_q; (case hon => exact Va); (case hd => rfl); (case hq => exact YlA)) | refine Vr ?_ | refine Vt ?_ | refine Vf ?_ | refine Vm ?_ | refine Ve ?_ | refine Vo ?_ | refine Vz ?_ | refine Vn ?_)
      exact ⟨(k + 1, v2), (by repeat (first | exact trivial | refine ⟨rfl, ?_⟩)), ⟨m4', hkn, hA4, hv4⟩, by simp only; omega⟩
def aboveL (E : Nat → Nat → Option Int) (p : Pf) : List En := if p.valid then pre E p.a (p.n.toNat + 1) else []
theorem above_v {base b0 : Nat} {N : Nat → Nat → Option Nat} {E : Nat → Nat → Option Int} {cnt : Int} (p : Pf) (w : World) (h : TrieM w base b0 N E cnt) (ha : p.a < 4294967296) :
    Calls Try.prog 59 #[.pointer (some ⟨b0, 0, none⟩), p.val] w (Gives (fun r w' => Own w' w.heap.size 76 3 r ((aboveL E p).map En.cells)) w) := by
  refine V_enter (vs := [_, _]) Try.func59 rfl Try.ntmps59 (Nat.le_of_ble_eq_true rfl) ?_
  repeat (first | refine Vx ?_ | (apply Ops_q; (case hon => exact Va); (case hd => rfl); (case hq => exact YlA)) | refine Vr ?_ | refine Vt ?_ | refine Vf ?_ | refine Vm ?_ | refine Ve ?_ | refine Vo ?_ | refine Vz ?_ | refine Vn ?_)
  (refine Ops_box (by exact Va) rfl rfl rfl ?_; intro w1 b1 n_b1; have k_b1 := n_b1.blk)
  repeat (first | refine Vx ?_ | (apply Ops_q; (case hon => exact Va); (case hd => rfl); (case hq => exact YlA)) | refine Vr ?_ | refine Vt ?_ | refine Vf ?_ | refine Vm ?_ | refine Ve ?_ | refine Vo ?_ | refine Vz ?_ | refine Vn ?_)
  (apply Ops_q; (case hon => (exact Va)); (case hd => rfl); (case hq => exact Yl_call rfl (fun w_ e_ => valid_v p w_ ha)))
  repeat (first | refine Vx ?_ | (apply Ops_q; (case hon => exact Va); (case hd => rfl); (case hq => exact YlA)) | refine Vr ?_ | refine Vt ?_ | refine Vf ?_ | refine Vm ?_ | refine Ve ?_ | refine Vo ?_ | refine Vz ?_ | refine Vn ?_)
  cases hv : p.valid with
  | false =>
    repeat (first | refine Vx ?_ | (apply Ops_q; (case hon => exact Va); (case hd => rfl); (case hq => exact YlA)) | refine Vr ?_ | refine Vt ?_ | refine Vf ?_ | refine Vm ?_ | refine Ve ?_ | refine Vo ?_ | refine Vz ?_ | refine Vn ?_)
    refine ret1 (by first | exact .inl rfl | exact .inr rfl) rfl rfl ?_
    exact Gives_mk (fun w' he => by rw [aboveL, hv]; exact Own.nil) n_b1.ext
  | true =>
    obtain ⟨v1, v2, v3⟩ := Pf.valid_iff.1 hv
    obtain ⟨len, hlen⟩ : ∃ len : Nat, p.n = len := ⟨p.n.toNat, by omega⟩
    have hAb : aboveL E p = pre E p.a (len + 1) := by rw [aboveL, if_pos hv, hlen, Int.toNat_natCast]
    rw [hlen] at k_b1
    repeat (first | refine Vx ?_ | (apply Ops_q; (case hon => exact Va); (case hd => rfl); (case hq => exact YlA)) | refine Vr ?_ | refine Vt ?_ | refine Vf ?_ | refine Vm ?_ | refine Ve ?_ | refine Vo ?_ | refine Vz ?_ | refine Vn ?_)
    (refine Ops_alloc (by exact Va) rfl ?_; intro w2 b2 n_b2; have k_b2 := n_b2.blk)
    replace k_b1 := k_b1.ext n_b2.ext
    have e2 := n_b1.ext.trans n_b2.ext
    have g2 : w.heap.size ≤ b2 := Nat.le_trans n_b1.ext.size n_b2.ge
    have h2 := h.ext e2
    repeat (first | refine Vx ?_ | (apply Ops_q; (case hon => exact Va); (case hd => rfl); (case hq => exact YlA)) | refine Vr ?_ | refine Vt ?_ | refine Vf ?_ | refine Vm ?_ | refine Ve ?_ | refine Vo ?_ | refine Vz ?_ | refine Vn ?_)
    (refine Ops_callM (by exact Va) rfl rfl (fun w_ e_ => down_v (base2 := w.heap.size) (M := []) p.a len w_ (h2.ext e_) ⟨k_b2.ext e_, Own.nil, fun e => by cases e⟩ ha (by omega) (fun hf => by have := h.lt hf; omega) (fun c hc => by cases hc) (Nat.le_trans e2.size e_.size) (by decide)) ?_)
    intro r w3 w0_ e0 m3 hR
    obtain ⟨rfl, v', hA, _⟩ := hR
    have e3 : Ext w w3 := Mod.ext_of (e2.trans e0) m3 (fun c hc => hc.elim (fun e => e ▸ g2) (fun e => by cases e))
    have hc : w3.cell? ⟨b2, 0, none⟩ = some v' := hA.blk.cell rfl
    have hO := hA.own
    repeat (first | refine Vx ?_ | (apply Ops_q; (case hon => exact Va); (case hd => rfl); (case hq => exact YlA)) | refine Vr ?_ | refine Vt ?_ | refine Vf ?_ | refine Vm ?_ | refine Ve ?_ | refine Vo ?_ | refine Vz ?_ | refine Vn ?_)
    refine ret1 (by first | exact .inl rfl | exact .inr rfl) rfl rfl ?_
    exact Gives_mk (fun w' he => by rw [hAb]; exact hO.ext he) e3
end Go.Proofs.Ytkdjbddjblahkaa

/-
  Layer 6 (trie): the walks of walk, Under, All, Lookup, Of.
  Conditions: addresses are below 2^32.
-/
namespace Go.Proofs.Ytkdjbddjblahkaa
open Go.RowKit

theorem last_kid {x k : Nat} (hx : top x k = x) (hk : k < 32) (hl : x < 4294967296) : top (x + (2 ^ (32 - k) - 1)) (k + 1) = kidA x k 1 := by
  have h2 : x = x / 2 ^ (32 - k) * 2 ^ (32 - k) := by unfold top at hx; exact hx.symm
  unfold kidA top
  rw [show 32 - (k + 1) = 31 - k by omega, pow_up hk] at *
  have hp : 0 < 2 ^ (31 - k) := Nat.two_pow_pos _
  generalize 2 ^ (31 - k) = p at *
  generalize x / (2 * p) = q at *
  subst h2
  have e : q * (2 * p) + (2 * p - 1) = (p - 1) + (2 * q + 1) * p := by
    rw [Nat.add_mul, Nat.mul_assoc 2 q p, Nat.mul_left_comm 2 q p]; omega
  rw [e, Nat.add_mul_div_right _ _ hp, Nat.div_eq_of_lt (by omega), Nat.zero_add, Nat.add_mul, Nat.mul_assoc 2 q p, Nat.mul_left_comm 2 q p]
/-- The entries below a prefix, in preorder. -/
def sub (E : Nat → Nat → Option Int) : Nat → Nat → Nat → List En
  | 0, x, k => adds ⟨x, k⟩ (E x k)
  | f + 1, x, k => adds ⟨x, k⟩ (E x k) ++ (sub E f (kidA x k 0) (k + 1) ++ sub E f (kidA x k 1) (k + 1))
theorem TrieM.sub_none {w : World} {base b0 : Nat} {N : Nat → Nat → Option Nat} {E : Nat → Nat → Option Int} {n : Int} (h : TrieM w base b0 N E n) : ∀ (f x k : Nat), k + f = 32 → top x k = x → N x k = none → sub E f x k = []
  | 0, x, k, _, _, hn => by rw [sub, h.at_none hn]; rfl
  | f + 1, x, k, hk, hx, hn => by
    have hk32 : k < 32 := by omega
    have key : ∀ bit, bit < 2 → N (kidA x k bit) (k + 1) = none := fun bit hb => by
      cases hc : N (kidA x k bit) (k + 1) with
      | none => rfl
      | some b =>
        have := h.par _ _ _ hc
        rw [(kid_top hk32 hx hb).2] at this
        exact absurd hn this
    rw [sub, h.at_none hn, h.sub_none f _ _ (by omega) (kid_top hk32 hx (by omega)).1 (key 0 (by omega)), h.sub_none f _ _ (by omega) (kid_top hk32 hx (by omega)).1 (key 1 (by omega))]
    rfl
theorem Acc.ext {w w' : World} {base bl : Nat} {v : Value} {M : List En} (h : Acc w base bl v M) (he : Ext w w') : Acc w' base bl v M := ⟨h.blk.ext he, h.own.ext he, h.ne⟩
theorem Acc.dis {w : World} {base bl : Nat} {v : Value} {M : List En} (_h : Acc w base bl v M) {S : Nat → Prop} (h1 : ¬S bl) (h2 : ∀ c, v.ownBlock = some c → ¬S c) : ∀ c, S c → ¬LFoot bl v c := fun c hc hl => hl.elim (fun e => h1 (e ▸ hc)) (fun e => h2 c e hc)
def underL (E : Nat → Nat → Option Int) (p : Pf) : List En := if p.valid then sub E (32 - p.n.toNat) p.a p.n.toNat else []
end Go.Proofs.Ytkdjbddjblahkaa

/-
  Layer 6 (trie): the walks of Lookup and Of.
  Conditions: addresses are below 2^32.
-/
namespace Go.Proofs.Ytkdjbddjblahkaa
open Go.RowKit

def En.zero : En := ⟨⟨0, 0⟩, 0⟩
def lookE (E : Nat → Nat → Option Int) (a : Nat) : Option En := (pre E a 33).getLast?
theorem lookup_v {base b0 : Nat} {N : Nat → Nat → Option Nat} {E : Nat → Nat → Option Int} {cnt : Int} (a : Nat) (w : World) (h : TrieM w base b0 N E cnt) (ha : a < 4294967296) :
    Calls Try.prog 43 #[.pointer (some ⟨b0, 0, none⟩), .int .u32 a] w (Ret (.tuple #[((lookE E a).getD En.zero).val, .bool (lookE E a).isSome]) w) := by
  have hab : aboveL E ⟨a, 32⟩ = pre E a 33 := by
    rw [aboveL, if_pos (Pf.valid_iff.2 ⟨by simp, by simp, by simpa using top_full a⟩)]; rfl
  have hpl := pre_len E a 33
  refine V_enter (vs := [_, _]) Try.func43 rfl Try.ntmps43 (Nat.le_of_ble_eq_true rfl) ?_
  repeat (first | refine Vx ?_ | (apply Ops_q; (case hon => exact Va); (case hd => rfl); (case hq => exact YlA)) | refine Vr ?_ | refine Vt ?_ | refine Vf ?_ | refine Vm ?_ | refine Ve ?_ | refine Vo ?_ | refine Vz ?_ | refine Vn ?_)
  (refine Ops_alloc (by exact Va) rfl ?_; intro w1 b1 n_b1; have k_b1 := n_b1.blk)
  repeat (first | refine Vx ?_ | (apply Ops_q; (case hon => exact Va); (case hd => rfl); (case hq => exact YlA)) | refine Vr ?_ | refine Vt ?_ | refine Vf ?_ | refine Vm ?_ | refine Ve ?_ | refine Vo ?_ | refine Vz ?_ | refine Vn ?_)
  (refine Ops_callR (by exact Va) rfl rfl (fun w_ e_ => above_v ⟨a, 32⟩ w_ (h.ext (n_b1.ext.trans e_)) ha) ?_; intro v w2 w0_ e0_ e1_ r_v; have e_w2 := e0_.trans e1_; have b_v := e0_.size; clear e0_ e1_)
  rw [hab] at r_v
  have e2 := n_b1.ext.trans e_w2
  have g1 := n_b1.ge
  obtain ⟨ao, c, rfl, hA⟩ := r_v.slice
  rw [List.length_map]
  replace k_b1 := k_b1.ext e_w2
  clear r_v
  generalize hL : pre E a 33 = L at *
  repeat (first | refine Vx ?_ | (apply Ops_q; (case hon => exact Va); (case hd => rfl); (case hq => exact YlA)) | refine Vr ?_ | refine Vt ?_ | refine Vf ?_ | refine Vm ?_ | refine Ve ?_ | refine Vo ?_ | refine Vz ?_ | refine Vn ?_)
  refine V_cond rfl (fun hg => ?_) (fun hg => ?_)
  · have hnil : L = [] := List.length_eq_zero_iff.1 (by have := of_decide_eq_true hg; omega)
    have hlk : lookE E a = none := by rw [lookE, hL, hnil]; rfl
    repeat (first | refine Vx ?_ | (apply Ops_q; (case hon => exact Va); (case hd => rfl); (case hq => exact YlA)) | refine Vr ?_ | refine Vt ?_ | refine Vf ?_ | refine Vm ?_ | refine Ve ?_ | refine Vo ?_ | refine Vz ?_ | refine Vn ?_)
    (refine Ops_store (by exact Va) rfl rfl (by assumption) (by first | rfl | exact OneAll.h) ?_; intro w3 u_w3; have k_b1 := u_w3.blk)
    have e3 := u_w3.below e2 g1
    repeat (first | refine Vx ?_ | (apply Ops_q; (case hon => exact Va); (case hd => rfl); (case hq => exact YlA)) | refine Vr ?_ | refine Vt ?_ | refine Vf ?_ | refine Vm ?_ | refine Ve ?_ | refine Vo ?_ | refine Vz ?_ | refine Vn ?_)
    refine retR2 (by first | exact .inl rfl | exact .inr rfl) rfl (res_agg rfl k_b1.cells) rfl ?_
    exact Ret_mk (by rw [hlk]; rfl) e3
  · have hpos : 0 < L.length := by have := of_decide_eq_false hg; omega
    obtain ⟨x, hx⟩ : ∃ x, L[L.length - 1]? = some x := ⟨_, List.getElem?_eq_getElem (by omega)⟩
    have hlk : lookE E a = some x := by rw [lookE, hL, List.getLast?_eq_getElem?, hx]
    obtain ⟨ad, rfl, hc⟩ := hA (L.length - 1) x.cells (by rw [List.getElem?_map, hx]; rfl)
    obtain ⟨m, hm⟩ : ∃ m : Nat, ((L.length : Int) - 1) = m := ⟨L.length - 1, by omega⟩
    have hm' : L.length - 1 = m := by omega
    rw [hm'] at hc
    have hc2 : Cells w2 (ad.add (m * 3)) [.int .u32 x.p.a, .int .i64 x.p.n, .int .i64 x.v] := hc
    clear hc
    repeat (first | refine Vx ?_ | (apply Ops_q; (case hon => exact Va); (case hd => rfl); (case hq => exact YlA)) | refine Vr ?_ | refine Vt ?_ | refine Vf ?_ | refine Vm ?_ | refine Ve ?_ | refine Vo ?_ | refine Vz ?_ | refine Vn ?_)
    rw [hm]
    (apply Ops_q; (case hon => (exact Va)); (case hd => rfl); (case hq => exact Yl_indexS (j := m) rfl rfl (by omega)))
    repeat (first | refine Vx ?_ | (apply Ops_q; (case hon => exact Va); (case hd => rfl); (case hq => exact YlA)) | refine Vr ?_ | refine Vt ?_ | refine Vf ?_ | refine Vm ?_ | refine Ve ?_ | refine Vo ?_ | refine Vz ?_ | refine Vn ?_)
    (refine Ops_store (by exact Va) rfl rfl (by assumption) (by first | rfl | exact OneAll.h) ?_; intro w3 u_w3; have k_b1 := u_w3.blk)
    have e3 := u_w3.below e2 g1
    repeat (first | refine Vx ?_ | (apply Ops_q; (case hon => exact Va); (case hd => rfl); (case hq => exact YlA)) | refine Vr ?_ | refine Vt ?_ | refine Vf ?_ | refine Vm ?_ | refine Ve ?_ | refine Vo ?_ | refine Vz ?_ | refine Vn ?_)
    refine retR2 (by first | exact .inl rfl | exact .inr rfl) rfl (res_agg rfl k_b1.cells) rfl ?_
    exact Ret_mk (by rw [hlk]; rfl) e3

/-! ### Of -/
/-- Entries and their number, after one more is put. -/
abbrev St := (Nat → Nat → Option Int) × Int
def St.zero : St := (fun _ _ => none, 0)
def putS (s : St) (e : En) : St := (setE s.1 e.p e.v, if (at_ s.1 e.p).isNone then s.2 + 1 else s.2)
def ofS (L : List En) : St := L.foldl putS St.zero
theorem ofS_snoc {L : List En} {k : Nat} {x : En} (hx : L[k]? = some x) : ofS (L.take (k + 1)) = putS (ofS (L.take k)) x := by
  unfold ofS
  rw [List.take_add_one, hx, Option.toList_some, List.foldl_append]; rfl
theorem ofS_cnt : ∀ (L : List En), 0 ≤ (ofS L).2 ∧ (ofS L).2 ≤ L.length := by
  intro L
  have key : ∀ (L : List En) (s : St), s.2 ≤ (L.foldl putS s).2 ∧ (L.foldl putS s).2 ≤ s.2 + L.length := by
    intro L
    induction L with
    | nil => intro s; simp
    | cons x r ih =>
      intro s
      obtain ⟨h1, h2⟩ := ih (putS s x)
      have h3 : s.2 ≤ (putS s x).2 ∧ (putS s x).2 ≤ s.2 + 1 := by unfold putS; simp only; split <;> omega
      simp only [List.foldl_cons, List.length_cons]
      omega
  have := key L St.zero
  unfold ofS
  simp only [St.zero] at this ⊢
  omega
def allOk (L : List En) : Bool := L.all (fun e => e.p.valid)
/-- The elements of a list of entries, in memory. -/
def Ens (w : World) (ao : Option Addr) (L : List En) : Prop := Arr w 3 ao (L.map En.cells)
theorem Ens.ext {w w' : World} {ao : Option Addr} {L : List En} (h : Ens w ao L) (he : Ext w w') : Ens w' ao L := Arr.ext h he
theorem Ens.at {w : World} {ao : Option Addr} {L : List En} (h : Ens w ao L) {k : Nat} {x : En} (hk : L[k]? = some x) : ∃ ad, ao = some ad ∧ Cells w (ad.add (k * 3)) x.cells := h k x.cells (by rw [List.getElem?_map, hk]; rfl)
def OfR (L : List En) (w0 : World) (r : Value) (w' : World) : Prop :=
  if allOk L then ∃ b N, r = .tuple #[.pointer (some ⟨b, 0, none⟩), .int .i64 0] ∧ TrieM w' w0.heap.size b N (ofS L).1 (ofS L).2 else r = .tuple #[.pointer none, .int .i64 1]
end Go.Proofs.Ytkdjbddjblahkaa

/-
  Layer 6 (trie), in plain lists: the entries of a trie as a sorted list.
  No conditions beyond those that each statement names.
-/
namespace Go.Proofs.Ytkdjbddjblahkaa
open Go.RowKit

/-- Prefixes by address, then by length. -/
def pLt (p q : Pf) : Prop := p.a < q.a ∨ (p.a = q.a ∧ p.n < q.n)
instance (p q : Pf) : Decidable (pLt p q) := by unfold pLt; infer_instance
theorem pLt_irrefl (p : Pf) : ¬pLt p p := by unfold pLt; omega
theorem pLt_trans {p q r : Pf} (h : pLt p q) (h2 : pLt q r) : pLt p r := by unfold pLt at *; omega
theorem pf_eq {p q : Pf} (h1 : p.a = q.a) (h2 : p.n = q.n) : p = q := by cases p; cases q; simp_all
theorem pLt_total {p q : Pf} (h1 : ¬pLt p q) (h2 : p ≠ q) : pLt q p := by
  have : ¬(p.a = q.a ∧ p.n = q.n) := fun ⟨a, b⟩ => h2 (pf_eq a b)
  unfold pLt at *
  omega
abbrev Srt (S : List En) : Prop := S.Pairwise (fun x y => pLt x.p y.p)
theorem srt_eq : ∀ {A B : List En}, Srt A → Srt B → (∀ e, e ∈ A ↔ e ∈ B) → A = B
  | [], [], _, _, _ => rfl
  | [], b :: B, _, _, h => by have := (h b).2 (List.mem_cons_self ..); cases this
  | a :: A, [], _, _, h => by have := (h a).1 (List.mem_cons_self ..); cases this
  | a :: A, b :: B, hA, hB, h => by
    obtain ⟨a1, a2⟩ := List.pairwise_cons.1 hA
    obtain ⟨b1, b2⟩ := List.pairwise_cons.1 hB
    have hab : a = b := by
      rcases List.mem_cons.1 ((h a).1 (List.mem_cons_self ..)) with e | e
      · exact e
      · rcases List.mem_cons.1 ((h b).2 (List.mem_cons_self ..)) with e2 | e2
        · exact e2.symm
        · exact absurd (pLt_trans (b1 a e) (a1 b e2)) (pLt_irrefl _)
    subst hab
    congr 1
    refine srt_eq a2 b2 fun e => ⟨fun he => ?_, fun he => ?_⟩
    · rcases List.mem_cons.1 ((h e).1 (List.mem_cons_of_mem _ he)) with e2 | e2
      · subst e2; exact absurd (a1 _ he) (pLt_irrefl _)
      · exact e2
    · rcases List.mem_cons.1 ((h e).2 (List.mem_cons_of_mem _ he)) with e2 | e2
      · subst e2; exact absurd (b1 _ he) (pLt_irrefl _)
      · exact e2
theorem srt_key {S : List En} (h : Srt S) {x y : En} (hx : x ∈ S) (hy : y ∈ S) (e : x.p = y.p) : x = y := by
  induction S with
  | nil => cases hx
  | cons a r ih =>
    obtain ⟨h1, h2⟩ := List.pairwise_cons.1 h
    rcases List.mem_cons.1 hx with e1 | h3 <;> rcases List.mem_cons.1 hy with e2 | h4
    · rw [e1, e2]
    · have := h1 y h4
      rw [← e1, e] at this; exact absurd this (pLt_irrefl _)
    · have := h1 x h3
      rw [← e2, e] at this; exact absurd this (pLt_irrefl _)
    · exact ih h2 h3 h4
/-- The list holds just the entries of E, in order. -/
structure Rep (E : Nat → Nat → Option Int) (S : List En) : Prop where
  srt : Srt S
  ok : ∀ e ∈ S, e.p.valid = true ∧ e.p.a < 4294967296
  mem : ∀ e : En, e.p.valid = true → e.p.a < 4294967296 → (e ∈ S ↔ at_ E e.p = some e.v)
theorem Rep.nil : Rep (fun _ _ => none) [] := ⟨List.Pairwise.nil, fun e h => (by cases h), fun e _ _ => ⟨fun h => (by cases h), fun h => nomatch h⟩⟩
def insL (e : En) : List En → List En
  | [] => [e]
  | x :: r => if x.p = e.p then e :: r else if pLt e.p x.p then e :: x :: r else x :: insL e r
theorem insL_mem {S : List En} (h : Srt S) (e x : En) : x ∈ insL e S ↔ x = e ∨ (x ∈ S ∧ x.p ≠ e.p) := by
  induction S with
  | nil => simp [insL]
  | cons y r ih =>
    obtain ⟨h1, h2⟩ := List.pairwise_cons.1 h
    unfold insL
    split
    · rename_i he
      simp only [List.mem_cons]
      constructor
      · rintro (h | h)
        · exact .inl h
        · refine .inr ⟨.inr h, fun e2 => ?_⟩
          have := h1 x h
          rw [he, ← e2] at this; exact pLt_irrefl _ this
      · rintro (h | ⟨h | h, h3⟩)
        · exact .inl h
        · subst h; exact absurd he h3
        · exact .inr h
    · rename_i hne
      split
      · rename_i hlt
        simp only [List.mem_cons]
        constructor
        · rintro (h | h | h)
          · exact .inl h
          · subst h; exact .inr ⟨.inl rfl, hne⟩
          · refine .inr ⟨.inr h, fun e2 => ?_⟩
            have := pLt_trans hlt (h1 x h)
            rw [e2] at this; exact pLt_irrefl _ this
        · rintro (h | ⟨h | h, _⟩)
          · exact .inl h
          · exact .inr (.inl h)
          · exact .inr (.inr h)
      · simp only [List.mem_cons, ih h2]
        constructor
        · rintro (h | h | ⟨h, h3⟩)
          · subst h; exact .inr ⟨.inl rfl, hne⟩
          · exact .inl h
          · exact .inr ⟨.inr h, h3⟩
        · rintro (h | ⟨h | h, h3⟩)
          · exact .inr (.inl h)
          · exact .inl h
          · exact .inr (.inr ⟨h, h3⟩)
theorem insL_srt {S : List En} (h : Srt S) (e : En) : Srt (insL e S) := by
  induction S with
  | nil => exact List.pairwise_singleton ..
  | cons y r ih =>
    obtain ⟨h1, h2⟩ := List.pairwise_cons.1 h
    unfold insL
    split
    · rename_i he
      exact List.pairwise_cons.2 ⟨fun z hz => by rw [← he]; exact h1 z hz, h2⟩
    · rename_i hne
      split
      · rename_i hlt
        refine List.pairwise_cons.2 ⟨fun z hz => ?_, h⟩
        rcases List.mem_cons.1 hz with rfl | hz
        · exact hlt
        · exact pLt_trans hlt (h1 z hz)
      · rename_i hlt
        refine List.pairwise_cons.2 ⟨fun z hz => ?_, ih h2⟩
        rcases (insL_mem h2 e z).1 hz with rfl | ⟨hz, _⟩
        · exact pLt_total hlt (Ne.symm hne)
        · exact h1 z hz
theorem at_inj {p q : Pf} (hp : p.valid = true) (hq : q.valid = true) (h : q.a = p.a ∧ q.n.toNat = p.n.toNat) : q = p := by
  obtain ⟨p1, _, _⟩ := Pf.valid_iff.1 hp
  obtain ⟨q1, _, _⟩ := Pf.valid_iff.1 hq
  exact pf_eq h.1 (by omega)
theorem Rep.put {E : Nat → Nat → Option Int} {S : List En} (h : Rep E S) {p : Pf} (hp : p.valid = true) (ha : p.a < 4294967296) (v : Int) : Rep (setE E p v) (insL ⟨p, v⟩ S) := by
  refine ⟨insL_srt h.srt _, fun e he => ?_, fun e he hea => ?_⟩
  · rcases (insL_mem h.srt _ e).1 he with rfl | ⟨he, _⟩
    · exact ⟨hp, ha⟩
    · exact h.ok e he
  · rw [insL_mem h.srt, at_, setE]
    split
    · rename_i h2
      have e2 := at_inj hp he h2
      constructor
      · rintro (h3 | ⟨_, h3⟩)
        · rw [h3]
        · exact absurd e2 h3
      · intro h3
        refine .inl ?_
        cases e
        simp only at e2
        subst e2
        cases h3; rfl
    · rename_i h2
      have e2 : e.p ≠ p := fun e3 => h2 (by rw [e3]; exact ⟨rfl, rfl⟩)
      have := h.mem e he hea
      rw [at_] at this
      rw [← this]
      constructor
      · rintro (h3 | ⟨h3, _⟩)
        · rw [h3] at e2; exact absurd rfl e2
        · exact h3
      · exact fun h3 => .inr ⟨h3, e2⟩
theorem insL_len (e : En) : ∀ (S : List En), Srt S → (insL e S).length = if S.any (fun x => decide (x.p = e.p)) then S.length else S.length + 1
  | [], _ => rfl
  | x :: r, h => by
    obtain ⟨h1, h2⟩ := List.pairwise_cons.1 h
    unfold insL
    by_cases he : x.p = e.p
    · simp [he]
    · rw [if_neg he, List.any_cons, decide_eq_false he, Bool.false_or]
      by_cases hlt : pLt e.p x.p
      · rw [if_pos hlt, if_neg]
        · rfl
        · rw [Bool.not_eq_true, List.any_eq_false]
          intro z hz hz2
          have := pLt_trans hlt (h1 z hz)
          rw [of_decide_eq_true hz2] at this
          exact pLt_irrefl _ this
      · rw [if_neg hlt, List.length_cons, insL_len e r h2]
        split <;> simp
theorem Rep.none_iff {E : Nat → Nat → Option Int} {S : List En} (h : Rep E S) {p : Pf} (hp : p.valid = true) (ha : p.a < 4294967296) : (at_ E p).isNone = !S.any (fun x => decide (x.p = p)) := by
  cases hE : at_ E p with
  | none =>
    have : S.any (fun x => decide (x.p = p)) = false := List.any_eq_false.2 fun x hx h2 => by
      have e := of_decide_eq_true h2
      obtain ⟨h3, h4⟩ := h.ok x hx
      have := (h.mem x h3 h4).1 hx
      rw [e, hE] at this; cases this
    rw [this]; rfl
  | some v =>
    have : S.any (fun x => decide (x.p = p)) = true := List.any_eq_true.2 ⟨⟨p, v⟩, (h.mem ⟨p, v⟩ hp ha).2 hE, decide_eq_true rfl⟩
    rw [this]; rfl
/-- The sorted list of entries that were put one after another. -/
def srtL (L : List En) : List En := L.foldl (fun S e => insL e S) []
theorem rep_of : ∀ (L : List En), allOk L = true → (∀ e ∈ L, e.p.a < 4294967296) → Rep (ofS L).1 (srtL L) ∧ (ofS L).2 = (srtL L).length := by
  have key : ∀ (L : List En) (s : St) (S : List En), Rep s.1 S → s.2 = S.length → allOk L = true → (∀ e ∈ L, e.p.a < 4294967296) → Rep (L.foldl putS s).1 (L.foldl (fun S e => insL e S) S) ∧ (L.foldl putS s).2 = (L.foldl (fun S e => insL e S) S).length := by
    intro L
    induction L with
    | nil => intro s S h h2 _ _; exact ⟨h, h2⟩
    | cons x r ih =>
      intro s S h h2 hok ha
      unfold allOk at hok
      rw [List.all_cons, Bool.and_eq_true] at hok
      have hax := ha x (List.mem_cons_self ..)
      refine ih (putS s x) (insL x S) (h.put hok.1 hax x.v) ?_ hok.2 (fun e he => ha e (List.mem_cons_of_mem _ he))
      rw [insL_len x S h.srt]
      unfold putS
      simp only [h.none_iff hok.1 hax, h2]
      cases S.any (fun y => decide (y.p = x.p)) <;> simp
  intro L hok ha
  exact key L St.zero [] Rep.nil rfl hok ha
/-! ### Below a prefix -/
theorem top_mono {a b c : Nat} (h : a ≤ b) : top a c ≤ top b c := by unfold top; exact Nat.mul_le_mul_right _ (Nat.div_le_div_right h)
def underB (x k : Nat) (e : En) : Bool := decide (top e.p.a k = x) && decide ((k : Int) ≤ e.p.n)
theorem adds_mem {p : Pf} {o : Option Int} {e : En} : e ∈ adds p o ↔ e.p = p ∧ o = some e.v := by
  unfold adds
  cases o with
  | none => simp
  | some v =>
    simp only [List.mem_singleton, Option.some.injEq]
    constructor
    · rintro rfl; exact ⟨rfl, rfl⟩
    · rintro ⟨rfl, rfl⟩; rfl
theorem top_split {a x k : Nat} (hk : k < 32) (h : top a k = x) : top a (k + 1) = kidA x k 0 ∨ top a (k + 1) = kidA x k 1 := by
  have := top_kid a hk
  rw [h] at this
  have hb := bit_lt a k
  rcases (by omega : bitAt a k = 0 ∨ bitAt a k = 1) with e | e
  · exact .inl (by rw [this, e])
  · exact .inr (by rw [this, e])
theorem sub_mem (E : Nat → Nat → Option Int) : ∀ (f x k : Nat), k + f = 32 → top x k = x → x < 4294967296 → ∀ e : En, e ∈ sub E f x k ↔ e.p.valid = true ∧ e.p.a < 4294967296 ∧ top e.p.a k = x ∧ (k : Int) ≤ e.p.n ∧ at_ E e.p = some e.v
  | 0, x, k, hk, hx, hl, e => by
    obtain rfl : k = 32 := by omega
    rw [sub, adds_mem]
    constructor
    · rintro ⟨h1, h2⟩
      rw [h1]
      exact ⟨Pf.valid_iff.2 ⟨by simp, by simp, by simpa using hx⟩, hl, hx, by simp, h2⟩
    · rintro ⟨h1, h2, h3, h4, h5⟩
      obtain ⟨v1, v2, v3⟩ := Pf.valid_iff.1 h1
      rw [top_full] at h3
      have hn : e.p.n = 32 := by omega
      have hp : e.p = ⟨x, (32 : Nat)⟩ := pf_eq h3 hn
      refine ⟨hp, ?_⟩
      rw [hp] at h5; exact h5
  | f + 1, x, k, hk, hx, hl, e => by
    have hk32 : k < 32 := by omega
    have t0 := kid_top hk32 hx (bit := 0) (by omega)
    have t1 := kid_top hk32 hx (bit := 1) (by omega)
    rw [sub, List.mem_append, List.mem_append, adds_mem, sub_mem E f _ _ (by omega) t0.1 (kid_lt hk32 hx (by omega) hl), sub_mem E f _ _ (by omega) t1.1 (kid_lt hk32 hx (by omega) hl)]
    constructor
    · rintro (⟨h1, h2⟩ | ⟨h1, h2, h3, h4, h5⟩ | ⟨h1, h2, h3, h4, h5⟩)
      · rw [h1]
        exact ⟨Pf.valid_iff.2 ⟨by simp, by simp; omega, by simpa using hx⟩, hl, hx, by simp, h2⟩
      · refine ⟨h1, h2, ?_, by omega, h5⟩
        rw [← top_top e.p.a (j := k) (k := k + 1) (by omega) (by omega), h3, t0.2]
      · refine ⟨h1, h2, ?_, by omega, h5⟩
        rw [← top_top e.p.a (j := k) (k := k + 1) (by omega) (by omega), h3, t1.2]
    · rintro ⟨h1, h2, h3, h4, h5⟩
      obtain ⟨v1, v2, v3⟩ := Pf.valid_iff.1 h1
      by_cases hn : e.p.n = k
      · refine .inl ⟨pf_eq ?_ hn, ?_⟩
        · rw [hn, Int.toNat_natCast] at v3
          rw [← v3, h3]
        · have : e.p.a = x := by rw [hn, Int.toNat_natCast] at v3; rw [← v3, h3]
          rw [at_, this, hn, Int.toNat_natCast] at h5; exact h5
      · rcases top_split hk32 h3 with h6 | h6
        · exact .inr (.inl ⟨h1, h2, h6, by omega, h5⟩)
        · exact .inr (.inr ⟨h1, h2, h6, by omega, h5⟩)
theorem adds_srt (p : Pf) (o : Option Int) : Srt (adds p o) := by unfold adds; split <;> simp
theorem sub_srt (E : Nat → Nat → Option Int) : ∀ (f x k : Nat), k + f = 32 → top x k = x → x < 4294967296 → Srt (sub E f x k)
  | 0, x, k, _, _, _ => by rw [sub]; exact adds_srt _ _
  | f + 1, x, k, hk, hx, hl => by
    have hk32 : k < 32 := by omega
    have t0 := kid_top hk32 hx (bit := 0) (by omega)
    have t1 := kid_top hk32 hx (bit := 1) (by omega)
    have m0 := sub_mem E f _ _ (by omega) t0.1 (kid_lt hk32 hx (by omega) hl)
    have m1 := sub_mem E f _ _ (by omega) t1.1 (kid_lt hk32 hx (by omega) hl)
    have hp : 0 < 2 ^ (31 - k) := Nat.two_pow_pos _
    have hlt : kidA x k 0 < kidA x k 1 := by unfold kidA; omega
    rw [sub]
    refine List.pairwise_append.2 ⟨adds_srt _ _, List.pairwise_append.2 ⟨sub_srt E f _ _ (by omega) t0.1 (kid_lt hk32 hx (by omega) hl), sub_srt E f _ _ (by omega) t1.1 (kid_lt hk32 hx (by omega) hl), fun a ha b hb => ?_⟩, fun a ha b hb => ?_⟩
    · obtain ⟨_, _, a3, _, _⟩ := (m0 a).1 ha
      obtain ⟨_, _, b3, _, _⟩ := (m1 b).1 hb
      refine .inl ?_
      rcases Nat.lt_or_ge a.p.a b.p.a with h | h
      · exact h
      · have := top_mono (c := k + 1) h
        omega
    · obtain ⟨a1, _⟩ := adds_mem.1 ha
      have hb' : ∃ bit, bit < 2 ∧ top b.p.a (k + 1) = kidA x k bit ∧ ((k + 1 : Nat) : Int) ≤ b.p.n := by
        rcases List.mem_append.1 hb with hb | hb
        · obtain ⟨_, _, b3, b4, _⟩ := (m0 b).1 hb
          exact ⟨0, by omega, b3, b4⟩
        · obtain ⟨_, _, b3, b4, _⟩ := (m1 b).1 hb
          exact ⟨1, by omega, b3, b4⟩
      obtain ⟨bit, hbit, h3, h4⟩ := hb'
      have h5 : top b.p.a k = x := by rw [← top_top b.p.a (j := k) (k := k + 1) (by omega) (by omega), h3, (kid_top hk32 hx hbit).2]
      have h6 := top_le b.p.a k
      rw [a1]
      unfold pLt
      simp only
      omega
theorem sub_eq {E : Nat → Nat → Option Int} {S : List En} (h : Rep E S) {f x k : Nat} (hk : k + f = 32) (hx : top x k = x) (hl : x < 4294967296) : sub E f x k = S.filter (underB x k) := by
  refine srt_eq (sub_srt E f x k hk hx hl) (h.srt.filter _) fun e => ?_
  rw [sub_mem E f x k hk hx hl, List.mem_filter, underB, Bool.and_eq_true, decide_eq_true_eq, decide_eq_true_eq]
  constructor
  · rintro ⟨h1, h2, h3, h4, h5⟩
    exact ⟨(h.mem e h1 h2).2 h5, h3, h4⟩
  · rintro ⟨h1, h3, h4⟩
    obtain ⟨h5, h6⟩ := h.ok e h1
    exact ⟨h5, h6, h3, h4, (h.mem e h5 h6).1 h1⟩
theorem underL_eq {E : Nat → Nat → Option Int} {S : List En} (h : Rep E S) {p : Pf} (hp : p.valid = true) (ha : p.a < 4294967296) : underL E p = S.filter (underB p.a p.n.toNat) := by
  obtain ⟨v1, v2, v3⟩ := Pf.valid_iff.1 hp
  rw [underL, if_pos hp, sub_eq h (by omega) v3 ha]
theorem underL_all {E : Nat → Nat → Option Int} {S : List En} (h : Rep E S) : underL E ⟨0, 0⟩ = S := by
  rw [underL_eq h (by decide) (by decide)]
  refine List.filter_eq_self.2 fun e he => ?_
  obtain ⟨h1, h2⟩ := h.ok e he
  obtain ⟨v1, _, _⟩ := Pf.valid_iff.1 h1
  rw [underB, Bool.and_eq_true, decide_eq_true_eq, decide_eq_true_eq]
  exact ⟨top_zero _ h2, by simpa using v1⟩
end Go.Proofs.Ytkdjbddjblahkaa

/-
  Layer 6 (trie): the reference's prefixes: Valid, Make, Contains; the chapter's example.
  Conditions: addresses are below 2^32.
-/
namespace Go.Proofs.Ytkdjbddjblahkaa
open Go.RowKit

instance eqPf (a b n m : Int) : TEqv Try.prog 28 (.agg #[.int .u32 a, .int .i64 n]) (.agg #[.int .u32 b, .int .i64 m]) (decide (a = b ∧ n = m)) := ⟨fun w => by
  have u3 := Try.underlying3
  have a3 := Try.isAgg3
  have u4 := Try.underlying24
  have a4 : ∀ w, (isAgg 24).run Try.prog w = .ok false w := fun _ => by kernel_rfl
  have hS : Try.prog.underlying 28 = some (.struct (Try.prog.fieldsOf 28)) := by kernel_rfl
  show (Op.equalIn (9999 + 1) 28 _ _).run _ _ = _
  rw [run_equalIn_agg w 9999 28 _ _ hS (by kernel_rfl)]
  simp only [Program.fieldsOf, Try.underlying28]
  go_simp
  by_cases h1 : a = b <;> by_cases h2 : n = m <;> simp [h1, h2], by kernel_rfl⟩
instance eqEn (a b n m x y : Int) : TEqv Try.prog 76 (.agg #[.int .u32 a, .int .i64 n, .int .i64 x]) (.agg #[.int .u32 b, .int .i64 m, .int .i64 y]) (decide (a = b ∧ n = m ∧ x = y)) := ⟨fun w => by
  have u3 := Try.underlying3
  have a3 := Try.isAgg3
  have u4 := Try.underlying24
  have a4 : ∀ w, (isAgg 24).run Try.prog w = .ok false w := fun _ => by kernel_rfl
  have hS : Try.prog.underlying 28 = some (.struct (Try.prog.fieldsOf 28)) := by kernel_rfl
  have hS2 : Try.prog.underlying 76 = some (.struct (Try.prog.fieldsOf 76)) := by kernel_rfl
  have a5 : ∀ w, (isAgg 28).run Try.prog w = .ok true w := fun _ => by kernel_rfl
  have z5 : Try.prog.cellsOf 28 = 2 := by kernel_rfl
  have hin : ∀ w, (Op.equalIn 9999 28 (.agg #[.int .u32 a, .int .i64 n]) (.agg #[.int .u32 b, .int .i64 m])).run Try.prog w = .ok (decide (a = b ∧ n = m)) w := fun w => by
    show (Op.equalIn (9998 + 1) 28 _ _).run _ _ = _
    rw [run_equalIn_agg w 9998 28 _ _ hS (by kernel_rfl)]
    simp only [Program.fieldsOf, Try.underlying28]
    go_simp
    by_cases h1 : a = b <;> by_cases h2 : n = m <;> simp [h1, h2]
  show (Op.equalIn (9999 + 1) 76 _ _).run _ _ = _
  rw [run_equalIn_agg w 9999 76 _ _ hS2 (by kernel_rfl)]
  simp only [Program.fieldsOf, Try.underlying76]
  go_simp
  by_cases h1 : a = b <;> by_cases h2 : n = m <;> by_cases h3 : x = y <;> simp [h1, h2, h3], by kernel_rfl⟩
theorem rvalid_v (p : Pf) (w : World) (ha : p.a < 4294967296) : Calls Try.prog 25 #[p.val] w (Ret (.bool p.valid) w) := by
  refine V_enter (vs := [_]) Try.func25 rfl Try.ntmps25 (Nat.le_of_ble_eq_true rfl) ?_
  repeat (first | refine Vx ?_ | (apply Ops_q; (case hon => exact Va); (case hd => rfl); (case hq => exact YlA)) | refine Vr ?_ | refine Vt ?_ | refine Vf ?_ | refine Vm ?_ | refine Ve ?_ | refine Vo ?_ | refine Vz ?_ | refine Vn ?_)
  (refine Ops_box (by exact Va) rfl rfl rfl ?_; intro w1 b1 n_b1; have k_b1 := n_b1.blk)
  repeat (first | refine Vx ?_ | (apply Ops_q; (case hon => exact Va); (case hd => rfl); (case hq => exact YlA)) | refine Vr ?_ | refine Vt ?_ | refine Vf ?_ | refine Vm ?_ | refine Ve ?_ | refine Vo ?_ | refine Vz ?_ | refine Vn ?_)
  refine Ops_split rfl rfl (fun h1 => ?_) (fun h1 => ?_)
  · repeat (first | refine Vx ?_ | (apply Ops_q; (case hon => exact Va); (case hd => rfl); (case hq => exact YlA)) | refine Vr ?_ | refine Vt ?_ | refine Vf ?_ | refine Vm ?_ | refine Ve ?_ | refine Vo ?_ | refine Vz ?_ | refine Vn ?_)
    refine Ops_split rfl rfl (fun h2 => ?_) (fun h2 => ?_)
    · repeat (first | refine Vx ?_ | (apply Ops_q; (case hon => exact Va); (case hd => rfl); (case hq => exact YlA)) | refine Vr ?_ | refine Vt ?_ | refine Vf ?_ | refine Vm ?_ | refine Ve ?_ | refine Vo ?_ | refine Vz ?_ | refine Vn ?_)
      (apply Ops_q; (case hon => (exact Va)); (case hd => rfl); (case hq => exact Yl_call rfl (fun w_ e_ => keepR_v p.a p.n w_ ha)))
      repeat (first | refine Vx ?_ | (apply Ops_q; (case hon => exact Va); (case hd => rfl); (case hq => exact YlA)) | refine Vr ?_ | refine Vt ?_ | refine Vf ?_ | refine Vm ?_ | refine Ve ?_ | refine Vo ?_ | refine Vz ?_ | refine Vn ?_)
      refine ret1 (by first | exact .inl rfl | exact .inr rfl) rfl rfl ?_
      refine Ret_mk ?_ n_b1.ext
      rw [Pf.valid, h1, h2, Bool.true_and, Bool.true_and, castEq, lowN_in (of_decide_eq_true h1) (of_decide_eq_true h2)]
    · repeat (first | refine Vx ?_ | (apply Ops_q; (case hon => exact Va); (case hd => rfl); (case hq => exact YlA)) | refine Vr ?_ | refine Vt ?_ | refine Vf ?_ | refine Vm ?_ | refine Ve ?_ | refine Vo ?_ | refine Vz ?_ | refine Vn ?_)
      refine ret1 (by first | exact .inl rfl | exact .inr rfl) rfl rfl ?_
      exact Ret_mk (by rw [Pf.valid, h1, h2]; rfl) n_b1.ext
  · repeat (first | refine Vx ?_ | (apply Ops_q; (case hon => exact Va); (case hd => rfl); (case hq => exact YlA)) | refine Vr ?_ | refine Vt ?_ | refine Vf ?_ | refine Vm ?_ | refine Ve ?_ | refine Vo ?_ | refine Vz ?_ | refine Vn ?_)
    refine ret1 (by first | exact .inl rfl | exact .inr rfl) rfl rfl ?_
    exact Ret_mk (by rw [Pf.valid, h1]; rfl) n_b1.ext
theorem rmake_v (a : Nat) (n : Int) (w : World) (ha : a < 4294967296) : Calls Try.prog 62 #[.int .u32 a, .int .i64 n] w (Ret (Pf.of a n).val w) := by
  refine V_enter (vs := [_, _]) Try.func62 rfl Try.ntmps62 (Nat.le_of_ble_eq_true rfl) ?_
  repeat (first | refine Vx ?_ | (apply Ops_q; (case hon => exact Va); (case hd => rfl); (case hq => exact YlA)) | refine Vr ?_ | refine Vt ?_ | refine Vf ?_ | refine Vm ?_ | refine Ve ?_ | refine Vo ?_ | refine Vz ?_ | refine Vn ?_)
  (refine Ops_alloc (by exact Va) rfl ?_; intro w1 b1 n_b1; have k_b1 := n_b1.blk)
  repeat (first | refine Vx ?_ | (apply Ops_q; (case hon => exact Va); (case hd => rfl); (case hq => exact YlA)) | refine Vr ?_ | refine Vt ?_ | refine Vf ?_ | refine Vm ?_ | refine Ve ?_ | refine Vo ?_ | refine Vz ?_ | refine Vn ?_)
  (apply Ops_q; (case hon => (exact Va)); (case hd => rfl); (case hq => exact Yl_call rfl (fun w_ e_ => keepR_v a n w_ ha)))
  repeat (first | refine Vx ?_ | (apply Ops_q; (case hon => exact Va); (case hd => rfl); (case hq => exact YlA)) | refine Vr ?_ | refine Vt ?_ | refine Vf ?_ | refine Vm ?_ | refine Ve ?_ | refine Vo ?_ | refine Vz ?_ | refine Vn ?_)
  (refine Ops_store (by exact Va) rfl rfl (by assumption) (by first | rfl | exact OneAll.h) ?_; intro w2 u_w2; have k_b1 := u_w2.blk)
  have e2 := u_w2.below n_b1.ext n_b1.ge
  repeat (first | refine Vx ?_ | (apply Ops_q; (case hon => exact Va); (case hd => rfl); (case hq => exact YlA)) | refine Vr ?_ | refine Vt ?_ | refine Vf ?_ | refine Vm ?_ | refine Ve ?_ | refine Vo ?_ | refine Vz ?_ | refine Vn ?_)
  refine retR1 (by first | exact .inl rfl | exact .inr rfl) rfl (res_agg rfl k_b1.cells) ?_
  exact Ret_mk rfl e2
/-- The address lies in the prefix. -/
def Pf.has (p : Pf) (a : Nat) : Bool := p.valid && decide (top a p.n.toNat = p.a)
theorem contains_v (p : Pf) (a : Nat) (w : World) (hp : p.a < 4294967296) (ha : a < 4294967296) : Calls Try.prog 46 #[p.val, .int .u32 a] w (Ret (.bool (p.has a)) w) := by
  refine V_enter (vs := [_, _]) Try.func46 rfl Try.ntmps46 (Nat.le_of_ble_eq_true rfl) ?_
  repeat (first | refine Vx ?_ | (apply Ops_q; (case hon => exact Va); (case hd => rfl); (case hq => exact YlA)) | refine Vr ?_ | refine Vt ?_ | refine Vf ?_ | refine Vm ?_ | refine Ve ?_ | refine Vo ?_ | refine Vz ?_ | refine Vn ?_)
  (refine Ops_box (by exact Va) rfl rfl rfl ?_; intro w1 b1 n_b1; have k_b1 := n_b1.blk)
  repeat (first | refine Vx ?_ | (apply Ops_q; (case hon => exact Va); (case hd => rfl); (case hq => exact YlA)) | refine Vr ?_ | refine Vt ?_ | refine Vf ?_ | refine Vm ?_ | refine Ve ?_ | refine Vo ?_ | refine Vz ?_ | refine Vn ?_)
  (apply Ops_q; (case hon => (exact Va)); (case hd => rfl); (case hq => exact Yl_call rfl (fun w_ e_ => rvalid_v p w_ hp)))
  repeat (first | refine Vx ?_ | (apply Ops_q; (case hon => exact Va); (case hd => rfl); (case hq => exact YlA)) | refine Vr ?_ | refine Vt ?_ | refine Vf ?_ | refine Vm ?_ | refine Ve ?_ | refine Vo ?_ | refine Vz ?_ | refine Vn ?_)
  cases hv : p.valid with
  | false =>
    repeat (first | refine Vx ?_ | (apply Ops_q; (case hon => exact Va); (case hd => rfl); (case hq => exact YlA)) | refine Vr ?_ | refine Vt ?_ | refine Vf ?_ | refine Vm ?_ | refine Ve ?_ | refine Vo ?_ | refine Vz ?_ | refine Vn ?_)
    refine ret1 (by first | exact .inl rfl | exact .inr rfl) rfl rfl ?_
    exact Ret_mk (by rw [Pf.has, hv]; rfl) n_b1.ext
  | true =>
    obtain ⟨v1, v2, v3⟩ := Pf.valid_iff.1 hv
    repeat (first | refine Vx ?_ | (apply Ops_q; (case hon => exact Va); (case hd => rfl); (case hq => exact YlA)) | refine Vr ?_ | refine Vt ?_ | refine Vf ?_ | refine Vm ?_ | refine Ve ?_ | refine Vo ?_ | refine Vz ?_ | refine Vn ?_)
    (apply Ops_q; (case hon => (exact Va)); (case hd => rfl); (case hq => exact Yl_call rfl (fun w_ e_ => rmake_v a p.n w_ ha)))
    repeat (first | refine Vx ?_ | (apply Ops_q; (case hon => exact Va); (case hd => rfl); (case hq => exact YlA)) | refine Vr ?_ | refine Vt ?_ | refine Vf ?_ | refine Vm ?_ | refine Ve ?_ | refine Vo ?_ | refine Vz ?_ | refine Vn ?_)
    refine ret1 (by first | exact .inl rfl | exact .inr rfl) rfl rfl ?_
    refine Ret_mk ?_ n_b1.ext
    rw [Pf.has, hv, Bool.true_and, Pf.of, lowN_in v1 v2]
    congr 1
    rw [← castEq]
    by_cases h : ((top a p.n.toNat : Nat) : Int) = (p.a : Int) <;> simp [h]
end Go.Proofs.Ytkdjbddjblahkaa

/-
  Layer 6 (trie): Compare, SameEntries; the order in which entries are put.
  Conditions: addresses are below 2^32.
-/
namespace Go.Proofs.Ytkdjbddjblahkaa
open Go.RowKit

def cmpP (p q : Pf) : Int := if pLt p q then -1 else if p = q then 0 else 1
theorem compare_v (p q : Pf) (w : World) : Calls Try.prog 80 #[p.val, q.val] w (Ret (.int .i64 (cmpP p q)) w) := by
  refine V_enter (vs := [_, _]) Try.func80 rfl Try.ntmps80 (Nat.le_of_ble_eq_true rfl) ?_
  repeat (first | refine Vx ?_ | (apply Ops_q; (case hon => exact Va); (case hd => rfl); (case hq => exact YlA)) | refine Vr ?_ | refine Vt ?_ | refine Vf ?_ | refine Vm ?_ | refine Ve ?_ | refine Vo ?_ | refine Vz ?_ | refine Vn ?_)
  (refine Ops_box (by exact Va) rfl rfl rfl ?_; intro w1 b1 n_b1; have k_b1 := n_b1.blk)
  repeat (first | refine Vx ?_ | (apply Ops_q; (case hon => exact Va); (case hd => rfl); (case hq => exact YlA)) | refine Vr ?_ | refine Vt ?_ | refine Vf ?_ | refine Vm ?_ | refine Ve ?_ | refine Vo ?_ | refine Vz ?_ | refine Vn ?_)
  (refine Ops_box (by exact Va) rfl rfl rfl ?_; intro w2 b2 n_b2; have k_b2 := n_b2.blk)
  replace k_b1 := k_b1.ext n_b2.ext
  have e2 := n_b1.ext.trans n_b2.ext
  repeat (first | refine Vx ?_ | (apply Ops_q; (case hon => exact Va); (case hd => rfl); (case hq => exact YlA)) | refine Vr ?_ | refine Vt ?_ | refine Vf ?_ | refine Vm ?_ | refine Ve ?_ | refine Vo ?_ | refine Vz ?_ | refine Vn ?_)
  refine V_cond rfl (fun h1 => ?_) (fun h1 => ?_)
  · have h1' : p.a ≠ q.a := by
      have : ¬((p.a : Int) = (q.a : Int)) := by simpa using h1
      omega
    have hne : p ≠ q := fun e => h1' (by rw [e])
    repeat (first | refine Vx ?_ | (apply Ops_q; (case hon => exact Va); (case hd => rfl); (case hq => exact YlA)) | refine Vr ?_ | refine Vt ?_ | refine Vf ?_ | refine Vm ?_ | refine Ve ?_ | refine Vo ?_ | refine Vz ?_ | refine Vn ?_)
    refine V_cond rfl (fun h2 => ?_) (fun h2 => ?_)
    · repeat (first | refine Vx ?_ | (apply Ops_q; (case hon => exact Va); (case hd => rfl); (case hq => exact YlA)) | refine Vr ?_ | refine Vt ?_ | refine Vf ?_ | refine Vm ?_ | refine Ve ?_ | refine Vo ?_ | refine Vz ?_ | refine Vn ?_)
      refine ret1 (by first | exact .inl rfl | exact .inr rfl) rfl rfl ?_
      refine Ret_mk ?_ e2
      have : p.a < q.a := by have := of_decide_eq_true h2; omega
      rw [cmpP, if_pos (.inl this)]
    · repeat (first | refine Vx ?_ | (apply Ops_q; (case hon => exact Va); (case hd => rfl); (case hq => exact YlA)) | refine Vr ?_ | refine Vt ?_ | refine Vf ?_ | refine Vm ?_ | refine Ve ?_ | refine Vo ?_ | refine Vz ?_ | refine Vn ?_)
      refine ret1 (by first | exact .inl rfl | exact .inr rfl) rfl rfl ?_
      refine Ret_mk ?_ e2
      have : ¬pLt p q := by have := of_decide_eq_false h2; unfold pLt; omega
      rw [cmpP, if_neg this, if_neg hne]
  · have h1' : p.a = q.a := by
      have : (p.a : Int) = (q.a : Int) := by simpa using h1
      omega
    repeat (first | refine Vx ?_ | (apply Ops_q; (case hon => exact Va); (case hd => rfl); (case hq => exact YlA)) | refine Vr ?_ | refine Vt ?_ | refine Vf ?_ | refine Vm ?_ | refine Ve ?_ | refine Vo ?_ | refine Vz ?_ | refine Vn ?_)
    refine V_cond rfl (fun h2 => ?_) (fun h2 => ?_)
    · repeat (first | refine Vx ?_ | (apply Ops_q; (case hon => exact Va); (case hd => rfl); (case hq => exact YlA)) | refine Vr ?_ | refine Vt ?_ | refine Vf ?_ | refine Vm ?_ | refine Ve ?_ | refine Vo ?_ | refine Vz ?_ | refine Vn ?_)
      refine ret1 (by first | exact .inl rfl | exact .inr rfl) rfl rfl ?_
      refine Ret_mk ?_ e2
      rw [cmpP, if_pos (.inr ⟨h1', of_decide_eq_true h2⟩)]
    · replace h2 := of_decide_eq_false h2
      have hnl : ¬pLt p q := by unfold pLt; omega
      repeat (first | refine Vx ?_ | (apply Ops_q; (case hon => exact Va); (case hd => rfl); (case hq => exact YlA)) | refine Vr ?_ | refine Vt ?_ | refine Vf ?_ | refine Vm ?_ | refine Ve ?_ | refine Vo ?_ | refine Vz ?_ | refine Vn ?_)
      refine V_cond rfl (fun h3 => ?_) (fun h3 => ?_)
      · repeat (first | refine Vx ?_ | (apply Ops_q; (case hon => exact Va); (case hd => rfl); (case hq => exact YlA)) | refine Vr ?_ | refine Vt ?_ | refine Vf ?_ | refine Vm ?_ | refine Ve ?_ | refine Vo ?_ | refine Vz ?_ | refine Vn ?_)
        refine ret1 (by first | exact .inl rfl | exact .inr rfl) rfl rfl ?_
        refine Ret_mk ?_ e2
        have hne : p ≠ q := fun e => by have := of_decide_eq_true h3; rw [e] at this; omega
        rw [cmpP, if_neg hnl, if_neg hne]
      · repeat (first | refine Vx ?_ | (apply Ops_q; (case hon => exact Va); (case hd => rfl); (case hq => exact YlA)) | refine Vr ?_ | refine Vt ?_ | refine Vf ?_ | refine Vm ?_ | refine Ve ?_ | refine Vo ?_ | refine Vz ?_ | refine Vn ?_)
        refine ret1 (by first | exact .inl rfl | exact .inr rfl) rfl rfl ?_
        refine Ret_mk ?_ e2
        have he : p = q := pf_eq h1' (by have := of_decide_eq_false h3; omega)
        rw [cmpP, if_neg hnl, if_pos he]
theorem eqEn_dec (x y : En) : decide ((x.p.a : Int) = (y.p.a : Int) ∧ x.p.n = y.p.n ∧ x.v = y.v) = decide (x = y) := by
  by_cases h : x = y
  · subst h; simp
  · rw [decide_eq_false h, decide_eq_false]
    rintro ⟨h1, h2, h3⟩
    refine h ?_
    have : x.p = y.p := pf_eq (by omega) h2
    cases x; cases y; simp_all
/-! ### Put in another order -/
theorem at_setE {E : Nat → Nat → Option Int} {p q : Pf} {v : Int} (hp : p.valid = true) (hq : q.valid = true) : at_ (setE E q v) p = if p = q then some v else at_ E p := by
  rw [at_, setE]
  by_cases h : p = q
  · rw [if_pos h, if_pos (by rw [h]; exact ⟨rfl, rfl⟩)]
  · rw [if_neg h, if_neg (fun h2 => h (at_inj hq hp h2))]
theorem keys_fold {p : Pf} (hp : p.valid = true) : ∀ (F : List En) (s : St), allOk F = true → (at_ (F.foldl putS s).1 p).isNone = ((at_ s.1 p).isNone && !F.any (fun x => decide (x.p = p)))
  | [], s, _ => by simp
  | x :: r, s, h => by
    unfold allOk at h
    rw [List.all_cons, Bool.and_eq_true] at h
    rw [List.foldl_cons, keys_fold hp r _ h.2, List.any_cons]
    unfold putS
    simp only
    rw [at_setE hp h.1]
    by_cases he : p = x.p
    · rw [if_pos he, decide_eq_true he.symm]; simp
    · rw [if_neg he, decide_eq_false (fun e => he e.symm)]; simp
theorem keys_of {F : List En} {p : Pf} (hp : p.valid = true) (hF : allOk F = true) : (at_ (ofS F).1 p).isNone = !F.any (fun x => decide (x.p = p)) := by
  have := keys_fold hp F St.zero hF
  unfold ofS
  rw [this]; rfl
/-- The first entries of each prefix. -/
def firstF (pr : List En) : List En → List En
  | [] => []
  | x :: r => (if pr.any (fun y => decide (y.p = x.p)) then [] else [x]) ++ firstF (pr ++ [x]) r
theorem firstF_append : ∀ (A pr B : List En), firstF pr (A ++ B) = firstF pr A ++ firstF (pr ++ A) B
  | [], pr, B => by simp [firstF]
  | x :: r, pr, B => by simp only [List.cons_append, firstF, firstF_append r (pr ++ [x]) B, List.append_assoc, List.nil_append]
def firsts (F : List En) : List En := firstF [] F
theorem firsts_snoc (F : List En) (x : En) : firsts (F ++ [x]) = firsts F ++ (if F.any (fun y => decide (y.p = x.p)) then [] else [x]) := by
  unfold firsts
  rw [firstF_append]
  simp [firstF]
theorem ofS_snoc' (F : List En) (x : En) : ofS (F ++ [x]) = putS (ofS F) x := by
  unfold ofS
  rw [List.foldl_append]; rfl
theorem en_ind {P : List En → Prop} (h0 : P []) (h1 : ∀ L x, P L → P (L ++ [x])) (L : List En) : P L := by
  have : ∀ M : List En, P M.reverse := fun M => by
    induction M with
    | nil => exact h0
    | cons x r ih => rw [List.reverse_cons]; exact h1 _ _ ih
  simpa using this L.reverse
theorem allOk_snoc {F : List En} {x : En} (h : allOk (F ++ [x]) = true) : allOk F = true ∧ x.p.valid = true := by
  unfold allOk at *
  rw [List.all_append, Bool.and_eq_true] at h
  simpa using h
theorem firsts_spec (F : List En) : allOk F = true → ((ofS F).2 = (firsts F).length ∧ (∀ e ∈ firsts F, e ∈ F) ∧ ∀ p : Pf, (firsts F).any (fun x => decide (x.p = p)) = F.any (fun x => decide (x.p = p))) := by
  induction F using en_ind with
  | h0 => exact fun _ => ⟨rfl, fun e h => by simp [firsts, firstF] at h, fun p => rfl⟩
  | h1 F x ih =>
    intro h
    obtain ⟨h1, h2⟩ := allOk_snoc h
    obtain ⟨i1, i2, i3⟩ := ih h1
    have hk := keys_of h2 h1
    rw [firsts_snoc, ofS_snoc', putS]
    simp only [hk, i1]
    cases ha : F.any (fun y => decide (y.p = x.p)) with
    | true =>
      simp only [if_true, List.append_nil, Bool.not_true, Bool.false_eq_true, if_false]
      refine ⟨trivial, fun e he => List.mem_append_left _ (i2 e he), fun p => ?_⟩
      rw [i3 p, List.any_append]
      simp only [List.any_cons, List.any_nil, Bool.or_false]
      by_cases hp : x.p = p
      · subst hp; rw [ha]; rfl
      · rw [decide_eq_false hp, Bool.or_false]
    | false =>
      simp only [Bool.false_eq_true, if_false, Bool.not_false, if_true]
      refine ⟨by simp, fun e he => ?_, fun p => ?_⟩
      · rcases List.mem_append.1 he with he | he
        · exact List.mem_append_left _ (i2 e he)
        · exact List.mem_append_right _ he
      · rw [List.any_append, List.any_append, i3 p]
theorem same_fold {E : Nat → Nat → Option Int} {p : Pf} (hp : p.valid = true) : ∀ (G : List En) (s : St), allOk G = true → (∀ e ∈ G, at_ E e.p = some e.v) → at_ (G.foldl putS s).1 p = if G.any (fun x => decide (x.p = p)) then at_ E p else at_ s.1 p
  | [], s, _, _ => by simp
  | x :: r, s, h, hE => by
    unfold allOk at h
    rw [List.all_cons, Bool.and_eq_true] at h
    rw [List.foldl_cons, same_fold hp r _ h.2 (fun e he => hE e (List.mem_cons_of_mem _ he)), List.any_cons]
    unfold putS
    simp only
    rw [at_setE hp h.1]
    by_cases he : p = x.p
    · have := hE x (List.mem_cons_self ..)
      rw [← he] at this
      rw [if_pos he, decide_eq_true he.symm, this]
      simp
    · rw [if_neg he, decide_eq_false (fun e => he e.symm)]; simp
/-- An entry with the value that E has. -/
def now (E : Nat → Nat → Option Int) (e : En) : En := ⟨e.p, (getV E e.p).getD 0⟩
theorem order_same {F : List En} (hF : allOk F = true) (ha : ∀ e ∈ F, e.p.a < 4294967296) (G : List En) (hG : G = (firsts F).reverse.map (now (ofS F).1)) : allOk G = true ∧ srtL G = srtL F := by
  obtain ⟨_, s2, s3⟩ := firsts_spec F hF
  have hval : ∀ e ∈ F, e.p.valid = true := fun e he => List.all_eq_true.1 hF e he
  have hm : ∀ e ∈ G, ∃ x ∈ firsts F, e = now (ofS F).1 x := fun e he => by
    rw [hG] at he
    obtain ⟨x, hx, rfl⟩ := List.mem_map.1 he
    exact ⟨x, List.mem_reverse.1 hx, rfl⟩
  have hok : allOk G = true := List.all_eq_true.2 fun e he => by
    obtain ⟨x, hx, rfl⟩ := hm e he
    exact hval x (s2 x hx)
  have haG : ∀ e ∈ G, e.p.a < 4294967296 := fun e he => by
    obtain ⟨x, hx, rfl⟩ := hm e he
    exact ha x (s2 x hx)
  have hE : ∀ e ∈ G, at_ (ofS F).1 e.p = some e.v := fun e he => by
    obtain ⟨x, hx, rfl⟩ := hm e he
    have hv := hval x (s2 x hx)
    have hk := keys_of hv hF
    have : F.any (fun y => decide (y.p = x.p)) = true := List.any_eq_true.2 ⟨x, s2 x hx, decide_eq_true rfl⟩
    rw [this] at hk
    show at_ (ofS F).1 x.p = some ((getV (ofS F).1 x.p).getD 0)
    rw [getV, if_pos hv]
    cases hat : at_ (ofS F).1 x.p with
    | none => rw [hat] at hk; cases hk
    | some v => rfl
  have hany : ∀ p : Pf, G.any (fun x => decide (x.p = p)) = F.any (fun x => decide (x.p = p)) := fun p => by
    rw [← s3 p, hG, List.any_map, List.any_reverse]
    rfl
  obtain ⟨r1, _⟩ := rep_of F hF ha
  obtain ⟨r2, _⟩ := rep_of G hok haG
  refine ⟨hok, srt_eq r2.srt r1.srt fun e => ?_⟩
  have key : ∀ p : Pf, p.valid = true → at_ (ofS G).1 p = at_ (ofS F).1 p := fun p hp => by
    have h1 := same_fold hp G St.zero hok hE
    have h2 := keys_of hp hF
    rw [← hany p] at h2
    unfold ofS at h1 h2 ⊢
    rw [h1]
    cases hg : G.any (fun x => decide (x.p = p)) with
    | true => rfl
    | false =>
      rw [hg] at h2
      cases hat : at_ (List.foldl putS St.zero F).fst p with
      | none => rfl
      | some v => rw [hat] at h2; cases h2
  constructor
  · intro he
    obtain ⟨h1, h2⟩ := r2.ok e he
    have := (r2.mem e h1 h2).1 he
    rw [key e.p h1] at this
    exact (r1.mem e h1 h2).2 this
  · intro he
    obtain ⟨h1, h2⟩ := r1.ok e he
    have := (r1.mem e h1 h2).1 he
    rw [← key e.p h1] at this
    exact (r2.mem e h1 h2).2 this
end Go.Proofs.Ytkdjbddjblahkaa

/-
  Tables (layer 7): Compare, Contains, Covers of package prefix; Check and Lookup, of the program and of the reference.
  Conditions: the list is not too long for a machine.
-/
namespace Go.Proofs.Ytkdjbddjblahkaa
open Go.RowKit

theorem compareP_v (p q : Pf) (w : World) : Calls Try.prog 71 #[p.val, q.val] w (Ret (.int .i64 (cmpP p q)) w) := by
  refine V_enter (vs := [_, _]) Try.func71 rfl Try.ntmps71 (Nat.le_of_ble_eq_true rfl) ?_
  repeat (first | refine Vx ?_ | (apply Ops_q; (case hon => exact Va); (case hd => rfl); (case hq => exact YlA)) | refine Vr ?_ | refine Vt ?_ | refine Vf ?_ | refine Vm ?_ | refine Ve ?_ | refine Vo ?_ | refine Vz ?_ | refine Vn ?_)
  (refine Ops_box (by exact Va) rfl rfl rfl ?_; intro w1 b1 n_b1; have k_b1 := n_b1.blk)
  repeat (first | refine Vx ?_ | (apply Ops_q; (case hon => exact Va); (case hd => rfl); (case hq => exact YlA)) | refine Vr ?_ | refine Vt ?_ | refine Vf ?_ | refine Vm ?_ | refine Ve ?_ | refine Vo ?_ | refine Vz ?_ | refine Vn ?_)
  (refine Ops_box (by exact Va) rfl rfl rfl ?_; intro w2 b2 n_b2; have k_b2 := n_b2.blk)
  replace k_b1 := k_b1.ext n_b2.ext
  have e2 := n_b1.ext.trans n_b2.ext
  repeat (first | refine Vx ?_ | (apply Ops_q; (case hon => exact Va); (case hd => rfl); (case hq => exact YlA)) | refine Vr ?_ | refine Vt ?_ | refine Vf ?_ | refine Vm ?_ | refine Ve ?_ | refine Vo ?_ | refine Vz ?_ | refine Vn ?_)
  refine Ops_split rfl rfl (fun h1 => ?_) (fun h1 => ?_)
  · replace h1 := of_decide_eq_true h1
    repeat (first | refine Vx ?_ | (apply Ops_q; (case hon => exact Va); (case hd => rfl); (case hq => exact YlA)) | refine Vr ?_ | refine Vt ?_ | refine Vf ?_ | refine Vm ?_ | refine Ve ?_ | refine Vo ?_ | refine Vz ?_ | refine Vn ?_)
    refine ret1 (by first | exact .inl rfl | exact .inr rfl) rfl rfl ?_
    exact Ret_mk (by rw [cmpP, if_pos (.inl (by omega))]) e2
  replace h1 := of_decide_eq_false h1
  repeat (first | refine Vx ?_ | (apply Ops_q; (case hon => exact Va); (case hd => rfl); (case hq => exact YlA)) | refine Vr ?_ | refine Vt ?_ | refine Vf ?_ | refine Vm ?_ | refine Ve ?_ | refine Vo ?_ | refine Vz ?_ | refine Vn ?_)
  refine Ops_split rfl rfl (fun h2 => ?_) (fun h2 => ?_)
  · replace h2 := of_decide_eq_true h2
    repeat (first | refine Vx ?_ | (apply Ops_q; (case hon => exact Va); (case hd => rfl); (case hq => exact YlA)) | refine Vr ?_ | refine Vt ?_ | refine Vf ?_ | refine Vm ?_ | refine Ve ?_ | refine Vo ?_ | refine Vz ?_ | refine Vn ?_)
    refine V_cond rfl (fun h3 => ?_) (fun h3 => ?_)
    · replace h3 := of_decide_eq_true h3
      repeat (first | refine Vx ?_ | (apply Ops_q; (case hon => exact Va); (case hd => rfl); (case hq => exact YlA)) | refine Vr ?_ | refine Vt ?_ | refine Vf ?_ | refine Vm ?_ | refine Ve ?_ | refine Vo ?_ | refine Vz ?_ | refine Vn ?_)
      refine ret1 (by first | exact .inl rfl | exact .inr rfl) rfl rfl ?_
      exact Ret_mk (by rw [cmpP, if_pos (.inr ⟨by omega, h3⟩)]) e2
    replace h3 := of_decide_eq_false h3
    have hnl : ¬pLt p q := by unfold pLt; omega
    repeat (first | refine Vx ?_ | (apply Ops_q; (case hon => exact Va); (case hd => rfl); (case hq => exact YlA)) | refine Vr ?_ | refine Vt ?_ | refine Vf ?_ | refine Vm ?_ | refine Ve ?_ | refine Vo ?_ | refine Vz ?_ | refine Vn ?_)
    refine V_cond rfl (fun h4 => ?_) (fun h4 => ?_)
    · have he : p = q := pf_eq (by omega) (by simp at h4; omega)
      repeat (first | refine Vx ?_ | (apply Ops_q; (case hon => exact Va); (case hd => rfl); (case hq => exact YlA)) | refine Vr ?_ | refine Vt ?_ | refine Vf ?_ | refine Vm ?_ | refine Ve ?_ | refine Vo ?_ | refine Vz ?_ | refine Vn ?_)
      refine ret1 (by first | exact .inl rfl | exact .inr rfl) rfl rfl ?_
      exact Ret_mk (by rw [cmpP, if_neg hnl, if_pos he]) e2
    · have he : p ≠ q := fun e => by subst e; simp at h4
      repeat (first | refine Vx ?_ | (apply Ops_q; (case hon => exact Va); (case hd => rfl); (case hq => exact YlA)) | refine Vr ?_ | refine Vt ?_ | refine Vf ?_ | refine Vm ?_ | refine Ve ?_ | refine Vo ?_ | refine Vz ?_ | refine Vn ?_)
      refine ret1 (by first | exact .inl rfl | exact .inr rfl) rfl rfl ?_
      exact Ret_mk (by rw [cmpP, if_neg hnl, if_neg he]) e2
  · replace h2 := of_decide_eq_false h2
    have hnl : ¬pLt p q := by unfold pLt; omega
    have he : p ≠ q := fun e => by subst e; exact h2 rfl
    repeat (first | refine Vx ?_ | (apply Ops_q; (case hon => exact Va); (case hd => rfl); (case hq => exact YlA)) | refine Vr ?_ | refine Vt ?_ | refine Vf ?_ | refine Vm ?_ | refine Ve ?_ | refine Vo ?_ | refine Vz ?_ | refine Vn ?_)
    refine V_cond rfl (fun h4 => ?_) (fun h4 => ?_)
    · exact absurd (by simp at h4; omega) h2
    · repeat (first | refine Vx ?_ | (apply Ops_q; (case hon => exact Va); (case hd => rfl); (case hq => exact YlA)) | refine Vr ?_ | refine Vt ?_ | refine Vf ?_ | refine Vm ?_ | refine Ve ?_ | refine Vo ?_ | refine Vz ?_ | refine Vn ?_)
      refine ret1 (by first | exact .inl rfl | exact .inr rfl) rfl rfl ?_
      exact Ret_mk (by rw [cmpP, if_neg hnl, if_neg he]) e2
/-- q lies in p. -/
def Pf.covers (p q : Pf) : Bool := q.valid && (decide (p.n ≤ q.n) && p.has q.a)
/-! ### Check -/
def chkF : Option Pf → List En → Int
  | _, [] => 0
  | pr, x :: l => if x.p.valid = false then 1 else if x.v < -1 then 5 else if (match pr with | none => false | some q => decide (0 ≤ cmpP q x.p)) = true then 16 else chkF (some x.p) l
def chk (L : List En) : Int := if 2000 < L.length then 4 else chkF none L
def prevP (L : List En) (k : Nat) : Option Pf := if k = 0 then none else (L[k - 1]?).map (·.p)
theorem chkF_at {L : List En} {k : Nat} {x : En} (hx : L[k]? = some x) : chkF (prevP L k) (L.drop k) =
    if x.p.valid = false then 1 else if x.v < -1 then 5 else if (match prevP L k with | none => false | some q => decide (0 ≤ cmpP q x.p)) = true then 16 else chkF (prevP L (k + 1)) (L.drop (k + 1)) := by
  have hk : k < L.length := (List.getElem?_eq_some_iff.1 hx).1
  have hd : L.drop k = x :: L.drop (k + 1) := by rw [List.drop_eq_getElem_cons hk, (List.getElem?_eq_some_iff.1 hx).2]
  have hp : prevP L (k + 1) = some x.p := by rw [prevP, if_neg (by omega), Nat.add_sub_cancel, hx]; rfl
  rw [hd, hp]
  cases prevP L k <;> rfl
/-! ### Lookup -/
def lkS (a : Nat) (s : Int × Int) (x : En) : Int × Int := if decide (s.2 < x.p.n) && x.p.has a then (x.v, x.p.n) else s
def lk (L : List En) (a : Nat) : Int := (L.foldl (lkS a) (-1, -1)).1
theorem lk_step {L : List En} {k : Nat} {x : En} (a : Nat) (hx : L[k]? = some x) : (L.take (k + 1)).foldl (lkS a) (-1, -1) = lkS a ((L.take k).foldl (lkS a) (-1, -1)) x := by
  rw [List.take_add_one, hx, List.foldl_append]; rfl
/-- What Lookup returns. -/
def lkT (L : List En) (a : Nat) : Int := if chk L = 0 then lk L a else -1
end Go.Proofs.Ytkdjbddjblahkaa

/-
  Loops over an iterator: the rule for the statement, for a round's body, for the iterator's call of yield; functions that hold such loops (each leaves a mark among the deferred calls).
  No conditions beyond those that each rule states.
-/
namespace Go.Proofs.Ytkdjbddjblahkaa
open Go.RowKit

/-! ### Book-keeping -/
def mark (D : Nat) : Deferred := { target := .collected D, args := #[] }
/-- The loop's record is block l, the block for the rounds' deferred calls is D. -/
structure Rec (w : World) (l D : Nat) (r : Loop) : Prop where
  lp : w.heap[l]? = some (.loop r)
  dfr : w.heap[D]? = some (.deferred (some []))
/-- Block l, which was a loop's record, has turned; whatever else there was stays. -/
def Turn (l : Nat) (w w' : World) : Prop := (∃ r, w.heap[l]? = some (.loop r)) ∧ Mod (fun c => c = l) w w'
section
variable {w w0 w1 w' : World} {l D b : Nat} {r : Loop} {t : TypeId} {cs : List Value} {S : Nat → Prop}
theorem Rec.ext (h : Rec w l D r) (he : Ext w w') : Rec w' l D r := ⟨he.blk h.lp, he.blk h.dfr⟩
theorem lt_some {o : Obj} {b : Nat} (h : w.heap[b]? = some o) : b < w.heap.size := (Array.getElem?_eq_some_iff.1 h).1
theorem Rec.mod (h : Rec w l D r) (hm : Mod S w w') (h1 : ¬S l) (h2 : ¬S D) : Rec w' l D r :=
  ⟨(hm.other l (lt_some h.lp) h1).trans h.lp, (hm.other D (lt_some h.dfr) h2).trans h.dfr⟩
theorem Rec.ne (h : Rec w l D r) (hB : Blk w b t cs) : l ≠ b ∧ D ≠ b := by
  unfold Blk at hB
  exact ⟨(fun e => by subst e; rw [h.lp] at hB; cases hB), (fun e => by subst e; rw [h.dfr] at hB; cases hB)⟩
theorem Rec.upd {cs' : List Value} (h : Rec w l D r) (hu : Upd w w1 b t cs) (hB : Blk w b t cs') : Rec w1 l D r :=
  ⟨(hu.other l (h.ne hB).1).trans h.lp, (hu.other D (h.ne hB).2).trans h.dfr⟩
theorem own_cells_at {base n0 : Nat} {e : TypeId} {v : Value} {L : List (List Value)} (ho : Own w base e n0 v L) (hb : v.ownBlock = some b) : ∃ cur, w.heap[b]? = some (.cells cur e) := by
  obtain ⟨_, ⟨h1, _⟩ | ⟨g, cap, cur, h1, h2, h3, _⟩⟩ := ho.row
  · subst h1; cases hb
  · subst h1; cases hb; exact ⟨cur, h3⟩
theorem Rec.grow {row : Option Nat} (h : Rec w l D r) (hg : w.grownBy w1 row) (hr : ∀ b, row = some b → ∃ cur t, w.heap[b]? = some (.cells cur t)) : Rec w1 l D r :=
  ⟨(hg.block l (lt_some h.lp) (fun e => by obtain ⟨cur, t, hc⟩ := hr l e.symm; rw [h.lp] at hc; cases hc)).trans h.lp,
   (hg.block D (lt_some h.dfr) (fun e => by obtain ⟨cur, t, hc⟩ := hr D e.symm; rw [h.dfr] at hc; cases hc)).trans h.dfr⟩
theorem Rec.own {base n0 : Nat} {e : TypeId} {v : Value} {L : List (List Value)} (h : Rec w l D r) (ho : Own w base e n0 v L) (hg : w.grownBy w1 v.ownBlock) : Rec w1 l D r :=
  h.grow hg (fun b hb => by obtain ⟨cur, hc⟩ := own_cells_at ho hb; exact ⟨cur, e, hc⟩)
theorem Turn.blk (h : Turn l w w') (hB : Blk w b t cs) : Blk w' b t cs := by
  obtain ⟨⟨r, hr⟩, hm⟩ := h
  exact hm.blk hB (fun e => by subst e; unfold Blk at hB; rw [hr] at hB; cases hB)
theorem Turn.own {base n0 : Nat} {e : TypeId} {v : Value} {L : List (List Value)} (h : Turn l w w') (ho : Own w base e n0 v L) : Own w' base e n0 v L := by
  obtain ⟨⟨r, hr⟩, hm⟩ := h
  exact hm.own ho (fun b hb e => by obtain ⟨cur, hc⟩ := own_cells_at ho hb; rw [e, hr] at hc; cases hc)
theorem Turn.ext (h : Turn l w w') (he : Ext w0 w) (hl : w0.heap.size ≤ l) : Ext w0 w' := h.2.ext_of he (fun c hc => by subst hc; exact hl)
theorem Turn.mod (h : Turn l w w') (hm : Mod S w0 w) (hl : w0.heap.size ≤ l) : Mod S w0 w' := hm.trans' h.2 (fun c hc => .inr (by omega))
theorem Turn.cells {a : Addr} {vs : List Value} (h : Turn l w w') (hc : Cells w a vs) (hne : vs ≠ []) : Cells w' a vs := by
  obtain ⟨⟨r, hr⟩, hm⟩ := h
  refine hm.cells hc (fun e => ?_)
  obtain ⟨u, us, rfl⟩ := List.exists_cons_of_ne_nil hne
  have h0 := hc 0 u rfl
  have hb' : (a.add 0).block = a.block := by unfold Addr.add; split <;> rfl
  unfold World.cell? at h0
  rw [hb', e, hr] at h0
  cases h0
theorem Turn.of_putObj {r : Loop} (h : w.heap[l]? = some (.loop r)) (o : Obj) : Turn l w (w.putObj l o) :=
  ⟨⟨r, h⟩, rfl, rfl, rfl, by simp, fun c _ hn => World.putObj_heap_other hn⟩
end

/-! ### Code that leaves marks -/
def liftD (n : Nat) (Q : Exit → List Nat → Env → World → Prop) : Exit → Act → World → Prop := fun e a w => ∃ Ds m w1, Q e Ds m w1 ∧ Agree ⟨n, Ds.map mark, none⟩ m a ∧ Ext w1 w
structure VD (P : Program) (n : Nat) (c : Code) (Q : Exit → List Nat → Env → World → Prop) (Ds : List Nat) (m : Env) (w : World) : Prop where
  out : ∀ a w', Agree ⟨n, Ds.map mark, none⟩ m a → Ext w w' → WpR none P c (liftD n Q) a w'
def thenD (K : List Nat → Env → World → Prop) (Q : Exit → List Nat → Env → World → Prop) : Exit → List Nat → Env → World → Prop
  | .normal, Ds, m, w => K Ds m w
  | e, Ds, m, w => Q e Ds m w
def blockD (id : Nat) (Q : Exit → List Nat → Env → World → Prop) : Exit → List Nat → Env → World → Prop
  | .exit id', Ds, m, w => if id' = id then Q .normal Ds m w else Q (.exit id') Ds m w
  | e, Ds, m, w => Q e Ds m w
section
variable {P : Program} {n : Nat} {Q : Exit → List Nat → Env → World → Prop} {Ds : List Nat} {m : Env} {w : World}
theorem VD_of {c : Code} (h : V P ⟨n, Ds.map mark, none⟩ c (fun e m w => Q e Ds m w) m w) : VD P n c Q Ds m w :=
  ⟨fun a w' ha hw => wpR_mono (fun _ _ _ ⟨m1, w1, q, ag, ex⟩ => ⟨Ds, m1, w1, q, ag, ex⟩) (h.out a w' ha hw)⟩
theorem VD_sub {c : Code} {m1 : Env} (hs : Sub m1 m) (h : VD P n c Q Ds m1 w) : VD P n c Q Ds m w := ⟨fun a w' ha hw => h.out a w' (ha.sub hs) hw⟩
theorem VD_seq {x y : Code} (h : V P ⟨n, Ds.map mark, none⟩ x (thenV (fun m w => VD P n y Q Ds m w) (fun e m w => Q e Ds m w)) m w) : VD P n (.seq x y) Q Ds m w :=
  ⟨fun a w' ha hw => wpIn_seq (wpR_mono (fun e a1 w1 hl => by
    obtain ⟨m1, w2, q, ag, ex⟩ := hl
    cases e with
    | normal => exact q.out a1 w1 ag ex
    | _ => exact ⟨Ds, m1, w2, q, ag, ex⟩) (h.out a w' ha hw))⟩
theorem VD_seqD {x y : Code} (h : VD P n x (thenD (fun Ds m w => VD P n y Q Ds m w) Q) Ds m w) : VD P n (.seq x y) Q Ds m w :=
  ⟨fun a w' ha hw => wpIn_seq (wpR_mono (fun e a1 w1 hl => by
    obtain ⟨Ds1, m1, w2, q, ag, ex⟩ := hl
    cases e with
    | normal => exact q.out a1 w1 ag ex
    | _ => exact ⟨Ds1, m1, w2, q, ag, ex⟩) (h.out a w' ha hw))⟩
theorem VD_block {id : Nat} {c : Code} (h : VD P n c (blockD id Q) Ds m w) : VD P n (.block id c) Q Ds m w :=
  ⟨fun a w' ha hw => wpIn_block (wpR_mono (fun e a1 w1 hl => by
    obtain ⟨Ds1, m1, w2, q, ag, ex⟩ := hl
    cases e with
    | exit id' =>
      by_cases e : id' = id
      · subst e; simp only [blockD, if_true] at q; simp only [Exit.inBlock, if_true]; exact ⟨Ds1, m1, w2, q, ag, ex⟩
      · simp only [blockD, e, if_false] at q; simp only [Exit.inBlock, e, if_false]; exact ⟨Ds1, m1, w2, q, ag, ex⟩
    | _ => exact ⟨Ds1, m1, w2, q, ag, ex⟩) (h.out a w' ha hw))⟩
theorem VD_loop {c : Code} {σ : Type} (e : σ → Env) (I : σ → List Nat → World → Prop) (μ : σ → Nat) (s0 : σ) (hs : Sub (e s0) m) (h0 : I s0 Ds w)
    (round : ∀ s Ds w, I s Ds w → VD P n c (thenD (fun Ds' m' w' => ∃ s', Sub (e s') m' ∧ I s' Ds' w' ∧ μ s' < μ s) Q) Ds (e s) w) : VD P n (.loop c) Q Ds m w := by
  refine ⟨fun a w' ha hw => ?_⟩
  refine wpIn_loop_ghost (fun k a1 w1 => ∃ s Ds w0, μ s = k ∧ Agree ⟨n, Ds.map mark, none⟩ (e s) a1 ∧ I s Ds w0 ∧ Ext w0 w1) (μ s0) ⟨s0, Ds, w, rfl, ha.sub hs, h0, hw⟩ ?_
  rintro k a1 w1 ⟨s, Ds1, w0, rfl, ag, hI, hE⟩
  refine wpR_mono (fun ex a2 w2 hl => ?_) ((round s Ds1 w0 hI).out a1 w1 ag hE)
  obtain ⟨Ds2, m2, w3, q, ag2, ex2⟩ := hl
  cases ex with
  | normal =>
    obtain ⟨s', hs', hI', hμ⟩ := q
    exact ⟨μ s', hμ, s', Ds2, w3, rfl, ag2.sub hs', hI', ex2⟩
  | _ => exact ⟨Ds2, m2, w3, q, ag2, ex2⟩
theorem thenD_normal {K : List Nat → Env → World → Prop} (h : K Ds m w) : thenD K Q .normal Ds m w := h
theorem thenD_ret {K : List Nat → Env → World → Prop} (h : Q .ret Ds m w) : thenD K Q .ret Ds m w := h
theorem thenD_exit {K : List Nat → Env → World → Prop} {id : Nat} (h : Q (.exit id) Ds m w) : thenD K Q (.exit id) Ds m w := h
theorem blockD_normal {id : Nat} (h : Q .normal Ds m w) : blockD id Q .normal Ds m w := h
theorem blockD_ret {id : Nat} (h : Q .ret Ds m w) : blockD id Q .ret Ds m w := h
theorem blockD_hit {id : Nat} (h : Q .normal Ds m w) : blockD id Q (.exit id) Ds m w := by simp only [blockD, if_true]; exact h
theorem blockD_miss {id id' : Nat} (hne : Nat.beq id' id = false) (h : Q (.exit id') Ds m w) : blockD id Q (.exit id') Ds m w := by
  have : id' ≠ id := fun e => by subst e; rw [Nat.beq_refl] at hne; cases hne
  simp only [blockD, this, if_false]; exact h

/-- The marks' blocks are as they were laid, and differ. -/
structure Marks (Ds : List Nat) (w : World) : Prop where
  nodup : Ds.Nodup
  at_ : ∀ D ∈ Ds, w.heap[D]? = some (.deferred (some []))
theorem Marks.nil : Marks [] w := ⟨List.nodup_nil, fun _ h => nomatch h⟩
theorem Marks.ext {w' : World} (h : Marks Ds w) (he : Ext w w') : Marks Ds w' := ⟨h.nodup, fun D hD => he.blk (h.at_ D hD)⟩
theorem Marks.mod {S : Nat → Prop} {w' : World} (h : Marks Ds w) (hm : Mod S w w') (hs : ∀ D ∈ Ds, ¬S D) : Marks Ds w' :=
  ⟨h.nodup, fun D hD => (hm.other D (lt_some (h.at_ D hD)) (hs D hD)).trans (h.at_ D hD)⟩
theorem Marks.upd {w1 : World} {b : Nat} {t : TypeId} {cs cs' : List Value} (h : Marks Ds w) (hu : Upd w w1 b t cs) (hB : Blk w b t cs') : Marks Ds w1 :=
  ⟨h.nodup, fun D hD => (hu.other D (fun e => by subst e; unfold Blk at hB; rw [h.at_ D hD] at hB; cases hB)).trans (h.at_ D hD)⟩
theorem Marks.grow {w1 : World} {row : Option Nat} (h : Marks Ds w) (hg : w.grownBy w1 row) (hr : ∀ b, row = some b → ∃ cur t, w.heap[b]? = some (.cells cur t)) : Marks Ds w1 :=
  ⟨h.nodup, fun D hD => (hg.block D (lt_some (h.at_ D hD)) (fun e => by obtain ⟨cur, t, hc⟩ := hr D e.symm; rw [h.at_ D hD] at hc; cases hc)).trans (h.at_ D hD)⟩
theorem Marks.own {w1 : World} {base n0 : Nat} {e : TypeId} {v : Value} {L : List (List Value)} (h : Marks Ds w) (ho : Own w base e n0 v L) (hg : w.grownBy w1 v.ownBlock) : Marks Ds w1 :=
  h.grow hg (fun b hb => by obtain ⟨cur, hc⟩ := own_cells_at ho hb; exact ⟨cur, e, hc⟩)
theorem Marks.turn {w1 : World} {l : Nat} (h : Marks Ds w) (ht : Turn l w w1) : Marks Ds w1 := by
  obtain ⟨⟨r, hr⟩, hm⟩ := ht
  exact h.mod hm (fun D hD e => by subst e; have := h.at_ D hD; rw [hr] at this; cases this)
theorem Marks.cons {D : Nat} (h : Marks Ds w) (hD : w.heap[D]? = some (.deferred (some []))) (hn : D ∉ Ds) : Marks (D :: Ds) w :=
  ⟨List.nodup_cons.2 ⟨hn, h.nodup⟩, fun E hE => by
    rcases List.mem_cons.1 hE with rfl | hE
    · exact hD
    · exact h.at_ E hE⟩

/-- Leaving: the marks are spent. -/
theorem leaves_marks {fn : Func} {tmps : Array Value} {R : Ending → World → Prop} : ∀ (Ds : List Nat) (w : World), Marks Ds w →
    (∀ w', Mod (fun c => c ∈ Ds) w w' → ∃ v, (results fn tmps).run P w' = .ok v w' ∧ R (.returned v) w') → LeavesInM (fenceR none) 0 P fn tmps R (Ds.map mark) .returning w
  | [], w, _, h => h w (Mod.of_ext (Ext.refl w))
  | D :: Ds, w, hM, h => by
    refine ⟨by simp, .inl ⟨D, _, rfl, run_takeDeferred (hM.at_ D (List.mem_cons_self ..)), ?_⟩⟩
    have hlt := lt_some (hM.at_ D (List.mem_cons_self ..))
    have hm : Mod (fun c => c ∈ D :: Ds) w (w.putObj D (.deferred none)) := ⟨rfl, rfl, rfl, by simp, fun c _ hn => World.putObj_heap_other (fun e => hn (by rw [e]; exact List.mem_cons_self ..))⟩
    refine leaves_marks Ds _ ⟨(List.nodup_cons.1 hM.nodup).2, fun E hE => ?_⟩ (fun w' hw' => h w' (hm.trans (hw'.mono (fun c hc => List.mem_cons_of_mem _ hc))))
    rw [World.putObj_heap_other (fun e => (List.nodup_cons.1 hM.nodup).1 (by rw [← e]; exact hE))]
    exact hM.at_ E (List.mem_cons_of_mem _ hE)
def retD (P : Program) (fn : Func) (n : Nat) (R : Ending → World → Prop) : Exit → List Nat → Env → World → Prop
  | .normal, Ds, m, w | .ret, Ds, m, w => Marks Ds w ∧ ∀ w', Mod (fun c => c ∈ Ds) w w' → ∃ v, (∀ a, Agree ⟨n, Ds.map mark, none⟩ m a → (results fn a.tmps).run P w' = .ok v w') ∧ R (.returned v) w'
  | _, _, _, _ => False
theorem VD_enter {f : FuncId} {fn : Func} {c : Code} {vs : List Value} {R : Ending → World → Prop} (hf : P.funcs[f]? = some fn) (hb : fn.body = some c) (hn : fn.ntmps = n) (hl : vs.length ≤ n)
    (h : VD P n c (retD P fn n R) [] (paramsFrom 0 vs) w) : Calls P f vs.toArray w R := by
  refine callsR_iff.1 (callsIn_of_wp_marks (F := fenceR none) (n := 0) hf hb trivial (wpR_mono (ro := none) (fun e a w' hq => ?_) (h.out _ w ⟨rfl, by simp [hn]; omega, fun i v hi => ?_⟩ (Ext.refl _))))
  · obtain ⟨Ds, m1, w1, q, ag, ex⟩ := hq
    have hd : a.defers = Ds.map mark := ag.defers
    have fin : (Marks Ds w1 ∧ ∀ w', Mod (fun c => c ∈ Ds) w1 w' → ∃ v, (∀ a, Agree ⟨n, Ds.map mark, none⟩ m1 a → (results fn a.tmps).run P w' = .ok v w') ∧ R (.returned v) w') → LeavesInM (fenceR none) 0 P fn a.tmps R a.defers .returning w' := fun ⟨h1, h2⟩ => by
      rw [hd]
      exact leaves_marks Ds w' (h1.ext ex) (fun w2 hw2 => by
        obtain ⟨v, h3, h4⟩ := h2 w2 ((Mod.of_ext ex).trans hw2)
        exact ⟨v, h3 a ag, h4⟩)
    cases e with
    | normal => exact fin q
    | ret => exact fin q
    | _ => exact q.elim
  · obtain ⟨_, h2⟩ := look_params vs 0 i v hi
    simp only [Nat.sub_zero] at h2
    have hlt : i < vs.length := by
      rcases Nat.lt_or_ge i vs.length with h3 | h3
      · exact h3
      · rw [List.getElem?_eq_none h3] at h2; cases h2
    rw [Array.getElem?_append_left (by simpa using hlt)]
    simpa using h2
theorem ret0D {fn : Func} {R : Ending → World → Prop} {e : Exit} (he : e = .ret ∨ e = .normal) (hr : fn.results = #[]) (hM : Marks Ds w) (hR : ∀ w', Mod (fun c => c ∈ Ds) w w' → R (.returned (.tuple #[])) w') : retD P fn n R e Ds m w := by
  have : Marks Ds w ∧ ∀ w', Mod (fun c => c ∈ Ds) w w' → ∃ v, (∀ a, Agree ⟨n, Ds.map mark, none⟩ m a → (results fn a.tmps).run P w' = .ok v w') ∧ R (.returned v) w' :=
    ⟨hM, fun w' hw => ⟨_, fun a _ => by rw [results_none hr], hR w' hw⟩⟩
  rcases he with rfl | rfl <;> exact this
end

/-! ### A round, out of the walk of its body -/
/-- How a round's body is left: off its end (I), or by a return of the function around it (Ix). -/
def roundV (l D : Nat) (r : Loop) (I Ix : World → Prop) : Exit → Env → World → Prop
  | .normal, _, w => Rec w l D r ∧ I w
  | .ret, _, w => Rec w l D r ∧ Ix w
  | _, _, _ => False
/-- What the iterator is told of a round. -/
def Rounds (K : Nat) (J : Nat → World → Prop) (Jx : World → Prop) (k : Nat) (e : Ending) (w' : World) : Prop := (e = .returned (.bool true) ∧ k < K ∧ J (k + 1) w') ∨ (e = .returned (.bool false) ∧ Jx w')
/-- An iterator that gives K elements: whatever invariant its caller keeps. -/
def Iter (P : Program) (gf : Nat) (lb : Array Value) (K : Nat) (vs : Nat → List Value) (B : World → Prop) : Prop :=
  ∀ (l : Nat) (J : Nat → World → Prop) (Jx : World → Prop) (W : World), (∀ k w w', J k w → Ext w w' → J k w') → (∀ w w', Jx w → Ext w w' → Jx w') → (∀ k w, J k w → B w) →
    (∀ k w, k < K → J k w → YieldAt (fenceR none) 0 P l (vs k).toArray w (Rounds K J Jx k)) → J 0 W →
    CallsIn (fenceR none) 0 P gf (#[.func (.yield l) #[] #[]] ++ lb) W (fun e w' => (∃ v, e = .returned v) ∧ (J K w' ∨ Jx w'))
/-- Slots filled, in order. -/
def fillP : List Tmp → List Value → Env → Env
  | p :: ps, v :: vs, m => fillP ps vs ((p, v) :: m)
  | _, _, m => m
theorem agree_fill {n : Nat} {ds : List Deferred} {ro : Option Nat} : ∀ (ps : List Tmp) (vs : List Value) (m : Env) (a : Act), Agree ⟨n, ds, ro⟩ m a → (∀ p ∈ ps, p < n) →
    Agree ⟨n, ds, ro⟩ (fillP ps vs m) { tmps := (ps.zip vs).foldl (fun t (p, v) => t.setIfInBounds p v) a.tmps, defers := a.defers }
  | [], _, _, _, h, _ => h
  | p :: ps, [], _, _, h, _ => h
  | p :: ps, v :: vs, m, a, h, hp => by
    have h1 : Agree ⟨n, ds, ro⟩ ((p, v) :: m) (a.put (some p) v) := h.put (hp p (List.mem_cons_self ..)) v
    exact agree_fill ps vs ((p, v) :: m) (a.put (some p) v) h1 (fun q hq => hp q (List.mem_cons_of_mem _ hq))

section
variable {P : Program} {n : Nat} {Q : Exit → List Nat → Env → World → Prop} {Ds : List Nat} {m : Env} {w : World}
/-- **The statement.** I k: what holds when k rounds are over; Ix: when a round has returned; s: what the assignment to the loop's variables has left (its slots e s, A k s of the world). -/
theorem VD_range {g : Operand} {ps : List Tmp} {assign body : Code} {gf : Nat} {lb : Array Value} {K : Nat} {vs : Nat → List Value} {B : World → Prop} {σ : Type}
    (hg : ev m g = some (.func (.func gf) #[] lb)) (eg : ∀ args w, (callFunc gf args).run P w = .ok (.enter gf args) w) (hit : Iter P gf lb K vs B)
    (hps : ∀ k, (vs k).length = ps.length) (hpn : ps.all (fun p => Nat.ble (p + 1) n) = true)
    (I : Nat → World → Prop) (Ix : World → Prop) (e : σ → Env) (A : Nat → σ → World → Prop)
    (hIe : ∀ k w1 w2, I k w1 → Ext w1 w2 → I k w2) (hIxe : ∀ w1 w2, Ix w1 → Ext w1 w2 → Ix w2) (hAe : ∀ k s w1 w2, A k s w1 → Ext w1 w2 → A k s w2)
    (hIt : ∀ l k w1 w2, w.heap.size ≤ l → I k w1 → Turn l w1 w2 → I k w2) (hIxt : ∀ l w1 w2, w.heap.size ≤ l → Ix w1 → Turn l w1 w2 → Ix w2) (hAt : ∀ l k s w1 w2, w.heap.size ≤ l → A k s w1 → Turn l w1 w2 → A k s w2)
    (hB : ∀ k w1, I k w1 → B w1) (h0 : I 0 w)
    (hassign : ∀ l D r k w1, k < K → w.heap.size ≤ l → I k w1 → Rec w1 l D r → V P ⟨n, [], some l⟩ assign (fun ex m2 w2 => ex = .normal ∧ Rec w2 l D r ∧ ∃ s, Sub (e s) m2 ∧ A k s w2) (fillP ps (vs k) m) w1)
    (hbody : ∀ l D r k s w1, k < K → w.heap.size ≤ l → A k s w1 → Rec w1 l D r → V P ⟨n, [], some l⟩ body (roundV l D r (I (k + 1)) Ix) (e s) w1)
    (hdone : ∀ D w1, w.heap.size ≤ D → I K w1 → w1.heap[D]? = some (.deferred (some [])) → Q .normal (D :: Ds) m w1)
    (hstop : ∀ D w1, w.heap.size ≤ D → Ix w1 → w1.heap[D]? = some (.deferred (some [])) → Q .ret (D :: Ds) m w1) :
    VD P n (.rangeFunc g ps.toArray assign body) Q Ds m w := by
  refine ⟨fun a w0 ha hw => ?_⟩
  have hle := hw.size
  refine wpIn_rangeFunc ?_
  intro fn hfn
  obtain ⟨rec, hrec⟩ : ∃ rec : LoopState → Option Code → Loop, rec = fun st pe => { state := st, pending := pe, fn, tmps := a.tmps, params := ps.toArray, assign, body, defers := w0.heap.size } := ⟨_, rfl⟩
  obtain ⟨W1, hW1⟩ : ∃ W1, (w0.alloc (.deferred (some []))).alloc (.loop (rec .ready none)) = W1 := ⟨_, rfl⟩
  have hx1 : Ext w0 W1 := by rw [← hW1]; exact ((Ext.refl w0).alloc _).alloc _
  have hL1 : W1.heap[w0.heap.size + 1]? = some (.loop (rec .ready none)) := by
    rw [← hW1]; have := alloc_heap (w0.alloc (.deferred (some []))) (.loop (rec .ready none)); rwa [alloc_size] at this
  have hK1 : W1.heap[w0.heap.size]? = some (.deferred (some [])) := by
    rw [← hW1]; exact ((Ext.refl (w0.alloc (.deferred (some [])))).alloc _).blk (alloc_heap w0 _)
  have hI1 : I 0 W1 := hIe 0 w W1 h0 (hw.trans hx1)
  have hll : w.heap.size ≤ w0.heap.size + 1 := by omega
  refine ⟨w0.heap.size + 1, [mark w0.heap.size], W1, { target := .fn (.func gf) lb, args := #[.func (.yield (w0.heap.size + 1)) #[] #[]] }, W1, gf,
    #[.func (.yield (w0.heap.size + 1)) #[] #[]] ++ lb, W1, ?_, ?_, fun _ _ => trivial, ?_, (fun h => by cases h), ?_⟩
  · rw [← hW1, hrec]; exact run_enterLoop_outer _ _ _ _ _
  · simp only [resolve, ha.ev hg]
    simp [go_sem]
  · simp [invoke, go_sem, eg]
  · have key := hit (w0.heap.size + 1) (fun k W => I k W ∧ Rec W (w0.heap.size + 1) w0.heap.size (rec .ready none)) (fun W => Ix W ∧ Rec W (w0.heap.size + 1) w0.heap.size (rec .done (some .ret))) W1
      (fun k w1 w2 h he => ⟨hIe k w1 w2 h.1 he, h.2.ext he⟩) (fun w1 w2 h he => ⟨hIxe w1 w2 h.1 he, h.2.ext he⟩) (fun k w1 h => hB k w1 h.1) ?_ ⟨hI1, hL1, hK1⟩
    · refine CallsIn.mono key ?_
      rintro ex W2 ⟨⟨v, rfl⟩, ⟨hi, hr⟩ | ⟨hi, hr⟩⟩
      · have hpl := run_endLoop (P := P) hr.lp (by rw [hrec]; simp)
        have ht := Turn.of_putObj hr.lp (.loop { rec .ready none with state := .exhausted })
        refine ⟨none, _, by rw [hrec] at hpl ⊢; exact hpl, w0.heap.size :: Ds, m, _, hdone w0.heap.size _ hle (hIt _ _ _ _ hll hi ht) ?_, ⟨?_, ha.size, ha.slot⟩, Ext.refl _⟩
        · rw [World.putObj_heap_other (by omega)]; exact hr.dfr
        · show [mark w0.heap.size] ++ a.defers = _
          rw [ha.defers]; rfl
      · have hpl := run_endLoop (P := P) hr.lp (by rw [hrec]; simp)
        have ht := Turn.of_putObj hr.lp (.loop { rec .done (some .ret) with state := .exhausted })
        refine ⟨some .ret, _, by rw [hrec] at hpl ⊢; exact hpl, wpIn_ret ⟨w0.heap.size :: Ds, m, _, hstop w0.heap.size _ hle (hIxt _ _ _ hll hi ht) ?_, ⟨?_, ha.size, ha.slot⟩, Ext.refl _⟩⟩
        · rw [World.putObj_heap_other (by omega)]; exact hr.dfr
        · show [mark w0.heap.size] ++ a.defers = _
          rw [ha.defers]; rfl
    · -- one round
      rintro k W hk ⟨hi, hr⟩
      have hy := run_yield (P := P) (args := (vs k).toArray) hr.lp (by rw [hrec]; simp [hps k])
      refine ⟨fn, (ps.zip (vs k)).foldl (fun t (p, v) => t.setIfInBounds p v) a.tmps, assign, body, ?_, roundIn_of_wpIn (F := fenceR none) trivial ?_⟩
      · rw [hrec] at hy
        rw [hy]
        simp
      have ag0 : Agree ⟨n, [], some (w0.heap.size + 1)⟩ (fillP ps (vs k) m) { tmps := (ps.zip (vs k)).foldl (fun t (p, v) => t.setIfInBounds p v) a.tmps, defers := [] } :=
        agree_fill (a := { tmps := a.tmps, defers := [] }) ps (vs k) m ⟨rfl, ha.size, ha.slot⟩ (fun p hp => Nat.le_of_ble_eq_true (List.all_eq_true.1 hpn p hp))
      refine wpIn_mono ((hassign _ _ _ k W hk hll hi hr).out _ W ag0 (Ext.refl W)) ?_
      rintro ex a1 w1 ⟨m1, w1', ⟨rfl, hr1, s, hs, hA⟩, ag1, hx⟩
      replace hr1 := hr1.ext hx
      replace hA := hAe _ _ _ _ hA hx
      have ht1 := Turn.of_putObj hr1.lp (.loop { rec .ready none with state := .busy })
      refine ⟨_, run_beginRound hr1.lp (by rw [hrec]), ?_⟩
      have hr2 : Rec (w1.putObj (w0.heap.size + 1) (.loop { rec .ready none with state := .busy })) (w0.heap.size + 1) w0.heap.size { rec .ready none with state := .busy } :=
        ⟨World.putObj_heap_same (lt_some hr1.lp), by rw [World.putObj_heap_other (by omega)]; exact hr1.dfr⟩
      refine wpIn_mono ((hbody _ _ _ k s _ hk hll (hAt _ _ _ _ _ hll hA ht1) hr2).out a1 _ (ag1.sub hs) (Ext.refl _)) ?_
      rintro ex a2 w2 ⟨m2, w2', hq, ag2, hx2⟩
      have fin : ∀ (jump : Option Code), Rec w2' (w0.heap.size + 1) w0.heap.size { rec .ready none with state := .busy } →
          (Instr.endRound (w0.heap.size + 1) jump).run P w2 = .ok (.bool jump.isNone) (w2.putObj (w0.heap.size + 1) (.loop (rec (if jump.isNone then .ready else .done) jump))) ∧
          Turn (w0.heap.size + 1) w2 (w2.putObj (w0.heap.size + 1) (.loop (rec (if jump.isNone then .ready else .done) jump))) ∧
          Rec (w2.putObj (w0.heap.size + 1) (.loop (rec (if jump.isNone then .ready else .done) jump))) (w0.heap.size + 1) w0.heap.size (rec (if jump.isNone then .ready else .done) jump) := fun jump hr3 => by
        have hr4 := hr3.ext hx2
        have h1 := run_endRound (P := P) jump hr4.lp
        rw [hrec] at h1 hr4 ⊢
        exact ⟨h1, Turn.of_putObj hr4.lp _, World.putObj_heap_same (lt_some hr4.lp), by rw [World.putObj_heap_other (by omega)]; exact hr4.dfr⟩
      cases ex with
      | normal =>
        obtain ⟨hr3, hi3⟩ := hq
        obtain ⟨h1, h2, h3⟩ := fin none hr3
        exact ⟨_, _, h1, .inl ⟨rfl, hk, hIt _ _ _ _ hll (hIe _ _ _ hi3 hx2) h2, h3⟩⟩
      | ret =>
        obtain ⟨hr3, hi3⟩ := hq
        obtain ⟨h1, h2, h3⟩ := fin (some .ret) hr3
        exact ⟨_, _, h1, .inr ⟨rfl, hIxt _ _ _ hll (hIxe _ _ hi3 hx2) h2, h3⟩⟩
      | _ => exact hq.elim
end

/-! ### The iterator's call of yield -/
section
variable {P : Program} {N : Fr} {Q : Exit → Env → World → Prop} {m : Env} {w : World}
theorem listIn_app {F : Fence} {n : Nat} {ops : Array Oper} {Q1 Q2 : Exit → Act → World → Prop} : ∀ (l1 l2 : List Oper) (a : Act) (w : World), wpListIn F n P ops (fun e a w => e = .normal ∧ Q1 .normal a w) l1 a w →
    (∀ a w, Q1 .normal a w → wpListIn F n P ops Q2 l2 a w) → wpListIn F n P ops Q2 (l1 ++ l2) a w
  | [], l2, a, w, h, k => k a w h.2
  | o :: r, l2, a, w, h, k => by
    rw [List.cons_append]
    unfold wpListIn at h ⊢
    split
    · rename_i hw
      rw [if_pos hw] at h
      obtain ⟨h1, h2⟩ := h
      refine ⟨h1, ?_⟩
      generalize (o.semAt F.round a.eval).run P w = res at *
      cases res with
      | ok x w' =>
        cases x <;> simp only [Oper.uponIn] at h2 ⊢
        case value => exact listIn_app r l2 _ _ h2 k
        case skip => exact listIn_app r l2 _ _ h2 k
        case defer => exact listIn_app r l2 _ _ h2 k
        case enter f args =>
          exact ⟨h2.1, h2.2.mono (fun e w'' he => by
            cases e with
            | returned v => exact listIn_app r l2 _ _ he k
            | panicked c => exact absurd he.1 (by simp)
            | outgrown => obtain ⟨_, _, he, _⟩ := he; cases he)⟩
        case row => exact ⟨h2.1, h2.2.mono (fun _ _ he => listIn_app r l2 _ _ he k)⟩
        case round =>
          exact ⟨h2.1, h2.2.mono (fun e w'' he => by
            cases e with
            | returned v => exact listIn_app r l2 _ _ he k
            | panicked c => exact absurd he.1 (by simp)
            | outgrown => obtain ⟨_, _, he, _⟩ := he; cases he)⟩
      | halt x w' => cases x <;> simp only [Oper.uponIn] at h2 ⊢ <;> first | exact absurd h2.1 (by simp) | exact h2
    · rename_i hw
      rw [if_neg hw] at h
      exact ⟨h.1, listIn_app r l2 _ _ h.2 k⟩
/-- A row of operations, the n-th of which calls yield; the first n are of the text's order. -/
theorem V_yield (n0 : Nat) {id : Nat} {l : List Oper} {dst : Nat} {t : Operand} {xs : Array Operand} {ats : Array TypeId} {ty : TypeId} {pos : String} {after : Array Edge} {ly : Nat} {vs : List Value} {R : Ending → World → Prop}
    (hl : l = l.take n0 ++ ⟨some dst, .call { callee := .value t, args := xs, argTypes := ats }, ty, pos, after, none⟩ :: l.drop (n0 + 1)) (hd : Nat.ble (dst + 1) N.n = true)
    (h : Ops P N l.toArray false (fun m1 w1 => ev m1 t = some (.func (.yield ly) #[] #[]) ∧ evs m1 xs.toList = some vs ∧ (∀ w2, Ext w1 w2 → YieldAt (fenceR none) 0 P ly vs.toArray w2 R) ∧
      (∀ e w2, R e w2 → ∃ v, e = .returned v ∧ Ops P N l.toArray false (fun m w => Q .normal m w) (l.drop (n0 + 1)) ((dst, v) :: m1) w2)) (l.take n0) m w)
    (hnd : NoDef N.ro l := by first | exact .inl rfl | exact .inr (by kernel_rfl)) : V P N (.region id l.toArray false) Q m w := by
  refine ⟨fun a w' ha hw => wpR_mono (Q := fun e a w => e = .normal ∧ lift N Q .normal a w) (fun e a w ⟨h1, h2⟩ => by rw [h1]; exact h2) ?_⟩
  refine wpIn_region_lit ?_
  have h1 : NoDef N.ro (l.take n0) := by
    rcases hnd with h | h
    · exact .inl h
    · exact .inr (List.all_eq_true.2 fun o ho => List.all_eq_true.1 h o (List.mem_of_mem_take ho))
  have h2 := listR (ops := l.toArray) noLet _ _ _ h1 (h.out a w' ha hw)
  generalize hL : l.toArray = A at *
  rw [hl]
  refine listIn_app (Q1 := fun _ a' w'' => ∃ m' w1, (ev m' t = some (.func (.yield ly) #[] #[]) ∧ evs m' xs.toList = some vs ∧ (∀ w2, Ext w1 w2 → YieldAt (fenceR none) 0 P ly vs.toArray w2 R) ∧
      (∀ e w2, R e w2 → ∃ v, e = .returned v ∧ Ops P N A false (fun m w => Q .normal m w) (l.drop (n0 + 1)) ((dst, v) :: m') w2)) ∧ Agree N m' a' ∧ Ext w1 w'') _ _ _ _ h2 ?_
  rintro a1 w1 ⟨m1, w0, ⟨ht, hx, hy, hk⟩, ag, ex⟩
  unfold wpListIn
  rw [if_pos (show Region.wanted _ _ = true from rfl)]
  refine ⟨fun _ _ => trivial, ?_⟩
  obtain ⟨fn, tmps, assign, body, hy1, hy2⟩ := hy w1 ex
  have e1 : xs.map a1.eval = vs.toArray := map_evs ag hx
  have hr : (execOp a1.eval ⟨some dst, .call { callee := .value t, args := xs, argTypes := ats }, ty, pos, after, none⟩).run P w1 = .ok (.round ly fn tmps assign body) w1 := by
    simp only [execOp, resolve, e1, ag.ev ht, Deferred.ofValue, invoke]
    simpa using hy1
  rw [show (fenceR N.ro).round = N.ro from rfl, Oper.semAt_eq _ _ _ (by simp), hr, Oper.uponIn_round]
  refine ⟨(fun h => by cases h), ?_⟩
  have hy3 : RoundIn (fenceR N.ro) 0 P ly fn tmps assign body w1 R := hy2
  refine hy3.mono (fun e w2 hR => ?_)
  obtain ⟨v, rfl, hO⟩ := hk e w2 hR
  have ho := hO.out (a1.put (some dst) v) w2 (ag.put (Nat.le_of_ble_eq_true hd) v) (Ext.refl _)
  have h3 := listR (ro := N.ro) (ops := A) noLet _ _ _ (hnd.drop _) ho
  have key : ∀ (l' : List Oper) (a : Act) (w0 : World), wpListIn (fenceR N.ro) 0 P A (fun e a' w'' => e = .normal ∧ ∃ m' w1, Q .normal m' w1 ∧ Agree N m' a' ∧ Ext w1 w'') l' a w0 → wpListIn (fenceR N.ro) 0 P A (fun e a w => e = .normal ∧ lift N Q .normal a w) l' a w0 := fun _ _ _ h => h
  exact key _ _ _ h3
end
end Go.Proofs.Ytkdjbddjblahkaa

/-
  More rules of the walk: parts of a slice; append of a slice that may be nil.
  No conditions beyond those that each rule states.
-/
namespace Go.Proofs.Ytkdjbddjblahkaa
open Go.RowKit

section
variable {w w' : World} {base n0 : Nat} {e : TypeId} {v : Value} {L : List (List Value)} {ao : Option Addr}
/-- What a slice of one's own is, and what it holds. -/
theorem Own.slice2 (h : Own w base e n0 v L) : ∃ ao c, v = .slice ao L.length c ∧ Arr w n0 ao L ∧ L.length ≤ c ∧ (ao = none → c = 0) := by
  obtain ⟨ao, c, rfl, hA⟩ := h.slice
  refine ⟨ao, c, rfl, hA, ?_⟩
  obtain ⟨_, ⟨h1, h2⟩ | ⟨g, cap, cur, h1, h2, h3, h4, h5, _⟩⟩ := h.row
  · obtain ⟨_, h3, h4⟩ : ao = none ∧ L.length = 0 ∧ c = 0 := by simpa using h1
    exact ⟨by omega, fun _ => h4⟩
  · cases h1; exact ⟨h4, fun h => nomatch h⟩
theorem Arr.take (h : Arr w n0 ao L) (i : Nat) : Arr w n0 ao (L.take i) := fun k x hk => by
  rw [List.getElem?_take] at hk
  split at hk
  · exact h k x hk
  · cases hk
theorem Arr.drop {ad : Addr} (h : Arr w n0 (some ad) L) (i : Nat) : Arr w n0 (some (ad.add (i * n0))) (L.drop i) := fun k x hk => by
  rw [List.getElem?_drop] at hk
  obtain ⟨ad', h1, h2⟩ := h _ x hk
  cases h1
  refine ⟨_, rfl, ?_⟩
  rw [add_add, ← Nat.add_mul]; exact h2
end

section
variable {P : Program} {N : Fr} {ops : Array Oper} {K : Env → World → Prop} {m : Env} {w : World} {rest : List Oper} {ty : TypeId} {pos : String} {after : Array Edge} {g : Option (Nat × Bool)} {dr : Bool}
/-- s[:i] -/
theorem Ops_sliceH {dst : Nat} {t e : TypeId} {x y : Operand} {k : IntKind} {i c n0 b0 n : Nat} {ao : Option Addr} {L : List (List Value)} [ht : TSlice P t e] [hs : TSize P e n0 b0]
    (hon : On N ops m ⟨some dst, .slice t x none (some y) none, ty, pos, after, g⟩) (hd : Nat.ble (dst + 1) N.n = true) (hx : ev m x = some (.slice ao n c)) (hy : ev m y = some (.int k (i : Int)))
    (hn : n = L.length) (hA : Arr w n0 ao L) (hi : i ≤ L.length) (hc : L.length ≤ c) (h : Arr w n0 ao (L.take i) → (L.take i).length = i → Ops P N ops false K rest ((dst, .slice ao i c) :: m) w) :
    Ops P N ops false K (⟨some dst, .slice t x none (some y) none, ty, pos, after, g⟩ :: rest) m w := by
  subst hn
  refine Ops_q hon hd (v := .slice ao i c) (Yl_of_run fun ac w' ha _ => ?_) (h (hA.take i) (by rw [List.length_take]; omega))
  obtain ⟨inf, h1, h2⟩ := Option.map_eq_some_iff.1 hs.h
  have he : P.elem t = e := by simp [Program.elem, ht.h]
  have hu : P.underlying t = some (.slice (P.elem t)) := by rw [he]; exact ht.h
  have h0 : ao.map (fun a => a.add 0) = ao := by cases ao <;> simp [Addr.add]
  have := run_slice_h (P := P) w' t ao L.length c hu k i (by omega) (by omega)
  simp only [execOp, Option.map_none, Option.map_some, ha.ev hx, ha.ev hy]
  simp only [Sem.run_bind, run_sliceAt_slice w' t _ _ _ _ hu, this, sizeOf, typeInfo, he]
  simp [sliced, h1, h0, Result.andThen]
/-- s[i:] -/
theorem Ops_sliceL {dst : Nat} {t e : TypeId} {x y : Operand} {k : IntKind} {i c n0 b0 n : Nat} {ao : Option Addr} {L : List (List Value)} [ht : TSlice P t e] [hs : TSize P e n0 b0]
    (hon : On N ops m ⟨some dst, .slice t x (some y) none none, ty, pos, after, g⟩) (hd : Nat.ble (dst + 1) N.n = true) (hx : ev m x = some (.slice ao n c)) (hy : ev m y = some (.int k (i : Int)))
    (hn : n = L.length) (hA : Arr w n0 ao L) (hi : i ≤ L.length) (hc : L.length ≤ c) (hz : ao = none → c = 0)
    (h : ∀ ao' c', Arr w n0 ao' (L.drop i) → (ao' = none → c' = 0) → (∀ a, ao' = some a → ∃ a0, ao = some a0 ∧ a.block = a0.block) → Ops P N ops false K rest ((dst, .slice ao' (L.drop i).length c') :: m) w) :
    Ops P N ops false K (⟨some dst, .slice t x (some y) none none, ty, pos, after, g⟩ :: rest) m w := by
  subst hn
  obtain ⟨inf, h1, h2⟩ := Option.map_eq_some_iff.1 hs.h
  simp only [Prod.mk.injEq] at h2
  refine Ops_q hon hd (v := .slice (if c = i then ao else ao.map (·.add (i * n0))) (L.drop i).length (c - i)) (Yl_of_run fun ac w' ha _ => ?_) (h _ _ ?_ ?_ ?_)
  · have he : P.elem t = e := by simp [Program.elem, ht.h]
    have hu : P.underlying t = some (.slice (P.elem t)) := by rw [he]; exact ht.h
    have := run_slice_l (P := P) w' t ao L.length c hu k i (by omega) (by omega)
    simp only [execOp, Option.map_none, Option.map_some, ha.ev hx, ha.ev hy]
    simp only [Sem.run_bind, run_sliceAt_slice w' t _ _ _ _ hu, this, sizeOf, typeInfo, he]
    simp [sliced, h1, h2.1, Result.andThen, List.length_drop]
  · split
    · rename_i hci
      have : L.drop i = [] := List.drop_of_length_le (by omega)
      rw [this]; exact Arr.nil
    · cases ao with
      | none =>
        have := hz rfl
        have : L.drop i = [] := List.drop_of_length_le (by omega)
        rw [this]; exact Arr.nil
      | some ad => exact hA.drop i
  · split
    · intro h3; have := hz h3; omega
    · intro h3
      have : ao = none := by cases ao <;> simp at h3 ⊢
      have := hz this; omega
  · intro a h3
    split at h3
    · exact ⟨a, h3, rfl⟩
    · obtain ⟨a0, h4, rfl⟩ := Option.map_eq_some_iff.1 h3
      refine ⟨a0, h4, ?_⟩
      unfold Addr.add; split <;> rfl
/-- append of a slice that may be nil. -/
theorem Ops_appendA {dst : Nat} {t e : TypeId} {x y : Operand} {base c n : Nat} {v : Value} {L M : List (List Value)} {zs : List Value} {z : Value} {n0 b0 : Nat} {ao : Option Addr} [ht : TSlice P t e] [hs : TSize P e n0 b0] [hz : TZero P e z zs]
    (hon : On N ops m ⟨some dst, .call { callee := .builtin .append, args := #[x, y], argTypes := #[t, t] }, ty, pos, after, g⟩) (hd : Nat.ble (dst + 1) N.n = true)
    (hx : ev m x = some v) (hy : ev m y = some (.slice ao n c)) (hzs : (Nat.beq zs.length n0 && Nat.ble 1 n0) = true) (hn : n = M.length)
    (hown : Own w base e n0 v L) (hA : Arr w n0 ao M) (hao : ao = none → c = 0) (hM : ∀ u ∈ M, u.length = n0) (h1 : ∀ u ∈ M, u.all (fun u => u.oneCell') = true) (hb : (L.length + M.length) * b0 ≤ 140737488355328) (hb0 : Nat.ble 1 b0 = true) (hbase : base ≤ w.heap.size)
    (h : ∀ v' w1, Own w1 base e n0 v' (L ++ M) → w.grownBy w1 v.ownBlock → (v'.ownBlock = v.ownBlock ∨ ∃ b, v'.ownBlock = some b ∧ w.heap.size ≤ b) → Ops P N ops false K rest ((dst, v') :: m) w1) :
    Ops P N ops false K (⟨some dst, .call { callee := .builtin .append, args := #[x, y], argTypes := #[t, t] }, ty, pos, after, g⟩ :: rest) m w := by
  subst hn
  cases ao with
  | some ad => exact Ops_appendL hon hd hx hy hzs hown (flat_of (fun k x hk => by
      obtain ⟨ad', h3, h4⟩ := hA k x hk
      cases h3; exact h4) hM) rfl hM h1 hb (Nat.le_of_ble_eq_true hb0) hbase h
  | none =>
    have hM0 : M = [] := by
      cases M with
      | nil => rfl
      | cons a r => obtain ⟨_, h3, _⟩ := hA 0 a rfl; cases h3
    subst hM0
    obtain rfl := hao rfl
    rw [List.append_nil] at h
    refine ⟨fun a w' ha hw => ?_⟩
    unfold wpList
    rw [if_pos (hon.out a ha)]
    refine .inl ?_
    obtain ⟨inf, hi, hsz⟩ := Option.map_eq_some_iff.1 hs.h
    have hr := run_append_owned_none (P := P) w' base t ty e inf n0 ht.h hi v L.length L.flatten (own_ext hown.row hw)
    have hr2 : (execOp a.eval ⟨some dst, .call { callee := .builtin .append, args := #[x, y], argTypes := #[t, t] }, ty, pos, after, g⟩).run P w' = .ok (.value v) w' := by
      simp only [execOp, resolve, invoke, builtin, Sem.run_bind, Sem.run_pure, Result.andThen_ok, List.map_toArray, List.map_cons, List.map_nil, ha.ev hx, ha.ev hy]
      simp only [List.length_nil] at hr ⊢
      rw [hr]; rfl
    unfold Oper.wp
    rw [hr2]
    have hg : w.grownBy w v.ownBlock := ⟨rfl, rfl, rfl, Nat.le_refl _, fun _ _ _ => rfl⟩
    exact (h v w hown hg (.inl rfl)).out _ _ (ha.put (Nat.le_of_ble_eq_true hd) _) hw
end
end Go.Proofs.Ytkdjbddjblahkaa

/-
  Functions that hold loops over iterators: leaving with results; blocks told apart by their types; loops and tests at the level of marks.
  No conditions beyond those that each rule states.
-/
namespace Go.Proofs.Ytkdjbddjblahkaa
open Go.RowKit

section
variable {w w1 : World} {b b' base base' n n' : Nat} {t t' e e' : TypeId} {cs cs' : List Value} {v v' : Value} {L L' : List (List Value)}
theorem blk_ne (h : Blk w b t cs) (h' : Blk w b' t' cs') (ht : Nat.beq t t' = false) : b ≠ b' := fun eb => by
  subst eb
  unfold Blk at h h'
  rw [h] at h'
  injection h' with h1
  injection h1 with h2 h3
  rw [h3, Nat.beq_refl] at ht; cases ht
theorem own_blk_ne (h : Own w base e n v L) (h' : Blk w b t cs) (ht : Nat.beq e t = false) : v.ownBlock ≠ some b := fun eb => by
  obtain ⟨cur, hc⟩ := own_cells_at h eb
  unfold Blk at h'
  rw [hc] at h'
  injection h' with h1
  injection h1 with h2 h3
  rw [h3, Nat.beq_refl] at ht; cases ht
theorem own_own_ne (h : Own w base e n v L) (h' : Own w base' e' n' v' L') (ht : Nat.beq e e' = false) : v.ownBlock ≠ v'.ownBlock ∨ v.ownBlock = none := by
  cases hv : v.ownBlock with
  | none => exact .inr rfl
  | some b =>
    left
    intro eb
    obtain ⟨cur, hc⟩ := own_cells_at h hv
    obtain ⟨cur', hc'⟩ := own_cells_at h' eb.symm
    rw [hc] at hc'
    injection hc' with h1
    injection h1 with h2 h3
    rw [h3, Nat.beq_refl] at ht; cases ht
theorem own_none_blk (h : w.grownBy w1 (Value.ownBlock v)) (hB : Blk w b t cs) (ho : Own w base e n v L) (ht : Nat.beq e t = false) : Blk w1 b t cs :=
  grow_blk h hB (fun eb => own_blk_ne ho hB ht eb.symm)
end
section
variable {P : Program} {n : Nat} {Q : Exit → List Nat → Env → World → Prop} {Ds : List Nat} {m : Env} {w : World}
theorem retR1D {fn : Func} {R : Ending → World → Prop} {e : Exit} {r : ResultVar} {v : Value} (he : e = .ret ∨ e = .normal) (hr : fn.results = #[r]) (hM : Marks Ds w)
    (hv : ∀ w', Mod (fun c => c ∈ Ds) w w' → Res P ⟨n, Ds.map mark, none⟩ m w' r v ∧ R (.returned v) w') : retD P fn n R e Ds m w := by
  have : Marks Ds w ∧ ∀ w', Mod (fun c => c ∈ Ds) w w' → ∃ v, (∀ a, Agree ⟨n, Ds.map mark, none⟩ m a → (results fn a.tmps).run P w' = .ok v w') ∧ R (.returned v) w' :=
    ⟨hM, fun w' hw => ⟨v, fun a ha => by
      rw [results_eq, hr]
      simp [run_res (hv w' hw).1 ha (Ext.refl w')], (hv w' hw).2⟩⟩
  rcases he with rfl | rfl <;> exact this
theorem retR2D {fn : Func} {R : Ending → World → Prop} {e : Exit} {r s : ResultVar} {v x : Value} (he : e = .ret ∨ e = .normal) (hr : fn.results = #[r, s]) (hM : Marks Ds w)
    (hv : ∀ w', Mod (fun c => c ∈ Ds) w w' → Res P ⟨n, Ds.map mark, none⟩ m w' r v ∧ Res P ⟨n, Ds.map mark, none⟩ m w' s x ∧ R (.returned (.tuple #[v, x])) w') : retD P fn n R e Ds m w := by
  have : Marks Ds w ∧ ∀ w', Mod (fun c => c ∈ Ds) w w' → ∃ v, (∀ a, Agree ⟨n, Ds.map mark, none⟩ m a → (results fn a.tmps).run P w' = .ok v w') ∧ R (.returned v) w' :=
    ⟨hM, fun w' hw => ⟨_, fun a ha => by
      rw [results_eq, hr]
      simp [run_res (hv w' hw).1 ha (Ext.refl w'), run_res (hv w' hw).2.1 ha (Ext.refl w')], (hv w' hw).2.2⟩⟩
  rcases he with rfl | rfl <;> exact this
/-- A marked block is no block of cells, and no slice's row. -/
theorem Marks.blk {b : Nat} {t : TypeId} {cs : List Value} {w' : World} (h : Marks Ds w) (hm : Mod (fun c => c ∈ Ds) w w') (hB : Blk w b t cs) : Blk w' b t cs :=
  hm.blk hB (fun hb => by have := h.at_ b hb; unfold Blk at hB; rw [this] at hB; cases hB)
theorem Marks.own_mod {base n0 : Nat} {e : TypeId} {v : Value} {L : List (List Value)} {w' : World} (h : Marks Ds w) (hm : Mod (fun c => c ∈ Ds) w w') (ho : Own w base e n0 v L) : Own w' base e n0 v L :=
  hm.own ho (fun b hb hc => by obtain ⟨cur, h1⟩ := own_cells_at ho hb; have := h.at_ b hc; rw [this] at h1; cases h1)
theorem Marks.ge_mod {w0 w' : World} (h : ∀ D ∈ Ds, w0.heap.size ≤ D) (he : Ext w0 w) (hm : Mod (fun c => c ∈ Ds) w w') : Ext w0 w' := hm.ext_of he (fun c hc => h c hc)
theorem V_mono1 {N : Fr} {Q Q' : Exit → Env → World → Prop} {c : Code} (h : V P N c Q m w) (hq : ∀ e m w, Q e m w → Q' e m w) : V P N c Q' m w := V_mono hq h
end
end Go.Proofs.Ytkdjbddjblahkaa

/-
  An iterator's calls of yield, several in one row of operations, under guards.
  No conditions beyond those that each rule states.
-/
namespace Go.Proofs.Ytkdjbddjblahkaa
open Go.RowKit

structure LY (P : Program) (N : Fr) (A : Array Oper) (Q : Exit → Env → World → Prop) (l : List Oper) (m : Env) (w : World) : Prop where
  out : ∀ a w', Agree N m a → Ext w w' → wpListIn (fenceR N.ro) 0 P A (fun e a w => e = .normal ∧ lift N Q .normal a w) l a w'
section
variable {P : Program} {N : Fr} {A : Array Oper} {Q : Exit → Env → World → Prop} {m : Env} {w : World}
theorem V_LY {id : Nat} {l : List Oper} (h : LY P N l.toArray Q l m w) : V P N (.region id l.toArray false) Q m w :=
  ⟨fun a w' ha hw => wpR_mono (Q := fun e a w => e = .normal ∧ lift N Q .normal a w) (fun e a w ⟨h1, h2⟩ => by rw [h1]; exact h2) (wpIn_region_lit (h.out a w' ha hw))⟩
theorem LY_ops (n0 : Nat) {l : List Oper} {K : Env → World → Prop} (h1 : Ops P N A false K (l.take n0) m w) (h2 : ∀ m' w', K m' w' → LY P N A Q (l.drop n0) m' w')
    (hnd : NoDef N.ro (l.take n0) := by first | exact .inl rfl | exact .inr (by kernel_rfl)) : LY P N A Q l m w := by
  refine ⟨fun a w' ha hw => ?_⟩
  have h3 := listR (ops := A) noLet _ _ _ hnd (h1.out a w' ha hw)
  rw [← List.take_append_drop n0 l]
  refine listIn_app (Q1 := fun _ a' w'' => ∃ m' w1, K m' w1 ∧ Agree N m' a' ∧ Ext w1 w'') _ _ _ _ h3 ?_
  rintro a1 w1 ⟨m1, w0, hk, ag, ex⟩
  exact (h2 m1 w0 hk).out a1 w1 ag ex
theorem LY_sub {l : List Oper} {m1 : Env} (hs : Sub m1 m) (h : LY P N A Q l m1 w) : LY P N A Q l m w := ⟨fun a w' ha hw => h.out a w' (ha.sub hs) hw⟩
theorem LY_end {l : List Oper} (h : Ops P N A false (fun m w => Q .normal m w) l m w) (hnd : NoDef N.ro l := by first | exact .inl rfl | exact .inr (by kernel_rfl)) : LY P N A Q l m w :=
  ⟨fun a w' ha hw => listR (ops := A) noLet _ _ _ hnd (h.out a w' ha hw)⟩
theorem LY_yield {dst : Nat} {t : Operand} {xs : Array Operand} {ats : Array TypeId} {ty : TypeId} {pos : String} {after : Array Edge} {g : Option (Nat × Bool)} {rest : List Oper} {ly : Nat} {vs : List Value} {R : Ending → World → Prop}
    (hon : On N A m ⟨some dst, .call { callee := .value t, args := xs, argTypes := ats }, ty, pos, after, g⟩) (hd : Nat.ble (dst + 1) N.n = true) (ht : ev m t = some (.func (.yield ly) #[] #[])) (hx : evs m xs.toList = some vs)
    (hy : ∀ w2, Ext w w2 → YieldAt (fenceR none) 0 P ly vs.toArray w2 R) (hk : ∀ e w2, R e w2 → ∃ v, e = .returned v ∧ LY P N A Q rest ((dst, v) :: m) w2) :
    LY P N A Q (⟨some dst, .call { callee := .value t, args := xs, argTypes := ats }, ty, pos, after, g⟩ :: rest) m w := by
  refine ⟨fun a1 w1 ag ex => ?_⟩
  unfold wpListIn
  rw [if_pos (hon.out a1 ag)]
  refine ⟨fun _ _ => trivial, ?_⟩
  obtain ⟨fn, tmps, assign, body, hy1, hy2⟩ := hy w1 ex
  have e1 : xs.map a1.eval = vs.toArray := map_evs ag hx
  have hr : (execOp a1.eval ⟨some dst, .call { callee := .value t, args := xs, argTypes := ats }, ty, pos, after, g⟩).run P w1 = .ok (.round ly fn tmps assign body) w1 := by
    simp only [execOp, resolve, e1, ag.ev ht, Deferred.ofValue, invoke]
    simpa using hy1
  rw [show (fenceR N.ro).round = N.ro from rfl, Oper.semAt_eq _ _ _ (by simp), hr, Oper.uponIn_round]
  refine ⟨(fun h => by cases h), ?_⟩
  have hy3 : RoundIn (fenceR N.ro) 0 P ly fn tmps assign body w1 R := hy2
  refine hy3.mono (fun e w2 hR => ?_)
  obtain ⟨v, rfl, hO⟩ := hk e w2 hR
  exact hO.out (a1.put (some dst) v) w2 (ag.put (Nat.le_of_ble_eq_true hd) v) (Ext.refl _)
end
end Go.Proofs.Ytkdjbddjblahkaa

/-
  Routes (layers 48, 49): hops and routes in memory; comparisons.
  Conditions: addresses and routers are numbers of 32 bits.
-/
namespace Go.Proofs.Ytkdjbddjblahkaa
open Go.RowKit

/-- A next hop. -/
structure Nh where
  addr : Nat
  iface : Int
  router : Nat
  weight : Int
  via : Pf
deriving DecidableEq
def Nh.cells (h : Nh) : List Value := [.int .u32 h.addr, .int .i64 h.iface, .int .u32 h.router, .int .i64 h.weight, .int .u32 h.via.a, .int .i64 h.via.n]
def Nh.val (h : Nh) : Value := .agg #[.int .u32 h.addr, .int .i64 h.iface, .int .u32 h.router, .int .i64 h.weight, .int .u32 h.via.a, .int .i64 h.via.n]
/-- A route; its hops' slice beside the hops. -/
structure Rt where
  p : Pf
  proto : Int
  dist : Int
  metric : Int
  tag : Int
  ao : Option Addr
  c : Nat
  hops : List Nh
deriving DecidableEq
def Rt.cells (r : Rt) : List Value := [.int .u32 r.p.a, .int .i64 r.p.n, .int .i64 r.proto, .int .i64 r.dist, .int .i64 r.metric, .int .i64 r.tag, .slice r.ao r.hops.length r.c]
def Rt.val (r : Rt) : Value := .agg #[.int .u32 r.p.a, .int .i64 r.p.n, .int .i64 r.proto, .int .i64 r.dist, .int .i64 r.metric, .int .i64 r.tag, .slice r.ao r.hops.length r.c]
/-- Hops in memory. -/
def Nhs (w : World) (ao : Option Addr) (L : List Nh) : Prop := Arr w 6 ao (L.map Nh.cells)
theorem Nhs.ext {w w' : World} {ao : Option Addr} {L : List Nh} (h : Nhs w ao L) (he : Ext w w') : Nhs w' ao L := Arr.ext h he
theorem Nhs.at {w : World} {ao : Option Addr} {L : List Nh} (h : Nhs w ao L) {k : Nat} {x : Nh} (hk : L[k]? = some x) : ∃ ad, ao = some ad ∧ Cells w (ad.add (k * 6)) [.int .u32 x.addr, .int .i64 x.iface, .int .u32 x.router, .int .i64 x.weight, .int .u32 x.via.a, .int .i64 x.via.n] := h k x.cells (by rw [List.getElem?_map, hk]; rfl)
/-- The numbers of a hop are numbers of their types. -/
def Nh.ok (h : Nh) : Prop := h.addr < 4294967296 ∧ h.router < 4294967296 ∧ h.via.a < 4294967296
/-- A route's hops are in memory. -/
structure RtM (w : World) (r : Rt) : Prop where
  hops : Nhs w r.ao r.hops
  nil : r.ao = none → r.c = 0
  cap : r.hops.length ≤ r.c
  pa : r.p.a < 4294967296
  ok : ∀ h ∈ r.hops, h.ok
theorem RtM.ext {w w' : World} {r : Rt} (h : RtM w r) (he : Ext w w') : RtM w' r := ⟨h.hops.ext he, h.nil, h.cap, h.pa, h.ok⟩
/-- Routes in memory. -/
structure Rts (w : World) (ao : Option Addr) (L : List Rt) : Prop where
  arr : Arr w 7 ao (L.map Rt.cells)
  mem : ∀ r ∈ L, RtM w r
theorem Rts.ext {w w' : World} {ao : Option Addr} {L : List Rt} (h : Rts w ao L) (he : Ext w w') : Rts w' ao L := ⟨h.arr.ext he, fun r hr => (h.mem r hr).ext he⟩
theorem Rts.at {w : World} {ao : Option Addr} {L : List Rt} (h : Rts w ao L) {k : Nat} {x : Rt} (hk : L[k]? = some x) : ∃ ad, ao = some ad ∧ Cells w (ad.add (k * 7)) [.int .u32 x.p.a, .int .i64 x.p.n, .int .i64 x.proto, .int .i64 x.dist, .int .i64 x.metric, .int .i64 x.tag, .slice x.ao x.hops.length x.c] := h.arr k x.cells (by rw [List.getElem?_map, hk]; rfl)
theorem Rts.nil {w : World} {ao : Option Addr} : Rts w ao [] := ⟨Arr.nil, fun _ h => nomatch h⟩
/-! ### Comparisons -/
def sg (a b : Int) : Int := if a < b then -1 else if b < a then 1 else 0
theorem sg_zero {a b : Int} : sg a b = 0 ↔ a = b := by
  unfold sg
  split
  · constructor <;> intro h <;> omega
  · split
    · constructor <;> intro h <;> omega
    · constructor
      · intro _; omega
      · intro _; rfl
def or3 (a b c : Int) : Int := if a ≠ 0 then a else if b ≠ 0 then b else c
def cmpH (a b : Nh) : Int := or3 (sg a.addr b.addr) (sg a.iface b.iface) (sg a.router b.router)
def cmpR (r s : Rt) : Int := or3 (cmpP r.p s.p) (sg r.dist s.dist) (sg r.proto s.proto)
theorem nanI_v (a : Int) (w : World) : Calls Try.prog 94 #[.int .i64 a] w (Ret (.bool false) w) := by
  refine V_enter (vs := [_]) Try.func94 rfl Try.ntmps94 (Nat.le_of_ble_eq_true rfl) ?_
  repeat (first | refine Vx ?_ | (apply Ops_q; (case hon => exact Va); (case hd => rfl); (case hq => exact YlA)) | refine Vr ?_ | refine Vt ?_ | refine Vf ?_ | refine Vm ?_ | refine Ve ?_ | refine Vo ?_ | refine Vz ?_ | refine Vn ?_)
  refine ret1 (by first | exact .inl rfl | exact .inr rfl) rfl rfl ?_
  exact Ret_mk (by simp) (Ext.refl _)
theorem nanA_v (a : Int) (w : World) : Calls Try.prog 102 #[.int .u32 a] w (Ret (.bool false) w) := by
  refine V_enter (vs := [_]) Try.func102 rfl Try.ntmps102 (Nat.le_of_ble_eq_true rfl) ?_
  repeat (first | refine Vx ?_ | (apply Ops_q; (case hon => exact Va); (case hd => rfl); (case hq => exact YlA)) | refine Vr ?_ | refine Vt ?_ | refine Vf ?_ | refine Vm ?_ | refine Ve ?_ | refine Vo ?_ | refine Vz ?_ | refine Vn ?_)
  refine ret1 (by first | exact .inl rfl | exact .inr rfl) rfl rfl ?_
  exact Ret_mk (by simp) (Ext.refl _)
theorem nanR_v (a : Int) (w : World) : Calls Try.prog 103 #[.int .u32 a] w (Ret (.bool false) w) := by
  refine V_enter (vs := [_]) Try.func103 rfl Try.ntmps103 (Nat.le_of_ble_eq_true rfl) ?_
  repeat (first | refine Vx ?_ | (apply Ops_q; (case hon => exact Va); (case hd => rfl); (case hq => exact YlA)) | refine Vr ?_ | refine Vt ?_ | refine Vf ?_ | refine Vm ?_ | refine Ve ?_ | refine Vo ?_ | refine Vz ?_ | refine Vn ?_)
  refine ret1 (by first | exact .inl rfl | exact .inr rfl) rfl rfl ?_
  exact Ret_mk (by simp) (Ext.refl _)
theorem cmpI_v (a b : Int) (w : World) : Calls Try.prog 76 #[.int .i64 a, .int .i64 b] w (Ret (.int .i64 (sg a b)) w) := by
  refine V_enter (vs := [_, _]) Try.func76 rfl Try.ntmps76 (Nat.le_of_ble_eq_true rfl) ?_
  repeat (first | refine Vx ?_ | (apply Ops_q; (case hon => exact Va); (case hd => rfl); (case hq => exact YlA)) | refine Vr ?_ | refine Vt ?_ | refine Vf ?_ | refine Vm ?_ | refine Ve ?_ | refine Vo ?_ | refine Vz ?_ | refine Vn ?_)
  (apply Ops_q; (case hon => (exact Va)); (case hd => rfl); (case hq => exact Yl_call rfl (fun w_ e_ => nanI_v a w_)))
  repeat (first | refine Vx ?_ | (apply Ops_q; (case hon => exact Va); (case hd => rfl); (case hq => exact YlA)) | refine Vr ?_ | refine Vt ?_ | refine Vf ?_ | refine Vm ?_ | refine Ve ?_ | refine Vo ?_ | refine Vz ?_ | refine Vn ?_)
  (apply Ops_q; (case hon => (exact Va)); (case hd => rfl); (case hq => exact Yl_call rfl (fun w_ e_ => nanI_v b w_)))
  repeat (first | refine Vx ?_ | (apply Ops_q; (case hon => exact Va); (case hd => rfl); (case hq => exact YlA)) | refine Vr ?_ | refine Vt ?_ | refine Vf ?_ | refine Vm ?_ | refine Ve ?_ | refine Vo ?_ | refine Vz ?_ | refine Vn ?_)
  by_cases t1 : a < b
  · have d1 : decide (a < b) = true := decide_eq_true t1
    refine V_yes rfl d1 ?_
    repeat (first | refine Vx ?_ | (apply Ops_q; (case hon => exact Va); (case hd => rfl); (case hq => exact YlA)) | refine Vr ?_ | refine Vt ?_ | refine Vf ?_ | refine Vm ?_ | refine Ve ?_ | refine Vo ?_ | refine Vz ?_ | refine Vn ?_)
    refine ret1 (by first | exact .inl rfl | exact .inr rfl) rfl rfl ?_
    exact Ret_mk (by rw [sg, if_pos t1]) (Ext.refl _)
  · have d1 : decide (a < b) = false := decide_eq_false t1
    refine V_no rfl d1 ?_
    repeat (first | refine Vx ?_ | (apply Ops_q; (case hon => exact Va); (case hd => rfl); (case hq => exact YlA)) | refine Vr ?_ | refine Vt ?_ | refine Vf ?_ | refine Vm ?_ | refine Ve ?_ | refine Vo ?_ | refine Vz ?_ | refine Vn ?_)
    by_cases t2 : b < a
    · have d2 : decide (b < a) = true := decide_eq_true t2
      refine V_yes rfl d2 ?_
      repeat (first | refine Vx ?_ | (apply Ops_q; (case hon => exact Va); (case hd => rfl); (case hq => exact YlA)) | refine Vr ?_ | refine Vt ?_ | refine Vf ?_ | refine Vm ?_ | refine Ve ?_ | refine Vo ?_ | refine Vz ?_ | refine Vn ?_)
      refine ret1 (by first | exact .inl rfl | exact .inr rfl) rfl rfl ?_
      exact Ret_mk (by rw [sg, if_neg t1, if_pos t2]) (Ext.refl _)
    · have d2 : decide (b < a) = false := decide_eq_false t2
      refine V_no rfl d2 ?_
      repeat (first | refine Vx ?_ | (apply Ops_q; (case hon => exact Va); (case hd => rfl); (case hq => exact YlA)) | refine Vr ?_ | refine Vt ?_ | refine Vf ?_ | refine Vm ?_ | refine Ve ?_ | refine Vo ?_ | refine Vz ?_ | refine Vn ?_)
      refine ret1 (by first | exact .inl rfl | exact .inr rfl) rfl rfl ?_
      exact Ret_mk (by rw [sg, if_neg t1, if_neg t2]) (Ext.refl _)
theorem cmpA_v (a b : Int) (w : World) : Calls Try.prog 91 #[.int .u32 a, .int .u32 b] w (Ret (.int .i64 (sg a b)) w) := by
  refine V_enter (vs := [_, _]) Try.func91 rfl Try.ntmps91 (Nat.le_of_ble_eq_true rfl) ?_
  repeat (first | refine Vx ?_ | (apply Ops_q; (case hon => exact Va); (case hd => rfl); (case hq => exact YlA)) | refine Vr ?_ | refine Vt ?_ | refine Vf ?_ | refine Vm ?_ | refine Ve ?_ | refine Vo ?_ | refine Vz ?_ | refine Vn ?_)
  (apply Ops_q; (case hon => (exact Va)); (case hd => rfl); (case hq => exact Yl_call rfl (fun w_ e_ => nanA_v a w_)))
  repeat (first | refine Vx ?_ | (apply Ops_q; (case hon => exact Va); (case hd => rfl); (case hq => exact YlA)) | refine Vr ?_ | refine Vt ?_ | refine Vf ?_ | refine Vm ?_ | refine Ve ?_ | refine Vo ?_ | refine Vz ?_ | refine Vn ?_)
  (apply Ops_q; (case hon => (exact Va)); (case hd => rfl); (case hq => exact Yl_call rfl (fun w_ e_ => nanA_v b w_)))
  repeat (first | refine Vx ?_ | (apply Ops_q; (case hon => exact Va); (case hd => rfl); (case hq => exact YlA)) | refine Vr ?_ | refine Vt ?_ | refine Vf ?_ | refine Vm ?_ | refine Ve ?_ | refine Vo ?_ | refine Vz ?_ | refine Vn ?_)
  by_cases t1 : a < b
  · have d1 : decide (a < b) = true := decide_eq_true t1
    refine V_yes rfl d1 ?_
    repeat (first | refine Vx ?_ | (apply Ops_q; (case hon => exact Va); (case hd => rfl); (case hq => exact YlA)) | refine Vr ?_ | refine Vt ?_ | refine Vf ?_ | refine Vm ?_ | refine Ve ?_ | refine Vo ?_ | refine Vz ?_ | refine Vn ?_)
    refine ret1 (by first | exact .inl rfl | exact .inr rfl) rfl rfl ?_
    exact Ret_mk (by rw [sg, if_pos t1]) (Ext.refl _)
  · have d1 : decide (a < b) = false := decide_eq_false t1
    refine V_no rfl d1 ?_
    repeat (first | refine Vx ?_ | (apply Ops_q; (case hon => exact Va); (case hd => rfl); (case hq => exact YlA)) | refine Vr ?_ | refine Vt ?_ | refine Vf ?_ | refine Vm ?_ | refine Ve ?_ | refine Vo ?_ | refine Vz ?_ | refine Vn ?_)
    by_cases t2 : b < a
    · have d2 : decide (b < a) = true := decide_eq_true t2
      refine V_yes rfl d2 ?_
      repeat (first | refine Vx ?_ | (apply Ops_q; (case hon => exact Va); (case hd => rfl); (case hq => exact YlA)) | refine Vr ?_ | refine Vt ?_ | refine Vf ?_ | refine Vm ?_ | refine Ve ?_ | refine Vo ?_ | refine Vz ?_ | refine Vn ?_)
      refine ret1 (by first | exact .inl rfl | exact .inr rfl) rfl rfl ?_
      exact Ret_mk (by rw [sg, if_neg t1, if_pos t2]) (Ext.refl _)
    · have d2 : decide (b < a) = false := decide_eq_false t2
      refine V_no rfl d2 ?_
      repeat (first | refine Vx ?_ | (apply Ops_q; (case hon => exact Va); (case hd => rfl); (case hq => exact YlA)) | refine Vr ?_ | refine Vt ?_ | refine Vf ?_ | refine Vm ?_ | refine Ve ?_ | refine Vo ?_ | refine Vz ?_ | refine Vn ?_)
      refine ret1 (by first | exact .inl rfl | exact .inr rfl) rfl rfl ?_
      exact Ret_mk (by rw [sg, if_neg t1, if_neg t2]) (Ext.refl _)
theorem cmpU_v (a b : Int) (w : World) : Calls Try.prog 92 #[.int .u32 a, .int .u32 b] w (Ret (.int .i64 (sg a b)) w) := by
  refine V_enter (vs := [_, _]) Try.func92 rfl Try.ntmps92 (Nat.le_of_ble_eq_true rfl) ?_
  repeat (first | refine Vx ?_ | (apply Ops_q; (case hon => exact Va); (case hd => rfl); (case hq => exact YlA)) | refine Vr ?_ | refine Vt ?_ | refine Vf ?_ | refine Vm ?_ | refine Ve ?_ | refine Vo ?_ | refine Vz ?_ | refine Vn ?_)
  (apply Ops_q; (case hon => (exact Va)); (case hd => rfl); (case hq => exact Yl_call rfl (fun w_ e_ => nanR_v a w_)))
  repeat (first | refine Vx ?_ | (apply Ops_q; (case hon => exact Va); (case hd => rfl); (case hq => exact YlA)) | refine Vr ?_ | refine Vt ?_ | refine Vf ?_ | refine Vm ?_ | refine Ve ?_ | refine Vo ?_ | refine Vz ?_ | refine Vn ?_)
  (apply Ops_q; (case hon => (exact Va)); (case hd => rfl); (case hq => exact Yl_call rfl (fun w_ e_ => nanR_v b w_)))
  repeat (first | refine Vx ?_ | (apply Ops_q; (case hon => exact Va); (case hd => rfl); (case hq => exact YlA)) | refine Vr ?_ | refine Vt ?_ | refine Vf ?_ | refine Vm ?_ | refine Ve ?_ | refine Vo ?_ | refine Vz ?_ | refine Vn ?_)
  by_cases t1 : a < b
  · have d1 : decide (a < b) = true := decide_eq_true t1
    refine V_yes rfl d1 ?_
    repeat (first | refine Vx ?_ | (apply Ops_q; (case hon => exact Va); (case hd => rfl); (case hq => exact YlA)) | refine Vr ?_ | refine Vt ?_ | refine Vf ?_ | refine Vm ?_ | refine Ve ?_ | refine Vo ?_ | refine Vz ?_ | refine Vn ?_)
    refine ret1 (by first | exact .inl rfl | exact .inr rfl) rfl rfl ?_
    exact Ret_mk (by rw [sg, if_pos t1]) (Ext.refl _)
  · have d1 : decide (a < b) = false := decide_eq_false t1
    refine V_no rfl d1 ?_
    repeat (first | refine Vx ?_ | (apply Ops_q; (case hon => exact Va); (case hd => rfl); (case hq => exact YlA)) | refine Vr ?_ | refine Vt ?_ | refine Vf ?_ | refine Vm ?_ | refine Ve ?_ | refine Vo ?_ | refine Vz ?_ | refine Vn ?_)
    by_cases t2 : b < a
    · have d2 : decide (b < a) = true := decide_eq_true t2
      refine V_yes rfl d2 ?_
      repeat (first | refine Vx ?_ | (apply Ops_q; (case hon => exact Va); (case hd => rfl); (case hq => exact YlA)) | refine Vr ?_ | refine Vt ?_ | refine Vf ?_ | refine Vm ?_ | refine Ve ?_ | refine Vo ?_ | refine Vz ?_ | refine Vn ?_)
      refine ret1 (by first | exact .inl rfl | exact .inr rfl) rfl rfl ?_
      exact Ret_mk (by rw [sg, if_neg t1, if_pos t2]) (Ext.refl _)
    · have d2 : decide (b < a) = false := decide_eq_false t2
      refine V_no rfl d2 ?_
      repeat (first | refine Vx ?_ | (apply Ops_q; (case hon => exact Va); (case hd => rfl); (case hq => exact YlA)) | refine Vr ?_ | refine Vt ?_ | refine Vf ?_ | refine Vm ?_ | refine Ve ?_ | refine Vo ?_ | refine Vz ?_ | refine Vn ?_)
      refine ret1 (by first | exact .inl rfl | exact .inr rfl) rfl rfl ?_
      exact Ret_mk (by rw [sg, if_neg t1, if_neg t2]) (Ext.refl _)
/-! ### first -/
def at3 (c0 c1 c2 : Int) : Nat → Int
  | 0 => c0
  | 1 => c1
  | _ => c2
theorem or3_zero {c0 c1 c2 : Int} (h : ∀ j, j < 3 → at3 c0 c1 c2 j = 0) : or3 c0 c1 c2 = 0 := by
  have h0 : c0 = 0 := h 0 (by omega)
  have h1 : c1 = 0 := h 1 (by omega)
  have h2 : c2 = 0 := h 2 (by omega)
  unfold or3
  rw [if_neg (by omega), if_neg (by omega)]; exact h2
theorem or3_at {c0 c1 c2 : Int} {k : Nat} (hk : k < 3) (h : ∀ j, j < k → at3 c0 c1 c2 j = 0) (hn : at3 c0 c1 c2 k ≠ 0) : or3 c0 c1 c2 = at3 c0 c1 c2 k := by
  match k, hk with
  | 0, _ => exact if_pos hn
  | 1, _ =>
    have h0 : c0 = 0 := h 0 (by omega)
    unfold or3
    rw [if_neg (by omega)]; exact if_pos hn
  | 2, _ =>
    have h0 : c0 = 0 := h 0 (by omega)
    have h1 : c1 = 0 := h 1 (by omega)
    unfold or3
    rw [if_neg (by omega), if_neg (by omega)]; rfl
set_option maxHeartbeats 1000000 in
theorem first_v (gf : Nat) [hg : TFun Try.prog gf] (lb : List Value) (c0 c1 c2 : Int) (B : World → Prop) (hBe : ∀ w1 w2, B w1 → Ext w1 w2 → B w2) (hBt : ∀ l w1 w2, B w1 → Turn l w1 w2 → B w2)
    (hit : Iter Try.prog gf lb.toArray 3 (fun k => [.int .i64 (at3 c0 c1 c2 k)]) B) (w : World) (hB : B w) :
    Calls Try.prog 74 #[.func (.func gf) #[] lb.toArray] w (Ret (.int .i64 (or3 c0 c1 c2)) w) := by
  refine VD_enter (vs := [_]) Try.func74 rfl Try.ntmps74 (Nat.le_of_ble_eq_true rfl) ?_
  refine VD_seq ?_
  repeat (first | refine Vx ?_ | (apply Ops_q; (case hon => exact Va); (case hd => rfl); (case hq => exact YlA)) | refine Vr ?_ | refine Vt ?_ | refine Vf ?_ | refine Vm ?_ | refine Ve ?_ | refine Vo ?_ | refine Vz ?_ | refine Vn ?_)
  (refine Ops_alloc (by exact Va) rfl ?_; intro w1 b2 n_b2; have k_b2 := n_b2.blk)
  have x1 := n_b2.ext
  have g2 := n_b2.ge
  clear n_b2
  repeat (first | refine Vx ?_ | (apply Ops_q; (case hon => exact Va); (case hd => rfl); (case hq => exact YlA)) | refine Vr ?_ | refine Vt ?_ | refine Vf ?_ | refine Vm ?_ | refine Ve ?_ | refine Vo ?_ | refine Vz ?_ | refine Vn ?_)
  refine VD_seqD ?_
  refine VD_seq ?_
  repeat (first | refine Vx ?_ | (apply Ops_q; (case hon => exact Va); (case hd => rfl); (case hq => exact YlA)) | refine Vr ?_ | refine Vt ?_ | refine Vf ?_ | refine Vm ?_ | refine Ve ?_ | refine Vo ?_ | refine Vz ?_ | refine Vn ?_)
  refine VD_block ?_
  refine VD_sub (m1 := [(4, .func (.func gf) #[] lb.toArray), (2, .pointer (some ⟨b2, 0, none⟩))]) (by repeat (first | exact trivial | refine ⟨rfl, ?_⟩)) ?_
  refine VD_range (K := 3) (vs := fun k => [.int .i64 (at3 c0 c1 c2 k)]) rfl (fun args w => hg.h args w) hit (fun _ => rfl) rfl
    (fun k w' => Ext w w' ∧ Blk w' b2 3 [.int .i64 0] ∧ B w' ∧ ∀ j, j < k → at3 c0 c1 c2 j = 0)
    (fun w' => Ext w w' ∧ Blk w' b2 3 [.int .i64 (or3 c0 c1 c2)])
    (fun s : Nat => [(3, .int .i64 (at3 c0 c1 c2 s)), (2, .pointer (some ⟨b2, 0, none⟩))])
    (fun k s w' => s = k ∧ Ext w w' ∧ Blk w' b2 3 [.int .i64 0] ∧ B w' ∧ ∀ j, j < k → at3 c0 c1 c2 j = 0)
    (fun k u v ⟨h1, h2, h3, h4⟩ he => ⟨h1.trans he, h2.ext he, hBe u v h3 he, h4⟩) (fun u v ⟨h1, h2⟩ he => ⟨h1.trans he, h2.ext he⟩)
    (fun k s u v ⟨e, h1, h2, h3, h4⟩ he => ⟨e, h1.trans he, h2.ext he, hBe u v h3 he, h4⟩)
    (fun l k u v hl ⟨h1, h2, h3, h4⟩ ht => ⟨ht.ext h1 (Nat.le_trans x1.size hl), ht.blk h2, hBt l u v h3 ht, h4⟩) (fun l u v hl ⟨h1, h2⟩ ht => ⟨ht.ext h1 (Nat.le_trans x1.size hl), ht.blk h2⟩)
    (fun l k s u v hl ⟨e, h1, h2, h3, h4⟩ ht => ⟨e, ht.ext h1 (Nat.le_trans x1.size hl), ht.blk h2, hBt l u v h3 ht, h4⟩)
    (fun k u ⟨_, _, h3, _⟩ => h3) ⟨x1, k_b2, hBe w w1 hB x1, fun j h => absurd h (Nat.not_lt_zero j)⟩ ?_ ?_ ?_ ?_
  · -- the loop's variable
    rintro l D r k w9 hk hl ⟨h1, h2, h3, h4⟩ hr
    show V _ _ _ _ ((5, _) :: _) _
    repeat (first | refine Vx ?_ | (apply Ops_q; (case hon => exact Va); (case hd => rfl); (case hq => exact YlA)) | refine Vr ?_ | refine Vt ?_ | refine Vf ?_ | refine Vm ?_ | refine Ve ?_ | refine Vo ?_ | refine Vz ?_ | refine Vn ?_)
    exact ⟨rfl, hr, k, (by repeat (first | exact trivial | refine ⟨rfl, ?_⟩)), rfl, h1, h2, h3, h4⟩
  · -- a round
    rintro l D r k s w9 hk hl ⟨rfl, h1, h2, h3, h4⟩ hr
    repeat (first | refine Vx ?_ | (apply Ops_q; (case hon => exact Va); (case hd => rfl); (case hq => exact YlA)) | refine Vr ?_ | refine Vt ?_ | refine Vf ?_ | refine Vm ?_ | refine Ve ?_ | refine Vo ?_ | refine Vz ?_ | refine Vn ?_)
    by_cases t1 : at3 c0 c1 c2 s = 0
    · have d1 : (!decide (at3 c0 c1 c2 s = 0)) = false := by rw [decide_eq_true t1]; rfl
      refine V_no rfl d1 ?_
      repeat (first | refine Vx ?_ | (apply Ops_q; (case hon => exact Va); (case hd => rfl); (case hq => exact YlA)) | refine Vr ?_ | refine Vt ?_ | refine Vf ?_ | refine Vm ?_ | refine Ve ?_ | refine Vo ?_ | refine Vz ?_ | refine Vn ?_)
      refine ⟨hr, h1, h2, h3, fun j hj => ?_⟩
      rcases Nat.lt_or_ge j s with h5 | h5
      · exact h4 j h5
      · rw [show j = s by omega]; exact t1
    · have d1 : (!decide (at3 c0 c1 c2 s = 0)) = true := by rw [decide_eq_false t1]; rfl
      refine V_yes rfl d1 ?_
      repeat (first | refine Vx ?_ | (apply Ops_q; (case hon => exact Va); (case hd => rfl); (case hq => exact YlA)) | refine Vr ?_ | refine Vt ?_ | refine Vf ?_ | refine Vm ?_ | refine Ve ?_ | refine Vo ?_ | refine Vz ?_ | refine Vn ?_)
      (refine Ops_store (by exact Va) rfl rfl (by assumption) (by first | rfl | exact OneAll.h) ?_; intro wb u_wb; have k_b2 := u_wb.blk)
      repeat (first | refine Vx ?_ | (apply Ops_q; (case hon => exact Va); (case hd => rfl); (case hq => exact YlA)) | refine Vr ?_ | refine Vt ?_ | refine Vf ?_ | refine Vm ?_ | refine Ve ?_ | refine Vo ?_ | refine Vz ?_ | refine Vn ?_)
      refine ⟨hr.upd u_wb h2, u_wb.below h1 g2, ?_⟩
      rw [or3_at hk h4 t1]; exact k_b2
  · rintro D w9 hDl ⟨h1, h2, _, h4⟩ hdD
    refine blockD_normal ?_
    refine thenD_normal ?_
    rw [or3_zero h4]
    refine VD_of ?_
    repeat (first | refine Vx ?_ | (apply Ops_q; (case hon => exact Va); (case hd => rfl); (case hq => exact YlA)) | refine Vr ?_ | refine Vt ?_ | refine Vf ?_ | refine Vm ?_ | refine Ve ?_ | refine Vo ?_ | refine Vz ?_ | refine Vn ?_)
    (refine Ops_store (by exact Va) rfl rfl (by assumption) (by first | rfl | exact OneAll.h) ?_; intro wb u_wb; have k_b2 := u_wb.blk)
    have hM : Marks [D] wb := by
      have h1 : Marks [D] w9 := ⟨by simp, fun E hE => by rw [List.mem_singleton.1 hE]; exact hdD⟩
      exact h1.upd u_wb h2
    have xb := u_wb.below h1 g2
    repeat (first | refine Vx ?_ | (apply Ops_q; (case hon => exact Va); (case hd => rfl); (case hq => exact YlA)) | refine Vr ?_ | refine Vt ?_ | refine Vf ?_ | refine Vm ?_ | refine Ve ?_ | refine Vo ?_ | refine Vz ?_ | refine Vn ?_)
    refine retR1D (.inl rfl) rfl hM fun w' hm => ⟨res_one rfl ((hM.blk hm k_b2).cell rfl), rfl, ?_⟩
    exact hm.ext_of xb (fun c hc => by rw [List.mem_singleton.1 hc]; exact Nat.le_trans x1.size hDl)
  · rintro D w9 hDl ⟨h1, h2⟩ hdD
    have hM : Marks [D] w9 := ⟨by simp, fun E hE => by rw [List.mem_singleton.1 hE]; exact hdD⟩
    refine blockD_ret ?_
    refine thenD_ret ?_
    refine retR1D (.inl rfl) rfl hM fun w' hm => ⟨res_one rfl ((hM.blk hm h2).cell rfl), rfl, ?_⟩
    exact hm.ext_of h1 (fun c hc => by rw [List.mem_singleton.1 hc]; exact Nat.le_trans x1.size hDl)
/-! ### compareHops, compare -/
set_option maxHeartbeats 2000000 in
theorem hops_iter (b1 b2 : Nat) (x y : Nh) : Iter Try.prog 93 #[.pointer (some ⟨b1, 0, none⟩), .pointer (some ⟨b2, 0, none⟩)] 3 (fun k => [.int .i64 (at3 (sg x.addr y.addr) (sg x.iface y.iface) (sg x.router y.router) k)])
    (fun w => Blk w b1 48 [.int .u32 x.addr, .int .i64 x.iface, .int .u32 x.router, .int .i64 x.weight, .int .u32 x.via.a, .int .i64 x.via.n] ∧ Blk w b2 48 [.int .u32 y.addr, .int .i64 y.iface, .int .u32 y.router, .int .i64 y.weight, .int .u32 y.via.a, .int .i64 y.via.n]) := by
  intro l J Jx W hJ hJx hB hy h0
  refine callsR_iff.2 ?_
  show Calls _ _ #[_, _, _] _ _
  refine V_enter (vs := [_, _, _]) Try.func93 rfl Try.ntmps93 (Nat.le_of_ble_eq_true rfl) ?_
  obtain ⟨k1, k2⟩ := hB 0 W h0
  refine V_LY ?_
  refine LY_ops 6 (K := fun m' w' => Sub [(9, .int .i64 (sg x.addr y.addr)), (4, .func (.yield l) #[] #[]), (0, .func (.yield l) #[] #[]), (1, .pointer (some ⟨b1, 0, none⟩)), (2, .pointer (some ⟨b2, 0, none⟩))] m' ∧ J 0 w') ?_ ?_
  · skip
    repeat (first | refine Vx ?_ | (apply Ops_q; (case hon => exact Va); (case hd => rfl); (case hq => exact YlA)) | refine Vr ?_ | refine Vt ?_ | refine Vf ?_ | refine Vm ?_ | refine Ve ?_ | refine Vo ?_ | refine Vz ?_ | refine Vn ?_)
    (apply Ops_q; (case hon => (exact Va)); (case hd => rfl); (case hq => exact Yl_call rfl (fun w_ e_ => cmpA_v x.addr y.addr w_)))
    repeat (first | refine Vx ?_ | (apply Ops_q; (case hon => exact Va); (case hd => rfl); (case hq => exact YlA)) | refine Vr ?_ | refine Vt ?_ | refine Vf ?_ | refine Vm ?_ | refine Ve ?_ | refine Vo ?_ | refine Vz ?_ | refine Vn ?_)
    exact ⟨(by repeat (first | exact trivial | refine ⟨rfl, ?_⟩)), h0⟩
  rintro _ w1 ⟨hs, h1⟩
  refine LY_sub hs ?_
  clear hs k1 k2
  refine LY_yield (R := Rounds 3 J Jx 0) (by exact Va) rfl rfl rfl (fun w5 x5 => hy 0 w5 (by omega) (hJ 0 _ w5 h1 x5)) ?_
  rintro e w5 (⟨rfl, _, hJ5⟩ | ⟨rfl, hJ5⟩)
  rotate_left
  · refine ⟨_, rfl, ?_⟩
    refine LY_end ?_
    repeat (first | refine Vx ?_ | (apply Ops_q; (case hon => exact Va); (case hd => rfl); (case hq => exact YlA)) | refine Vr ?_ | refine Vt ?_ | refine Vf ?_ | refine Vm ?_ | refine Ve ?_ | refine Vo ?_ | refine Vz ?_ | refine Vn ?_)
    refine ret0 (by first | exact .inl rfl | exact .inr rfl) rfl ?_
    exact fun w' hw => ⟨⟨_, rfl⟩, .inr (hJx _ _ hJ5 hw)⟩
  refine ⟨_, rfl, ?_⟩
  obtain ⟨k1, k2⟩ := hB 1 w5 hJ5
  refine LY_ops 7 (K := fun m' w' => Sub [(17, .int .i64 (sg x.iface y.iface)), (12, .func (.yield l) #[] #[]), (11, .bool true), (0, .func (.yield l) #[] #[]), (1, .pointer (some ⟨b1, 0, none⟩)), (2, .pointer (some ⟨b2, 0, none⟩))] m' ∧ J 1 w') ?_ ?_
  · repeat (first | refine Vx ?_ | (apply Ops_q; (case hon => exact Va); (case hd => rfl); (case hq => exact YlA)) | refine Vr ?_ | refine Vt ?_ | refine Vf ?_ | refine Vm ?_ | refine Ve ?_ | refine Vo ?_ | refine Vz ?_ | refine Vn ?_)
    (apply Ops_q; (case hon => (exact Va)); (case hd => rfl); (case hq => exact Yl_call rfl (fun w_ e_ => cmpI_v x.iface y.iface w_)))
    repeat (first | refine Vx ?_ | (apply Ops_q; (case hon => exact Va); (case hd => rfl); (case hq => exact YlA)) | refine Vr ?_ | refine Vt ?_ | refine Vf ?_ | refine Vm ?_ | refine Ve ?_ | refine Vo ?_ | refine Vz ?_ | refine Vn ?_)
    exact ⟨(by repeat (first | exact trivial | refine ⟨rfl, ?_⟩)), hJ5⟩
  rintro _ w1 ⟨hs, h1⟩
  refine LY_sub hs ?_
  clear hs k1 k2 hJ5
  refine LY_yield (R := Rounds 3 J Jx 1) (by exact Va) rfl rfl rfl (fun w5 x5 => hy 1 w5 (by omega) (hJ 1 _ w5 h1 x5)) ?_
  rintro e w5 (⟨rfl, _, hJ5⟩ | ⟨rfl, hJ5⟩)
  rotate_left
  · refine ⟨_, rfl, ?_⟩
    refine LY_end ?_
    repeat (first | refine Vx ?_ | (apply Ops_q; (case hon => exact Va); (case hd => rfl); (case hq => exact YlA)) | refine Vr ?_ | refine Vt ?_ | refine Vf ?_ | refine Vm ?_ | refine Ve ?_ | refine Vo ?_ | refine Vz ?_ | refine Vn ?_)
    refine ret0 (by first | exact .inl rfl | exact .inr rfl) rfl ?_
    exact fun w' hw => ⟨⟨_, rfl⟩, .inr (hJx _ _ hJ5 hw)⟩
  refine ⟨_, rfl, ?_⟩
  obtain ⟨k1, k2⟩ := hB 2 w5 hJ5
  refine LY_ops 8 (K := fun m' w' => Sub [(26, .int .i64 (sg x.router y.router)), (21, .func (.yield l) #[] #[]), (20, .bool true), (0, .func (.yield l) #[] #[]), (1, .pointer (some ⟨b1, 0, none⟩)), (2, .pointer (some ⟨b2, 0, none⟩))] m' ∧ J 2 w') ?_ ?_
  · repeat (first | refine Vx ?_ | (apply Ops_q; (case hon => exact Va); (case hd => rfl); (case hq => exact YlA)) | refine Vr ?_ | refine Vt ?_ | refine Vf ?_ | refine Vm ?_ | refine Ve ?_ | refine Vo ?_ | refine Vz ?_ | refine Vn ?_)
    (apply Ops_q; (case hon => (exact Va)); (case hd => rfl); (case hq => exact Yl_call rfl (fun w_ e_ => cmpU_v x.router y.router w_)))
    repeat (first | refine Vx ?_ | (apply Ops_q; (case hon => exact Va); (case hd => rfl); (case hq => exact YlA)) | refine Vr ?_ | refine Vt ?_ | refine Vf ?_ | refine Vm ?_ | refine Ve ?_ | refine Vo ?_ | refine Vz ?_ | refine Vn ?_)
    exact ⟨(by repeat (first | exact trivial | refine ⟨rfl, ?_⟩)), hJ5⟩
  rintro _ w1 ⟨hs, h1⟩
  refine LY_sub hs ?_
  clear hs k1 k2 hJ5
  refine LY_yield (R := Rounds 3 J Jx 2) (by exact Va) rfl rfl rfl (fun w5 x5 => hy 2 w5 (by omega) (hJ 2 _ w5 h1 x5)) ?_
  rintro e w5 (⟨rfl, _, hJ5⟩ | ⟨rfl, hJ5⟩)
  rotate_left
  · refine ⟨_, rfl, ?_⟩
    refine LY_end ?_
    repeat (first | refine Vx ?_ | (apply Ops_q; (case hon => exact Va); (case hd => rfl); (case hq => exact YlA)) | refine Vr ?_ | refine Vt ?_ | refine Vf ?_ | refine Vm ?_ | refine Ve ?_ | refine Vo ?_ | refine Vz ?_ | refine Vn ?_)
    refine ret0 (by first | exact .inl rfl | exact .inr rfl) rfl ?_
    exact fun w' hw => ⟨⟨_, rfl⟩, .inr (hJx _ _ hJ5 hw)⟩
  refine ⟨_, rfl, ?_⟩
  refine LY_end ?_
  repeat (first | refine Vx ?_ | (apply Ops_q; (case hon => exact Va); (case hd => rfl); (case hq => exact YlA)) | refine Vr ?_ | refine Vt ?_ | refine Vf ?_ | refine Vm ?_ | refine Ve ?_ | refine Vo ?_ | refine Vz ?_ | refine Vn ?_)
  refine ret0 (by first | exact .inl rfl | exact .inr rfl) rfl ?_
  exact fun w' hw => ⟨⟨_, rfl⟩, .inl (hJ _ _ _ hJ5 hw)⟩
set_option maxHeartbeats 2000000 in
theorem routes_iter (b1 b2 : Nat) (x y : Rt) : Iter Try.prog 75 #[.pointer (some ⟨b1, 0, none⟩), .pointer (some ⟨b2, 0, none⟩)] 3 (fun k => [.int .i64 (at3 (cmpP x.p y.p) (sg x.dist y.dist) (sg x.proto y.proto) k)])
    (fun w => Blk w b1 31 [.int .u32 x.p.a, .int .i64 x.p.n, .int .i64 x.proto, .int .i64 x.dist, .int .i64 x.metric, .int .i64 x.tag, .slice x.ao x.hops.length x.c] ∧ Blk w b2 31 [.int .u32 y.p.a, .int .i64 y.p.n, .int .i64 y.proto, .int .i64 y.dist, .int .i64 y.metric, .int .i64 y.tag, .slice y.ao y.hops.length y.c]) := by
  intro l J Jx W hJ hJx hB hy h0
  refine callsR_iff.2 ?_
  show Calls _ _ #[_, _, _] _ _
  refine V_enter (vs := [_, _, _]) Try.func75 rfl Try.ntmps75 (Nat.le_of_ble_eq_true rfl) ?_
  obtain ⟨k1, k2⟩ := hB 0 W h0
  refine V_LY ?_
  refine LY_ops 6 (K := fun m' w' => Sub [(9, .int .i64 (cmpP x.p y.p)), (4, .func (.yield l) #[] #[]), (0, .func (.yield l) #[] #[]), (1, .pointer (some ⟨b1, 0, none⟩)), (2, .pointer (some ⟨b2, 0, none⟩))] m' ∧ J 0 w') ?_ ?_
  · have p1 : Cells W ⟨b1, 0, none⟩ [.int .u32 x.p.a, .int .i64 x.p.n] := k1.part 0 2; have p2 : Cells W ⟨b2, 0, none⟩ [.int .u32 y.p.a, .int .i64 y.p.n] := k2.part 0 2
    repeat (first | refine Vx ?_ | (apply Ops_q; (case hon => exact Va); (case hd => rfl); (case hq => exact YlA)) | refine Vr ?_ | refine Vt ?_ | refine Vf ?_ | refine Vm ?_ | refine Ve ?_ | refine Vo ?_ | refine Vz ?_ | refine Vn ?_)
    (apply Ops_q; (case hon => (exact Va)); (case hd => rfl); (case hq => exact Yl_call rfl (fun w_ e_ => compareP_v x.p y.p w_)))
    repeat (first | refine Vx ?_ | (apply Ops_q; (case hon => exact Va); (case hd => rfl); (case hq => exact YlA)) | refine Vr ?_ | refine Vt ?_ | refine Vf ?_ | refine Vm ?_ | refine Ve ?_ | refine Vo ?_ | refine Vz ?_ | refine Vn ?_)
    exact ⟨(by repeat (first | exact trivial | refine ⟨rfl, ?_⟩)), h0⟩
  rintro _ w1 ⟨hs, h1⟩
  refine LY_sub hs ?_
  clear hs k1 k2
  refine LY_yield (R := Rounds 3 J Jx 0) (by exact Va) rfl rfl rfl (fun w5 x5 => hy 0 w5 (by omega) (hJ 0 _ w5 h1 x5)) ?_
  rintro e w5 (⟨rfl, _, hJ5⟩ | ⟨rfl, hJ5⟩)
  rotate_left
  · refine ⟨_, rfl, ?_⟩
    refine LY_end ?_
    repeat (first | refine Vx ?_ | (apply Ops_q; (case hon => exact Va); (case hd => rfl); (case hq => exact YlA)) | refine Vr ?_ | refine Vt ?_ | refine Vf ?_ | refine Vm ?_ | refine Ve ?_ | refine Vo ?_ | refine Vz ?_ | refine Vn ?_)
    refine ret0 (by first | exact .inl rfl | exact .inr rfl) rfl ?_
    exact fun w' hw => ⟨⟨_, rfl⟩, .inr (hJx _ _ hJ5 hw)⟩
  refine ⟨_, rfl, ?_⟩
  obtain ⟨k1, k2⟩ := hB 1 w5 hJ5
  refine LY_ops 7 (K := fun m' w' => Sub [(17, .int .i64 (sg x.dist y.dist)), (12, .func (.yield l) #[] #[]), (11, .bool true), (0, .func (.yield l) #[] #[]), (1, .pointer (some ⟨b1, 0, none⟩)), (2, .pointer (some ⟨b2, 0, none⟩))] m' ∧ J 1 w') ?_ ?_
  · repeat (first | refine Vx ?_ | (apply Ops_q; (case hon => exact Va); (case hd => rfl); (case hq => exact YlA)) | refine Vr ?_ | refine Vt ?_ | refine Vf ?_ | refine Vm ?_ | refine Ve ?_ | refine Vo ?_ | refine Vz ?_ | refine Vn ?_)
    (apply Ops_q; (case hon => (exact Va)); (case hd => rfl); (case hq => exact Yl_call rfl (fun w_ e_ => cmpI_v x.dist y.dist w_)))
    repeat (first | refine Vx ?_ | (apply Ops_q; (case hon => exact Va); (case hd => rfl); (case hq => exact YlA)) | refine Vr ?_ | refine Vt ?_ | refine Vf ?_ | refine Vm ?_ | refine Ve ?_ | refine Vo ?_ | refine Vz ?_ | refine Vn ?_)
    exact ⟨(by repeat (first | exact trivial | refine ⟨rfl, ?_⟩)), hJ5⟩
  rintro _ w1 ⟨hs, h1⟩
  refine LY_sub hs ?_
  clear hs k1 k2 hJ5
  refine LY_yield (R := Rounds 3 J Jx 1) (by exact Va) rfl rfl rfl (fun w5 x5 => hy 1 w5 (by omega) (hJ 1 _ w5 h1 x5)) ?_
  rintro e w5 (⟨rfl, _, hJ5⟩ | ⟨rfl, hJ5⟩)
  rotate_left
  · refine ⟨_, rfl, ?_⟩
    refine LY_end ?_
    repeat (first | refine Vx ?_ | (apply Ops_q; (case hon => exact Va); (case hd => rfl); (case hq => exact YlA)) | refine Vr ?_ | refine Vt ?_ | refine Vf ?_ | refine Vm ?_ | refine Ve ?_ | refine Vo ?_ | refine Vz ?_ | refine Vn ?_)
    refine ret0 (by first | exact .inl rfl | exact .inr rfl) rfl ?_
    exact fun w' hw => ⟨⟨_, rfl⟩, .inr (hJx _ _ hJ5 hw)⟩
  refine ⟨_, rfl, ?_⟩
  obtain ⟨k1, k2⟩ := hB 2 w5 hJ5
  refine LY_ops 8 (K := fun m' w' => Sub [(26, .int .i64 (sg x.proto y.proto)), (21, .func (.yield l) #[] #[]), (20, .bool true), (0, .func (.yield l) #[] #[]), (1, .pointer (some ⟨b1, 0, none⟩)), (2, .pointer (some ⟨b2, 0, none⟩))] m' ∧ J 2 w') ?_ ?_
  · repeat (first | refine Vx ?_ | (apply Ops_q; (case hon => exact Va); (case hd => rfl); (case hq => exact YlA)) | refine Vr ?_ | refine Vt ?_ | refine Vf ?_ | refine Vm ?_ | refine Ve ?_ | refine Vo ?_ | refine Vz ?_ | refine Vn ?_)
    (apply Ops_q; (case hon => (exact Va)); (case hd => rfl); (case hq => exact Yl_call rfl (fun w_ e_ => cmpI_v x.proto y.proto w_)))
    repeat (first | refine Vx ?_ | (apply Ops_q; (case hon => exact Va); (case hd => rfl); (case hq => exact YlA)) | refine Vr ?_ | refine Vt ?_ | refine Vf ?_ | refine Vm ?_ | refine Ve ?_ | refine Vo ?_ | refine Vz ?_ | refine Vn ?_)
    exact ⟨(by repeat (first | exact trivial | refine ⟨rfl, ?_⟩)), hJ5⟩
  rintro _ w1 ⟨hs, h1⟩
  refine LY_sub hs ?_
  clear hs k1 k2 hJ5
  refine LY_yield (R := Rounds 3 J Jx 2) (by exact Va) rfl rfl rfl (fun w5 x5 => hy 2 w5 (by omega) (hJ 2 _ w5 h1 x5)) ?_
  rintro e w5 (⟨rfl, _, hJ5⟩ | ⟨rfl, hJ5⟩)
  rotate_left
  · refine ⟨_, rfl, ?_⟩
    refine LY_end ?_
    repeat (first | refine Vx ?_ | (apply Ops_q; (case hon => exact Va); (case hd => rfl); (case hq => exact YlA)) | refine Vr ?_ | refine Vt ?_ | refine Vf ?_ | refine Vm ?_ | refine Ve ?_ | refine Vo ?_ | refine Vz ?_ | refine Vn ?_)
    refine ret0 (by first | exact .inl rfl | exact .inr rfl) rfl ?_
    exact fun w' hw => ⟨⟨_, rfl⟩, .inr (hJx _ _ hJ5 hw)⟩
  refine ⟨_, rfl, ?_⟩
  refine LY_end ?_
  repeat (first | refine Vx ?_ | (apply Ops_q; (case hon => exact Va); (case hd => rfl); (case hq => exact YlA)) | refine Vr ?_ | refine Vt ?_ | refine Vf ?_ | refine Vm ?_ | refine Ve ?_ | refine Vo ?_ | refine Vz ?_ | refine Vn ?_)
  refine ret0 (by first | exact .inl rfl | exact .inr rfl) rfl ?_
  exact fun w' hw => ⟨⟨_, rfl⟩, .inl (hJ _ _ _ hJ5 hw)⟩
theorem compareHops_v (x y : Nh) (w : World) : Calls Try.prog 73 #[x.val, y.val] w (Ret (.int .i64 (cmpH x y)) w) := by
  refine V_enter (vs := [_, _]) Try.func73 rfl Try.ntmps73 (Nat.le_of_ble_eq_true rfl) ?_
  repeat (first | refine Vx ?_ | (apply Ops_q; (case hon => exact Va); (case hd => rfl); (case hq => exact YlA)) | refine Vr ?_ | refine Vt ?_ | refine Vf ?_ | refine Vm ?_ | refine Ve ?_ | refine Vo ?_ | refine Vz ?_ | refine Vn ?_)
  (refine Ops_box (by exact Va) rfl rfl rfl ?_; intro w1 b1 n_b1; have k_b1 := n_b1.blk)
  repeat (first | refine Vx ?_ | (apply Ops_q; (case hon => exact Va); (case hd => rfl); (case hq => exact YlA)) | refine Vr ?_ | refine Vt ?_ | refine Vf ?_ | refine Vm ?_ | refine Ve ?_ | refine Vo ?_ | refine Vz ?_ | refine Vn ?_)
  (refine Ops_box (by exact Va) rfl rfl rfl ?_; intro w2 b2 n_b2; have k_b2 := n_b2.blk)
  replace k_b1 := k_b1.ext n_b2.ext
  have x2 := n_b1.ext.trans n_b2.ext
  clear n_b1 n_b2
  repeat (first | refine Vx ?_ | (apply Ops_q; (case hon => exact Va); (case hd => rfl); (case hq => exact YlA)) | refine Vr ?_ | refine Vt ?_ | refine Vf ?_ | refine Vm ?_ | refine Ve ?_ | refine Vo ?_ | refine Vz ?_ | refine Vn ?_)
  have hf := fun (w_ : World) (e_ : Ext w2 w_) => first_v 93 [.pointer (some ⟨b1, 0, none⟩), .pointer (some ⟨b2, 0, none⟩)] _ _ _ _ (fun u v ⟨h1, h2⟩ he => ⟨h1.ext he, h2.ext he⟩) (fun l u v ⟨h1, h2⟩ ht => ⟨ht.blk h1, ht.blk h2⟩) (hops_iter b1 b2 x y) w_ ⟨k_b1.ext e_, k_b2.ext e_⟩
  (apply Ops_q; (case hon => (exact Va)); (case hd => rfl); (case hq => exact Yl_call rfl (fun w_ e_ => hf w_ e_)))
  repeat (first | refine Vx ?_ | (apply Ops_q; (case hon => exact Va); (case hd => rfl); (case hq => exact YlA)) | refine Vr ?_ | refine Vt ?_ | refine Vf ?_ | refine Vm ?_ | refine Ve ?_ | refine Vo ?_ | refine Vz ?_ | refine Vn ?_)
  refine ret1 (by first | exact .inl rfl | exact .inr rfl) rfl rfl ?_
  exact Ret_mk rfl x2
theorem compareRt_v (x y : Rt) (w : World) : Calls Try.prog 54 #[x.val, y.val] w (Ret (.int .i64 (cmpR x y)) w) := by
  refine V_enter (vs := [_, _]) Try.func54 rfl Try.ntmps54 (Nat.le_of_ble_eq_true rfl) ?_
  repeat (first | refine Vx ?_ | (apply Ops_q; (case hon => exact Va); (case hd => rfl); (case hq => exact YlA)) | refine Vr ?_ | refine Vt ?_ | refine Vf ?_ | refine Vm ?_ | refine Ve ?_ | refine Vo ?_ | refine Vz ?_ | refine Vn ?_)
  (refine Ops_box (by exact Va) rfl rfl rfl ?_; intro w1 b1 n_b1; have k_b1 := n_b1.blk)
  repeat (first | refine Vx ?_ | (apply Ops_q; (case hon => exact Va); (case hd => rfl); (case hq => exact YlA)) | refine Vr ?_ | refine Vt ?_ | refine Vf ?_ | refine Vm ?_ | refine Ve ?_ | refine Vo ?_ | refine Vz ?_ | refine Vn ?_)
  (refine Ops_box (by exact Va) rfl rfl rfl ?_; intro w2 b2 n_b2; have k_b2 := n_b2.blk)
  replace k_b1 := k_b1.ext n_b2.ext
  have x2 := n_b1.ext.trans n_b2.ext
  clear n_b1 n_b2
  repeat (first | refine Vx ?_ | (apply Ops_q; (case hon => exact Va); (case hd => rfl); (case hq => exact YlA)) | refine Vr ?_ | refine Vt ?_ | refine Vf ?_ | refine Vm ?_ | refine Ve ?_ | refine Vo ?_ | refine Vz ?_ | refine Vn ?_)
  have hf := fun (w_ : World) (e_ : Ext w2 w_) => first_v 75 [.pointer (some ⟨b1, 0, none⟩), .pointer (some ⟨b2, 0, none⟩)] _ _ _ _ (fun u v ⟨h1, h2⟩ he => ⟨h1.ext he, h2.ext he⟩) (fun l u v ⟨h1, h2⟩ ht => ⟨ht.blk h1, ht.blk h2⟩) (routes_iter b1 b2 x y) w_ ⟨k_b1.ext e_, k_b2.ext e_⟩
  (apply Ops_q; (case hon => (exact Va)); (case hd => rfl); (case hq => exact Yl_call rfl (fun w_ e_ => hf w_ e_)))
  repeat (first | refine Vx ?_ | (apply Ops_q; (case hon => exact Va); (case hd => rfl); (case hq => exact YlA)) | refine Vr ?_ | refine Vt ?_ | refine Vf ?_ | refine Vm ?_ | refine Ve ?_ | refine Vo ?_ | refine Vz ?_ | refine Vn ?_)
  refine ret1 (by first | exact .inl rfl | exact .inr rfl) rfl rfl ?_
  exact Ret_mk rfl x2
end Go.Proofs.Ytkdjbddjblahkaa

/-
  Routes (layer 48): the checks of a hop and of a route alone, of the program and of the reference.
  Conditions: addresses and routers are numbers of 32 bits; lists are not too long for a machine.
-/
namespace Go.Proofs.Ytkdjbddjblahkaa
open Go.RowKit

/-! ### The first of some errors -/
def firstE (f : Nat → Int) : Nat → Int
  | 0 => 0
  | k + 1 => if firstE f k ≠ 0 then firstE f k else f k
section
variable {f : Nat → Int} {k : Nat}
theorem firstE_go (h : firstE f k = 0) (h2 : f k = 0) : firstE f (k + 1) = 0 := by rw [firstE, if_neg (fun h3 => h3 h)]; exact h2
theorem firstE_stop (h : firstE f k = 0) (h2 : f k ≠ 0) : ∀ {n}, k < n → firstE f n = f k
  | 0, hn => absurd hn (Nat.not_lt_zero _)
  | n + 1, hn => by
    rcases Nat.lt_or_ge k n with h1 | h1
    · have := firstE_stop h h2 h1
      rw [firstE, if_pos (by rw [this]; exact h2), this]
    · have e : n = k := by omega
      subst e
      rw [firstE, if_neg (fun h3 => h3 h)]
theorem firstE_zero : ∀ {n}, firstE f n = 0 → ∀ k, k < n → f k = 0
  | 0, _, k, hk => absurd hk (Nat.not_lt_zero _)
  | n + 1, h, k, hk => by
    rw [firstE] at h
    by_cases h1 : firstE f n = 0
    · rw [if_neg (fun h3 => h3 h1)] at h
      rcases Nat.lt_or_ge k n with h2 | h2
      · exact firstE_zero h1 k h2
      · rw [show k = n by omega]; exact h
    · rw [if_pos h1] at h; exact absurd h h1
theorem firstE_all : ∀ {n}, (∀ k, k < n → f k = 0) → firstE f n = 0
  | 0, _ => rfl
  | n + 1, h => firstE_go (firstE_all fun k hk => h k (Nat.lt_succ_of_lt hk)) (h n (Nat.lt_succ_self n))
end
/-! ### A hop's error -/
def badH (h : Nh) : Prop := h.iface < -1 ∨ 15 < h.iface ∨ h.weight < 1 ∨ 255 < h.weight
instance (h : Nh) : Decidable (badH h) := by unfold badH; exact inferInstance
def errH (L : List Nh) (k : Nat) : Int := match L[k]? with
  | some h => if badH h then 5 else if h.via.valid = false then 1 else if 0 < k ∧ 0 ≤ cmpH (L.getD (k - 1) h) h then 16 else 0
  | none => 0
section
variable {L : List Nh} {k : Nat} {h g : Nh}
theorem errH_bad (hk : L[k]? = some h) (h1 : badH h) : errH L k = 5 := by rw [errH, hk]; exact if_pos h1
theorem errH_via (hk : L[k]? = some h) (h1 : ¬badH h) (h2 : h.via.valid = false) : errH L k = 1 := by
  rw [errH, hk]; dsimp only; rw [if_neg h1, if_pos h2]
theorem errH_zero (hk : L[k]? = some h) (h1 : ¬badH h) (h2 : h.via.valid = true) (h3 : k = 0) : errH L k = 0 := by
  rw [errH, hk]; dsimp only; rw [if_neg h1, if_neg (by rw [h2]; decide), if_neg (by omega)]
theorem errH_ord (hk : L[k]? = some h) (hg : L[k - 1]? = some g) (h1 : ¬badH h) (h2 : h.via.valid = true) (h3 : 0 < k) (h4 : 0 ≤ cmpH g h) : errH L k = 16 := by
  rw [errH, hk]; dsimp only; rw [if_neg h1, if_neg (by rw [h2]; decide), List.getD_eq_getElem?_getD, hg, if_pos ⟨h3, h4⟩]
theorem errH_ok (hk : L[k]? = some h) (hg : L[k - 1]? = some g) (h1 : ¬badH h) (h2 : h.via.valid = true) (h4 : ¬0 ≤ cmpH g h) : errH L k = 0 := by
  rw [errH, hk]; dsimp only; rw [if_neg h1, if_neg (by rw [h2]; decide), List.getD_eq_getElem?_getD, hg, if_neg (fun h => h4 h.2)]
end
/-! ### A route's error -/
def badK (r : Rt) : Prop := r.proto < 1 ∨ 7 < r.proto
instance (r : Rt) : Decidable (badK r) := by unfold badK; exact inferInstance
def badN (r : Rt) : Prop := (r.dist < 0 ∨ 255 < r.dist) ∨ (r.metric < 0 ∨ 16777216 < r.metric) ∨ (r.tag < 0 ∨ 4294967295 < r.tag)
instance (r : Rt) : Decidable (badN r) := by unfold badN; exact inferInstance
def errT (r : Rt) : Int := if r.p.valid = false then 1 else if badK r then 15 else if badN r then 5 else if 64 < r.hops.length then 4 else firstE (errH r.hops) r.hops.length
section
variable {r : Rt}
theorem errT_p (h : r.p.valid = false) : errT r = 1 := if_pos h
theorem errT_k (h : r.p.valid = true) (h2 : badK r) : errT r = 15 := by rw [errT, if_neg (by rw [h]; decide), if_pos h2]
theorem errT_n (h : r.p.valid = true) (h2 : ¬badK r) (h3 : badN r) : errT r = 5 := by rw [errT, if_neg (by rw [h]; decide), if_neg h2, if_pos h3]
theorem errT_l (h : r.p.valid = true) (h2 : ¬badK r) (h3 : ¬badN r) (h4 : 64 < r.hops.length) : errT r = 4 := by rw [errT, if_neg (by rw [h]; decide), if_neg h2, if_neg h3, if_pos h4]
theorem errT_h (h : r.p.valid = true) (h2 : ¬badK r) (h3 : ¬badN r) (h4 : ¬64 < r.hops.length) : errT r = firstE (errH r.hops) r.hops.length := by rw [errT, if_neg (by rw [h]; decide), if_neg h2, if_neg h3, if_neg h4]
end
theorem outside_v (n lo hi : Int) (w : World) : Calls Try.prog 72 #[.int .i64 n, .int .i64 lo, .int .i64 hi] w (Ret (.bool (decide (n < lo ∨ hi < n))) w) := by
  refine V_enter (vs := [_, _, _]) Try.func72 rfl Try.ntmps72 (Nat.le_of_ble_eq_true rfl) ?_
  repeat (first | refine Vx ?_ | (apply Ops_q; (case hon => exact Va); (case hd => rfl); (case hq => exact YlA)) | refine Vr ?_ | refine Vt ?_ | refine Vf ?_ | refine Vm ?_ | refine Ve ?_ | refine Vo ?_ | refine Vz ?_ | refine Vn ?_)
  by_cases t1 : n < lo
  · have d1 : decide (n < lo) = true := decide_eq_true t1
    refine Ops_know rfl rfl d1 ?_
    repeat (first | refine Vx ?_ | (apply Ops_q; (case hon => exact Va); (case hd => rfl); (case hq => exact YlA)) | refine Vr ?_ | refine Vt ?_ | refine Vf ?_ | refine Vm ?_ | refine Ve ?_ | refine Vo ?_ | refine Vz ?_ | refine Vn ?_)
    refine ret1 (by first | exact .inl rfl | exact .inr rfl) rfl rfl ?_
    exact Ret_mk (by rw [decide_eq_true (Or.inl t1)]) (Ext.refl _)
  · have d1 : decide (n < lo) = false := decide_eq_false t1
    refine Ops_know rfl rfl d1 ?_
    repeat (first | refine Vx ?_ | (apply Ops_q; (case hon => exact Va); (case hd => rfl); (case hq => exact YlA)) | refine Vr ?_ | refine Vt ?_ | refine Vf ?_ | refine Vm ?_ | refine Ve ?_ | refine Vo ?_ | refine Vz ?_ | refine Vn ?_)
    refine ret1 (by first | exact .inl rfl | exact .inr rfl) rfl rfl ?_
    exact Ret_mk (by rw [decide_eq_decide.2 (show hi < n ↔ (n < lo ∨ hi < n) from ⟨.inr, fun h => h.resolve_left t1⟩)]) (Ext.refl _)
set_option maxHeartbeats 2000000 in
theorem checkRoute_v (r : Rt) (w : World) (hr : RtM w r) : Calls Try.prog 53 #[r.val] w (Ret (.int .i64 (errT r)) w) := by
  obtain ⟨hH, hnil, hcap, hpa, hok⟩ := hr
  refine V_enter (vs := [_]) Try.func53 rfl Try.ntmps53 (Nat.le_of_ble_eq_true rfl) ?_
  repeat (first | refine Vx ?_ | (apply Ops_q; (case hon => exact Va); (case hd => rfl); (case hq => exact YlA)) | refine Vr ?_ | refine Vt ?_ | refine Vf ?_ | refine Vm ?_ | refine Ve ?_ | refine Vo ?_ | refine Vz ?_ | refine Vn ?_)
  (refine Ops_box (by exact Va) rfl rfl rfl ?_; intro w1 b1 n_b1; have k_b1 := n_b1.blk)
  have x1 := n_b1.ext
  clear n_b1
  have hH1 := hH.ext x1
  have hp1 : Cells w1 ⟨b1, 0, none⟩ [.int .u32 r.p.a, .int .i64 r.p.n] := k_b1.part 0 2
  repeat (first | refine Vx ?_ | (apply Ops_q; (case hon => exact Va); (case hd => rfl); (case hq => exact YlA)) | refine Vr ?_ | refine Vt ?_ | refine Vf ?_ | refine Vm ?_ | refine Ve ?_ | refine Vo ?_ | refine Vz ?_ | refine Vn ?_)
  (apply Ops_q; (case hon => (exact Va)); (case hd => rfl); (case hq => exact Yl_call rfl (fun w_ e_ => valid_v r.p w_ hpa)))
  repeat (first | refine Vx ?_ | (apply Ops_q; (case hon => exact Va); (case hd => rfl); (case hq => exact YlA)) | refine Vr ?_ | refine Vt ?_ | refine Vf ?_ | refine Vm ?_ | refine Ve ?_ | refine Vo ?_ | refine Vz ?_ | refine Vn ?_)
  cases hv : r.p.valid with
  | false =>
    repeat (first | refine Vx ?_ | (apply Ops_q; (case hon => exact Va); (case hd => rfl); (case hq => exact YlA)) | refine Vr ?_ | refine Vt ?_ | refine Vf ?_ | refine Vm ?_ | refine Ve ?_ | refine Vo ?_ | refine Vz ?_ | refine Vn ?_)
    refine ret1 (by first | exact .inl rfl | exact .inr rfl) rfl rfl ?_
    exact Ret_mk (by rw [errT_p hv]) x1
  | true =>
  repeat (first | refine Vx ?_ | (apply Ops_q; (case hon => exact Va); (case hd => rfl); (case hq => exact YlA)) | refine Vr ?_ | refine Vt ?_ | refine Vf ?_ | refine Vm ?_ | refine Ve ?_ | refine Vo ?_ | refine Vz ?_ | refine Vn ?_)
  (apply Ops_q; (case hon => (exact Va)); (case hd => rfl); (case hq => exact Yl_call rfl (fun w_ e_ => outside_v r.proto 1 7 w_)))
  repeat (first | refine Vx ?_ | (apply Ops_q; (case hon => exact Va); (case hd => rfl); (case hq => exact YlA)) | refine Vr ?_ | refine Vt ?_ | refine Vf ?_ | refine Vm ?_ | refine Ve ?_ | refine Vo ?_ | refine Vz ?_ | refine Vn ?_)
  by_cases t1 : badK r
  · have d1 : decide (r.proto < 1 ∨ 7 < r.proto) = true := decide_eq_true t1
    refine V_yes rfl d1 ?_
    repeat (first | refine Vx ?_ | (apply Ops_q; (case hon => exact Va); (case hd => rfl); (case hq => exact YlA)) | refine Vr ?_ | refine Vt ?_ | refine Vf ?_ | refine Vm ?_ | refine Ve ?_ | refine Vo ?_ | refine Vz ?_ | refine Vn ?_)
    refine ret1 (by first | exact .inl rfl | exact .inr rfl) rfl rfl ?_
    exact Ret_mk (by rw [errT_k hv t1]) x1
  have d1 : decide (r.proto < 1 ∨ 7 < r.proto) = false := decide_eq_false t1
  refine V_no rfl d1 ?_
  repeat (first | refine Vx ?_ | (apply Ops_q; (case hon => exact Va); (case hd => rfl); (case hq => exact YlA)) | refine Vr ?_ | refine Vt ?_ | refine Vf ?_ | refine Vm ?_ | refine Ve ?_ | refine Vo ?_ | refine Vz ?_ | refine Vn ?_)
  (apply Ops_q; (case hon => (exact Va)); (case hd => rfl); (case hq => exact Yl_call rfl (fun w_ e_ => outside_v r.dist 0 255 w_)))
  repeat (first | refine Vx ?_ | (apply Ops_q; (case hon => exact Va); (case hd => rfl); (case hq => exact YlA)) | refine Vr ?_ | refine Vt ?_ | refine Vf ?_ | refine Vm ?_ | refine Ve ?_ | refine Vo ?_ | refine Vz ?_ | refine Vn ?_)
  by_cases t2 : r.dist < 0 ∨ 255 < r.dist
  · have d2 : decide (r.dist < 0 ∨ 255 < r.dist) = true := decide_eq_true t2
    refine Ops_know rfl rfl d2 ?_
    repeat (first | refine Vx ?_ | (apply Ops_q; (case hon => exact Va); (case hd => rfl); (case hq => exact YlA)) | refine Vr ?_ | refine Vt ?_ | refine Vf ?_ | refine Vm ?_ | refine Ve ?_ | refine Vo ?_ | refine Vz ?_ | refine Vn ?_)
    refine ret1 (by first | exact .inl rfl | exact .inr rfl) rfl rfl ?_
    exact Ret_mk (by rw [errT_n hv t1 (.inl t2)]) x1
  have d2 : decide (r.dist < 0 ∨ 255 < r.dist) = false := decide_eq_false t2
  refine Ops_know rfl rfl d2 ?_
  repeat (first | refine Vx ?_ | (apply Ops_q; (case hon => exact Va); (case hd => rfl); (case hq => exact YlA)) | refine Vr ?_ | refine Vt ?_ | refine Vf ?_ | refine Vm ?_ | refine Ve ?_ | refine Vo ?_ | refine Vz ?_ | refine Vn ?_)
  (apply Ops_q; (case hon => (exact Va)); (case hd => rfl); (case hq => exact Yl_call rfl (fun w_ e_ => outside_v r.metric 0 16777216 w_)))
  repeat (first | refine Vx ?_ | (apply Ops_q; (case hon => exact Va); (case hd => rfl); (case hq => exact YlA)) | refine Vr ?_ | refine Vt ?_ | refine Vf ?_ | refine Vm ?_ | refine Ve ?_ | refine Vo ?_ | refine Vz ?_ | refine Vn ?_)
  by_cases t3 : r.metric < 0 ∨ 16777216 < r.metric
  · have d3 : decide (r.metric < 0 ∨ 16777216 < r.metric) = true := decide_eq_true t3
    refine Ops_know rfl rfl d3 ?_
    repeat (first | refine Vx ?_ | (apply Ops_q; (case hon => exact Va); (case hd => rfl); (case hq => exact YlA)) | refine Vr ?_ | refine Vt ?_ | refine Vf ?_ | refine Vm ?_ | refine Ve ?_ | refine Vo ?_ | refine Vz ?_ | refine Vn ?_)
    refine ret1 (by first | exact .inl rfl | exact .inr rfl) rfl rfl ?_
    exact Ret_mk (by rw [errT_n hv t1 (.inr (.inl t3))]) x1
  have d3 : decide (r.metric < 0 ∨ 16777216 < r.metric) = false := decide_eq_false t3
  refine Ops_know rfl rfl d3 ?_
  repeat (first | refine Vx ?_ | (apply Ops_q; (case hon => exact Va); (case hd => rfl); (case hq => exact YlA)) | refine Vr ?_ | refine Vt ?_ | refine Vf ?_ | refine Vm ?_ | refine Ve ?_ | refine Vo ?_ | refine Vz ?_ | refine Vn ?_)
  (apply Ops_q; (case hon => (exact Va)); (case hd => rfl); (case hq => exact Yl_call rfl (fun w_ e_ => outside_v r.tag 0 4294967295 w_)))
  repeat (first | refine Vx ?_ | (apply Ops_q; (case hon => exact Va); (case hd => rfl); (case hq => exact YlA)) | refine Vr ?_ | refine Vt ?_ | refine Vf ?_ | refine Vm ?_ | refine Ve ?_ | refine Vo ?_ | refine Vz ?_ | refine Vn ?_)
  by_cases t4 : r.tag < 0 ∨ 4294967295 < r.tag
  · have d4 : decide (r.tag < 0 ∨ 4294967295 < r.tag) = true := decide_eq_true t4
    refine V_yes rfl d4 ?_
    repeat (first | refine Vx ?_ | (apply Ops_q; (case hon => exact Va); (case hd => rfl); (case hq => exact YlA)) | refine Vr ?_ | refine Vt ?_ | refine Vf ?_ | refine Vm ?_ | refine Ve ?_ | refine Vo ?_ | refine Vz ?_ | refine Vn ?_)
    refine ret1 (by first | exact .inl rfl | exact .inr rfl) rfl rfl ?_
    exact Ret_mk (by rw [errT_n hv t1 (.inr (.inr t4))]) x1
  have d4 : decide (r.tag < 0 ∨ 4294967295 < r.tag) = false := decide_eq_false t4
  have hbN : ¬badN r := fun h => by
    rcases h with h | h | h
    · exact t2 h
    · exact t3 h
    · exact t4 h
  refine V_no rfl d4 ?_
  clear d1 d2 d3 d4 t2 t3 t4 hp1
  repeat (first | refine Vx ?_ | (apply Ops_q; (case hon => exact Va); (case hd => rfl); (case hq => exact YlA)) | refine Vr ?_ | refine Vt ?_ | refine Vf ?_ | refine Vm ?_ | refine Ve ?_ | refine Vo ?_ | refine Vz ?_ | refine Vn ?_)
  by_cases t5 : 64 < r.hops.length
  · have d5 : decide ((64 : Int) < (r.hops.length : Int)) = true := decide_eq_true (by omega)
    refine V_yes rfl d5 ?_
    repeat (first | refine Vx ?_ | (apply Ops_q; (case hon => exact Va); (case hd => rfl); (case hq => exact YlA)) | refine Vr ?_ | refine Vt ?_ | refine Vf ?_ | refine Vm ?_ | refine Ve ?_ | refine Vo ?_ | refine Vz ?_ | refine Vn ?_)
    refine ret1 (by first | exact .inl rfl | exact .inr rfl) rfl rfl ?_
    exact Ret_mk (by rw [errT_l hv t1 hbN t5]) x1
  have d5 : decide ((64 : Int) < (r.hops.length : Int)) = false := decide_eq_false (by omega)
  refine V_no rfl d5 ?_
  rw [errT_h hv t1 hbN t5]
  clear d5 hbN t1 hv
  repeat (first | refine Vx ?_ | (apply Ops_q; (case hon => exact Va); (case hd => rfl); (case hq => exact YlA)) | refine Vr ?_ | refine Vt ?_ | refine Vf ?_ | refine Vm ?_ | refine Ve ?_ | refine Vo ?_ | refine Vz ?_ | refine Vn ?_)
  refine V_loop (fun k : Nat => [(36, .int .i64 k), (35, .int .i64 r.hops.length), (34, .slice r.ao r.hops.length r.c), (1, .pointer (some ⟨b1, 0, none⟩))]) (fun k w' => k ≤ r.hops.length ∧ Ext w1 w' ∧ firstE (errH r.hops) k = 0) (fun k => r.hops.length - k) 0 (by repeat (first | exact trivial | refine ⟨rfl, ?_⟩)) ⟨Nat.zero_le _, Ext.refl _, rfl⟩ ?_
  rintro k w2 ⟨hk, x2, hs⟩
  repeat (first | refine Vx ?_ | (apply Ops_q; (case hon => exact Va); (case hd => rfl); (case hq => exact YlA)) | refine Vr ?_ | refine Vt ?_ | refine Vf ?_ | refine Vm ?_ | refine Ve ?_ | refine Vo ?_ | refine Vz ?_ | refine Vn ?_)
  refine V_cond rfl (fun hg => ?_) (fun hg => ?_)
  · have hkl : k < r.hops.length := by have := of_decide_eq_true hg; omega
    clear hg
    obtain ⟨h, hh⟩ : ∃ h, r.hops[k]? = some h := ⟨_, List.getElem?_eq_getElem hkl⟩
    obtain ⟨ad, hao, hc⟩ := hH1.at hh
    have hc2 := hc.ext x2
    obtain ⟨ha, hrt, hva⟩ := hok h (List.mem_of_getElem? hh)
    have kb := k_b1.ext x2
    rw [hao] at kb ⊢
    repeat (first | refine Vx ?_ | (apply Ops_q; (case hon => exact Va); (case hd => rfl); (case hq => exact YlA)) | refine Vr ?_ | refine Vt ?_ | refine Vf ?_ | refine Vm ?_ | refine Ve ?_ | refine Vo ?_ | refine Vz ?_ | refine Vn ?_)
    (apply Ops_q; (case hon => (exact Va)); (case hd => rfl); (case hq => exact Yl_indexS (j := k) rfl rfl (by omega)))
    repeat (first | refine Vx ?_ | (apply Ops_q; (case hon => exact Va); (case hd => rfl); (case hq => exact YlA)) | refine Vr ?_ | refine Vt ?_ | refine Vf ?_ | refine Vm ?_ | refine Ve ?_ | refine Vo ?_ | refine Vz ?_ | refine Vn ?_)
    (refine Ops_alloc (by exact Va) rfl ?_; intro w3 b4 n_b4; have k_b4 := n_b4.blk)
    repeat (first | refine Vx ?_ | (apply Ops_q; (case hon => exact Va); (case hd => rfl); (case hq => exact YlA)) | refine Vr ?_ | refine Vt ?_ | refine Vf ?_ | refine Vm ?_ | refine Ve ?_ | refine Vo ?_ | refine Vz ?_ | refine Vn ?_)
    (refine Ops_store (by exact Va) rfl rfl (by assumption) (by first | rfl | exact OneAll.h) ?_; intro w4 u_w4; have k_b4 := u_w4.blk)
    have y4 := u_w4.below n_b4.ext n_b4.ge
    have x4 := x2.trans y4
    replace kb := kb.ext y4
    have hxt := x1.trans x4
    clear u_w4 n_b4 hc hc2
    have hvia : Cells w4 ⟨b4, 4, none⟩ [.int .u32 h.via.a, .int .i64 h.via.n] := k_b4.part 4 2
    have hbad : ∀ c : Int, errH r.hops k = c → c ≠ 0 → firstE (errH r.hops) r.hops.length = c := fun c h1 h2 => by rw [firstE_stop hs (by rw [h1]; exact h2) hkl, h1]
    repeat (first | refine Vx ?_ | (apply Ops_q; (case hon => exact Va); (case hd => rfl); (case hq => exact YlA)) | refine Vr ?_ | refine Vt ?_ | refine Vf ?_ | refine Vm ?_ | refine Ve ?_ | refine Vo ?_ | refine Vz ?_ | refine Vn ?_)
    (apply Ops_q; (case hon => (exact Va)); (case hd => rfl); (case hq => exact Yl_call rfl (fun w_ e_ => outside_v h.iface (-1) 15 w_)))
    repeat (first | refine Vx ?_ | (apply Ops_q; (case hon => exact Va); (case hd => rfl); (case hq => exact YlA)) | refine Vr ?_ | refine Vt ?_ | refine Vf ?_ | refine Vm ?_ | refine Ve ?_ | refine Vo ?_ | refine Vz ?_ | refine Vn ?_)
    by_cases t1 : h.iface < -1 ∨ 15 < h.iface
    · have d1 : decide (h.iface < -1 ∨ 15 < h.iface) = true := decide_eq_true t1
      refine Ops_know rfl rfl d1 ?_
      repeat (first | refine Vx ?_ | (apply Ops_q; (case hon => exact Va); (case hd => rfl); (case hq => exact YlA)) | refine Vr ?_ | refine Vt ?_ | refine Vf ?_ | refine Vm ?_ | refine Ve ?_ | refine Vo ?_ | refine Vz ?_ | refine Vn ?_)
      refine ret1 (by first | exact .inl rfl | exact .inr rfl) rfl rfl ?_
      exact Ret_mk (by rw [hbad 5 (errH_bad hh (t1.elim .inl (fun q ↦ .inr (.inl q)))) (by decide)]) hxt
    have d1 : decide (h.iface < -1 ∨ 15 < h.iface) = false := decide_eq_false t1
    refine Ops_know rfl rfl d1 ?_
    repeat (first | refine Vx ?_ | (apply Ops_q; (case hon => exact Va); (case hd => rfl); (case hq => exact YlA)) | refine Vr ?_ | refine Vt ?_ | refine Vf ?_ | refine Vm ?_ | refine Ve ?_ | refine Vo ?_ | refine Vz ?_ | refine Vn ?_)
    (apply Ops_q; (case hon => (exact Va)); (case hd => rfl); (case hq => exact Yl_call rfl (fun w_ e_ => outside_v h.weight 1 255 w_)))
    repeat (first | refine Vx ?_ | (apply Ops_q; (case hon => exact Va); (case hd => rfl); (case hq => exact YlA)) | refine Vr ?_ | refine Vt ?_ | refine Vf ?_ | refine Vm ?_ | refine Ve ?_ | refine Vo ?_ | refine Vz ?_ | refine Vn ?_)
    by_cases t2 : h.weight < 1 ∨ 255 < h.weight
    · have d2 : decide (h.weight < 1 ∨ 255 < h.weight) = true := decide_eq_true t2
      refine V_yes rfl d2 ?_
      repeat (first | refine Vx ?_ | (apply Ops_q; (case hon => exact Va); (case hd => rfl); (case hq => exact YlA)) | refine Vr ?_ | refine Vt ?_ | refine Vf ?_ | refine Vm ?_ | refine Ve ?_ | refine Vo ?_ | refine Vz ?_ | refine Vn ?_)
      refine ret1 (by first | exact .inl rfl | exact .inr rfl) rfl rfl ?_
      exact Ret_mk (by rw [hbad 5 (errH_bad hh (.inr (.inr t2))) (by decide)]) hxt
    have d2 : decide (h.weight < 1 ∨ 255 < h.weight) = false := decide_eq_false t2
    have hnb : ¬badH h := fun q => by
      rcases q with q | q | q
      · exact t1 (.inl q)
      · exact t1 (.inr q)
      · exact t2 q
    refine V_no rfl d2 ?_
    clear d1 d2 t1 t2
    repeat (first | refine Vx ?_ | (apply Ops_q; (case hon => exact Va); (case hd => rfl); (case hq => exact YlA)) | refine Vr ?_ | refine Vt ?_ | refine Vf ?_ | refine Vm ?_ | refine Ve ?_ | refine Vo ?_ | refine Vz ?_ | refine Vn ?_)
    (apply Ops_q; (case hon => (exact Va)); (case hd => rfl); (case hq => exact Yl_call rfl (fun w_ e_ => valid_v h.via w_ hva)))
    repeat (first | refine Vx ?_ | (apply Ops_q; (case hon => exact Va); (case hd => rfl); (case hq => exact YlA)) | refine Vr ?_ | refine Vt ?_ | refine Vf ?_ | refine Vm ?_ | refine Ve ?_ | refine Vo ?_ | refine Vz ?_ | refine Vn ?_)
    cases hv : h.via.valid with
    | false =>
      repeat (first | refine Vx ?_ | (apply Ops_q; (case hon => exact Va); (case hd => rfl); (case hq => exact YlA)) | refine Vr ?_ | refine Vt ?_ | refine Vf ?_ | refine Vm ?_ | refine Ve ?_ | refine Vo ?_ | refine Vz ?_ | refine Vn ?_)
      refine ret1 (by first | exact .inl rfl | exact .inr rfl) rfl rfl ?_
      exact Ret_mk (by rw [hbad 1 (errH_via hh hnb hv) (by decide)]) hxt
    | true =>
    repeat (first | refine Vx ?_ | (apply Ops_q; (case hon => exact Va); (case hd => rfl); (case hq => exact YlA)) | refine Vr ?_ | refine Vt ?_ | refine Vf ?_ | refine Vm ?_ | refine Ve ?_ | refine Vo ?_ | refine Vz ?_ | refine Vn ?_)
    rcases Nat.eq_zero_or_pos k with rfl | hkp
    · have d3 : decide ((0 : Int) < ((0 : Nat) : Int)) = false := rfl
      repeat (first | refine Vx ?_ | (apply Ops_q; (case hon => exact Va); (case hd => rfl); (case hq => exact YlA)) | refine Vr ?_ | refine Vt ?_ | refine Vf ?_ | refine Vm ?_ | refine Ve ?_ | refine Vo ?_ | refine Vz ?_ | refine Vn ?_)
      exact ⟨0 + 1, (by repeat (first | exact trivial | refine ⟨rfl, ?_⟩)), ⟨hkl, x4, firstE_go hs (errH_zero hh hnb hv rfl)⟩, by omega⟩
    · have d3 : decide ((0 : Int) < (k : Int)) = true := decide_eq_true (by omega)
      obtain ⟨g, hg⟩ : ∃ g, r.hops[k - 1]? = some g := ⟨_, List.getElem?_eq_getElem (by omega)⟩
      obtain ⟨ad', eA, hcg⟩ := hH1.at hg
      rw [hao] at eA
      cases eA
      have hcg4 := hcg.ext x4
      have ek : (k : Int) - 1 = ((k - 1 : Nat) : Int) := by omega
      refine Ops_know rfl rfl d3 ?_
      repeat (first | refine Vx ?_ | (apply Ops_q; (case hon => exact Va); (case hd => rfl); (case hq => exact YlA)) | refine Vr ?_ | refine Vt ?_ | refine Vf ?_ | refine Vm ?_ | refine Ve ?_ | refine Vo ?_ | refine Vz ?_ | refine Vn ?_)
      rw [ek]
      (apply Ops_q; (case hon => (exact Va)); (case hd => rfl); (case hq => exact Yl_indexS (j := k - 1) rfl rfl (by omega)))
      repeat (first | refine Vx ?_ | (apply Ops_q; (case hon => exact Va); (case hd => rfl); (case hq => exact YlA)) | refine Vr ?_ | refine Vt ?_ | refine Vf ?_ | refine Vm ?_ | refine Ve ?_ | refine Vo ?_ | refine Vz ?_ | refine Vn ?_)
      (apply Ops_q; (case hon => (exact Va)); (case hd => rfl); (case hq => exact Yl_call rfl (fun w_ e_ => compareHops_v g h w_)))
      repeat (first | refine Vx ?_ | (apply Ops_q; (case hon => exact Va); (case hd => rfl); (case hq => exact YlA)) | refine Vr ?_ | refine Vt ?_ | refine Vf ?_ | refine Vm ?_ | refine Ve ?_ | refine Vo ?_ | refine Vz ?_ | refine Vn ?_)
      by_cases t4 : 0 ≤ cmpH g h
      · have d4 : decide (0 ≤ cmpH g h) = true := decide_eq_true t4
        refine V_yes rfl d4 ?_
        repeat (first | refine Vx ?_ | (apply Ops_q; (case hon => exact Va); (case hd => rfl); (case hq => exact YlA)) | refine Vr ?_ | refine Vt ?_ | refine Vf ?_ | refine Vm ?_ | refine Ve ?_ | refine Vo ?_ | refine Vz ?_ | refine Vn ?_)
        refine ret1 (by first | exact .inl rfl | exact .inr rfl) rfl rfl ?_
        exact Ret_mk (by rw [hbad 16 (errH_ord hh hg hnb hv hkp t4) (by decide)]) hxt
      · have d4 : decide (0 ≤ cmpH g h) = false := decide_eq_false t4
        refine V_no rfl d4 ?_
        repeat (first | refine Vx ?_ | (apply Ops_q; (case hon => exact Va); (case hd => rfl); (case hq => exact YlA)) | refine Vr ?_ | refine Vt ?_ | refine Vf ?_ | refine Vm ?_ | refine Ve ?_ | refine Vo ?_ | refine Vz ?_ | refine Vn ?_)
        exact ⟨k + 1, (by repeat (first | exact trivial | refine ⟨rfl, ?_⟩)), ⟨hkl, x4, firstE_go hs (errH_ok hh hg hnb hv t4)⟩, by omega⟩
  · obtain rfl : k = r.hops.length := by have := of_decide_eq_false hg; omega
    have hxt := x1.trans x2
    repeat (first | refine Vx ?_ | (apply Ops_q; (case hon => exact Va); (case hd => rfl); (case hq => exact YlA)) | refine Vr ?_ | refine Vt ?_ | refine Vf ?_ | refine Vm ?_ | refine Ve ?_ | refine Vo ?_ | refine Vz ?_ | refine Vn ?_)
    refine ret1 (by first | exact .inl rfl | exact .inr rfl) rfl rfl ?_
    exact Ret_mk (by rw [hs]) hxt
end Go.Proofs.Ytkdjbddjblahkaa

/-
  The rules for maps of one's own whose keys are structs: making, looking up, adding a key.
  No conditions beyond those that each rule states.
-/
namespace Go.Proofs.Ytkdjbddjblahkaa
open Go.RowKit Go.MapKept

/-- Block b holds a map that has true for the keys of S. -/
def SetS (P : Program) (kt : TypeId) (w : World) (b : Nat) (S : Value → Prop) : Prop :=
  ∃ es clock, w.heap[b]? = some (.map es clock) ∧ (∀ x ∈ es.toList, (∃ l, keyOf P kt x.key = some l) ∧ x.val = .bool true) ∧ ∀ y, S y ↔ ∃ e ∈ es.toList, e.key = y
section
variable {P : Program} {kt : TypeId} {w w' w1 : World} {b : Nat} {S : Value → Prop} {row : Option Nat}
theorem SetS.lt (h : SetS P kt w b S) : b < w.heap.size := by
  obtain ⟨es, clock, hb, _⟩ := h
  exact (Array.getElem?_eq_some_iff.1 hb).1
theorem SetS.ext (h : SetS P kt w b S) (he : Ext w w') : SetS P kt w' b S := by
  obtain ⟨es, clock, hb, h2⟩ := h
  exact ⟨es, clock, he.blk hb, h2⟩
theorem SetS.upd {b' : Nat} {t : TypeId} {cs : List Value} (h : SetS P kt w b S) (hu : Upd w w1 b' t cs) (hne : b ≠ b') : SetS P kt w1 b S := by
  obtain ⟨es, clock, hb, h2⟩ := h
  exact ⟨es, clock, by rw [hu.other b hne]; exact hb, h2⟩
theorem SetS.congr {S' : Value → Prop} (h : SetS P kt w b S) (hs : ∀ y, S' y ↔ S y) : SetS P kt w b S' := by
  obtain ⟨es, clock, hb, h2, h3⟩ := h
  exact ⟨es, clock, hb, h2, fun y => (hs y).trans (h3 y)⟩
end
section
variable {P : Program} {N : Fr} {ops : Array Oper} {K : Env → World → Prop} {m : Env} {w : World} {rest : List Oper} {ty : TypeId} {pos : String} {after : Array Edge} {g : Option (Nat × Bool)} {dst : Option Tmp}
theorem Yl_hasS {t kt et : TypeId} {x i : Operand} {b : Nat} {y : Value} {l : Lit} {zs : List Value} {S : Value → Prop} {c : Bool} [ht : TMap P t kt et] [hz : TZero P et (.bool false) zs] (hk : Maps.Keyed P kt)
    (hx : ev m x = some (.map (some b))) (hi : ev m i = some y) (hy : keyOf P kt y = some l) (hM : SetS P kt w b S) (hc : c = true ↔ S y) : Yl P N m w ⟨dst, .lookup t x i false, ty, pos, after, g⟩ (.bool c) :=
  Yl_of_run fun ac w' ha hw => by
    obtain ⟨es, clock, hb, hks, hF⟩ := hM.ext hw
    have hck := hk.check w' es.isEmpty hy
    rcases hk.find w' hy es.toList (fun e he => (hks e he).1) with ⟨h1, h2⟩ | ⟨j, e, h1, h2, h3⟩
    · have h4 : c = false := by
        cases c with
        | false => rfl
        | true =>
          obtain ⟨e, he, hk⟩ := (hF y).1 (hc.1 rfl)
          exact absurd hk (h2 e he)
      subst h4
      simp [execOp, ha.ev hx, ha.ev hi, Instr.lookup, run_underlying ht.h, MapKept.run_getObj_map hb, hck, h1, run_zero (P := P) (et := et)]
    · have h4 : c = true := hc.2 ((hF y).2 ⟨e, List.mem_of_getElem? h2, h3⟩)
      have h5 := (hks e (List.mem_of_getElem? h2)).2
      subst h4
      simp [execOp, ha.ev hx, ha.ev hi, Instr.lookup, run_underlying ht.h, MapKept.run_getObj_map hb, hck, h1, h5]
theorem Ops_makeSetS {dst : Nat} {t kt et : TypeId} [TMap P t kt et] (hon : On N ops m ⟨some dst, .makeMap t none, ty, pos, after, g⟩) (hd : Nat.ble (dst + 1) N.n = true)
    (h : ∀ w1 b, Ext w w1 → w.heap.size ≤ b → SetS P kt w1 b (fun _ => False) → Ops P N ops false K rest ((dst, .map (some b)) :: m) w1) : Ops P N ops false K (⟨some dst, .makeMap t none, ty, pos, after, g⟩ :: rest) m w := by
  refine ⟨fun a w' ha hw => ?_⟩
  unfold wpList
  rw [if_pos (hon.out a ha)]
  refine .inl ?_
  have hr : (execOp a.eval ⟨some dst, .makeMap t none, ty, pos, after, g⟩).run P w' = .ok (.value (.map (some w'.heap.size))) (w'.alloc (.map #[] 0)) := by
    simp only [execOp, Option.map_none, Sem.run_bind, run_makeMap, Result.andThen_ok]
    first | rfl | simp [run_makeMap]
  unfold Oper.wp
  rw [hr]
  exact (h _ _ (hw.alloc _) hw.size ⟨#[], 0, alloc_heap _ _, by simp, by simp⟩).out _ _ (ha.put (Nat.le_of_ble_eq_true hd) _) (Ext.refl _)
theorem Ops_putS {t kt et : TypeId} {x i u : Operand} {b : Nat} {y : Value} {l : Lit} {S : Value → Prop} [ht : TMap P t kt et] (hk : Maps.Keyed P kt) (hon : On N ops m ⟨none, .mapUpdate t x i u, ty, pos, after, g⟩)
    (hx : ev m x = some (.map (some b))) (hi : ev m i = some y) (hu : ev m u = some (.bool true)) (hy : keyOf P kt y = some l) (hM : SetS P kt w b S) (hn : ¬S y)
    (h : ∀ w1, w.grownBy w1 (some b) → SetS P kt w1 b (fun y' => S y' ∨ y' = y) → Ops P N ops false K rest m w1) : Ops P N ops false K (⟨none, .mapUpdate t x i u, ty, pos, after, g⟩ :: rest) m w := by
  refine ⟨fun a w' ha hw => ?_⟩
  unfold wpList
  rw [if_pos (hon.out a ha)]
  refine .inl ?_
  obtain ⟨es, clock, hb, hks, hF⟩ := hM.ext hw
  have hck := hk.check w' false hy
  have grow : ∀ o, w.grownBy { w' with heap := w'.heap.setIfInBounds b o } (some b) := fun o => grow_ext hw ⟨rfl, rfl, rfl, by simp, fun k hk hne => by
    have : b ≠ k := fun e => hne (by rw [e])
    simp [this]⟩
  have heap : ∀ o, (w'.heap.setIfInBounds b o)[b]? = some o := fun o => (heap_set hb).1
  rcases hk.find w' hy es.toList (fun e he => (hks e he).1) with ⟨h1, h2⟩ | ⟨j, e, h1, h2, h3⟩
  · have hr : (execOp a.eval ⟨none, .mapUpdate t x i u, ty, pos, after, g⟩).run P w' = .ok .skip { w' with heap := w'.heap.setIfInBounds b (.map (es.push { key := y, val := .bool true, born := clock }) (clock + 1)) } := by
      simp [execOp, ha.ev hx, ha.ev hi, ha.ev hu, Instr.mapUpdate, run_underlying ht.h, MapKept.run_getObj_map hb, hck, h1, MapKept.run_setObj_map _ hb]
    unfold Oper.wp
    rw [hr]
    refine (h _ (grow _) ⟨_, _, heap _, ?_, ?_⟩).out _ _ (ha.put_none _) (Ext.refl _)
    · intro x hx
      simp only [Array.toList_push, List.mem_append, List.mem_singleton] at hx
      rcases hx with hx | rfl
      · exact hks x hx
      · exact ⟨⟨l, hy⟩, rfl⟩
    · intro y'
      simp only [Array.toList_push, List.mem_append, List.mem_singleton]
      rw [hF]
      constructor
      · rintro (⟨x, hx, q⟩ | rfl)
        · exact ⟨x, .inl hx, q⟩
        · exact ⟨_, .inr rfl, rfl⟩
      · rintro ⟨x, hx | rfl, q⟩
        · exact .inl ⟨x, hx, q⟩
        · exact .inr q.symm
  · exact absurd ((hF y).2 ⟨e, List.mem_of_getElem? h2, h3⟩) hn
end
end Go.Proofs.Ytkdjbddjblahkaa

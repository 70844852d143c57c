/-
  Part 6 of the texts that the proofs of this seat share: rules of a walk, contracts of functions, plain facts. Each piece says below what it proves.
  No conditions beyond those that each lemma states.
-/
import Derived.Test.YtkiidmbkibfbiaaB5

/-
  Regions that draw their order and hold one store among the first operations, which the loads beside it may follow: what they yield does not hang on it.
  No conditions beyond those that each rule states.
-/
namespace Go.Proofs.Ytkiidmbkibfbiaa
open Go.RowKit

section
variable {P : Program} {md : Region.Mode} {ops : Array Oper}
/-- What the operations do: the store leaves a world of which R is known; loads yield the same in every world that has grown from w0, the others in every world. -/
def storeZ (P : Program) (w0 : World) (R : World → Prop) (o : Oper) (a : Act) (v : Value) : Prop :=
  if isStore o then v = undef ∧ ∀ w', Ext w0 w' → ∃ w'', (execOp a.eval o).run P w' = .ok .skip w'' ∧ R w'' else ∀ w', (Ext w0 w' ∨ R w') → o.quietAt P a (Ext w') w' v
theorem same_storeZ (P : Program) (w0 : World) (R : World → Prop) : Same (storeZ P w0 R) := fun o a a' v he h => by
  unfold storeZ at *
  split at h
  · rename_i hd
    rw [if_pos hd]
    refine ⟨h.1, fun w' hw' => ?_⟩
    rw [he]; exact h.2 w' hw'
  · rename_i hd
    rw [if_neg hd]
    intro w' hw'
    have := h w' hw'
    unfold Oper.quietAt at *
    rwa [he]
theorem storeC_any {n s i0 : Nat} {Q1 : Act → Prop} {Q : Exit → Act → World → Prop} {w0 : World} {R : World → Prop} {pre : Array Oper} (hR : ∀ w w', Ext w w' → R w → R w') (hn : n ≤ ops.size) (hP : ∀ i o, i < n → ops[i]? = some o → pre[i]? = some o)
    (hA : ∀ i, n ≤ i → i < ops.size → ∀ j, j < n → reach ops md 9 i j = true)
    (hE : ∀ i o, ops[i]? = some o → i < n → ∀ e ∈ o.after, Region.binds md e = true → e.on < i)
    (hG : ∀ i o, ops[i]? = some o → i < n → o.guard = none) (h0 : i0 < n)
    (hS : ∀ i o, ops[i]? = some o → i < n → (isStore o = true ↔ i = i0)) (hS0 : ∀ o, ops[i0]? = some o → o.dst = none)
    (last : ∀ a w, R w → Q1 a → wpAny P md ops Q s (upto ops.size n) a w) :
    ∀ (f : Nat) (L L' : Array Bool) (a : Act) (w : World), (L[i0]? = some false → Ext w0 w) → (L[i0]? = some true → R w) → L'.size = n → L.size = ops.size → (∀ j, j < n → L[j]? = L'[j]?) → (∀ j, n ≤ j → j < ops.size → L[j]? = some false) → cnt n L' = f →
      Closed ops md L → anyY md pre (storeZ P w0 R) Q1 f L' a → wpAny P md ops Q (f + s) L a w := by
  intro f
  induction f with
  | zero =>
    intro L L' a w _ hX hs' hs h1 h2 hc hcl h
    have hlist : ∀ j, j < n → L[j]? = some true := fun j hj => by
      rw [h1 j hj]
      have := List.countP_eq_zero.1 hc j (List.mem_range.2 hj)
      have hlt : j < L'.size := by omega
      simp [hlt] at this
      simp [hlt, this]
    have hL : L = upto ops.size n := by
      refine Array.ext_getElem? fun j => ?_
      rcases Nat.lt_or_ge j ops.size with hj | hj
      · rw [upto_get _ _ _ hj]
        rcases Nat.lt_or_ge j n with hjn | hjn
        · rw [hlist j hjn]; simp [hjn]
        · rw [h2 j hjn hj]; simp; omega
      · rw [Array.getElem?_eq_none (by omega), Array.getElem?_eq_none (by rw [upto_size]; omega)]
    rw [Nat.zero_add]
    have hr := hX (hlist i0 h0)
    rw [hL]
    exact last a w hr h.2
  | succ f ih =>
    intro L L' a w hE0 hX hs' hs h1 h2 hc hcl h
    rw [Nat.succ_add]
    have un : ∃ j, j < n ∧ L'[j]? = some false ∧ ∀ k, k < j → L'[k]? = some true := by
      have hpos : 0 < cnt n L' := by omega
      obtain ⟨j, hj, hjf⟩ := List.countP_pos_iff.1 hpos
      have hjn := List.mem_range.1 hj
      have hjl : j < L'.size := by omega
      have hjf' : L'[j]? = some false := by simp [hjl] at hjf ⊢; exact hjf
      clear hj hjf hjl
      induction j using Nat.strongRecOn with
      | ind j ihj =>
        by_cases hall : ∀ k, k < j → L'[k]? = some true
        · exact ⟨j, hjn, hjf', hall⟩
        · obtain ⟨k, hk⟩ := Classical.not_forall.1 hall
          obtain ⟨hkj, hk⟩ := Classical.not_imp.1 hk
          have hkl : k < L'.size := by omega
          refine ihj k hkj (by omega) ?_
          rw [Array.getElem?_eq_getElem hkl] at hk ⊢
          cases hb : L'[k] with
          | true => rw [hb] at hk; exact absurd rfl hk
          | false => rfl
    obtain ⟨j0, hj0, hjf, hbelow⟩ := un
    have on_lt : ∀ {i : Nat} {o : Oper} {e : Edge}, ops[i]? = some o → i < n → e ∈ o.after → Region.binds md e = true → L.getD e.on false = L'.getD e.on false := fun ho hi he hb => by
      have h4 := hE _ _ ho hi _ he hb
      rename_i i1 o1 e1
      have h3 := h1 e1.on (by omega)
      rw [Array.getD_eq_getD_getElem?, Array.getD_eq_getD_getElem?, h3]
    have lt_n : ∀ i, i ∈ Region.ready md ops L → i < n := fun i hi => by
      obtain ⟨_, o, ho, hall⟩ := mem_ready.1 hi
      rcases Nat.lt_or_ge i n with h3 | h3
      · exact h3
      · have hlt : i < ops.size := by
          rcases Nat.lt_or_ge i ops.size with h' | h'
          · exact h'
          · rw [Array.getElem?_eq_none h'] at ho; cases ho
        have := reach_listed hcl 9 i j0 (fun o' ho' => by obtain rfl := Option.some.inj (ho.symm.trans ho'); exact hall) (hA i h3 hlt j0 hj0)
        rw [getD_of ((h1 j0 hj0).trans hjf)] at this
        cases this
    refine ⟨fun hr => ?_, fun i hi => ?_⟩
    · exfalso
      have hmem : j0 ∈ Region.ready md ops L := by
        have hlt : j0 < ops.size := by omega
        refine mem_ready.2 ⟨getD_of ((h1 j0 hj0).trans hjf) _, ops[j0], Array.getElem?_eq_getElem hlt, fun e he hb => ?_⟩
        have hlt' := hE j0 _ (Array.getElem?_eq_getElem hlt) hj0 e he hb
        exact getD_of ((h1 _ (by omega)).trans (hbelow _ hlt')) _
      rw [hr] at hmem; cases hmem
    · have hin' := lt_n i hi
      have hcl' := hcl.set hi
      obtain ⟨hun, o, ho, hall⟩ := mem_ready.1 hi
      have hpo : pre[i]? = some o := hP i o hin' ho
      have hun' : L'.getD i true = false := by
        have := h1 i hin'
        simp only [Array.getD_eq_getD_getElem?, ← this] at hun ⊢; exact hun
      have hi' : i ∈ Region.ready md pre L' := mem_ready.2 ⟨hun', o, hpo, fun e he hb => by rw [← on_lt ho hin' he hb]; exact hall e he hb⟩
      have hq := (stepY_iff hpo).1 (h.2 i hi')
      obtain ⟨v, hv, hK⟩ := hq
      have hset : ∀ j, j < n → (L.setIfInBounds i true)[j]? = (L'.setIfInBounds i true)[j]? := fun j hj => by
        by_cases e : i = j
        · subst e
          have hl1 : i < L.size := by omega
          have hl2 : i < L'.size := by omega
          simp [hl1, hl2]
        · rw [Array.getElem?_setIfInBounds_ne e, Array.getElem?_setIfInBounds_ne e]; exact h1 j hj
      have hset2 : ∀ j, n ≤ j → j < ops.size → (L.setIfInBounds i true)[j]? = some false := fun j hj hjs => by
        rw [Array.getElem?_setIfInBounds_ne (by omega)]; exact h2 j hj hjs
      have hc' : cnt n (L'.setIfInBounds i true) = f := by have := cnt_set n L' i hin' hun'; omega
      have hgn := hG i o ho hin'
      have hwt : ∀ y, Region.wanted o y = true := fun y => by unfold Region.wanted; rw [hgn]
      have hL0 : i0 < L.size := by omega
      unfold wpOp
      simp only [ho]
      rw [if_pos (hwt _)]
      rcases hv with ⟨_, hy⟩ | ⟨hwn, _⟩
      · unfold storeZ at hy
        by_cases hii : i = i0
        · subst hii
          rw [if_pos ((hS i o ho hin').2 rfl)] at hy
          obtain ⟨rfl, hl⟩ := hy
          have hLf : L[i]? = some false := by
            rw [Array.getElem?_eq_getElem hL0]
            have : L[i] = false := by simpa [hL0] using hun
            rw [this]
          obtain ⟨w'', hrun, hRw⟩ := hl w (hE0 hLf)
          refine .inl ?_
          unfold Oper.wp
          rw [hrun]
          show wpAny P md ops Q (f + s) (L.setIfInBounds i true) (a.put o.dst undef) w''
          have hnew : (L.setIfInBounds i true)[i]? = some true := by simp [hL0]
          exact ih _ _ _ w'' (fun h3 => by rw [hnew] at h3; cases h3) (fun _ => hRw) (by simpa using hs') (by simpa using hs) hset hset2 hc' hcl' hK
        · rw [if_neg (fun h3 => hii ((hS i o ho hin').1 h3))] at hy
          have hsame : (L.setIfInBounds i true)[i0]? = L[i0]? := Array.getElem?_setIfInBounds_ne hii
          have hq2 : ∀ w1, Ext w w1 → o.quietAt P a (Ext w1) w1 v := fun w1 hw1 => by
            refine hy w1 ?_
            cases hb : L[i0] with
            | false => exact .inl ((hE0 (by rw [Array.getElem?_eq_getElem hL0, hb])).trans hw1)
            | true => exact .inr (hR _ _ hw1 (hX (by rw [Array.getElem?_eq_getElem hL0, hb])))
          refine .inl (Oper.wp_of_quiet (C := fun w'' => Ext w w'') (K := fun x => x = a.put o.dst v) (Ext.refl w) (fun a1 w1 hw1 e => ?_) ?_)
          · subst e
            exact ih _ _ _ w1 (fun h3 => (hE0 (hsame ▸ h3)).trans hw1) (fun h3 => hR _ _ hw1 (hX (hsame ▸ h3))) (by simpa using hs') (by simpa using hs) hset hset2 hc' hcl' hK
          · refine ⟨v, fun w1 hw1 => ?_, rfl⟩
            have hq1 := hq2 w1 hw1
            unfold Oper.quietAt at hq1 ⊢
            generalize (execOp a.eval o).run P w1 = r at *
            cases r with
            | ok nx w2 =>
              cases nx <;> simp only [Oper.quietUpon] at hq1 ⊢ <;> first | exact hq1 | exact ⟨hq1.1, hq1.2.mono fun e w3 h3 => ⟨h3.1, hw1.trans h3.2⟩⟩
            | halt x w2 => simp only [Oper.quietUpon] at hq1
      · rw [hwt] at hwn; cases hwn

/-! ### The test -/
def storeCB (ops : Array Oper) (n i0 : Nat) : Bool :=
  Nat.ble n ops.size && Region.noSelect ops && Region.lexB .any (ops.toList.take n).toArray && Nat.ble (i0 + 1) n &&
  (List.range ops.size).all (fun i => match ops[i]? with
    | none => true
    | some o => if Nat.ble (i + 1) n then (o.after.all fun e => !Region.binds .any e || Nat.ble (e.on + 1) i) && o.guard.isNone && (isStore o == Nat.beq i i0) && (!isStore o || o.dst.isNone)
      else (List.range n).all fun j => reach ops .any 9 i j) &&
  (List.range ops.size).all (fun k => Nat.ble (k + 1) n || (match Region.ready .any ops (upto ops.size k) with
    | [k'] => Nat.beq k' k
    | _ => false)) &&
  (Region.ready .any ops (upto ops.size ops.size)).isEmpty
theorem wp_storeC {l : List Oper} {n i0 id : Nat} {Q1 : Act → Prop} {Q : Exit → Act → World → Prop} {w0 w : World} {a : Act} {R : World → Prop} (hR : ∀ w w', Ext w w' → R w → R w') (hm : P.follows .mixedOrders = true) (hB : storeCB l.toArray n i0 = true) (hw : Ext w0 w)
    (h : listY (l.take n).toArray (storeZ P w0 R) Q1 (l.take n) a)
    (last : ∀ a w, R w → Q1 a → wpList P l.toArray Q (l.drop n) a w) :
    (Code.region id l.toArray true).wp P Q a w := by
  simp only [storeCB, Bool.and_eq_true] at hB
  obtain ⟨⟨⟨⟨⟨⟨b1, b0⟩, b2⟩, bi⟩, b3⟩, b4⟩, b5⟩ := hB
  have hn : n ≤ l.toArray.size := Nat.le_of_ble_eq_true b1
  have hnl : n ≤ l.length := by simpa using hn
  have at3 : ∀ i o, l.toArray[i]? = some o → _ := fun i o ho => by
    have hlt : i < l.toArray.size := by
      rcases Nat.lt_or_ge i l.toArray.size with h' | h'
      · exact h'
      · rw [Array.getElem?_eq_none h'] at ho; cases ho
    have := List.all_eq_true.1 b3 i (List.mem_range.2 hlt)
    simp only [ho] at this
    exact this
  have pre3 : ∀ i o, l.toArray[i]? = some o → i < n → _ := fun i o ho hi => by
    have := at3 i o ho
    rw [if_pos (Nat.ble_eq_true_of_le hi)] at this
    simp only [Bool.and_eq_true] at this
    exact this
  have hP : ∀ i o, i < n → l.toArray[i]? = some o → (l.take n).toArray[i]? = some o := fun i o hi ho => by
    have : l[i]? = some o := by simpa using ho
    simp [hi, this]
  have hE : ∀ i o, l.toArray[i]? = some o → i < n → ∀ e ∈ o.after, Region.binds .any e = true → e.on < i := fun i o ho hi e he hb => by
    have := Array.all_eq_true_iff_forall_mem.1 (pre3 i o ho hi).1.1.1 e he
    rw [hb, Bool.not_true, Bool.false_or] at this
    exact Nat.le_of_ble_eq_true this
  have hG : ∀ i o, l.toArray[i]? = some o → i < n → o.guard = none := fun i o ho hi => by
    have := (pre3 i o ho hi).1.1.2
    simpa using this
  have hS : ∀ i o, l.toArray[i]? = some o → i < n → (isStore o = true ↔ i = i0) := fun i o ho hi => by
    have := (pre3 i o ho hi).1.2
    have e : isStore o = Nat.beq i i0 := by simpa using this
    rw [e]; exact ⟨Nat.eq_of_beq_eq_true, fun h => by subst h; exact Nat.beq_refl _⟩
  have h0 : i0 < n := Nat.le_of_ble_eq_true bi
  have hS0 : ∀ o, l.toArray[i0]? = some o → o.dst = none := fun o ho => by
    have := (pre3 i0 o ho h0).2
    rw [(hS i0 o ho h0).2 rfl] at this
    simpa using this
  have hA : ∀ i, n ≤ i → i < l.toArray.size → ∀ j, j < n → reach l.toArray .any 9 i j = true := fun i hi his j hj => by
    have := at3 i _ (Array.getElem?_eq_getElem his)
    rw [if_neg (fun hb => by have := Nat.le_of_ble_eq_true hb; omega)] at this
    exact List.all_eq_true.1 this j (List.mem_range.2 hj)
  have hr : ∀ k, n ≤ k → k < l.toArray.size → Region.ready .any l.toArray (upto l.toArray.size k) = [k] := fun k hk hks => by
    have := List.all_eq_true.1 b4 k (List.mem_range.2 hks)
    simp only [Bool.or_eq_true] at this
    rcases this with h' | h'
    · have := Nat.le_of_ble_eq_true h'; omega
    · split at h'
      · rename_i k' he
        rw [he, Nat.eq_of_beq_eq_true h']
      · cases h'
  have he : Region.ready .any l.toArray (upto l.toArray.size l.toArray.size) = [] := by simpa using b5
  simp only [Region.lexB, Bool.and_eq_true] at b2
  have hdl : (l.drop n).length = l.toArray.size - n := by simp
  have hlen : (l.take n).length = n := by simp; omega
  refine wp_region_any hm ?_
  have quiet := anyY_lex (md := .any) (same_storeZ P w0 R) b2.1 (l.take n) 0 (Array.replicate (l.take n).toArray.size false) a (by simp) (by simpa using b2.2) h
  have key := storeC_any (P := P) (md := .any) (ops := l.toArray) (pre := (l.take n).toArray) (n := n) (s := (l.drop n).length) (i0 := i0) (Q := Q) (Q1 := Q1) (w0 := w0) (R := R)
    hR hn hP hA hE hG h0 hS hS0
    (fun a1 w1 hw1 q1 => one_any hr he (l.drop n) n (Nat.le_refl _) (by rw [hdl]; omega) (fun j => by simp) a1 w1
      (last a1 w1 hw1 q1))
  have hcnt : cnt n (Array.replicate (l.take n).toArray.size false) = (l.take n).length := by
    unfold cnt
    rw [List.countP_eq_length.2]
    · rw [hlen]; simp
    · intro j hj
      have := List.mem_range.1 hj
      have h2 : j < (l.take n).toArray.size := by simp; omega
      simp only [Array.getD_eq_getD_getElem?, Array.getElem?_replicate]
      rw [if_pos h2]; rfl
  have hsame : ∀ j, j < n → (Array.replicate l.toArray.size false)[j]? = (Array.replicate (l.take n).toArray.size false)[j]? := fun j hj => by
    have h1 : j < l.length := by omega
    have h2 : j < (l.take n).length := by omega
    simp only [Array.getElem?_replicate]
    rw [if_pos (by simpa using h1), if_pos (by simpa using h2)]
  have hclosed : Closed l.toArray .any (Array.replicate l.toArray.size false) := fun (k : Nat) o hk => by
    simp only [Array.getD_eq_getD_getElem?, Array.getElem?_replicate] at hk
    split at hk <;> simp at hk
  have e : (l.take n).length + (l.drop n).length = l.toArray.size := by rw [hlen, hdl]; omega
  have := key (l.take n).length (Array.replicate l.toArray.size false) (Array.replicate (l.take n).toArray.size false) a { w with drawn := w.drawn + 1 } (fun _ => hw.draw) (fun h3 => by
    simp only [Array.getElem?_replicate] at h3
    split at h3 <;> simp at h3) (by simp; omega) (by simp)
    hsame (fun j _ hj => by simp only [Array.getElem?_replicate]; rw [if_pos hj]) hcnt hclosed quiet
  rwa [e] at this
end

section
variable {P : Program} {N : Nat} {m : Env} {w : World}
/-- Operations without guards that yield the same in every world that has grown from w and in every world of R; K is known of the frame behind them. -/
def YsZ (P : Program) (N : Nat) (w : World) (R : World → Prop) (K : Env → Prop) : List Oper → Env → Prop
  | [], m => K m
  | o :: r, m => ∃ d v, o.dst = some d ∧ Nat.ble (d + 1) N = true ∧ o.guard = none ∧ isStore o = false ∧ Yl P N m w o v ∧ (∀ w', R w' → Yl P N m w' o v) ∧ YsZ P N w R K r ((d, v) :: m)
theorem YsZ.nil {R : World → Prop} {K : Env → Prop} {l : List Oper} (hl : l = []) (h : K m) : YsZ P N w R K l m := by subst hl; exact h
theorem YsZ.q {R : World → Prop} {K : Env → Prop} {d : Nat} {op : Op} {ty : TypeId} {pos : String} {after : Array Edge} {r : List Oper} {v : Value} (h2 : Nat.ble (d + 1) N = true) (h3 : isStore ⟨some d, op, ty, pos, after, none⟩ = false) (hq : Yl P N m w ⟨some d, op, ty, pos, after, none⟩ v)
    (hr : ∀ w', R w' → Yl P N m w' ⟨some d, op, ty, pos, after, none⟩ v) (h6 : YsZ P N w R K r ((d, v) :: m)) : YsZ P N w R K (⟨some d, op, ty, pos, after, none⟩ :: r) m := ⟨d, v, rfl, h2, rfl, h3, hq, hr, h6⟩
theorem listY_ysz {ops : Array Oper} {Q : Act → Prop} {R : World → Prop} {K : Env → Prop} (hQ : ∀ M a, K M → Agree N M a → Q a) : ∀ (l : List Oper) (m : Env) (a : Act), YsZ P N w R K l m → Agree N m a → listY ops (storeZ P w R) Q l a
  | [], m, a, h, ha => hQ m a h ha
  | o :: r, m, a, h, ha => by
    obtain ⟨d, v, h1, h2, h4, h3, h5, hr, h6⟩ := h
    unfold listY
    rw [if_pos (by unfold Region.wanted; rw [h4])]
    refine ⟨v, ?_, ?_⟩
    · unfold storeZ
      rw [h3, if_neg Bool.false_ne_true]
      exact fun w1 hw1 => hw1.elim (fun he => h5.out a w1 ha he) (fun hR1 => (hr w1 hR1).out a w1 ha (Ext.refl _))
    · rw [h1]
      exact listY_ysz hQ r _ _ h6 (ha.put (Nat.le_of_ble_eq_true h2) v)
/-- The store of a region: what it leaves, run alone. -/
theorem V_storeC (n i0 : Nat) {Q : Exit → Env → World → Prop} {id : Nat} {l : List Oper} {t : TypeId} {x y : Operand} {ty : TypeId} {pos : String} {after : Array Edge} {R : World → Prop}
    (hR : ∀ w w', Ext w w' → R w → R w') (hm : P.follows .mixedOrders = true) (ho : l.take n = l.take i0 ++ ⟨none, .store t x y, ty, pos, after, none⟩ :: (l.take n).drop (i0 + 1)) (hB : storeCB l.toArray n i0 = true)
    (h : YsZ P N w R (fun M1 => (∀ a, Agree N M1 a → ∀ w', Ext w w' → ∃ w'', (execOp a.eval ⟨none, .store t x y, ty, pos, after, none⟩).run P w' = .ok .skip w'' ∧ R w'') ∧
      YsZ P N w R (fun M2 => ∀ w2, R w2 → Ops P N l.toArray false (fun m w => Q .normal m w) (l.drop n) M2 w2) ((l.take n).drop (i0 + 1)) M1) (l.take i0) m) :
    V P N (.region id l.toArray true) Q m w := by
  refine ⟨fun a w' ha hw => Code.wp_mono (Q := fun e a w => e = .normal ∧ lift N Q .normal a w) (fun e a w ⟨h1, h2⟩ => by rw [h1]; exact h2) ?_⟩
  refine wp_storeC (w0 := w) (R := R) hR hm hB hw (Q1 := fun a' => ∃ M2, (∀ w2, R w2 → Ops P N l.toArray false (fun m w => Q .normal m w) (l.drop n) M2 w2) ∧ Agree N M2 a') ?_ ?_
  · generalize hL : (l.take n).toArray = A
    rw [ho]
    refine listY_append _ _ _ (listY_ysz (fun M1 a1 ⟨hst, h2⟩ ag1 => ?_) _ _ _ h ha)
    unfold listY
    rw [if_pos (by unfold Region.wanted; rfl)]
    refine ⟨undef, ?_, ?_⟩
    · unfold storeZ
      rw [if_pos (show isStore _ = true from rfl)]
      exact ⟨rfl, hst a1 ag1⟩
    · exact listY_ysz (fun M2 _ h3 ag2 => ⟨M2, h3, ag2⟩) _ _ _ h2 (ag1.put_none _)
  · rintro a1 w1 hR1 ⟨M2, h, ag⟩
    have h5 := (h w1 hR1).out a1 w1 ag (Ext.refl _)
    have mono : ∀ (l' : List Oper) (a : Act) (w0 : World), wpList P l.toArray (fun e a' w'' => e = .normal ∧ ∃ m' w1, Q .normal m' w1 ∧ Agree N m' a' ∧ Ext w1 w'') l' a w0 → wpList P l.toArray (fun e a w => e = .normal ∧ lift N Q .normal a w) l' a w0 := by
      intro l'
      induction l' with
      | nil => exact fun a w0 ⟨_, m', w1, q, ag, ex⟩ => ⟨rfl, m', w1, q, ag, ex⟩
      | cons o r ih =>
        intro a w0 h6
        unfold wpList at h6 ⊢
        split
        · rename_i hwn
          rw [if_pos hwn] at h6
          rcases h6 with h6 | h6
          · exact .inl (wp_normal (fun a1 w1 hh => ih a1 w1 hh) h6)
          · obtain ⟨_, _, _, h7, _⟩ := h6; cases h7
        · rename_i hwn
          rw [if_neg hwn] at h6
          exact ih _ _ h6
    exact mono _ _ _ h5
end
end Go.Proofs.Ytkiidmbkibfbiaa

/-
  Tables (layer 7): the reference's Halves.
  Conditions: the prefix is valid and has less than 32 bits.
-/
namespace Go.Proofs.Ytkiidmbkibfbiaa
open Go.RowKit

section
variable {P : Program} {N : Nat} {m : Env} {w : World}
/-- A store of a whole block, in the form that V_storeC asks for. -/
theorem storeC_run {t t0 : TypeId} {x y : Operand} {b : Nat} {cs vs out : List Value} {v : Value} {n0 b0 : Nat} {ty : TypeId} {pos : String} {after : Array Edge} {g : Option (Nat × Bool)} {R : World → Prop} [hs : TSize P t n0 b0]
    (hx : ev m x = some (.pointer (some ⟨b, 0, none⟩))) (hy : ev m y = some v) (hB : Blk w b t0 cs) [hv : TCells v vs] [hl : TLen vs n0] [hp : TSplice 0 vs cs out] (h1 : vs.all (fun u => u.oneCell') = true)
    (hR : ∀ w1 w2, Upd w w1 b t0 out → Ext w1 w2 → R w2) : ∀ (a : Act), Agree N m a → ∀ w', Ext w w' → ∃ w'', (execOp a.eval ⟨none, .store t x y, ty, pos, after, g⟩).run P w' = .ok .skip w'' ∧ R w'' := fun a ha w' hw => by
  obtain ⟨w2, hr, w1, hu1, he⟩ := store_run (P := P) (N := N) (t := t) (ty := ty) (pos := pos) (after := after) (g := g) (vs := vs) (v := v) hx hy hB h1 a ha w' hw
  exact ⟨w2, hr, hR w1 w2 hu1 he⟩
end
theorem kid_or {x k : Nat} (hk : k < 32) (hx : top x k = x) (hl : x < 4294967296) : bits .or .u32 (x : Int) ((2 ^ (31 - k) : Nat) : Int) = ((kidA x k 1 : Nat) : Int) := by
  have hp : 2 ^ (32 - k) = 2 * 2 ^ (31 - k) := pow_up hk
  have hle : 2 ^ (31 - k) ≤ 2147483648 := Nat.pow_le_pow_right (n := 2) (j := 31) (by omega) (by omega)
  have hp0 : 0 < 2 ^ (31 - k) := Nat.two_pow_pos _
  rw [u32_or_nat _ _ hl (by omega)]
  congr 1
  have h2 : x = x / 2 ^ (32 - k) * 2 ^ (32 - k) := by unfold top at hx; exact hx.symm
  unfold kidA
  rw [Nat.one_mul]
  rw [h2]
  generalize x / 2 ^ (32 - k) = q
  exact nat_disjoint (32 - k) q (2 ^ (31 - k)) (by omega)
set_option maxHeartbeats 1000000 in
theorem rhalves_k {x k : Nat} (w : World) (hk : k < 32) (hx : top x k = x) (hl : x < 4294967296) : Calls Try.prog 65 #[(⟨x, (k : Int)⟩ : Pf).val] w (Ret (.tuple #[(⟨kidA x k 0, ((k + 1 : Nat) : Int)⟩ : Pf).val, (⟨kidA x k 1, ((k + 1 : Nat) : Int)⟩ : Pf).val, .bool true]) w) := by
  have hval : (⟨x, (k : Int)⟩ : Pf).valid = true := Pf.valid_iff.2 ⟨by simp, by simp; omega, by simpa using hx⟩
  have hne : decide ((k : Int) = 32) = false := decide_eq_false (by omega)
  have hv := fun w_ => rvalid_v (⟨x, (k : Int)⟩ : Pf) w_ hl
  rw [hval] at hv
  have h4 : kidA x k 0 = x := by unfold kidA; rw [Nat.zero_mul, Nat.add_zero]
  have e31 : ((31 : Int) - (k : Int)).toNat = 31 - k := by omega
  have ep : (1 : Int) * 2 ^ ((31 : Int) - (k : Int)).toNat = ((2 ^ (31 - k) : Nat) : Int) := by rw [e31, Int.one_mul]; simp
  have hle : 2 ^ (31 - k) ≤ 2147483648 := Nat.pow_le_pow_right (n := 2) (j := 31) (by omega) (by omega)
  have i1 : InK .u32 ((1 : Int) * 2 ^ ((31 : Int) - (k : Int)).toNat) := by rw [ep]; generalize 2 ^ (31 - k) = z at hle ⊢; simp only [InK]; omega
  have i2 : InK .u64 ((31 : Int) - (k : Int)) := by simp only [InK]; omega
  have hor : bits .or .u32 (x : Int) (1 * 2 ^ ((31 : Int) - (k : Int)).toNat) = ((kidA x k 1 : Nat) : Int) := by rw [ep]; exact kid_or hk hx hl
  refine V_enter (vs := [_]) Try.func65 rfl Try.ntmps65 (Nat.le_of_ble_eq_true rfl) ?_
  repeat (first | refine Vx ?_ | (apply Ops_q; (case hon => exact Va); (case hd => rfl); (case hq => exact YlA)) | refine Vr ?_ | refine Vt ?_ | refine Vf ?_ | refine Vm ?_ | refine Ve ?_ | refine Vo ?_ | refine Vz ?_)
  (refine Ops_box (by exact Va) rfl rfl rfl ?_; intro w1 b1 n_b1; have k_b1 := n_b1.blk)
  repeat (first | refine Vx ?_ | (apply Ops_q; (case hon => exact Va); (case hd => rfl); (case hq => exact YlA)) | refine Vr ?_ | refine Vt ?_ | refine Vf ?_ | refine Vm ?_ | refine Ve ?_ | refine Vo ?_ | refine Vz ?_)
  (refine Ops_alloc (by exact Va) rfl ?_; intro w2 b2 n_b2; have k_b2 := n_b2.blk)
  repeat (first | refine Vx ?_ | (apply Ops_q; (case hon => exact Va); (case hd => rfl); (case hq => exact YlA)) | refine Vr ?_ | refine Vt ?_ | refine Vf ?_ | refine Vm ?_ | refine Ve ?_ | refine Vo ?_ | refine Vz ?_)
  (refine Ops_alloc (by exact Va) rfl ?_; intro w3 b3 n_b3; have k_b3 := n_b3.blk)
  have ne_b1_b2 : b1 ≠ b2 := Nat.ne_of_lt (Nat.lt_of_lt_of_le k_b1.lt n_b2.ge)
  replace k_b1 := k_b1.ext n_b2.ext
  have ne_b2_b3 : b2 ≠ b3 := Nat.ne_of_lt (Nat.lt_of_lt_of_le k_b2.lt n_b3.ge)
  replace k_b1 := k_b1.ext n_b3.ext; replace k_b2 := k_b2.ext n_b3.ext
  have g2 : w.heap.size ≤ b2 := Nat.le_trans n_b1.ext.size n_b2.ge
  have g3 : w.heap.size ≤ b3 := Nat.le_trans (n_b1.ext.trans n_b2.ext).size n_b3.ge
  have e3 := (n_b1.ext.trans n_b2.ext).trans n_b3.ext
  have hc1 : Cells w3 ⟨b1, 0, none⟩ [.int .u32 x, .int .i64 k] := k_b1.cells
  repeat (first | refine Vx ?_ | (apply Ops_q; (case hon => exact Va); (case hd => rfl); (case hq => exact YlA)) | refine Vr ?_ | refine Vt ?_ | refine Vf ?_ | refine Vm ?_ | refine Ve ?_ | refine Vo ?_ | refine Vz ?_)
  (apply Ops_q; (case hon => (exact Va)); (case hd => rfl); (case hq => exact Yl_call rfl (fun w_ e_ => hv w_)))
  repeat (first | refine Vx ?_ | (apply Ops_q; (case hon => exact Va); (case hd => rfl); (case hq => exact YlA)) | refine Vr ?_ | refine Vt ?_ | refine Vf ?_ | refine Vm ?_ | refine Ve ?_ | refine Vo ?_ | refine Vz ?_)
  rw [hne]
  repeat (first | refine Vx ?_ | (apply Ops_q; (case hon => exact Va); (case hd => rfl); (case hq => exact YlA)) | refine Vr ?_ | refine Vt ?_ | refine Vf ?_ | refine Vm ?_ | refine Ve ?_ | refine Vo ?_ | refine Vz ?_)
  refine V_storeC 19 18 (R := fun w' => Ext w w' ∧ Blk w' b2 38 [.int .u32 x, .int .i64 ((k : Int) + 1)] ∧ Blk w' b1 38 [.int .u32 x, .int .i64 k] ∧ Blk w' b3 38 [.int .u32 0, .int .i64 0]) (fun _ _ he h => ⟨h.1.trans he, h.2.1.ext he, h.2.2.1.ext he, h.2.2.2.ext he⟩) (by kernel_rfl) rfl (by kernel_rfl) ?_
  repeat (first | (apply YsZ.q; (case h2 => rfl); (case h3 => rfl); (case hq => exact YlA); (case hr => (intro w_ hr_; have hc_ := (fun w' (h : Ext w w' ∧ Blk w' b2 38 [.int .u32 x, .int .i64 ((k : Int) + 1)] ∧ Blk w' b1 38 [.int .u32 x, .int .i64 k] ∧ Blk w' b3 38 [.int .u32 0, .int .i64 0]) => h.2.2.1) w_ hr_; exact YlA))) | refine YsZ.nil rfl ?_)
  refine ⟨?_, ?_⟩
  · apply storeC_run (v := .agg #[.int .u32 x, .int .i64 ((k : Int) + 1)]) (vs := [.int .u32 x, .int .i64 ((k : Int) + 1)]) (cs := [.int .u32 0, .int .i64 0]) (out := [.int .u32 x, .int .i64 ((k : Int) + 1)])
    case hx => rfl
    case hy => rfl
    case hB => exact k_b2
    case h1 => rfl
    case hR =>
      intro w4 w5 hu4 he5
      exact ⟨(hu4.below e3 g2).trans he5, hu4.blk.ext he5, (hu4.keep k_b1 ne_b1_b2).ext he5, (hu4.keep k_b3 ne_b2_b3.symm).ext he5⟩
  refine YsZ.nil rfl ?_
  rintro w5 ⟨e5, k5_b2, k5_b1, k5_b3⟩
  repeat (first | refine Vx ?_ | (apply Ops_q; (case hon => exact Va); (case hd => rfl); (case hq => exact YlA)) | refine Vr ?_ | refine Vt ?_ | refine Vf ?_ | refine Vm ?_ | refine Ve ?_ | refine Vo ?_ | refine Vz ?_)
  (refine Ops_store (by exact Va) rfl rfl (by assumption) (by first | rfl | exact OneAll.h) ?_; intro w6 u_w6; have k_b3 := u_w6.blk)
  have e6 := u_w6.below e5 g3
  have k6_b2 := u_w6.keep k5_b2 ne_b2_b3
  repeat (first | refine Vx ?_ | (apply Ops_q; (case hon => exact Va); (case hd => rfl); (case hq => exact YlA)) | refine Vr ?_ | refine Vt ?_ | refine Vf ?_ | refine Vm ?_ | refine Ve ?_ | refine Vo ?_ | refine Vz ?_)
  rw [hor] at *
  refine retR3 (by first | exact .inl rfl | exact .inr rfl) rfl (res_agg rfl k6_b2.cells) (res_agg rfl k_b3.cells) rfl ?_
  have e1 : ((k + 1 : Nat) : Int) = (k : Int) + 1 := by omega
  rw [h4, e1]
  exact Ret_mk rfl e6
end Go.Proofs.Ytkiidmbkibfbiaa

/-
  Tables (layer 7): the reference's costs and Least.
  Conditions: the lists are not too long for a machine.
-/
namespace Go.Proofs.Ytkiidmbkibfbiaa
open Go.RowKit

/-! ### Plain -/
def costV (t : Tr) (y : Int) : Int := ((t.cost + out1 t.set y : Nat) : Int)
def restF (x k : Nat) (L : List En) : List En := L.filter fun e => decide (e.p ≠ ⟨x, k⟩) && underB x k e
def baseF (x k : Nat) (v : Int) (L : List En) : Int := L.foldl (fun v e => if e.p = ⟨x, k⟩ then e.v else v) v
theorem under_self {x k : Nat} (hx : top x k = x) {e : En} (h : e.p = ⟨x, k⟩) : underB x k e = true := by
  rw [underB, h, Bool.and_eq_true, decide_eq_true_eq, decide_eq_true_eq]; exact ⟨hx, Int.le_refl _⟩
theorem base_filter {x k : Nat} (hx : top x k = x) : ∀ (L : List En) (v : Int), baseF x k v L = baseF x k v (L.filter (underB x k))
  | [], _ => rfl
  | e :: L, v => by
    cases hu : underB x k e with
    | true =>
      rw [List.filter_cons_of_pos hu]
      exact base_filter hx L _
    | false =>
      rw [List.filter_cons_of_neg (by rw [hu]; decide)]
      have : e.p ≠ ⟨x, k⟩ := fun h => by rw [under_self hx h] at hu; cases hu
      show baseF x k (if e.p = ⟨x, k⟩ then e.v else v) L = _
      rw [if_neg this]; exact base_filter hx L v
theorem base_none {x k : Nat} {v : Int} : ∀ {L : List En}, (∀ e ∈ L, e.p ≠ ⟨x, k⟩) → baseF x k v L = v
  | [], _ => rfl
  | e :: L, h => by
    show baseF x k (if e.p = ⟨x, k⟩ then e.v else v) L = v
    rw [if_neg (h e (List.mem_cons_self ..))]
    exact base_none fun y hy => h y (List.mem_cons_of_mem _ hy)
theorem rest_pop {x k : Nat} {L : List En} (hx : top x k = x) (h : Wi x k (L.filter (underB x k))) : restF x k L = popL x k (L.filter (underB x k)) ∧ ∀ v, baseF x k v L = popV x k v (L.filter (underB x k)) := by
  have hm := pop_mem h
  have h1 : restF x k L = (L.filter (underB x k)).filter fun e => decide (e.p ≠ ⟨x, k⟩) := by rw [restF, List.filter_filter]
  refine ⟨?_, fun v => ?_⟩
  · rw [h1]
    generalize L.filter (underB x k) = M at *
    cases M with
    | nil => rfl
    | cons d r =>
      rw [popL] at hm ⊢
      split
      · rename_i hd
        rw [if_pos hd] at hm
        rw [List.filter_cons_of_neg (by simpa using hd)]
        refine List.filter_eq_self.2 fun e he => decide_eq_true fun q => ?_
        have := (hm e he).2
        rw [q] at this; simp only at this; omega
      · rename_i hd
        rw [if_neg hd] at hm
        refine List.filter_eq_self.2 fun e he => decide_eq_true fun q => ?_
        have := (hm e he).2
        rw [q] at this; simp only at this; omega
  · rw [base_filter hx]
    generalize L.filter (underB x k) = M at *
    cases M with
    | nil => rfl
    | cons d r =>
      rw [popL] at hm
      rw [popV]
      split
      · rename_i hd
        rw [if_pos hd] at hm
        show baseF x k (if d.p = ⟨x, k⟩ then d.v else v) r = _
        rw [if_pos hd]
        refine base_none fun e he q => ?_
        have := (hm e he).2
        rw [q] at this; simp only at this; omega
      · rename_i hd
        rw [if_neg hd] at hm
        refine base_none fun e he q => ?_
        have := (hm e he).2
        rw [q] at this; simp only at this; omega
theorem covers_under {x k : Nat} (hx : top x k = x) (hk : k ≤ 32) {e : En} (hv : e.p.valid = true) : (⟨x, (k : Int)⟩ : Pf).covers e.p = underB x k e := by
  have hpv : (⟨x, (k : Int)⟩ : Pf).valid = true := Pf.valid_iff.2 ⟨by simp, by simp; omega, by simpa using hx⟩
  rw [Pf.covers, hv, Bool.true_and, Pf.has, hpv, Bool.true_and, underB, Bool.and_comm]
  rfl
def sumV (a b : Tr) (y : Int) : Int := costV a y + costV b y
theorem sum_ge (a b : Tr) (y : Int) : ((Tr.node a b).cost : Int) + (out1 (Tr.node a b).set y : Int) ≤ sumV a b y := by
  have := join_le (A := a.set) (B := b.set) y
  unfold sumV costV
  rw [Tr.cost, Tr.set]
  omega
theorem sum_in (a b : Tr) {y : Int} (h : y ∈ (Tr.node a b).set) : sumV a b y = ((Tr.node a b).cost : Int) := by
  rw [Tr.set] at h
  have := join_out y h
  unfold sumV costV
  rw [Tr.cost]
  omega
theorem sum_min (a b : Tr) (y : Int) : min (sumV a b y) (((Tr.node a b).cost : Int) + 1) = costV (.node a b) y := by
  have h1 := sum_ge a b y
  unfold costV
  by_cases h : y ∈ (Tr.node a b).set
  · rw [sum_in a b h, out1, if_pos h]; omega
  · have h2 : out1 (Tr.node a b).set y = 1 := by rw [out1, if_neg h]
    rw [h2] at h1 ⊢
    omega
theorem min_sum (a b : Tr) {V : List Int} {y0 : Int} (_ : y0 ∈ V) (hV : ∀ y ∈ (Tr.node a b).set, y ∈ V) : (V.map (sumV a b)).foldl min (sumV a b y0) = ((Tr.node a b).cost : Int) := by
  have hm := foldmin_mem (V.map (sumV a b)) (sumV a b y0)
  have hl := foldmin_le (V.map (sumV a b)) (sumV a b y0)
  have hge : ((Tr.node a b).cost : Int) ≤ (V.map (sumV a b)).foldl min (sumV a b y0) := by
    have key : ∀ y, ((Tr.node a b).cost : Int) ≤ sumV a b y := fun y => by have := sum_ge a b y; omega
    rcases List.mem_cons.1 hm with h | h
    · rw [h]; exact key y0
    · obtain ⟨y, _, h⟩ := List.mem_map.1 h
      rw [← h]; exact key y
  obtain ⟨y, hy⟩ := List.exists_mem_of_ne_nil _ (Tr.set_ne (.node a b))
  have := hl _ (List.mem_cons_of_mem _ (List.mem_map.2 ⟨y, hV y hy, rfl⟩))
  rw [sum_in a b hy] at this
  omega
theorem cost_le : ∀ (f x k : Nat) (l : List En) (v : Int), Wi x k l → k + f = 32 → (grow f x k l v).cost ≤ 4294967296
  | f, x, k, l, v, _, hk => by
    have h1 := Tr.fits_le (grow_fits f x k l v hk) (by omega)
    have h2 : 2 ^ (32 - k) ≤ 2 ^ 32 := Nat.pow_le_pow_right (by decide) (Nat.sub_le ..)
    omega
theorem set_ic (L : List Int) (i : Nat) (v x : Int) : (L.map ic).set i ((ic v).set 0 (.int .i64 x)) = (L.set i x).map ic := by rw [List.map_set]; rfl
/-! ### Lists of numbers of one's own -/
structure DatI (w : World) (base g n cap : Nat) (L : List Int) : Prop where
  own : Own w base 3 1 (.slice (some ⟨g, 0, none⟩) n cap) (L.map ic)
  len : L.length = n
theorem DatI.ext {w w1 : World} {base g n cap : Nat} {L : List Int} (h : DatI w base g n cap L) (he : Ext w w1) : DatI w1 base g n cap L := ⟨h.own.ext he, h.len⟩
theorem DatI.at {w : World} {base g n cap : Nat} {L : List Int} (h : DatI w base g n cap L) {k : Nat} {x : Int} (hx : L[k]? = some x) : w.cell? ((⟨g, 0, none⟩ : Addr).add (k * 1)) = some (.int .i64 x) := by
  obtain ⟨ao, c, hv, hA⟩ := h.own.slice
  obtain ⟨ad, h1, h2⟩ := hA k (ic x) (by rw [List.getElem?_map, hx]; rfl)
  cases hv
  cases h1
  have := h2 0 _ rfl
  rw [add_add, Nat.add_zero] at this; exact this
section
variable {P : Program} {N : Nat} {ops : Array Oper} {K : Env → World → Prop} {m : Env} {w : World} {rest : List Oper} {ty : TypeId} {pos : String} {after : Array Edge} {gd : Option (Nat × Bool)}
theorem Ops_storeDatI {x y : Operand} {base b0 g n cap i : Nat} {p : Addr} {v : Int} {L : List Int} [hs : TSize P 3 1 b0] (hon : On N ops m ⟨none, .store 3 x y, ty, pos, after, gd⟩)
    (hx : ev m x = some (.pointer (some p))) (hy : ev m y = some (.int .i64 v)) (hp : p = (⟨g, 0, none⟩ : Addr).add (i * 1)) (hD : DatI w base g n cap L) (hi : i < n)
    (h : ∀ w1, DatI w1 base g n cap (L.set i v) → w.grownBy w1 (some g) → Ops P N ops false K rest m w1) : Ops P N ops false K (⟨none, .store 3 x y, ty, pos, after, gd⟩ :: rest) m w := by
  obtain ⟨o, hl⟩ := hD
  subst hl
  obtain ⟨z, hz⟩ : ∃ z, L[i]? = some z := ⟨_, List.getElem?_eq_getElem hi⟩
  rw [show L.length = (L.map ic).length from (List.length_map ..).symm] at o
  refine Ops_storeOwn (i := i) (f := 0) (xi := ic z) hon hx hy (by rw [hp, add_blk, Nat.zero_add, Nat.add_zero]) o (by rw [List.getElem?_map, hz]; rfl) (by omega) rfl (fun w1 o1 g1 => h w1 ⟨?_, List.length_set ..⟩ g1)
  rw [set_ic, List.length_map] at o1
  exact o1
end
end Go.Proofs.Ytkiidmbkibfbiaa

/-
  Tables (layer 7): the reference's costs and Least, walked.
  Conditions: the lists are not too long for a machine.
-/
namespace Go.Proofs.Ytkiidmbkibfbiaa
open Go.RowKit

def ixV (x : Int) : List Int → Nat → Int
  | [], _ => -1
  | y :: r, i => if y = x then (i : Int) else ixV x r (i + 1)
theorem ixV_mem (x : Int) : ∀ (V : List Int) (i : Nat), 0 ≤ ixV x V i ↔ x ∈ V
  | [], _ => ⟨(fun h => absurd (show (0 : Int) ≤ -1 from h) (by decide)), (fun h => nomatch h)⟩
  | y :: r, i => by
    rw [ixV]
    split
    · rename_i h; exact ⟨fun _ => by rw [h]; exact List.mem_cons_self .., fun _ => by omega⟩
    · rename_i h
      rw [ixV_mem x r, List.mem_cons]
      exact ⟨.inr, fun h2 => h2.elim (fun e => absurd e.symm h) id⟩
theorem indexInt_v (ao : Option Addr) (V : List Int) (c : Nat) (x : Int) (w : World) (hV : Arr w 1 ao (V.map ic)) (hn : V.length ≤ 1000000) : Calls Try.prog 64 #[.slice ao V.length c, .int .i64 x] w (Ret (.int .i64 (ixV x V 0)) w) := by
  refine V_enter (vs := [_, _]) Try.func64 rfl Try.ntmps64 (Nat.le_of_ble_eq_true rfl) ?_
  repeat (first | refine Vx ?_ | (apply Ops_q; (case hon => exact Va); (case hd => rfl); (case hq => exact YlA)) | refine Vr ?_ | refine Vt ?_ | refine Vf ?_ | refine Vm ?_ | refine Ve ?_ | refine Vo ?_ | refine Vz ?_)
  refine V_loop (fun k : Nat => [(9, .int .i64 k), (8, .int .i64 V.length), (7, .slice ao V.length c), (1, .int .i64 x)]) (fun k w' => Ext w w' ∧ k ≤ V.length ∧ ixV x V 0 = ixV x (V.drop k) k) (fun k => V.length - k) 0 (by repeat (first | exact trivial | refine ⟨rfl, ?_⟩)) ⟨Ext.refl _, Nat.zero_le _, rfl⟩ ?_
  rintro k w1 ⟨x1, hk, hs⟩
  repeat (first | refine Vx ?_ | (apply Ops_q; (case hon => exact Va); (case hd => rfl); (case hq => exact YlA)) | refine Vr ?_ | refine Vt ?_ | refine Vf ?_ | refine Vm ?_ | refine Ve ?_ | refine Vo ?_ | refine Vz ?_)
  refine V_cond rfl (fun hg => ?_) (fun hg => ?_)
  · replace hg := of_decide_eq_true hg
    have hkl : k < V.length := by omega
    obtain ⟨y, hy⟩ : ∃ y, V[k]? = some y := ⟨_, List.getElem?_eq_getElem hkl⟩
    obtain ⟨ad, rfl, hc⟩ := hV k (ic y) (by rw [List.getElem?_map, hy]; rfl)
    have hc1 : w1.cell? (ad.add (k * 1)) = some (.int .i64 y) := by
      have := (hc.ext x1) 0 _ rfl
      rw [add_add, Nat.add_zero] at this; exact this
    rw [List.drop_eq_getElem_cons hkl, (List.getElem?_eq_some_iff.1 hy).2, ixV] at hs
    repeat (first | refine Vx ?_ | (apply Ops_q; (case hon => exact Va); (case hd => rfl); (case hq => exact YlA)) | refine Vr ?_ | refine Vt ?_ | refine Vf ?_ | refine Vm ?_ | refine Ve ?_ | refine Vo ?_ | refine Vz ?_)
    (apply Ops_q; (case hon => (exact Va)); (case hd => rfl); (case hq => exact Yl_indexS (j := k) rfl rfl (by omega)))
    repeat (first | refine Vx ?_ | (apply Ops_q; (case hon => exact Va); (case hd => rfl); (case hq => exact YlA)) | refine Vr ?_ | refine Vt ?_ | refine Vf ?_ | refine Vm ?_ | refine Ve ?_ | refine Vo ?_ | refine Vz ?_)
    refine V_cond rfl (fun he => ?_) (fun he => ?_)
    · replace he := of_decide_eq_true he
      rw [if_pos he] at hs
      repeat (first | refine Vx ?_ | (apply Ops_q; (case hon => exact Va); (case hd => rfl); (case hq => exact YlA)) | refine Vr ?_ | refine Vt ?_ | refine Vf ?_ | refine Vm ?_ | refine Ve ?_ | refine Vo ?_ | refine Vz ?_)
      refine ret1 (by first | exact .inl rfl | exact .inr rfl) rfl rfl ?_
      exact Ret_mk (by rw [hs]) x1
    · replace he := of_decide_eq_false he
      rw [if_neg he] at hs
      repeat (first | refine Vx ?_ | (apply Ops_q; (case hon => exact Va); (case hd => rfl); (case hq => exact YlA)) | refine Vr ?_ | refine Vt ?_ | refine Vf ?_ | refine Vm ?_ | refine Ve ?_ | refine Vo ?_ | refine Vz ?_)
      exact ⟨k + 1, (by repeat (first | exact trivial | refine ⟨rfl, ?_⟩)), ⟨x1, hkl, hs⟩, by omega⟩
  · replace hg := of_decide_eq_false hg
    obtain rfl : k = V.length := by omega
    rw [List.drop_length] at hs
    repeat (first | refine Vx ?_ | (apply Ops_q; (case hon => exact Va); (case hd => rfl); (case hq => exact YlA)) | refine Vr ?_ | refine Vt ?_ | refine Vf ?_ | refine Vm ?_ | refine Ve ?_ | refine Vo ?_ | refine Vz ?_)
    refine ret1 (by first | exact .inl rfl | exact .inr rfl) rfl rfl ?_
    exact Ret_mk (by rw [hs]; rfl) x1
theorem hasInt_v (ao : Option Addr) (V : List Int) (c : Nat) (x : Int) (w : World) (hV : Arr w 1 ao (V.map ic)) (hn : V.length ≤ 1000000) : Calls Try.prog 41 #[.slice ao V.length c, .int .i64 x] w (Ret (.bool (decide (x ∈ V))) w) := by
  refine V_enter (vs := [_, _]) Try.func41 rfl Try.ntmps41 (Nat.le_of_ble_eq_true rfl) ?_
  repeat (first | refine Vx ?_ | (apply Ops_q; (case hon => exact Va); (case hd => rfl); (case hq => exact YlA)) | refine Vr ?_ | refine Vt ?_ | refine Vf ?_ | refine Vm ?_ | refine Ve ?_ | refine Vo ?_ | refine Vz ?_)
  (apply Ops_q; (case hon => (exact Va)); (case hd => rfl); (case hq => exact Yl_call rfl (fun w_ e_ => indexInt_v ao V c x w_ (hV.ext e_) hn)))
  repeat (first | refine Vx ?_ | (apply Ops_q; (case hon => exact Va); (case hd => rfl); (case hq => exact YlA)) | refine Vr ?_ | refine Vt ?_ | refine Vf ?_ | refine Vm ?_ | refine Ve ?_ | refine Vo ?_ | refine Vz ?_)
  refine ret1 (by first | exact .inl rfl | exact .inr rfl) rfl rfl ?_
  exact Ret_mk (congrArg Value.bool (decide_eq_decide.2 (ixV_mem x V 0))) (Ext.refl _)
/-- A list that is filled from its head on: g before j, f from there on. -/
def fillS (V : List Int) (g f : Int → Int) (j : Nat) : List Int := (V.take j).map g ++ (V.drop j).map f
theorem fillS_len (V : List Int) (g f : Int → Int) (j : Nat) : (fillS V g f j).length = V.length := by unfold fillS; simp; omega
theorem fillS_zero (V : List Int) (g f : Int → Int) : fillS V g f 0 = V.map f := by unfold fillS; simp
theorem fillS_all (V : List Int) (g f : Int → Int) : fillS V g f V.length = V.map g := by unfold fillS; simp
theorem fillS_cons {V : List Int} {g f : Int → Int} {j : Nat} {y : Int} (hy : V[j]? = some y) : fillS V g f j = (V.take j).map g ++ f y :: (V.drop (j + 1)).map f := by
  obtain ⟨hj, e⟩ := List.getElem?_eq_some_iff.1 hy
  unfold fillS
  rw [List.drop_eq_getElem_cons hj, e]; rfl
theorem fillS_succ {V : List Int} {g f : Int → Int} {j : Nat} {y : Int} (hy : V[j]? = some y) : fillS V g f (j + 1) = (V.take j).map g ++ g y :: (V.drop (j + 1)).map f := by
  unfold fillS
  rw [List.take_add_one, hy, Option.toList_some, List.map_append, List.append_assoc]; rfl
theorem fillS_set {V : List Int} {g f : Int → Int} {j : Nat} {y : Int} (hy : V[j]? = some y) : (fillS V g f j).set j (g y) = fillS V g f (j + 1) := by
  have hj := (List.getElem?_eq_some_iff.1 hy).1
  rw [fillS_cons hy, fillS_succ hy, List.set_append_right _ _ (by simp; omega)]
  simp [Nat.min_eq_left (Nat.le_of_lt hj)]
theorem fillS_at {V : List Int} {g f : Int → Int} {j : Nat} {y : Int} (hy : V[j]? = some y) : (fillS V g f j)[j]? = some (f y) := by
  have hj := (List.getElem?_eq_some_iff.1 hy).1
  rw [fillS_cons hy, List.getElem?_append_right (by simp; omega)]
  simp [Nat.min_eq_left (Nat.le_of_lt hj)]
theorem fillS_at2 {V : List Int} {g f : Int → Int} {j : Nat} {y : Int} (hy : V[j]? = some y) : (fillS V g f (j + 1))[j]? = some (g y) := by
  have hj := (List.getElem?_eq_some_iff.1 hy).1
  rw [fillS_succ hy, List.getElem?_append_right (by simp; omega)]
  simp [Nat.min_eq_left (Nat.le_of_lt hj)]
theorem fillS_same {V : List Int} {g f : Int → Int} {j : Nat} {y : Int} (hy : V[j]? = some y) (h : f y = g y) : fillS V g f j = fillS V g f (j + 1) := by rw [fillS_cons hy, fillS_succ hy, h]
/-- What costs returns. -/
def CstR (w : World) (V : List Int) (T : Tr) (r : Value) (w' : World) : Prop := Own w' w.heap.size 3 1 r ((V.map (costV T)).map ic)
theorem restF_snoc {L : List En} {x k i : Nat} {e : En} (h : L[i]? = some e) : restF x k (L.take (i + 1)) = restF x k (L.take i) ++ if decide (e.p ≠ ⟨x, k⟩) && underB x k e then [e] else [] := filter_snoc _ h
theorem baseF_snoc {L : List En} {x k i : Nat} {v : Int} {e : En} (h : L[i]? = some e) : baseF x k v (L.take (i + 1)) = if e.p = ⟨x, k⟩ then e.v else baseF x k v (L.take i) := by
  unfold baseF
  rw [List.take_add_one, h, Option.toList_some, List.foldl_append]; rfl
set_option maxHeartbeats 8000000 in
theorem costs_v : ∀ (f x k : Nat) (L : List En) (v : Int) (V : List Int) (ao vo : Option Addr) (c d : Nat) (w : World), k + f = 32 → top x k = x → x < 4294967296 → Ens w ao L → (∀ e ∈ L, e.p.a < 4294967296 ∧ e.p.valid = true) → L.length ≤ 1000 → Arr w 1 vo (V.map ic) → V ≠ [] → V.length ≤ 1000000 →
    Wi x k (L.filter (underB x k)) → (∀ y ∈ (grow f x k (L.filter (underB x k)) v).vals, y ∈ V) →
    Calls Try.prog 42 #[.slice ao L.length c, .slice vo V.length d, (⟨x, (k : Int)⟩ : Pf).val, .int .i64 v] w (Gives (CstR w V (grow f x k (L.filter (underB x k)) v)) w) := by
  intro f
  induction f with
  | zero =>
    intro x k L v V ao vo c d w hk hx hl hL hLa hLn hV hV0 hVn hW hvals
    obtain ⟨hrp, hbp⟩ := rest_pop hx hW
    have hbp := hbp v
    refine V_enter (vs := [_, _, _, _]) Try.func42 rfl Try.ntmps42 (Nat.le_of_ble_eq_true rfl) ?_
    repeat (first | refine Vx ?_ | (apply Ops_q; (case hon => exact Va); (case hd => rfl); (case hq => exact YlA)) | refine Vr ?_ | refine Vt ?_ | refine Vf ?_ | refine Vm ?_ | refine Ve ?_ | refine Vo ?_ | refine Vz ?_)
    (refine Ops_box (by exact Va) rfl rfl rfl ?_; intro w1 b6 n_b6; have k_b6 := n_b6.blk)
    have x1 := n_b6.ext
    clear n_b6
    repeat (first | refine Vx ?_ | (apply Ops_q; (case hon => exact Va); (case hd => rfl); (case hq => exact YlA)) | refine Vr ?_ | refine Vt ?_ | refine Vf ?_ | refine Vm ?_ | refine Ve ?_ | refine Vo ?_ | refine Vz ?_)
    refine V_loop (fun s : Nat × Value => [(25, .int .i64 s.1), (24, .int .i64 L.length), (23, .slice ao L.length c), (9, s.2), (3, .int .i64 (baseF x k v (L.take s.1))), (6, .pointer (some ⟨b6, 0, none⟩)), (1, .slice vo V.length d)])
      (fun s w' => s.1 ≤ L.length ∧ Ext w1 w' ∧ Own w' w1.heap.size 40 3 s.2 ((restF x k (L.take s.1)).map En.cells)) (fun s => L.length - s.1) (0, .slice none 0 0) (by repeat (first | exact trivial | refine ⟨rfl, ?_⟩)) ⟨Nat.zero_le _, Ext.refl _, Own.nil⟩ ?_
    rintro ⟨i, r⟩ w2 ⟨hi, x2, o2⟩
    dsimp only at hi o2 ⊢
    repeat (first | refine Vx ?_ | (apply Ops_q; (case hon => exact Va); (case hd => rfl); (case hq => exact YlA)) | refine Vr ?_ | refine Vt ?_ | refine Vf ?_ | refine Vm ?_ | refine Ve ?_ | refine Vo ?_ | refine Vz ?_)
    refine V_cond rfl (fun hg => ?_) (fun hg => ?_)
    · replace hg := of_decide_eq_true hg
      have hil : i < L.length := by omega
      obtain ⟨e, he⟩ : ∃ e, L[i]? = some e := ⟨_, List.getElem?_eq_getElem hil⟩
      obtain ⟨ad, rfl, hc⟩ := hL.at he
      obtain ⟨hea, hev⟩ := hLa e (List.mem_of_getElem? he)
      have hrs := restF_snoc (x := x) (k := k) he
      have hbs := baseF_snoc (x := x) (k := k) (v := v) he
      have hcu := covers_under hx (by omega) hev
      have hrl := filter_le L i (fun e => decide (e.p ≠ ⟨x, (k : Int)⟩) && underB x k e)
      change (restF x k (L.take i)).length ≤ L.length at hrl
      have hc1 : Cells w2 (ad.add (i * 3)) [.int .u32 e.p.a, .int .i64 e.p.n, .int .i64 e.v] := (hc.ext x1).ext x2
      repeat (first | refine Vx ?_ | (apply Ops_q; (case hon => exact Va); (case hd => rfl); (case hq => exact YlA)) | refine Vr ?_ | refine Vt ?_ | refine Vf ?_ | refine Vm ?_ | refine Ve ?_ | refine Vo ?_ | refine Vz ?_)
      (apply Ops_q; (case hon => (exact Va)); (case hd => rfl); (case hq => exact Yl_indexS (j := i) rfl rfl (by omega)))
      repeat (first | refine Vx ?_ | (apply Ops_q; (case hon => exact Va); (case hd => rfl); (case hq => exact YlA)) | refine Vr ?_ | refine Vt ?_ | refine Vf ?_ | refine Vm ?_ | refine Ve ?_ | refine Vo ?_ | refine Vz ?_)
      (refine Ops_alloc (by exact Va) rfl ?_; intro w3 b11 n_b11; have k_b11 := n_b11.blk)
      repeat (first | refine Vx ?_ | (apply Ops_q; (case hon => exact Va); (case hd => rfl); (case hq => exact YlA)) | refine Vr ?_ | refine Vt ?_ | refine Vf ?_ | refine Vm ?_ | refine Ve ?_ | refine Vo ?_ | refine Vz ?_)
      (refine Ops_store (by exact Va) rfl rfl (by assumption) (by first | rfl | exact OneAll.h) ?_; intro w4 u_w4; have k_b11 := u_w4.blk)
      have y4 := u_w4.below n_b11.ext n_b11.ge
      have x4 := x2.trans y4
      have o4 := o2.ext y4
      have hep : Cells w4 ⟨b11, 0, none⟩ [.int .u32 e.p.a, .int .i64 e.p.n] := k_b11.part 0 2
      have hpp : Cells w4 ⟨b6, 0, none⟩ [.int .u32 x, .int .i64 k] := ((k_b6.ext x2).ext y4).cells
      have hq := eqPf_dec e.p ⟨x, (k : Int)⟩
      dsimp only at hq
      clear u_w4 n_b11 hc1 o2 y4
      repeat (first | refine Vx ?_ | (apply Ops_q; (case hon => exact Va); (case hd => rfl); (case hq => exact YlA)) | refine Vr ?_ | refine Vt ?_ | refine Vf ?_ | refine Vm ?_ | refine Ve ?_ | refine Vo ?_ | refine Vz ?_)
      rw [hq]
      by_cases hp : e.p = ⟨x, (k : Int)⟩
      · rw [decide_eq_true hp]
        rw [if_pos hp] at hbs
        rw [decide_eq_false (fun h => h hp), Bool.false_and, if_neg (by decide), List.append_nil] at hrs
        clear hep hpp
        repeat (first | refine Vx ?_ | (apply Ops_q; (case hon => exact Va); (case hd => rfl); (case hq => exact YlA)) | refine Vr ?_ | refine Vt ?_ | refine Vf ?_ | refine Vm ?_ | refine Ve ?_ | refine Vo ?_ | refine Vz ?_)
        refine ⟨(i + 1, r), ?_, ⟨hil, x4, ?_⟩, by simp only; omega⟩
        · dsimp only
          rw [hbs]; exact (by repeat (first | exact trivial | refine ⟨rfl, ?_⟩))
        · dsimp only
          rw [hrs]; exact o4
      · rw [decide_eq_false hp]
        rw [if_neg hp] at hbs
        rw [decide_eq_true hp, Bool.true_and] at hrs
        repeat (first | refine Vx ?_ | (apply Ops_q; (case hon => exact Va); (case hd => rfl); (case hq => exact YlA)) | refine Vr ?_ | refine Vt ?_ | refine Vf ?_ | refine Vm ?_ | refine Ve ?_ | refine Vo ?_ | refine Vz ?_)
        (apply Ops_q; (case hon => (exact Va)); (case hd => rfl); (case hq => exact Yl_call rfl (fun w_ e_ => coversR_v ⟨x, (k : Int)⟩ e.p w_ hl hea)))
        rw [hcu]
        clear hep hpp
        repeat (first | refine Vx ?_ | (apply Ops_q; (case hon => exact Va); (case hd => rfl); (case hq => exact YlA)) | refine Vr ?_ | refine Vt ?_ | refine Vf ?_ | refine Vm ?_ | refine Ve ?_ | refine Vo ?_ | refine Vz ?_)
        refine V_cond rfl (fun hu => ?_) (fun hu => ?_)
        · rw [if_pos hu] at hrs
          repeat (first | refine Vx ?_ | (apply Ops_q; (case hon => exact Va); (case hd => rfl); (case hq => exact YlA)) | refine Vr ?_ | refine Vt ?_ | refine Vf ?_ | refine Vm ?_ | refine Ve ?_ | refine Vo ?_ | refine Vz ?_)
          (refine Ops_lit (by exact Va) rfl rfl rfl ?_; intro w6 c6 n_c6; have k_c6 := n_c6.blk)
          have o6 := o4.ext n_c6.ext
          have x6 := x4.trans n_c6.ext
          have hcs : Cells w6 ⟨c6, 0, none⟩ e.cells := n_c6.blk.cells
          repeat (first | refine Vx ?_ | (apply Ops_q; (case hon => exact Va); (case hd => rfl); (case hq => exact YlA)) | refine Vr ?_ | refine Vt ?_ | refine Vf ?_ | refine Vm ?_ | refine Ve ?_ | refine Vo ?_ | refine Vz ?_)
          refine Ops_append1 (u := e.cells) (by exact Va) rfl rfl rfl rfl o6 hcs ⟨rfl⟩ ⟨rfl⟩ (by rw [List.length_map]; omega) rfl x6.size ?_
          intro r' w7 o7 g7 d7
          have m7 : Mod (fun c => r.ownBlock = some c) w4 w7 := (Mod.of_ext n_c6.ext).grow g7 (fun b hb => .inl hb)
          have x7 : Ext w1 w7 := Mod.ext_of x4 m7 (fun c hc => o6.ge hc)
          rw [show [e.cells] = [e].map En.cells from rfl, ← List.map_append, ← hrs] at o7
          repeat (first | refine Vx ?_ | (apply Ops_q; (case hon => exact Va); (case hd => rfl); (case hq => exact YlA)) | refine Vr ?_ | refine Vt ?_ | refine Vf ?_ | refine Vm ?_ | refine Ve ?_ | refine Vo ?_ | refine Vz ?_)
          refine ⟨(i + 1, r'), ?_, ⟨hil, x7, o7⟩, by simp only; omega⟩
          dsimp only
          rw [hbs]; exact (by repeat (first | exact trivial | refine ⟨rfl, ?_⟩))
        · rw [if_neg (by rw [hu]; decide), List.append_nil] at hrs
          repeat (first | refine Vx ?_ | (apply Ops_q; (case hon => exact Va); (case hd => rfl); (case hq => exact YlA)) | refine Vr ?_ | refine Vt ?_ | refine Vf ?_ | refine Vm ?_ | refine Ve ?_ | refine Vo ?_ | refine Vz ?_)
          refine ⟨(i + 1, r), ?_, ⟨hil, x4, ?_⟩, by simp only; omega⟩
          · dsimp only
            rw [hbs]; exact (by repeat (first | exact trivial | refine ⟨rfl, ?_⟩))
          · dsimp only
            rw [hrs]; exact o4
    replace hg := of_decide_eq_false hg
    obtain rfl : i = L.length := by omega
    rw [List.take_length, hrp] at o2
    rw [List.take_length, hbp]
    have hV2 := (hV.ext x1).ext x2
    have x12 := x1.trans x2
    have hz2 := x12.size
    repeat (first | refine Vx ?_ | (apply Ops_q; (case hon => exact Va); (case hd => rfl); (case hq => exact YlA)) | refine Vr ?_ | refine Vt ?_ | refine Vf ?_ | refine Vm ?_ | refine Ve ?_ | refine Vo ?_ | refine Vz ?_)
    refine Ops_make1 (by exact Va) rfl rfl rfl (by omega) (by unfold maxLen; omega) ?_
    intro w3 g x3 hg3 o3
    have D3 : DatI w3 w2.heap.size g V.length V.length (fillS V (costV (.leaf (popV x k v (L.filter (underB x k))))) (fun _ => 0) 0) := by
      rw [fillS_zero]
      refine ⟨?_, List.length_map ..⟩
      rw [List.map_map]
      have : (List.replicate V.length [Value.int .i64 0]) = V.map (ic ∘ fun _ => 0) := by
        rw [show (ic ∘ fun _ => (0 : Int)) = Function.const Int [Value.int .i64 0] from rfl, List.map_const]
      rw [← this]; exact o3
    have hgw : w.heap.size ≤ g := Nat.le_trans x12.size hg3
    replace hV2 := hV2.ext x3
    replace o2 := o2.ext x3
    replace x12 := x12.trans x3
    have hx13 : Ext w1 w3 := x2.trans x3
    clear o3 hg hbp x2 x3
    obtain ⟨ra, rc, rfl, hRA⟩ := o2.slice
    rw [List.length_map]
    have hR : Ens w3 ra (popL x k (L.filter (underB x k))) := hRA
    clear hRA o2
    repeat (first | refine Vx ?_ | (apply Ops_q; (case hon => exact Va); (case hd => rfl); (case hq => exact YlA)) | refine Vr ?_ | refine Vt ?_ | refine Vf ?_ | refine Vm ?_ | refine Ve ?_ | refine Vo ?_ | refine Vz ?_)
    have hp0 : popL x k (L.filter (underB x k)) = [] := by
      obtain rfl : k = 32 := by omega
      exact wi_full hW
    rw [grow]
    have hnz : decide ((((popL x k (L.filter (underB x k))).length : Nat) : Int) = 0) = true := by rw [hp0]; rfl
    refine V_yes rfl hnz ?_
    generalize popV x k v (L.filter (underB x k)) = v' at *
    repeat (first | refine Vx ?_ | (apply Ops_q; (case hon => exact Va); (case hd => rfl); (case hq => exact YlA)) | refine Vr ?_ | refine Vt ?_ | refine Vf ?_ | refine Vm ?_ | refine Ve ?_ | refine Vo ?_ | refine Vz ?_)
    refine V_loop (fun j : Nat => [(54, .int .i64 j), (53, .int .i64 V.length), (52, .slice vo V.length d), (12, .slice (some ⟨g, 0, none⟩) V.length V.length), (3, .int .i64 v')])
      (fun j w' => j ≤ V.length ∧ Ext w w' ∧ Arr w' 1 vo (V.map ic) ∧ DatI w' w2.heap.size g V.length V.length (fillS V (costV (.leaf v')) (fun _ => 0) j)) (fun j => V.length - j) 0 (by repeat (first | exact trivial | refine ⟨rfl, ?_⟩)) ⟨Nat.zero_le _, x12, hV2, D3⟩ ?_
    clear D3 hV2 x12 hR
    rintro j w4 ⟨hj, x4, hV4, D4⟩
    repeat (first | refine Vx ?_ | (apply Ops_q; (case hon => exact Va); (case hd => rfl); (case hq => exact YlA)) | refine Vr ?_ | refine Vt ?_ | refine Vf ?_ | refine Vm ?_ | refine Ve ?_ | refine Vo ?_ | refine Vz ?_)
    refine V_cond rfl (fun hg4 => ?_) (fun hg4 => ?_)
    · replace hg4 := of_decide_eq_true hg4
      have hjl : j < V.length := by omega
      obtain ⟨y, hy⟩ : ∃ y, V[j]? = some y := ⟨_, List.getElem?_eq_getElem hjl⟩
      obtain ⟨av, rfl, hcv⟩ := hV4 j (ic y) (by rw [List.getElem?_map, hy]; rfl)
      have hcv1 : w4.cell? (av.add (j * 1)) = some (.int .i64 y) := by
        have := hcv 0 _ rfl
        rw [add_add, Nat.add_zero] at this; exact this
      repeat (first | refine Vx ?_ | (apply Ops_q; (case hon => exact Va); (case hd => rfl); (case hq => exact YlA)) | refine Vr ?_ | refine Vt ?_ | refine Vf ?_ | refine Vm ?_ | refine Ve ?_ | refine Vo ?_ | refine Vz ?_)
      (apply Ops_q; (case hon => (exact Va)); (case hd => rfl); (case hq => exact Yl_indexS (j := j) rfl rfl (by omega)))
      repeat (first | refine Vx ?_ | (apply Ops_q; (case hon => exact Va); (case hd => rfl); (case hq => exact YlA)) | refine Vr ?_ | refine Vt ?_ | refine Vf ?_ | refine Vm ?_ | refine Ve ?_ | refine Vo ?_ | refine Vz ?_)
      refine V_cond rfl (fun hc => ?_) (fun hc => ?_)
      · have hne : y ≠ v' := by simpa using hc
        have hcy : costV (.leaf v') y = 1 := by
          unfold costV; rw [Tr.cost, Tr.set, out1, if_neg (fun h => hne (List.mem_singleton.1 h))]; rfl
        repeat (first | refine Vx ?_ | (apply Ops_q; (case hon => exact Va); (case hd => rfl); (case hq => exact YlA)) | refine Vr ?_ | refine Vt ?_ | refine Vf ?_ | refine Vm ?_ | refine Ve ?_ | refine Vo ?_ | refine Vz ?_)
        (apply Ops_q; (case hon => (exact Va)); (case hd => rfl); (case hq => exact Yl_indexS (j := j) rfl rfl (by omega)))
        repeat (first | refine Vx ?_ | (apply Ops_q; (case hon => exact Va); (case hd => rfl); (case hq => exact YlA)) | refine Vr ?_ | refine Vt ?_ | refine Vf ?_ | refine Vm ?_ | refine Ve ?_ | refine Vo ?_ | refine Vz ?_)
        refine Ops_storeDatI (i := j) (v := 1) (by exact Va) rfl rfl rfl D4 hjl ?_
        intro w5 D5 g5
        rw [← hcy, fillS_set hy] at D5
        have m5 : Mod (fun c => c = g) w4 w5 := (Mod.of_ext (Ext.refl w4)).grow g5 (fun b hb => .inl (by cases hb; rfl))
        have x5 : Ext w w5 := Mod.ext_of x4 m5 (fun c hc => by rw [hc]; exact hgw)
        repeat (first | refine Vx ?_ | (apply Ops_q; (case hon => exact Va); (case hd => rfl); (case hq => exact YlA)) | refine Vr ?_ | refine Vt ?_ | refine Vf ?_ | refine Vm ?_ | refine Ve ?_ | refine Vo ?_ | refine Vz ?_)
        exact ⟨j + 1, (by repeat (first | exact trivial | refine ⟨rfl, ?_⟩)), ⟨hjl, x5, hV.ext x5, D5⟩, by omega⟩
      · have he : y = v' := by simpa using hc
        have hcy : (0 : Int) = costV (.leaf v') y := by
          unfold costV; rw [Tr.cost, Tr.set, out1, if_pos (List.mem_singleton.2 he)]; rfl
        rw [fillS_same hy hcy] at D4
        repeat (first | refine Vx ?_ | (apply Ops_q; (case hon => exact Va); (case hd => rfl); (case hq => exact YlA)) | refine Vr ?_ | refine Vt ?_ | refine Vf ?_ | refine Vm ?_ | refine Ve ?_ | refine Vo ?_ | refine Vz ?_)
        exact ⟨j + 1, (by repeat (first | exact trivial | refine ⟨rfl, ?_⟩)), ⟨hjl, x4, hV4, D4⟩, by omega⟩
    · replace hg4 := of_decide_eq_false hg4
      obtain rfl : j = V.length := by omega
      rw [fillS_all] at D4
      repeat (first | refine Vx ?_ | (apply Ops_q; (case hon => exact Va); (case hd => rfl); (case hq => exact YlA)) | refine Vr ?_ | refine Vt ?_ | refine Vf ?_ | refine Vm ?_ | refine Ve ?_ | refine Vo ?_ | refine Vz ?_)
      refine ret1 (by first | exact .inl rfl | exact .inr rfl) rfl rfl ?_
      exact Gives_mk (fun w' he => by
        unfold CstR
        exact (D4.own.ext he).mono hz2) x4
  | succ f ih =>
    intro x k L v V ao vo c d w hk hx hl hL hLa hLn hV hV0 hVn hW hvals
    obtain ⟨hrp, hbp⟩ := rest_pop hx hW
    have hbp := hbp v
    refine V_enter (vs := [_, _, _, _]) Try.func42 rfl Try.ntmps42 (Nat.le_of_ble_eq_true rfl) ?_
    repeat (first | refine Vx ?_ | (apply Ops_q; (case hon => exact Va); (case hd => rfl); (case hq => exact YlA)) | refine Vr ?_ | refine Vt ?_ | refine Vf ?_ | refine Vm ?_ | refine Ve ?_ | refine Vo ?_ | refine Vz ?_)
    (refine Ops_box (by exact Va) rfl rfl rfl ?_; intro w1 b6 n_b6; have k_b6 := n_b6.blk)
    have x1 := n_b6.ext
    clear n_b6
    repeat (first | refine Vx ?_ | (apply Ops_q; (case hon => exact Va); (case hd => rfl); (case hq => exact YlA)) | refine Vr ?_ | refine Vt ?_ | refine Vf ?_ | refine Vm ?_ | refine Ve ?_ | refine Vo ?_ | refine Vz ?_)
    refine V_loop (fun s : Nat × Value => [(25, .int .i64 s.1), (24, .int .i64 L.length), (23, .slice ao L.length c), (9, s.2), (3, .int .i64 (baseF x k v (L.take s.1))), (6, .pointer (some ⟨b6, 0, none⟩)), (1, .slice vo V.length d)])
      (fun s w' => s.1 ≤ L.length ∧ Ext w1 w' ∧ Own w' w1.heap.size 40 3 s.2 ((restF x k (L.take s.1)).map En.cells)) (fun s => L.length - s.1) (0, .slice none 0 0) (by repeat (first | exact trivial | refine ⟨rfl, ?_⟩)) ⟨Nat.zero_le _, Ext.refl _, Own.nil⟩ ?_
    rintro ⟨i, r⟩ w2 ⟨hi, x2, o2⟩
    dsimp only at hi o2 ⊢
    repeat (first | refine Vx ?_ | (apply Ops_q; (case hon => exact Va); (case hd => rfl); (case hq => exact YlA)) | refine Vr ?_ | refine Vt ?_ | refine Vf ?_ | refine Vm ?_ | refine Ve ?_ | refine Vo ?_ | refine Vz ?_)
    refine V_cond rfl (fun hg => ?_) (fun hg => ?_)
    · replace hg := of_decide_eq_true hg
      have hil : i < L.length := by omega
      obtain ⟨e, he⟩ : ∃ e, L[i]? = some e := ⟨_, List.getElem?_eq_getElem hil⟩
      obtain ⟨ad, rfl, hc⟩ := hL.at he
      obtain ⟨hea, hev⟩ := hLa e (List.mem_of_getElem? he)
      have hrs := restF_snoc (x := x) (k := k) he
      have hbs := baseF_snoc (x := x) (k := k) (v := v) he
      have hcu := covers_under hx (by omega) hev
      have hrl := filter_le L i (fun e => decide (e.p ≠ ⟨x, (k : Int)⟩) && underB x k e)
      change (restF x k (L.take i)).length ≤ L.length at hrl
      have hc1 : Cells w2 (ad.add (i * 3)) [.int .u32 e.p.a, .int .i64 e.p.n, .int .i64 e.v] := (hc.ext x1).ext x2
      repeat (first | refine Vx ?_ | (apply Ops_q; (case hon => exact Va); (case hd => rfl); (case hq => exact YlA)) | refine Vr ?_ | refine Vt ?_ | refine Vf ?_ | refine Vm ?_ | refine Ve ?_ | refine Vo ?_ | refine Vz ?_)
      (apply Ops_q; (case hon => (exact Va)); (case hd => rfl); (case hq => exact Yl_indexS (j := i) rfl rfl (by omega)))
      repeat (first | refine Vx ?_ | (apply Ops_q; (case hon => exact Va); (case hd => rfl); (case hq => exact YlA)) | refine Vr ?_ | refine Vt ?_ | refine Vf ?_ | refine Vm ?_ | refine Ve ?_ | refine Vo ?_ | refine Vz ?_)
      (refine Ops_alloc (by exact Va) rfl ?_; intro w3 b11 n_b11; have k_b11 := n_b11.blk)
      repeat (first | refine Vx ?_ | (apply Ops_q; (case hon => exact Va); (case hd => rfl); (case hq => exact YlA)) | refine Vr ?_ | refine Vt ?_ | refine Vf ?_ | refine Vm ?_ | refine Ve ?_ | refine Vo ?_ | refine Vz ?_)
      (refine Ops_store (by exact Va) rfl rfl (by assumption) (by first | rfl | exact OneAll.h) ?_; intro w4 u_w4; have k_b11 := u_w4.blk)
      have y4 := u_w4.below n_b11.ext n_b11.ge
      have x4 := x2.trans y4
      have o4 := o2.ext y4
      have hep : Cells w4 ⟨b11, 0, none⟩ [.int .u32 e.p.a, .int .i64 e.p.n] := k_b11.part 0 2
      have hpp : Cells w4 ⟨b6, 0, none⟩ [.int .u32 x, .int .i64 k] := ((k_b6.ext x2).ext y4).cells
      have hq := eqPf_dec e.p ⟨x, (k : Int)⟩
      dsimp only at hq
      clear u_w4 n_b11 hc1 o2 y4
      repeat (first | refine Vx ?_ | (apply Ops_q; (case hon => exact Va); (case hd => rfl); (case hq => exact YlA)) | refine Vr ?_ | refine Vt ?_ | refine Vf ?_ | refine Vm ?_ | refine Ve ?_ | refine Vo ?_ | refine Vz ?_)
      rw [hq]
      by_cases hp : e.p = ⟨x, (k : Int)⟩
      · rw [decide_eq_true hp]
        rw [if_pos hp] at hbs
        rw [decide_eq_false (fun h => h hp), Bool.false_and, if_neg (by decide), List.append_nil] at hrs
        clear hep hpp
        repeat (first | refine Vx ?_ | (apply Ops_q; (case hon => exact Va); (case hd => rfl); (case hq => exact YlA)) | refine Vr ?_ | refine Vt ?_ | refine Vf ?_ | refine Vm ?_ | refine Ve ?_ | refine Vo ?_ | refine Vz ?_)
        refine ⟨(i + 1, r), ?_, ⟨hil, x4, ?_⟩, by simp only; omega⟩
        · dsimp only
          rw [hbs]; exact (by repeat (first | exact trivial | refine ⟨rfl, ?_⟩))
        · dsimp only
          rw [hrs]; exact o4
      · rw [decide_eq_false hp]
        rw [if_neg hp] at hbs
        rw [decide_eq_true hp, Bool.true_and] at hrs
        repeat (first | refine Vx ?_ | (apply Ops_q; (case hon => exact Va); (case hd => rfl); (case hq => exact YlA)) | refine Vr ?_ | refine Vt ?_ | refine Vf ?_ | refine Vm ?_ | refine Ve ?_ | refine Vo ?_ | refine Vz ?_)
        (apply Ops_q; (case hon => (exact Va)); (case hd => rfl); (case hq => exact Yl_call rfl (fun w_ e_ => coversR_v ⟨x, (k : Int)⟩ e.p w_ hl hea)))
        rw [hcu]
        clear hep hpp
        repeat (first | refine Vx ?_ | (apply Ops_q; (case hon => exact Va); (case hd => rfl); (case hq => exact YlA)) | refine Vr ?_ | refine Vt ?_ | refine Vf ?_ | refine Vm ?_ | refine Ve ?_ | refine Vo ?_ | refine Vz ?_)
        refine V_cond rfl (fun hu => ?_) (fun hu => ?_)
        · rw [if_pos hu] at hrs
          repeat (first | refine Vx ?_ | (apply Ops_q; (case hon => exact Va); (case hd => rfl); (case hq => exact YlA)) | refine Vr ?_ | refine Vt ?_ | refine Vf ?_ | refine Vm ?_ | refine Ve ?_ | refine Vo ?_ | refine Vz ?_)
          (refine Ops_lit (by exact Va) rfl rfl rfl ?_; intro w6 c6 n_c6; have k_c6 := n_c6.blk)
          have o6 := o4.ext n_c6.ext
          have x6 := x4.trans n_c6.ext
          have hcs : Cells w6 ⟨c6, 0, none⟩ e.cells := n_c6.blk.cells
          repeat (first | refine Vx ?_ | (apply Ops_q; (case hon => exact Va); (case hd => rfl); (case hq => exact YlA)) | refine Vr ?_ | refine Vt ?_ | refine Vf ?_ | refine Vm ?_ | refine Ve ?_ | refine Vo ?_ | refine Vz ?_)
          refine Ops_append1 (u := e.cells) (by exact Va) rfl rfl rfl rfl o6 hcs ⟨rfl⟩ ⟨rfl⟩ (by rw [List.length_map]; omega) rfl x6.size ?_
          intro r' w7 o7 g7 d7
          have m7 : Mod (fun c => r.ownBlock = some c) w4 w7 := (Mod.of_ext n_c6.ext).grow g7 (fun b hb => .inl hb)
          have x7 : Ext w1 w7 := Mod.ext_of x4 m7 (fun c hc => o6.ge hc)
          rw [show [e.cells] = [e].map En.cells from rfl, ← List.map_append, ← hrs] at o7
          repeat (first | refine Vx ?_ | (apply Ops_q; (case hon => exact Va); (case hd => rfl); (case hq => exact YlA)) | refine Vr ?_ | refine Vt ?_ | refine Vf ?_ | refine Vm ?_ | refine Ve ?_ | refine Vo ?_ | refine Vz ?_)
          refine ⟨(i + 1, r'), ?_, ⟨hil, x7, o7⟩, by simp only; omega⟩
          dsimp only
          rw [hbs]; exact (by repeat (first | exact trivial | refine ⟨rfl, ?_⟩))
        · rw [if_neg (by rw [hu]; decide), List.append_nil] at hrs
          repeat (first | refine Vx ?_ | (apply Ops_q; (case hon => exact Va); (case hd => rfl); (case hq => exact YlA)) | refine Vr ?_ | refine Vt ?_ | refine Vf ?_ | refine Vm ?_ | refine Ve ?_ | refine Vo ?_ | refine Vz ?_)
          refine ⟨(i + 1, r), ?_, ⟨hil, x4, ?_⟩, by simp only; omega⟩
          · dsimp only
            rw [hbs]; exact (by repeat (first | exact trivial | refine ⟨rfl, ?_⟩))
          · dsimp only
            rw [hrs]; exact o4
    replace hg := of_decide_eq_false hg
    obtain rfl : i = L.length := by omega
    rw [List.take_length, hrp] at o2
    rw [List.take_length, hbp]
    have hV2 := (hV.ext x1).ext x2
    have x12 := x1.trans x2
    have hz2 := x12.size
    repeat (first | refine Vx ?_ | (apply Ops_q; (case hon => exact Va); (case hd => rfl); (case hq => exact YlA)) | refine Vr ?_ | refine Vt ?_ | refine Vf ?_ | refine Vm ?_ | refine Ve ?_ | refine Vo ?_ | refine Vz ?_)
    refine Ops_make1 (by exact Va) rfl rfl rfl (by omega) (by unfold maxLen; omega) ?_
    intro w3 g x3 hg3 o3
    have D3 : DatI w3 w2.heap.size g V.length V.length (fillS V (costV (.leaf (popV x k v (L.filter (underB x k))))) (fun _ => 0) 0) := by
      rw [fillS_zero]
      refine ⟨?_, List.length_map ..⟩
      rw [List.map_map]
      have : (List.replicate V.length [Value.int .i64 0]) = V.map (ic ∘ fun _ => 0) := by
        rw [show (ic ∘ fun _ => (0 : Int)) = Function.const Int [Value.int .i64 0] from rfl, List.map_const]
      rw [← this]; exact o3
    have hgw : w.heap.size ≤ g := Nat.le_trans x12.size hg3
    replace hV2 := hV2.ext x3
    replace o2 := o2.ext x3
    replace x12 := x12.trans x3
    have hx13 : Ext w1 w3 := x2.trans x3
    clear o3 hg hbp x2 x3
    obtain ⟨ra, rc, rfl, hRA⟩ := o2.slice
    rw [List.length_map]
    have hR : Ens w3 ra (popL x k (L.filter (underB x k))) := hRA
    clear hRA o2
    repeat (first | refine Vx ?_ | (apply Ops_q; (case hon => exact Va); (case hd => rfl); (case hq => exact YlA)) | refine Vr ?_ | refine Vt ?_ | refine Vf ?_ | refine Vm ?_ | refine Ve ?_ | refine Vo ?_ | refine Vz ?_)
    rw [grow] at hvals ⊢
    by_cases hp0 : popL x k (L.filter (underB x k)) = []
    · rw [if_pos (by rw [hp0]; rfl)]
      have hnz : decide ((((popL x k (L.filter (underB x k))).length : Nat) : Int) = 0) = true := by rw [hp0]; rfl
      refine V_yes rfl hnz ?_
      generalize popV x k v (L.filter (underB x k)) = v' at *
      repeat (first | refine Vx ?_ | (apply Ops_q; (case hon => exact Va); (case hd => rfl); (case hq => exact YlA)) | refine Vr ?_ | refine Vt ?_ | refine Vf ?_ | refine Vm ?_ | refine Ve ?_ | refine Vo ?_ | refine Vz ?_)
      refine V_loop (fun j : Nat => [(54, .int .i64 j), (53, .int .i64 V.length), (52, .slice vo V.length d), (12, .slice (some ⟨g, 0, none⟩) V.length V.length), (3, .int .i64 v')])
        (fun j w' => j ≤ V.length ∧ Ext w w' ∧ Arr w' 1 vo (V.map ic) ∧ DatI w' w2.heap.size g V.length V.length (fillS V (costV (.leaf v')) (fun _ => 0) j)) (fun j => V.length - j) 0 (by repeat (first | exact trivial | refine ⟨rfl, ?_⟩)) ⟨Nat.zero_le _, x12, hV2, D3⟩ ?_
      clear D3 hV2 x12 hR
      rintro j w4 ⟨hj, x4, hV4, D4⟩
      repeat (first | refine Vx ?_ | (apply Ops_q; (case hon => exact Va); (case hd => rfl); (case hq => exact YlA)) | refine Vr ?_ | refine Vt ?_ | refine Vf ?_ | refine Vm ?_ | refine Ve ?_ | refine Vo ?_ | refine Vz ?_)
      refine V_cond rfl (fun hg4 => ?_) (fun hg4 => ?_)
      · replace hg4 := of_decide_eq_true hg4
        have hjl : j < V.length := by omega
        obtain ⟨y, hy⟩ : ∃ y, V[j]? = some y := ⟨_, List.getElem?_eq_getElem hjl⟩
        obtain ⟨av, rfl, hcv⟩ := hV4 j (ic y) (by rw [List.getElem?_map, hy]; rfl)
        have hcv1 : w4.cell? (av.add (j * 1)) = some (.int .i64 y) := by
          have := hcv 0 _ rfl
          rw [add_add, Nat.add_zero] at this; exact this
        repeat (first | refine Vx ?_ | (apply Ops_q; (case hon => exact Va); (case hd => rfl); (case hq => exact YlA)) | refine Vr ?_ | refine Vt ?_ | refine Vf ?_ | refine Vm ?_ | refine Ve ?_ | refine Vo ?_ | refine Vz ?_)
        (apply Ops_q; (case hon => (exact Va)); (case hd => rfl); (case hq => exact Yl_indexS (j := j) rfl rfl (by omega)))
        repeat (first | refine Vx ?_ | (apply Ops_q; (case hon => exact Va); (case hd => rfl); (case hq => exact YlA)) | refine Vr ?_ | refine Vt ?_ | refine Vf ?_ | refine Vm ?_ | refine Ve ?_ | refine Vo ?_ | refine Vz ?_)
        refine V_cond rfl (fun hc => ?_) (fun hc => ?_)
        · have hne : y ≠ v' := by simpa using hc
          have hcy : costV (.leaf v') y = 1 := by
            unfold costV; rw [Tr.cost, Tr.set, out1, if_neg (fun h => hne (List.mem_singleton.1 h))]; rfl
          repeat (first | refine Vx ?_ | (apply Ops_q; (case hon => exact Va); (case hd => rfl); (case hq => exact YlA)) | refine Vr ?_ | refine Vt ?_ | refine Vf ?_ | refine Vm ?_ | refine Ve ?_ | refine Vo ?_ | refine Vz ?_)
          (apply Ops_q; (case hon => (exact Va)); (case hd => rfl); (case hq => exact Yl_indexS (j := j) rfl rfl (by omega)))
          repeat (first | refine Vx ?_ | (apply Ops_q; (case hon => exact Va); (case hd => rfl); (case hq => exact YlA)) | refine Vr ?_ | refine Vt ?_ | refine Vf ?_ | refine Vm ?_ | refine Ve ?_ | refine Vo ?_ | refine Vz ?_)
          refine Ops_storeDatI (i := j) (v := 1) (by exact Va) rfl rfl rfl D4 hjl ?_
          intro w5 D5 g5
          rw [← hcy, fillS_set hy] at D5
          have m5 : Mod (fun c => c = g) w4 w5 := (Mod.of_ext (Ext.refl w4)).grow g5 (fun b hb => .inl (by cases hb; rfl))
          have x5 : Ext w w5 := Mod.ext_of x4 m5 (fun c hc => by rw [hc]; exact hgw)
          repeat (first | refine Vx ?_ | (apply Ops_q; (case hon => exact Va); (case hd => rfl); (case hq => exact YlA)) | refine Vr ?_ | refine Vt ?_ | refine Vf ?_ | refine Vm ?_ | refine Ve ?_ | refine Vo ?_ | refine Vz ?_)
          exact ⟨j + 1, (by repeat (first | exact trivial | refine ⟨rfl, ?_⟩)), ⟨hjl, x5, hV.ext x5, D5⟩, by omega⟩
        · have he : y = v' := by simpa using hc
          have hcy : (0 : Int) = costV (.leaf v') y := by
            unfold costV; rw [Tr.cost, Tr.set, out1, if_pos (List.mem_singleton.2 he)]; rfl
          rw [fillS_same hy hcy] at D4
          repeat (first | refine Vx ?_ | (apply Ops_q; (case hon => exact Va); (case hd => rfl); (case hq => exact YlA)) | refine Vr ?_ | refine Vt ?_ | refine Vf ?_ | refine Vm ?_ | refine Ve ?_ | refine Vo ?_ | refine Vz ?_)
          exact ⟨j + 1, (by repeat (first | exact trivial | refine ⟨rfl, ?_⟩)), ⟨hjl, x4, hV4, D4⟩, by omega⟩
      · replace hg4 := of_decide_eq_false hg4
        obtain rfl : j = V.length := by omega
        rw [fillS_all] at D4
        repeat (first | refine Vx ?_ | (apply Ops_q; (case hon => exact Va); (case hd => rfl); (case hq => exact YlA)) | refine Vr ?_ | refine Vt ?_ | refine Vf ?_ | refine Vm ?_ | refine Ve ?_ | refine Vo ?_ | refine Vz ?_)
        refine ret1 (by first | exact .inl rfl | exact .inr rfl) rfl rfl ?_
        exact Gives_mk (fun w' he => by
          unfold CstR
          exact (D4.own.ext he).mono hz2) x4
    rw [if_neg (by rw [List.isEmpty_iff]; exact hp0)] at hvals ⊢
    have hnz : decide ((((popL x k (L.filter (underB x k))).length : Nat) : Int) = 0) = false := decide_eq_false (fun e => hp0 (List.length_eq_zero_iff.1 (by omega)))
    have hpw := pop_wi hW
    have hpm := pop_mem hW
    have hv' : ∀ e ∈ popL x k (L.filter (underB x k)), e.p.valid = true := fun e he => (hpw.ok e he).1
    have wA := half_wi (x := x) (k := k) (bit := 0) hpw.srt hv'
    have wB := half_wi (x := x) (k := k) (bit := 1) hpw.srt hv'
    have hRa : ∀ e ∈ popL x k (L.filter (underB x k)), e.p.a < 4294967296 ∧ e.p.valid = true := fun e he => hLa e (List.mem_filter.1 (pop_sub he)).1
    have hRn : (popL x k (L.filter (underB x k))).length ≤ 1000 := by
      have h1 : (restF x k L).length ≤ L.length := List.length_filter_le ..
      rw [hrp] at h1; omega
    have hk32 : k < 32 := by omega
    have hh := fun w => rhalves_k (x := x) (k := k) w hk32 hx hl
    have t0 := (kid_top hk32 hx (bit := 0) (by omega)).1
    have t1 := (kid_top hk32 hx (bit := 1) (by omega)).1
    have l0 := kid_lt hk32 hx (bit := 0) (by omega) hl
    have l1 := kid_lt hk32 hx (bit := 1) (by omega) hl
    unfold halfL at *
    generalize popL x k (L.filter (underB x k)) = R at *
    generalize popV x k v (L.filter (underB x k)) = v' at *
    generalize kidA x k 0 = y0 at *
    generalize kidA x k 1 = y1 at *
    have hva : ∀ y ∈ (grow f y0 (k + 1) (R.filter (underB y0 (k + 1))) v').vals, y ∈ V := fun y hy => hvals y (by rw [Tr.vals, List.mem_append]; exact .inl hy)
    have hvb : ∀ y ∈ (grow f y1 (k + 1) (R.filter (underB y1 (k + 1))) v').vals, y ∈ V := fun y hy => hvals y (by rw [Tr.vals, List.mem_append]; exact .inr hy)
    have g0 := fun ao vo c d w he hV => ih y0 (k + 1) R v' V ao vo c d w (by omega) t0 l0 he hRa hRn hV hV0 hVn wA hva
    have g1 := fun ao vo c d w he hV => ih y1 (k + 1) R v' V ao vo c d w (by omega) t1 l1 he hRa hRn hV hV0 hVn wB hvb
    have c0 := cost_le f y0 (k + 1) (R.filter (underB y0 (k + 1))) v' wA (by omega)
    have c1 := cost_le f y1 (k + 1) (R.filter (underB y1 (k + 1))) v' wB (by omega)
    generalize grow f y0 (k + 1) (R.filter (underB y0 (k + 1))) v' = T0 at *
    generalize grow f y1 (k + 1) (R.filter (underB y1 (k + 1))) v' = T1 at *
    have hset : ∀ y ∈ (Tr.node T0 T1).set, y ∈ V := fun y hy => hvals y (Tr.set_vals _ y hy)
    have hpp : Cells w3 ⟨b6, 0, none⟩ [.int .u32 x, .int .i64 k] := (k_b6.ext hx13).cells
    clear ih hvals hva hvb wA wB hpw hpm hv' hRa hW hrp hL hLa
    refine V_no rfl hnz ?_
    repeat (first | refine Vx ?_ | (apply Ops_q; (case hon => exact Va); (case hd => rfl); (case hq => exact YlA)) | refine Vr ?_ | refine Vt ?_ | refine Vf ?_ | refine Vm ?_ | refine Ve ?_ | refine Vo ?_ | refine Vz ?_)
    (apply Ops_q; (case hon => (exact Va)); (case hd => rfl); (case hq => exact Yl_call rfl (fun w_ e_ => hh w_)))
    repeat (first | refine Vx ?_ | (apply Ops_q; (case hon => exact Va); (case hd => rfl); (case hq => exact YlA)) | refine Vr ?_ | refine Vt ?_ | refine Vf ?_ | refine Vm ?_ | refine Ve ?_ | refine Vo ?_ | refine Vz ?_)
    (refine Ops_alloc (by exact Va) rfl ?_; intro w4 b15 n_b15; have k_b15 := n_b15.blk)
    repeat (first | refine Vx ?_ | (apply Ops_q; (case hon => exact Va); (case hd => rfl); (case hq => exact YlA)) | refine Vr ?_ | refine Vt ?_ | refine Vf ?_ | refine Vm ?_ | refine Ve ?_ | refine Vo ?_ | refine Vz ?_)
    (refine Ops_alloc (by exact Va) rfl ?_; intro w5 b16 n_b16; have k_b16 := n_b16.blk)
    have ne_b15_b16 : b15 ≠ b16 := Nat.ne_of_lt (Nat.lt_of_lt_of_le k_b15.lt n_b16.ge)
    replace k_b15 := k_b15.ext n_b16.ext
    repeat (first | refine Vx ?_ | (apply Ops_q; (case hon => exact Va); (case hd => rfl); (case hq => exact YlA)) | refine Vr ?_ | refine Vt ?_ | refine Vf ?_ | refine Vm ?_ | refine Ve ?_ | refine Vo ?_ | refine Vz ?_)
    (refine Ops_store (by exact Va) rfl rfl (by assumption) (by first | rfl | exact OneAll.h) ?_; intro w6 u_w6; have k_b15 := u_w6.blk)
    replace k_b16 := u_w6.keep k_b16 (Ne.symm ne_b15_b16)
    repeat (first | refine Vx ?_ | (apply Ops_q; (case hon => exact Va); (case hd => rfl); (case hq => exact YlA)) | refine Vr ?_ | refine Vt ?_ | refine Vf ?_ | refine Vm ?_ | refine Ve ?_ | refine Vo ?_ | refine Vz ?_)
    (refine Ops_store (by exact Va) rfl rfl (by assumption) (by first | rfl | exact OneAll.h) ?_; intro w7 u_w7; have k_b16 := u_w7.blk)
    replace k_b15 := u_w7.keep k_b15 ne_b15_b16
    have x37 : Ext w3 w7 := u_w7.below (u_w6.below (n_b15.ext.trans n_b16.ext) n_b15.ge) (Nat.le_trans n_b15.ext.size n_b16.ge)
    have h50 : Cells w7 ⟨b15, 0, none⟩ [.int .u32 y0, .int .i64 ((k + 1 : Nat) : Int)] := k_b15.cells
    have h51 : Cells w7 ⟨b16, 0, none⟩ [.int .u32 y1, .int .i64 ((k + 1 : Nat) : Int)] := k_b16.cells
    have hR7 := hR.ext x37
    have hV7 := hV2.ext x37
    have x7 := x12.trans x37
    replace D3 := D3.ext x37
    clear u_w7 u_w6 n_b15 n_b16 k_b15 k_b16 hpp hR hV2 x12 hx13 hh
    repeat (first | refine Vx ?_ | (apply Ops_q; (case hon => exact Va); (case hd => rfl); (case hq => exact YlA)) | refine Vt ?_ | refine Vf ?_ | refine Vm ?_ | refine Ve ?_ | refine Vo ?_ | refine Vz ?_)
    refine V_give2 10 4 9 (fun r w' => Own w' w7.heap.size 3 1 r ((V.map (costV T0)).map ic)) (fun r w' => Own w' w7.heap.size 3 1 r ((V.map (costV T1)).map ic)) (fun _ _ _ he h => h.ext he) (fun _ _ _ he h => h.ext he) (by kernel_rfl) rfl rfl rfl rfl rfl (by kernel_rfl) rfl rfl rfl ?_
    repeat (first | (apply YsG.q; (case h2 => rfl); (case h3 => rfl); (case hq => exact YlA)) | refine YsG.nil rfl ?_)
    refine ⟨Gvs_call rfl (fun w_ e_ => (g0 ra vo rc d w_ (hR7.ext e_) (hV7.ext e_)).mono fun e w' ⟨r, h1, h2, h3⟩ => ⟨r, h1, h2, h3.mono e_.size⟩), ?_⟩
    repeat (first | (apply YsG.q; (case h2 => rfl); (case h3 => rfl); (case hq => exact YlA)) | refine YsG.nil rfl ?_)
    refine ⟨Gvs_call rfl (fun w_ e_ => (g1 ra vo rc d w_ (hR7.ext e_) (hV7.ext e_)).mono fun e w' ⟨r, h1, h2, h3⟩ => ⟨r, h1, h2, h3.mono e_.size⟩), ?_⟩
    repeat (first | (apply YsG.q; (case h2 => rfl); (case h3 => rfl); (case hq => exact YlA)) | refine YsG.nil rfl ?_)
    rintro r1 r2 w8 x8 hO1 hO2
    have hgl : g < w7.heap.size := D3.own.lt rfl
    have D8 := D3.ext x8
    have x78 := x7.trans x8
    have hV8 := hV7.ext x8
    obtain ⟨a1, ca1, rfl, hA1⟩ := hO1.slice
    obtain ⟨a2, ca2, rfl, hA2⟩ := hO2.slice
    have hb1 : ∀ a, a1 = some a → a.block ≠ g := fun a ha => by
      subst ha
      have : w7.heap.size ≤ a.block := hO1.ge rfl
      omega
    have hb2 : ∀ a, a2 = some a → a.block ≠ g := fun a ha => by
      subst ha
      have : w7.heap.size ≤ a.block := hO2.ge rfl
      omega
    rw [List.length_map, List.length_map, List.length_map, List.length_map]
    have hcn : (Tr.node T0 T1).cost ≤ 8589934593 := by rw [Tr.cost]; split <;> omega
    have hz0 : ∀ y, costV T0 y ≤ 4294967297 ∧ 0 ≤ costV T0 y := fun y => by unfold costV; have := out1_le T0.set y; omega
    have hz1 : ∀ y, costV T1 y ≤ 4294967297 ∧ 0 ≤ costV T1 y := fun y => by unfold costV; have := out1_le T1.set y; omega
    have hin : ∀ y, InK .i64 (costV T0 y + costV T1 y) := fun y => by have := hz0 y; have := hz1 y; simp only [InK]; omega
    have hin2 : InK .i64 (((Tr.node T0 T1).cost : Int) + 1) := by simp only [InK]; omega
    clear hz0 hz1 c0 c1 hcn hO1 hO2 g0 g1 hR7 hV7 x7 D3 h50 h51
    obtain ⟨q0, hq0⟩ : ∃ q, V[0]? = some q := ⟨_, List.getElem?_eq_getElem (List.length_pos_iff.2 hV0)⟩
    have h0l : 0 < V.length := List.length_pos_iff.2 hV0
    rw [fillS_zero, ← fillS_zero V (sumV T0 T1)] at D8
    have rd : ∀ (w' : World) (ao : Option Addr) (T : Tr) (j : Nat) (y : Int), Arr w' 1 ao ((V.map (costV T)).map ic) → V[j]? = some y → ∃ ad, ao = some ad ∧ w'.cell? (ad.add (j * 1)) = some (.int .i64 (costV T y)) := fun w' ao T j y hA hy => by
      obtain ⟨ad, h1, h2⟩ := hA j (ic (costV T y)) (by rw [List.getElem?_map, List.getElem?_map, hy]; rfl)
      refine ⟨ad, h1, ?_⟩
      have := h2 0 _ rfl
      rw [add_add, Nat.add_zero] at this; exact this
    obtain ⟨ad1, rfl, hr1⟩ := rd w8 a1 T0 0 q0 hA1 hq0
    obtain ⟨ad2, rfl, hr2⟩ := rd w8 a2 T1 0 q0 hA2 hq0
    have hin0 := hin q0
    repeat (first | refine Vx ?_ | (apply Ops_q; (case hon => exact Va); (case hd => rfl); (case hq => exact YlA)) | refine Vr ?_ | refine Vt ?_ | refine Vf ?_ | refine Vm ?_ | refine Ve ?_ | refine Vo ?_ | refine Vz ?_)
    (apply Ops_q; (case hon => (exact Va)); (case hd => rfl); (case hq => exact Yl_indexS (j := 0) rfl rfl (by omega)))
    repeat (first | refine Vx ?_ | (apply Ops_q; (case hon => exact Va); (case hd => rfl); (case hq => exact YlA)) | refine Vr ?_ | refine Vt ?_ | refine Vf ?_ | refine Vm ?_ | refine Ve ?_ | refine Vo ?_ | refine Vz ?_)
    (apply Ops_q; (case hon => (exact Va)); (case hd => rfl); (case hq => exact Yl_indexS (j := 0) rfl rfl (by omega)))
    repeat (first | refine Vx ?_ | (apply Ops_q; (case hon => exact Va); (case hd => rfl); (case hq => exact YlA)) | refine Vr ?_ | refine Vt ?_ | refine Vf ?_ | refine Vm ?_ | refine Ve ?_ | refine Vo ?_ | refine Vz ?_)
    clear hr1 hr2 hin0
    refine V_loop (fun j : Nat => [(92, .int .i64 j), (91, .int .i64 V.length), (90, .slice vo V.length d), (1, .slice vo V.length d), (12, .slice (some ⟨g, 0, none⟩) V.length V.length), (18, .slice (some ad1) V.length ca1), (19, .slice (some ad2) V.length ca2), (20, .int .i64 (((V.take j).map (sumV T0 T1)).foldl min (sumV T0 T1 q0)))])
      (fun j w' => j ≤ V.length ∧ Ext w w' ∧ DatI w' w2.heap.size g V.length V.length (fillS V (sumV T0 T1) (fun _ => 0) j) ∧ Arr w' 1 (some ad1) ((V.map (costV T0)).map ic) ∧ Arr w' 1 (some ad2) ((V.map (costV T1)).map ic)) (fun j => V.length - j) 0 (by repeat (first | exact trivial | refine ⟨rfl, ?_⟩)) ⟨Nat.zero_le _, x78, D8, hA1, hA2⟩ ?_
    clear D8 hA1 hA2 x78 hV8
    rintro j w9 ⟨hj, x9, D9, hA1, hA2⟩
    repeat (first | refine Vx ?_ | (apply Ops_q; (case hon => exact Va); (case hd => rfl); (case hq => exact YlA)) | refine Vr ?_ | refine Vt ?_ | refine Vf ?_ | refine Vm ?_ | refine Ve ?_ | refine Vo ?_ | refine Vz ?_)
    refine V_cond rfl (fun hg9 => ?_) (fun hg9 => ?_)
    · replace hg9 := of_decide_eq_true hg9
      have hjl : j < V.length := by omega
      obtain ⟨y, hy⟩ : ∃ y, V[j]? = some y := ⟨_, List.getElem?_eq_getElem hjl⟩
      obtain ⟨_, e1, hr1⟩ := rd w9 (some ad1) T0 j y hA1 hy
      cases e1
      obtain ⟨_, e2, hr2⟩ := rd w9 (some ad2) T1 j y hA2 hy
      cases e2
      have hiny := hin y
      have htk : ((V.take (j + 1)).map (sumV T0 T1)).foldl min (sumV T0 T1 q0) = min (((V.take j).map (sumV T0 T1)).foldl min (sumV T0 T1 q0)) (sumV T0 T1 y) := by
        rw [List.take_add_one, hy, Option.toList_some, List.map_append, List.foldl_append]; rfl
      generalize ((V.take j).map (sumV T0 T1)).foldl min (sumV T0 T1 q0) = lm at *
      repeat (first | refine Vx ?_ | (apply Ops_q; (case hon => exact Va); (case hd => rfl); (case hq => exact YlA)) | refine Vt ?_ | refine Vf ?_ | refine Vm ?_ | refine Ve ?_ | refine Vo ?_ | refine Vz ?_)
      refine V_region_mixed 11 (by kernel_rfl) (by kernel_rfl) rfl ?_
      repeat (first | refine Vx ?_ | (apply Ops_q; (case hon => exact Va); (case hd => rfl); (case hq => exact YlA)) | refine Vr ?_ | refine Vt ?_ | refine Vf ?_ | refine Vm ?_ | refine Ve ?_ | refine Vo ?_ | refine Vz ?_)
      (apply Ops_q; (case hon => (exact Va)); (case hd => rfl); (case hq => exact Yl_indexS (j := j) rfl rfl (by omega)))
      repeat (first | refine Vx ?_ | (apply Ops_q; (case hon => exact Va); (case hd => rfl); (case hq => exact YlA)) | refine Vr ?_ | refine Vt ?_ | refine Vf ?_ | refine Vm ?_ | refine Ve ?_ | refine Vo ?_ | refine Vz ?_)
      (apply Ops_q; (case hon => (exact Va)); (case hd => rfl); (case hq => exact Yl_indexS (j := j) rfl rfl (by omega)))
      repeat (first | refine Vx ?_ | (apply Ops_q; (case hon => exact Va); (case hd => rfl); (case hq => exact YlA)) | refine Vr ?_ | refine Vt ?_ | refine Vf ?_ | refine Vm ?_ | refine Ve ?_ | refine Vo ?_ | refine Vz ?_)
      (apply Ops_q; (case hon => (exact Va)); (case hd => rfl); (case hq => exact Yl_indexS (j := j) rfl rfl (by omega)))
      repeat (first | refine Vx ?_ | (apply Ops_q; (case hon => exact Va); (case hd => rfl); (case hq => exact YlA)) | refine Vr ?_ | refine Vt ?_ | refine Vf ?_ | refine Vm ?_ | refine Ve ?_ | refine Vo ?_ | refine Vz ?_)
      refine Ops_storeDatI (i := j) (v := sumV T0 T1 y) (by exact Va) rfl rfl rfl D9 hjl ?_
      intro w10 D10 g10
      rw [fillS_set hy] at D10
      have m10 : Mod (fun c => c = g) w9 w10 := (Mod.of_ext (Ext.refl w9)).grow g10 (fun b hb => .inl (by cases hb; rfl))
      have x10 : Ext w w10 := Mod.ext_of x9 m10 (fun c hc => by rw [hc]; exact hgw)
      have hA1' := m10.arr hA1 (fun a ha => hb1 a ha)
      have hA2' := m10.arr hA2 (fun a ha => hb2 a ha)
      have hcell := D10.at (fillS_at2 (g := sumV T0 T1) (f := fun _ => 0) hy)
      clear hr1 hr2
      repeat (first | refine Vx ?_ | (apply Ops_q; (case hon => exact Va); (case hd => rfl); (case hq => exact YlA)) | refine Vr ?_ | refine Vt ?_ | refine Vf ?_ | refine Vm ?_ | refine Ve ?_ | refine Vo ?_ | refine Vz ?_)
      (apply Ops_q; (case hon => (exact Va)); (case hd => rfl); (case hq => exact Yl_indexS (j := j) rfl rfl (by omega)))
      repeat (first | refine Vx ?_ | (apply Ops_q; (case hon => exact Va); (case hd => rfl); (case hq => exact YlA)) | refine Vr ?_ | refine Vt ?_ | refine Vf ?_ | refine Vm ?_ | refine Ve ?_ | refine Vo ?_ | refine Vz ?_)
      refine ⟨j + 1, ?_, ⟨hjl, x10, D10, hA1', hA2'⟩, by omega⟩
      rw [htk]
      exact (by repeat (first | exact trivial | refine ⟨rfl, ?_⟩))
    replace hg9 := of_decide_eq_false hg9
    obtain rfl : j = V.length := by omega
    rw [fillS_all, ← fillS_zero V (costV (.node T0 T1))] at D9
    rw [List.take_length, min_sum T0 T1 (List.mem_of_getElem? hq0) hset]
    clear hA1 hA2 rd
    repeat (first | refine Vx ?_ | (apply Ops_q; (case hon => exact Va); (case hd => rfl); (case hq => exact YlA)) | refine Vr ?_ | refine Vt ?_ | refine Vf ?_ | refine Vm ?_ | refine Ve ?_ | refine Vo ?_ | refine Vz ?_)
    refine V_loop (fun j : Nat => [(116, .int .i64 j), (115, .int .i64 V.length), (12, .slice (some ⟨g, 0, none⟩) V.length V.length), (20, .int .i64 ((Tr.node T0 T1).cost : Int))])
      (fun j w' => j ≤ V.length ∧ Ext w w' ∧ DatI w' w2.heap.size g V.length V.length (fillS V (costV (.node T0 T1)) (sumV T0 T1) j)) (fun j => V.length - j) 0 (by repeat (first | exact trivial | refine ⟨rfl, ?_⟩)) ⟨Nat.zero_le _, x9, D9⟩ ?_
    clear D9 x9
    rintro j w10 ⟨hj, x10, D10⟩
    repeat (first | refine Vx ?_ | (apply Ops_q; (case hon => exact Va); (case hd => rfl); (case hq => exact YlA)) | refine Vr ?_ | refine Vt ?_ | refine Vf ?_ | refine Vm ?_ | refine Ve ?_ | refine Vo ?_ | refine Vz ?_)
    refine V_cond rfl (fun hg10 => ?_) (fun hg10 => ?_)
    · replace hg10 := of_decide_eq_true hg10
      have hjl : j < V.length := by omega
      obtain ⟨y, hy⟩ : ∃ y, V[j]? = some y := ⟨_, List.getElem?_eq_getElem hjl⟩
      have hcell := D10.at (fillS_at (g := costV (.node T0 T1)) (f := sumV T0 T1) hy)
      have hmn := sum_min T0 T1 y
      repeat (first | refine Vx ?_ | (apply Ops_q; (case hon => exact Va); (case hd => rfl); (case hq => exact YlA)) | refine Vr ?_ | refine Vt ?_ | refine Vf ?_ | refine Vm ?_ | refine Ve ?_ | refine Vo ?_ | refine Vz ?_)
      (apply Ops_q; (case hon => (exact Va)); (case hd => rfl); (case hq => exact Yl_indexS (j := j) rfl rfl (by omega)))
      repeat (first | refine Vx ?_ | (apply Ops_q; (case hon => exact Va); (case hd => rfl); (case hq => exact YlA)) | refine Vr ?_ | refine Vt ?_ | refine Vf ?_ | refine Vm ?_ | refine Ve ?_ | refine Vo ?_ | refine Vz ?_)
      rw [hmn]
      (apply Ops_q; (case hon => (exact Va)); (case hd => rfl); (case hq => exact Yl_indexS (j := j) rfl rfl (by omega)))
      repeat (first | refine Vx ?_ | (apply Ops_q; (case hon => exact Va); (case hd => rfl); (case hq => exact YlA)) | refine Vr ?_ | refine Vt ?_ | refine Vf ?_ | refine Vm ?_ | refine Ve ?_ | refine Vo ?_ | refine Vz ?_)
      refine Ops_storeDatI (i := j) (v := costV (.node T0 T1) y) (by exact Va) rfl rfl rfl D10 hjl ?_
      intro w11 D11 g11
      rw [fillS_set hy] at D11
      have m11 : Mod (fun c => c = g) w10 w11 := (Mod.of_ext (Ext.refl w10)).grow g11 (fun b hb => .inl (by cases hb; rfl))
      have x11 : Ext w w11 := Mod.ext_of x10 m11 (fun c hc => by rw [hc]; exact hgw)
      repeat (first | refine Vx ?_ | (apply Ops_q; (case hon => exact Va); (case hd => rfl); (case hq => exact YlA)) | refine Vr ?_ | refine Vt ?_ | refine Vf ?_ | refine Vm ?_ | refine Ve ?_ | refine Vo ?_ | refine Vz ?_)
      exact ⟨j + 1, (by repeat (first | exact trivial | refine ⟨rfl, ?_⟩)), ⟨hjl, x11, D11⟩, by omega⟩
    replace hg10 := of_decide_eq_false hg10
    obtain rfl : j = V.length := by omega
    rw [fillS_all] at D10
    repeat (first | refine Vx ?_ | (apply Ops_q; (case hon => exact Va); (case hd => rfl); (case hq => exact YlA)) | refine Vr ?_ | refine Vt ?_ | refine Vf ?_ | refine Vm ?_ | refine Ve ?_ | refine Vo ?_ | refine Vz ?_)
    refine ret1 (by first | exact .inl rfl | exact .inr rfl) rfl rfl ?_
    exact Gives_mk (fun w' he => by
      unfold CstR
      exact (D10.own.ext he).mono hz2) x10
end Go.Proofs.Ytkiidmbkibfbiaa

/-
  Tables (layer 7): the reference's Least, walked.
  Conditions: a table of at most 1000 entries.
-/
namespace Go.Proofs.Ytkiidmbkibfbiaa
open Go.RowKit

def addV (V : List Int) (e : En) : List Int := if e.v ∈ V then V else V ++ [e.v]
def valsV (L : List En) : List Int := L.foldl addV [-1]
theorem addV_sub {V : List Int} {e : En} {y : Int} (h : y ∈ V) : y ∈ addV V e := by
  unfold addV; split
  · exact h
  · exact List.mem_append.2 (.inl h)
theorem addV_self (V : List Int) (e : En) : e.v ∈ addV V e := by
  unfold addV; split
  · assumption
  · exact List.mem_append.2 (.inr (List.mem_singleton.2 rfl))
theorem foldV_sub : ∀ (L : List En) (V : List Int) (y : Int), y ∈ V → y ∈ L.foldl addV V
  | [], _, _, h => h
  | e :: r, V, y, h => foldV_sub r (addV V e) y (addV_sub h)
theorem foldV_mem : ∀ (L : List En) (V : List Int), ∀ e ∈ L, e.v ∈ L.foldl addV V
  | [], _, _, h => (nomatch h)
  | d :: r, V, e, h => by
    rw [List.foldl_cons]
    rcases List.mem_cons.1 h with rfl | h
    · exact foldV_sub r _ _ (addV_self V e)
    · exact foldV_mem r _ e h
theorem foldV_head : ∀ (L : List En) (V : List Int) (q : Int), V[0]? = some q → (L.foldl addV V)[0]? = some q
  | [], _, _, h => h
  | e :: r, V, q, h => by
    rw [List.foldl_cons]
    refine foldV_head r _ q ?_
    unfold addV; split
    · exact h
    · cases V with
      | nil => cases h
      | cons a V => exact h
theorem foldV_len : ∀ (L : List En) (V : List Int), (L.foldl addV V).length ≤ V.length + L.length
  | [], _ => Nat.le_refl _
  | e :: r, V => by
    rw [List.foldl_cons, List.length_cons]
    have h := foldV_len r (addV V e)
    have : (addV V e).length ≤ V.length + 1 := by unfold addV; split <;> simp
    omega
theorem valsV_snoc {L : List En} {i : Nat} {e : En} (h : L[i]? = some e) : valsV (L.take (i + 1)) = if e.v ∈ valsV (L.take i) then valsV (L.take i) else valsV (L.take i) ++ [e.v] := by
  unfold valsV
  rw [List.take_add_one, h, Option.toList_some, List.foldl_append]; rfl
theorem filter_all {L : List En} (h : Wi 0 0 L) : L.filter (underB 0 0) = L := by
  refine List.filter_eq_self.2 fun e he => ?_
  obtain ⟨_, h2, h3⟩ := h.ok e he
  rw [underB, decide_eq_true h2, decide_eq_true h3]; rfl
set_option maxHeartbeats 2000000 in
theorem leastRef_v (ao : Option Addr) (L : List En) (c : Nat) (w : World) (hL : Ens w ao L) (hT : Tb L) (hLa : ∀ e ∈ L, e.p.a < 4294967296) (hn : L.length ≤ 1000) : Calls Try.prog 23 #[.slice ao L.length c] w (Ret (.int .i64 ((minL L).length : Nat)) w) := by
  have hW := hT.wi hLa
  have hfl := filter_all hW
  have hok : ∀ e ∈ L, e.p.a < 4294967296 ∧ e.p.valid = true := fun e he => ⟨hLa e he, (hT.ok e he).1⟩
  refine V_enter (vs := [_]) Try.func23 rfl Try.ntmps23 (Nat.le_of_ble_eq_true rfl) ?_
  repeat (first | refine Vx ?_ | (apply Ops_q; (case hon => exact Va); (case hd => rfl); (case hq => exact YlA)) | refine Vr ?_ | refine Vt ?_ | refine Vf ?_ | refine Vm ?_ | refine Ve ?_ | refine Vo ?_ | refine Vz ?_)
  (refine Ops_lit (by exact Va) rfl rfl rfl ?_; intro w1 b1 n_b1; have k_b1 := n_b1.blk)
  have o1 : Own w1 w.heap.size 3 1 (.slice (some ⟨b1, 0, none⟩) 1 1) ((valsV (L.take 0)).map ic) := own_lit1 n_b1
  have x1 := n_b1.ext
  clear k_b1
  repeat (first | refine Vx ?_ | (apply Ops_q; (case hon => exact Va); (case hd => rfl); (case hq => exact YlA)) | refine Vr ?_ | refine Vt ?_ | refine Vf ?_ | refine Vm ?_ | refine Ve ?_ | refine Vo ?_ | refine Vz ?_)
  refine V_loop (fun s : Nat × Value => [(9, .int .i64 s.1), (8, .int .i64 L.length), (7, .slice ao L.length c), (3, s.2), (0, .slice ao L.length c)])
    (fun s w' => s.1 ≤ L.length ∧ Ext w w' ∧ Own w' w.heap.size 3 1 s.2 ((valsV (L.take s.1)).map ic)) (fun s => L.length - s.1) (0, .slice (some ⟨b1, 0, none⟩) 1 1) (by repeat (first | exact trivial | refine ⟨rfl, ?_⟩))
    ⟨Nat.zero_le _, x1, o1⟩ ?_
  clear n_b1 o1 x1
  rintro ⟨i, r⟩ w2 ⟨hi, x2, o2⟩
  dsimp only at hi o2 ⊢
  repeat (first | refine Vx ?_ | (apply Ops_q; (case hon => exact Va); (case hd => rfl); (case hq => exact YlA)) | refine Vr ?_ | refine Vt ?_ | refine Vf ?_ | refine Vm ?_ | refine Ve ?_ | refine Vo ?_ | refine Vz ?_)
  refine V_cond rfl (fun hg => ?_) (fun hg => ?_)
  · replace hg := of_decide_eq_true hg
    have hil : i < L.length := by omega
    obtain ⟨e, he⟩ : ∃ e, L[i]? = some e := ⟨_, List.getElem?_eq_getElem hil⟩
    obtain ⟨ad, rfl, hc⟩ := hL.at he
    have hsn := valsV_snoc he
    have hvl : (valsV (L.take i)).length ≤ 1 + (L.take i).length := foldV_len (L.take i) [-1]
    rw [List.length_take] at hvl
    have hc1 : Cells w2 (ad.add (i * 3)) [.int .u32 e.p.a, .int .i64 e.p.n, .int .i64 e.v] := hc.ext x2
    generalize valsV (L.take i) = V at *
    have hVn : V.length ≤ 1000000 := by omega
    repeat (first | refine Vx ?_ | (apply Ops_q; (case hon => exact Va); (case hd => rfl); (case hq => exact YlA)) | refine Vr ?_ | refine Vt ?_ | refine Vf ?_ | refine Vm ?_ | refine Ve ?_ | refine Vo ?_ | refine Vz ?_)
    (apply Ops_q; (case hon => (exact Va)); (case hd => rfl); (case hq => exact Yl_indexS (j := i) rfl rfl (by omega)))
    repeat (first | refine Vx ?_ | (apply Ops_q; (case hon => exact Va); (case hd => rfl); (case hq => exact YlA)) | refine Vr ?_ | refine Vt ?_ | refine Vf ?_ | refine Vm ?_ | refine Ve ?_ | refine Vo ?_ | refine Vz ?_)
    (refine Ops_alloc (by exact Va) rfl ?_; intro w3 b5 n_b5; have k_b5 := n_b5.blk)
    repeat (first | refine Vx ?_ | (apply Ops_q; (case hon => exact Va); (case hd => rfl); (case hq => exact YlA)) | refine Vr ?_ | refine Vt ?_ | refine Vf ?_ | refine Vm ?_ | refine Ve ?_ | refine Vo ?_ | refine Vz ?_)
    (refine Ops_store (by exact Va) rfl rfl (by assumption) (by first | rfl | exact OneAll.h) ?_; intro w4 u_w4; have k_b5 := u_w4.blk)
    have y4 := u_w4.below n_b5.ext n_b5.ge
    have x4 := x2.trans y4
    have o4 := o2.ext y4
    clear u_w4 n_b5 hc1 o2 y4
    obtain ⟨va, vc, hr, hV⟩ := o4.slice
    rw [List.length_map] at hr
    subst hr
    have hh := fun w_ (e_ : Ext w4 w_) => hasInt_v va V vc e.v w_ (hV.ext e_) hVn
    by_cases hm : e.v ∈ V
    · rw [decide_eq_true hm] at hh
      rw [if_pos hm] at hsn
      repeat (first | refine Vx ?_ | (apply Ops_q; (case hon => exact Va); (case hd => rfl); (case hq => exact YlA)) | refine Vr ?_ | refine Vt ?_ | refine Vf ?_ | refine Vm ?_ | refine Ve ?_ | refine Vo ?_ | refine Vz ?_)
      (apply Ops_q; (case hon => (exact Va)); (case hd => rfl); (case hq => exact Yl_call rfl (fun w_ e_ => hh w_ e_)))
      repeat (first | refine Vx ?_ | (apply Ops_q; (case hon => exact Va); (case hd => rfl); (case hq => exact YlA)) | refine Vr ?_ | refine Vt ?_ | refine Vf ?_ | refine Vm ?_ | refine Ve ?_ | refine Vo ?_ | refine Vz ?_)
      refine ⟨(i + 1, _), (by repeat (first | exact trivial | refine ⟨rfl, ?_⟩)), ⟨hil, x4, ?_⟩, by simp only; omega⟩
      dsimp only
      rw [hsn]; exact o4
    · rw [decide_eq_false hm] at hh
      rw [if_neg hm] at hsn
      repeat (first | refine Vx ?_ | (apply Ops_q; (case hon => exact Va); (case hd => rfl); (case hq => exact YlA)) | refine Vr ?_ | refine Vt ?_ | refine Vf ?_ | refine Vm ?_ | refine Ve ?_ | refine Vo ?_ | refine Vz ?_)
      (apply Ops_q; (case hon => (exact Va)); (case hd => rfl); (case hq => exact Yl_call rfl (fun w_ e_ => hh w_ e_)))
      repeat (first | refine Vx ?_ | (apply Ops_q; (case hon => exact Va); (case hd => rfl); (case hq => exact YlA)) | refine Vr ?_ | refine Vt ?_ | refine Vf ?_ | refine Vm ?_ | refine Ve ?_ | refine Vo ?_ | refine Vz ?_)
      (refine Ops_lit (by exact Va) rfl rfl rfl ?_; intro w6 c6 n_c6; have k_c6 := n_c6.blk)
      have o6 := o4.ext n_c6.ext
      have x6 := x4.trans n_c6.ext
      have hcs : Cells w6 ⟨c6, 0, none⟩ (ic e.v) := n_c6.blk.cells
      repeat (first | refine Vx ?_ | (apply Ops_q; (case hon => exact Va); (case hd => rfl); (case hq => exact YlA)) | refine Vr ?_ | refine Vt ?_ | refine Vf ?_ | refine Vm ?_ | refine Ve ?_ | refine Vo ?_ | refine Vz ?_)
      refine Ops_append1 (u := ic e.v) (by exact Va) rfl rfl rfl rfl o6 hcs ⟨rfl⟩ ⟨rfl⟩ (by rw [List.length_map]; omega) rfl x6.size ?_
      intro r' w7 o7 g7 d7
      have m7 : Mod (fun c => (Value.slice va V.length vc).ownBlock = some c) w4 w7 := (Mod.of_ext n_c6.ext).grow g7 (fun b hb => .inl hb)
      have x7 : Ext w w7 := Mod.ext_of x4 m7 (fun c hc => o6.ge hc)
      rw [show [ic e.v] = [e.v].map ic from rfl, ← List.map_append, ← hsn] at o7
      repeat (first | refine Vx ?_ | (apply Ops_q; (case hon => exact Va); (case hd => rfl); (case hq => exact YlA)) | refine Vr ?_ | refine Vt ?_ | refine Vf ?_ | refine Vm ?_ | refine Ve ?_ | refine Vo ?_ | refine Vz ?_)
      exact ⟨(i + 1, r'), (by repeat (first | exact trivial | refine ⟨rfl, ?_⟩)), ⟨hil, x7, o7⟩, by simp only; omega⟩
  replace hg := of_decide_eq_false hg
  obtain rfl : i = L.length := by omega
  rw [List.take_length] at o2
  have hvl : (valsV L).length ≤ 1 + L.length := foldV_len L [-1]
  have hv0 : (valsV L)[0]? = some (-1) := foldV_head L [-1] (-1) rfl
  have hvals : ∀ y ∈ (grow 32 0 0 (L.filter (underB 0 0)) (-1)).vals, y ∈ valsV L := fun y hy => by
    rw [hfl] at hy
    rcases grow_vals 32 0 0 L (-1) y hy with rfl | ⟨e, he, rfl⟩
    · exact foldV_sub L [-1] _ (List.mem_singleton.2 rfl)
    · exact foldV_mem L [-1] e he
  have hml : (minL L).length = (grow 32 0 0 L (-1)).cost + out1 (grow 32 0 0 L (-1)).set (-1) := choose_len _ 0 0 (-1)
  have hVne : valsV L ≠ [] := fun h => by rw [h] at hv0; cases hv0
  generalize valsV L = V at *
  obtain ⟨va, vc, hr, hV⟩ := o2.slice
  rw [List.length_map] at hr
  subst hr
  have hcs := fun w_ (e_ : Ext w2 w_) => costs_v 32 0 0 L (-1) V ao va c vc w_ rfl (by decide) (by decide) (hL.ext (x2.trans e_)) hok hn (hV.ext e_) hVne (by omega) (hfl.symm ▸ hW) hvals
  clear hvals
  rw [hfl] at hcs
  generalize grow 32 0 0 L (-1) = T at *
  repeat (first | refine Vx ?_ | (apply Ops_q; (case hon => exact Va); (case hd => rfl); (case hq => exact YlA)) | refine Vr ?_ | refine Vt ?_ | refine Vf ?_ | refine Vm ?_ | refine Ve ?_ | refine Vo ?_ | refine Vz ?_)
  (refine Ops_callR (by exact Va) rfl rfl (fun w_ e_ => hcs w_ e_) ?_; intro v w3 w0_ e0_ e1_ r_v; have e_w3 := e0_.trans e1_; have b_v := e0_.size; clear e0_ e1_)
  obtain ⟨ra, rc, rfl, hA⟩ := r_v.slice
  obtain ⟨ad, rfl, hc⟩ := hA 0 (ic (costV T (-1))) (by rw [List.getElem?_map, List.getElem?_map, hv0]; rfl)
  have hc1 := hc 0 _ rfl
  rw [add_add, Nat.add_zero] at hc1
  have hl1 : 0 < V.length := List.length_pos_iff.2 hVne
  rw [List.length_map, List.length_map]
  repeat (first | refine Vx ?_ | (apply Ops_q; (case hon => exact Va); (case hd => rfl); (case hq => exact YlA)) | refine Vr ?_ | refine Vt ?_ | refine Vf ?_ | refine Vm ?_ | refine Ve ?_ | refine Vo ?_ | refine Vz ?_)
  (apply Ops_q; (case hon => (exact Va)); (case hd => rfl); (case hq => exact Yl_indexS (j := 0) rfl rfl (by omega)))
  repeat (first | refine Vx ?_ | (apply Ops_q; (case hon => exact Va); (case hd => rfl); (case hq => exact YlA)) | refine Vr ?_ | refine Vt ?_ | refine Vf ?_ | refine Vm ?_ | refine Ve ?_ | refine Vo ?_ | refine Vz ?_)
  refine ret1 (by first | exact .inl rfl | exact .inr rfl) rfl rfl ?_
  exact Ret_mk (by rw [hml]; rfl) (x2.trans e_w3)
end Go.Proofs.Ytkiidmbkibfbiaa

/-
  Tables (layer 7): the laws AggregateLeast and AggregateMinimal, walked.
  Conditions: the arguments are read as slices of entries.
-/
namespace Go.Proofs.Ytkiidmbkibfbiaa
open Go.RowKit

theorem min_sam {L : List En} (h0 : chk L = 0) (hLa : ∀ e ∈ L, e.p.a < 4294967296) : chk (minL L) = 0 ∧ samT L (minL L) = true := by
  obtain ⟨hl, hT⟩ := chk_iff.1 h0
  obtain ⟨h1, h2, h3⟩ := min_tb hT hLa
  have h4 : chk (minL L) = 0 := chk_iff.2 ⟨by omega, h1⟩
  exact ⟨h4, decide_eq_true ⟨h0, h4, (dif_none hT h1 hLa h2).2 fun x hx => (min_lk hT hLa hx).symm⟩⟩
set_option maxHeartbeats 1000000 in
theorem lawLeast_v (ao : Option Addr) (L : List En) (c : Nat) (bo : Option Addr) (M : List En) (d : Nat) (w : World) (hS : Sl w ao L.length c L) (hLa : ∀ e ∈ L, e.p.a < 4294967296) (hT : Sl w bo M.length d M) (hMa : ∀ e ∈ M, e.p.a < 4294967296) : Calls Try.prog 7 #[.slice ao L.length c, .slice bo M.length d] w (Ret (.bool true) w) := by
  refine V_enter (vs := [_, _]) Try.func7 rfl Try.ntmps7 (Nat.le_of_ble_eq_true rfl) ?_
  repeat (first | refine Vx ?_ | (apply Ops_q; (case hon => exact Va); (case hd => rfl); (case hq => exact YlA)) | refine Vr ?_ | refine Vt ?_ | refine Vf ?_ | refine Vm ?_ | refine Ve ?_ | refine Vo ?_ | refine Vz ?_)
  refine Ops_split rfl rfl (fun h1 => ?_) (fun h1 => ?_)
  · repeat (first | refine Vx ?_ | (apply Ops_q; (case hon => exact Va); (case hd => rfl); (case hq => exact YlA)) | refine Vr ?_ | refine Vt ?_ | refine Vf ?_ | refine Vm ?_ | refine Ve ?_ | refine Vo ?_ | refine Vz ?_)
    (apply Ops_q; (case hon => (exact Va)); (case hd => rfl); (case hq => exact Yl_call rfl (fun w_ e_ => awake7_v w_)))
    repeat (first | refine Vx ?_ | (apply Ops_q; (case hon => exact Va); (case hd => rfl); (case hq => exact YlA)) | refine Vr ?_ | refine Vt ?_ | refine Vf ?_ | refine Vm ?_ | refine Ve ?_ | refine Vo ?_ | refine Vz ?_)
    refine ret1 (by first | exact .inl rfl | exact .inr rfl) rfl rfl ?_
    exact Ret_mk rfl (Ext.refl _)
  have hn : L.length ≤ 60 := by have := of_decide_eq_false h1; omega
  clear h1
  repeat (first | refine Vx ?_ | (apply Ops_q; (case hon => exact Va); (case hd => rfl); (case hq => exact YlA)) | refine Vr ?_ | refine Vt ?_ | refine Vf ?_ | refine Vm ?_ | refine Ve ?_ | refine Vo ?_ | refine Vz ?_)
  refine Ops_split rfl rfl (fun h1 => ?_) (fun h1 => ?_)
  · repeat (first | refine Vx ?_ | (apply Ops_q; (case hon => exact Va); (case hd => rfl); (case hq => exact YlA)) | refine Vr ?_ | refine Vt ?_ | refine Vf ?_ | refine Vm ?_ | refine Ve ?_ | refine Vo ?_ | refine Vz ?_)
    (apply Ops_q; (case hon => (exact Va)); (case hd => rfl); (case hq => exact Yl_call rfl (fun w_ e_ => awake7_v w_)))
    repeat (first | refine Vx ?_ | (apply Ops_q; (case hon => exact Va); (case hd => rfl); (case hq => exact YlA)) | refine Vr ?_ | refine Vt ?_ | refine Vf ?_ | refine Vm ?_ | refine Ve ?_ | refine Vo ?_ | refine Vz ?_)
    refine ret1 (by first | exact .inl rfl | exact .inr rfl) rfl rfl ?_
    exact Ret_mk rfl (Ext.refl _)
  have hm : M.length ≤ 60 := by have := of_decide_eq_false h1; omega
  clear h1
  have hn6 : L.length ≤ 1000000 := by omega
  have hm6 : M.length ≤ 1000000 := by omega
  have hs := fun w_ (e_ : Ext w w_) => sameR_v ao bo L M c d w_ (hS.ens.ext e_) hLa hn6 hS.nil (hT.ens.ext e_) hMa hm6 hT.nil
  cases hsm : samT L M with
  | false =>
    rw [hsm] at hs
    repeat (first | refine Vx ?_ | (apply Ops_q; (case hon => exact Va); (case hd => rfl); (case hq => exact YlA)) | refine Vr ?_ | refine Vt ?_ | refine Vf ?_ | refine Vm ?_ | refine Ve ?_ | refine Vo ?_ | refine Vz ?_)
    (apply Ops_q; (case hon => (exact Va)); (case hd => rfl); (case hq => exact Yl_call rfl (fun w_ e_ => hs w_ e_)))
    repeat (first | refine Vx ?_ | (apply Ops_q; (case hon => exact Va); (case hd => rfl); (case hq => exact YlA)) | refine Vr ?_ | refine Vt ?_ | refine Vf ?_ | refine Vm ?_ | refine Ve ?_ | refine Vo ?_ | refine Vz ?_)
    (apply Ops_q; (case hon => (exact Va)); (case hd => rfl); (case hq => exact Yl_call rfl (fun w_ e_ => awake7_v w_)))
    repeat (first | refine Vx ?_ | (apply Ops_q; (case hon => exact Va); (case hd => rfl); (case hq => exact YlA)) | refine Vr ?_ | refine Vt ?_ | refine Vf ?_ | refine Vm ?_ | refine Ve ?_ | refine Vo ?_ | refine Vz ?_)
    refine ret1 (by first | exact .inl rfl | exact .inr rfl) rfl rfl ?_
    exact Ret_mk rfl (Ext.refl _)
  | true =>
    rw [hsm] at hs
    obtain ⟨c1, c2, hd⟩ : chk L = 0 ∧ chk M = 0 ∧ difO L M = none := of_decide_eq_true hsm
    have hTL := (chk_iff.1 c1).2
    have hTM := (chk_iff.1 c2).2
    have hlk := (dif_none hTL hTM hLa hMa).1 hd
    obtain ⟨a1, a2, a3⟩ := min_tb hTL hLa
    obtain ⟨b1, b2, b3⟩ := min_tb hTM hMa
    have k1 : (minL L).length ≤ M.length := min_le hTL hLa hTM hMa fun x hx => (hlk x hx).symm
    have k2 : (minL L).length ≤ (minL M).length := min_le hTL hLa b1 b2 fun x hx => (min_lk hTM hMa hx).trans (hlk x hx).symm
    have k3 : (minL M).length ≤ (minL L).length := min_le hTM hMa a1 a2 fun x hx => (min_lk hTL hLa hx).trans (hlk x hx)
    have hsa := (min_sam c1 hLa).2
    have e1 : minT L = minL L := if_pos c1
    have e2 : minT M = minL M := if_pos c2
    have m1 := fun w_ (e_ : Ext w w_) => minimal_v ao L c w_ (hS.ext e_) hLa hn6
    have m2 := fun w_ (e_ : Ext w w_) => minimal_v bo M d w_ (hT.ext e_) hMa hm6
    unfold MinR at m1 m2
    rw [c1, e1] at m1
    rw [c2, e2] at m2
    clear hsm hd hTL hTM hlk b1 b2 b3 e1 e2 c1 c2 a1
    generalize minL L = K at *
    generalize minL M = J at *
    have q1 : decide ((K.length : Int) ≤ (M.length : Int)) = true := decide_eq_true (by omega)
    have q2 : decide ((K.length : Int) ≤ (L.length : Int)) = true := decide_eq_true (by omega)
    have q3 : decide ((K.length : Int) = (J.length : Int)) = true := decide_eq_true (by omega)
    have hk6 : K.length ≤ 1000000 := by omega
    repeat (first | refine Vx ?_ | (apply Ops_q; (case hon => exact Va); (case hd => rfl); (case hq => exact YlA)) | refine Vr ?_ | refine Vt ?_ | refine Vf ?_ | refine Vm ?_ | refine Ve ?_ | refine Vo ?_ | refine Vz ?_)
    (apply Ops_q; (case hon => (exact Va)); (case hd => rfl); (case hq => exact Yl_call rfl (fun w_ e_ => hs w_ e_)))
    repeat (first | refine Vx ?_ | (apply Ops_q; (case hon => exact Va); (case hd => rfl); (case hq => exact YlA)) | refine Vr ?_ | refine Vt ?_ | refine Vf ?_ | refine Vm ?_ | refine Ve ?_ | refine Vo ?_ | refine Vz ?_)
    (refine Ops_callR (by exact Va) rfl rfl (fun w_ e_ => m1 w_ e_) ?_; intro v w1 w0_ e0_ e1_ r_v; have e_w1 := e0_.trans e1_; have b_v := e0_.size; clear e0_ e1_)
    obtain ⟨v, rfl, hO⟩ := r_v
    obtain ⟨at_, ct, rfl, hU⟩ := own_sl hO
    have x1 := e_w1
    clear hO b_v e_w1
    repeat (first | refine Vx ?_ | (apply Ops_q; (case hon => exact Va); (case hd => rfl); (case hq => exact YlA)) | refine Vr ?_ | refine Vt ?_ | refine Vf ?_ | refine Vm ?_ | refine Ve ?_ | refine Vo ?_ | refine Vz ?_)
    (refine Ops_callR (by exact Va) rfl rfl (fun w_ e_ => m2 w_ (x1.trans e_)) ?_; intro v w2 w0_ e0_ e1_ r_v; have e_w2 := e0_.trans e1_; have b_v := e0_.size; clear e0_ e1_)
    obtain ⟨v, rfl, hO⟩ := r_v
    obtain ⟨au, cu, rfl, hV⟩ := own_sl hO
    have x2 := x1.trans e_w2
    replace hU := hU.ext e_w2
    clear hO b_v e_w2
    have hs2 := fun w_ (e_ : Ext w2 w_) => sameR_v ao at_ L K c ct w_ (hS.ens.ext (x2.trans e_)) hLa hn6 hS.nil (hU.ens.ext e_) a2 hk6 hU.nil
    rw [hsa] at hs2
    clear hs m1 m2
    repeat (first | refine Vx ?_ | (apply Ops_q; (case hon => exact Va); (case hd => rfl); (case hq => exact YlA)) | refine Vr ?_ | refine Vt ?_ | refine Vf ?_ | refine Vm ?_ | refine Ve ?_ | refine Vo ?_ | refine Vz ?_)
    (apply Ops_q; (case hon => (exact Va)); (case hd => rfl); (case hq => exact Yl_call rfl (fun w_ e_ => awake7_v w_)))
    repeat (first | refine Vx ?_ | (apply Ops_q; (case hon => exact Va); (case hd => rfl); (case hq => exact YlA)) | refine Vr ?_ | refine Vt ?_ | refine Vf ?_ | refine Vm ?_ | refine Ve ?_ | refine Vo ?_ | refine Vz ?_)
    (apply Ops_q; (case hon => (exact Va)); (case hd => rfl); (case hq => exact Yl_call rfl (fun w_ e_ => hs2 w_ e_)))
    repeat (first | refine Vx ?_ | (apply Ops_q; (case hon => exact Va); (case hd => rfl); (case hq => exact YlA)) | refine Vr ?_ | refine Vt ?_ | refine Vf ?_ | refine Vm ?_ | refine Ve ?_ | refine Vo ?_ | refine Vz ?_)
    rw [q1]
    repeat (first | refine Vx ?_ | (apply Ops_q; (case hon => exact Va); (case hd => rfl); (case hq => exact YlA)) | refine Vr ?_ | refine Vt ?_ | refine Vf ?_ | refine Vm ?_ | refine Ve ?_ | refine Vo ?_ | refine Vz ?_)
    rw [q2]
    repeat (first | refine Vx ?_ | (apply Ops_q; (case hon => exact Va); (case hd => rfl); (case hq => exact YlA)) | refine Vr ?_ | refine Vt ?_ | refine Vf ?_ | refine Vm ?_ | refine Ve ?_ | refine Vo ?_ | refine Vz ?_)
    rw [q3]
    repeat (first | refine Vx ?_ | (apply Ops_q; (case hon => exact Va); (case hd => rfl); (case hq => exact YlA)) | refine Vr ?_ | refine Vt ?_ | refine Vf ?_ | refine Vm ?_ | refine Ve ?_ | refine Vo ?_ | refine Vz ?_)
    refine ret1 (by first | exact .inl rfl | exact .inr rfl) rfl rfl ?_
    exact Ret_mk rfl x2
set_option maxHeartbeats 1000000 in
theorem lawMinimal_v (ao : Option Addr) (L : List En) (c : Nat) (w : World) (hS : Sl w ao L.length c L) (hLa : ∀ e ∈ L, e.p.a < 4294967296) : Calls Try.prog 6 #[.slice ao L.length c] w (Ret (.bool true) w) := by
  refine V_enter (vs := [_]) Try.func6 rfl Try.ntmps6 (Nat.le_of_ble_eq_true rfl) ?_
  repeat (first | refine Vx ?_ | (apply Ops_q; (case hon => exact Va); (case hd => rfl); (case hq => exact YlA)) | refine Vr ?_ | refine Vt ?_ | refine Vf ?_ | refine Vm ?_ | refine Ve ?_ | refine Vo ?_ | refine Vz ?_)
  refine V_cond rfl (fun h1 => ?_) (fun h1 => ?_)
  · repeat (first | refine Vx ?_ | (apply Ops_q; (case hon => exact Va); (case hd => rfl); (case hq => exact YlA)) | refine Vr ?_ | refine Vt ?_ | refine Vf ?_ | refine Vm ?_ | refine Ve ?_ | refine Vo ?_ | refine Vz ?_)
    (apply Ops_q; (case hon => (exact Va)); (case hd => rfl); (case hq => exact Yl_call rfl (fun w_ e_ => awake7_v w_)))
    repeat (first | refine Vx ?_ | (apply Ops_q; (case hon => exact Va); (case hd => rfl); (case hq => exact YlA)) | refine Vr ?_ | refine Vt ?_ | refine Vf ?_ | refine Vm ?_ | refine Ve ?_ | refine Vo ?_ | refine Vz ?_)
    refine ret1 (by first | exact .inl rfl | exact .inr rfl) rfl rfl ?_
    exact Ret_mk rfl (Ext.refl _)
  have hn : L.length ≤ 40 := by have := of_decide_eq_false h1; omega
  clear h1
  have hn6 : L.length ≤ 1000000 := by omega
  have hn3 : L.length ≤ 1000 := by omega
  have m1 := fun w_ (e_ : Ext w w_) => minimal_v ao L c w_ (hS.ext e_) hLa hn6
  have hc := fun w_ (e_ : Ext w w_) => checkR_v ao L c w_ (hS.ens.ext e_) hLa hn6
  unfold MinR at m1
  by_cases c1 : chk L = 0
  · have hTL := (chk_iff.1 c1).2
    obtain ⟨a1, a2, a3⟩ := min_tb hTL hLa
    obtain ⟨hck, hsa⟩ := min_sam c1 hLa
    have e1 : minT L = minL L := if_pos c1
    have hle := fun w_ (e_ : Ext w w_) => leastRef_v ao L c w_ (hS.ens.ext e_) hTL hLa hn3
    rw [c1, e1] at m1
    rw [c1] at hc
    clear e1 c1 a1 hTL
    generalize minL L = K at *
    have q3 : decide ((K.length : Int) = (K.length : Int)) = true := decide_eq_true rfl
    have hk6 : K.length ≤ 1000000 := by omega
    repeat (first | refine Vx ?_ | (apply Ops_q; (case hon => exact Va); (case hd => rfl); (case hq => exact YlA)) | refine Vr ?_ | refine Vt ?_ | refine Vf ?_ | refine Vm ?_ | refine Ve ?_ | refine Vo ?_ | refine Vz ?_)
    (refine Ops_callR (by exact Va) rfl rfl (fun w_ e_ => m1 w_ e_) ?_; intro v w1 w0_ e0_ e1_ r_v; have e_w1 := e0_.trans e1_; have b_v := e0_.size; clear e0_ e1_)
    obtain ⟨v, rfl, hO⟩ := r_v
    obtain ⟨at_, ct, rfl, hU⟩ := own_sl hO
    have x1 := e_w1
    clear hO b_v e_w1
    have hs2 := fun w_ (e_ : Ext w1 w_) => sameR_v ao at_ L K c ct w_ (hS.ens.ext (x1.trans e_)) hLa hn6 hS.nil (hU.ens.ext e_) a2 hk6 hU.nil
    have hc2 := fun w_ (e_ : Ext w1 w_) => checkR_v at_ K ct w_ (hU.ens.ext e_) a2 hk6
    rw [hsa] at hs2
    rw [hck] at hc2
    clear m1
    repeat (first | refine Vx ?_ | (apply Ops_q; (case hon => exact Va); (case hd => rfl); (case hq => exact YlA)) | refine Vr ?_ | refine Vt ?_ | refine Vf ?_ | refine Vm ?_ | refine Ve ?_ | refine Vo ?_ | refine Vz ?_)
    (apply Ops_q; (case hon => (exact Va)); (case hd => rfl); (case hq => exact Yl_call rfl (fun w_ e_ => hc w_ (x1.trans e_))))
    repeat (first | refine Vx ?_ | (apply Ops_q; (case hon => exact Va); (case hd => rfl); (case hq => exact YlA)) | refine Vr ?_ | refine Vt ?_ | refine Vf ?_ | refine Vm ?_ | refine Ve ?_ | refine Vo ?_ | refine Vz ?_)
    (apply Ops_q; (case hon => (exact Va)); (case hd => rfl); (case hq => exact Yl_call rfl (fun w_ e_ => awake7_v w_)))
    repeat (first | refine Vx ?_ | (apply Ops_q; (case hon => exact Va); (case hd => rfl); (case hq => exact YlA)) | refine Vr ?_ | refine Vt ?_ | refine Vf ?_ | refine Vm ?_ | refine Ve ?_ | refine Vo ?_ | refine Vz ?_)
    (apply Ops_q; (case hon => (exact Va)); (case hd => rfl); (case hq => exact Yl_call rfl (fun w_ e_ => hc2 w_ e_)))
    repeat (first | refine Vx ?_ | (apply Ops_q; (case hon => exact Va); (case hd => rfl); (case hq => exact YlA)) | refine Vr ?_ | refine Vt ?_ | refine Vf ?_ | refine Vm ?_ | refine Ve ?_ | refine Vo ?_ | refine Vz ?_)
    (apply Ops_q; (case hon => (exact Va)); (case hd => rfl); (case hq => exact Yl_call rfl (fun w_ e_ => hs2 w_ e_)))
    repeat (first | refine Vx ?_ | (apply Ops_q; (case hon => exact Va); (case hd => rfl); (case hq => exact YlA)) | refine Vr ?_ | refine Vt ?_ | refine Vf ?_ | refine Vm ?_ | refine Ve ?_ | refine Vo ?_ | refine Vz ?_)
    (apply Ops_q; (case hon => (exact Va)); (case hd => rfl); (case hq => exact Yl_call rfl (fun w_ e_ => hle w_ (x1.trans e_))))
    repeat (first | refine Vx ?_ | (apply Ops_q; (case hon => exact Va); (case hd => rfl); (case hq => exact YlA)) | refine Vr ?_ | refine Vt ?_ | refine Vf ?_ | refine Vm ?_ | refine Ve ?_ | refine Vo ?_ | refine Vz ?_)
    rw [q3]
    repeat (first | refine Vx ?_ | (apply Ops_q; (case hon => exact Va); (case hd => rfl); (case hq => exact YlA)) | refine Vr ?_ | refine Vt ?_ | refine Vf ?_ | refine Vm ?_ | refine Ve ?_ | refine Vo ?_ | refine Vz ?_)
    refine ret1 (by first | exact .inl rfl | exact .inr rfl) rfl rfl ?_
    exact Ret_mk rfl x1
  · have e1 : minT L = [] := if_neg c1
    rw [e1] at m1
    have q1 : decide (chk L = chk L) = true := decide_eq_true rfl
    have q2 : decide (chk L = 0) = false := decide_eq_false c1
    repeat (first | refine Vx ?_ | (apply Ops_q; (case hon => exact Va); (case hd => rfl); (case hq => exact YlA)) | refine Vr ?_ | refine Vt ?_ | refine Vf ?_ | refine Vm ?_ | refine Ve ?_ | refine Vo ?_ | refine Vz ?_)
    (refine Ops_callR (by exact Va) rfl rfl (fun w_ e_ => m1 w_ e_) ?_; intro v w1 w0_ e0_ e1_ r_v; have e_w1 := e0_.trans e1_; have b_v := e0_.size; clear e0_ e1_)
    obtain ⟨v, rfl, hO⟩ := r_v
    obtain ⟨at_, ct, rfl, hU⟩ := own_sl hO
    have x1 := e_w1
    clear hO b_v e_w1 m1
    repeat (first | refine Vx ?_ | (apply Ops_q; (case hon => exact Va); (case hd => rfl); (case hq => exact YlA)) | refine Vr ?_ | refine Vt ?_ | refine Vf ?_ | refine Vm ?_ | refine Ve ?_ | refine Vo ?_ | refine Vz ?_)
    (apply Ops_q; (case hon => (exact Va)); (case hd => rfl); (case hq => exact Yl_call rfl (fun w_ e_ => hc w_ (x1.trans e_))))
    repeat (first | refine Vx ?_ | (apply Ops_q; (case hon => exact Va); (case hd => rfl); (case hq => exact YlA)) | refine Vr ?_ | refine Vt ?_ | refine Vf ?_ | refine Vm ?_ | refine Ve ?_ | refine Vo ?_ | refine Vz ?_)
    rw [q1]
    repeat (first | refine Vx ?_ | (apply Ops_q; (case hon => exact Va); (case hd => rfl); (case hq => exact YlA)) | refine Vr ?_ | refine Vt ?_ | refine Vf ?_ | refine Vm ?_ | refine Ve ?_ | refine Vo ?_ | refine Vz ?_)
    rw [q2]
    repeat (first | refine Vx ?_ | (apply Ops_q; (case hon => exact Va); (case hd => rfl); (case hq => exact YlA)) | refine Vr ?_ | refine Vt ?_ | refine Vf ?_ | refine Vm ?_ | refine Ve ?_ | refine Vo ?_ | refine Vz ?_)
    (apply Ops_q; (case hon => (exact Va)); (case hd => rfl); (case hq => exact Yl_call rfl (fun w_ e_ => awake7_v w_)))
    repeat (first | refine Vx ?_ | (apply Ops_q; (case hon => exact Va); (case hd => rfl); (case hq => exact YlA)) | refine Vr ?_ | refine Vt ?_ | refine Vf ?_ | refine Vm ?_ | refine Ve ?_ | refine Vo ?_ | refine Vz ?_)
    refine ret1 (by first | exact .inl rfl | exact .inr rfl) rfl rfl ?_
    exact Ret_mk rfl x1
end Go.Proofs.Ytkiidmbkibfbiaa

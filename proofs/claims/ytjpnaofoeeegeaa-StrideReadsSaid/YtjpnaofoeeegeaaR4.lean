/-
  Part 4 of the texts that the proof of this claim leans on: rules of a walk, contracts of functions, plain facts. Each piece says below what it proves.
  No conditions beyond those that each lemma states.
-/
import Derived.Test.YtjpnaofoeeegeaaR3
import Derived.Lib.BitFns

/-
  Regions that draw their order and hold one store among the first operations: the loads come before it, the others do not look at memory.
  No conditions beyond those that each rule states.
-/
namespace Go.Proofs.Ytjpnaofoeeegeaa
open Go.RowKit

def isStore (o : Oper) : Bool := match o.op with
  | .store _ _ _ => true
  | _ => false
def isLoad (o : Oper) : Bool := match o.op with
  | .load _ _ => true
  | _ => false
section
variable {P : Program} {md : Region.Mode} {ops : Array Oper}
/-- What the operations do: the store leaves a world of which R is known; loads yield the same in every world that has grown from w0, the others in every world. -/
def storeY (P : Program) (w0 : World) (R : World → Prop) (o : Oper) (a : Act) (v : Value) : Prop :=
  if isStore o then v = undef ∧ ∀ w', Ext w0 w' → ∃ w'', (execOp a.eval o).run P w' = .ok .skip w'' ∧ R w'' else if isLoad o then yW P w0 o a v else ∀ w', o.quietAt P a (Ext w') w' v
theorem same_storeY (P : Program) (w0 : World) (R : World → Prop) : Same (storeY P w0 R) := fun o a a' v he h => by
  unfold storeY at *
  split at h
  · rename_i hd
    rw [if_pos hd]
    refine ⟨h.1, fun w' hw' => ?_⟩
    rw [he]; exact h.2 w' hw'
  · rename_i hd
    rw [if_neg hd]
    split at h
    · rename_i hl
      rw [if_pos hl]
      exact same_yW P w0 o a a' v he h
    · rename_i hl
      rw [if_neg hl]
      intro w'
      have := h w'
      unfold Oper.quietAt at *
      rwa [he]
theorem store_any {n s i0 : Nat} {Q1 : Act → Prop} {Q : Exit → Act → World → Prop} {w0 : World} {R : World → Prop} {pre : Array Oper} (hR : ∀ w w', Ext w w' → R w → R w') (hn : n ≤ ops.size) (hP : ∀ i o, i < n → ops[i]? = some o → pre[i]? = some o)
    (hA : ∀ i, n ≤ i → i < ops.size → ∀ j, j < n → reach ops md 9 i j = true)
    (hE : ∀ i o, ops[i]? = some o → i < n → ∀ e ∈ o.after, Region.binds md e = true → e.on < i)
    (hG : ∀ i o, ops[i]? = some o → i < n → o.guard = none) (h0 : i0 < n)
    (hS : ∀ i o, ops[i]? = some o → i < n → (isStore o = true ↔ i = i0)) (hS0 : ∀ o, ops[i0]? = some o → o.dst = none)
    (hLd : ∀ i o, ops[i]? = some o → i < n → isLoad o = true → reach ops md 9 i0 i = true)
    (last : ∀ a w, R w → Q1 a → wpAny P md ops Q s (upto ops.size n) a w) :
    ∀ (f : Nat) (L L' : Array Bool) (a : Act) (w : World), (L[i0]? = some false → Ext w0 w) → (L[i0]? = some true → R w) → L'.size = n → L.size = ops.size → (∀ j, j < n → L[j]? = L'[j]?) → (∀ j, n ≤ j → j < ops.size → L[j]? = some false) → cnt n L' = f →
      Closed ops md L → anyY md pre (storeY P w0 R) Q1 f L' a → wpAny P md ops Q (f + s) L a w := by
  intro f
  induction f with
  | zero =>
    intro L L' a w _ hX hs' hs h1 h2 hc hcl h
    have hlist : ∀ j, j < n → L[j]? = some true := fun j hj => by
      rw [h1 j hj]
      have := List.countP_eq_zero.1 hc j (List.mem_range.2 hj)
      have hlt : j < L'.size := by omega
      simp [hlt] at this
      simp [hlt, this]
    have hL : L = upto ops.size n := by
      refine Array.ext_getElem? fun j => ?_
      rcases Nat.lt_or_ge j ops.size with hj | hj
      · rw [upto_get _ _ _ hj]
        rcases Nat.lt_or_ge j n with hjn | hjn
        · rw [hlist j hjn]; simp [hjn]
        · rw [h2 j hjn hj]; simp; omega
      · rw [Array.getElem?_eq_none (by omega), Array.getElem?_eq_none (by rw [upto_size]; omega)]
    rw [Nat.zero_add]
    have hr := hX (hlist i0 h0)
    rw [hL]
    exact last a w hr h.2
  | succ f ih =>
    intro L L' a w hE0 hX hs' hs h1 h2 hc hcl h
    rw [Nat.succ_add]
    have un : ∃ j, j < n ∧ L'[j]? = some false ∧ ∀ k, k < j → L'[k]? = some true := by
      have hpos : 0 < cnt n L' := by omega
      obtain ⟨j, hj, hjf⟩ := List.countP_pos_iff.1 hpos
      have hjn := List.mem_range.1 hj
      have hjl : j < L'.size := by omega
      have hjf' : L'[j]? = some false := by simp [hjl] at hjf ⊢; exact hjf
      clear hj hjf hjl
      induction j using Nat.strongRecOn with
      | ind j ihj =>
        by_cases hall : ∀ k, k < j → L'[k]? = some true
        · exact ⟨j, hjn, hjf', hall⟩
        · obtain ⟨k, hk⟩ := Classical.not_forall.1 hall
          obtain ⟨hkj, hk⟩ := Classical.not_imp.1 hk
          have hkl : k < L'.size := by omega
          refine ihj k hkj (by omega) ?_
          rw [Array.getElem?_eq_getElem hkl] at hk ⊢
          cases hb : L'[k] with
          | true => rw [hb] at hk; exact absurd rfl hk
          | false => rfl
    obtain ⟨j0, hj0, hjf, hbelow⟩ := un
    have on_lt : ∀ {i : Nat} {o : Oper} {e : Edge}, ops[i]? = some o → i < n → e ∈ o.after → Region.binds md e = true → L.getD e.on false = L'.getD e.on false := fun ho hi he hb => by
      have h4 := hE _ _ ho hi _ he hb
      rename_i i1 o1 e1
      have h3 := h1 e1.on (by omega)
      rw [Array.getD_eq_getD_getElem?, Array.getD_eq_getD_getElem?, h3]
    have lt_n : ∀ i, i ∈ Region.ready md ops L → i < n := fun i hi => by
      obtain ⟨_, o, ho, hall⟩ := mem_ready.1 hi
      rcases Nat.lt_or_ge i n with h3 | h3
      · exact h3
      · have hlt : i < ops.size := by
          rcases Nat.lt_or_ge i ops.size with h' | h'
          · exact h'
          · rw [Array.getElem?_eq_none h'] at ho; cases ho
        have := reach_listed hcl 9 i j0 (fun o' ho' => by obtain rfl := Option.some.inj (ho.symm.trans ho'); exact hall) (hA i h3 hlt j0 hj0)
        rw [getD_of ((h1 j0 hj0).trans hjf)] at this
        cases this
    refine ⟨fun hr => ?_, fun i hi => ?_⟩
    · exfalso
      have hmem : j0 ∈ Region.ready md ops L := by
        have hlt : j0 < ops.size := by omega
        refine mem_ready.2 ⟨getD_of ((h1 j0 hj0).trans hjf) _, ops[j0], Array.getElem?_eq_getElem hlt, fun e he hb => ?_⟩
        have hlt' := hE j0 _ (Array.getElem?_eq_getElem hlt) hj0 e he hb
        exact getD_of ((h1 _ (by omega)).trans (hbelow _ hlt')) _
      rw [hr] at hmem; cases hmem
    · have hin' := lt_n i hi
      have hcl' := hcl.set hi
      obtain ⟨hun, o, ho, hall⟩ := mem_ready.1 hi
      have hpo : pre[i]? = some o := hP i o hin' ho
      have hun' : L'.getD i true = false := by
        have := h1 i hin'
        simp only [Array.getD_eq_getD_getElem?, ← this] at hun ⊢; exact hun
      have hi' : i ∈ Region.ready md pre L' := mem_ready.2 ⟨hun', o, hpo, fun e he hb => by rw [← on_lt ho hin' he hb]; exact hall e he hb⟩
      have hq := (stepY_iff hpo).1 (h.2 i hi')
      obtain ⟨v, hv, hK⟩ := hq
      have hset : ∀ j, j < n → (L.setIfInBounds i true)[j]? = (L'.setIfInBounds i true)[j]? := fun j hj => by
        by_cases e : i = j
        · subst e
          have hl1 : i < L.size := by omega
          have hl2 : i < L'.size := by omega
          simp [hl1, hl2]
        · rw [Array.getElem?_setIfInBounds_ne e, Array.getElem?_setIfInBounds_ne e]; exact h1 j hj
      have hset2 : ∀ j, n ≤ j → j < ops.size → (L.setIfInBounds i true)[j]? = some false := fun j hj hjs => by
        rw [Array.getElem?_setIfInBounds_ne (by omega)]; exact h2 j hj hjs
      have hc' : cnt n (L'.setIfInBounds i true) = f := by have := cnt_set n L' i hin' hun'; omega
      have hgn := hG i o ho hin'
      have hwt : ∀ y, Region.wanted o y = true := fun y => by unfold Region.wanted; rw [hgn]
      have hL0 : i0 < L.size := by omega
      unfold wpOp
      simp only [ho]
      rw [if_pos (hwt _)]
      rcases hv with ⟨_, hy⟩ | ⟨hwn, _⟩
      · unfold storeY at hy
        by_cases hii : i = i0
        · subst hii
          rw [if_pos ((hS i o ho hin').2 rfl)] at hy
          obtain ⟨rfl, hl⟩ := hy
          have hLf : L[i]? = some false := by
            rw [Array.getElem?_eq_getElem hL0]
            have : L[i] = false := by simpa [hL0] using hun
            rw [this]
          obtain ⟨w'', hrun, hRw⟩ := hl w (hE0 hLf)
          refine .inl ?_
          unfold Oper.wp
          rw [hrun]
          show wpAny P md ops Q (f + s) (L.setIfInBounds i true) (a.put o.dst undef) w''
          have hnew : (L.setIfInBounds i true)[i]? = some true := by simp [hL0]
          exact ih _ _ _ w'' (fun h3 => by rw [hnew] at h3; cases h3) (fun _ => hRw) (by simpa using hs') (by simpa using hs) hset hset2 hc' hcl' hK
        · rw [if_neg (fun h3 => hii ((hS i o ho hin').1 h3))] at hy
          have hsame : (L.setIfInBounds i true)[i0]? = L[i0]? := Array.getElem?_setIfInBounds_ne hii
          have hq1 : o.quietAt P a (Ext w) w v := by
            split at hy
            · rename_i hld
              refine hy w (hE0 ?_)
              cases hb : L[i0] with
              | false => rw [Array.getElem?_eq_getElem hL0, hb]
              | true =>
                have hlt : i0 < ops.size := by omega
                have := reach_listed hcl 9 i0 i (fun o' ho' e he hb' => hcl i0 o' (by simp [hL0, hb]) ho' e he hb') (hLd i o ho hin' hld)
                have hi2 : i < L.size := by omega
                simp [hi2] at this hun
                rw [this] at hun; cases hun
            · exact hy w
          have hq2 : ∀ w1, Ext w w1 → o.quietAt P a (Ext w1) w1 v := fun w1 hw1 => by
            split at hy
            · rename_i hld
              refine hy w1 ((hE0 ?_).trans hw1)
              cases hb : L[i0] with
              | false => rw [Array.getElem?_eq_getElem hL0, hb]
              | true =>
                have hlt : i0 < ops.size := by omega
                have := reach_listed hcl 9 i0 i (fun o' ho' e he hb' => hcl i0 o' (by simp [hL0, hb]) ho' e he hb') (hLd i o ho hin' hld)
                have hi2 : i < L.size := by omega
                simp [hi2] at this hun
                rw [this] at hun; cases hun
            · exact hy w1
          refine .inl (Oper.wp_of_quiet (C := fun w'' => Ext w w'') (K := fun x => x = a.put o.dst v) (Ext.refl w) (fun a1 w1 hw1 e => ?_) ?_)
          · subst e
            exact ih _ _ _ w1 (fun h3 => (hE0 (hsame ▸ h3)).trans hw1) (fun h3 => hR _ _ hw1 (hX (hsame ▸ h3))) (by simpa using hs') (by simpa using hs) hset hset2 hc' hcl' hK
          · refine ⟨v, fun w1 hw1 => ?_, rfl⟩
            have hq1 := hq2 w1 hw1
            unfold Oper.quietAt at hq1 ⊢
            generalize (execOp a.eval o).run P w1 = r at *
            cases r with
            | ok nx w2 =>
              cases nx <;> simp only [Oper.quietUpon] at hq1 ⊢ <;> first | exact hq1 | exact ⟨hq1.1, hq1.2.mono fun e w3 h3 => ⟨h3.1, hw1.trans h3.2⟩⟩
            | halt x w2 => simp only [Oper.quietUpon] at hq1
      · rw [hwt] at hwn; cases hwn

/-! ### The test -/
def storeB (ops : Array Oper) (n i0 : Nat) : Bool :=
  Nat.ble n ops.size && Region.noSelect ops && Region.lexB .any (ops.toList.take n).toArray && Nat.ble (i0 + 1) n &&
  (List.range ops.size).all (fun i => match ops[i]? with
    | none => true
    | some o => if Nat.ble (i + 1) n then (o.after.all fun e => !Region.binds .any e || Nat.ble (e.on + 1) i) && o.guard.isNone && (isStore o == Nat.beq i i0) && (!isStore o || o.dst.isNone) && (!isLoad o || reach ops .any 9 i0 i)
      else (List.range n).all fun j => reach ops .any 9 i j) &&
  (List.range ops.size).all (fun k => Nat.ble (k + 1) n || (match Region.ready .any ops (upto ops.size k) with
    | [k'] => Nat.beq k' k
    | _ => false)) &&
  (Region.ready .any ops (upto ops.size ops.size)).isEmpty
theorem wp_store {ro : Option Nat} {l : List Oper} {n i0 id : Nat} {Q1 : Act → Prop} {Q : Exit → Act → World → Prop} {w0 w : World} {a : Act} {R : World → Prop} (hR : ∀ w w', Ext w w' → R w → R w') (hnd : NoDef ro l) (hQ : ¬LetsOut Q) (hm : P.follows .mixedOrders = true) (hB : storeB l.toArray n i0 = true) (hw : Ext w0 w)
    (h : listY (l.take n).toArray (storeY P w0 R) Q1 (l.take n) a)
    (last : ∀ a w, R w → Q1 a → wpList P l.toArray Q (l.drop n) a w) :
    WpR ro P (.region id l.toArray true) Q a w := by
  simp only [storeB, Bool.and_eq_true] at hB
  obtain ⟨⟨⟨⟨⟨⟨b1, b0⟩, b2⟩, bi⟩, b3⟩, b4⟩, b5⟩ := hB
  have hn : n ≤ l.toArray.size := Nat.le_of_ble_eq_true b1
  have hnl : n ≤ l.length := by simpa using hn
  have at3 : ∀ i o, l.toArray[i]? = some o → _ := fun i o ho => by
    have hlt : i < l.toArray.size := by
      rcases Nat.lt_or_ge i l.toArray.size with h' | h'
      · exact h'
      · rw [Array.getElem?_eq_none h'] at ho; cases ho
    have := List.all_eq_true.1 b3 i (List.mem_range.2 hlt)
    simp only [ho] at this
    exact this
  have pre3 : ∀ i o, l.toArray[i]? = some o → i < n → _ := fun i o ho hi => by
    have := at3 i o ho
    rw [if_pos (Nat.ble_eq_true_of_le hi)] at this
    simp only [Bool.and_eq_true] at this
    exact this
  have hP : ∀ i o, i < n → l.toArray[i]? = some o → (l.take n).toArray[i]? = some o := fun i o hi ho => by
    have : l[i]? = some o := by simpa using ho
    simp [hi, this]
  have hE : ∀ i o, l.toArray[i]? = some o → i < n → ∀ e ∈ o.after, Region.binds .any e = true → e.on < i := fun i o ho hi e he hb => by
    have := Array.all_eq_true_iff_forall_mem.1 (pre3 i o ho hi).1.1.1.1 e he
    rw [hb, Bool.not_true, Bool.false_or] at this
    exact Nat.le_of_ble_eq_true this
  have hG : ∀ i o, l.toArray[i]? = some o → i < n → o.guard = none := fun i o ho hi => by
    have := (pre3 i o ho hi).1.1.1.2
    simpa using this
  have hS : ∀ i o, l.toArray[i]? = some o → i < n → (isStore o = true ↔ i = i0) := fun i o ho hi => by
    have := (pre3 i o ho hi).1.1.2
    have e : isStore o = Nat.beq i i0 := by simpa using this
    rw [e]; exact ⟨Nat.eq_of_beq_eq_true, fun h => by subst h; exact Nat.beq_refl _⟩
  have h0 : i0 < n := Nat.le_of_ble_eq_true bi
  have hS0 : ∀ o, l.toArray[i0]? = some o → o.dst = none := fun o ho => by
    have := (pre3 i0 o ho h0).1.2
    rw [(hS i0 o ho h0).2 rfl] at this
    simpa using this
  have hLd : ∀ i o, l.toArray[i]? = some o → i < n → isLoad o = true → reach l.toArray .any 9 i0 i = true := fun i o ho hi hl => by
    have := (pre3 i o ho hi).2
    rw [hl] at this
    simpa using this
  have hA : ∀ i, n ≤ i → i < l.toArray.size → ∀ j, j < n → reach l.toArray .any 9 i j = true := fun i hi his j hj => by
    have := at3 i _ (Array.getElem?_eq_getElem his)
    rw [if_neg (fun hb => by have := Nat.le_of_ble_eq_true hb; omega)] at this
    exact List.all_eq_true.1 this j (List.mem_range.2 hj)
  have hr : ∀ k, n ≤ k → k < l.toArray.size → Region.ready .any l.toArray (upto l.toArray.size k) = [k] := fun k hk hks => by
    have := List.all_eq_true.1 b4 k (List.mem_range.2 hks)
    simp only [Bool.or_eq_true] at this
    rcases this with h' | h'
    · have := Nat.le_of_ble_eq_true h'; omega
    · split at h'
      · rename_i k' he
        rw [he, Nat.eq_of_beq_eq_true h']
      · cases h'
  have he : Region.ready .any l.toArray (upto l.toArray.size l.toArray.size) = [] := by simpa using b5
  simp only [Region.lexB, Bool.and_eq_true] at b2
  have hdl : (l.drop n).length = l.toArray.size - n := by simp
  have hlen : (l.take n).length = n := by simp; omega
  refine wpR_region_any (by simpa using hnd) hQ hm ?_
  have quiet := anyY_lex (md := .any) (same_storeY P w0 R) b2.1 (l.take n) 0 (Array.replicate (l.take n).toArray.size false) a (by simp) (by simpa using b2.2) h
  have key := store_any (P := P) (md := .any) (ops := l.toArray) (pre := (l.take n).toArray) (n := n) (s := (l.drop n).length) (i0 := i0) (Q := Q) (Q1 := Q1) (w0 := w0) (R := R)
    hR hn hP hA hE hG h0 hS hS0 hLd
    (fun a1 w1 hw1 q1 => one_any hr he (l.drop n) n (Nat.le_refl _) (by rw [hdl]; omega) (fun j => by simp) a1 w1
      (last a1 w1 hw1 q1))
  have hcnt : cnt n (Array.replicate (l.take n).toArray.size false) = (l.take n).length := by
    unfold cnt
    rw [List.countP_eq_length.2]
    · rw [hlen]; simp
    · intro j hj
      have := List.mem_range.1 hj
      have h2 : j < (l.take n).toArray.size := by simp; omega
      simp only [Array.getD_eq_getD_getElem?, Array.getElem?_replicate]
      rw [if_pos h2]; rfl
  have hsame : ∀ j, j < n → (Array.replicate l.toArray.size false)[j]? = (Array.replicate (l.take n).toArray.size false)[j]? := fun j hj => by
    have h1 : j < l.length := by omega
    have h2 : j < (l.take n).length := by omega
    simp only [Array.getElem?_replicate]
    rw [if_pos (by simpa using h1), if_pos (by simpa using h2)]
  have hclosed : Closed l.toArray .any (Array.replicate l.toArray.size false) := fun (k : Nat) o hk => by
    simp only [Array.getD_eq_getD_getElem?, Array.getElem?_replicate] at hk
    split at hk <;> simp at hk
  have e : (l.take n).length + (l.drop n).length = l.toArray.size := by rw [hlen, hdl]; omega
  have := key (l.take n).length (Array.replicate l.toArray.size false) (Array.replicate (l.take n).toArray.size false) a { w with drawn := w.drawn + 1 } (fun _ => hw.draw) (fun h3 => by
    simp only [Array.getElem?_replicate] at h3
    split at h3 <;> simp at h3) (by simp; omega) (by simp)
    hsame (fun j _ hj => by simp only [Array.getElem?_replicate]; rw [if_pos hj]) hcnt hclosed quiet
  rwa [e] at this
end

section
variable {P : Program} {N : Fr} {m : Env} {w : World}
/-- Operations without guards: loads, which yield the same in every world that has grown from w, and others, which yield the same in every world; K is known of the frame behind them. -/
def YsS (P : Program) (N : Fr) (w : World) (K : Env → Prop) : List Oper → Env → Prop
  | [], m => K m
  | o :: r, m => ∃ d v, o.dst = some d ∧ Nat.ble (d + 1) N.n = true ∧ o.guard = none ∧ isStore o = false ∧ (if isLoad o then Yl P N m w o v else ∀ w', Yl P N m w' o v) ∧ YsS P N w K r ((d, v) :: m)
theorem YsS.nil {K : Env → Prop} {l : List Oper} (hl : l = []) (h : K m) : YsS P N w K l m := by subst hl; exact h
theorem YsS.pure {K : Env → Prop} {o : Oper} {r : List Oper} {d : Nat} {v : Value} (h1 : o.dst = some d) (h2 : Nat.ble (d + 1) N.n = true) (h4 : o.guard = none) (h3 : isStore o = false) (hl : isLoad o = false) (h5 : ∀ w', Yl P N m w' o v) (h6 : YsS P N w K r ((d, v) :: m)) : YsS P N w K (o :: r) m :=
  ⟨d, v, h1, h2, h4, h3, by rw [hl]; exact h5, h6⟩
theorem YsS.load {K : Env → Prop} {o : Oper} {r : List Oper} {d : Nat} {v : Value} (h1 : o.dst = some d) (h2 : Nat.ble (d + 1) N.n = true) (h4 : o.guard = none) (h3 : isStore o = false) (hl : isLoad o = true) (h5 : Yl P N m w o v) (h6 : YsS P N w K r ((d, v) :: m)) : YsS P N w K (o :: r) m :=
  ⟨d, v, h1, h2, h4, h3, by rw [hl]; exact h5, h6⟩
theorem listY_yss {ops : Array Oper} {Q : Act → Prop} {R : World → Prop} {K : Env → Prop} (hQ : ∀ M a, K M → Agree N M a → Q a) : ∀ (l : List Oper) (m : Env) (a : Act), YsS P N w K l m → Agree N m a → listY ops (storeY P w R) Q l a
  | [], m, a, h, ha => hQ m a h ha
  | o :: r, m, a, h, ha => by
    obtain ⟨d, v, h1, h2, h4, h3, h5, h6⟩ := h
    unfold listY
    rw [if_pos (by unfold Region.wanted; rw [h4])]
    refine ⟨v, ?_, ?_⟩
    · unfold storeY
      rw [h3, if_neg Bool.false_ne_true]
      split at h5
      · rename_i hl
        rw [if_pos hl]
        exact fun w1 hw1 => h5.out a w1 ha hw1
      · rename_i hl
        rw [if_neg hl]
        exact fun w1 => (h5 w1).out a w1 ha (Ext.refl _)
    · rw [h1]
      exact listY_yss hQ r _ _ h6 (ha.put (Nat.le_of_ble_eq_true h2) v)
/-- The store of a region: what it leaves, run alone. -/
theorem V_store (n i0 : Nat) {Q : Exit → Env → World → Prop} {id : Nat} {l : List Oper} {t : TypeId} {x y : Operand} {ty : TypeId} {pos : String} {after : Array Edge} {R : World → Prop}
    (hR : ∀ w w', Ext w w' → R w → R w') (hm : P.follows .mixedOrders = true) (ho : l.take n = l.take i0 ++ ⟨none, .store t x y, ty, pos, after, none⟩ :: (l.take n).drop (i0 + 1)) (hB : storeB l.toArray n i0 = true)
    (h : YsS P N w (fun M1 => (∀ a, Agree N M1 a → ∀ w', Ext w w' → ∃ w'', (execOp a.eval ⟨none, .store t x y, ty, pos, after, none⟩).run P w' = .ok .skip w'' ∧ R w'') ∧
      YsS P N w (fun M2 => ∀ w2, R w2 → Ops P N l.toArray false (fun m w => Q .normal m w) (l.drop n) M2 w2) ((l.take n).drop (i0 + 1)) M1) (l.take i0) m)
    (hnd : NoDef N.ro l := by first | exact .inl rfl | exact .inr (by kernel_rfl)) :
    V P N (.region id l.toArray true) Q m w := by
  refine ⟨fun a w' ha hw => wpR_mono (Q := fun e a w => e = .normal ∧ lift N Q .normal a w) (fun e a w ⟨h1, h2⟩ => by rw [h1]; exact h2) ?_⟩
  refine wp_store (w0 := w) (R := R) hR hnd noLet hm hB hw (Q1 := fun a' => ∃ M2, (∀ w2, R w2 → Ops P N l.toArray false (fun m w => Q .normal m w) (l.drop n) M2 w2) ∧ Agree N M2 a') ?_ ?_
  · generalize hL : (l.take n).toArray = A
    rw [ho]
    refine listY_append _ _ _ (listY_yss (fun M1 a1 ⟨hst, h2⟩ ag1 => ?_) _ _ _ h ha)
    unfold listY
    rw [if_pos (by unfold Region.wanted; rfl)]
    refine ⟨undef, ?_, ?_⟩
    · unfold storeY
      rw [if_pos (show isStore _ = true from rfl)]
      exact ⟨rfl, hst a1 ag1⟩
    · exact listY_yss (fun M2 _ h3 ag2 => ⟨M2, h3, ag2⟩) _ _ _ h2 (ag1.put_none _)
  · rintro a1 w1 hR1 ⟨M2, h, ag⟩
    have h5 := (h w1 hR1).out a1 w1 ag (Ext.refl _)
    have mono : ∀ (l' : List Oper) (a : Act) (w0 : World), wpList P l.toArray (fun e a' w'' => e = .normal ∧ ∃ m' w1, Q .normal m' w1 ∧ Agree N m' a' ∧ Ext w1 w'') l' a w0 → wpList P l.toArray (fun e a w => e = .normal ∧ lift N Q .normal a w) l' a w0 := by
      intro l'
      induction l' with
      | nil => exact fun a w0 ⟨_, m', w1, q, ag, ex⟩ => ⟨rfl, m', w1, q, ag, ex⟩
      | cons o r ih =>
        intro a w0 h6
        unfold wpList at h6 ⊢
        split
        · rename_i hwn
          rw [if_pos hwn] at h6
          rcases h6 with h6 | h6
          · exact .inl (wp_normal (fun a1 w1 hh => ih a1 w1 hh) h6)
          · obtain ⟨_, _, _, h7, _⟩ := h6; cases h7
        · rename_i hwn
          rw [if_neg hwn] at h6
          exact ih _ _ h6
    exact mono _ _ _ h5
/-- A store, run by itself. -/
theorem store_run {t t0 : TypeId} {x y : Operand} {b o : Nat} {cs vs out : List Value} {v : Value} {n0 b0 : Nat} {ty : TypeId} {pos : String} {after : Array Edge} {g : Option (Nat × Bool)} [hs : TSize P t n0 b0]
    (hx : ev m x = some (.pointer (some ⟨b, o, none⟩))) (hy : ev m y = some v) (hB : Blk w b t0 cs) [hv : TCells v vs] [hl : TLen vs n0] [hp : TSplice o vs cs out] (h1 : vs.all (fun u => u.oneCell') = true)
    (a : Act) (ha : Agree N m a) (w' : World) (hw : Ext w w') : ∃ w'', (execOp a.eval ⟨none, .store t x y, ty, pos, after, g⟩).run P w' = .ok .skip w'' ∧ ∃ w1, Upd w w1 b t0 out ∧ Ext w1 w'' := by
  obtain ⟨inf, hi, hsz⟩ := Option.map_eq_some_iff.1 hs.h
  simp only [Prod.mk.injEq] at hsz
  have hlen := hl.h
  have ho := hp.len
  have hst := run_storeCells_at P b o t0 vs 0 cs.toArray w' (hB.ext hw) (by simpa using ho) (List.all_eq_true.1 h1)
  simp only [Nat.add_zero] at hst
  have e : out = splice cs o vs := by rw [← hp.h]; exact over_splice _ _ _ ho
  refine ⟨w'.setRow b out.toArray, ?_, w.setRow b out.toArray, Upd.of hB, ext_setRow hw _⟩
  rw [e]
  simp only [execOp, ha.ev hx, ha.ev hy, Instr.storeAt, Instr.sureAddr, storeVar, sizeOf, typeInfo]
  simp [hi, hsz.1, hv.h, hlen, hst, splice]
/-- A store of a whole element of a slice of one's own, run by itself. -/
theorem storeElem_run {t e : TypeId} {x y : Operand} {base b0 n0 g cap i : Nat} {p : Addr} {v : Value} {u : List Value} {L : List (List Value)} {ty : TypeId} {pos : String} {after : Array Edge} {gd : Option (Nat × Bool)} [hs : TSize P t n0 b0]
    (hx : ev m x = some (.pointer (some p))) (hy : ev m y = some v) (hp : p = ⟨g, i * n0, none⟩) (hown : Own w base e n0 (.slice (some ⟨g, 0, none⟩) L.length cap) L) (hi : i < L.length) [hu : TCells v u] [hl : TLen u n0] (h1 : u.all (fun u => u.oneCell') = true)
    (a : Act) (ha : Agree N m a) (w' : World) (hw : Ext w w') : ∃ w'', (execOp a.eval ⟨none, .store t x y, ty, pos, after, gd⟩).run P w' = .ok .skip w'' ∧ Own w'' base e n0 (.slice (some ⟨g, 0, none⟩) L.length cap) (L.set i u) ∧ Mod (fun c => c = g) w w'' := by
  subst hp
  obtain ⟨hlen, ⟨h2, _⟩ | ⟨g', cap', cur, h2, h3, h4, h5, h6, h7, h8⟩⟩ := hown.row
  · cases h2
  cases h2
  have hB : Blk w g e cur.toList := by unfold Blk; simpa using h4
  have ho : i * n0 + n0 ≤ L.length * n0 := by
    have : (i + 1) * n0 ≤ L.length * n0 := Nat.mul_le_mul_right _ hi
    rw [Nat.succ_mul] at this; omega
  have hc : cur.toList.length = cap * n0 := by simpa using h7
  have hlc : L.length * n0 ≤ cap * n0 := Nat.mul_le_mul_right _ h5
  have hul := hl.h
  have : TSplice (i * n0) u cur.toList (splice cur.toList (i * n0) u) := ⟨over_splice _ _ _ (by omega), by omega⟩
  have hsl : (splice cur.toList (i * n0) u).length = cur.toList.length := by unfold splice; simp only [List.length_append, List.length_take, List.length_drop]; omega
  obtain ⟨w2, hr, w1, hu1, he⟩ := store_run (P := P) (N := N) (t := t) (ty := ty) (pos := pos) (after := after) (g := gd) (vs := u) hx hy hB h1 a ha w' hw
  refine ⟨w2, hr, Own.ext ⟨⟨?_, .inr ⟨g, cap, _, by rw [List.length_set], h3, hu1.blk, ?_, h6, ?_, ?_⟩⟩, ?_⟩ he, ((Mod.of_ext (S := fun c => c = g) (Ext.refl _)).upd hu1 (.inl rfl)).ext he⟩
  · rw [flatten_set_all hul L i hown.len hi, List.length_set]
    unfold splice; simp only [List.length_append, List.length_take, List.length_drop]; omega
  · rw [List.length_set]; exact h5
  · rw [← hc, ← hsl]; simp
  · rw [flatten_set_all hul L i hown.len hi, List.length_set, ← h8]
    unfold splice
    have e1 : (List.take (i * n0) cur.toList ++ u).length = i * n0 + n0 := by simp; omega
    rw [List.take_append, e1, List.take_of_length_le (by omega), List.take_take, Nat.min_eq_left (by omega), List.drop_take, hul]
  · intro z hz
    rcases List.mem_or_eq_of_mem_set hz with hz | rfl
    · exact hown.len z hz
    · exact hul
/-- One less, for a number that is not 0. -/
theorem Yl_pred {t t' : TypeId} {x y : Operand} {p : Nat} {dst : Option Tmp} {ty : TypeId} {pos : String} {after : Array Edge} {g : Option (Nat × Bool)} (hx : ev m x = some (.int .i64 ((p + 1 : Nat) : Int))) (hy : ev m y = some (.int .i64 1)) (hk : p ≤ 4611686018427387904) :
    Yl P N m w ⟨dst, .binOp .sub t x y t', ty, pos, after, g⟩ (.int .i64 (p : Int)) := by
  have h := Yl_arith_in (P := P) (N := N) (w := w) (dst := dst) (ty := ty) (pos := pos) (after := after) (g := g) (op := .sub) (t := t) (t' := t') (c := ((p + 1 : Nat) : Int) - 1) hx hy rfl (by simp only [InK]; omega)
  have e : ((p + 1 : Nat) : Int) - 1 = (p : Int) := by omega
  rwa [e] at h
end
end Go.Proofs.Ytjpnaofoeeegeaa


/-
  Sorting words (slices.Sort at uint64): the list in memory; Less, insertionSort, reverseRange, siftDown, heapSort.
  Conditions: the list is one's own, and not too long for a machine.
-/
namespace Go.Proofs.Ytjpnaofoeeegeaa
open Go.RowKit

theorem Ret_w {v v' : Value} {w w1 : World} (hv : v' = v) (he : Ext w w1) : ∀ w', Ext w1 w' → Ret v w (.returned v') w' := fun _ h => ⟨by rw [hv], he.trans h⟩
def uc (x : Int) : List Value := [.int .u64 x]
/-- A list of words of one's own in memory, by its block. -/
structure DatU (w : World) (base g n cap : Nat) (L : List Int) : Prop where
  own : Own w base 53 1 (.slice (some ⟨g, 0, none⟩) n cap) (L.map uc)
  len : L.length = n
theorem DatU.ext {w w1 : World} {base g n cap : Nat} {L : List Int} (h : DatU w base g n cap L) (he : Ext w w1) : DatU w1 base g n cap L := ⟨h.own.ext he, h.len⟩
theorem DatU.at {w : World} {base g n cap : Nat} {L : List Int} (h : DatU w base g n cap L) {k : Nat} {x : Int} (hx : L[k]? = some x) : w.cell? ((⟨g, 0, none⟩ : Addr).add (k * 1)) = some (.int .u64 x) := by
  obtain ⟨ao, c, hv, hA⟩ := h.own.slice
  obtain ⟨ad, h1, h2⟩ := hA k (uc x) (by rw [List.getElem?_map, hx]; rfl)
  injection hv with e1 e2 e3
  rw [h1] at e1
  cases e1
  have := h2 0 _ rfl
  rw [add_add, Nat.add_zero] at this; exact this
theorem DatU.get {w : World} {base g n cap : Nat} {L : List Int} (h : DatU w base g n cap L) {k : Nat} (hk : k < n) : ∃ x, L[k]? = some x := ⟨_, List.getElem?_eq_getElem (by rw [h.len]; exact hk)⟩
section
variable {P : Program} {N : Fr} {ops : Array Oper} {K : Env → World → Prop} {m : Env} {w : World} {rest : List Oper} {ty : TypeId} {pos : String} {after : Array Edge} {gd : Option (Nat × Bool)}
theorem Ops_storeDatU {x y : Operand} {base b0 g n cap i : Nat} {p : Addr} {v : Int} {L : List Int} [hs : TSize P 53 1 b0] (hon : On N ops m ⟨none, .store 53 x y, ty, pos, after, gd⟩)
    (hx : ev m x = some (.pointer (some p))) (hy : ev m y = some (.int .u64 v)) (hp : p = (⟨g, 0, none⟩ : Addr).add (i * 1)) (hD : DatU w base g n cap L) (hi : i < n)
    (h : ∀ w1, DatU w1 base g n cap (L.set i v) → w.grownBy w1 (some g) → Ops P N ops false K rest m w1) : Ops P N ops false K (⟨none, .store 53 x y, ty, pos, after, gd⟩ :: rest) m w := by
  obtain ⟨o, hl⟩ := hD
  subst hl
  have hm : (L.map uc).length = L.length := List.length_map ..
  refine Ops_storeElem (i := i) (u := uc v) (hl := ⟨rfl⟩) (hu := ⟨rfl⟩) (L := L.map uc) (base := base) (g := g) (cap := cap) hon hx hy (by rw [hp, add_blk, Nat.zero_add]; rfl) (by rw [hm]; exact o) (by rw [hm]; exact hi) rfl (fun w1 o1 g1 => h w1 ⟨?_, List.length_set ..⟩ g1)
  rw [List.map_set]
  rw [hm] at o1; exact o1
theorem storeDatU_run {x y : Operand} {base b0 g n cap i : Nat} {p : Addr} {v : Int} {L : List Int} [hs : TSize P 53 1 b0] (hx : ev m x = some (.pointer (some p))) (hy : ev m y = some (.int .u64 v)) (hp : p = (⟨g, 0, none⟩ : Addr).add (i * 1)) (hD : DatU w base g n cap L) (hi : i < n)
    (a : Act) (ha : Agree N m a) (w' : World) (hw : Ext w w') : ∃ w'', (execOp a.eval ⟨none, .store 53 x y, ty, pos, after, gd⟩).run P w' = .ok .skip w'' ∧ DatU w'' base g n cap (L.set i v) ∧ Mod (fun c => c = g) w w'' := by
  obtain ⟨o, hl⟩ := hD
  subst hl
  have hm : (L.map uc).length = L.length := List.length_map ..
  obtain ⟨w2, h1, h2, h3⟩ := storeElem_run (P := P) (N := N) (t := 53) (ty := ty) (pos := pos) (after := after) (gd := gd) (i := i) (u := uc v) (hl := ⟨rfl⟩) (hu := ⟨rfl⟩) (L := L.map uc) (base := base) (g := g) (cap := cap) hx hy (by rw [hp, add_blk, Nat.zero_add]; rfl) (by rw [hm]; exact o) (by rw [hm]; exact hi) rfl a ha w' hw
  refine ⟨w2, h1, ⟨?_, List.length_set ..⟩, h3⟩
  rw [List.map_set]
  rw [hm] at h2; exact h2
end
/-- What a function that sorts leaves. -/
def DatV (base g n cap : Nat) (R : Value → List Int → Prop) (r : Value) (w' : World) : Prop := ∃ L', DatU w' base g n cap L' ∧ R r L'
abbrev BlkU (g : Nat) : Nat → Prop := fun c => c = g
abbrev ltU : Int → Int → Int := fun x y => x - y
theorem ordU : Ord ltU := ⟨fun x y h => by simp only [ltU] at *; omega, fun x y z h1 h2 => by simp only [ltU] at *; omega⟩
theorem nanU64_v (a : Int) (w : World) : Calls Try.prog 127 #[.int .u64 a] w (Ret (.bool false) w) := by
  refine V_enter (vs := [_]) Try.func127 rfl Try.ntmps127 (Nat.le_of_ble_eq_true rfl) ?_
  repeat (first | refine Vx ?_ | (apply Ops_q; (case hon => exact Va); (case hd => rfl); (case hq => exact YlA)) | refine Vr ?_ | refine Vt ?_ | refine Vf ?_ | refine Vm ?_ | refine Ve ?_ | refine Vo ?_ | refine Vz ?_ | refine Vn ?_)
  refine ret1 (by first | exact .inl rfl | exact .inr rfl) rfl rfl ?_
  exact Ret_w (by simp) (Ext.refl _)
theorem lessU_v (a b : Int) (w : World) : Calls Try.prog 116 #[.int .u64 a, .int .u64 b] w (Ret (.bool (decide (a < b))) w) := by
  refine V_enter (vs := [_, _]) Try.func116 rfl Try.ntmps116 (Nat.le_of_ble_eq_true rfl) ?_
  repeat (first | refine Vx ?_ | (apply Ops_q; (case hon => exact Va); (case hd => rfl); (case hq => exact YlA)) | refine Vr ?_ | refine Vt ?_ | refine Vf ?_ | refine Vm ?_ | refine Ve ?_ | refine Vo ?_ | refine Vz ?_ | refine Vn ?_)
  (apply Ops_q; (case hon => (exact Va)); (case hd => rfl); (case hq => exact Yl_call rfl (fun w_ e_ => nanU64_v a w_)))
  repeat (first | refine Vx ?_ | (apply Ops_q; (case hon => exact Va); (case hd => rfl); (case hq => exact YlA)) | refine Vr ?_ | refine Vt ?_ | refine Vf ?_ | refine Vm ?_ | refine Ve ?_ | refine Vo ?_ | refine Vz ?_ | refine Vn ?_)
  refine ret1 (by first | exact .inl rfl | exact .inr rfl) rfl rfl ?_
  exact Ret_w rfl (Ext.refl _)
section
variable {base g n cap : Nat}
set_option maxHeartbeats 1000000 in
theorem insertionU_v (L : List Int) (a b : Nat) (w : World) (hD : DatU w base g n cap L) (hn : n ≤ 1000000000000) (hb : b ≤ n) (ha : a ≤ n) :
    Calls Try.prog 110 #[.slice (some ⟨g, 0, none⟩) n cap, .int .i64 a, .int .i64 b] w
      (Does (BlkU g) (DatV base g n cap (fun r L' => r = .tuple #[] ∧ Moved L L' a b ∧ Asc ltU L' a b)) w) := by
  refine V_enter (vs := [_, _, _]) Try.func110 rfl Try.ntmps110 (Nat.le_of_ble_eq_true rfl) ?_
  repeat (first | refine Vx ?_ | (apply Ops_q; (case hon => exact Va); (case hd => rfl); (case hq => exact YlA)) | refine Vr ?_ | refine Vt ?_ | refine Vf ?_ | refine Vm ?_ | refine Ve ?_ | refine Vo ?_ | refine Vz ?_ | refine Vn ?_)
  refine V_loop (fun s : Nat × List Int => [(6, .int .i64 s.1), (0, .slice (some ⟨g, 0, none⟩) n cap), (1, .int .i64 a), (2, .int .i64 b)])
    (fun s w' => a + 1 ≤ s.1 ∧ (s.1 ≤ b ∨ s.1 = a + 1) ∧ Mod (BlkU g) w w' ∧ DatU w' base g n cap s.2 ∧ Moved L s.2 a b ∧ Asc ltU s.2 a s.1) (fun s => b - s.1) (a + 1, L) (by repeat (first | exact trivial | refine ⟨rfl, ?_⟩))
    ⟨Nat.le_refl _, .inr rfl, .of_ext (Ext.refl _), hD, Moved.refl .., Asc.one (Nat.le_refl _)⟩ ?_
  rintro ⟨i, M⟩ w3 ⟨h1, h2, m3, D3, hM, hA⟩
  dsimp only at h1 h2 D3 hM hA ⊢
  repeat (first | refine Vx ?_ | (apply Ops_q; (case hon => exact Va); (case hd => rfl); (case hq => exact YlA)) | refine Vr ?_ | refine Vt ?_ | refine Vf ?_ | refine Vm ?_ | refine Ve ?_ | refine Vo ?_ | refine Vz ?_ | refine Vn ?_)
  refine V_cond rfl (fun hg => ?_) (fun hg => ?_)
  · replace hg := of_decide_eq_true hg
    have hib : i < b := by omega
    repeat (first | refine Vx ?_ | (apply Ops_q; (case hon => exact Va); (case hd => rfl); (case hq => exact YlA)) | refine Vr ?_ | refine Vt ?_ | refine Vf ?_ | refine Vm ?_ | refine Ve ?_ | refine Vo ?_ | refine Vz ?_ | refine Vn ?_)
    refine V_loop (fun s : Nat × List Int => [(7, .int .i64 s.1), (6, .int .i64 i), (0, .slice (some ⟨g, 0, none⟩) n cap), (1, .int .i64 a), (2, .int .i64 b)])
      (fun s w' => a ≤ s.1 ∧ s.1 ≤ i ∧ Mod (BlkU g) w w' ∧ DatU w' base g n cap s.2 ∧ Moved L s.2 a b ∧ AscX ltU s.2 a (i + 1) s.1) (fun s => s.1) (i, M) (by repeat (first | exact trivial | refine ⟨rfl, ?_⟩))
      ⟨by dsimp only; omega, Nat.le_refl _, m3, D3, hM, AscX.start hA⟩ ?_
    clear m3 D3 hM hA
    rintro ⟨j, M⟩ w3 ⟨h3, h4, m3, D3, hM, hA⟩
    dsimp only at h3 h4 D3 hM hA ⊢
    have hMl := D3.len
    by_cases hj : a < j
    · obtain ⟨p, rfl⟩ : ∃ p, j = p + 1 := ⟨j - 1, by omega⟩
      have hd : decide ((a : Int) < ((p + 1 : Nat) : Int)) = true := decide_eq_true (by omega)
      have hs1 : ((p + 1 : Nat) : Int) - 1 = (p : Int) := by omega
      obtain ⟨x, hx⟩ := D3.get (k := p + 1) (by omega)
      obtain ⟨y, hy⟩ := D3.get (k := p) (by omega)
      have hcx := D3.at hx
      have hcy := D3.at hy
      repeat (first | refine Vx ?_ | (apply Ops_q; (case hon => exact Va); (case hd => rfl); (case hq => exact YlA)) | refine Vr ?_ | refine Vt ?_ | refine Vf ?_ | refine Vm ?_ | refine Ve ?_ | refine Vo ?_ | refine Vz ?_ | refine Vn ?_)
      refine Ops_know rfl rfl hd ?_
      repeat (first | refine Vx ?_ | (apply Ops_q; (case hon => exact Va); (case hd => rfl); (case hq => exact YlA)) | refine Vr ?_ | refine Vt ?_ | refine Vf ?_ | refine Vm ?_ | refine Ve ?_ | refine Vo ?_ | refine Vz ?_ | refine Vn ?_)
      (apply Ops_q; (case hon => (exact Va)); (case hd => rfl); (case hq => exact Yl_indexS (j := (p+1)) rfl rfl (by omega)))
      repeat (first | refine Vx ?_ | (apply Ops_q; (case hon => exact Va); (case hd => rfl); (case hq => exact YlA)) | refine Vr ?_ | refine Vt ?_ | refine Vf ?_ | refine Vm ?_ | refine Ve ?_ | refine Vo ?_ | refine Vz ?_ | refine Vn ?_)
      rw [hs1]
      (apply Ops_q; (case hon => (exact Va)); (case hd => rfl); (case hq => exact Yl_indexS (j := p) rfl rfl (by omega)))
      repeat (first | refine Vx ?_ | (apply Ops_q; (case hon => exact Va); (case hd => rfl); (case hq => exact YlA)) | refine Vr ?_ | refine Vt ?_ | refine Vf ?_ | refine Vm ?_ | refine Ve ?_ | refine Vo ?_ | refine Vz ?_ | refine Vn ?_)
      (apply Ops_q; (case hon => (exact Va)); (case hd => rfl); (case hq => exact Yl_call rfl (fun w_ e_ => lessU_v x y w_)))
      repeat (first | refine Vx ?_ | (apply Ops_q; (case hon => exact Va); (case hd => rfl); (case hq => exact YlA)) | refine Vr ?_ | refine Vt ?_ | refine Vf ?_ | refine Vm ?_ | refine Ve ?_ | refine Vo ?_ | refine Vz ?_ | refine Vn ?_)
      refine V_cond rfl (fun hlt => ?_) (fun hlt => ?_)
      · replace hlt : ltU x y < 0 := by have := of_decide_eq_true hlt; simp only [ltU]; omega
        repeat (first | refine Vx ?_ | (apply Ops_q; (case hon => exact Va); (case hd => rfl); (case hq => exact YlA)) | refine Vt ?_ | refine Vf ?_ | refine Vm ?_ | refine Ve ?_ | refine Vo ?_ | refine Vz ?_ | refine Vn ?_)
        refine V_store (R := fun w' => DatU w' base g n cap (M.set (p + 1) y) ∧ Mod (fun c => c = g) w3 w') 16 15 (fun _ _ he h => ⟨h.1.ext he, h.2.ext he⟩) (by kernel_rfl) rfl (by kernel_rfl) ?_
        repeat (first
          | (refine YsS.pure rfl rfl rfl rfl rfl (fun w_ => (by first | exact Yl_move rfl | exact Yl_pred rfl rfl (by omega) | exact Yl_arith_in rfl rfl rfl (by first | assumption | (simp only [InK]; omega)))) ?_)
          | (refine YsS.load rfl rfl rfl rfl rfl (by first | exact Yl_load rfl hcx | exact Yl_load rfl hcy) ?_))
        refine YsS.pure rfl rfl rfl rfl rfl (fun w_ => Yl_indexS (j := p) rfl rfl (by omega)) ?_
        repeat (first
          | (refine YsS.pure rfl rfl rfl rfl rfl (fun w_ => (by first | exact Yl_move rfl | exact Yl_pred rfl rfl (by omega) | exact Yl_arith_in rfl rfl rfl (by first | assumption | (simp only [InK]; omega)))) ?_)
          | (refine YsS.load rfl rfl rfl rfl rfl (by first | exact Yl_load rfl hcx | exact Yl_load rfl hcy) ?_))
        refine YsS.pure rfl rfl rfl rfl rfl (fun w_ => Yl_indexS (j := (p+1)) rfl rfl (by omega)) ?_
        repeat (first
          | (refine YsS.pure rfl rfl rfl rfl rfl (fun w_ => (by first | exact Yl_move rfl | exact Yl_pred rfl rfl (by omega) | exact Yl_arith_in rfl rfl rfl (by first | assumption | (simp only [InK]; omega)))) ?_)
          | (refine YsS.load rfl rfl rfl rfl rfl (by first | exact Yl_load rfl hcx | exact Yl_load rfl hcy) ?_))
        refine YsS.pure rfl rfl rfl rfl rfl (fun w_ => Yl_indexS (j := (p+1)) rfl rfl (by omega)) ?_
        refine YsS.nil rfl ⟨fun a_ ag_ w_ hw_ => storeDatU_run (i := p+1) (v := y) rfl rfl rfl D3 (by omega) a_ ag_ w_ hw_, ?_⟩
        repeat (first
          | (refine YsS.pure rfl rfl rfl rfl rfl (fun w_ => (by first | exact Yl_move rfl | exact Yl_pred rfl rfl (by omega) | exact Yl_arith_in rfl rfl rfl (by first | assumption | (simp only [InK]; omega)))) ?_)
          | (refine YsS.load rfl rfl rfl rfl rfl (by first | exact Yl_load rfl hcx | exact Yl_load rfl hcy) ?_))
        refine YsS.nil rfl ?_
        rintro w4 ⟨D4, m4⟩
        repeat (first | refine Vx ?_ | (apply Ops_q; (case hon => exact Va); (case hd => rfl); (case hq => exact YlA)) | refine Vr ?_ | refine Vt ?_ | refine Vf ?_ | refine Vm ?_ | refine Ve ?_ | refine Vo ?_ | refine Vz ?_ | refine Vn ?_)
        (apply Ops_q; (case hon => (exact Va)); (case hd => rfl); (case hq => exact Yl_indexS (j := (p)) rfl rfl (by omega)))
        repeat (first | refine Vx ?_ | (apply Ops_q; (case hon => exact Va); (case hd => rfl); (case hq => exact YlA)) | refine Vr ?_ | refine Vt ?_ | refine Vf ?_ | refine Vm ?_ | refine Ve ?_ | refine Vo ?_ | refine Vz ?_ | refine Vn ?_)
        refine Ops_storeDatU (i := p) (v := x) (by exact Va) rfl rfl rfl D4 (by omega) ?_
        intro w5 D5 g5
        have m5 : Mod (BlkU g) w w5 := (m3.trans m4).grow g5 (fun b hb => .inl (by cases hb; rfl))
        have hsw : (M.set (p+1) y).set (p) x = swp M (p+1) (p) := by unfold swp; rw [hx, hy]
        rw [hsw] at D5
        repeat (first | refine Vx ?_ | (apply Ops_q; (case hon => exact Va); (case hd => rfl); (case hq => exact YlA)) | refine Vr ?_ | refine Vt ?_ | refine Vf ?_ | refine Vm ?_ | refine Ve ?_ | refine Vo ?_ | refine Vz ?_ | refine Vn ?_)
        rw [hs1]
        refine ⟨(p, swp M (p + 1) p), (by repeat (first | exact trivial | refine ⟨rfl, ?_⟩)), ⟨by dsimp only; omega, by dsimp only; omega, m5, D5, hM.trans (Moved.swp (by omega) (by omega) (by omega)), hA.step ordU (by omega) (by omega) (by omega) hx hy hlt⟩, by simp only; omega⟩
      · replace hlt : ¬ltU x y < 0 := by have := of_decide_eq_false hlt; simp only [ltU]; omega
        repeat (first | refine Vx ?_ | (apply Ops_q; (case hon => exact Va); (case hd => rfl); (case hq => exact YlA)) | refine Vr ?_ | refine Vt ?_ | refine Vf ?_ | refine Vm ?_ | refine Ve ?_ | refine Vo ?_ | refine Vz ?_ | refine Vn ?_)
        refine ⟨(i + 1, M), (by repeat (first | exact trivial | refine ⟨rfl, ?_⟩)), ⟨by dsimp only; omega, .inl (by dsimp only; omega), m3, D3, hM, hA.stop ordU (.inr ⟨x, y, hx, hy, hlt⟩)⟩, by simp only; omega⟩
    · have hd : decide ((a : Int) < (j : Int)) = false := decide_eq_false (by omega)
      repeat (first | refine Vx ?_ | (apply Ops_q; (case hon => exact Va); (case hd => rfl); (case hq => exact YlA)) | refine Vr ?_ | refine Vt ?_ | refine Vf ?_ | refine Vm ?_ | refine Ve ?_ | refine Vo ?_ | refine Vz ?_ | refine Vn ?_)
      refine Ops_know rfl rfl hd ?_
      repeat (first | refine Vx ?_ | (apply Ops_q; (case hon => exact Va); (case hd => rfl); (case hq => exact YlA)) | refine Vr ?_ | refine Vt ?_ | refine Vf ?_ | refine Vm ?_ | refine Ve ?_ | refine Vo ?_ | refine Vz ?_ | refine Vn ?_)
      refine ⟨(i + 1, M), (by repeat (first | exact trivial | refine ⟨rfl, ?_⟩)), ⟨by dsimp only; omega, .inl (by dsimp only; omega), m3, D3, hM, hA.stop ordU (.inl (by omega))⟩, by simp only; omega⟩
  · replace hg := of_decide_eq_false hg
    repeat (first | refine Vx ?_ | (apply Ops_q; (case hon => exact Va); (case hd => rfl); (case hq => exact YlA)) | refine Vr ?_ | refine Vt ?_ | refine Vf ?_ | refine Vm ?_ | refine Ve ?_ | refine Vo ?_ | refine Vz ?_ | refine Vn ?_)
    refine ret0 (by first | exact .inl rfl | exact .inr rfl) rfl ?_
    refine Does_mk (fun w' he => ⟨M, D3.ext he, rfl, hM, ?_⟩) m3
    exact hA.part (Nat.le_refl _) (by omega)
end
end Go.Proofs.Ytjpnaofoeeegeaa


/-
  Sorting words (slices.Sort at uint64): order2, median, choosePivot, reverseRange.
  Conditions: the list is one's own, and not too long for a machine.
-/
namespace Go.Proofs.Ytjpnaofoeeegeaa
open Go.RowKit

section
variable {base g n cap : Nat}
/-- The count of swaps: a number in a block of its own. -/
def Swaps (w : World) (bs : Nat) (k : Int) : Prop := Blk w bs 3 [.int .i64 k] ∧ 0 ≤ k
/-- What a function that counts swaps leaves. -/
def SwR (bs : Nat) (k : Int) (R : Value → Prop) (r : Value) (w' : World) : Prop := R r ∧ ∃ k', Swaps w' bs k' ∧ k' ≤ k
theorem order2_v (L : List Int) (a b bs : Nat) (k : Int) (w : World) (hD : DatU w base g n cap L) (hs : Swaps w bs k) (hk : k ≤ 1000) (ha : a < n) (hb : b < n) :
    Calls Try.prog 128 #[.slice (some ⟨g, 0, none⟩) n cap, .int .i64 a, .int .i64 b, .pointer (some ⟨bs, 0, none⟩)] w
      (Does (fun c => c = bs) (SwR bs (k + 1) (fun r => r = .tuple #[.int .i64 a, .int .i64 b] ∨ r = .tuple #[.int .i64 b, .int .i64 a])) w) := by
  obtain ⟨kb, k0⟩ := hs
  obtain ⟨x, hx⟩ := hD.get ha
  obtain ⟨y, hy⟩ := hD.get hb
  have hcx := hD.at hx
  have hcy := hD.at hy
  refine V_enter (vs := [_, _, _, _]) Try.func128 rfl Try.ntmps128 (Nat.le_of_ble_eq_true rfl) ?_
  repeat (first | refine Vx ?_ | (apply Ops_q; (case hon => exact Va); (case hd => rfl); (case hq => exact YlA)) | refine Vr ?_ | refine Vt ?_ | refine Vf ?_ | refine Vm ?_ | refine Ve ?_ | refine Vo ?_ | refine Vz ?_ | refine Vn ?_)
  (apply Ops_q; (case hon => (exact Va)); (case hd => rfl); (case hq => exact Yl_indexS (j := b) rfl rfl (by omega)))
  repeat (first | refine Vx ?_ | (apply Ops_q; (case hon => exact Va); (case hd => rfl); (case hq => exact YlA)) | refine Vr ?_ | refine Vt ?_ | refine Vf ?_ | refine Vm ?_ | refine Ve ?_ | refine Vo ?_ | refine Vz ?_ | refine Vn ?_)
  (apply Ops_q; (case hon => (exact Va)); (case hd => rfl); (case hq => exact Yl_indexS (j := a) rfl rfl (by omega)))
  repeat (first | refine Vx ?_ | (apply Ops_q; (case hon => exact Va); (case hd => rfl); (case hq => exact YlA)) | refine Vr ?_ | refine Vt ?_ | refine Vf ?_ | refine Vm ?_ | refine Ve ?_ | refine Vo ?_ | refine Vz ?_ | refine Vn ?_)
  (apply Ops_q; (case hon => (exact Va)); (case hd => rfl); (case hq => exact Yl_call rfl (fun w_ e_ => lessU_v y x w_)))
  repeat (first | refine Vx ?_ | (apply Ops_q; (case hon => exact Va); (case hd => rfl); (case hq => exact YlA)) | refine Vr ?_ | refine Vt ?_ | refine Vf ?_ | refine Vm ?_ | refine Ve ?_ | refine Vo ?_ | refine Vz ?_ | refine Vn ?_)
  refine V_cond rfl (fun h => ?_) (fun h => ?_)
  · repeat (first | refine Vx ?_ | (apply Ops_q; (case hon => exact Va); (case hd => rfl); (case hq => exact YlA)) | refine Vr ?_ | refine Vt ?_ | refine Vf ?_ | refine Vm ?_ | refine Ve ?_ | refine Vo ?_ | refine Vz ?_ | refine Vn ?_)
    (refine Ops_store (by exact Va) rfl rfl kb (by rfl) ?_; intro w1 u1)
    have m1 : Mod (fun c => c = bs) w w1 := (Mod.of_ext (S := fun c => c = bs) (Ext.refl _)).upd u1 (.inl rfl)
    repeat (first | refine Vx ?_ | (apply Ops_q; (case hon => exact Va); (case hd => rfl); (case hq => exact YlA)) | refine Vr ?_ | refine Vt ?_ | refine Vf ?_ | refine Vm ?_ | refine Ve ?_ | refine Vo ?_ | refine Vz ?_ | refine Vn ?_)
    refine ret2 (by first | exact .inl rfl | exact .inr rfl) rfl rfl rfl ?_
    exact Does_mk (fun w' he => ⟨.inr rfl, k + 1, ⟨u1.blk.ext he, by omega⟩, Int.le_refl _⟩) m1
  · repeat (first | refine Vx ?_ | (apply Ops_q; (case hon => exact Va); (case hd => rfl); (case hq => exact YlA)) | refine Vr ?_ | refine Vt ?_ | refine Vf ?_ | refine Vm ?_ | refine Ve ?_ | refine Vo ?_ | refine Vz ?_ | refine Vn ?_)
    refine ret2 (by first | exact .inl rfl | exact .inr rfl) rfl rfl rfl ?_
    exact Does_mk (fun w' he => ⟨.inl rfl, k, ⟨kb.ext he, k0⟩, by omega⟩) (.of_ext (Ext.refl _))
theorem DatU.mod {w w1 : World} {L : List Int} {S : Nat → Prop} (h : DatU w base g n cap L) (hm : Mod S w w1) (hs : ¬S g) : DatU w1 base g n cap L := ⟨hm.own h.own (fun b hb => by cases hb; exact hs), h.len⟩
theorem median_v (L : List Int) (a b c bs lo hi : Nat) (k : Int) (w : World) (hD : DatU w base g n cap L) (hs : Swaps w bs k) (hk : k ≤ 900) (hne : g ≠ bs) (hhi : hi ≤ n) (ha : lo ≤ a ∧ a < hi) (hb : lo ≤ b ∧ b < hi) (hc : lo ≤ c ∧ c < hi) :
    Calls Try.prog 126 #[.slice (some ⟨g, 0, none⟩) n cap, .int .i64 a, .int .i64 b, .int .i64 c, .pointer (some ⟨bs, 0, none⟩)] w
      (Does (fun c => c = bs) (SwR bs (k + 3) (fun r => ∃ p : Nat, r = .int .i64 p ∧ lo ≤ p ∧ p < hi)) w) := by
  refine V_enter (vs := [_, _, _, _, _]) Try.func126 rfl Try.ntmps126 (Nat.le_of_ble_eq_true rfl) ?_
  repeat (first | refine Vx ?_ | (apply Ops_q; (case hon => exact Va); (case hd => rfl); (case hq => exact YlA)) | refine Vr ?_ | refine Vt ?_ | refine Vf ?_ | refine Vm ?_ | refine Ve ?_ | refine Vo ?_ | refine Vz ?_ | refine Vn ?_)
  refine Ops_callM (S := fun c => c = bs) (R := fun _ => SwR bs (k + 1) (fun r => r = .tuple #[.int .i64 a, .int .i64 b] ∨ r = .tuple #[.int .i64 b, .int .i64 a])) (by exact Va) rfl rfl (fun w_ e_ => order2_v L a b bs k w_ (hD.ext e_) ⟨hs.1.ext e_, hs.2⟩ (by omega) (by omega) (by omega)) ?_
  intro r w1 w0_ e0w1 mw1 hR
  obtain ⟨hr, k1, sw1, hw1⟩ := hR
  have Dw1 := (hD.ext e0w1).mod mw1 (fun e => hne e)
  obtain ⟨pw1, qw1, hpqw1, rfl⟩ : ∃ p q : Nat, ((p = a ∧ q = b) ∨ (p = b ∧ q = a)) ∧ r = .tuple #[.int .i64 p, .int .i64 q] := by
    rcases hr with rfl | rfl
    · exact ⟨_, _, .inl ⟨rfl, rfl⟩, rfl⟩
    · exact ⟨_, _, .inr ⟨rfl, rfl⟩, rfl⟩
  repeat (first | refine Vx ?_ | (apply Ops_q; (case hon => exact Va); (case hd => rfl); (case hq => exact YlA)) | refine Vr ?_ | refine Vt ?_ | refine Vf ?_ | refine Vm ?_ | refine Ve ?_ | refine Vo ?_ | refine Vz ?_ | refine Vn ?_)
  refine Ops_callM (S := fun c => c = bs) (R := fun _ => SwR bs (k1 + 1) (fun r => r = .tuple #[.int .i64 qw1, .int .i64 c] ∨ r = .tuple #[.int .i64 c, .int .i64 qw1])) (by exact Va) rfl rfl (fun w_ e_ => order2_v L qw1 c bs k1 w_ (Dw1.ext e_) ⟨sw1.1.ext e_, sw1.2⟩ (by omega) (by omega) (by omega)) ?_
  intro r w2 w0_ e0w2 mw2 hR
  obtain ⟨hr, k2, sw2, hw2⟩ := hR
  have Dw2 := (Dw1.ext e0w2).mod mw2 (fun e => hne e)
  obtain ⟨pw2, qw2, hpqw2, rfl⟩ : ∃ p q : Nat, ((p = qw1 ∧ q = c) ∨ (p = c ∧ q = qw1)) ∧ r = .tuple #[.int .i64 p, .int .i64 q] := by
    rcases hr with rfl | rfl
    · exact ⟨_, _, .inl ⟨rfl, rfl⟩, rfl⟩
    · exact ⟨_, _, .inr ⟨rfl, rfl⟩, rfl⟩
  repeat (first | refine Vx ?_ | (apply Ops_q; (case hon => exact Va); (case hd => rfl); (case hq => exact YlA)) | refine Vr ?_ | refine Vt ?_ | refine Vf ?_ | refine Vm ?_ | refine Ve ?_ | refine Vo ?_ | refine Vz ?_ | refine Vn ?_)
  refine Ops_callM (S := fun c => c = bs) (R := fun _ => SwR bs (k2 + 1) (fun r => r = .tuple #[.int .i64 pw1, .int .i64 pw2] ∨ r = .tuple #[.int .i64 pw2, .int .i64 pw1])) (by exact Va) rfl rfl (fun w_ e_ => order2_v L pw1 pw2 bs k2 w_ (Dw2.ext e_) ⟨sw2.1.ext e_, sw2.2⟩ (by omega) (by omega) (by omega)) ?_
  intro r w3 w0_ e0w3 mw3 hR
  obtain ⟨hr, k3, sw3, hw3⟩ := hR
  have Dw3 := (Dw2.ext e0w3).mod mw3 (fun e => hne e)
  obtain ⟨pw3, qw3, hpqw3, rfl⟩ : ∃ p q : Nat, ((p = pw1 ∧ q = pw2) ∨ (p = pw2 ∧ q = pw1)) ∧ r = .tuple #[.int .i64 p, .int .i64 q] := by
    rcases hr with rfl | rfl
    · exact ⟨_, _, .inl ⟨rfl, rfl⟩, rfl⟩
    · exact ⟨_, _, .inr ⟨rfl, rfl⟩, rfl⟩
  repeat (first | refine Vx ?_ | (apply Ops_q; (case hon => exact Va); (case hd => rfl); (case hq => exact YlA)) | refine Vr ?_ | refine Vt ?_ | refine Vf ?_ | refine Vm ?_ | refine Ve ?_ | refine Vo ?_ | refine Vz ?_ | refine Vn ?_)
  refine ret1 (by first | exact .inl rfl | exact .inr rfl) rfl rfl ?_
  have m3 := (((Mod.of_ext e0w1).trans mw1).ext e0w2 |>.trans mw2).ext e0w3 |>.trans mw3
  exact Does_mk (fun w' he => ⟨⟨qw3, rfl, by omega, by omega⟩, k3, ⟨sw3.1.ext he, sw3.2⟩, by omega⟩) m3
theorem medianAdjacent_v (L : List Int) (a bs lo hi : Nat) (k : Int) (w : World) (hD : DatU w base g n cap L) (hs : Swaps w bs k) (hk : k ≤ 900) (hne : g ≠ bs) (hn : n ≤ 1000000000000) (hhi : hi ≤ n) (ha : lo + 1 ≤ a ∧ a + 1 < hi) :
    Calls Try.prog 125 #[.slice (some ⟨g, 0, none⟩) n cap, .int .i64 a, .pointer (some ⟨bs, 0, none⟩)] w
      (Does (fun c => c = bs) (SwR bs (k + 3) (fun r => ∃ p : Nat, r = .int .i64 p ∧ lo ≤ p ∧ p < hi)) w) := by
  obtain ⟨z, rfl⟩ : ∃ z, a = z + 1 := ⟨a - 1, by omega⟩
  have hz : ((z + 1 : Nat) : Int) - 1 = (z : Int) := by omega
  refine V_enter (vs := [_, _, _]) Try.func125 rfl Try.ntmps125 (Nat.le_of_ble_eq_true rfl) ?_
  repeat (first | refine Vx ?_ | (apply Ops_q; (case hon => exact Va); (case hd => rfl); (case hq => exact YlA)) | refine Vr ?_ | refine Vt ?_ | refine Vf ?_ | refine Vm ?_ | refine Ve ?_ | refine Vo ?_ | refine Vz ?_ | refine Vn ?_)
  rw [hz]
  refine Ops_callM (S := fun c => c = bs) (R := fun _ => SwR bs (k + 3) (fun r => ∃ p : Nat, r = .int .i64 p ∧ lo ≤ p ∧ p < hi)) (by exact Va) rfl rfl (fun w_ e_ => median_v L z (z + 1) (z + 1 + 1) bs lo hi k w_ (hD.ext e_) ⟨hs.1.ext e_, hs.2⟩ hk hne hhi (by omega) (by omega) (by omega)) ?_
  intro r w1 w0_ e0 m1 hR
  obtain ⟨⟨p, rfl, hp⟩, k1, s1, hk1⟩ := hR
  repeat (first | refine Vx ?_ | (apply Ops_q; (case hon => exact Va); (case hd => rfl); (case hq => exact YlA)) | refine Vr ?_ | refine Vt ?_ | refine Vf ?_ | refine Vm ?_ | refine Ve ?_ | refine Vo ?_ | refine Vz ?_ | refine Vn ?_)
  refine ret1 (by first | exact .inl rfl | exact .inr rfl) rfl rfl ?_
  exact Does_mk (fun w' he => ⟨⟨p, rfl, hp⟩, k1, ⟨s1.1.ext he, s1.2⟩, hk1⟩) ((Mod.of_ext e0).trans m1)
set_option maxHeartbeats 1000000 in
theorem choosePivot_v (L : List Int) (a b : Nat) (w : World) (hD : DatU w base g n cap L) (hn : n ≤ 1000000000000) (hb : b ≤ n) (hab : a + 12 < b) :
    Calls Try.prog 113 #[.slice (some ⟨g, 0, none⟩) n cap, .int .i64 a, .int .i64 b] w
      (Gives (fun r _ => ∃ (p : Nat) (h : Int), r = .tuple #[.int .i64 p, .int .i64 h] ∧ a ≤ p ∧ p < b) w) := by
  have hg := hD.own.lt (b := g) rfl
  obtain ⟨l, hl⟩ : ∃ l : Nat, (b : Int) - (a : Int) = (l : Int) := ⟨b - a, by omega⟩
  have e1 : (a : Int) + (l : Int) / 4 * 1 = ((a + l / 4 * 1 : Nat) : Int) := by omega
  have e2 : (a : Int) + (l : Int) / 4 * 2 = ((a + l / 4 * 2 : Nat) : Int) := by omega
  have e3 : (a : Int) + (l : Int) / 4 * 3 = ((a + l / 4 * 3 : Nat) : Int) := by omega
  have h1 : a ≤ a + l / 4 * 1 ∧ a + l / 4 * 1 < b := by omega
  have h2 : a ≤ a + l / 4 * 2 ∧ a + l / 4 * 2 < b := by omega
  have h3 : a ≤ a + l / 4 * 3 ∧ a + l / 4 * 3 < b := by omega
  have h50 : 50 ≤ l → (a + 1 ≤ a + l / 4 * 1 ∧ a + l / 4 * 1 + 1 < b) ∧ (a + 1 ≤ a + l / 4 * 2 ∧ a + l / 4 * 2 + 1 < b) ∧ (a + 1 ≤ a + l / 4 * 3 ∧ a + l / 4 * 3 + 1 < b) := by omega
  generalize a + l / 4 * 1 = i at *
  generalize a + l / 4 * 2 = j at *
  generalize a + l / 4 * 3 = k at *
  refine V_enter (vs := [_, _, _]) Try.func113 rfl Try.ntmps113 (Nat.le_of_ble_eq_true rfl) ?_
  repeat (first | refine Vx ?_ | (apply Ops_q; (case hon => exact Va); (case hd => rfl); (case hq => exact YlA)) | refine Vr ?_ | refine Vt ?_ | refine Vf ?_ | refine Vm ?_ | refine Ve ?_ | refine Vo ?_ | refine Vz ?_ | refine Vn ?_)
  rw [hl]
  repeat (first | refine Vx ?_ | (apply Ops_q; (case hon => exact Va); (case hd => rfl); (case hq => exact YlA)) | refine Vr ?_ | refine Vt ?_ | refine Vf ?_ | refine Vm ?_ | refine Ve ?_ | refine Vo ?_ | refine Vz ?_ | refine Vn ?_)
  (refine Ops_alloc (by exact Va) rfl ?_; intro w1 bs n_bs; have k_bs := n_bs.blk)
  repeat (first | refine Vx ?_ | (apply Ops_q; (case hon => exact Va); (case hd => rfl); (case hq => exact YlA)) | refine Vr ?_ | refine Vt ?_ | refine Vf ?_ | refine Vm ?_ | refine Ve ?_ | refine Vo ?_ | refine Vz ?_ | refine Vn ?_)
  rw [e1, e2, e3]
  refine V_yes rfl (decide_eq_true (by omega : (8 : Int) ≤ (l : Int))) ?_
  have hgb : g ≠ bs := by have := n_bs.ge; omega
  have hbw := n_bs.ge
  repeat (first | refine Vx ?_ | (apply Ops_q; (case hon => exact Va); (case hd => rfl); (case hq => exact YlA)) | refine Vr ?_ | refine Vt ?_ | refine Vf ?_ | refine Vm ?_ | refine Ve ?_ | refine Vo ?_ | refine Vz ?_ | refine Vn ?_)
  refine V_meet1 (fun s : Nat × Nat × Nat => [(10, .int .i64 s.1), (11, .int .i64 s.2.1), (12, .int .i64 s.2.2), (9, .pointer (some ⟨bs, 0, none⟩)), (0, .slice (some ⟨g, 0, none⟩) n cap)])
    (fun s w' => Ext w w' ∧ (a ≤ s.1 ∧ s.1 < b) ∧ (a ≤ s.2.1 ∧ s.2.1 < b) ∧ (a ≤ s.2.2 ∧ s.2.2 < b) ∧ (∃ c, Swaps w' bs c ∧ c ≤ 9) ∧ DatU w' base g n cap L) ?_ ?_
  · refine V_cond rfl (fun h => ?_) (fun h => ?_)
    · obtain ⟨q1, q2, q3⟩ := h50 (by have := of_decide_eq_true h; omega)
      repeat (first | refine Vx ?_ | (apply Ops_q; (case hon => exact Va); (case hd => rfl); (case hq => exact YlA)) | refine Vr ?_ | refine Vt ?_ | refine Vf ?_ | refine Vm ?_ | refine Ve ?_ | refine Vo ?_ | refine Vz ?_ | refine Vn ?_)
      refine Ops_callM (S := fun c => c = bs) (R := fun _ => SwR bs (0 + 3) (fun r => ∃ p : Nat, r = .int .i64 p ∧ a ≤ p ∧ p < b)) (by exact Va) rfl rfl (fun w_ e_ => medianAdjacent_v L i bs a b 0 w_ (hD.ext (n_bs.ext.trans e_)) ⟨k_bs.ext e_, Int.le_refl _⟩ (by omega) hgb hn hb q1) ?_
      intro r w2 w0_ e0 m2 hR
      obtain ⟨⟨p1, rfl, hp1⟩, c2, s2, hc2⟩ := hR
      have D2 := (hD.ext (n_bs.ext.trans e0)).mod m2 hgb
      have x2 : Ext w w2 := Mod.ext_of (n_bs.ext.trans e0) m2 (fun c hc => by rw [hc]; exact hbw)
      repeat (first | refine Vx ?_ | (apply Ops_q; (case hon => exact Va); (case hd => rfl); (case hq => exact YlA)) | refine Vr ?_ | refine Vt ?_ | refine Vf ?_ | refine Vm ?_ | refine Ve ?_ | refine Vo ?_ | refine Vz ?_ | refine Vn ?_)
      refine Ops_callM (S := fun c => c = bs) (R := fun _ => SwR bs (c2 + 3) (fun r => ∃ p : Nat, r = .int .i64 p ∧ a ≤ p ∧ p < b)) (by exact Va) rfl rfl (fun w_ e_ => medianAdjacent_v L j bs a b c2 w_ (D2.ext e_) ⟨s2.1.ext e_, s2.2⟩ (by omega) hgb hn hb q2) ?_
      intro r w3 w0_ e0 m3 hR
      obtain ⟨⟨p2, rfl, hp2⟩, c3, s3, hc3⟩ := hR
      have D3 := (D2.ext e0).mod m3 hgb
      have x3 : Ext w w3 := Mod.ext_of (x2.trans e0) m3 (fun c hc => by rw [hc]; exact hbw)
      repeat (first | refine Vx ?_ | (apply Ops_q; (case hon => exact Va); (case hd => rfl); (case hq => exact YlA)) | refine Vr ?_ | refine Vt ?_ | refine Vf ?_ | refine Vm ?_ | refine Ve ?_ | refine Vo ?_ | refine Vz ?_ | refine Vn ?_)
      refine Ops_callM (S := fun c => c = bs) (R := fun _ => SwR bs (c3 + 3) (fun r => ∃ p : Nat, r = .int .i64 p ∧ a ≤ p ∧ p < b)) (by exact Va) rfl rfl (fun w_ e_ => medianAdjacent_v L k bs a b c3 w_ (D3.ext e_) ⟨s3.1.ext e_, s3.2⟩ (by omega) hgb hn hb q3) ?_
      intro r w4 w0_ e0 m4 hR
      obtain ⟨⟨p3, rfl, hp3⟩, c4, s4, hc4⟩ := hR
      have D4 := (D3.ext e0).mod m4 hgb
      have x4 : Ext w w4 := Mod.ext_of (x3.trans e0) m4 (fun c hc => by rw [hc]; exact hbw)
      repeat (first | refine Vx ?_ | (apply Ops_q; (case hon => exact Va); (case hd => rfl); (case hq => exact YlA)) | refine Vr ?_ | refine Vt ?_ | refine Vf ?_ | refine Vm ?_ | refine Ve ?_ | refine Vo ?_ | refine Vz ?_ | refine Vn ?_)
      exact ⟨(p1, p2, p3), (by repeat (first | exact trivial | refine ⟨rfl, ?_⟩)), x4, hp1, hp2, hp3, ⟨c4, s4, by omega⟩, D4⟩
    · repeat (first | refine Vx ?_ | (apply Ops_q; (case hon => exact Va); (case hd => rfl); (case hq => exact YlA)) | refine Vr ?_ | refine Vt ?_ | refine Vf ?_ | refine Vm ?_ | refine Ve ?_ | refine Vo ?_ | refine Vz ?_ | refine Vn ?_)
      exact ⟨(i, j, k), (by repeat (first | exact trivial | refine ⟨rfl, ?_⟩)), n_bs.ext, h1, h2, h3, ⟨0, ⟨k_bs, Int.le_refl _⟩, by omega⟩, hD.ext n_bs.ext⟩
  rintro ⟨i, j, k⟩ w2 ⟨x2, h1, h2, h3, ⟨c2, s2, hc2⟩, D2⟩
  dsimp only at h1 h2 h3 ⊢
  repeat (first | refine Vx ?_ | (apply Ops_q; (case hon => exact Va); (case hd => rfl); (case hq => exact YlA)) | refine Vr ?_ | refine Vt ?_ | refine Vf ?_ | refine Vm ?_ | refine Ve ?_ | refine Vo ?_ | refine Vz ?_ | refine Vn ?_)
  refine Ops_callM (S := fun c => c = bs) (R := fun _ => SwR bs (c2 + 3) (fun r => ∃ p : Nat, r = .int .i64 p ∧ a ≤ p ∧ p < b)) (by exact Va) rfl rfl (fun w_ e_ => median_v L i j k bs a b c2 w_ (D2.ext e_) ⟨s2.1.ext e_, s2.2⟩ (by omega) hgb hb h1 h2 h3) ?_
  intro r w3 w0_ e0 m3 hR
  obtain ⟨⟨p, rfl, hp⟩, c3, s3, hc3⟩ := hR
  have x3 : Ext w w3 := Mod.ext_of (x2.trans e0) m3 (fun c hc => by rw [hc]; exact hbw)
  have k3 := s3.1
  repeat (first | refine Vx ?_ | (apply Ops_q; (case hon => exact Va); (case hd => rfl); (case hq => exact YlA)) | refine Vr ?_ | refine Vt ?_ | refine Vf ?_ | refine Vm ?_ | refine Ve ?_ | refine Vo ?_ | refine Vz ?_ | refine Vn ?_)
  refine V_cond rfl (fun h5 => ?_) (fun h5 => ?_)
  · repeat (first | refine Vx ?_ | (apply Ops_q; (case hon => exact Va); (case hd => rfl); (case hq => exact YlA)) | refine Vr ?_ | refine Vt ?_ | refine Vf ?_ | refine Vm ?_ | refine Ve ?_ | refine Vo ?_ | refine Vz ?_ | refine Vn ?_)
    refine ret2 (by first | exact .inl rfl | exact .inr rfl) rfl rfl rfl ?_
    exact Gives_mk (fun w' _ => ⟨p, _, rfl, hp⟩) x3
  repeat (first | refine Vx ?_ | (apply Ops_q; (case hon => exact Va); (case hd => rfl); (case hq => exact YlA)) | refine Vr ?_ | refine Vt ?_ | refine Vf ?_ | refine Vm ?_ | refine Ve ?_ | refine Vo ?_ | refine Vz ?_ | refine Vn ?_)
  refine V_cond rfl (fun h6 => ?_) (fun h6 => ?_)
  · repeat (first | refine Vx ?_ | (apply Ops_q; (case hon => exact Va); (case hd => rfl); (case hq => exact YlA)) | refine Vr ?_ | refine Vt ?_ | refine Vf ?_ | refine Vm ?_ | refine Ve ?_ | refine Vo ?_ | refine Vz ?_ | refine Vn ?_)
    refine ret2 (by first | exact .inl rfl | exact .inr rfl) rfl rfl rfl ?_
    exact Gives_mk (fun w' _ => ⟨p, _, rfl, hp⟩) x3
  · repeat (first | refine Vx ?_ | (apply Ops_q; (case hon => exact Va); (case hd => rfl); (case hq => exact YlA)) | refine Vr ?_ | refine Vt ?_ | refine Vf ?_ | refine Vm ?_ | refine Ve ?_ | refine Vo ?_ | refine Vz ?_ | refine Vn ?_)
    refine ret2 (by first | exact .inl rfl | exact .inr rfl) rfl rfl rfl ?_
    exact Gives_mk (fun w' _ => ⟨p, _, rfl, hp⟩) x3
set_option maxHeartbeats 1000000 in
theorem reverse_v (L : List Int) (a b : Nat) (w : World) (hD : DatU w base g n cap L) (hn : n ≤ 1000000000000) (hab : a < b) (hb : b ≤ n) :
    Calls Try.prog 114 #[.slice (some ⟨g, 0, none⟩) n cap, .int .i64 a, .int .i64 b] w
      (Does (BlkU g) (DatV base g n cap (fun r L' => r = .tuple #[] ∧ Moved L L' a b)) w) := by
  obtain ⟨z, rfl⟩ : ∃ z, b = z + 1 := ⟨b - 1, by omega⟩
  have hz : ((z + 1 : Nat) : Int) - 1 = (z : Int) := by omega
  refine V_enter (vs := [_, _, _]) Try.func114 rfl Try.ntmps114 (Nat.le_of_ble_eq_true rfl) ?_
  repeat (first | refine Vx ?_ | (apply Ops_q; (case hon => exact Va); (case hd => rfl); (case hq => exact YlA)) | refine Vr ?_ | refine Vt ?_ | refine Vf ?_ | refine Vm ?_ | refine Ve ?_ | refine Vo ?_ | refine Vz ?_ | refine Vn ?_)
  rw [hz]
  refine V_loop (fun s : Nat × Nat × List Int => [(6, .int .i64 s.1), (7, .int .i64 s.2.1), (0, .slice (some ⟨g, 0, none⟩) n cap)])
    (fun s w' => a ≤ s.1 ∧ s.2.1 ≤ z ∧ s.1 ≤ s.2.1 + 1 ∧ Mod (BlkU g) w w' ∧ DatU w' base g n cap s.2.2 ∧ Moved L s.2.2 a (z + 1)) (fun s => s.2.1 + 1 - s.1) (a, z, L) (by repeat (first | exact trivial | refine ⟨rfl, ?_⟩))
    ⟨Nat.le_refl _, Nat.le_refl _, by dsimp only; omega, .of_ext (Ext.refl _), hD, Moved.refl ..⟩ ?_
  rintro ⟨i, j, M⟩ w3 ⟨h1, h2, h3, m3, D3, hM⟩
  dsimp only at h1 h2 h3 D3 hM ⊢
  have hMl := D3.len
  repeat (first | refine Vx ?_ | (apply Ops_q; (case hon => exact Va); (case hd => rfl); (case hq => exact YlA)) | refine Vr ?_ | refine Vt ?_ | refine Vf ?_ | refine Vm ?_ | refine Ve ?_ | refine Vo ?_ | refine Vz ?_ | refine Vn ?_)
  refine V_cond rfl (fun hg => ?_) (fun hg => ?_)
  · replace hg := of_decide_eq_true hg
    obtain ⟨p, rfl⟩ : ∃ p, j = p + 1 := ⟨j - 1, by omega⟩
    have hs1 : ((p + 1 : Nat) : Int) - 1 = (p : Int) := by omega
    obtain ⟨x, hx⟩ := D3.get (k := i) (by omega)
    obtain ⟨y, hy⟩ := D3.get (k := p + 1) (by omega)
    have hcx := D3.at hx
    have hcy := D3.at hy
    repeat (first | refine Vx ?_ | (apply Ops_q; (case hon => exact Va); (case hd => rfl); (case hq => exact YlA)) | refine Vt ?_ | refine Vf ?_ | refine Vm ?_ | refine Ve ?_ | refine Vo ?_ | refine Vz ?_ | refine Vn ?_)
    refine V_store (R := fun w' => DatU w' base g n cap (M.set i y) ∧ Mod (fun c => c = g) w3 w') 14 13 (fun _ _ he h => ⟨h.1.ext he, h.2.ext he⟩) (by kernel_rfl) rfl (by kernel_rfl) ?_
    repeat (first
      | (refine YsS.pure rfl rfl rfl rfl rfl (fun w_ => (by first | exact Yl_move rfl | exact Yl_pred rfl rfl (by omega) | exact Yl_arith_in rfl rfl rfl (by first | assumption | (simp only [InK]; omega)))) ?_)
      | (refine YsS.load rfl rfl rfl rfl rfl (by first | exact Yl_load rfl hcx | exact Yl_load rfl hcy) ?_))
    refine YsS.pure rfl rfl rfl rfl rfl (fun w_ => Yl_indexS (j := (p+1)) rfl rfl (by omega)) ?_
    repeat (first
      | (refine YsS.pure rfl rfl rfl rfl rfl (fun w_ => (by first | exact Yl_move rfl | exact Yl_pred rfl rfl (by omega) | exact Yl_arith_in rfl rfl rfl (by first | assumption | (simp only [InK]; omega)))) ?_)
      | (refine YsS.load rfl rfl rfl rfl rfl (by first | exact Yl_load rfl hcx | exact Yl_load rfl hcy) ?_))
    refine YsS.pure rfl rfl rfl rfl rfl (fun w_ => Yl_indexS (j := i) rfl rfl (by omega)) ?_
    repeat (first
      | (refine YsS.pure rfl rfl rfl rfl rfl (fun w_ => (by first | exact Yl_move rfl | exact Yl_pred rfl rfl (by omega) | exact Yl_arith_in rfl rfl rfl (by first | assumption | (simp only [InK]; omega)))) ?_)
      | (refine YsS.load rfl rfl rfl rfl rfl (by first | exact Yl_load rfl hcx | exact Yl_load rfl hcy) ?_))
    refine YsS.pure rfl rfl rfl rfl rfl (fun w_ => Yl_indexS (j := i) rfl rfl (by omega)) ?_
    refine YsS.nil rfl ⟨fun a_ ag_ w_ hw_ => storeDatU_run (i := i) (v := y) rfl rfl rfl D3 (by omega) a_ ag_ w_ hw_, ?_⟩
    repeat (first
      | (refine YsS.pure rfl rfl rfl rfl rfl (fun w_ => (by first | exact Yl_move rfl | exact Yl_pred rfl rfl (by omega) | exact Yl_arith_in rfl rfl rfl (by first | assumption | (simp only [InK]; omega)))) ?_)
      | (refine YsS.load rfl rfl rfl rfl rfl (by first | exact Yl_load rfl hcx | exact Yl_load rfl hcy) ?_))
    refine YsS.nil rfl ?_
    rintro w4 ⟨D4, m4⟩
    repeat (first | refine Vx ?_ | (apply Ops_q; (case hon => exact Va); (case hd => rfl); (case hq => exact YlA)) | refine Vr ?_ | refine Vt ?_ | refine Vf ?_ | refine Vm ?_ | refine Ve ?_ | refine Vo ?_ | refine Vz ?_ | refine Vn ?_)
    (apply Ops_q; (case hon => (exact Va)); (case hd => rfl); (case hq => exact Yl_indexS (j := (p+1)) rfl rfl (by omega)))
    repeat (first | refine Vx ?_ | (apply Ops_q; (case hon => exact Va); (case hd => rfl); (case hq => exact YlA)) | refine Vr ?_ | refine Vt ?_ | refine Vf ?_ | refine Vm ?_ | refine Ve ?_ | refine Vo ?_ | refine Vz ?_ | refine Vn ?_)
    refine Ops_storeDatU (i := p+1) (v := x) (by exact Va) rfl rfl rfl D4 (by omega) ?_
    intro w5 D5 g5
    have m5 : Mod (BlkU g) w w5 := (m3.trans m4).grow g5 (fun b hb => .inl (by cases hb; rfl))
    have hsw : (M.set (i) y).set (p+1) x = swp M (i) (p+1) := by unfold swp; rw [hx, hy]
    rw [hsw] at D5
    repeat (first | refine Vx ?_ | (apply Ops_q; (case hon => exact Va); (case hd => rfl); (case hq => exact YlA)) | refine Vr ?_ | refine Vt ?_ | refine Vf ?_ | refine Vm ?_ | refine Ve ?_ | refine Vo ?_ | refine Vz ?_ | refine Vn ?_)
    rw [hs1]
    refine ⟨(i + 1, p, swp M i (p + 1)), (by repeat (first | exact trivial | refine ⟨rfl, ?_⟩)), ⟨by dsimp only; omega, by dsimp only; omega, by dsimp only; omega, m5, D5, hM.trans (Moved.swp (by omega) (by omega) (by omega))⟩, by simp only; omega⟩
  · replace hg := of_decide_eq_false hg
    repeat (first | refine Vx ?_ | (apply Ops_q; (case hon => exact Va); (case hd => rfl); (case hq => exact YlA)) | refine Vr ?_ | refine Vt ?_ | refine Vf ?_ | refine Vm ?_ | refine Ve ?_ | refine Vo ?_ | refine Vz ?_ | refine Vn ?_)
    refine ret0 (by first | exact .inl rfl | exact .inr rfl) rfl ?_
    exact Does_mk (fun w' he => ⟨M, D3.ext he, rfl, hM⟩) m3
end
end Go.Proofs.Ytjpnaofoeeegeaa


/-
  Sorting words (slices.Sort at uint64): partialInsertionSort.
  Conditions: the list is one's own, and not too long for a machine; nothing before the range is greater than what it holds.
-/
namespace Go.Proofs.Ytjpnaofoeeegeaa
open Go.RowKit

section
variable {base g n cap : Nat}
/-- Nothing before a is greater than what stands from a on, below b. -/
abbrev Pre2 (L : List Int) (a b : Nat) : Prop := Below2 ltU L 0 a a b
set_option maxHeartbeats 2000000 in
theorem partialU_v (L : List Int) (a b : Nat) (w : World) (hD : DatU w base g n cap L) (hn : n ≤ 1000000000000) (hb : b ≤ n) (hab : a < b) (hp : Pre2 L a b) :
    Calls Try.prog 115 #[.slice (some ⟨g, 0, none⟩) n cap, .int .i64 a, .int .i64 b] w
      (Does (BlkU g) (DatV base g n cap (fun r L' => ∃ o : Bool, r = .bool o ∧ Moved L L' a b ∧ (o = true → Asc ltU L' a b))) w) := by
  refine V_enter (vs := [_, _, _]) Try.func115 rfl Try.ntmps115 (Nat.le_of_ble_eq_true rfl) ?_
  repeat (first | refine Vx ?_ | (apply Ops_q; (case hon => exact Va); (case hd => rfl); (case hq => exact YlA)) | refine Vr ?_ | refine Vt ?_ | refine Vf ?_ | refine Vm ?_ | refine Ve ?_ | refine Vo ?_ | refine Vz ?_ | refine Vn ?_)
  refine V_loop (fun s : Nat × Nat × List Int => [(7, .int .i64 s.2.1), (8, .int .i64 s.1), (0, .slice (some ⟨g, 0, none⟩) n cap), (1, .int .i64 a), (2, .int .i64 b)])
    (fun s w' => s.1 ≤ 5 ∧ a + 1 ≤ s.2.1 ∧ s.2.1 ≤ b ∧ Mod (BlkU g) w w' ∧ DatU w' base g n cap s.2.2 ∧ Moved L s.2.2 a b ∧ Asc ltU s.2.2 a s.2.1) (fun s => 5 - s.1) (0, a + 1, L) (by repeat (first | exact trivial | refine ⟨rfl, ?_⟩))
    ⟨by dsimp only; omega, Nat.le_refl _, by dsimp only; omega, .of_ext (Ext.refl _), hD, Moved.refl .., Asc.one (Nat.le_refl _)⟩ ?_
  rintro ⟨q, i, M⟩ w3 ⟨h0, h1, h2, m3, D3, hM, hA⟩
  dsimp only at h0 h1 h2 D3 hM hA ⊢
  repeat (first | refine Vx ?_ | (apply Ops_q; (case hon => exact Va); (case hd => rfl); (case hq => exact YlA)) | refine Vr ?_ | refine Vt ?_ | refine Vf ?_ | refine Vm ?_ | refine Ve ?_ | refine Vo ?_ | refine Vz ?_ | refine Vn ?_)
  refine V_cond rfl (fun hg => ?_) (fun hg => ?_)
  · replace hg := of_decide_eq_true hg
    have hq : q < 5 := by omega
    repeat (first | refine Vx ?_ | (apply Ops_q; (case hon => exact Va); (case hd => rfl); (case hq => exact YlA)) | refine Vr ?_ | refine Vt ?_ | refine Vf ?_ | refine Vm ?_ | refine Ve ?_ | refine Vo ?_ | refine Vz ?_ | refine Vn ?_)
    refine V_loop (fun s : Nat => [(7, .int .i64 s), (8, .int .i64 q), (0, .slice (some ⟨g, 0, none⟩) n cap), (1, .int .i64 a), (2, .int .i64 b)])
      (fun s w' => Ext w3 w' ∧ a + 1 ≤ s ∧ s ≤ b ∧ Asc ltU M a s) (fun s => b - s) i (by repeat (first | exact trivial | refine ⟨rfl, ?_⟩)) ⟨Ext.refl _, h1, h2, hA⟩ ?_
    clear h1 h2 hA
    rintro i w3 ⟨x3, h1, h2, hA⟩
    have D3 := D3.ext x3
    have m3 := m3.ext x3
    have hMl := D3.len
    obtain ⟨p, rfl⟩ : ∃ p, i = p + 1 := ⟨i - 1, by omega⟩
    have hs1 : ((p + 1 : Nat) : Int) - 1 = (p : Int) := by omega
    obtain ⟨y, hy⟩ := D3.get (k := p) (by omega)
    have hcy := D3.at hy
    by_cases hib : p + 1 < b
    · have hd : decide (((p + 1 : Nat) : Int) < (b : Int)) = true := decide_eq_true (by omega)
      obtain ⟨x, hx⟩ := D3.get (k := p + 1) (by omega)
      have hcx := D3.at hx
      repeat (first | refine Vx ?_ | (apply Ops_q; (case hon => exact Va); (case hd => rfl); (case hq => exact YlA)) | refine Vr ?_ | refine Vt ?_ | refine Vf ?_ | refine Vm ?_ | refine Ve ?_ | refine Vo ?_ | refine Vz ?_ | refine Vn ?_)
      refine Ops_know rfl rfl hd ?_
      repeat (first | refine Vx ?_ | (apply Ops_q; (case hon => exact Va); (case hd => rfl); (case hq => exact YlA)) | refine Vr ?_ | refine Vt ?_ | refine Vf ?_ | refine Vm ?_ | refine Ve ?_ | refine Vo ?_ | refine Vz ?_ | refine Vn ?_)
      (apply Ops_q; (case hon => (exact Va)); (case hd => rfl); (case hq => exact Yl_indexS (j := (p+1)) rfl rfl (by omega)))
      repeat (first | refine Vx ?_ | (apply Ops_q; (case hon => exact Va); (case hd => rfl); (case hq => exact YlA)) | refine Vr ?_ | refine Vt ?_ | refine Vf ?_ | refine Vm ?_ | refine Ve ?_ | refine Vo ?_ | refine Vz ?_ | refine Vn ?_)
      rw [hs1]
      (apply Ops_q; (case hon => (exact Va)); (case hd => rfl); (case hq => exact Yl_indexS (j := p) rfl rfl (by omega)))
      repeat (first | refine Vx ?_ | (apply Ops_q; (case hon => exact Va); (case hd => rfl); (case hq => exact YlA)) | refine Vr ?_ | refine Vt ?_ | refine Vf ?_ | refine Vm ?_ | refine Ve ?_ | refine Vo ?_ | refine Vz ?_ | refine Vn ?_)
      (apply Ops_q; (case hon => (exact Va)); (case hd => rfl); (case hq => exact Yl_call rfl (fun w_ e_ => lessU_v x y w_)))
      repeat (first | refine Vx ?_ | (apply Ops_q; (case hon => exact Va); (case hd => rfl); (case hq => exact YlA)) | refine Vr ?_ | refine Vt ?_ | refine Vf ?_ | refine Vm ?_ | refine Ve ?_ | refine Vo ?_ | refine Vz ?_ | refine Vn ?_)
      refine V_cond rfl (fun hlt => ?_) (fun hlt => ?_)
      · replace hlt : ¬ltU x y < 0 := by
          have : ¬(x < y) := fun h => by simp [h] at hlt
          simp only [ltU]; omega
        repeat (first | refine Vx ?_ | (apply Ops_q; (case hon => exact Va); (case hd => rfl); (case hq => exact YlA)) | refine Vr ?_ | refine Vt ?_ | refine Vf ?_ | refine Vm ?_ | refine Ve ?_ | refine Vo ?_ | refine Vz ?_ | refine Vn ?_)
        refine ⟨p + 1 + 1, (by repeat (first | exact trivial | refine ⟨rfl, ?_⟩)), ⟨by assumption, by omega, by omega, (AscX.start hA).stop ordU (.inr ⟨x, y, hx, hy, hlt⟩)⟩, by omega⟩
      · replace hlt : ltU x y < 0 := by
          have : x < y := by
            by_cases h : x < y
            · exact h
            · simp [h] at hlt
          simp only [ltU]; omega
        repeat (first | refine Vx ?_ | (apply Ops_q; (case hon => exact Va); (case hd => rfl); (case hq => exact YlA)) | refine Vr ?_ | refine Vt ?_ | refine Vf ?_ | refine Vm ?_ | refine Ve ?_ | refine Vo ?_ | refine Vz ?_ | refine Vn ?_)
        refine V_no rfl (decide_eq_false (by omega : ¬((p + 1 : Nat) : Int) = (b : Int))) ?_
        repeat (first | refine Vx ?_ | (apply Ops_q; (case hon => exact Va); (case hd => rfl); (case hq => exact YlA)) | refine Vr ?_ | refine Vt ?_ | refine Vf ?_ | refine Vm ?_ | refine Ve ?_ | refine Vo ?_ | refine Vz ?_ | refine Vn ?_)
        refine V_cond rfl (fun h50 => ?_) (fun h50 => ?_)
        · repeat (first | refine Vx ?_ | (apply Ops_q; (case hon => exact Va); (case hd => rfl); (case hq => exact YlA)) | refine Vr ?_ | refine Vt ?_ | refine Vf ?_ | refine Vm ?_ | refine Ve ?_ | refine Vo ?_ | refine Vz ?_ | refine Vn ?_)
          refine ret1 (by first | exact .inl rfl | exact .inr rfl) rfl rfl ?_
          exact Does_mk (fun w' he => ⟨M, D3.ext he, false, rfl, hM, nofun⟩) m3
        repeat (first | refine Vx ?_ | (apply Ops_q; (case hon => exact Va); (case hd => rfl); (case hq => exact YlA)) | refine Vt ?_ | refine Vf ?_ | refine Vm ?_ | refine Ve ?_ | refine Vo ?_ | refine Vz ?_ | refine Vn ?_)
        refine V_store (R := fun w' => DatU w' base g n cap (M.set (p + 1) y) ∧ Mod (fun c => c = g) w3 w') 16 15 (fun _ _ he h => ⟨h.1.ext he, h.2.ext he⟩) (by kernel_rfl) rfl (by kernel_rfl) ?_
        repeat (first
          | (refine YsS.pure rfl rfl rfl rfl rfl (fun w_ => (by first | exact Yl_move rfl | exact Yl_pred rfl rfl (by omega) | exact Yl_arith_in rfl rfl rfl (by first | assumption | (simp only [InK]; omega)))) ?_)
          | (refine YsS.load rfl rfl rfl rfl rfl (by first | exact Yl_load rfl hcx | exact Yl_load rfl hcy) ?_))
        refine YsS.pure rfl rfl rfl rfl rfl (fun w_ => Yl_indexS (j := p) rfl rfl (by omega)) ?_
        repeat (first
          | (refine YsS.pure rfl rfl rfl rfl rfl (fun w_ => (by first | exact Yl_move rfl | exact Yl_pred rfl rfl (by omega) | exact Yl_arith_in rfl rfl rfl (by first | assumption | (simp only [InK]; omega)))) ?_)
          | (refine YsS.load rfl rfl rfl rfl rfl (by first | exact Yl_load rfl hcx | exact Yl_load rfl hcy) ?_))
        refine YsS.pure rfl rfl rfl rfl rfl (fun w_ => Yl_indexS (j := (p+1)) rfl rfl (by omega)) ?_
        repeat (first
          | (refine YsS.pure rfl rfl rfl rfl rfl (fun w_ => (by first | exact Yl_move rfl | exact Yl_pred rfl rfl (by omega) | exact Yl_arith_in rfl rfl rfl (by first | assumption | (simp only [InK]; omega)))) ?_)
          | (refine YsS.load rfl rfl rfl rfl rfl (by first | exact Yl_load rfl hcx | exact Yl_load rfl hcy) ?_))
        refine YsS.pure rfl rfl rfl rfl rfl (fun w_ => Yl_indexS (j := (p+1)) rfl rfl (by omega)) ?_
        refine YsS.nil rfl ⟨fun a_ ag_ w_ hw_ => storeDatU_run (i := p + 1) (v := y) rfl rfl rfl D3 (by omega) a_ ag_ w_ hw_, ?_⟩
        repeat (first
          | (refine YsS.pure rfl rfl rfl rfl rfl (fun w_ => (by first | exact Yl_move rfl | exact Yl_pred rfl rfl (by omega) | exact Yl_arith_in rfl rfl rfl (by first | assumption | (simp only [InK]; omega)))) ?_)
          | (refine YsS.load rfl rfl rfl rfl rfl (by first | exact Yl_load rfl hcx | exact Yl_load rfl hcy) ?_))
        refine YsS.nil rfl ?_
        rintro w4 ⟨D4, m4⟩
        repeat (first | refine Vx ?_ | (apply Ops_q; (case hon => exact Va); (case hd => rfl); (case hq => exact YlA)) | refine Vr ?_ | refine Vt ?_ | refine Vf ?_ | refine Vm ?_ | refine Ve ?_ | refine Vo ?_ | refine Vz ?_ | refine Vn ?_)
        (apply Ops_q; (case hon => (exact Va)); (case hd => rfl); (case hq => exact Yl_indexS (j := p) rfl rfl (by omega)))
        repeat (first | refine Vx ?_ | (apply Ops_q; (case hon => exact Va); (case hd => rfl); (case hq => exact YlA)) | refine Vr ?_ | refine Vt ?_ | refine Vf ?_ | refine Vm ?_ | refine Ve ?_ | refine Vo ?_ | refine Vz ?_ | refine Vn ?_)
        refine Ops_storeDatU (i := p) (v := x) (by exact Va) rfl rfl rfl D4 (by omega) ?_
        intro w5 D5 g5
        have m5 : Mod (BlkU g) w w5 := (m3.trans m4).grow g5 (fun b hb => .inl (by cases hb; rfl))
        have hsw : (M.set (p + 1) y).set p x = swp M (p + 1) p := by unfold swp; rw [hx, hy]
        rw [hsw] at D5
        have hM5 : Moved L (swp M (p + 1) p) a b := hM.trans (Moved.swp (by omega) (by omega) (by omega))
        have hA5 : AscX ltU (swp M (p + 1) p) a (p + 1 + 1) p := (AscX.start hA).step ordU (by omega) (by omega) (by omega) hx hy hlt
        clear hx hy hcx hcy hlt D3 m3 D4 m4 g5 hsw hA hM hMl
        generalize swp M (p + 1) p = M5 at *
        repeat (first | refine Vx ?_ | (apply Ops_q; (case hon => exact Va); (case hd => rfl); (case hq => exact YlA)) | refine Vr ?_ | refine Vt ?_ | refine Vf ?_ | refine Vm ?_ | refine Ve ?_ | refine Vo ?_ | refine Vz ?_ | refine Vn ?_)
        refine V_meet1 (fun M : List Int => [(7, .int .i64 (p + 1 : Nat)), (8, .int .i64 q), (0, .slice (some ⟨g, 0, none⟩) n cap), (1, .int .i64 a), (2, .int .i64 b)])
          (fun M w' => Mod (BlkU g) w w' ∧ DatU w' base g n cap M ∧ Moved L M a b ∧ Asc ltU M a (p + 1)) ?_ ?_
        · refine V_cond rfl (fun h2 => ?_) (fun h2 => ?_)
          · replace h2 := of_decide_eq_true h2
            repeat (first | refine Vx ?_ | (apply Ops_q; (case hon => exact Va); (case hd => rfl); (case hq => exact YlA)) | refine Vr ?_ | refine Vt ?_ | refine Vf ?_ | refine Vm ?_ | refine Ve ?_ | refine Vo ?_ | refine Vz ?_ | refine Vn ?_)
            rw [hs1]
            refine V_loop (fun s : Nat × List Int => [(9, .int .i64 s.1), (7, .int .i64 (p + 1 : Nat)), (8, .int .i64 q), (0, .slice (some ⟨g, 0, none⟩) n cap), (1, .int .i64 a), (2, .int .i64 b)])
              (fun s w' => a ≤ s.1 ∧ s.1 ≤ p ∧ Mod (BlkU g) w w' ∧ DatU w' base g n cap s.2 ∧ Moved L s.2 a b ∧ AscX ltU s.2 a (p + 1 + 1) s.1) (fun s => s.1) (p, M5) (by repeat (first | exact trivial | refine ⟨rfl, ?_⟩))
              ⟨by dsimp only; omega, Nat.le_refl _, m5, D5, hM5, hA5⟩ ?_
            clear m5 D5 hM5 hA5
            rintro ⟨j, M⟩ w3 ⟨h3, h4, m3, D3, hM, hA⟩
            dsimp only at h3 h4 D3 hM hA ⊢
            have hMl := D3.len
            repeat (first | refine Vx ?_ | (apply Ops_q; (case hon => exact Va); (case hd => rfl); (case hq => exact YlA)) | refine Vr ?_ | refine Vt ?_ | refine Vf ?_ | refine Vm ?_ | refine Ve ?_ | refine Vo ?_ | refine Vz ?_ | refine Vn ?_)
            refine V_cond rfl (fun hj => ?_) (fun hj => ?_)
            · replace hj := of_decide_eq_true hj
              obtain ⟨r, rfl⟩ : ∃ r, j = r + 1 := ⟨j - 1, by omega⟩
              have hs1 : ((r + 1 : Nat) : Int) - 1 = (r : Int) := by omega
              obtain ⟨x, hx⟩ := D3.get (k := r + 1) (by omega)
              obtain ⟨y, hy⟩ := D3.get (k := r) (by omega)
              have hcx := D3.at hx
              have hcy := D3.at hy
              repeat (first | refine Vx ?_ | (apply Ops_q; (case hon => exact Va); (case hd => rfl); (case hq => exact YlA)) | refine Vr ?_ | refine Vt ?_ | refine Vf ?_ | refine Vm ?_ | refine Ve ?_ | refine Vo ?_ | refine Vz ?_ | refine Vn ?_)
              (apply Ops_q; (case hon => (exact Va)); (case hd => rfl); (case hq => exact Yl_indexS (j := (r+1)) rfl rfl (by omega)))
              repeat (first | refine Vx ?_ | (apply Ops_q; (case hon => exact Va); (case hd => rfl); (case hq => exact YlA)) | refine Vr ?_ | refine Vt ?_ | refine Vf ?_ | refine Vm ?_ | refine Ve ?_ | refine Vo ?_ | refine Vz ?_ | refine Vn ?_)
              rw [hs1]
              (apply Ops_q; (case hon => (exact Va)); (case hd => rfl); (case hq => exact Yl_indexS (j := r) rfl rfl (by omega)))
              repeat (first | refine Vx ?_ | (apply Ops_q; (case hon => exact Va); (case hd => rfl); (case hq => exact YlA)) | refine Vr ?_ | refine Vt ?_ | refine Vf ?_ | refine Vm ?_ | refine Ve ?_ | refine Vo ?_ | refine Vz ?_ | refine Vn ?_)
              (apply Ops_q; (case hon => (exact Va)); (case hd => rfl); (case hq => exact Yl_call rfl (fun w_ e_ => lessU_v x y w_)))
              repeat (first | refine Vx ?_ | (apply Ops_q; (case hon => exact Va); (case hd => rfl); (case hq => exact YlA)) | refine Vr ?_ | refine Vt ?_ | refine Vf ?_ | refine Vm ?_ | refine Ve ?_ | refine Vo ?_ | refine Vz ?_ | refine Vn ?_)
              refine V_cond rfl (fun hlt => ?_) (fun hlt => ?_)
              · replace hlt : ¬ltU x y < 0 := by
                  have : ¬(x < y) := fun h => by simp [h] at hlt
                  simp only [ltU]; omega
                repeat (first | refine Vx ?_ | (apply Ops_q; (case hon => exact Va); (case hd => rfl); (case hq => exact YlA)) | refine Vr ?_ | refine Vt ?_ | refine Vf ?_ | refine Vm ?_ | refine Ve ?_ | refine Vo ?_ | refine Vz ?_ | refine Vn ?_)
                exact ⟨M, (by repeat (first | exact trivial | refine ⟨rfl, ?_⟩)), m3, D3, hM, (hA.stop ordU (.inr ⟨x, y, hx, hy, hlt⟩)).part (Nat.le_refl _) (by omega)⟩
              · replace hlt : ltU x y < 0 := by
                  have : x < y := by
                    by_cases h : x < y
                    · exact h
                    · simp [h] at hlt
                  simp only [ltU]; omega
                have har : a ≤ r := by
                  rcases Nat.lt_or_ge r a with h | h
                  · exact absurd hlt ((hp.moved' hM (Nat.le_refl _)) r (r + 1) y x (Nat.zero_le _) h h3 (by omega) hy hx)
                  · exact h
                repeat (first | refine Vx ?_ | (apply Ops_q; (case hon => exact Va); (case hd => rfl); (case hq => exact YlA)) | refine Vt ?_ | refine Vf ?_ | refine Vm ?_ | refine Ve ?_ | refine Vo ?_ | refine Vz ?_ | refine Vn ?_)
                refine V_store (R := fun w' => DatU w' base g n cap (M.set (r + 1) y) ∧ Mod (fun c => c = g) w3 w') 16 15 (fun _ _ he h => ⟨h.1.ext he, h.2.ext he⟩) (by kernel_rfl) rfl (by kernel_rfl) ?_
                repeat (first
                  | (refine YsS.pure rfl rfl rfl rfl rfl (fun w_ => (by first | exact Yl_move rfl | exact Yl_pred rfl rfl (by omega) | exact Yl_arith_in rfl rfl rfl (by first | assumption | (simp only [InK]; omega)))) ?_)
                  | (refine YsS.load rfl rfl rfl rfl rfl (by first | exact Yl_load rfl hcx | exact Yl_load rfl hcy) ?_))
                refine YsS.pure rfl rfl rfl rfl rfl (fun w_ => Yl_indexS (j := r) rfl rfl (by omega)) ?_
                repeat (first
                  | (refine YsS.pure rfl rfl rfl rfl rfl (fun w_ => (by first | exact Yl_move rfl | exact Yl_pred rfl rfl (by omega) | exact Yl_arith_in rfl rfl rfl (by first | assumption | (simp only [InK]; omega)))) ?_)
                  | (refine YsS.load rfl rfl rfl rfl rfl (by first | exact Yl_load rfl hcx | exact Yl_load rfl hcy) ?_))
                refine YsS.pure rfl rfl rfl rfl rfl (fun w_ => Yl_indexS (j := (r+1)) rfl rfl (by omega)) ?_
                repeat (first
                  | (refine YsS.pure rfl rfl rfl rfl rfl (fun w_ => (by first | exact Yl_move rfl | exact Yl_pred rfl rfl (by omega) | exact Yl_arith_in rfl rfl rfl (by first | assumption | (simp only [InK]; omega)))) ?_)
                  | (refine YsS.load rfl rfl rfl rfl rfl (by first | exact Yl_load rfl hcx | exact Yl_load rfl hcy) ?_))
                refine YsS.pure rfl rfl rfl rfl rfl (fun w_ => Yl_indexS (j := (r+1)) rfl rfl (by omega)) ?_
                refine YsS.nil rfl ⟨fun a_ ag_ w_ hw_ => storeDatU_run (i := r + 1) (v := y) rfl rfl rfl D3 (by omega) a_ ag_ w_ hw_, ?_⟩
                repeat (first
                  | (refine YsS.pure rfl rfl rfl rfl rfl (fun w_ => (by first | exact Yl_move rfl | exact Yl_pred rfl rfl (by omega) | exact Yl_arith_in rfl rfl rfl (by first | assumption | (simp only [InK]; omega)))) ?_)
                  | (refine YsS.load rfl rfl rfl rfl rfl (by first | exact Yl_load rfl hcx | exact Yl_load rfl hcy) ?_))
                refine YsS.nil rfl ?_
                rintro w4 ⟨D4, m4⟩
                repeat (first | refine Vx ?_ | (apply Ops_q; (case hon => exact Va); (case hd => rfl); (case hq => exact YlA)) | refine Vr ?_ | refine Vt ?_ | refine Vf ?_ | refine Vm ?_ | refine Ve ?_ | refine Vo ?_ | refine Vz ?_ | refine Vn ?_)
                (apply Ops_q; (case hon => (exact Va)); (case hd => rfl); (case hq => exact Yl_indexS (j := r) rfl rfl (by omega)))
                repeat (first | refine Vx ?_ | (apply Ops_q; (case hon => exact Va); (case hd => rfl); (case hq => exact YlA)) | refine Vr ?_ | refine Vt ?_ | refine Vf ?_ | refine Vm ?_ | refine Ve ?_ | refine Vo ?_ | refine Vz ?_ | refine Vn ?_)
                refine Ops_storeDatU (i := r) (v := x) (by exact Va) rfl rfl rfl D4 (by omega) ?_
                intro w5 D5 g5
                have m5 : Mod (BlkU g) w w5 := (m3.trans m4).grow g5 (fun b hb => .inl (by cases hb; rfl))
                have hsw : (M.set (r + 1) y).set r x = swp M (r + 1) r := by unfold swp; rw [hx, hy]
                rw [hsw] at D5
                repeat (first | refine Vx ?_ | (apply Ops_q; (case hon => exact Va); (case hd => rfl); (case hq => exact YlA)) | refine Vr ?_ | refine Vt ?_ | refine Vf ?_ | refine Vm ?_ | refine Ve ?_ | refine Vo ?_ | refine Vz ?_ | refine Vn ?_)
                rw [hs1]
                refine ⟨(r, swp M (r + 1) r), (by repeat (first | exact trivial | refine ⟨rfl, ?_⟩)), ⟨har, by dsimp only; omega, m5, D5, hM.trans (Moved.swp (by omega) (by omega) (by omega)), hA.step ordU har (by omega) (by omega) hx hy hlt⟩, by simp only; omega⟩
            · replace hj := of_decide_eq_false hj
              repeat (first | refine Vx ?_ | (apply Ops_q; (case hon => exact Va); (case hd => rfl); (case hq => exact YlA)) | refine Vr ?_ | refine Vt ?_ | refine Vf ?_ | refine Vm ?_ | refine Ve ?_ | refine Vo ?_ | refine Vz ?_ | refine Vn ?_)
              exact ⟨M, (by repeat (first | exact trivial | refine ⟨rfl, ?_⟩)), m3, D3, hM, (hA.stop ordU (.inl (by omega))).part (Nat.le_refl _) (by omega)⟩
          · replace h2 := of_decide_eq_false h2
            repeat (first | refine Vx ?_ | (apply Ops_q; (case hon => exact Va); (case hd => rfl); (case hq => exact YlA)) | refine Vr ?_ | refine Vt ?_ | refine Vf ?_ | refine Vm ?_ | refine Ve ?_ | refine Vo ?_ | refine Vz ?_ | refine Vn ?_)
            exact ⟨M5, (by repeat (first | exact trivial | refine ⟨rfl, ?_⟩)), m5, D5, hM5, Asc.one (by omega)⟩
        clear m5 D5 hM5 hA5
        rintro M w3 ⟨m3, D3, hM, hA⟩
        repeat (first | refine Vx ?_ | (apply Ops_q; (case hon => exact Va); (case hd => rfl); (case hq => exact YlA)) | refine Vr ?_ | refine Vt ?_ | refine Vf ?_ | refine Vm ?_ | refine Ve ?_ | refine Vo ?_ | refine Vz ?_ | refine Vn ?_)
        refine V_cond rfl (fun h2 => ?_) (fun h2 => ?_)
        · replace h2 := of_decide_eq_true h2
          repeat (first | refine Vx ?_ | (apply Ops_q; (case hon => exact Va); (case hd => rfl); (case hq => exact YlA)) | refine Vr ?_ | refine Vt ?_ | refine Vf ?_ | refine Vm ?_ | refine Ve ?_ | refine Vo ?_ | refine Vz ?_ | refine Vn ?_)
          refine V_loop (fun s : Nat × List Int => [(10, .int .i64 s.1), (7, .int .i64 (p + 1 : Nat)), (8, .int .i64 q), (0, .slice (some ⟨g, 0, none⟩) n cap), (1, .int .i64 a), (2, .int .i64 b)])
            (fun s w' => p + 2 ≤ s.1 ∧ s.1 ≤ b ∧ Mod (BlkU g) w w' ∧ DatU w' base g n cap s.2 ∧ Moved L s.2 a b ∧ Asc ltU s.2 a (p + 1)) (fun s => b - s.1) (p + 2, M) (by repeat (first | exact trivial | refine ⟨rfl, ?_⟩))
            ⟨Nat.le_refl _, by dsimp only; omega, m3, D3, hM, hA⟩ ?_
          clear m3 D3 hM hA
          rintro ⟨j, M⟩ w3 ⟨h3, h4, m3, D3, hM, hA⟩
          dsimp only at h3 h4 D3 hM hA ⊢
          have hMl := D3.len
          repeat (first | refine Vx ?_ | (apply Ops_q; (case hon => exact Va); (case hd => rfl); (case hq => exact YlA)) | refine Vr ?_ | refine Vt ?_ | refine Vf ?_ | refine Vm ?_ | refine Ve ?_ | refine Vo ?_ | refine Vz ?_ | refine Vn ?_)
          refine V_cond rfl (fun hj => ?_) (fun hj => ?_)
          · replace hj := of_decide_eq_true hj
            obtain ⟨r, rfl⟩ : ∃ r, j = r + 1 := ⟨j - 1, by omega⟩
            have hs1 : ((r + 1 : Nat) : Int) - 1 = (r : Int) := by omega
            obtain ⟨x, hx⟩ := D3.get (k := r + 1) (by omega)
            obtain ⟨y, hy⟩ := D3.get (k := r) (by omega)
            have hcx := D3.at hx
            have hcy := D3.at hy
            repeat (first | refine Vx ?_ | (apply Ops_q; (case hon => exact Va); (case hd => rfl); (case hq => exact YlA)) | refine Vr ?_ | refine Vt ?_ | refine Vf ?_ | refine Vm ?_ | refine Ve ?_ | refine Vo ?_ | refine Vz ?_ | refine Vn ?_)
            (apply Ops_q; (case hon => (exact Va)); (case hd => rfl); (case hq => exact Yl_indexS (j := (r+1)) rfl rfl (by omega)))
            repeat (first | refine Vx ?_ | (apply Ops_q; (case hon => exact Va); (case hd => rfl); (case hq => exact YlA)) | refine Vr ?_ | refine Vt ?_ | refine Vf ?_ | refine Vm ?_ | refine Ve ?_ | refine Vo ?_ | refine Vz ?_ | refine Vn ?_)
            rw [hs1]
            (apply Ops_q; (case hon => (exact Va)); (case hd => rfl); (case hq => exact Yl_indexS (j := r) rfl rfl (by omega)))
            repeat (first | refine Vx ?_ | (apply Ops_q; (case hon => exact Va); (case hd => rfl); (case hq => exact YlA)) | refine Vr ?_ | refine Vt ?_ | refine Vf ?_ | refine Vm ?_ | refine Ve ?_ | refine Vo ?_ | refine Vz ?_ | refine Vn ?_)
            (apply Ops_q; (case hon => (exact Va)); (case hd => rfl); (case hq => exact Yl_call rfl (fun w_ e_ => lessU_v x y w_)))
            repeat (first | refine Vx ?_ | (apply Ops_q; (case hon => exact Va); (case hd => rfl); (case hq => exact YlA)) | refine Vr ?_ | refine Vt ?_ | refine Vf ?_ | refine Vm ?_ | refine Ve ?_ | refine Vo ?_ | refine Vz ?_ | refine Vn ?_)
            refine V_cond rfl (fun hlt => ?_) (fun hlt => ?_)
            · repeat (first | refine Vx ?_ | (apply Ops_q; (case hon => exact Va); (case hd => rfl); (case hq => exact YlA)) | refine Vr ?_ | refine Vt ?_ | refine Vf ?_ | refine Vm ?_ | refine Ve ?_ | refine Vo ?_ | refine Vz ?_ | refine Vn ?_)
              exact ⟨(q + 1, p + 1, M), (by repeat (first | exact trivial | refine ⟨rfl, ?_⟩)), ⟨by dsimp only; omega, by assumption, by assumption, m3, D3, hM, hA⟩, by simp only; omega⟩
            · repeat (first | refine Vx ?_ | (apply Ops_q; (case hon => exact Va); (case hd => rfl); (case hq => exact YlA)) | refine Vt ?_ | refine Vf ?_ | refine Vm ?_ | refine Ve ?_ | refine Vo ?_ | refine Vz ?_ | refine Vn ?_)
              refine V_store (R := fun w' => DatU w' base g n cap (M.set (r + 1) y) ∧ Mod (fun c => c = g) w3 w') 16 15 (fun _ _ he h => ⟨h.1.ext he, h.2.ext he⟩) (by kernel_rfl) rfl (by kernel_rfl) ?_
              repeat (first
                | (refine YsS.pure rfl rfl rfl rfl rfl (fun w_ => (by first | exact Yl_move rfl | exact Yl_pred rfl rfl (by omega) | exact Yl_arith_in rfl rfl rfl (by first | assumption | (simp only [InK]; omega)))) ?_)
                | (refine YsS.load rfl rfl rfl rfl rfl (by first | exact Yl_load rfl hcx | exact Yl_load rfl hcy) ?_))
              refine YsS.pure rfl rfl rfl rfl rfl (fun w_ => Yl_indexS (j := r) rfl rfl (by omega)) ?_
              repeat (first
                | (refine YsS.pure rfl rfl rfl rfl rfl (fun w_ => (by first | exact Yl_move rfl | exact Yl_pred rfl rfl (by omega) | exact Yl_arith_in rfl rfl rfl (by first | assumption | (simp only [InK]; omega)))) ?_)
                | (refine YsS.load rfl rfl rfl rfl rfl (by first | exact Yl_load rfl hcx | exact Yl_load rfl hcy) ?_))
              refine YsS.pure rfl rfl rfl rfl rfl (fun w_ => Yl_indexS (j := (r+1)) rfl rfl (by omega)) ?_
              repeat (first
                | (refine YsS.pure rfl rfl rfl rfl rfl (fun w_ => (by first | exact Yl_move rfl | exact Yl_pred rfl rfl (by omega) | exact Yl_arith_in rfl rfl rfl (by first | assumption | (simp only [InK]; omega)))) ?_)
                | (refine YsS.load rfl rfl rfl rfl rfl (by first | exact Yl_load rfl hcx | exact Yl_load rfl hcy) ?_))
              refine YsS.pure rfl rfl rfl rfl rfl (fun w_ => Yl_indexS (j := (r+1)) rfl rfl (by omega)) ?_
              refine YsS.nil rfl ⟨fun a_ ag_ w_ hw_ => storeDatU_run (i := r + 1) (v := y) rfl rfl rfl D3 (by omega) a_ ag_ w_ hw_, ?_⟩
              repeat (first
                | (refine YsS.pure rfl rfl rfl rfl rfl (fun w_ => (by first | exact Yl_move rfl | exact Yl_pred rfl rfl (by omega) | exact Yl_arith_in rfl rfl rfl (by first | assumption | (simp only [InK]; omega)))) ?_)
                | (refine YsS.load rfl rfl rfl rfl rfl (by first | exact Yl_load rfl hcx | exact Yl_load rfl hcy) ?_))
              refine YsS.nil rfl ?_
              rintro w4 ⟨D4, m4⟩
              repeat (first | refine Vx ?_ | (apply Ops_q; (case hon => exact Va); (case hd => rfl); (case hq => exact YlA)) | refine Vr ?_ | refine Vt ?_ | refine Vf ?_ | refine Vm ?_ | refine Ve ?_ | refine Vo ?_ | refine Vz ?_ | refine Vn ?_)
              (apply Ops_q; (case hon => (exact Va)); (case hd => rfl); (case hq => exact Yl_indexS (j := r) rfl rfl (by omega)))
              repeat (first | refine Vx ?_ | (apply Ops_q; (case hon => exact Va); (case hd => rfl); (case hq => exact YlA)) | refine Vr ?_ | refine Vt ?_ | refine Vf ?_ | refine Vm ?_ | refine Ve ?_ | refine Vo ?_ | refine Vz ?_ | refine Vn ?_)
              refine Ops_storeDatU (i := r) (v := x) (by exact Va) rfl rfl rfl D4 (by omega) ?_
              intro w5 D5 g5
              have m5 : Mod (BlkU g) w w5 := (m3.trans m4).grow g5 (fun b hb => .inl (by cases hb; rfl))
              have hsw : (M.set (r + 1) y).set r x = swp M (r + 1) r := by unfold swp; rw [hx, hy]
              rw [hsw] at D5
              repeat (first | refine Vx ?_ | (apply Ops_q; (case hon => exact Va); (case hd => rfl); (case hq => exact YlA)) | refine Vr ?_ | refine Vt ?_ | refine Vf ?_ | refine Vm ?_ | refine Ve ?_ | refine Vo ?_ | refine Vz ?_ | refine Vn ?_)
              have hs := Moved.swp (L := M) (i := r + 1) (j := r) (a := p + 1) (b := b) (by omega) (by omega) (by omega)
              refine ⟨(r + 1 + 1, swp M (r + 1) r), (by repeat (first | exact trivial | refine ⟨rfl, ?_⟩)), ⟨by dsimp only; omega, by dsimp only; omega, m5, D5, hM.trans (hs.wide (by omega) (Nat.le_refl _)), hA.same fun k _ hk => hs.out k (.inl hk)⟩, by simp only; omega⟩
          · repeat (first | refine Vx ?_ | (apply Ops_q; (case hon => exact Va); (case hd => rfl); (case hq => exact YlA)) | refine Vr ?_ | refine Vt ?_ | refine Vf ?_ | refine Vm ?_ | refine Ve ?_ | refine Vo ?_ | refine Vz ?_ | refine Vn ?_)
            exact ⟨(q + 1, p + 1, M), (by repeat (first | exact trivial | refine ⟨rfl, ?_⟩)), ⟨by dsimp only; omega, by assumption, by assumption, m3, D3, hM, hA⟩, by simp only; omega⟩
        · repeat (first | refine Vx ?_ | (apply Ops_q; (case hon => exact Va); (case hd => rfl); (case hq => exact YlA)) | refine Vr ?_ | refine Vt ?_ | refine Vf ?_ | refine Vm ?_ | refine Ve ?_ | refine Vo ?_ | refine Vz ?_ | refine Vn ?_)
          exact ⟨(q + 1, p + 1, M), (by repeat (first | exact trivial | refine ⟨rfl, ?_⟩)), ⟨by dsimp only; omega, by assumption, by assumption, m3, D3, hM, hA⟩, by simp only; omega⟩
    · have hd : decide (((p + 1 : Nat) : Int) < (b : Int)) = false := decide_eq_false (by omega)
      repeat (first | refine Vx ?_ | (apply Ops_q; (case hon => exact Va); (case hd => rfl); (case hq => exact YlA)) | refine Vr ?_ | refine Vt ?_ | refine Vf ?_ | refine Vm ?_ | refine Ve ?_ | refine Vo ?_ | refine Vz ?_ | refine Vn ?_)
      refine Ops_know rfl rfl hd ?_
      repeat (first | refine Vx ?_ | (apply Ops_q; (case hon => exact Va); (case hd => rfl); (case hq => exact YlA)) | refine Vr ?_ | refine Vt ?_ | refine Vf ?_ | refine Vm ?_ | refine Ve ?_ | refine Vo ?_ | refine Vz ?_ | refine Vn ?_)
      refine V_yes rfl (decide_eq_true (by omega : ((p + 1 : Nat) : Int) = (b : Int))) ?_
      repeat (first | refine Vx ?_ | (apply Ops_q; (case hon => exact Va); (case hd => rfl); (case hq => exact YlA)) | refine Vr ?_ | refine Vt ?_ | refine Vf ?_ | refine Vm ?_ | refine Ve ?_ | refine Vo ?_ | refine Vz ?_ | refine Vn ?_)
      refine ret1 (by first | exact .inl rfl | exact .inr rfl) rfl rfl ?_
      obtain rfl : b = p + 1 := by omega
      exact Does_mk (fun w' he => ⟨M, D3.ext he, true, rfl, hM, fun _ => hA⟩) m3
  · repeat (first | refine Vx ?_ | (apply Ops_q; (case hon => exact Va); (case hd => rfl); (case hq => exact YlA)) | refine Vr ?_ | refine Vt ?_ | refine Vf ?_ | refine Vm ?_ | refine Ve ?_ | refine Vo ?_ | refine Vz ?_ | refine Vn ?_)
    refine ret1 (by first | exact .inl rfl | exact .inr rfl) rfl rfl ?_
    exact Does_mk (fun w' he => ⟨M, D3.ext he, false, rfl, hM, nofun⟩) m3
end
end Go.Proofs.Ytjpnaofoeeegeaa


/-
  Sorting in plain lists, what Sort needs beyond insertion: heaps, partitions, the state of the outer loop.
  No conditions beyond those that each statement names.
-/
namespace Go.Proofs.Ytjpnaofoeeegeaa

section
variable {α : Type} {L L' M M' : List α} {a b i j n r f lo : Nat} {cf : α → α → Int}
/-- A heap from the place lo on, but for what stands at r. -/
structure HeapX (cf : α → α → Int) (L : List α) (f lo n r : Nat) : Prop where
  kids : ∀ i c x y, lo ≤ i → i ≠ r → (c = 2 * i + 1 ∨ c = 2 * i + 2) → c < n → L[f + i]? = some x → L[f + c]? = some y → ¬cf x y < 0
  grand : ∀ p c x y, lo ≤ p → (r = 2 * p + 1 ∨ r = 2 * p + 2) → (c = 2 * r + 1 ∨ c = 2 * r + 2) → c < n → L[f + p]? = some x → L[f + c]? = some y → ¬cf x y < 0
def Heap (cf : α → α → Int) (L : List α) (f lo n : Nat) : Prop := ∀ i c x y, lo ≤ i → (c = 2 * i + 1 ∨ c = 2 * i + 2) → c < n → L[f + i]? = some x → L[f + c]? = some y → ¬cf x y < 0
theorem HeapX.leaf (h : HeapX cf L f lo n r) (hr : n ≤ 2 * r + 1) : Heap cf L f lo n := fun i c x y h1 h2 h3 hx hy => h.kids i c x y h1 (by omega) h2 h3 hx hy
theorem HeapX.stop (ho : Ord cf) (h : HeapX cf L f lo n r) {x y : α} (hx : L[f + r]? = some x) (hlt : ¬cf x y < 0) (hmax : ∀ c z, (c = 2 * r + 1 ∨ c = 2 * r + 2) → c < n → L[f + c]? = some z → ¬cf y z < 0) : Heap cf L f lo n := by
  intro i c u v h1 h2 h3 hu hv
  by_cases e : i = r
  · subst e
    rw [hx] at hu; cases hu
    exact ho.tr _ _ _ (hmax c v h2 h3 hv) hlt
  · exact h.kids i c u v h1 e h2 h3 hu hv
theorem HeapX.step (ho : Ord cf) (h : HeapX cf L f lo n r) {c : Nat} (hr : lo ≤ r) (hc : c = 2 * r + 1 ∨ c = 2 * r + 2) (hcn : c < n) (hl : f + n ≤ L.length) {x y : α} (hx : L[f + r]? = some x) (hy : L[f + c]? = some y) (hlt : cf x y < 0)
    (hmax : ∀ c z, (c = 2 * r + 1 ∨ c = 2 * r + 2) → c < n → L[f + c]? = some z → ¬cf y z < 0) : HeapX cf (swp L (f + r) (f + c)) f lo n c := by
  have g := swp_get (L := L) (i := f + r) (j := f + c) (by omega) (by omega)
  refine ⟨fun i d u v h1 h2 h3 h4 hu hv => ?_, fun p d u v h1 h2 h3 h4 hu hv => ?_⟩
  · rw [g] at hu hv
    rw [if_neg (by omega)] at hu
    by_cases e1 : i = r
    · subst e1
      rw [if_pos rfl, hy] at hu; cases hu
      by_cases e2 : d = c
      · rw [if_pos (by omega), hx] at hv; cases hv
        exact ho.tot _ _ hlt
      · rw [if_neg (by omega), if_neg (by omega)] at hv
        exact hmax d v h3 h4 hv
    · rw [if_neg (by omega)] at hu
      rw [if_neg (by omega)] at hv
      by_cases e2 : d = r
      · rw [if_pos (by omega), hy] at hv; cases hv
        exact h.grand i c u y h1 (by omega) hc hcn hu hy
      · rw [if_neg (by omega)] at hv
        exact h.kids i d u v h1 e1 h3 h4 hu hv
  · obtain rfl : p = r := by omega
    rw [g, if_neg (by omega), if_pos rfl, hy] at hu; cases hu
    rw [g, if_neg (by omega), if_neg (by omega)] at hv
    exact h.kids c d y v (by omega) (by omega) h3 h4 hy hv
theorem Heap.next (h : Heap cf L f (r + 1) n) : HeapX cf L f r n r := ⟨fun i c x y h1 h2 h3 h4 hx hy => h i c x y (by omega) h3 h4 hx hy, fun p c x y h1 h2 => by omega⟩
theorem Heap.none (h : n ≤ 2 * lo + 1) : Heap cf L f lo n := fun i c x y h1 h2 h3 => by omega
theorem Heap.top (ho : Ord cf) (h : Heap cf L f 0 n) (hl : f + n ≤ L.length) {x : α} (hx : L[f]? = some x) : ∀ k y, k < n → L[f + k]? = some y → ¬cf x y < 0 := by
  intro k
  induction k using Nat.strongRecOn with
  | ind k ih =>
    intro y hk hy
    by_cases e : k = 0
    · subst e
      rw [Nat.add_zero, hx] at hy; cases hy
      exact fun hh => ho.tot _ _ hh hh
    · have hz : L[f + (k - 1) / 2]? = some (L[f + (k - 1) / 2]'(by omega)) := List.getElem?_eq_getElem _
      exact ho.tr _ _ _ (h ((k - 1) / 2) k _ y (Nat.zero_le _) (by omega) hk hz hy) (ih ((k - 1) / 2) (by omega) _ (by omega) hz)
/-- The second phase of a heap sort: the first k elements are a heap, the others are in order and not less. -/
structure HSt (cf : α → α → Int) (L : List α) (f k b : Nat) : Prop where
  heap : Heap cf L f 0 k
  asc : Asc cf L (f + k) b
  below : Below2 cf L f (f + k) (f + k) b
theorem HSt.start (h : Heap cf L f 0 n) (hb : b = f + n) : HSt cf L f n b := ⟨h, Asc.one (by omega), fun i j x y h1 h2 h3 h4 => by omega⟩
theorem HSt.swap (ho : Ord cf) {k : Nat} (h : HSt cf L f (k + 1) b) (hb : f + k < b) (hl : b ≤ L.length) :
    HeapX cf (swp L f (f + k)) f 0 k 0 ∧ Asc cf (swp L f (f + k)) (f + k) b ∧ Below2 cf (swp L f (f + k)) f (f + k) (f + k) b := by
  have g := swp_get (L := L) (i := f) (j := f + k) (by omega) (by omega)
  have hx : L[f]? = some (L[f]'(by omega)) := List.getElem?_eq_getElem _
  generalize L[f]'(by omega) = x at hx
  have ht := h.heap.top ho (by omega) hx
  have hb2 := h.below
  refine ⟨⟨fun i c u v h1 h2 h3 h4 hu hv => ?_, fun p c u v h1 h2 => by omega⟩, fun i j u v h1 h2 h3 hu hv => ?_, fun i j u v h1 h2 h3 h4 hu hv => ?_⟩
  · rw [g, if_neg (by omega), if_neg (by omega)] at hu hv
    exact h.heap i c u v h1 h3 (by omega) hu hv
  · rw [g, if_neg (by omega), if_neg (by omega)] at hv
    rw [g] at hu
    by_cases e : i = f + k
    · rw [if_pos e] at hu
      exact hb2 f j u v (by omega) (by omega) (by omega) h3 hu hv
    · rw [if_neg e, if_neg (by omega)] at hu
      exact h.asc i j u v (by omega) h2 h3 hu hv
  · have hu' : ∃ i', f ≤ i' ∧ i' < f + (k + 1) ∧ L[i']? = some u := by
      rw [g, if_neg (by omega)] at hu
      by_cases e : i = f
      · rw [if_pos e] at hu; exact ⟨_, by omega, by omega, hu⟩
      · rw [if_neg e] at hu; exact ⟨_, by omega, by omega, hu⟩
    obtain ⟨i', p1, p2, p3⟩ := hu'
    rw [g] at hv
    by_cases e : j = f + k
    · rw [if_pos e, hx] at hv; cases hv
      obtain ⟨q, rfl⟩ : ∃ q, i' = f + q := ⟨i' - f, by omega⟩
      exact ht q u (by omega) p3
    · rw [if_neg e, if_neg (by omega)] at hv
      exact hb2 i' j u v p1 p2 (by omega) h4 p3 hv
theorem HSt.next {k : Nat} (h1 : Heap cf L' f 0 k) (h2 : Asc cf L (f + k) b) (h3 : Below2 cf L f (f + k) (f + k) b) (hm : Moved L L' f (f + k)) : HSt cf L' f k b :=
  ⟨h1, h2.same fun x hx _ => hm.out x (.inr hx), h3.moved hm (Nat.le_refl _)⟩
/-! ### Partitions -/
structure PtS (P Q : α → Prop) (M : List α) (a i j b : Nat) : Prop where
  left : ∀ k x, a < k → k < i → M[k]? = some x → P x
  right : ∀ k x, j < k → k < b → M[k]? = some x → Q x
section
variable {P Q : α → Prop}
theorem PtS.start (h : j + 1 = b) : PtS P Q M a (a + 1) j b := ⟨fun k x h1 h2 => by omega, fun k x h1 h2 => by omega⟩
theorem PtS.inc (h : PtS P Q M a i j b) {x : α} (hx : M[i]? = some x) (hp : P x) : PtS P Q M a (i + 1) j b := ⟨fun k y h1 h2 hy => by
  by_cases e : k = i
  · subst e; rw [hx] at hy; cases hy; exact hp
  · exact h.left k y h1 (by omega) hy, h.right⟩
theorem PtS.dec (h : PtS P Q M a i (j + 1) b) {x : α} (hx : M[j + 1]? = some x) (hq : Q x) : PtS P Q M a i j b := ⟨h.left, fun k y h1 h2 hy => by
  by_cases e : k = j + 1
  · subst e; rw [hx] at hy; cases hy; exact hq
  · exact h.right k y (by omega) h2 hy⟩
theorem PtS.swap (h : PtS P Q M a i (j + 1) b) (hij : i < j + 1) (hl : j + 1 < M.length) {x y : α} (hx : M[i]? = some x) (hy : M[j + 1]? = some y) (hq : Q x) (hp : P y) : PtS P Q (swp M i (j + 1)) a (i + 1) j b := by
  have g := swp_get (L := M) (i := i) (j := j + 1) (by omega) (by omega)
  refine ⟨fun k z h1 h2 hz => ?_, fun k z h1 h2 hz => ?_⟩
  · rw [g, if_neg (by omega)] at hz
    by_cases e : k = i
    · rw [if_pos e, hy] at hz; cases hz; exact hp
    · rw [if_neg e] at hz; exact h.left k z h1 (by omega) hz
  · rw [g] at hz
    by_cases e : k = j + 1
    · rw [if_pos e, hx] at hz; cases hz; exact hq
    · rw [if_neg e, if_neg (by omega)] at hz; exact h.right k z (by omega) h2 hz
end
theorem part_end (ho : Ord cf) {pv : α} (h : PtS (fun x => cf x pv < 0) (fun x => ¬cf x pv < 0) M a (j + 1) j b) (hp : M[a]? = some pv) (haj : a ≤ j) (hj : j < M.length) :
    Below2 cf (swp M j a) a j j b ∧ Below2 cf (swp M j a) a (j + 1) (j + 1) b := by
  have g := swp_get (L := M) (i := j) (j := a) hj (by omega)
  have hl : ∀ k x, a ≤ k → k < j → (swp M j a)[k]? = some x → cf x pv < 0 := fun k x h1 h2 hx => by
    rw [g] at hx
    by_cases e : k = a
    · rw [if_pos e] at hx; exact h.left j x (by omega) (by omega) hx
    · rw [if_neg e, if_neg (by omega)] at hx; exact h.left k x (by omega) (by omega) hx
  have hm : ∀ x, (swp M j a)[j]? = some x → x = pv := fun x hx => by
    rw [g] at hx
    by_cases e : j = a
    · rw [if_pos e, e, hp] at hx; exact (Option.some.inj hx).symm
    · rw [if_neg e, if_pos rfl, hp] at hx; exact (Option.some.inj hx).symm
  have hr : ∀ k x, j < k → k < b → (swp M j a)[k]? = some x → ¬cf x pv < 0 := fun k x h1 h2 hx => by
    rw [g, if_neg (by omega), if_neg (by omega)] at hx; exact h.right k x h1 h2 hx
  have irr : ∀ x, ¬cf x x < 0 := fun x hh => ho.tot _ _ hh hh
  refine ⟨fun i k x y h1 h2 h3 h4 hx hy => ?_, fun i k x y h1 h2 h3 h4 hx hy => ?_⟩
  · by_cases e : k = j
    · subst e; rw [hm y hy]; exact ho.tot _ _ (hl i x h1 h2 hx)
    · exact ho.tr _ _ _ (ho.tot _ _ (hl i x h1 h2 hx)) (hr k y (by omega) h4 hy)
  · by_cases e : i = j
    · subst e; rw [hm x hx]; exact hr k y (by omega) h4 hy
    · exact ho.tr _ _ _ (ho.tot _ _ (hl i x h1 (by omega) hx)) (hr k y (by omega) h4 hy)
/-! ### The outer loop -/
structure PdS (cf : α → α → Int) (L M : List α) (a0 a b b0 : Nat) : Prop where
  h1 : a0 ≤ a
  h2 : a ≤ b
  h3 : b ≤ b0
  mv : Moved L M a0 b0
  lo : Asc cf M a0 a
  hi : Asc cf M b b0
  bl : Below2 cf M a0 a a b0
  bh : Below2 cf M a0 b b b0
  pre : Below2 cf M 0 a0 a0 b0
section
variable {a0 b0 m : Nat}
theorem PdS.start (h : a ≤ b) (hp : Below2 cf L 0 a a b) : PdS cf L L a a b b :=
  ⟨Nat.le_refl _, h, Nat.le_refl _, .refl .., Asc.one (Nat.le_succ _), Asc.one (Nat.le_succ _), fun i j x y p1 p2 p3 p4 => by omega, fun i j x y p1 p2 p3 p4 => by omega, hp⟩
theorem PdS.pre' (h : PdS cf L M a0 a b b0) : Below2 cf M 0 a a b := fun i j x y p1 p2 p3 p4 hx hy => by
  have := h.h1; have := h.h3
  rcases Nat.lt_or_ge i a0 with c | c
  · exact h.pre i j x y p1 c (by omega) (by omega) hx hy
  · exact h.bl i j x y c p2 p3 (by omega) hx hy
theorem PdS.move (h : PdS cf L M a0 a b b0) (hm : Moved M M' a b) : PdS cf L M' a0 a b b0 := by
  have e1 := h.h1; have e2 := h.h2; have e3 := h.h3
  have w := hm.wide e1 e3
  exact ⟨e1, e2, e3, h.mv.trans w, h.lo.same fun k _ hk => hm.out k (.inl hk), h.hi.same fun k hk _ => hm.out k (.inr hk), h.bl.moved' (hm.wide (Nat.le_refl _) e3) (Nat.le_refl _), h.bh.moved (hm.wide e1 (Nat.le_refl _)) (Nat.le_refl _), h.pre.moved' w (Nat.le_refl _)⟩
theorem PdS.fin (h : PdS cf L M a0 a b b0) (hs : Asc cf M a b) : Asc cf M a0 b0 := by
  have e1 := h.h1; have e2 := h.h2; have e3 := h.h3
  refine Asc.join (Asc.join h.lo hs fun i j x y p1 p2 p3 p4 hx hy => h.bl i j x y p1 p2 p3 (by omega) hx hy) h.hi h.bh
theorem PdS.eq (h : PdS cf L M a0 a b b0) (hm1 : a ≤ m) (hm2 : m ≤ b) (hs : Asc cf M a m) (hb : Below2 cf M a m m b) : PdS cf L M a0 m b b0 := by
  have e1 := h.h1; have e2 := h.h2; have e3 := h.h3
  refine ⟨by omega, hm2, e3, h.mv, Asc.join h.lo hs fun i j x y p1 p2 p3 p4 hx hy => h.bl i j x y p1 p2 p3 (by omega) hx hy, h.hi, fun i j x y p1 p2 p3 p4 hx hy => ?_, h.bh, h.pre⟩
  rcases Nat.lt_or_ge i a with c | c
  · exact h.bl i j x y p1 c (by omega) p4 hx hy
  rcases Nat.lt_or_ge j b with d | d
  · exact hb i j x y c p2 p3 d hx hy
  · exact h.bh i j x y p1 (by omega) d p4 hx hy
theorem PdS.left (h : PdS cf L M a0 a b b0) (hm1 : a ≤ m) (hm2 : m < b) (hs : Asc cf M a m) (hb : Below2 cf M a m m b) (hb2 : Below2 cf M a (m + 1) (m + 1) b) : PdS cf L M a0 (m + 1) b b0 :=
  h.eq (by omega) hm2 (Asc.join hs (Asc.one (Nat.le_refl _)) fun i j x y p1 p2 p3 p4 hx hy => hb i j x y p1 p2 p3 (by omega) hx hy) hb2
theorem PdS.right (h : PdS cf L M a0 a b b0) (hm1 : a ≤ m) (hm2 : m < b) (hs : Asc cf M (m + 1) b) (hb : Below2 cf M a m m b) (hb2 : Below2 cf M a (m + 1) (m + 1) b) : PdS cf L M a0 a m b0 := by
  have e1 := h.h1; have e2 := h.h2; have e3 := h.h3
  refine ⟨e1, hm1, by omega, h.mv, h.lo, fun i j x y p1 p2 p3 hx hy => ?_, h.bl, fun i j x y p1 p2 p3 p4 hx hy => ?_, h.pre⟩
  · rcases Nat.lt_or_ge j b with d | d
    · rcases Nat.lt_or_ge m i with c | c
      · exact hs i j x y c p2 d hx hy
      · exact hb2 i j x y (by omega) (by omega) (by omega) d hx hy
    · rcases Nat.lt_or_ge i b with c | c
      · exact h.bh i j x y (by omega) c d p3 hx hy
      · exact h.hi i j x y c p2 p3 hx hy
  · rcases Nat.lt_or_ge i a with c | c
    · exact h.bl i j x y p1 c (by omega) p4 hx hy
    rcases Nat.lt_or_ge j b with d | d
    · exact hb i j x y c p2 p3 d hx hy
    · exact h.bh i j x y p1 (by omega) d p4 hx hy
end
end
end Go.Proofs.Ytjpnaofoeeegeaa


/-
  Sorting words (slices.Sort at uint64): siftDown, heapSort.
  Conditions: the list is one's own, and not too long for a machine.
-/
namespace Go.Proofs.Ytjpnaofoeeegeaa
open Go.RowKit

section
variable {base g n cap : Nat}
set_option maxHeartbeats 2000000 in
theorem siftU_v (L : List Int) (lo hi f : Nat) (w : World) (hD : DatU w base g n cap L) (hn : n ≤ 1000000000000) (hf : f + hi ≤ n) (hlo : lo ≤ hi) (hH : HeapX ltU L f lo hi lo) :
    Calls Try.prog 122 #[.slice (some ⟨g, 0, none⟩) n cap, .int .i64 lo, .int .i64 hi, .int .i64 f] w
      (Does (BlkU g) (DatV base g n cap (fun r L' => r = .tuple #[] ∧ Moved L L' f (f + hi) ∧ Heap ltU L' f lo hi)) w) := by
  refine V_enter (vs := [_, _, _, _]) Try.func122 rfl Try.ntmps122 (Nat.le_of_ble_eq_true rfl) ?_
  repeat (first | refine Vx ?_ | (apply Ops_q; (case hon => exact Va); (case hd => rfl); (case hq => exact YlA)) | refine Vr ?_ | refine Vt ?_ | refine Vf ?_ | refine Vm ?_ | refine Ve ?_ | refine Vo ?_ | refine Vz ?_ | refine Vn ?_)
  refine V_loop (fun s : Nat × List Int => [(8, .int .i64 s.1), (0, .slice (some ⟨g, 0, none⟩) n cap), (2, .int .i64 hi), (3, .int .i64 f)])
    (fun s w' => lo ≤ s.1 ∧ s.1 ≤ hi ∧ Mod (BlkU g) w w' ∧ DatU w' base g n cap s.2 ∧ Moved L s.2 f (f + hi) ∧ HeapX ltU s.2 f lo hi s.1) (fun s => hi - s.1) (lo, L) (by repeat (first | exact trivial | refine ⟨rfl, ?_⟩))
    ⟨Nat.le_refl _, hlo, .of_ext (Ext.refl _), hD, Moved.refl .., hH⟩ ?_
  clear hD hH
  rintro ⟨r, M⟩ w3 ⟨h1, h2, m3, D3, hM, hH⟩
  dsimp only at h1 h2 D3 hM hH ⊢
  have hMl := D3.len
  have e1 : 2 * (r : Int) + 1 = ((2 * r + 1 : Nat) : Int) := by omega
  repeat (first | refine Vx ?_ | (apply Ops_q; (case hon => exact Va); (case hd => rfl); (case hq => exact YlA)) | refine Vr ?_ | refine Vt ?_ | refine Vf ?_ | refine Vm ?_ | refine Ve ?_ | refine Vo ?_ | refine Vz ?_ | refine Vn ?_)
  rw [e1]
  refine V_cond rfl (fun hg => ?_) (fun hg => ?_)
  · replace hg := of_decide_eq_true hg
    repeat (first | refine Vx ?_ | (apply Ops_q; (case hon => exact Va); (case hd => rfl); (case hq => exact YlA)) | refine Vr ?_ | refine Vt ?_ | refine Vf ?_ | refine Vm ?_ | refine Ve ?_ | refine Vo ?_ | refine Vz ?_ | refine Vn ?_)
    refine ret0 (by first | exact .inl rfl | exact .inr rfl) rfl ?_
    exact Does_mk (fun w' he => ⟨M, D3.ext he, rfl, hM, hH.leaf (by omega)⟩) m3
  replace hg := of_decide_eq_false hg
  repeat (first | refine Vx ?_ | (apply Ops_q; (case hon => exact Va); (case hd => rfl); (case hq => exact YlA)) | refine Vr ?_ | refine Vt ?_ | refine Vf ?_ | refine Vm ?_ | refine Ve ?_ | refine Vo ?_ | refine Vz ?_ | refine Vn ?_)
  obtain ⟨x, hx⟩ := D3.get (k := f + (2 * r + 1)) (by omega)
  obtain ⟨y, hy⟩ : ∃ y, 2 * r + 2 < hi → M[f + (2 * r + 2)]? = some y := by
    by_cases hc : 2 * r + 2 < hi
    · obtain ⟨y, hy⟩ := D3.get (k := f + (2 * r + 2)) (by omega)
      exact ⟨y, fun _ => hy⟩
    · exact ⟨0, fun h => absurd h hc⟩
  obtain ⟨t, ht⟩ : ∃ t, t = (decide (2 * r + 2 < hi) && decide (x < y)) := ⟨_, rfl⟩
  refine Ops_meet [(36, .bool t), (9, .int .i64 (2 * r + 1 : Nat)), (8, .int .i64 r), (0, .slice (some ⟨g, 0, none⟩) n cap), (2, .int .i64 hi), (3, .int .i64 f)] ?_ ?_
  · by_cases hc : 2 * r + 2 < hi
    · have hd : decide (((2 * r + 1 : Nat) : Int) + 1 < (hi : Int)) = true := decide_eq_true (by omega)
      have e2 : (f : Int) + ((2 * r + 1 : Nat) : Int) = ((f + (2 * r + 1) : Nat) : Int) := by omega
      have e3 : ((f + (2 * r + 1) : Nat) : Int) + 1 = ((f + (2 * r + 2) : Nat) : Int) := by omega
      replace hy := hy hc
      have hcx := D3.at hx
      have hcy := D3.at hy
      repeat (first | refine Vx ?_ | (apply Ops_q; (case hon => exact Va); (case hd => rfl); (case hq => exact YlA)) | refine Vr ?_ | refine Vt ?_ | refine Vf ?_ | refine Vm ?_ | refine Ve ?_ | refine Vo ?_ | refine Vz ?_ | refine Vn ?_)
      refine Ops_know rfl rfl hd ?_
      repeat (first | refine Vx ?_ | (apply Ops_q; (case hon => exact Va); (case hd => rfl); (case hq => exact YlA)) | refine Vr ?_ | refine Vt ?_ | refine Vf ?_ | refine Vm ?_ | refine Ve ?_ | refine Vo ?_ | refine Vz ?_ | refine Vn ?_)
      rw [e2]
      (apply Ops_q; (case hon => (exact Va)); (case hd => rfl); (case hq => exact Yl_indexS (j := (f + (2 * r + 1))) rfl rfl (by omega)))
      repeat (first | refine Vx ?_ | (apply Ops_q; (case hon => exact Va); (case hd => rfl); (case hq => exact YlA)) | refine Vr ?_ | refine Vt ?_ | refine Vf ?_ | refine Vm ?_ | refine Ve ?_ | refine Vo ?_ | refine Vz ?_ | refine Vn ?_)
      rw [e2, e3]
      (apply Ops_q; (case hon => (exact Va)); (case hd => rfl); (case hq => exact Yl_indexS (j := (f + (2 * r + 2))) rfl rfl (by omega)))
      repeat (first | refine Vx ?_ | (apply Ops_q; (case hon => exact Va); (case hd => rfl); (case hq => exact YlA)) | refine Vr ?_ | refine Vt ?_ | refine Vf ?_ | refine Vm ?_ | refine Ve ?_ | refine Vo ?_ | refine Vz ?_ | refine Vn ?_)
      (apply Ops_q; (case hon => (exact Va)); (case hd => rfl); (case hq => exact Yl_call rfl (fun w_ e_ => lessU_v x y w_)))
      repeat (first | refine Vx ?_ | (apply Ops_q; (case hon => exact Va); (case hd => rfl); (case hq => exact YlA)) | refine Vr ?_ | refine Vt ?_ | refine Vf ?_ | refine Vm ?_ | refine Ve ?_ | refine Vo ?_ | refine Vz ?_ | refine Vn ?_)
      refine ⟨⟨?_, (by repeat (first | exact trivial | refine ⟨rfl, ?_⟩))⟩, rfl⟩
      rw [ht, decide_eq_true hc]; exact rfl
    · have hd : decide (((2 * r + 1 : Nat) : Int) + 1 < (hi : Int)) = false := decide_eq_false (by omega)
      repeat (first | refine Vx ?_ | (apply Ops_q; (case hon => exact Va); (case hd => rfl); (case hq => exact YlA)) | refine Vr ?_ | refine Vt ?_ | refine Vf ?_ | refine Vm ?_ | refine Ve ?_ | refine Vo ?_ | refine Vz ?_ | refine Vn ?_)
      refine Ops_know rfl rfl hd ?_
      repeat (first | refine Vx ?_ | (apply Ops_q; (case hon => exact Va); (case hd => rfl); (case hq => exact YlA)) | refine Vr ?_ | refine Vt ?_ | refine Vf ?_ | refine Vm ?_ | refine Ve ?_ | refine Vo ?_ | refine Vz ?_ | refine Vn ?_)
      refine ⟨⟨?_, (by repeat (first | exact trivial | refine ⟨rfl, ?_⟩))⟩, rfl⟩
      rw [ht, decide_eq_false hc]; exact rfl
  repeat (first | refine Vx ?_ | (apply Ops_q; (case hon => exact Va); (case hd => rfl); (case hq => exact YlA)) | refine Vr ?_ | refine Vt ?_ | refine Vf ?_ | refine Vm ?_ | refine Ve ?_ | refine Vo ?_ | refine Vz ?_ | refine Vn ?_)
  refine V_meet1 (fun c : Nat => [(9, .int .i64 c), (8, .int .i64 r), (0, .slice (some ⟨g, 0, none⟩) n cap), (2, .int .i64 hi), (3, .int .i64 f)])
    (fun c w' => Ext w3 w' ∧ (c = 2 * r + 1 ∨ c = 2 * r + 2) ∧ c < hi ∧ ∀ y, M[f + c]? = some y → ∀ d z, (d = 2 * r + 1 ∨ d = 2 * r + 2) → d < hi → M[f + d]? = some z → ¬ltU y z < 0) ?_ ?_
  · refine V_cond rfl (fun hlt => ?_) (fun hlt => ?_)
    · rw [hlt] at ht
      have hc : 2 * r + 2 < hi := by
        rcases Nat.lt_or_ge (2 * r + 2) hi with h | h
        · exact h
        · rw [decide_eq_false (by omega)] at ht; cases ht
      rw [decide_eq_true hc] at ht
      have hlt := of_decide_eq_true ht.symm
      replace hy := hy hc
      repeat (first | refine Vx ?_ | (apply Ops_q; (case hon => exact Va); (case hd => rfl); (case hq => exact YlA)) | refine Vr ?_ | refine Vt ?_ | refine Vf ?_ | refine Vm ?_ | refine Ve ?_ | refine Vo ?_ | refine Vz ?_ | refine Vn ?_)
      refine ⟨2 * r + 2, (by repeat (first | exact trivial | refine ⟨rfl, ?_⟩)), Ext.refl _, .inr rfl, hc, fun u hu d z h4 h5 hz => ?_⟩
      rw [hy] at hu; cases hu
      rcases h4 with rfl | rfl
      · rw [hx] at hz; cases hz; simp only [ltU]; omega
      · rw [hy] at hz; cases hz; simp only [ltU]; omega
    · rw [hlt] at ht
      repeat (first | refine Vx ?_ | (apply Ops_q; (case hon => exact Va); (case hd => rfl); (case hq => exact YlA)) | refine Vr ?_ | refine Vt ?_ | refine Vf ?_ | refine Vm ?_ | refine Ve ?_ | refine Vo ?_ | refine Vz ?_ | refine Vn ?_)
      refine ⟨2 * r + 1, (by repeat (first | exact trivial | refine ⟨rfl, ?_⟩)), Ext.refl _, .inl rfl, by omega, fun u hu d z h4 h5 hz => ?_⟩
      rw [hx] at hu; cases hu
      rcases h4 with rfl | rfl
      · rw [hx] at hz; cases hz; simp only [ltU]; omega
      · rw [decide_eq_true h5] at ht
        have hlt := of_decide_eq_false ht.symm
        rw [hy h5] at hz; cases hz; simp only [ltU]; omega
  clear hx hy ht x y t
  rintro c w3 ⟨x3, hc, hci, hmax⟩
  have D3 := D3.ext x3
  have m3 := m3.ext x3
  obtain ⟨x, hx⟩ := D3.get (k := f + r) (by omega)
  obtain ⟨y, hy⟩ := D3.get (k := f + c) (by omega)
  have hcx := D3.at hx
  have hcy := D3.at hy
  have e2 : (f : Int) + (r : Int) = ((f + r : Nat) : Int) := by omega
  have e3 : (f : Int) + (c : Int) = ((f + c : Nat) : Int) := by omega
  repeat (first | refine Vx ?_ | (apply Ops_q; (case hon => exact Va); (case hd => rfl); (case hq => exact YlA)) | refine Vr ?_ | refine Vt ?_ | refine Vf ?_ | refine Vm ?_ | refine Ve ?_ | refine Vo ?_ | refine Vz ?_ | refine Vn ?_)
  rw [e2]
  (apply Ops_q; (case hon => (exact Va)); (case hd => rfl); (case hq => exact Yl_indexS (j := (f + r)) rfl rfl (by omega)))
  repeat (first | refine Vx ?_ | (apply Ops_q; (case hon => exact Va); (case hd => rfl); (case hq => exact YlA)) | refine Vr ?_ | refine Vt ?_ | refine Vf ?_ | refine Vm ?_ | refine Ve ?_ | refine Vo ?_ | refine Vz ?_ | refine Vn ?_)
  rw [e3]
  (apply Ops_q; (case hon => (exact Va)); (case hd => rfl); (case hq => exact Yl_indexS (j := (f + c)) rfl rfl (by omega)))
  repeat (first | refine Vx ?_ | (apply Ops_q; (case hon => exact Va); (case hd => rfl); (case hq => exact YlA)) | refine Vr ?_ | refine Vt ?_ | refine Vf ?_ | refine Vm ?_ | refine Ve ?_ | refine Vo ?_ | refine Vz ?_ | refine Vn ?_)
  (apply Ops_q; (case hon => (exact Va)); (case hd => rfl); (case hq => exact Yl_call rfl (fun w_ e_ => lessU_v x y w_)))
  repeat (first | refine Vx ?_ | (apply Ops_q; (case hon => exact Va); (case hd => rfl); (case hq => exact YlA)) | refine Vr ?_ | refine Vt ?_ | refine Vf ?_ | refine Vm ?_ | refine Ve ?_ | refine Vo ?_ | refine Vz ?_ | refine Vn ?_)
  refine V_cond rfl (fun hlt => ?_) (fun hlt => ?_)
  · replace hlt : ¬ltU x y < 0 := by
      have : ¬(x < y) := fun h => by simp [h] at hlt
      simp only [ltU]; omega
    repeat (first | refine Vx ?_ | (apply Ops_q; (case hon => exact Va); (case hd => rfl); (case hq => exact YlA)) | refine Vr ?_ | refine Vt ?_ | refine Vf ?_ | refine Vm ?_ | refine Ve ?_ | refine Vo ?_ | refine Vz ?_ | refine Vn ?_)
    refine ret0 (by first | exact .inl rfl | exact .inr rfl) rfl ?_
    exact Does_mk (fun w' he => ⟨M, D3.ext he, rfl, hM, hH.stop ordU hx hlt (hmax y hy)⟩) m3
  · replace hlt : ltU x y < 0 := by
      have : x < y := by
        by_cases h : x < y
        · exact h
        · simp [h] at hlt
      simp only [ltU]; omega
    repeat (first | refine Vx ?_ | (apply Ops_q; (case hon => exact Va); (case hd => rfl); (case hq => exact YlA)) | refine Vt ?_ | refine Vf ?_ | refine Vm ?_ | refine Ve ?_ | refine Vo ?_ | refine Vz ?_ | refine Vn ?_)
    refine V_store (R := fun w' => DatU w' base g n cap (M.set (f + r) y) ∧ Mod (fun c => c = g) w3 w') 22 21 (fun _ _ he h => ⟨h.1.ext he, h.2.ext he⟩) (by kernel_rfl) rfl (by kernel_rfl) ?_
    repeat (first
      | (refine YsS.pure rfl rfl rfl rfl rfl (fun w_ => (by first | exact Yl_move rfl | exact Yl_pred rfl rfl (by omega) | exact Yl_arith_in rfl rfl rfl (by first | assumption | (simp only [InK]; omega)))) ?_)
      | (refine YsS.load rfl rfl rfl rfl rfl (by first | exact Yl_load rfl hcx | exact Yl_load rfl hcy) ?_))
    refine YsS.pure rfl rfl rfl rfl rfl (fun w_ => Yl_indexS (j := (f+c)) rfl rfl (by omega)) ?_
    repeat (first
      | (refine YsS.pure rfl rfl rfl rfl rfl (fun w_ => (by first | exact Yl_move rfl | exact Yl_pred rfl rfl (by omega) | exact Yl_arith_in rfl rfl rfl (by first | assumption | (simp only [InK]; omega)))) ?_)
      | (refine YsS.load rfl rfl rfl rfl rfl (by first | exact Yl_load rfl hcx | exact Yl_load rfl hcy) ?_))
    refine YsS.pure rfl rfl rfl rfl rfl (fun w_ => Yl_indexS (j := (f+r)) rfl rfl (by omega)) ?_
    repeat (first
      | (refine YsS.pure rfl rfl rfl rfl rfl (fun w_ => (by first | exact Yl_move rfl | exact Yl_pred rfl rfl (by omega) | exact Yl_arith_in rfl rfl rfl (by first | assumption | (simp only [InK]; omega)))) ?_)
      | (refine YsS.load rfl rfl rfl rfl rfl (by first | exact Yl_load rfl hcx | exact Yl_load rfl hcy) ?_))
    refine YsS.pure rfl rfl rfl rfl rfl (fun w_ => Yl_indexS (j := (f+r)) rfl rfl (by omega)) ?_
    refine YsS.nil rfl ⟨fun a_ ag_ w_ hw_ => storeDatU_run (i := f + r) (v := y) rfl rfl rfl D3 (by omega) a_ ag_ w_ hw_, ?_⟩
    repeat (first
      | (refine YsS.pure rfl rfl rfl rfl rfl (fun w_ => (by first | exact Yl_move rfl | exact Yl_pred rfl rfl (by omega) | exact Yl_arith_in rfl rfl rfl (by first | assumption | (simp only [InK]; omega)))) ?_)
      | (refine YsS.load rfl rfl rfl rfl rfl (by first | exact Yl_load rfl hcx | exact Yl_load rfl hcy) ?_))
    refine YsS.nil rfl ?_
    rintro w4 ⟨D4, m4⟩
    repeat (first | refine Vx ?_ | (apply Ops_q; (case hon => exact Va); (case hd => rfl); (case hq => exact YlA)) | refine Vr ?_ | refine Vt ?_ | refine Vf ?_ | refine Vm ?_ | refine Ve ?_ | refine Vo ?_ | refine Vz ?_ | refine Vn ?_)
    rw [e3]
    (apply Ops_q; (case hon => (exact Va)); (case hd => rfl); (case hq => exact Yl_indexS (j := (f + c)) rfl rfl (by omega)))
    repeat (first | refine Vx ?_ | (apply Ops_q; (case hon => exact Va); (case hd => rfl); (case hq => exact YlA)) | refine Vr ?_ | refine Vt ?_ | refine Vf ?_ | refine Vm ?_ | refine Ve ?_ | refine Vo ?_ | refine Vz ?_ | refine Vn ?_)
    refine Ops_storeDatU (i := f + c) (v := x) (by exact Va) rfl rfl rfl D4 (by omega) ?_
    intro w5 D5 g5
    have m5 : Mod (BlkU g) w w5 := (m3.trans m4).grow g5 (fun b hb => .inl (by cases hb; rfl))
    have hsw : (M.set (f + r) y).set (f + c) x = swp M (f + r) (f + c) := by unfold swp; rw [hx, hy]
    rw [hsw] at D5
    repeat (first | refine Vx ?_ | (apply Ops_q; (case hon => exact Va); (case hd => rfl); (case hq => exact YlA)) | refine Vr ?_ | refine Vt ?_ | refine Vf ?_ | refine Vm ?_ | refine Ve ?_ | refine Vo ?_ | refine Vz ?_ | refine Vn ?_)
    refine ⟨(c, swp M (f + r) (f + c)), (by repeat (first | exact trivial | refine ⟨rfl, ?_⟩)), ⟨by dsimp only; omega, by dsimp only; omega, m5, D5, hM.trans (Moved.swp (by omega) (by omega) (by omega)), hH.step ordU h1 hc hci (by omega) hx hy hlt (hmax y hy)⟩, by simp only; omega⟩
set_option maxHeartbeats 2000000 in
theorem heapU_v (L : List Int) (a b : Nat) (w : World) (hD : DatU w base g n cap L) (hn : n ≤ 1000000000000) (hb : b ≤ n) (hab : a < b) :
    Calls Try.prog 111 #[.slice (some ⟨g, 0, none⟩) n cap, .int .i64 a, .int .i64 b] w
      (Does (BlkU g) (DatV base g n cap (fun r L' => r = .tuple #[] ∧ Moved L L' a b ∧ Asc ltU L' a b)) w) := by
  obtain ⟨h, rfl⟩ : ∃ h, b = a + (h + 1) := ⟨b - a - 1, by omega⟩
  have e1 : ((a + (h + 1) : Nat) : Int) - (a : Int) = ((h + 1 : Nat) : Int) := by omega
  have e2 : ((h + 1 : Nat) : Int) - 1 = (h : Int) := by omega
  have e3 : (h : Int) / 2 = ((h / 2 + 1 : Nat) : Int) - 1 := by omega
  have e4 : (h : Int) = ((h + 1 : Nat) : Int) - 1 := by omega
  refine V_enter (vs := [_, _, _]) Try.func111 rfl Try.ntmps111 (Nat.le_of_ble_eq_true rfl) ?_
  repeat (first | refine Vx ?_ | (apply Ops_q; (case hon => exact Va); (case hd => rfl); (case hq => exact YlA)) | refine Vr ?_ | refine Vt ?_ | refine Vf ?_ | refine Vm ?_ | refine Ve ?_ | refine Vo ?_ | refine Vz ?_ | refine Vn ?_)
  rw [e1]
  repeat (first | refine Vx ?_ | (apply Ops_q; (case hon => exact Va); (case hd => rfl); (case hq => exact YlA)) | refine Vr ?_ | refine Vt ?_ | refine Vf ?_ | refine Vm ?_ | refine Ve ?_ | refine Vo ?_ | refine Vz ?_ | refine Vn ?_)
  rw [e2]
  repeat (first | refine Vx ?_ | (apply Ops_q; (case hon => exact Va); (case hd => rfl); (case hq => exact YlA)) | refine Vr ?_ | refine Vt ?_ | refine Vf ?_ | refine Vm ?_ | refine Ve ?_ | refine Vo ?_ | refine Vz ?_ | refine Vn ?_)
  rw [e3]
  refine V_loop (fun s : Nat × List Int => [(9, .int .i64 ((s.1 : Int) - 1)), (0, .slice (some ⟨g, 0, none⟩) n cap), (6, .int .i64 a), (7, .int .i64 0), (8, .int .i64 (h + 1 : Nat))])
    (fun s w' => s.1 ≤ h + 1 ∧ Mod (BlkU g) w w' ∧ DatU w' base g n cap s.2 ∧ Moved L s.2 a (a + (h + 1)) ∧ Heap ltU s.2 a s.1 (h + 1)) (fun s => s.1) (h / 2 + 1, L) (by repeat (first | exact trivial | refine ⟨rfl, ?_⟩))
    ⟨by dsimp only; omega, .of_ext (Ext.refl _), hD, Moved.refl .., Heap.none (by dsimp only; omega)⟩ ?_
  clear hD
  rintro ⟨i, M⟩ w3 ⟨h1, m3, D3, hM, hH⟩
  dsimp only at h1 D3 hM hH ⊢
  have hMl := D3.len
  by_cases hi : 0 < i
  · obtain ⟨i, rfl⟩ : ∃ k, i = k + 1 := ⟨i - 1, by omega⟩
    have hs1 : ((i + 1 : Nat) : Int) - 1 = (i : Int) := by omega
    rw [hs1]
    repeat (first | refine Vx ?_ | (apply Ops_q; (case hon => exact Va); (case hd => rfl); (case hq => exact YlA)) | refine Vr ?_ | refine Vt ?_ | refine Vf ?_ | refine Vm ?_ | refine Ve ?_ | refine Vo ?_ | refine Vz ?_ | refine Vn ?_)
    refine Ops_callM (S := BlkU g) (R := fun _ => DatV base g n cap (fun r L' => r = .tuple #[] ∧ Moved M L' a (a + (h+1)) ∧ Heap ltU L' a i (h+1))) (by exact Va) rfl rfl (fun w_ e_ => siftU_v M i (h+1) a w_ (D3.ext e_) hn (by omega) (by omega) hH.next) ?_
    intro r w6 w0_ e0 m6 hR
    obtain ⟨M6, D6, rfl, hM6, hH6⟩ := hR
    repeat (first | refine Vx ?_ | (apply Ops_q; (case hon => exact Va); (case hd => rfl); (case hq => exact YlA)) | refine Vr ?_ | refine Vt ?_ | refine Vf ?_ | refine Vm ?_ | refine Ve ?_ | refine Vo ?_ | refine Vz ?_ | refine Vn ?_)
    refine ⟨(i, M6), (by repeat (first | exact trivial | refine ⟨rfl, ?_⟩)), ⟨by dsimp only; omega, (m3.ext e0).trans m6, D6, hM.trans hM6, hH6⟩, by simp only; omega⟩
  obtain rfl : i = 0 := by omega
  repeat (first | refine Vx ?_ | (apply Ops_q; (case hon => exact Va); (case hd => rfl); (case hq => exact YlA)) | refine Vr ?_ | refine Vt ?_ | refine Vf ?_ | refine Vm ?_ | refine Ve ?_ | refine Vo ?_ | refine Vz ?_ | refine Vn ?_)
  rw [e2]
  have hS : HSt ltU M a (h + 1) (a + (h + 1)) := .start hH rfl
  clear hH h1 hi
  refine V_loop (fun s : Nat × List Int => [(10, .int .i64 ((s.1 : Int) - 1)), (0, .slice (some ⟨g, 0, none⟩) n cap), (6, .int .i64 a), (7, .int .i64 0), (8, .int .i64 (h + 1 : Nat))])
    (fun s w' => s.1 ≤ h + 1 ∧ Mod (BlkU g) w w' ∧ DatU w' base g n cap s.2 ∧ Moved L s.2 a (a + (h + 1)) ∧ HSt ltU s.2 a s.1 (a + (h + 1))) (fun s => s.1) (h + 1, M) ⟨by dsimp only; rw [← e4]; rfl, (by repeat (first | exact trivial | refine ⟨rfl, ?_⟩))⟩
    ⟨Nat.le_refl _, m3, D3, hM, hS⟩ ?_
  clear m3 D3 hM hS hMl
  rintro ⟨i, M⟩ w3 ⟨h1, m3, D3, hM, hS⟩
  dsimp only at h1 D3 hM hS ⊢
  have hMl := D3.len
  by_cases hi : 0 < i
  · obtain ⟨i, rfl⟩ : ∃ k, i = k + 1 := ⟨i - 1, by omega⟩
    have hs1 : ((i + 1 : Nat) : Int) - 1 = (i : Int) := by omega
    have e5 : (a : Int) + (i : Int) = ((a + i : Nat) : Int) := by omega
    obtain ⟨x, hx⟩ := D3.get (k := a) (by omega)
    obtain ⟨y, hy⟩ := D3.get (k := a + i) (by omega)
    have hcx := D3.at hx
    have hcy := D3.at hy
    obtain ⟨q1, q2, q3⟩ := hS.swap ordU (by omega) (by omega)
    rw [hs1]
    repeat (first | refine Vx ?_ | (apply Ops_q; (case hon => exact Va); (case hd => rfl); (case hq => exact YlA)) | refine Vr ?_ | refine Vt ?_ | refine Vf ?_ | refine Vm ?_ | refine Ve ?_ | refine Vo ?_ | refine Vz ?_ | refine Vn ?_)
    refine V_store (R := fun w' => DatU w' base g n cap (M.set a y) ∧ Mod (fun c => c = g) w3 w') 18 17 (fun _ _ he h => ⟨h.1.ext he, h.2.ext he⟩) (by kernel_rfl) rfl (by kernel_rfl) ?_
    repeat (first
      | (refine YsS.pure rfl rfl rfl rfl rfl (fun w_ => (by first | exact Yl_move rfl | exact Yl_pred rfl rfl (by omega) | exact Yl_arith_in rfl rfl rfl (by first | assumption | (simp only [InK]; omega)))) ?_)
      | (refine YsS.load rfl rfl rfl rfl rfl (by first | exact Yl_load rfl hcx | exact Yl_load rfl hcy) ?_))
    refine YsS.pure rfl rfl rfl rfl rfl (fun w_ => Yl_indexS (j := (a+i)) rfl rfl (by omega)) ?_
    repeat (first
      | (refine YsS.pure rfl rfl rfl rfl rfl (fun w_ => (by first | exact Yl_move rfl | exact Yl_pred rfl rfl (by omega) | exact Yl_arith_in rfl rfl rfl (by first | assumption | (simp only [InK]; omega)))) ?_)
      | (refine YsS.load rfl rfl rfl rfl rfl (by first | exact Yl_load rfl hcx | exact Yl_load rfl hcy) ?_))
    refine YsS.pure rfl rfl rfl rfl rfl (fun w_ => Yl_indexS (j := a) rfl rfl (by omega)) ?_
    repeat (first
      | (refine YsS.pure rfl rfl rfl rfl rfl (fun w_ => (by first | exact Yl_move rfl | exact Yl_pred rfl rfl (by omega) | exact Yl_arith_in rfl rfl rfl (by first | assumption | (simp only [InK]; omega)))) ?_)
      | (refine YsS.load rfl rfl rfl rfl rfl (by first | exact Yl_load rfl hcx | exact Yl_load rfl hcy) ?_))
    refine YsS.pure rfl rfl rfl rfl rfl (fun w_ => Yl_indexS (j := a) rfl rfl (by omega)) ?_
    refine YsS.nil rfl ⟨fun a_ ag_ w_ hw_ => storeDatU_run (i := a) (v := y) rfl rfl rfl D3 (by omega) a_ ag_ w_ hw_, ?_⟩
    repeat (first
      | (refine YsS.pure rfl rfl rfl rfl rfl (fun w_ => (by first | exact Yl_move rfl | exact Yl_pred rfl rfl (by omega) | exact Yl_arith_in rfl rfl rfl (by first | assumption | (simp only [InK]; omega)))) ?_)
      | (refine YsS.load rfl rfl rfl rfl rfl (by first | exact Yl_load rfl hcx | exact Yl_load rfl hcy) ?_))
    refine YsS.nil rfl ?_
    rintro w4 ⟨D4, m4⟩
    repeat (first | refine Vx ?_ | (apply Ops_q; (case hon => exact Va); (case hd => rfl); (case hq => exact YlA)) | refine Vr ?_ | refine Vt ?_ | refine Vf ?_ | refine Vm ?_ | refine Ve ?_ | refine Vo ?_ | refine Vz ?_ | refine Vn ?_)
    rw [e5]
    (apply Ops_q; (case hon => (exact Va)); (case hd => rfl); (case hq => exact Yl_indexS (j := (a + i)) rfl rfl (by omega)))
    repeat (first | refine Vx ?_ | (apply Ops_q; (case hon => exact Va); (case hd => rfl); (case hq => exact YlA)) | refine Vr ?_ | refine Vt ?_ | refine Vf ?_ | refine Vm ?_ | refine Ve ?_ | refine Vo ?_ | refine Vz ?_ | refine Vn ?_)
    refine Ops_storeDatU (i := a + i) (v := x) (by exact Va) rfl rfl rfl D4 (by omega) ?_
    intro w5 D5 g5
    have m5 : Mod (BlkU g) w w5 := (m3.trans m4).grow g5 (fun b hb => .inl (by cases hb; rfl))
    have hsw : (M.set a y).set (a + i) x = swp M a (a + i) := by unfold swp; rw [hx, hy]
    rw [hsw] at D5
    have hM5 : Moved L (swp M a (a + i)) a (a + (h + 1)) := hM.trans (Moved.swp (by omega) (by omega) (by omega))
    clear hx hy hcx hcy D3 m3 D4 m4 g5 hsw hM hMl hS
    generalize swp M a (a + i) = M5 at *
    repeat (first | refine Vx ?_ | (apply Ops_q; (case hon => exact Va); (case hd => rfl); (case hq => exact YlA)) | refine Vr ?_ | refine Vt ?_ | refine Vf ?_ | refine Vm ?_ | refine Ve ?_ | refine Vo ?_ | refine Vz ?_ | refine Vn ?_)
    refine Ops_callM (S := BlkU g) (R := fun _ => DatV base g n cap (fun r L' => r = .tuple #[] ∧ Moved M5 L' a (a + i) ∧ Heap ltU L' a 0 i)) (by exact Va) rfl rfl (fun w_ e_ => siftU_v M5 0 i a w_ (D5.ext e_) hn (by omega) (by omega) q1) ?_
    intro r w6 w0_ e0 m6 hR
    obtain ⟨M6, D6, rfl, hM6, hH6⟩ := hR
    repeat (first | refine Vx ?_ | (apply Ops_q; (case hon => exact Va); (case hd => rfl); (case hq => exact YlA)) | refine Vr ?_ | refine Vt ?_ | refine Vf ?_ | refine Vm ?_ | refine Ve ?_ | refine Vo ?_ | refine Vz ?_ | refine Vn ?_)
    refine ⟨(i, M6), (by repeat (first | exact trivial | refine ⟨rfl, ?_⟩)), ⟨by dsimp only; omega, (m5.ext e0).trans m6, D6, hM5.trans (hM6.wide (Nat.le_refl _) (by omega)), HSt.next hH6 q2 q3 hM6⟩, by simp only; omega⟩
  obtain rfl : i = 0 := by omega
  repeat (first | refine Vx ?_ | (apply Ops_q; (case hon => exact Va); (case hd => rfl); (case hq => exact YlA)) | refine Vr ?_ | refine Vt ?_ | refine Vf ?_ | refine Vm ?_ | refine Ve ?_ | refine Vo ?_ | refine Vz ?_ | refine Vn ?_)
  refine ret0 (by first | exact .inl rfl | exact .inr rfl) rfl ?_
  exact Does_mk (fun w' he => ⟨M, D3.ext he, rfl, hM, hS.asc⟩) m3
end
end Go.Proofs.Ytjpnaofoeeegeaa


/-
  Sorting words (slices.Sort at uint64): partition, partitionEqual.
  Conditions: the list is one's own, and not too long for a machine.
-/
namespace Go.Proofs.Ytjpnaofoeeegeaa
open Go.RowKit

theorem V_meetB {P : Program} {N : Fr} {Q : Exit → Env → World → Prop} {m : Env} {w : World} {id : Nat} {x y : Code} {σ : Type} (e : σ → Env) (I : σ → World → Prop)
    (h1 : V P N x (blockV id (thenV (fun m' w' => ∃ s, Sub (e s) m' ∧ I s w') Q)) m w) (h2 : ∀ s w', I s w' → V P N y Q (e s) w') : V P N x (blockV id (thenV (fun m w => V P N y Q m w) Q)) m w := by
  have hm : ∀ ex m1 w1, thenV (fun m' w' => ∃ s, Sub (e s) m' ∧ I s w') Q ex m1 w1 → thenV (fun m w => V P N y Q m w) Q ex m1 w1 := fun ex m1 w1 hq => by
    cases ex with
    | normal => obtain ⟨s, hs, hI⟩ := hq; exact V_sub hs (h2 s w1 hI)
    | _ => exact hq
  refine V_mono (fun ex m1 w1 hq => ?_) h1
  cases ex with
  | exit id' =>
    by_cases c : id' = id
    · subst c; simp only [blockV, if_true] at hq ⊢; exact hm _ _ _ hq
    · simp only [blockV, c, if_false] at hq ⊢; exact hm _ _ _ hq
  | _ => simp only [blockV] at hq ⊢; exact hm _ _ _ hq
section
variable {base g n cap : Nat}
set_option maxHeartbeats 2000000 in
theorem partU_v (L : List Int) (a b p0 : Nat) (w : World) (hD : DatU w base g n cap L) (hn : n ≤ 1000000000000) (hb : b ≤ n) (hab : a < b) (hp0 : a ≤ p0 ∧ p0 < b) :
    Calls Try.prog 118 #[.slice (some ⟨g, 0, none⟩) n cap, .int .i64 a, .int .i64 b, .int .i64 p0] w
      (Does (BlkU g) (DatV base g n cap (fun r L' => ∃ (j : Nat) (o : Bool), r = .tuple #[.int .i64 j, .bool o] ∧ a ≤ j ∧ j < b ∧ Moved L L' a b ∧ Below2 ltU L' a j j b ∧ Below2 ltU L' a (j + 1) (j + 1) b)) w) := by
  obtain ⟨z, hbz⟩ : ∃ z, z + 1 = b := ⟨b - 1, by omega⟩
  have hz : (b : Int) - 1 = (z : Int) := by omega
  have hMl := hD.len
  obtain ⟨x, hx⟩ := hD.get (k := a) (by omega)
  obtain ⟨y, hy⟩ := hD.get (k := p0) (by omega)
  have hcx := hD.at hx
  have hcy := hD.at hy
  have m3 : Mod (BlkU g) w w := .of_ext (Ext.refl _)
  refine V_enter (vs := [_, _, _, _]) Try.func118 rfl Try.ntmps118 (Nat.le_of_ble_eq_true rfl) ?_
  repeat (first | refine Vx ?_ | (apply Ops_q; (case hon => exact Va); (case hd => rfl); (case hq => exact YlA)) | refine Vt ?_ | refine Vf ?_ | refine Vm ?_ | refine Ve ?_ | refine Vo ?_ | refine Vz ?_ | refine Vn ?_)
  refine V_store (R := fun w' => DatU w' base g n cap (L.set (a) y) ∧ Mod (fun c => c = g) w w') 14 13 (fun _ _ he h => ⟨h.1.ext he, h.2.ext he⟩) (by kernel_rfl) rfl (by kernel_rfl) ?_
  repeat (first
    | (refine YsS.pure rfl rfl rfl rfl rfl (fun w_ => (by first | exact Yl_move rfl | exact Yl_pred rfl rfl (by omega) | exact Yl_arith_in rfl rfl rfl (by first | assumption | (simp only [InK]; omega)))) ?_)
    | (refine YsS.load rfl rfl rfl rfl rfl (by first | exact Yl_load rfl hcx | exact Yl_load rfl hcy) ?_))
  refine YsS.pure rfl rfl rfl rfl rfl (fun w_ => Yl_indexS (j := (p0)) rfl rfl (by omega)) ?_
  repeat (first
    | (refine YsS.pure rfl rfl rfl rfl rfl (fun w_ => (by first | exact Yl_move rfl | exact Yl_pred rfl rfl (by omega) | exact Yl_arith_in rfl rfl rfl (by first | assumption | (simp only [InK]; omega)))) ?_)
    | (refine YsS.load rfl rfl rfl rfl rfl (by first | exact Yl_load rfl hcx | exact Yl_load rfl hcy) ?_))
  refine YsS.pure rfl rfl rfl rfl rfl (fun w_ => Yl_indexS (j := (a)) rfl rfl (by omega)) ?_
  repeat (first
    | (refine YsS.pure rfl rfl rfl rfl rfl (fun w_ => (by first | exact Yl_move rfl | exact Yl_pred rfl rfl (by omega) | exact Yl_arith_in rfl rfl rfl (by first | assumption | (simp only [InK]; omega)))) ?_)
    | (refine YsS.load rfl rfl rfl rfl rfl (by first | exact Yl_load rfl hcx | exact Yl_load rfl hcy) ?_))
  refine YsS.pure rfl rfl rfl rfl rfl (fun w_ => Yl_indexS (j := (a)) rfl rfl (by omega)) ?_
  refine YsS.nil rfl ⟨fun a_ ag_ w_ hw_ => storeDatU_run (i := a) (v := y) rfl rfl rfl hD (by omega) a_ ag_ w_ hw_, ?_⟩
  repeat (first
    | (refine YsS.pure rfl rfl rfl rfl rfl (fun w_ => (by first | exact Yl_move rfl | exact Yl_pred rfl rfl (by omega) | exact Yl_arith_in rfl rfl rfl (by first | assumption | (simp only [InK]; omega)))) ?_)
    | (refine YsS.load rfl rfl rfl rfl rfl (by first | exact Yl_load rfl hcx | exact Yl_load rfl hcy) ?_))
  refine YsS.nil rfl ?_
  rintro w4 ⟨D4, m4⟩
  repeat (first | refine Vx ?_ | (apply Ops_q; (case hon => exact Va); (case hd => rfl); (case hq => exact YlA)) | refine Vr ?_ | refine Vt ?_ | refine Vf ?_ | refine Vm ?_ | refine Ve ?_ | refine Vo ?_ | refine Vz ?_ | refine Vn ?_)
  (apply Ops_q; (case hon => (exact Va)); (case hd => rfl); (case hq => exact Yl_indexS (j := (p0)) rfl rfl (by omega)))
  repeat (first | refine Vx ?_ | (apply Ops_q; (case hon => exact Va); (case hd => rfl); (case hq => exact YlA)) | refine Vr ?_ | refine Vt ?_ | refine Vf ?_ | refine Vm ?_ | refine Ve ?_ | refine Vo ?_ | refine Vz ?_ | refine Vn ?_)
  refine Ops_storeDatU (i := p0) (v := x) (by exact Va) rfl rfl rfl D4 (by omega) ?_
  intro w5 D5 g5
  have m5 : Mod (BlkU g) w w5 := (m3.trans m4).grow g5 (fun b hb => .inl (by cases hb; rfl))
  have hsw : (L.set (a) y).set (p0) x = swp L (a) (p0) := by unfold swp; rw [hx, hy]
  rw [hsw] at D5
  have hM : Moved L (swp L a p0) a b := Moved.swp (by omega) hp0 (by omega)
  have hpv : (swp L a p0)[a]? = some y := by
    rw [swp_get (by omega) (by omega)]
    by_cases e : a = p0
    · rw [if_pos e, e]; exact hy
    · rw [if_neg e, if_pos rfl]; exact hy
  generalize swp L a p0 = M at *
  clear hx hy hcx hcy D4 m4 g5 hsw m3 hD hMl
  have hMl := D5.len
  repeat (first | refine Vx ?_ | (apply Ops_q; (case hon => exact Va); (case hd => rfl); (case hq => exact YlA)) | refine Vr ?_ | refine Vt ?_ | refine Vf ?_ | refine Vm ?_ | refine Ve ?_ | refine Vo ?_ | refine Vz ?_ | refine Vn ?_)
  obtain ⟨pv, hpve⟩ : ∃ pv, pv = y := ⟨_, rfl⟩
  rw [← hpve] at hpv
  clear hpve hp0
  have hP : PtS (fun x => ltU x pv < 0) (fun x => ¬ltU x pv < 0) M a (a + 1) z b := .start hbz
  obtain ⟨i, hi⟩ : ∃ i, i = a + 1 := ⟨_, rfl⟩
  obtain ⟨j, hj⟩ : ∃ j, j = z := ⟨_, rfl⟩
  have hjb : j < b := by omega
  rw [← hi, ← hj] at hP
  have h1 : a + 1 ≤ i := by omega
  have h2 : i ≤ j + 1 := by omega
  rw [show (a : Int) + 1 = (i : Int) by omega, show (b : Int) - 1 = (j : Int) by omega]
  clear hi hj hz
  obtain ⟨w3, rfl⟩ : ∃ w3, w3 = w5 := ⟨_, rfl⟩
  have D3 := D5
  have m3 := m5
  clear D5 m5
  refine V_meetB (fun s : Nat => [(10, .int .i64 s), (11, .int .i64 j), (0, .slice (some ⟨g, 0, none⟩) n cap), (1, .int .i64 a)])
    (fun s w' => Ext w3 w' ∧ i ≤ s ∧ s ≤ j + 1 ∧ PtS (fun x => ltU x pv < 0) (fun x => ¬ltU x pv < 0) M a s j b ∧ ∀ x, s ≤ j → M[s]? = some x → ¬ltU x pv < 0) ?_ ?_
  · refine V_loop (fun s : Nat => [(10, .int .i64 s), (11, .int .i64 j), (0, .slice (some ⟨g, 0, none⟩) n cap), (1, .int .i64 a)])
      (fun s w' => Ext w3 w' ∧ i ≤ s ∧ s ≤ j + 1 ∧ PtS (fun x => ltU x pv < 0) (fun x => ¬ltU x pv < 0) M a s j b) (fun s => j + 1 - s) i (by repeat (first | exact trivial | refine ⟨rfl, ?_⟩)) ⟨Ext.refl _, Nat.le_refl _, h2, hP⟩ ?_
    rintro s w4 ⟨x4, h4, h5, hP4⟩
    have D4 := D3.ext x4
    by_cases hsj : s ≤ j
    · have hd : decide ((s : Int) ≤ (j : Int)) = true := decide_eq_true (by omega)
      obtain ⟨x, hx⟩ := D4.get (k := s) (by omega)
      have hcx := D4.at hx
      have hcp := D4.at hpv
      repeat (first | refine Vx ?_ | (apply Ops_q; (case hon => exact Va); (case hd => rfl); (case hq => exact YlA)) | refine Vr ?_ | refine Vt ?_ | refine Vf ?_ | refine Vm ?_ | refine Ve ?_ | refine Vo ?_ | refine Vz ?_ | refine Vn ?_)
      refine Ops_know rfl rfl hd ?_
      repeat (first | refine Vx ?_ | (apply Ops_q; (case hon => exact Va); (case hd => rfl); (case hq => exact YlA)) | refine Vr ?_ | refine Vt ?_ | refine Vf ?_ | refine Vm ?_ | refine Ve ?_ | refine Vo ?_ | refine Vz ?_ | refine Vn ?_)
      (apply Ops_q; (case hon => (exact Va)); (case hd => rfl); (case hq => exact Yl_indexS (j := s) rfl rfl (by omega)))
      repeat (first | refine Vx ?_ | (apply Ops_q; (case hon => exact Va); (case hd => rfl); (case hq => exact YlA)) | refine Vr ?_ | refine Vt ?_ | refine Vf ?_ | refine Vm ?_ | refine Ve ?_ | refine Vo ?_ | refine Vz ?_ | refine Vn ?_)
      (apply Ops_q; (case hon => (exact Va)); (case hd => rfl); (case hq => exact Yl_indexS (j := a) rfl rfl (by omega)))
      repeat (first | refine Vx ?_ | (apply Ops_q; (case hon => exact Va); (case hd => rfl); (case hq => exact YlA)) | refine Vr ?_ | refine Vt ?_ | refine Vf ?_ | refine Vm ?_ | refine Ve ?_ | refine Vo ?_ | refine Vz ?_ | refine Vn ?_)
      (apply Ops_q; (case hon => (exact Va)); (case hd => rfl); (case hq => exact Yl_call rfl (fun w_ e_ => lessU_v x pv w_)))
      repeat (first | refine Vx ?_ | (apply Ops_q; (case hon => exact Va); (case hd => rfl); (case hq => exact YlA)) | refine Vr ?_ | refine Vt ?_ | refine Vf ?_ | refine Vm ?_ | refine Ve ?_ | refine Vo ?_ | refine Vz ?_ | refine Vn ?_)
      refine V_cond rfl (fun hlt => ?_) (fun hlt => ?_)
      · repeat (first | refine Vx ?_ | (apply Ops_q; (case hon => exact Va); (case hd => rfl); (case hq => exact YlA)) | refine Vr ?_ | refine Vt ?_ | refine Vf ?_ | refine Vm ?_ | refine Ve ?_ | refine Vo ?_ | refine Vz ?_ | refine Vn ?_)
        exact ⟨s + 1, (by repeat (first | exact trivial | refine ⟨rfl, ?_⟩)), ⟨x4, by omega, by omega, hP4.inc hx (by have h := hlt; simp at h; simp only [ltU]; omega)⟩, by omega⟩
      · repeat (first | refine Vx ?_ | (apply Ops_q; (case hon => exact Va); (case hd => rfl); (case hq => exact YlA)) | refine Vr ?_ | refine Vt ?_ | refine Vf ?_ | refine Vm ?_ | refine Ve ?_ | refine Vo ?_ | refine Vz ?_ | refine Vn ?_)
        exact ⟨s, (by repeat (first | exact trivial | refine ⟨rfl, ?_⟩)), x4, h4, h5, hP4, fun z _ hz => by rw [hx] at hz; cases hz; have h := hlt; simp at h; simp only [ltU]; omega⟩
    · have hd : decide ((s : Int) ≤ (j : Int)) = false := decide_eq_false (by omega)
      repeat (first | refine Vx ?_ | (apply Ops_q; (case hon => exact Va); (case hd => rfl); (case hq => exact YlA)) | refine Vr ?_ | refine Vt ?_ | refine Vf ?_ | refine Vm ?_ | refine Ve ?_ | refine Vo ?_ | refine Vz ?_ | refine Vn ?_)
      refine Ops_know rfl rfl hd ?_
      repeat (first | refine Vx ?_ | (apply Ops_q; (case hon => exact Va); (case hd => rfl); (case hq => exact YlA)) | refine Vr ?_ | refine Vt ?_ | refine Vf ?_ | refine Vm ?_ | refine Ve ?_ | refine Vo ?_ | refine Vz ?_ | refine Vn ?_)
      exact ⟨s, (by repeat (first | exact trivial | refine ⟨rfl, ?_⟩)), x4, h4, h5, hP4, fun z h => absurd h hsj⟩
  clear h2 hP
  rintro i w3 ⟨x3, hii, h2, hP, hup⟩
  have D3 := D3.ext x3
  have m3 := m3.ext x3
  replace h1 : a + 1 ≤ i := by omega
  clear x3
  refine V_seq ?_
  refine V_block ?_
  refine V_meetB (fun s : Nat => [(10, .int .i64 i), (11, .int .i64 s), (0, .slice (some ⟨g, 0, none⟩) n cap), (1, .int .i64 a)])
    (fun s w' => Ext w3 w' ∧ i ≤ s + 1 ∧ s ≤ j ∧ PtS (fun x => ltU x pv < 0) (fun x => ¬ltU x pv < 0) M a i s b ∧ ∀ x, i ≤ s → M[s]? = some x → ltU x pv < 0) ?_ ?_
  · refine V_loop (fun s : Nat => [(10, .int .i64 i), (11, .int .i64 s), (0, .slice (some ⟨g, 0, none⟩) n cap), (1, .int .i64 a)])
      (fun s w' => Ext w3 w' ∧ i ≤ s + 1 ∧ s ≤ j ∧ PtS (fun x => ltU x pv < 0) (fun x => ¬ltU x pv < 0) M a i s b) (fun s => s) j (by repeat (first | exact trivial | refine ⟨rfl, ?_⟩)) ⟨Ext.refl _, h2, Nat.le_refl _, hP⟩ ?_
    rintro s w4 ⟨x4, h4, h5, hP4⟩
    have D4 := D3.ext x4
    by_cases hsj : i ≤ s
    · obtain ⟨p, rfl⟩ : ∃ p, s = p + 1 := ⟨s - 1, by omega⟩
      have hs1 : ((p + 1 : Nat) : Int) - 1 = (p : Int) := by omega
      have hd : decide ((i : Int) ≤ ((p + 1 : Nat) : Int)) = true := decide_eq_true (by omega)
      obtain ⟨x, hx⟩ := D4.get (k := p + 1) (by omega)
      have hcx := D4.at hx
      have hcp := D4.at hpv
      repeat (first | refine Vx ?_ | (apply Ops_q; (case hon => exact Va); (case hd => rfl); (case hq => exact YlA)) | refine Vr ?_ | refine Vt ?_ | refine Vf ?_ | refine Vm ?_ | refine Ve ?_ | refine Vo ?_ | refine Vz ?_ | refine Vn ?_)
      refine Ops_know rfl rfl hd ?_
      repeat (first | refine Vx ?_ | (apply Ops_q; (case hon => exact Va); (case hd => rfl); (case hq => exact YlA)) | refine Vr ?_ | refine Vt ?_ | refine Vf ?_ | refine Vm ?_ | refine Ve ?_ | refine Vo ?_ | refine Vz ?_ | refine Vn ?_)
      (apply Ops_q; (case hon => (exact Va)); (case hd => rfl); (case hq => exact Yl_indexS (j := (p+1)) rfl rfl (by omega)))
      repeat (first | refine Vx ?_ | (apply Ops_q; (case hon => exact Va); (case hd => rfl); (case hq => exact YlA)) | refine Vr ?_ | refine Vt ?_ | refine Vf ?_ | refine Vm ?_ | refine Ve ?_ | refine Vo ?_ | refine Vz ?_ | refine Vn ?_)
      (apply Ops_q; (case hon => (exact Va)); (case hd => rfl); (case hq => exact Yl_indexS (j := a) rfl rfl (by omega)))
      repeat (first | refine Vx ?_ | (apply Ops_q; (case hon => exact Va); (case hd => rfl); (case hq => exact YlA)) | refine Vr ?_ | refine Vt ?_ | refine Vf ?_ | refine Vm ?_ | refine Ve ?_ | refine Vo ?_ | refine Vz ?_ | refine Vn ?_)
      (apply Ops_q; (case hon => (exact Va)); (case hd => rfl); (case hq => exact Yl_call rfl (fun w_ e_ => lessU_v x pv w_)))
      repeat (first | refine Vx ?_ | (apply Ops_q; (case hon => exact Va); (case hd => rfl); (case hq => exact YlA)) | refine Vr ?_ | refine Vt ?_ | refine Vf ?_ | refine Vm ?_ | refine Ve ?_ | refine Vo ?_ | refine Vz ?_ | refine Vn ?_)
      refine V_cond rfl (fun hlt => ?_) (fun hlt => ?_)
      · repeat (first | refine Vx ?_ | (apply Ops_q; (case hon => exact Va); (case hd => rfl); (case hq => exact YlA)) | refine Vr ?_ | refine Vt ?_ | refine Vf ?_ | refine Vm ?_ | refine Ve ?_ | refine Vo ?_ | refine Vz ?_ | refine Vn ?_)
        rw [hs1]
        exact ⟨p, (by repeat (first | exact trivial | refine ⟨rfl, ?_⟩)), ⟨x4, hsj, by omega, hP4.dec hx (by have h := hlt; simp at h; simp only [ltU]; omega)⟩, by omega⟩
      · repeat (first | refine Vx ?_ | (apply Ops_q; (case hon => exact Va); (case hd => rfl); (case hq => exact YlA)) | refine Vr ?_ | refine Vt ?_ | refine Vf ?_ | refine Vm ?_ | refine Ve ?_ | refine Vo ?_ | refine Vz ?_ | refine Vn ?_)
        exact ⟨p + 1, (by repeat (first | exact trivial | refine ⟨rfl, ?_⟩)), x4, h4, h5, hP4, fun z _ hz => by rw [hx] at hz; cases hz; have h := hlt; simp at h; simp only [ltU]; omega⟩
    · have hd : decide ((i : Int) ≤ (s : Int)) = false := decide_eq_false (by omega)
      repeat (first | refine Vx ?_ | (apply Ops_q; (case hon => exact Va); (case hd => rfl); (case hq => exact YlA)) | refine Vr ?_ | refine Vt ?_ | refine Vf ?_ | refine Vm ?_ | refine Ve ?_ | refine Vo ?_ | refine Vz ?_ | refine Vn ?_)
      refine Ops_know rfl rfl hd ?_
      repeat (first | refine Vx ?_ | (apply Ops_q; (case hon => exact Va); (case hd => rfl); (case hq => exact YlA)) | refine Vr ?_ | refine Vt ?_ | refine Vf ?_ | refine Vm ?_ | refine Ve ?_ | refine Vo ?_ | refine Vz ?_ | refine Vn ?_)
      exact ⟨s, (by repeat (first | exact trivial | refine ⟨rfl, ?_⟩)), x4, h4, h5, hP4, fun z h => absurd h hsj⟩
  clear h2 hP
  rintro j w3 ⟨x3, h2, hjj, hP, hdown⟩
  have D3 := D3.ext x3
  have m3 := m3.ext x3
  replace hjb : j < b := by omega
  replace hup : ∀ x, i ≤ j → M[i]? = some x → ¬ltU x pv < 0 := fun x h => hup x (by omega)
  clear x3
  repeat (first | refine Vx ?_ | (apply Ops_q; (case hon => exact Va); (case hd => rfl); (case hq => exact YlA)) | refine Vr ?_ | refine Vt ?_ | refine Vf ?_ | refine Vm ?_ | refine Ve ?_ | refine Vo ?_ | refine Vz ?_ | refine Vn ?_)
  refine V_cond rfl (fun hg => ?_) (fun hg => ?_)
  · replace hg := of_decide_eq_true hg
    obtain rfl : i = j + 1 := by omega
    have hMl := D3.len
    obtain ⟨x, hx⟩ := D3.get (k := j) (by omega)
    obtain ⟨y, hy⟩ := D3.get (k := a) (by omega)
    have hcx := D3.at hx
    have hcy := D3.at hy
    repeat (first | refine Vx ?_ | (apply Ops_q; (case hon => exact Va); (case hd => rfl); (case hq => exact YlA)) | refine Vt ?_ | refine Vf ?_ | refine Vm ?_ | refine Ve ?_ | refine Vo ?_ | refine Vz ?_ | refine Vn ?_)
    refine V_store (R := fun w' => DatU w' base g n cap (M.set (j) y) ∧ Mod (fun c => c = g) w3 w') 14 13 (fun _ _ he h => ⟨h.1.ext he, h.2.ext he⟩) (by kernel_rfl) rfl (by kernel_rfl) ?_
    repeat (first
      | (refine YsS.pure rfl rfl rfl rfl rfl (fun w_ => (by first | exact Yl_move rfl | exact Yl_pred rfl rfl (by omega) | exact Yl_arith_in rfl rfl rfl (by first | assumption | (simp only [InK]; omega)))) ?_)
      | (refine YsS.load rfl rfl rfl rfl rfl (by first | exact Yl_load rfl hcx | exact Yl_load rfl hcy) ?_))
    refine YsS.pure rfl rfl rfl rfl rfl (fun w_ => Yl_indexS (j := (a)) rfl rfl (by omega)) ?_
    repeat (first
      | (refine YsS.pure rfl rfl rfl rfl rfl (fun w_ => (by first | exact Yl_move rfl | exact Yl_pred rfl rfl (by omega) | exact Yl_arith_in rfl rfl rfl (by first | assumption | (simp only [InK]; omega)))) ?_)
      | (refine YsS.load rfl rfl rfl rfl rfl (by first | exact Yl_load rfl hcx | exact Yl_load rfl hcy) ?_))
    refine YsS.pure rfl rfl rfl rfl rfl (fun w_ => Yl_indexS (j := (j)) rfl rfl (by omega)) ?_
    repeat (first
      | (refine YsS.pure rfl rfl rfl rfl rfl (fun w_ => (by first | exact Yl_move rfl | exact Yl_pred rfl rfl (by omega) | exact Yl_arith_in rfl rfl rfl (by first | assumption | (simp only [InK]; omega)))) ?_)
      | (refine YsS.load rfl rfl rfl rfl rfl (by first | exact Yl_load rfl hcx | exact Yl_load rfl hcy) ?_))
    refine YsS.pure rfl rfl rfl rfl rfl (fun w_ => Yl_indexS (j := (j)) rfl rfl (by omega)) ?_
    refine YsS.nil rfl ⟨fun a_ ag_ w_ hw_ => storeDatU_run (i := j) (v := y) rfl rfl rfl D3 (by omega) a_ ag_ w_ hw_, ?_⟩
    repeat (first
      | (refine YsS.pure rfl rfl rfl rfl rfl (fun w_ => (by first | exact Yl_move rfl | exact Yl_pred rfl rfl (by omega) | exact Yl_arith_in rfl rfl rfl (by first | assumption | (simp only [InK]; omega)))) ?_)
      | (refine YsS.load rfl rfl rfl rfl rfl (by first | exact Yl_load rfl hcx | exact Yl_load rfl hcy) ?_))
    refine YsS.nil rfl ?_
    rintro w4 ⟨D4, m4⟩
    repeat (first | refine Vx ?_ | (apply Ops_q; (case hon => exact Va); (case hd => rfl); (case hq => exact YlA)) | refine Vr ?_ | refine Vt ?_ | refine Vf ?_ | refine Vm ?_ | refine Ve ?_ | refine Vo ?_ | refine Vz ?_ | refine Vn ?_)
    (apply Ops_q; (case hon => (exact Va)); (case hd => rfl); (case hq => exact Yl_indexS (j := (a)) rfl rfl (by omega)))
    repeat (first | refine Vx ?_ | (apply Ops_q; (case hon => exact Va); (case hd => rfl); (case hq => exact YlA)) | refine Vr ?_ | refine Vt ?_ | refine Vf ?_ | refine Vm ?_ | refine Ve ?_ | refine Vo ?_ | refine Vz ?_ | refine Vn ?_)
    refine Ops_storeDatU (i := a) (v := x) (by exact Va) rfl rfl rfl D4 (by omega) ?_
    intro w5 D5 g5
    have m5 : Mod (BlkU g) w w5 := (m3.trans m4).grow g5 (fun b hb => .inl (by cases hb; rfl))
    have hsw : (M.set (j) y).set (a) x = swp M (j) (a) := by unfold swp; rw [hx, hy]
    rw [hsw] at D5
    have hM5 : Moved L (swp M j a) a b := hM.trans (Moved.swp (by omega) (by omega) (by omega))
    obtain ⟨q1, q2⟩ := part_end ordU hP hpv (by omega) (by omega)
    repeat (first | refine Vx ?_ | (apply Ops_q; (case hon => exact Va); (case hd => rfl); (case hq => exact YlA)) | refine Vr ?_ | refine Vt ?_ | refine Vf ?_ | refine Vm ?_ | refine Ve ?_ | refine Vo ?_ | refine Vz ?_ | refine Vn ?_)
    refine ret2 (by first | exact .inl rfl | exact .inr rfl) rfl rfl rfl ?_
    exact Does_mk (fun w' he => ⟨_, D5.ext he, ⟨j, _, rfl, by omega, hjb, hM5, q1, q2⟩⟩) m5
  replace hg := of_decide_eq_false hg
  have hMl := D3.len
  obtain ⟨p, rfl⟩ : ∃ p, j = p + 1 := ⟨j - 1, by omega⟩
  have hs1 : ((p + 1 : Nat) : Int) - 1 = (p : Int) := by omega
  obtain ⟨x, hx⟩ := D3.get (k := i) (by omega)
  obtain ⟨y, hy⟩ := D3.get (k := p + 1) (by omega)
  have hcx := D3.at hx
  have hcy := D3.at hy
  have hQx := hup x (by omega) hx
  have hPy := hdown y (by omega) hy
  have hij : i < p + 1 := by
    rcases Nat.lt_or_ge i (p + 1) with h | h
    · exact h
    · obtain rfl : i = p + 1 := by omega
      rw [hx] at hy; cases hy
      simp only [ltU] at hQx hPy; omega
  repeat (first | refine Vx ?_ | (apply Ops_q; (case hon => exact Va); (case hd => rfl); (case hq => exact YlA)) | refine Vt ?_ | refine Vf ?_ | refine Vm ?_ | refine Ve ?_ | refine Vo ?_ | refine Vz ?_ | refine Vn ?_)
  refine V_store (R := fun w' => DatU w' base g n cap (M.set (i) y) ∧ Mod (fun c => c = g) w3 w') 14 13 (fun _ _ he h => ⟨h.1.ext he, h.2.ext he⟩) (by kernel_rfl) rfl (by kernel_rfl) ?_
  repeat (first
    | (refine YsS.pure rfl rfl rfl rfl rfl (fun w_ => (by first | exact Yl_move rfl | exact Yl_pred rfl rfl (by omega) | exact Yl_arith_in rfl rfl rfl (by first | assumption | (simp only [InK]; omega)))) ?_)
    | (refine YsS.load rfl rfl rfl rfl rfl (by first | exact Yl_load rfl hcx | exact Yl_load rfl hcy) ?_))
  refine YsS.pure rfl rfl rfl rfl rfl (fun w_ => Yl_indexS (j := (p+1)) rfl rfl (by omega)) ?_
  repeat (first
    | (refine YsS.pure rfl rfl rfl rfl rfl (fun w_ => (by first | exact Yl_move rfl | exact Yl_pred rfl rfl (by omega) | exact Yl_arith_in rfl rfl rfl (by first | assumption | (simp only [InK]; omega)))) ?_)
    | (refine YsS.load rfl rfl rfl rfl rfl (by first | exact Yl_load rfl hcx | exact Yl_load rfl hcy) ?_))
  refine YsS.pure rfl rfl rfl rfl rfl (fun w_ => Yl_indexS (j := (i)) rfl rfl (by omega)) ?_
  repeat (first
    | (refine YsS.pure rfl rfl rfl rfl rfl (fun w_ => (by first | exact Yl_move rfl | exact Yl_pred rfl rfl (by omega) | exact Yl_arith_in rfl rfl rfl (by first | assumption | (simp only [InK]; omega)))) ?_)
    | (refine YsS.load rfl rfl rfl rfl rfl (by first | exact Yl_load rfl hcx | exact Yl_load rfl hcy) ?_))
  refine YsS.pure rfl rfl rfl rfl rfl (fun w_ => Yl_indexS (j := (i)) rfl rfl (by omega)) ?_
  refine YsS.nil rfl ⟨fun a_ ag_ w_ hw_ => storeDatU_run (i := i) (v := y) rfl rfl rfl D3 (by omega) a_ ag_ w_ hw_, ?_⟩
  repeat (first
    | (refine YsS.pure rfl rfl rfl rfl rfl (fun w_ => (by first | exact Yl_move rfl | exact Yl_pred rfl rfl (by omega) | exact Yl_arith_in rfl rfl rfl (by first | assumption | (simp only [InK]; omega)))) ?_)
    | (refine YsS.load rfl rfl rfl rfl rfl (by first | exact Yl_load rfl hcx | exact Yl_load rfl hcy) ?_))
  refine YsS.nil rfl ?_
  rintro w4 ⟨D4, m4⟩
  repeat (first | refine Vx ?_ | (apply Ops_q; (case hon => exact Va); (case hd => rfl); (case hq => exact YlA)) | refine Vr ?_ | refine Vt ?_ | refine Vf ?_ | refine Vm ?_ | refine Ve ?_ | refine Vo ?_ | refine Vz ?_ | refine Vn ?_)
  (apply Ops_q; (case hon => (exact Va)); (case hd => rfl); (case hq => exact Yl_indexS (j := (p+1)) rfl rfl (by omega)))
  repeat (first | refine Vx ?_ | (apply Ops_q; (case hon => exact Va); (case hd => rfl); (case hq => exact YlA)) | refine Vr ?_ | refine Vt ?_ | refine Vf ?_ | refine Vm ?_ | refine Ve ?_ | refine Vo ?_ | refine Vz ?_ | refine Vn ?_)
  refine Ops_storeDatU (i := p+1) (v := x) (by exact Va) rfl rfl rfl D4 (by omega) ?_
  intro w5 D5 g5
  have m5 : Mod (BlkU g) w w5 := (m3.trans m4).grow g5 (fun b hb => .inl (by cases hb; rfl))
  have hsw : (M.set (i) y).set (p+1) x = swp M (i) (p+1) := by unfold swp; rw [hx, hy]
  rw [hsw] at D5
  repeat (first | refine Vx ?_ | (apply Ops_q; (case hon => exact Va); (case hd => rfl); (case hq => exact YlA)) | refine Vr ?_ | refine Vt ?_ | refine Vf ?_ | refine Vm ?_ | refine Ve ?_ | refine Vo ?_ | refine Vz ?_ | refine Vn ?_)
  rw [hs1]
  have hP5 := hP.swap hij (by omega) hx hy hQx hPy
  have hM5 : Moved L (swp M i (p + 1)) a b := hM.trans (Moved.swp (by omega) (by omega) (by omega))
  have hpv5 : (swp M i (p + 1))[a]? = some pv := by rw [swp_get (by omega) (by omega), if_neg (by omega), if_neg (by omega)]; exact hpv
  have h1' : a + 1 ≤ i + 1 := by omega
  have h2' : i + 1 ≤ p + 1 := by omega
  have hjb' : p < b := by omega
  clear hx hy hcx hcy D3 m3 D4 m4 g5 hsw hM hMl hP hup hdown hQx hPy hpv h1 h2 hjb hg hs1 hij
  refine V_loop (fun s : Nat × Nat × List Int => [(10, .int .i64 s.1), (11, .int .i64 s.2.1), (0, .slice (some ⟨g, 0, none⟩) n cap), (1, .int .i64 a)])
    (fun s w' => a + 1 ≤ s.1 ∧ s.1 ≤ s.2.1 + 1 ∧ s.2.1 < b ∧ Mod (BlkU g) w w' ∧ DatU w' base g n cap s.2.2 ∧ Moved L s.2.2 a b ∧ s.2.2[a]? = some pv ∧ PtS (fun x => ltU x pv < 0) (fun x => ¬ltU x pv < 0) s.2.2 a s.1 s.2.1 b) (fun s => s.2.1 + 1 - s.1) (i + 1, p, swp M i (p + 1)) (by repeat (first | exact trivial | refine ⟨rfl, ?_⟩))
    ⟨h1', h2', hjb', m5, D5, hM5, hpv5, hP5⟩ ?_
  clear h1' h2' hjb' m5 D5 hM5 hpv5 hP5
  rintro ⟨i, j, M⟩ w3 ⟨h1, h2, hjb, m3, D3, hM, hpv, hP⟩
  dsimp only at h1 h2 hjb D3 hM hpv hP ⊢
  (repeat (first | refine V_seq ?_ | refine V_block ?_))
  refine V_meetB (fun s : Nat => [(10, .int .i64 s), (11, .int .i64 j), (0, .slice (some ⟨g, 0, none⟩) n cap), (1, .int .i64 a)])
    (fun s w' => Ext w3 w' ∧ i ≤ s ∧ s ≤ j + 1 ∧ PtS (fun x => ltU x pv < 0) (fun x => ¬ltU x pv < 0) M a s j b ∧ ∀ x, s ≤ j → M[s]? = some x → ¬ltU x pv < 0) ?_ ?_
  · refine V_loop (fun s : Nat => [(10, .int .i64 s), (11, .int .i64 j), (0, .slice (some ⟨g, 0, none⟩) n cap), (1, .int .i64 a)])
      (fun s w' => Ext w3 w' ∧ i ≤ s ∧ s ≤ j + 1 ∧ PtS (fun x => ltU x pv < 0) (fun x => ¬ltU x pv < 0) M a s j b) (fun s => j + 1 - s) i (by repeat (first | exact trivial | refine ⟨rfl, ?_⟩)) ⟨Ext.refl _, Nat.le_refl _, h2, hP⟩ ?_
    rintro s w4 ⟨x4, h4, h5, hP4⟩
    have D4 := D3.ext x4
    by_cases hsj : s ≤ j
    · have hd : decide ((s : Int) ≤ (j : Int)) = true := decide_eq_true (by omega)
      obtain ⟨x, hx⟩ := D4.get (k := s) (by omega)
      have hcx := D4.at hx
      have hcp := D4.at hpv
      repeat (first | refine Vx ?_ | (apply Ops_q; (case hon => exact Va); (case hd => rfl); (case hq => exact YlA)) | refine Vr ?_ | refine Vt ?_ | refine Vf ?_ | refine Vm ?_ | refine Ve ?_ | refine Vo ?_ | refine Vz ?_ | refine Vn ?_)
      refine Ops_know rfl rfl hd ?_
      repeat (first | refine Vx ?_ | (apply Ops_q; (case hon => exact Va); (case hd => rfl); (case hq => exact YlA)) | refine Vr ?_ | refine Vt ?_ | refine Vf ?_ | refine Vm ?_ | refine Ve ?_ | refine Vo ?_ | refine Vz ?_ | refine Vn ?_)
      (apply Ops_q; (case hon => (exact Va)); (case hd => rfl); (case hq => exact Yl_indexS (j := s) rfl rfl (by omega)))
      repeat (first | refine Vx ?_ | (apply Ops_q; (case hon => exact Va); (case hd => rfl); (case hq => exact YlA)) | refine Vr ?_ | refine Vt ?_ | refine Vf ?_ | refine Vm ?_ | refine Ve ?_ | refine Vo ?_ | refine Vz ?_ | refine Vn ?_)
      (apply Ops_q; (case hon => (exact Va)); (case hd => rfl); (case hq => exact Yl_indexS (j := a) rfl rfl (by omega)))
      repeat (first | refine Vx ?_ | (apply Ops_q; (case hon => exact Va); (case hd => rfl); (case hq => exact YlA)) | refine Vr ?_ | refine Vt ?_ | refine Vf ?_ | refine Vm ?_ | refine Ve ?_ | refine Vo ?_ | refine Vz ?_ | refine Vn ?_)
      (apply Ops_q; (case hon => (exact Va)); (case hd => rfl); (case hq => exact Yl_call rfl (fun w_ e_ => lessU_v x pv w_)))
      repeat (first | refine Vx ?_ | (apply Ops_q; (case hon => exact Va); (case hd => rfl); (case hq => exact YlA)) | refine Vr ?_ | refine Vt ?_ | refine Vf ?_ | refine Vm ?_ | refine Ve ?_ | refine Vo ?_ | refine Vz ?_ | refine Vn ?_)
      refine V_cond rfl (fun hlt => ?_) (fun hlt => ?_)
      · repeat (first | refine Vx ?_ | (apply Ops_q; (case hon => exact Va); (case hd => rfl); (case hq => exact YlA)) | refine Vr ?_ | refine Vt ?_ | refine Vf ?_ | refine Vm ?_ | refine Ve ?_ | refine Vo ?_ | refine Vz ?_ | refine Vn ?_)
        exact ⟨s + 1, (by repeat (first | exact trivial | refine ⟨rfl, ?_⟩)), ⟨x4, by omega, by omega, hP4.inc hx (by have h := hlt; simp at h; simp only [ltU]; omega)⟩, by omega⟩
      · repeat (first | refine Vx ?_ | (apply Ops_q; (case hon => exact Va); (case hd => rfl); (case hq => exact YlA)) | refine Vr ?_ | refine Vt ?_ | refine Vf ?_ | refine Vm ?_ | refine Ve ?_ | refine Vo ?_ | refine Vz ?_ | refine Vn ?_)
        exact ⟨s, (by repeat (first | exact trivial | refine ⟨rfl, ?_⟩)), x4, h4, h5, hP4, fun z _ hz => by rw [hx] at hz; cases hz; have h := hlt; simp at h; simp only [ltU]; omega⟩
    · have hd : decide ((s : Int) ≤ (j : Int)) = false := decide_eq_false (by omega)
      repeat (first | refine Vx ?_ | (apply Ops_q; (case hon => exact Va); (case hd => rfl); (case hq => exact YlA)) | refine Vr ?_ | refine Vt ?_ | refine Vf ?_ | refine Vm ?_ | refine Ve ?_ | refine Vo ?_ | refine Vz ?_ | refine Vn ?_)
      refine Ops_know rfl rfl hd ?_
      repeat (first | refine Vx ?_ | (apply Ops_q; (case hon => exact Va); (case hd => rfl); (case hq => exact YlA)) | refine Vr ?_ | refine Vt ?_ | refine Vf ?_ | refine Vm ?_ | refine Ve ?_ | refine Vo ?_ | refine Vz ?_ | refine Vn ?_)
      exact ⟨s, (by repeat (first | exact trivial | refine ⟨rfl, ?_⟩)), x4, h4, h5, hP4, fun z h => absurd h hsj⟩
  clear h2 hP
  rintro i w3 ⟨x3, hii, h2, hP, hup⟩
  have D3 := D3.ext x3
  have m3 := m3.ext x3
  replace h1 : a + 1 ≤ i := by omega
  clear x3
  refine V_seq ?_
  refine V_block ?_
  refine V_meetB (fun s : Nat => [(10, .int .i64 i), (11, .int .i64 s), (0, .slice (some ⟨g, 0, none⟩) n cap), (1, .int .i64 a)])
    (fun s w' => Ext w3 w' ∧ i ≤ s + 1 ∧ s ≤ j ∧ PtS (fun x => ltU x pv < 0) (fun x => ¬ltU x pv < 0) M a i s b ∧ ∀ x, i ≤ s → M[s]? = some x → ltU x pv < 0) ?_ ?_
  · refine V_loop (fun s : Nat => [(10, .int .i64 i), (11, .int .i64 s), (0, .slice (some ⟨g, 0, none⟩) n cap), (1, .int .i64 a)])
      (fun s w' => Ext w3 w' ∧ i ≤ s + 1 ∧ s ≤ j ∧ PtS (fun x => ltU x pv < 0) (fun x => ¬ltU x pv < 0) M a i s b) (fun s => s) j (by repeat (first | exact trivial | refine ⟨rfl, ?_⟩)) ⟨Ext.refl _, h2, Nat.le_refl _, hP⟩ ?_
    rintro s w4 ⟨x4, h4, h5, hP4⟩
    have D4 := D3.ext x4
    by_cases hsj : i ≤ s
    · obtain ⟨p, rfl⟩ : ∃ p, s = p + 1 := ⟨s - 1, by omega⟩
      have hs1 : ((p + 1 : Nat) : Int) - 1 = (p : Int) := by omega
      have hd : decide ((i : Int) ≤ ((p + 1 : Nat) : Int)) = true := decide_eq_true (by omega)
      obtain ⟨x, hx⟩ := D4.get (k := p + 1) (by omega)
      have hcx := D4.at hx
      have hcp := D4.at hpv
      repeat (first | refine Vx ?_ | (apply Ops_q; (case hon => exact Va); (case hd => rfl); (case hq => exact YlA)) | refine Vr ?_ | refine Vt ?_ | refine Vf ?_ | refine Vm ?_ | refine Ve ?_ | refine Vo ?_ | refine Vz ?_ | refine Vn ?_)
      refine Ops_know rfl rfl hd ?_
      repeat (first | refine Vx ?_ | (apply Ops_q; (case hon => exact Va); (case hd => rfl); (case hq => exact YlA)) | refine Vr ?_ | refine Vt ?_ | refine Vf ?_ | refine Vm ?_ | refine Ve ?_ | refine Vo ?_ | refine Vz ?_ | refine Vn ?_)
      (apply Ops_q; (case hon => (exact Va)); (case hd => rfl); (case hq => exact Yl_indexS (j := (p+1)) rfl rfl (by omega)))
      repeat (first | refine Vx ?_ | (apply Ops_q; (case hon => exact Va); (case hd => rfl); (case hq => exact YlA)) | refine Vr ?_ | refine Vt ?_ | refine Vf ?_ | refine Vm ?_ | refine Ve ?_ | refine Vo ?_ | refine Vz ?_ | refine Vn ?_)
      (apply Ops_q; (case hon => (exact Va)); (case hd => rfl); (case hq => exact Yl_indexS (j := a) rfl rfl (by omega)))
      repeat (first | refine Vx ?_ | (apply Ops_q; (case hon => exact Va); (case hd => rfl); (case hq => exact YlA)) | refine Vr ?_ | refine Vt ?_ | refine Vf ?_ | refine Vm ?_ | refine Ve ?_ | refine Vo ?_ | refine Vz ?_ | refine Vn ?_)
      (apply Ops_q; (case hon => (exact Va)); (case hd => rfl); (case hq => exact Yl_call rfl (fun w_ e_ => lessU_v x pv w_)))
      repeat (first | refine Vx ?_ | (apply Ops_q; (case hon => exact Va); (case hd => rfl); (case hq => exact YlA)) | refine Vr ?_ | refine Vt ?_ | refine Vf ?_ | refine Vm ?_ | refine Ve ?_ | refine Vo ?_ | refine Vz ?_ | refine Vn ?_)
      refine V_cond rfl (fun hlt => ?_) (fun hlt => ?_)
      · repeat (first | refine Vx ?_ | (apply Ops_q; (case hon => exact Va); (case hd => rfl); (case hq => exact YlA)) | refine Vr ?_ | refine Vt ?_ | refine Vf ?_ | refine Vm ?_ | refine Ve ?_ | refine Vo ?_ | refine Vz ?_ | refine Vn ?_)
        rw [hs1]
        exact ⟨p, (by repeat (first | exact trivial | refine ⟨rfl, ?_⟩)), ⟨x4, hsj, by omega, hP4.dec hx (by have h := hlt; simp at h; simp only [ltU]; omega)⟩, by omega⟩
      · repeat (first | refine Vx ?_ | (apply Ops_q; (case hon => exact Va); (case hd => rfl); (case hq => exact YlA)) | refine Vr ?_ | refine Vt ?_ | refine Vf ?_ | refine Vm ?_ | refine Ve ?_ | refine Vo ?_ | refine Vz ?_ | refine Vn ?_)
        exact ⟨p + 1, (by repeat (first | exact trivial | refine ⟨rfl, ?_⟩)), x4, h4, h5, hP4, fun z _ hz => by rw [hx] at hz; cases hz; have h := hlt; simp at h; simp only [ltU]; omega⟩
    · have hd : decide ((i : Int) ≤ (s : Int)) = false := decide_eq_false (by omega)
      repeat (first | refine Vx ?_ | (apply Ops_q; (case hon => exact Va); (case hd => rfl); (case hq => exact YlA)) | refine Vr ?_ | refine Vt ?_ | refine Vf ?_ | refine Vm ?_ | refine Ve ?_ | refine Vo ?_ | refine Vz ?_ | refine Vn ?_)
      refine Ops_know rfl rfl hd ?_
      repeat (first | refine Vx ?_ | (apply Ops_q; (case hon => exact Va); (case hd => rfl); (case hq => exact YlA)) | refine Vr ?_ | refine Vt ?_ | refine Vf ?_ | refine Vm ?_ | refine Ve ?_ | refine Vo ?_ | refine Vz ?_ | refine Vn ?_)
      exact ⟨s, (by repeat (first | exact trivial | refine ⟨rfl, ?_⟩)), x4, h4, h5, hP4, fun z h => absurd h hsj⟩
  clear h2 hP
  rintro j w3 ⟨x3, h2, hjj, hP, hdown⟩
  have D3 := D3.ext x3
  have m3 := m3.ext x3
  replace hjb : j < b := by omega
  replace hup : ∀ x, i ≤ j → M[i]? = some x → ¬ltU x pv < 0 := fun x h => hup x (by omega)
  clear x3
  repeat (first | refine Vx ?_ | (apply Ops_q; (case hon => exact Va); (case hd => rfl); (case hq => exact YlA)) | refine Vr ?_ | refine Vt ?_ | refine Vf ?_ | refine Vm ?_ | refine Ve ?_ | refine Vo ?_ | refine Vz ?_ | refine Vn ?_)
  refine V_cond rfl (fun hg => ?_) (fun hg => ?_)
  · replace hg := of_decide_eq_true hg
    obtain rfl : i = j + 1 := by omega
    have hMl := D3.len
    obtain ⟨x, hx⟩ := D3.get (k := j) (by omega)
    obtain ⟨y, hy⟩ := D3.get (k := a) (by omega)
    have hcx := D3.at hx
    have hcy := D3.at hy
    repeat (first | refine Vx ?_ | (apply Ops_q; (case hon => exact Va); (case hd => rfl); (case hq => exact YlA)) | refine Vt ?_ | refine Vf ?_ | refine Vm ?_ | refine Ve ?_ | refine Vo ?_ | refine Vz ?_ | refine Vn ?_)
    refine V_store (R := fun w' => DatU w' base g n cap (M.set (j) y) ∧ Mod (fun c => c = g) w3 w') 14 13 (fun _ _ he h => ⟨h.1.ext he, h.2.ext he⟩) (by kernel_rfl) rfl (by kernel_rfl) ?_
    repeat (first
      | (refine YsS.pure rfl rfl rfl rfl rfl (fun w_ => (by first | exact Yl_move rfl | exact Yl_pred rfl rfl (by omega) | exact Yl_arith_in rfl rfl rfl (by first | assumption | (simp only [InK]; omega)))) ?_)
      | (refine YsS.load rfl rfl rfl rfl rfl (by first | exact Yl_load rfl hcx | exact Yl_load rfl hcy) ?_))
    refine YsS.pure rfl rfl rfl rfl rfl (fun w_ => Yl_indexS (j := (a)) rfl rfl (by omega)) ?_
    repeat (first
      | (refine YsS.pure rfl rfl rfl rfl rfl (fun w_ => (by first | exact Yl_move rfl | exact Yl_pred rfl rfl (by omega) | exact Yl_arith_in rfl rfl rfl (by first | assumption | (simp only [InK]; omega)))) ?_)
      | (refine YsS.load rfl rfl rfl rfl rfl (by first | exact Yl_load rfl hcx | exact Yl_load rfl hcy) ?_))
    refine YsS.pure rfl rfl rfl rfl rfl (fun w_ => Yl_indexS (j := (j)) rfl rfl (by omega)) ?_
    repeat (first
      | (refine YsS.pure rfl rfl rfl rfl rfl (fun w_ => (by first | exact Yl_move rfl | exact Yl_pred rfl rfl (by omega) | exact Yl_arith_in rfl rfl rfl (by first | assumption | (simp only [InK]; omega)))) ?_)
      | (refine YsS.load rfl rfl rfl rfl rfl (by first | exact Yl_load rfl hcx | exact Yl_load rfl hcy) ?_))
    refine YsS.pure rfl rfl rfl rfl rfl (fun w_ => Yl_indexS (j := (j)) rfl rfl (by omega)) ?_
    refine YsS.nil rfl ⟨fun a_ ag_ w_ hw_ => storeDatU_run (i := j) (v := y) rfl rfl rfl D3 (by omega) a_ ag_ w_ hw_, ?_⟩
    repeat (first
      | (refine YsS.pure rfl rfl rfl rfl rfl (fun w_ => (by first | exact Yl_move rfl | exact Yl_pred rfl rfl (by omega) | exact Yl_arith_in rfl rfl rfl (by first | assumption | (simp only [InK]; omega)))) ?_)
      | (refine YsS.load rfl rfl rfl rfl rfl (by first | exact Yl_load rfl hcx | exact Yl_load rfl hcy) ?_))
    refine YsS.nil rfl ?_
    rintro w4 ⟨D4, m4⟩
    repeat (first | refine Vx ?_ | (apply Ops_q; (case hon => exact Va); (case hd => rfl); (case hq => exact YlA)) | refine Vr ?_ | refine Vt ?_ | refine Vf ?_ | refine Vm ?_ | refine Ve ?_ | refine Vo ?_ | refine Vz ?_ | refine Vn ?_)
    (apply Ops_q; (case hon => (exact Va)); (case hd => rfl); (case hq => exact Yl_indexS (j := (a)) rfl rfl (by omega)))
    repeat (first | refine Vx ?_ | (apply Ops_q; (case hon => exact Va); (case hd => rfl); (case hq => exact YlA)) | refine Vr ?_ | refine Vt ?_ | refine Vf ?_ | refine Vm ?_ | refine Ve ?_ | refine Vo ?_ | refine Vz ?_ | refine Vn ?_)
    refine Ops_storeDatU (i := a) (v := x) (by exact Va) rfl rfl rfl D4 (by omega) ?_
    intro w5 D5 g5
    have m5 : Mod (BlkU g) w w5 := (m3.trans m4).grow g5 (fun b hb => .inl (by cases hb; rfl))
    have hsw : (M.set (j) y).set (a) x = swp M (j) (a) := by unfold swp; rw [hx, hy]
    rw [hsw] at D5
    have hM5 : Moved L (swp M j a) a b := hM.trans (Moved.swp (by omega) (by omega) (by omega))
    obtain ⟨q1, q2⟩ := part_end ordU hP hpv (by omega) (by omega)
    repeat (first | refine Vx ?_ | (apply Ops_q; (case hon => exact Va); (case hd => rfl); (case hq => exact YlA)) | refine Vr ?_ | refine Vt ?_ | refine Vf ?_ | refine Vm ?_ | refine Ve ?_ | refine Vo ?_ | refine Vz ?_ | refine Vn ?_)
    refine ret2 (by first | exact .inl rfl | exact .inr rfl) rfl rfl rfl ?_
    exact Does_mk (fun w' he => ⟨_, D5.ext he, ⟨j, _, rfl, by omega, hjb, hM5, q1, q2⟩⟩) m5
  replace hg := of_decide_eq_false hg
  have hMl := D3.len
  obtain ⟨p, rfl⟩ : ∃ p, j = p + 1 := ⟨j - 1, by omega⟩
  have hs1 : ((p + 1 : Nat) : Int) - 1 = (p : Int) := by omega
  obtain ⟨x, hx⟩ := D3.get (k := i) (by omega)
  obtain ⟨y, hy⟩ := D3.get (k := p + 1) (by omega)
  have hcx := D3.at hx
  have hcy := D3.at hy
  have hQx := hup x (by omega) hx
  have hPy := hdown y (by omega) hy
  have hij : i < p + 1 := by
    rcases Nat.lt_or_ge i (p + 1) with h | h
    · exact h
    · obtain rfl : i = p + 1 := by omega
      rw [hx] at hy; cases hy
      simp only [ltU] at hQx hPy; omega
  repeat (first | refine Vx ?_ | (apply Ops_q; (case hon => exact Va); (case hd => rfl); (case hq => exact YlA)) | refine Vt ?_ | refine Vf ?_ | refine Vm ?_ | refine Ve ?_ | refine Vo ?_ | refine Vz ?_ | refine Vn ?_)
  refine V_store (R := fun w' => DatU w' base g n cap (M.set (i) y) ∧ Mod (fun c => c = g) w3 w') 14 13 (fun _ _ he h => ⟨h.1.ext he, h.2.ext he⟩) (by kernel_rfl) rfl (by kernel_rfl) ?_
  repeat (first
    | (refine YsS.pure rfl rfl rfl rfl rfl (fun w_ => (by first | exact Yl_move rfl | exact Yl_pred rfl rfl (by omega) | exact Yl_arith_in rfl rfl rfl (by first | assumption | (simp only [InK]; omega)))) ?_)
    | (refine YsS.load rfl rfl rfl rfl rfl (by first | exact Yl_load rfl hcx | exact Yl_load rfl hcy) ?_))
  refine YsS.pure rfl rfl rfl rfl rfl (fun w_ => Yl_indexS (j := (p+1)) rfl rfl (by omega)) ?_
  repeat (first
    | (refine YsS.pure rfl rfl rfl rfl rfl (fun w_ => (by first | exact Yl_move rfl | exact Yl_pred rfl rfl (by omega) | exact Yl_arith_in rfl rfl rfl (by first | assumption | (simp only [InK]; omega)))) ?_)
    | (refine YsS.load rfl rfl rfl rfl rfl (by first | exact Yl_load rfl hcx | exact Yl_load rfl hcy) ?_))
  refine YsS.pure rfl rfl rfl rfl rfl (fun w_ => Yl_indexS (j := (i)) rfl rfl (by omega)) ?_
  repeat (first
    | (refine YsS.pure rfl rfl rfl rfl rfl (fun w_ => (by first | exact Yl_move rfl | exact Yl_pred rfl rfl (by omega) | exact Yl_arith_in rfl rfl rfl (by first | assumption | (simp only [InK]; omega)))) ?_)
    | (refine YsS.load rfl rfl rfl rfl rfl (by first | exact Yl_load rfl hcx | exact Yl_load rfl hcy) ?_))
  refine YsS.pure rfl rfl rfl rfl rfl (fun w_ => Yl_indexS (j := (i)) rfl rfl (by omega)) ?_
  refine YsS.nil rfl ⟨fun a_ ag_ w_ hw_ => storeDatU_run (i := i) (v := y) rfl rfl rfl D3 (by omega) a_ ag_ w_ hw_, ?_⟩
  repeat (first
    | (refine YsS.pure rfl rfl rfl rfl rfl (fun w_ => (by first | exact Yl_move rfl | exact Yl_pred rfl rfl (by omega) | exact Yl_arith_in rfl rfl rfl (by first | assumption | (simp only [InK]; omega)))) ?_)
    | (refine YsS.load rfl rfl rfl rfl rfl (by first | exact Yl_load rfl hcx | exact Yl_load rfl hcy) ?_))
  refine YsS.nil rfl ?_
  rintro w4 ⟨D4, m4⟩
  repeat (first | refine Vx ?_ | (apply Ops_q; (case hon => exact Va); (case hd => rfl); (case hq => exact YlA)) | refine Vr ?_ | refine Vt ?_ | refine Vf ?_ | refine Vm ?_ | refine Ve ?_ | refine Vo ?_ | refine Vz ?_ | refine Vn ?_)
  (apply Ops_q; (case hon => (exact Va)); (case hd => rfl); (case hq => exact Yl_indexS (j := (p+1)) rfl rfl (by omega)))
  repeat (first | refine Vx ?_ | (apply Ops_q; (case hon => exact Va); (case hd => rfl); (case hq => exact YlA)) | refine Vr ?_ | refine Vt ?_ | refine Vf ?_ | refine Vm ?_ | refine Ve ?_ | refine Vo ?_ | refine Vz ?_ | refine Vn ?_)
  refine Ops_storeDatU (i := p+1) (v := x) (by exact Va) rfl rfl rfl D4 (by omega) ?_
  intro w5 D5 g5
  have m5 : Mod (BlkU g) w w5 := (m3.trans m4).grow g5 (fun b hb => .inl (by cases hb; rfl))
  have hsw : (M.set (i) y).set (p+1) x = swp M (i) (p+1) := by unfold swp; rw [hx, hy]
  rw [hsw] at D5
  repeat (first | refine Vx ?_ | (apply Ops_q; (case hon => exact Va); (case hd => rfl); (case hq => exact YlA)) | refine Vr ?_ | refine Vt ?_ | refine Vf ?_ | refine Vm ?_ | refine Ve ?_ | refine Vo ?_ | refine Vz ?_ | refine Vn ?_)
  rw [hs1]
  have hP5 := hP.swap hij (by omega) hx hy hQx hPy
  have hM5 : Moved L (swp M i (p + 1)) a b := hM.trans (Moved.swp (by omega) (by omega) (by omega))
  have hpv5 : (swp M i (p + 1))[a]? = some pv := by rw [swp_get (by omega) (by omega), if_neg (by omega), if_neg (by omega)]; exact hpv
  exact ⟨(i + 1, p, swp M i (p + 1)), (by repeat (first | exact trivial | refine ⟨rfl, ?_⟩)), ⟨by dsimp only; omega, by dsimp only; omega, by dsimp only; omega, m5, D5, hM5, hpv5, hP5⟩, by simp only; omega⟩
set_option maxHeartbeats 2000000 in
theorem partEqU_v (L : List Int) (a b p0 : Nat) (pv : Int) (w : World) (hD : DatU w base g n cap L) (hn : n ≤ 1000000000000) (hb : b ≤ n) (hab : a < b) (hp0 : a ≤ p0 ∧ p0 < b) (hv0 : L[p0]? = some pv) :
    Calls Try.prog 117 #[.slice (some ⟨g, 0, none⟩) n cap, .int .i64 a, .int .i64 b, .int .i64 p0] w
      (Does (BlkU g) (DatV base g n cap (fun r L' => ∃ i : Nat, r = .int .i64 i ∧ a < i ∧ i ≤ b ∧ Moved L L' a b ∧ (∀ k x, a ≤ k → k < i → L'[k]? = some x → ¬ltU pv x < 0) ∧ ∀ k x, i ≤ k → k < b → L'[k]? = some x → ltU pv x < 0)) w) := by
  obtain ⟨z, hbz⟩ : ∃ z, z + 1 = b := ⟨b - 1, by omega⟩
  have hz : (b : Int) - 1 = (z : Int) := by omega
  have hMl := hD.len
  obtain ⟨x, hx⟩ := hD.get (k := a) (by omega)
  obtain ⟨y, hy⟩ := hD.get (k := p0) (by omega)
  obtain rfl : y = pv := Option.some.inj (hy.symm.trans hv0)
  have hcx := hD.at hx
  have hcy := hD.at hy
  have m3 : Mod (BlkU g) w w := .of_ext (Ext.refl _)
  refine V_enter (vs := [_, _, _, _]) Try.func117 rfl Try.ntmps117 (Nat.le_of_ble_eq_true rfl) ?_
  repeat (first | refine Vx ?_ | (apply Ops_q; (case hon => exact Va); (case hd => rfl); (case hq => exact YlA)) | refine Vt ?_ | refine Vf ?_ | refine Vm ?_ | refine Ve ?_ | refine Vo ?_ | refine Vz ?_ | refine Vn ?_)
  refine V_store (R := fun w' => DatU w' base g n cap (L.set (a) y) ∧ Mod (fun c => c = g) w w') 14 13 (fun _ _ he h => ⟨h.1.ext he, h.2.ext he⟩) (by kernel_rfl) rfl (by kernel_rfl) ?_
  repeat (first
    | (refine YsS.pure rfl rfl rfl rfl rfl (fun w_ => (by first | exact Yl_move rfl | exact Yl_pred rfl rfl (by omega) | exact Yl_arith_in rfl rfl rfl (by first | assumption | (simp only [InK]; omega)))) ?_)
    | (refine YsS.load rfl rfl rfl rfl rfl (by first | exact Yl_load rfl hcx | exact Yl_load rfl hcy) ?_))
  refine YsS.pure rfl rfl rfl rfl rfl (fun w_ => Yl_indexS (j := (p0)) rfl rfl (by omega)) ?_
  repeat (first
    | (refine YsS.pure rfl rfl rfl rfl rfl (fun w_ => (by first | exact Yl_move rfl | exact Yl_pred rfl rfl (by omega) | exact Yl_arith_in rfl rfl rfl (by first | assumption | (simp only [InK]; omega)))) ?_)
    | (refine YsS.load rfl rfl rfl rfl rfl (by first | exact Yl_load rfl hcx | exact Yl_load rfl hcy) ?_))
  refine YsS.pure rfl rfl rfl rfl rfl (fun w_ => Yl_indexS (j := (a)) rfl rfl (by omega)) ?_
  repeat (first
    | (refine YsS.pure rfl rfl rfl rfl rfl (fun w_ => (by first | exact Yl_move rfl | exact Yl_pred rfl rfl (by omega) | exact Yl_arith_in rfl rfl rfl (by first | assumption | (simp only [InK]; omega)))) ?_)
    | (refine YsS.load rfl rfl rfl rfl rfl (by first | exact Yl_load rfl hcx | exact Yl_load rfl hcy) ?_))
  refine YsS.pure rfl rfl rfl rfl rfl (fun w_ => Yl_indexS (j := (a)) rfl rfl (by omega)) ?_
  refine YsS.nil rfl ⟨fun a_ ag_ w_ hw_ => storeDatU_run (i := a) (v := y) rfl rfl rfl hD (by omega) a_ ag_ w_ hw_, ?_⟩
  repeat (first
    | (refine YsS.pure rfl rfl rfl rfl rfl (fun w_ => (by first | exact Yl_move rfl | exact Yl_pred rfl rfl (by omega) | exact Yl_arith_in rfl rfl rfl (by first | assumption | (simp only [InK]; omega)))) ?_)
    | (refine YsS.load rfl rfl rfl rfl rfl (by first | exact Yl_load rfl hcx | exact Yl_load rfl hcy) ?_))
  refine YsS.nil rfl ?_
  rintro w4 ⟨D4, m4⟩
  repeat (first | refine Vx ?_ | (apply Ops_q; (case hon => exact Va); (case hd => rfl); (case hq => exact YlA)) | refine Vr ?_ | refine Vt ?_ | refine Vf ?_ | refine Vm ?_ | refine Ve ?_ | refine Vo ?_ | refine Vz ?_ | refine Vn ?_)
  (apply Ops_q; (case hon => (exact Va)); (case hd => rfl); (case hq => exact Yl_indexS (j := (p0)) rfl rfl (by omega)))
  repeat (first | refine Vx ?_ | (apply Ops_q; (case hon => exact Va); (case hd => rfl); (case hq => exact YlA)) | refine Vr ?_ | refine Vt ?_ | refine Vf ?_ | refine Vm ?_ | refine Ve ?_ | refine Vo ?_ | refine Vz ?_ | refine Vn ?_)
  refine Ops_storeDatU (i := p0) (v := x) (by exact Va) rfl rfl rfl D4 (by omega) ?_
  intro w5 D5 g5
  have m5 : Mod (BlkU g) w w5 := (m3.trans m4).grow g5 (fun b hb => .inl (by cases hb; rfl))
  have hsw : (L.set (a) y).set (p0) x = swp L (a) (p0) := by unfold swp; rw [hx, hy]
  rw [hsw] at D5
  have hM : Moved L (swp L a p0) a b := Moved.swp (by omega) hp0 (by omega)
  have hpv : (swp L a p0)[a]? = some y := by
    rw [swp_get (by omega) (by omega)]
    by_cases e : a = p0
    · rw [if_pos e, e]; exact hy
    · rw [if_neg e, if_pos rfl]; exact hy
  generalize swp L a p0 = M at *
  clear hx hy hcx hcy D4 m4 g5 hsw m3 hD hMl hv0
  have hMl := D5.len
  repeat (first | refine Vx ?_ | (apply Ops_q; (case hon => exact Va); (case hd => rfl); (case hq => exact YlA)) | refine Vr ?_ | refine Vt ?_ | refine Vf ?_ | refine Vm ?_ | refine Ve ?_ | refine Vo ?_ | refine Vz ?_ | refine Vn ?_)
  rw [hz]
  have hP : PtS (fun x => ¬ltU y x < 0) (fun x => ltU y x < 0) M a (a + 1) z b := .start hbz
  have hzb : z < b := by omega
  have haz : a + 1 ≤ z + 1 := by omega
  obtain ⟨pv, hpve⟩ : ∃ pv, pv = y := ⟨_, rfl⟩
  rw [← hpve] at hpv hP ⊢
  clear hpve hp0
  refine V_loop (fun s : Nat × Nat × List Int => [(9, .int .i64 s.1), (10, .int .i64 s.2.1), (0, .slice (some ⟨g, 0, none⟩) n cap), (1, .int .i64 a)])
    (fun s w' => a + 1 ≤ s.1 ∧ s.1 ≤ s.2.1 + 1 ∧ s.2.1 < b ∧ Mod (BlkU g) w w' ∧ DatU w' base g n cap s.2.2 ∧ Moved L s.2.2 a b ∧ s.2.2[a]? = some pv ∧ PtS (fun x => ¬ltU pv x < 0) (fun x => ltU pv x < 0) s.2.2 a s.1 s.2.1 b) (fun s => s.2.1 + 1 - s.1) (a + 1, z, M) (by repeat (first | exact trivial | refine ⟨rfl, ?_⟩))
    ⟨Nat.le_refl _, haz, hzb, m5, D5, hM, hpv, hP⟩ ?_
  clear haz hzb m5 D5 hM hpv hP hz hbz hMl
  rintro ⟨i, j, M⟩ w3 ⟨h1, h2, hjb, m3, D3, hM, hpv, hP⟩
  dsimp only at h1 h2 hjb D3 hM hpv hP ⊢
  (repeat (first | refine V_seq ?_ | refine V_block ?_))
  refine V_meetB (fun s : Nat => [(9, .int .i64 s), (10, .int .i64 j), (0, .slice (some ⟨g, 0, none⟩) n cap), (1, .int .i64 a)])
    (fun s w' => Ext w3 w' ∧ i ≤ s ∧ s ≤ j + 1 ∧ PtS (fun x => ¬ltU pv x < 0) (fun x => ltU pv x < 0) M a s j b ∧ ∀ x, s ≤ j → M[s]? = some x → ltU pv x < 0) ?_ ?_
  · refine V_loop (fun s : Nat => [(9, .int .i64 s), (10, .int .i64 j), (0, .slice (some ⟨g, 0, none⟩) n cap), (1, .int .i64 a)])
      (fun s w' => Ext w3 w' ∧ i ≤ s ∧ s ≤ j + 1 ∧ PtS (fun x => ¬ltU pv x < 0) (fun x => ltU pv x < 0) M a s j b) (fun s => j + 1 - s) i (by repeat (first | exact trivial | refine ⟨rfl, ?_⟩)) ⟨Ext.refl _, Nat.le_refl _, h2, hP⟩ ?_
    rintro s w4 ⟨x4, h4, h5, hP4⟩
    have D4 := D3.ext x4
    by_cases hsj : s ≤ j
    · have hd : decide ((s : Int) ≤ (j : Int)) = true := decide_eq_true (by omega)
      obtain ⟨x, hx⟩ := D4.get (k := s) (by omega)
      have hcx := D4.at hx
      have hcp := D4.at hpv
      repeat (first | refine Vx ?_ | (apply Ops_q; (case hon => exact Va); (case hd => rfl); (case hq => exact YlA)) | refine Vr ?_ | refine Vt ?_ | refine Vf ?_ | refine Vm ?_ | refine Ve ?_ | refine Vo ?_ | refine Vz ?_ | refine Vn ?_)
      refine Ops_know rfl rfl hd ?_
      repeat (first | refine Vx ?_ | (apply Ops_q; (case hon => exact Va); (case hd => rfl); (case hq => exact YlA)) | refine Vr ?_ | refine Vt ?_ | refine Vf ?_ | refine Vm ?_ | refine Ve ?_ | refine Vo ?_ | refine Vz ?_ | refine Vn ?_)
      (apply Ops_q; (case hon => (exact Va)); (case hd => rfl); (case hq => exact Yl_indexS (j := a) rfl rfl (by omega)))
      repeat (first | refine Vx ?_ | (apply Ops_q; (case hon => exact Va); (case hd => rfl); (case hq => exact YlA)) | refine Vr ?_ | refine Vt ?_ | refine Vf ?_ | refine Vm ?_ | refine Ve ?_ | refine Vo ?_ | refine Vz ?_ | refine Vn ?_)
      (apply Ops_q; (case hon => (exact Va)); (case hd => rfl); (case hq => exact Yl_indexS (j := s) rfl rfl (by omega)))
      repeat (first | refine Vx ?_ | (apply Ops_q; (case hon => exact Va); (case hd => rfl); (case hq => exact YlA)) | refine Vr ?_ | refine Vt ?_ | refine Vf ?_ | refine Vm ?_ | refine Ve ?_ | refine Vo ?_ | refine Vz ?_ | refine Vn ?_)
      (apply Ops_q; (case hon => (exact Va)); (case hd => rfl); (case hq => exact Yl_call rfl (fun w_ e_ => lessU_v pv x w_)))
      repeat (first | refine Vx ?_ | (apply Ops_q; (case hon => exact Va); (case hd => rfl); (case hq => exact YlA)) | refine Vr ?_ | refine Vt ?_ | refine Vf ?_ | refine Vm ?_ | refine Ve ?_ | refine Vo ?_ | refine Vz ?_ | refine Vn ?_)
      refine V_cond rfl (fun hlt => ?_) (fun hlt => ?_)
      · repeat (first | refine Vx ?_ | (apply Ops_q; (case hon => exact Va); (case hd => rfl); (case hq => exact YlA)) | refine Vr ?_ | refine Vt ?_ | refine Vf ?_ | refine Vm ?_ | refine Ve ?_ | refine Vo ?_ | refine Vz ?_ | refine Vn ?_)
        exact ⟨s + 1, (by repeat (first | exact trivial | refine ⟨rfl, ?_⟩)), ⟨x4, by omega, by omega, hP4.inc hx (by have h := hlt; simp at h; simp only [ltU]; omega)⟩, by omega⟩
      · repeat (first | refine Vx ?_ | (apply Ops_q; (case hon => exact Va); (case hd => rfl); (case hq => exact YlA)) | refine Vr ?_ | refine Vt ?_ | refine Vf ?_ | refine Vm ?_ | refine Ve ?_ | refine Vo ?_ | refine Vz ?_ | refine Vn ?_)
        exact ⟨s, (by repeat (first | exact trivial | refine ⟨rfl, ?_⟩)), x4, h4, h5, hP4, fun z _ hz => by rw [hx] at hz; cases hz; have h := hlt; simp at h; simp only [ltU]; omega⟩
    · have hd : decide ((s : Int) ≤ (j : Int)) = false := decide_eq_false (by omega)
      repeat (first | refine Vx ?_ | (apply Ops_q; (case hon => exact Va); (case hd => rfl); (case hq => exact YlA)) | refine Vr ?_ | refine Vt ?_ | refine Vf ?_ | refine Vm ?_ | refine Ve ?_ | refine Vo ?_ | refine Vz ?_ | refine Vn ?_)
      refine Ops_know rfl rfl hd ?_
      repeat (first | refine Vx ?_ | (apply Ops_q; (case hon => exact Va); (case hd => rfl); (case hq => exact YlA)) | refine Vr ?_ | refine Vt ?_ | refine Vf ?_ | refine Vm ?_ | refine Ve ?_ | refine Vo ?_ | refine Vz ?_ | refine Vn ?_)
      exact ⟨s, (by repeat (first | exact trivial | refine ⟨rfl, ?_⟩)), x4, h4, h5, hP4, fun z h => absurd h hsj⟩
  clear h2 hP
  rintro i w3 ⟨x3, hii, h2, hP, hup⟩
  have D3 := D3.ext x3
  have m3 := m3.ext x3
  replace h1 : a + 1 ≤ i := by omega
  clear x3
  refine V_seq ?_
  refine V_block ?_
  refine V_meetB (fun s : Nat => [(9, .int .i64 i), (10, .int .i64 s), (0, .slice (some ⟨g, 0, none⟩) n cap), (1, .int .i64 a)])
    (fun s w' => Ext w3 w' ∧ i ≤ s + 1 ∧ s ≤ j ∧ PtS (fun x => ¬ltU pv x < 0) (fun x => ltU pv x < 0) M a i s b ∧ ∀ x, i ≤ s → M[s]? = some x → ¬ltU pv x < 0) ?_ ?_
  · refine V_loop (fun s : Nat => [(9, .int .i64 i), (10, .int .i64 s), (0, .slice (some ⟨g, 0, none⟩) n cap), (1, .int .i64 a)])
      (fun s w' => Ext w3 w' ∧ i ≤ s + 1 ∧ s ≤ j ∧ PtS (fun x => ¬ltU pv x < 0) (fun x => ltU pv x < 0) M a i s b) (fun s => s) j (by repeat (first | exact trivial | refine ⟨rfl, ?_⟩)) ⟨Ext.refl _, h2, Nat.le_refl _, hP⟩ ?_
    rintro s w4 ⟨x4, h4, h5, hP4⟩
    have D4 := D3.ext x4
    by_cases hsj : i ≤ s
    · obtain ⟨p, rfl⟩ : ∃ p, s = p + 1 := ⟨s - 1, by omega⟩
      have hs1 : ((p + 1 : Nat) : Int) - 1 = (p : Int) := by omega
      have hd : decide ((i : Int) ≤ ((p + 1 : Nat) : Int)) = true := decide_eq_true (by omega)
      obtain ⟨x, hx⟩ := D4.get (k := p + 1) (by omega)
      have hcx := D4.at hx
      have hcp := D4.at hpv
      repeat (first | refine Vx ?_ | (apply Ops_q; (case hon => exact Va); (case hd => rfl); (case hq => exact YlA)) | refine Vr ?_ | refine Vt ?_ | refine Vf ?_ | refine Vm ?_ | refine Ve ?_ | refine Vo ?_ | refine Vz ?_ | refine Vn ?_)
      refine Ops_know rfl rfl hd ?_
      repeat (first | refine Vx ?_ | (apply Ops_q; (case hon => exact Va); (case hd => rfl); (case hq => exact YlA)) | refine Vr ?_ | refine Vt ?_ | refine Vf ?_ | refine Vm ?_ | refine Ve ?_ | refine Vo ?_ | refine Vz ?_ | refine Vn ?_)
      (apply Ops_q; (case hon => (exact Va)); (case hd => rfl); (case hq => exact Yl_indexS (j := a) rfl rfl (by omega)))
      repeat (first | refine Vx ?_ | (apply Ops_q; (case hon => exact Va); (case hd => rfl); (case hq => exact YlA)) | refine Vr ?_ | refine Vt ?_ | refine Vf ?_ | refine Vm ?_ | refine Ve ?_ | refine Vo ?_ | refine Vz ?_ | refine Vn ?_)
      (apply Ops_q; (case hon => (exact Va)); (case hd => rfl); (case hq => exact Yl_indexS (j := (p+1)) rfl rfl (by omega)))
      repeat (first | refine Vx ?_ | (apply Ops_q; (case hon => exact Va); (case hd => rfl); (case hq => exact YlA)) | refine Vr ?_ | refine Vt ?_ | refine Vf ?_ | refine Vm ?_ | refine Ve ?_ | refine Vo ?_ | refine Vz ?_ | refine Vn ?_)
      (apply Ops_q; (case hon => (exact Va)); (case hd => rfl); (case hq => exact Yl_call rfl (fun w_ e_ => lessU_v pv x w_)))
      repeat (first | refine Vx ?_ | (apply Ops_q; (case hon => exact Va); (case hd => rfl); (case hq => exact YlA)) | refine Vr ?_ | refine Vt ?_ | refine Vf ?_ | refine Vm ?_ | refine Ve ?_ | refine Vo ?_ | refine Vz ?_ | refine Vn ?_)
      refine V_cond rfl (fun hlt => ?_) (fun hlt => ?_)
      · repeat (first | refine Vx ?_ | (apply Ops_q; (case hon => exact Va); (case hd => rfl); (case hq => exact YlA)) | refine Vr ?_ | refine Vt ?_ | refine Vf ?_ | refine Vm ?_ | refine Ve ?_ | refine Vo ?_ | refine Vz ?_ | refine Vn ?_)
        rw [hs1]
        exact ⟨p, (by repeat (first | exact trivial | refine ⟨rfl, ?_⟩)), ⟨x4, hsj, by omega, hP4.dec hx (by have h := hlt; simp at h; simp only [ltU]; omega)⟩, by omega⟩
      · repeat (first | refine Vx ?_ | (apply Ops_q; (case hon => exact Va); (case hd => rfl); (case hq => exact YlA)) | refine Vr ?_ | refine Vt ?_ | refine Vf ?_ | refine Vm ?_ | refine Ve ?_ | refine Vo ?_ | refine Vz ?_ | refine Vn ?_)
        exact ⟨p + 1, (by repeat (first | exact trivial | refine ⟨rfl, ?_⟩)), x4, h4, h5, hP4, fun z _ hz => by rw [hx] at hz; cases hz; have h := hlt; simp at h; simp only [ltU]; omega⟩
    · have hd : decide ((i : Int) ≤ (s : Int)) = false := decide_eq_false (by omega)
      repeat (first | refine Vx ?_ | (apply Ops_q; (case hon => exact Va); (case hd => rfl); (case hq => exact YlA)) | refine Vr ?_ | refine Vt ?_ | refine Vf ?_ | refine Vm ?_ | refine Ve ?_ | refine Vo ?_ | refine Vz ?_ | refine Vn ?_)
      refine Ops_know rfl rfl hd ?_
      repeat (first | refine Vx ?_ | (apply Ops_q; (case hon => exact Va); (case hd => rfl); (case hq => exact YlA)) | refine Vr ?_ | refine Vt ?_ | refine Vf ?_ | refine Vm ?_ | refine Ve ?_ | refine Vo ?_ | refine Vz ?_ | refine Vn ?_)
      exact ⟨s, (by repeat (first | exact trivial | refine ⟨rfl, ?_⟩)), x4, h4, h5, hP4, fun z h => absurd h hsj⟩
  clear h2 hP
  rintro j w3 ⟨x3, h2, hjj, hP, hdown⟩
  have D3 := D3.ext x3
  have m3 := m3.ext x3
  replace hjb : j < b := by omega
  replace hup : ∀ x, i ≤ j → M[i]? = some x → ltU pv x < 0 := fun x h => hup x (by omega)
  clear x3
  repeat (first | refine Vx ?_ | (apply Ops_q; (case hon => exact Va); (case hd => rfl); (case hq => exact YlA)) | refine Vr ?_ | refine Vt ?_ | refine Vf ?_ | refine Vm ?_ | refine Ve ?_ | refine Vo ?_ | refine Vz ?_ | refine Vn ?_)
  refine V_cond rfl (fun hg => ?_) (fun hg => ?_)
  · replace hg := of_decide_eq_true hg
    obtain rfl : i = j + 1 := by omega
    repeat (first | refine Vx ?_ | (apply Ops_q; (case hon => exact Va); (case hd => rfl); (case hq => exact YlA)) | refine Vr ?_ | refine Vt ?_ | refine Vf ?_ | refine Vm ?_ | refine Ve ?_ | refine Vo ?_ | refine Vz ?_ | refine Vn ?_)
    refine ret1 (by first | exact .inl rfl | exact .inr rfl) rfl rfl ?_
    refine Does_mk (fun w' he => ⟨_, D3.ext he, ⟨j + 1, rfl, by omega, by omega, hM, fun k x h3 h4 hx => ?_, fun k x h3 h4 hx => hP.right k x (by omega) h4 hx⟩⟩) m3
    by_cases e : k = a
    · rw [e, hpv] at hx; cases hx; simp only [ltU]; omega
    · exact hP.left k x (by omega) h4 hx
  replace hg := of_decide_eq_false hg
  have hMl := D3.len
  obtain ⟨p, rfl⟩ : ∃ p, j = p + 1 := ⟨j - 1, by omega⟩
  have hs1 : ((p + 1 : Nat) : Int) - 1 = (p : Int) := by omega
  obtain ⟨x, hx⟩ := D3.get (k := i) (by omega)
  obtain ⟨y, hy⟩ := D3.get (k := p + 1) (by omega)
  have hcx := D3.at hx
  have hcy := D3.at hy
  have hQx := hup x (by omega) hx
  have hPy := hdown y (by omega) hy
  have hij : i < p + 1 := by
    rcases Nat.lt_or_ge i (p + 1) with h | h
    · exact h
    · obtain rfl : i = p + 1 := by omega
      rw [hx] at hy; cases hy
      simp only [ltU] at hQx hPy; omega
  repeat (first | refine Vx ?_ | (apply Ops_q; (case hon => exact Va); (case hd => rfl); (case hq => exact YlA)) | refine Vt ?_ | refine Vf ?_ | refine Vm ?_ | refine Ve ?_ | refine Vo ?_ | refine Vz ?_ | refine Vn ?_)
  refine V_store (R := fun w' => DatU w' base g n cap (M.set (i) y) ∧ Mod (fun c => c = g) w3 w') 14 13 (fun _ _ he h => ⟨h.1.ext he, h.2.ext he⟩) (by kernel_rfl) rfl (by kernel_rfl) ?_
  repeat (first
    | (refine YsS.pure rfl rfl rfl rfl rfl (fun w_ => (by first | exact Yl_move rfl | exact Yl_pred rfl rfl (by omega) | exact Yl_arith_in rfl rfl rfl (by first | assumption | (simp only [InK]; omega)))) ?_)
    | (refine YsS.load rfl rfl rfl rfl rfl (by first | exact Yl_load rfl hcx | exact Yl_load rfl hcy) ?_))
  refine YsS.pure rfl rfl rfl rfl rfl (fun w_ => Yl_indexS (j := (p+1)) rfl rfl (by omega)) ?_
  repeat (first
    | (refine YsS.pure rfl rfl rfl rfl rfl (fun w_ => (by first | exact Yl_move rfl | exact Yl_pred rfl rfl (by omega) | exact Yl_arith_in rfl rfl rfl (by first | assumption | (simp only [InK]; omega)))) ?_)
    | (refine YsS.load rfl rfl rfl rfl rfl (by first | exact Yl_load rfl hcx | exact Yl_load rfl hcy) ?_))
  refine YsS.pure rfl rfl rfl rfl rfl (fun w_ => Yl_indexS (j := (i)) rfl rfl (by omega)) ?_
  repeat (first
    | (refine YsS.pure rfl rfl rfl rfl rfl (fun w_ => (by first | exact Yl_move rfl | exact Yl_pred rfl rfl (by omega) | exact Yl_arith_in rfl rfl rfl (by first | assumption | (simp only [InK]; omega)))) ?_)
    | (refine YsS.load rfl rfl rfl rfl rfl (by first | exact Yl_load rfl hcx | exact Yl_load rfl hcy) ?_))
  refine YsS.pure rfl rfl rfl rfl rfl (fun w_ => Yl_indexS (j := (i)) rfl rfl (by omega)) ?_
  refine YsS.nil rfl ⟨fun a_ ag_ w_ hw_ => storeDatU_run (i := i) (v := y) rfl rfl rfl D3 (by omega) a_ ag_ w_ hw_, ?_⟩
  repeat (first
    | (refine YsS.pure rfl rfl rfl rfl rfl (fun w_ => (by first | exact Yl_move rfl | exact Yl_pred rfl rfl (by omega) | exact Yl_arith_in rfl rfl rfl (by first | assumption | (simp only [InK]; omega)))) ?_)
    | (refine YsS.load rfl rfl rfl rfl rfl (by first | exact Yl_load rfl hcx | exact Yl_load rfl hcy) ?_))
  refine YsS.nil rfl ?_
  rintro w4 ⟨D4, m4⟩
  repeat (first | refine Vx ?_ | (apply Ops_q; (case hon => exact Va); (case hd => rfl); (case hq => exact YlA)) | refine Vr ?_ | refine Vt ?_ | refine Vf ?_ | refine Vm ?_ | refine Ve ?_ | refine Vo ?_ | refine Vz ?_ | refine Vn ?_)
  (apply Ops_q; (case hon => (exact Va)); (case hd => rfl); (case hq => exact Yl_indexS (j := (p+1)) rfl rfl (by omega)))
  repeat (first | refine Vx ?_ | (apply Ops_q; (case hon => exact Va); (case hd => rfl); (case hq => exact YlA)) | refine Vr ?_ | refine Vt ?_ | refine Vf ?_ | refine Vm ?_ | refine Ve ?_ | refine Vo ?_ | refine Vz ?_ | refine Vn ?_)
  refine Ops_storeDatU (i := p+1) (v := x) (by exact Va) rfl rfl rfl D4 (by omega) ?_
  intro w5 D5 g5
  have m5 : Mod (BlkU g) w w5 := (m3.trans m4).grow g5 (fun b hb => .inl (by cases hb; rfl))
  have hsw : (M.set (i) y).set (p+1) x = swp M (i) (p+1) := by unfold swp; rw [hx, hy]
  rw [hsw] at D5
  repeat (first | refine Vx ?_ | (apply Ops_q; (case hon => exact Va); (case hd => rfl); (case hq => exact YlA)) | refine Vr ?_ | refine Vt ?_ | refine Vf ?_ | refine Vm ?_ | refine Ve ?_ | refine Vo ?_ | refine Vz ?_ | refine Vn ?_)
  rw [hs1]
  have hP5 := hP.swap hij (by omega) hx hy hQx hPy
  have hM5 : Moved L (swp M i (p + 1)) a b := hM.trans (Moved.swp (by omega) (by omega) (by omega))
  have hpv5 : (swp M i (p + 1))[a]? = some pv := by rw [swp_get (by omega) (by omega), if_neg (by omega), if_neg (by omega)]; exact hpv
  exact ⟨(i + 1, p, swp M i (p + 1)), (by repeat (first | exact trivial | refine ⟨rfl, ?_⟩)), ⟨by dsimp only; omega, by dsimp only; omega, by dsimp only; omega, m5, D5, hM5, hpv5, hP5⟩, by simp only; omega⟩
end
end Go.Proofs.Ytjpnaofoeeegeaa


/-
  Sorting words (slices.Sort at uint64): bits.Len, nextPowerOfTwo, the random numbers, breakPatterns.
  Conditions: the list is one's own, and not too long for a machine.
-/
namespace Go.Proofs.Ytjpnaofoeeegeaa
open Go.RowKit

theorem bitLenAux_spec : ∀ (f x : Nat), x < 2 ^ f → x < 2 ^ Lib.bitLenAux f x ∧ (0 < x → 2 ^ Lib.bitLenAux f x ≤ 2 * x)
  | 0, x, h => ⟨by simp at h; subst h; simp [Lib.bitLenAux], fun h2 => by simp at h; omega⟩
  | f + 1, x, h => by
    by_cases e : x = 0
    · subst e; simp [Lib.bitLenAux]
    · have ih := bitLenAux_spec f (x / 2) (by rw [Nat.pow_succ] at h; omega)
      have e2 : Lib.bitLenAux (f + 1) x = 1 + Lib.bitLenAux f (x / 2) := by simp [Lib.bitLenAux, e]
      rw [e2, Nat.add_comm, Nat.pow_succ]
      refine ⟨by omega, fun _ => ?_⟩
      by_cases h0 : 0 < x / 2
      · have := ih.2 h0; omega
      · have : x = 1 := by omega
        subst this
        cases f <;> simp [Lib.bitLenAux]
theorem bitLen_spec (x : Nat) (h : x < 2 ^ 64) : x < 2 ^ Lib.bitLen x ∧ (0 < x → 2 ^ Lib.bitLen x ≤ 2 * x) := bitLenAux_spec 64 x h
section
variable {P : Program} {N : Fr} {m : Env} {w : World} {dst : Nat} {ty : TypeId} {pos : String} {after : Array Edge} {g : Option (Nat × Bool)}
theorem Yl_len8 {t : TypeId} {x i : Operand} {k : IntKind} {y : Nat} (ht : P.underlying t = some .string) (hx : ev m x = some (.string Lib.len8tab)) (hi : ev m i = some (.int k (y : Int))) (hy : y < 256) :
    Yl P N m w ⟨dst, .index t x i, ty, pos, after, g⟩ (.int .u8 (Lib.bitLen y : Nat)) :=
  Yl_of_run fun ac w' ha _ => by
    have h1 := Lib.run_index_len8tab (P := P) w' t k (y : Int) ht (by omega) (by omega)
    rw [Lib.len8_of (y : Int) (by omega) (by omega)] at h1
    simp only [Int.toNat_natCast] at h1
    simp [execOp, ha.ev hx, ha.ev hi, h1]
end
set_option maxHeartbeats 2000000 in
theorem lenU_v (x : Nat) (w : World) (hx : x < 18446744073709551616) : Calls Try.prog 120 #[.int .u64 x] w (Ret (.int .i64 (Lib.bitLen x : Nat)) w) := by
  have p32 : (2 : Int) ^ (32 : Int).toNat = 4294967296 := by decide
  have p16 : (2 : Int) ^ (16 : Int).toNat = 65536 := by decide
  have p8 : (2 : Int) ^ (8 : Int).toNat = 256 := by decide
  refine V_enter (vs := [_]) Try.func120 rfl Try.ntmps120 (Nat.le_of_ble_eq_true rfl) ?_
  repeat (first | refine Vx ?_ | (apply Ops_q; (case hon => exact Va); (case hd => rfl); (case hq => exact YlA)) | refine Vr ?_ | refine Vt ?_ | refine Vf ?_ | refine Vm ?_ | refine Ve ?_ | refine Vo ?_ | refine Vz ?_ | refine Vn ?_)
  refine V_meet1 (fun s : Nat × Nat => [(0, .int .u64 s.1), (2, .int .i64 s.2)]) (fun s w' => w = w' ∧ s.1 < 4294967296 ∧ s.2 ≤ 32 ∧ Lib.bitLen x = s.2 + Lib.bitLen s.1) ?_ ?_
  · refine V_cond rfl (fun h => ?_) (fun h => ?_)
    · replace h := of_decide_eq_true h
      repeat (first | refine Vx ?_ | (apply Ops_q; (case hon => exact Va); (case hd => rfl); (case hq => exact YlA)) | refine Vr ?_ | refine Vt ?_ | refine Vf ?_ | refine Vm ?_ | refine Ve ?_ | refine Vo ?_ | refine Vz ?_ | refine Vn ?_)
      have e1 : (x : Int) / 2 ^ (32 : Int).toNat = ((x / 4294967296 : Nat) : Int) := by rw [p32]; omega
      rw [e1]
      exact ⟨(x / 4294967296, 32), (by repeat (first | exact trivial | refine ⟨rfl, ?_⟩)), rfl, by dsimp only; omega, Nat.le_refl _, Lib.bitLen_shift32 x (by omega) hx⟩
    · replace h := of_decide_eq_false h
      repeat (first | refine Vx ?_ | (apply Ops_q; (case hon => exact Va); (case hd => rfl); (case hq => exact YlA)) | refine Vr ?_ | refine Vt ?_ | refine Vf ?_ | refine Vm ?_ | refine Ve ?_ | refine Vo ?_ | refine Vz ?_ | refine Vn ?_)
      exact ⟨(x, 0), (by repeat (first | exact trivial | refine ⟨rfl, ?_⟩)), rfl, by dsimp only; omega, by dsimp only; omega, (Nat.zero_add _).symm⟩
  rintro ⟨y, e⟩ _ ⟨rfl, h1, h2, h3⟩
  dsimp only at h1 h2 h3 ⊢
  repeat (first | refine Vx ?_ | (apply Ops_q; (case hon => exact Va); (case hd => rfl); (case hq => exact YlA)) | refine Vr ?_ | refine Vt ?_ | refine Vf ?_ | refine Vm ?_ | refine Ve ?_ | refine Vo ?_ | refine Vz ?_ | refine Vn ?_)
  refine V_meet1 (fun s : Nat × Nat => [(0, .int .u64 s.1), (2, .int .i64 s.2)]) (fun s w' => w = w' ∧ s.1 < 65536 ∧ s.2 ≤ 48 ∧ Lib.bitLen x = s.2 + Lib.bitLen s.1) ?_ ?_
  · refine V_cond rfl (fun h => ?_) (fun h => ?_)
    · replace h := of_decide_eq_true h
      repeat (first | refine Vx ?_ | (apply Ops_q; (case hon => exact Va); (case hd => rfl); (case hq => exact YlA)) | refine Vr ?_ | refine Vt ?_ | refine Vf ?_ | refine Vm ?_ | refine Ve ?_ | refine Vo ?_ | refine Vz ?_ | refine Vn ?_)
      have e1 : (y : Int) / 2 ^ (16 : Int).toNat = ((y / 65536 : Nat) : Int) := by rw [p16]; omega
      rw [e1]
      have := Lib.bitLen_shift16 y (by omega) (by omega)
      exact ⟨(y / 65536, e + 16), (by repeat (first | exact trivial | refine ⟨rfl, ?_⟩)), rfl, by dsimp only; omega, by dsimp only; omega, by dsimp only; omega⟩
    · replace h := of_decide_eq_false h
      repeat (first | refine Vx ?_ | (apply Ops_q; (case hon => exact Va); (case hd => rfl); (case hq => exact YlA)) | refine Vr ?_ | refine Vt ?_ | refine Vf ?_ | refine Vm ?_ | refine Ve ?_ | refine Vo ?_ | refine Vz ?_ | refine Vn ?_)
      exact ⟨(y, e), (by repeat (first | exact trivial | refine ⟨rfl, ?_⟩)), rfl, by dsimp only; omega, by dsimp only; omega, h3⟩
  clear h1 h2 h3 y e
  rintro ⟨y, e⟩ _ ⟨rfl, h1, h2, h3⟩
  dsimp only at h1 h2 h3 ⊢
  repeat (first | refine Vx ?_ | (apply Ops_q; (case hon => exact Va); (case hd => rfl); (case hq => exact YlA)) | refine Vr ?_ | refine Vt ?_ | refine Vf ?_ | refine Vm ?_ | refine Ve ?_ | refine Vo ?_ | refine Vz ?_ | refine Vn ?_)
  refine V_meet1 (fun s : Nat × Nat => [(0, .int .u64 s.1), (2, .int .i64 s.2)]) (fun s w' => w = w' ∧ s.1 < 256 ∧ s.2 ≤ 56 ∧ Lib.bitLen x = s.2 + Lib.bitLen s.1) ?_ ?_
  · refine V_cond rfl (fun h => ?_) (fun h => ?_)
    · replace h := of_decide_eq_true h
      repeat (first | refine Vx ?_ | (apply Ops_q; (case hon => exact Va); (case hd => rfl); (case hq => exact YlA)) | refine Vr ?_ | refine Vt ?_ | refine Vf ?_ | refine Vm ?_ | refine Ve ?_ | refine Vo ?_ | refine Vz ?_ | refine Vn ?_)
      have e1 : (y : Int) / 2 ^ (8 : Int).toNat = ((y / 256 : Nat) : Int) := by rw [p8]; omega
      rw [e1]
      have := Lib.bitLen_shift8 y (by omega) (by omega)
      exact ⟨(y / 256, e + 8), (by repeat (first | exact trivial | refine ⟨rfl, ?_⟩)), rfl, by dsimp only; omega, by dsimp only; omega, by dsimp only; omega⟩
    · replace h := of_decide_eq_false h
      repeat (first | refine Vx ?_ | (apply Ops_q; (case hon => exact Va); (case hd => rfl); (case hq => exact YlA)) | refine Vr ?_ | refine Vt ?_ | refine Vf ?_ | refine Vm ?_ | refine Ve ?_ | refine Vo ?_ | refine Vz ?_ | refine Vn ?_)
      exact ⟨(y, e), (by repeat (first | exact trivial | refine ⟨rfl, ?_⟩)), rfl, by dsimp only; omega, by dsimp only; omega, h3⟩
  clear h1 h2 h3 y e
  rintro ⟨y, e⟩ _ ⟨rfl, h1, h2, h3⟩
  dsimp only at h1 h2 h3 ⊢
  have h8 := Lib.bitLen_le y 8 (by omega) (by omega)
  repeat (first | refine Vx ?_ | (apply Ops_q; (case hon => exact Va); (case hd => rfl); (case hq => exact YlA)) | refine Vr ?_ | refine Vt ?_ | refine Vf ?_ | refine Vm ?_ | refine Ve ?_ | refine Vo ?_ | refine Vz ?_ | refine Vn ?_)
  (apply Ops_q; (case hon => (first | exact on_none | exact on_guard rfl rfl)); (case hd => rfl); (case hq => exact Yl_len8 (by kernel_rfl) rfl rfl (by omega)))
  repeat (first | refine Vx ?_ | (apply Ops_q; (case hon => exact Va); (case hd => rfl); (case hq => exact YlA)) | refine Vr ?_ | refine Vt ?_ | refine Vf ?_ | refine Vm ?_ | refine Ve ?_ | refine Vo ?_ | refine Vz ?_ | refine Vn ?_)
  refine ret1 (by first | exact .inl rfl | exact .inr rfl) rfl rfl ?_
  exact Ret_w (by rw [h3]; rfl) (Ext.refl _)
theorem lenI_v (x : Nat) (w : World) (hx : x < 18446744073709551616) : Calls Try.prog 98 #[.int .u64 x] w (Ret (.int .i64 (Lib.bitLen x : Nat)) w) := by
  refine V_enter (vs := [_]) Try.func98 rfl Try.ntmps98 (Nat.le_of_ble_eq_true rfl) ?_
  repeat (first | refine Vx ?_ | (apply Ops_q; (case hon => exact Va); (case hd => rfl); (case hq => exact YlA)) | refine Vr ?_ | refine Vt ?_ | refine Vf ?_ | refine Vm ?_ | refine Ve ?_ | refine Vo ?_ | refine Vz ?_ | refine Vn ?_)
  (apply Ops_q; (case hon => (exact Va)); (case hd => rfl); (case hq => exact Yl_call rfl (fun w_ e_ => lenU_v x w_ hx)))
  repeat (first | refine Vx ?_ | (apply Ops_q; (case hon => exact Va); (case hd => rfl); (case hq => exact YlA)) | refine Vr ?_ | refine Vt ?_ | refine Vf ?_ | refine Vm ?_ | refine Ve ?_ | refine Vo ?_ | refine Vz ?_ | refine Vn ?_)
  refine ret1 (by first | exact .inl rfl | exact .inr rfl) rfl rfl ?_
  exact Ret_w rfl (Ext.refl _)
theorem nextPow_v (x : Nat) (w : World) (hx : x ≤ 1000000000000) : Calls Try.prog 123 #[.int .i64 x] w (Ret (.int .u64 (2 ^ Lib.bitLen x : Nat)) w) := by
  have hl := Lib.bitLen_le x 40 (by omega) (by omega)
  have hp : 2 ^ Lib.bitLen x ≤ 2 ^ 40 := Nat.pow_le_pow_right (by omega) hl
  have e : (1 : Int) * 2 ^ ((Lib.bitLen x : Nat) : Int).toNat = ((2 ^ Lib.bitLen x : Nat) : Int) := by rw [Int.one_mul, Int.toNat_natCast, Int.natCast_pow]; rfl
  have hk : InK .u64 ((1 : Int) * 2 ^ ((Lib.bitLen x : Nat) : Int).toNat) := by
    rw [e]
    generalize 2 ^ Lib.bitLen x = q at hp ⊢
    simp only [InK]; omega
  refine V_enter (vs := [_]) Try.func123 rfl Try.ntmps123 (Nat.le_of_ble_eq_true rfl) ?_
  repeat (first | refine Vx ?_ | (apply Ops_q; (case hon => exact Va); (case hd => rfl); (case hq => exact YlA)) | refine Vr ?_ | refine Vt ?_ | refine Vf ?_ | refine Vm ?_ | refine Ve ?_ | refine Vo ?_ | refine Vz ?_ | refine Vn ?_)
  (apply Ops_q; (case hon => (exact Va)); (case hd => rfl); (case hq => exact Yl_call rfl (fun w_ e_ => lenI_v x w_ (by omega))))
  repeat (first | refine Vx ?_ | (apply Ops_q; (case hon => exact Va); (case hd => rfl); (case hq => exact YlA)) | refine Vr ?_ | refine Vt ?_ | refine Vf ?_ | refine Vm ?_ | refine Ve ?_ | refine Vo ?_ | refine Vz ?_ | refine Vn ?_)
  refine ret1 (by first | exact .inl rfl | exact .inr rfl) rfl rfl ?_
  exact Ret_w (by rw [e]) (Ext.refl _)
theorem next_v (b : Nat) (t : TypeId) (v : Int) (w : World) (hB : Blk w b t [.int .u64 v]) :
    Calls Try.prog 124 #[.pointer (some ⟨b, 0, none⟩)] w (Does (fun c => c = b) (fun r w' => ∃ v' : Int, r = .int .u64 v' ∧ Blk w' b t [.int .u64 v']) w) := by
  refine V_enter (vs := [_]) Try.func124 rfl Try.ntmps124 (Nat.le_of_ble_eq_true rfl) ?_
  repeat (first | refine Vx ?_ | (apply Ops_q; (case hon => exact Va); (case hd => rfl); (case hq => exact YlA)) | refine Vt ?_ | refine Vf ?_ | refine Vm ?_ | refine Ve ?_ | refine Vo ?_ | refine Vz ?_ | refine Vn ?_)
  refine V_region_mixed 9 (by kernel_rfl) (by kernel_rfl) rfl ?_
  repeat (first | refine Vx ?_ | (apply Ops_q; (case hon => exact Va); (case hd => rfl); (case hq => exact YlA)) | refine Vr ?_ | refine Vt ?_ | refine Vf ?_ | refine Vm ?_ | refine Ve ?_ | refine Vo ?_ | refine Vz ?_ | refine Vn ?_)
  (refine Ops_store (by exact Va) rfl rfl hB (by rfl) ?_; intro w1 u1)
  have k1 := u1.blk
  have m1 : Mod (fun c => c = b) w w1 := (Mod.of_ext (S := fun c => c = b) (Ext.refl _)).upd u1 (.inl rfl)
  clear u1
  repeat (first | refine Vx ?_ | (apply Ops_q; (case hon => exact Va); (case hd => rfl); (case hq => exact YlA)) | refine Vt ?_ | refine Vf ?_ | refine Vm ?_ | refine Ve ?_ | refine Vo ?_ | refine Vz ?_ | refine Vn ?_)
  refine V_region_mixed 9 (by kernel_rfl) (by kernel_rfl) rfl ?_
  repeat (first | refine Vx ?_ | (apply Ops_q; (case hon => exact Va); (case hd => rfl); (case hq => exact YlA)) | refine Vr ?_ | refine Vt ?_ | refine Vf ?_ | refine Vm ?_ | refine Ve ?_ | refine Vo ?_ | refine Vz ?_ | refine Vn ?_)
  (refine Ops_store (by exact Va) rfl rfl k1 (by rfl) ?_; intro w2 u2)
  have k2 := u2.blk
  have m2 := m1.upd u2 (.inl rfl)
  clear u2 k1 m1
  repeat (first | refine Vx ?_ | (apply Ops_q; (case hon => exact Va); (case hd => rfl); (case hq => exact YlA)) | refine Vt ?_ | refine Vf ?_ | refine Vm ?_ | refine Ve ?_ | refine Vo ?_ | refine Vz ?_ | refine Vn ?_)
  refine V_region_mixed 9 (by kernel_rfl) (by kernel_rfl) rfl ?_
  repeat (first | refine Vx ?_ | (apply Ops_q; (case hon => exact Va); (case hd => rfl); (case hq => exact YlA)) | refine Vr ?_ | refine Vt ?_ | refine Vf ?_ | refine Vm ?_ | refine Ve ?_ | refine Vo ?_ | refine Vz ?_ | refine Vn ?_)
  (refine Ops_store (by exact Va) rfl rfl k2 (by rfl) ?_; intro w3 u3)
  have k3 := u3.blk
  have m3 := m2.upd u3 (.inl rfl)
  clear u3 k2 m2
  repeat (first | refine Vx ?_ | (apply Ops_q; (case hon => exact Va); (case hd => rfl); (case hq => exact YlA)) | refine Vr ?_ | refine Vt ?_ | refine Vf ?_ | refine Vm ?_ | refine Ve ?_ | refine Vo ?_ | refine Vz ?_ | refine Vn ?_)
  refine ret1 (by first | exact .inl rfl | exact .inr rfl) rfl rfl ?_
  exact Does_mk (fun w' he => ⟨_, rfl, k3.ext he⟩) m3
theorem and_le (x : Int) (m : Nat) (hm : m < 18446744073709551616) : ∃ c : Nat, bits .and .u64 x m = c ∧ c ≤ m := by
  have e : (BitVec.ofInt 64 (m : Int)).toNat = m := by rw [BitVec.toNat_ofInt]; omega
  have h := Nat.and_le_right (n := (BitVec.ofInt 64 x).toNat) (m := (BitVec.ofInt 64 (m : Int)).toNat)
  rw [← BitVec.toNat_and] at h
  refine ⟨_, wrap_in (k := .u64) ⟨?_, ?_⟩, Nat.le_trans h (Nat.le_of_eq e)⟩
  · exact Int.natCast_nonneg _
  · have this : (BitVec.ofInt 64 x &&& BitVec.ofInt 64 (m : Int)).toNat < 18446744073709551616 := BitVec.isLt _
    exact Int.ofNat_le.2 (Nat.le_of_lt_succ this)
section
variable {base g n cap : Nat}
set_option maxHeartbeats 2000000 in
theorem breakU_v (L : List Int) (a b : Nat) (w : World) (hD : DatU w base g n cap L) (hn : n ≤ 1000000000000) (hb : b ≤ n) (hab : a + 12 < b) :
    Calls Try.prog 112 #[.slice (some ⟨g, 0, none⟩) n cap, .int .i64 a, .int .i64 b] w
      (Does (BlkU g) (DatV base g n cap (fun r L' => r = .tuple #[] ∧ Moved L L' a b)) w) := by
  have hg := hD.own.lt (b := g) rfl
  obtain ⟨l, rfl⟩ : ∃ l, b = a + l := ⟨b - a, by omega⟩
  have hl : ((a + l : Nat) : Int) - (a : Int) = (l : Int) := by omega
  obtain ⟨z, hz⟩ : ∃ z, a + l / 4 * 2 = z + 1 := ⟨a + l / 4 * 2 - 1, by omega⟩
  have ez : (a : Int) + (l : Int) / 4 * 2 = ((z + 1 : Nat) : Int) := by omega
  have e1 : ((z + 1 : Nat) : Int) - 1 = (z : Int) := by omega
  obtain ⟨hm1, hm2⟩ := bitLen_spec l (by omega)
  have hm2 := hm2 (by omega)
  have hnp := fun w_ => nextPow_v l w_ (by omega)
  obtain ⟨m1, hmd⟩ : ∃ m1, 2 ^ Lib.bitLen l = m1 + 1 := ⟨2 ^ Lib.bitLen l - 1, by omega⟩
  rw [hmd] at hm1 hm2 hnp
  have e2 : ((m1 + 1 : Nat) : Int) - 1 = (m1 : Int) := by omega
  refine V_enter (vs := [_, _, _]) Try.func112 rfl Try.ntmps112 (Nat.le_of_ble_eq_true rfl) ?_
  repeat (first | refine Vx ?_ | (apply Ops_q; (case hon => exact Va); (case hd => rfl); (case hq => exact YlA)) | refine Vr ?_ | refine Vt ?_ | refine Vf ?_ | refine Vm ?_ | refine Ve ?_ | refine Vo ?_ | refine Vz ?_ | refine Vn ?_)
  rw [hl]
  refine V_yes rfl (decide_eq_true (by omega : (8 : Int) ≤ (l : Int))) ?_
  repeat (first | refine Vx ?_ | (apply Ops_q; (case hon => exact Va); (case hd => rfl); (case hq => exact YlA)) | refine Vr ?_ | refine Vt ?_ | refine Vf ?_ | refine Vm ?_ | refine Ve ?_ | refine Vo ?_ | refine Vz ?_ | refine Vn ?_)
  (refine Ops_alloc (by exact Va) rfl ?_; intro w1 br n_br; have k_br := n_br.blk)
  have hgb : g ≠ br := by have := n_br.ge; omega
  have hbw := n_br.ge
  repeat (first | refine Vx ?_ | (apply Ops_q; (case hon => exact Va); (case hd => rfl); (case hq => exact YlA)) | refine Vr ?_ | refine Vt ?_ | refine Vf ?_ | refine Vm ?_ | refine Ve ?_ | refine Vo ?_ | refine Vz ?_ | refine Vn ?_)
  (refine Ops_store (by exact Va) rfl rfl (by assumption) (by first | rfl | exact OneAll.h) ?_; intro w2 u_w2; have k_br := u_w2.blk)
  have m2 : Mod (BlkU g) w w2 := (Mod.of_ext n_br.ext).upd u_w2 (.inr hbw)
  have D2 : DatU w2 base g n cap L := (hD.ext n_br.ext).mod ((Mod.of_ext (S := fun c => c = br) (Ext.refl _)).upd u_w2 (.inl rfl)) hgb
  clear u_w2
  repeat (first | refine Vx ?_ | (apply Ops_q; (case hon => exact Va); (case hd => rfl); (case hq => exact YlA)) | refine Vr ?_ | refine Vt ?_ | refine Vf ?_ | refine Vm ?_ | refine Ve ?_ | refine Vo ?_ | refine Vz ?_ | refine Vn ?_)
  (apply Ops_q; (case hon => (exact Va)); (case hd => rfl); (case hq => exact Yl_call rfl (fun w_ e_ => hnp w_)))
  repeat (first | refine Vx ?_ | (apply Ops_q; (case hon => exact Va); (case hd => rfl); (case hq => exact YlA)) | refine Vr ?_ | refine Vt ?_ | refine Vf ?_ | refine Vm ?_ | refine Ve ?_ | refine Vo ?_ | refine Vz ?_ | refine Vn ?_)
  rw [ez]
  repeat (first | refine Vx ?_ | (apply Ops_q; (case hon => exact Va); (case hd => rfl); (case hq => exact YlA)) | refine Vr ?_ | refine Vt ?_ | refine Vf ?_ | refine Vm ?_ | refine Ve ?_ | refine Vo ?_ | refine Vz ?_ | refine Vn ?_)
  rw [e1]
  refine V_loop (fun s : Nat × List Int × Int => [(9, .int .i64 s.1), (8, .int .u64 (m1 + 1 : Nat)), (7, .pointer (some ⟨br, 0, none⟩)), (6, .int .i64 l), (0, .slice (some ⟨g, 0, none⟩) n cap), (1, .int .i64 a)])
    (fun s w' => z ≤ s.1 ∧ s.1 ≤ z + 3 ∧ Mod (BlkU g) w w' ∧ DatU w' base g n cap s.2.1 ∧ Moved L s.2.1 a (a + l) ∧ Blk w' br 175 [.int .u64 s.2.2]) (fun s => z + 3 - s.1) (z, L, l) (by repeat (first | exact trivial | refine ⟨rfl, ?_⟩))
    ⟨Nat.le_refl _, by dsimp only; omega, m2, D2, Moved.refl .., k_br⟩ ?_
  clear m2 D2 k_br hD n_br
  rintro ⟨i, M, v⟩ w3 ⟨h1, h2, m3, D3, hM, k3⟩
  dsimp only at h1 h2 D3 hM k3 ⊢
  repeat (first | refine Vx ?_ | (apply Ops_q; (case hon => exact Va); (case hd => rfl); (case hq => exact YlA)) | refine Vr ?_ | refine Vt ?_ | refine Vf ?_ | refine Vm ?_ | refine Ve ?_ | refine Vo ?_ | refine Vz ?_ | refine Vn ?_)
  rw [ez]
  repeat (first | refine Vx ?_ | (apply Ops_q; (case hon => exact Va); (case hd => rfl); (case hq => exact YlA)) | refine Vr ?_ | refine Vt ?_ | refine Vf ?_ | refine Vm ?_ | refine Ve ?_ | refine Vo ?_ | refine Vz ?_ | refine Vn ?_)
  refine V_cond rfl (fun hi => ?_) (fun hi => ?_)
  · replace hi := of_decide_eq_true hi
    repeat (first | refine Vx ?_ | (apply Ops_q; (case hon => exact Va); (case hd => rfl); (case hq => exact YlA)) | refine Vr ?_ | refine Vt ?_ | refine Vf ?_ | refine Vm ?_ | refine Ve ?_ | refine Vo ?_ | refine Vz ?_ | refine Vn ?_)
    refine Ops_callM (S := fun c => c = br) (R := fun _ r w' => ∃ v' : Int, r = .int .u64 v' ∧ Blk w' br 175 [.int .u64 v']) (by exact Va) rfl rfl (fun w_ e_ => next_v br 175 v w_ (k3.ext e_)) ?_
    intro r w4 w0_ e0 m4 hR
    obtain ⟨v', rfl, k4⟩ := hR
    have D4 := (D3.ext e0).mod m4 hgb
    have m40 : Mod (BlkU g) w w4 := (m3.ext e0).trans' m4 (fun c hc => .inr (by rw [hc]; exact hbw))
    clear m3 D3 k3 m4 e0
    obtain ⟨c, hc, hcm⟩ := and_le v' m1 (by omega)
    repeat (first | refine Vx ?_ | (apply Ops_q; (case hon => exact Va); (case hd => rfl); (case hq => exact YlA)) | refine Vr ?_ | refine Vt ?_ | refine Vf ?_ | refine Vm ?_ | refine Ve ?_ | refine Vo ?_ | refine Vz ?_ | refine Vn ?_)
    rw [e2]
    repeat (first | refine Vx ?_ | (apply Ops_q; (case hon => exact Va); (case hd => rfl); (case hq => exact YlA)) | refine Vr ?_ | refine Vt ?_ | refine Vf ?_ | refine Vm ?_ | refine Ve ?_ | refine Vo ?_ | refine Vz ?_ | refine Vn ?_)
    rw [hc, wrap_in (show InK .i64 (c : Int) by simp only [InK]; omega)]
    repeat (first | refine Vx ?_ | (apply Ops_q; (case hon => exact Va); (case hd => rfl); (case hq => exact YlA)) | refine Vr ?_ | refine Vt ?_ | refine Vf ?_ | refine Vm ?_ | refine Ve ?_ | refine Vo ?_ | refine Vz ?_ | refine Vn ?_)
    refine V_meet1 (fun o : Nat => [(10, .int .i64 o), (9, .int .i64 i), (8, .int .u64 (m1 + 1 : Nat)), (7, .pointer (some ⟨br, 0, none⟩)), (6, .int .i64 l), (0, .slice (some ⟨g, 0, none⟩) n cap), (1, .int .i64 a)])
      (fun o w' => w4 = w' ∧ o < l) ?_ ?_
    · refine V_cond rfl (fun h5 => ?_) (fun h5 => ?_)
      · replace h5 := of_decide_eq_true h5
        repeat (first | refine Vx ?_ | (apply Ops_q; (case hon => exact Va); (case hd => rfl); (case hq => exact YlA)) | refine Vr ?_ | refine Vt ?_ | refine Vf ?_ | refine Vm ?_ | refine Ve ?_ | refine Vo ?_ | refine Vz ?_ | refine Vn ?_)
        have e3 : (c : Int) - (l : Int) = ((c - l : Nat) : Int) := by omega
        rw [e3]
        exact ⟨c - l, (by repeat (first | exact trivial | refine ⟨rfl, ?_⟩)), rfl, by omega⟩
      · replace h5 := of_decide_eq_false h5
        repeat (first | refine Vx ?_ | (apply Ops_q; (case hon => exact Va); (case hd => rfl); (case hq => exact YlA)) | refine Vr ?_ | refine Vt ?_ | refine Vf ?_ | refine Vm ?_ | refine Ve ?_ | refine Vo ?_ | refine Vz ?_ | refine Vn ?_)
        exact ⟨c, (by repeat (first | exact trivial | refine ⟨rfl, ?_⟩)), rfl, by omega⟩
    rintro o _ ⟨rfl, ho⟩
    have hMl := D4.len
    obtain ⟨x, hx⟩ := D4.get (k := i) (by omega)
    obtain ⟨y, hy⟩ := D4.get (k := a + o) (by omega)
    have hcx := D4.at hx
    have hcy := D4.at hy
    have e5 : (a : Int) + (o : Int) = ((a + o : Nat) : Int) := by omega
    repeat (first | refine Vx ?_ | (apply Ops_q; (case hon => exact Va); (case hd => rfl); (case hq => exact YlA)) | refine Vt ?_ | refine Vf ?_ | refine Vm ?_ | refine Ve ?_ | refine Vo ?_ | refine Vz ?_ | refine Vn ?_)
    refine V_store (R := fun w' => DatU w' base g n cap (M.set i y) ∧ Mod (fun c => c = g) w4 w') 18 17 (fun _ _ he h => ⟨h.1.ext he, h.2.ext he⟩) (by kernel_rfl) rfl (by kernel_rfl) ?_
    repeat (first
      | (refine YsS.pure rfl rfl rfl rfl rfl (fun w_ => (by first | exact Yl_move rfl | exact Yl_pred rfl rfl (by omega) | exact Yl_arith_in rfl rfl rfl (by first | assumption | (simp only [InK]; omega)))) ?_)
      | (refine YsS.load rfl rfl rfl rfl rfl (by first | exact Yl_load rfl hcx | exact Yl_load rfl hcy) ?_))
    refine YsS.pure rfl rfl rfl rfl rfl (fun w_ => Yl_indexS (j := (a+o)) rfl rfl (by omega)) ?_
    repeat (first
      | (refine YsS.pure rfl rfl rfl rfl rfl (fun w_ => (by first | exact Yl_move rfl | exact Yl_pred rfl rfl (by omega) | exact Yl_arith_in rfl rfl rfl (by first | assumption | (simp only [InK]; omega)))) ?_)
      | (refine YsS.load rfl rfl rfl rfl rfl (by first | exact Yl_load rfl hcx | exact Yl_load rfl hcy) ?_))
    refine YsS.pure rfl rfl rfl rfl rfl (fun w_ => Yl_indexS (j := i) rfl rfl (by omega)) ?_
    repeat (first
      | (refine YsS.pure rfl rfl rfl rfl rfl (fun w_ => (by first | exact Yl_move rfl | exact Yl_pred rfl rfl (by omega) | exact Yl_arith_in rfl rfl rfl (by first | assumption | (simp only [InK]; omega)))) ?_)
      | (refine YsS.load rfl rfl rfl rfl rfl (by first | exact Yl_load rfl hcx | exact Yl_load rfl hcy) ?_))
    refine YsS.pure rfl rfl rfl rfl rfl (fun w_ => Yl_indexS (j := i) rfl rfl (by omega)) ?_
    refine YsS.nil rfl ⟨fun a_ ag_ w_ hw_ => storeDatU_run (i := i) (v := y) rfl rfl rfl D4 (by omega) a_ ag_ w_ hw_, ?_⟩
    repeat (first
      | (refine YsS.pure rfl rfl rfl rfl rfl (fun w_ => (by first | exact Yl_move rfl | exact Yl_pred rfl rfl (by omega) | exact Yl_arith_in rfl rfl rfl (by first | assumption | (simp only [InK]; omega)))) ?_)
      | (refine YsS.load rfl rfl rfl rfl rfl (by first | exact Yl_load rfl hcx | exact Yl_load rfl hcy) ?_))
    refine YsS.nil rfl ?_
    rintro w5 ⟨D5, m5⟩
    repeat (first | refine Vx ?_ | (apply Ops_q; (case hon => exact Va); (case hd => rfl); (case hq => exact YlA)) | refine Vr ?_ | refine Vt ?_ | refine Vf ?_ | refine Vm ?_ | refine Ve ?_ | refine Vo ?_ | refine Vz ?_ | refine Vn ?_)
    rw [e5]
    (apply Ops_q; (case hon => (exact Va)); (case hd => rfl); (case hq => exact Yl_indexS (j := (a + o)) rfl rfl (by omega)))
    repeat (first | refine Vx ?_ | (apply Ops_q; (case hon => exact Va); (case hd => rfl); (case hq => exact YlA)) | refine Vr ?_ | refine Vt ?_ | refine Vf ?_ | refine Vm ?_ | refine Ve ?_ | refine Vo ?_ | refine Vz ?_ | refine Vn ?_)
    refine Ops_storeDatU (i := a + o) (v := x) (by exact Va) rfl rfl rfl D5 (by omega) ?_
    intro w6 D6 g6
    have m46 : Mod (BlkU g) w4 w6 := m5.grow g6 (fun b hb => .inl (by cases hb; rfl))
    have k6 := m46.blk k4 (fun e => hgb e.symm)
    have hsw : (M.set i y).set (a + o) x = swp M i (a + o) := by unfold swp; rw [hx, hy]
    rw [hsw] at D6
    repeat (first | refine Vx ?_ | (apply Ops_q; (case hon => exact Va); (case hd => rfl); (case hq => exact YlA)) | refine Vr ?_ | refine Vt ?_ | refine Vf ?_ | refine Vm ?_ | refine Ve ?_ | refine Vo ?_ | refine Vz ?_ | refine Vn ?_)
    refine ⟨(i + 1, swp M i (a + o), v'), (by repeat (first | exact trivial | refine ⟨rfl, ?_⟩)), ⟨by dsimp only; omega, by dsimp only; omega, m40.trans m46, D6, hM.trans (Moved.swp (by omega) (by omega) (by omega)), k6⟩, by simp only; omega⟩
  · repeat (first | refine Vx ?_ | (apply Ops_q; (case hon => exact Va); (case hd => rfl); (case hq => exact YlA)) | refine Vr ?_ | refine Vt ?_ | refine Vf ?_ | refine Vm ?_ | refine Ve ?_ | refine Vo ?_ | refine Vz ?_ | refine Vn ?_)
    refine ret0 (by first | exact .inl rfl | exact .inr rfl) rfl ?_
    exact Does_mk (fun w' he => ⟨M, D3.ext he, rfl, hM⟩) m3
end
end Go.Proofs.Ytjpnaofoeeegeaa


/-
  Sorting words (slices.Sort at uint64): pdqsort, Sort.
  Conditions: the list is one's own, and not too long for a machine.
-/
namespace Go.Proofs.Ytjpnaofoeeegeaa
open Go.RowKit

section
variable {base g n cap : Nat}
set_option maxHeartbeats 4000000 in
theorem pdqU_v (hn : n ≤ 1000000000000) : ∀ (k : Nat) (L : List Int) (a0 b0 lim0 : Nat) (w : World), b0 - a0 ≤ k → DatU w base g n cap L → b0 ≤ n → a0 ≤ b0 → Pre2 L a0 b0 → lim0 ≤ 64 →
    Calls Try.prog 97 #[.slice (some ⟨g, 0, none⟩) n cap, .int .i64 a0, .int .i64 b0, .int .i64 lim0] w
      (Does (BlkU g) (DatV base g n cap (fun r L' => r = .tuple #[] ∧ Moved L L' a0 b0 ∧ Asc ltU L' a0 b0)) w) := by
  intro k
  induction k using Nat.strongRecOn with
  | ind k ih =>
  intro L a0 b0 lim0 w hk hD hb0 hab0 hpre hlim
  refine V_enter (vs := [_, _, _, _]) Try.func97 rfl Try.ntmps97 (Nat.le_of_ble_eq_true rfl) ?_
  repeat (first | refine Vx ?_ | (apply Ops_q; (case hon => exact Va); (case hd => rfl); (case hq => exact YlA)) | refine Vr ?_ | refine Vt ?_ | refine Vf ?_ | refine Vm ?_ | refine Ve ?_ | refine Vo ?_ | refine Vz ?_ | refine Vn ?_)
  refine V_loop (fun s : Nat × Nat × Nat × Bool × Bool × List Int => [(1, .int .i64 s.1), (2, .int .i64 s.2.1), (3, .int .i64 s.2.2.1), (8, .bool s.2.2.2.1), (9, .bool s.2.2.2.2.1), (0, .slice (some ⟨g, 0, none⟩) n cap)])
    (fun s w' => s.2.2.1 ≤ 64 ∧ Mod (BlkU g) w w' ∧ DatU w' base g n cap s.2.2.2.2.2 ∧ PdS ltU L s.2.2.2.2.2 a0 s.1 s.2.1 b0) (fun s => s.2.1 - s.1) (a0, b0, lim0, true, true, L) (by repeat (first | exact trivial | refine ⟨rfl, ?_⟩))
    ⟨hlim, .of_ext (Ext.refl _), hD, PdS.start hab0 hpre⟩ ?_
  clear hD hab0 hpre hlim
  rintro ⟨a, b, lim, bal, part, M⟩ w3 ⟨hlim, m3, D3, hP⟩
  dsimp only at hlim D3 hP ⊢
  have hab := hP.h2
  have ha0 := hP.h1
  have hbb := hP.h3
  obtain ⟨l, hbl⟩ : ∃ l, b = a + l := ⟨b - a, by omega⟩
  have hl : (b : Int) - (a : Int) = (l : Int) := by omega
  repeat (first | refine Vx ?_ | (apply Ops_q; (case hon => exact Va); (case hd => rfl); (case hq => exact YlA)) | refine Vr ?_ | refine Vt ?_ | refine Vf ?_ | refine Vm ?_ | refine Ve ?_ | refine Vo ?_ | refine Vz ?_ | refine Vn ?_)
  rw [hl]
  refine V_cond rfl (fun h12 => ?_) (fun h12 => ?_)
  · replace h12 := of_decide_eq_true h12
    repeat (first | refine Vx ?_ | (apply Ops_q; (case hon => exact Va); (case hd => rfl); (case hq => exact YlA)) | refine Vr ?_ | refine Vt ?_ | refine Vf ?_ | refine Vm ?_ | refine Ve ?_ | refine Vo ?_ | refine Vz ?_ | refine Vn ?_)
    refine Ops_callM (S := BlkU g) (R := fun _ => DatV base g n cap (fun r L' => r = .tuple #[] ∧ Moved M L' a b ∧ Asc ltU L' a b)) (by exact Va) rfl rfl (fun w_ e_ => insertionU_v M a b w_ (D3.ext e_) hn (by omega) (by omega)) ?_
    intro r w5 w0_ e0 m5 hR
    obtain ⟨M5, D5, rfl, hM5, hA5⟩ := hR
    repeat (first | refine Vx ?_ | (apply Ops_q; (case hon => exact Va); (case hd => rfl); (case hq => exact YlA)) | refine Vr ?_ | refine Vt ?_ | refine Vf ?_ | refine Vm ?_ | refine Ve ?_ | refine Vo ?_ | refine Vz ?_ | refine Vn ?_)
    refine ret0 (by first | exact .inl rfl | exact .inr rfl) rfl ?_
    exact Does_mk (fun w' he => ⟨_, D5.ext he, rfl, (hP.move hM5).mv, (hP.move hM5).fin hA5⟩) ((m3.ext e0).trans m5)
  replace h12 := of_decide_eq_false h12
  repeat (first | refine Vx ?_ | (apply Ops_q; (case hon => exact Va); (case hd => rfl); (case hq => exact YlA)) | refine Vr ?_ | refine Vt ?_ | refine Vf ?_ | refine Vm ?_ | refine Ve ?_ | refine Vo ?_ | refine Vz ?_ | refine Vn ?_)
  refine V_cond rfl (fun h0 => ?_) (fun h0 => ?_)
  · repeat (first | refine Vx ?_ | (apply Ops_q; (case hon => exact Va); (case hd => rfl); (case hq => exact YlA)) | refine Vr ?_ | refine Vt ?_ | refine Vf ?_ | refine Vm ?_ | refine Ve ?_ | refine Vo ?_ | refine Vz ?_ | refine Vn ?_)
    refine Ops_callM (S := BlkU g) (R := fun _ => DatV base g n cap (fun r L' => r = .tuple #[] ∧ Moved M L' a b ∧ Asc ltU L' a b)) (by exact Va) rfl rfl (fun w_ e_ => heapU_v M a b w_ (D3.ext e_) hn (by omega) (by omega)) ?_
    intro r w5 w0_ e0 m5 hR
    obtain ⟨M5, D5, rfl, hM5, hA5⟩ := hR
    repeat (first | refine Vx ?_ | (apply Ops_q; (case hon => exact Va); (case hd => rfl); (case hq => exact YlA)) | refine Vr ?_ | refine Vt ?_ | refine Vf ?_ | refine Vm ?_ | refine Ve ?_ | refine Vo ?_ | refine Vz ?_ | refine Vn ?_)
    refine ret0 (by first | exact .inl rfl | exact .inr rfl) rfl ?_
    exact Does_mk (fun w' he => ⟨_, D5.ext he, rfl, (hP.move hM5).mv, (hP.move hM5).fin hA5⟩) ((m3.ext e0).trans m5)
  replace h0 := of_decide_eq_false h0
  repeat (first | refine Vx ?_ | (apply Ops_q; (case hon => exact Va); (case hd => rfl); (case hq => exact YlA)) | refine Vr ?_ | refine Vt ?_ | refine Vf ?_ | refine Vm ?_ | refine Ve ?_ | refine Vo ?_ | refine Vz ?_ | refine Vn ?_)
  refine V_meet1 (fun s : Nat × List Int => [(1, .int .i64 a), (2, .int .i64 b), (3, .int .i64 s.1), (8, .bool bal), (9, .bool part), (10, .int .i64 l), (0, .slice (some ⟨g, 0, none⟩) n cap)])
    (fun s w' => s.1 ≤ 64 ∧ Mod (BlkU g) w w' ∧ DatU w' base g n cap s.2 ∧ PdS ltU L s.2 a0 a b b0) ?_ ?_
  · refine V_cond rfl (fun hb => ?_) (fun hb => ?_)
    · obtain ⟨lm, rfl⟩ : ∃ q, lim = q + 1 := ⟨lim - 1, by omega⟩
      have el : ((lm + 1 : Nat) : Int) - 1 = (lm : Int) := by omega
      repeat (first | refine Vx ?_ | (apply Ops_q; (case hon => exact Va); (case hd => rfl); (case hq => exact YlA)) | refine Vr ?_ | refine Vt ?_ | refine Vf ?_ | refine Vm ?_ | refine Ve ?_ | refine Vo ?_ | refine Vz ?_ | refine Vn ?_)
      refine Ops_callM (S := BlkU g) (R := fun _ => DatV base g n cap (fun r L' => r = .tuple #[] ∧ Moved M L' a b)) (by exact Va) rfl rfl (fun w_ e_ => breakU_v M a b w_ (D3.ext e_) hn (by omega) (by omega)) ?_
      intro r w5 w0_ e0 m5 hR
      obtain ⟨M5, D5, rfl, hM5⟩ := hR
      repeat (first | refine Vx ?_ | (apply Ops_q; (case hon => exact Va); (case hd => rfl); (case hq => exact YlA)) | refine Vr ?_ | refine Vt ?_ | refine Vf ?_ | refine Vm ?_ | refine Ve ?_ | refine Vo ?_ | refine Vz ?_ | refine Vn ?_)
      rw [el]
      exact ⟨(lm, M5), (by repeat (first | exact trivial | refine ⟨rfl, ?_⟩)), by dsimp only; omega, (m3.ext e0).trans m5, D5, hP.move hM5⟩
    · repeat (first | refine Vx ?_ | (apply Ops_q; (case hon => exact Va); (case hd => rfl); (case hq => exact YlA)) | refine Vr ?_ | refine Vt ?_ | refine Vf ?_ | refine Vm ?_ | refine Ve ?_ | refine Vo ?_ | refine Vz ?_ | refine Vn ?_)
      exact ⟨(lim, M), (by repeat (first | exact trivial | refine ⟨rfl, ?_⟩)), hlim, m3, D3, hP⟩
  clear hlim m3 D3 hP h0
  rintro ⟨lim, M⟩ w3 ⟨hlim, m3, D3, hP⟩
  dsimp only at hlim D3 hP ⊢
  repeat (first | refine Vx ?_ | (apply Ops_q; (case hon => exact Va); (case hd => rfl); (case hq => exact YlA)) | refine Vr ?_ | refine Vt ?_ | refine Vf ?_ | refine Vm ?_ | refine Ve ?_ | refine Vo ?_ | refine Vz ?_ | refine Vn ?_)
  (refine Ops_callR (by exact Va) rfl rfl (fun w_ e_ => choosePivot_v M a b w_ (D3.ext e_) hn (by omega) (by omega)) ?_; intro v w4 w0_ e0_ e1_ r_v; have e_w4 := e0_.trans e1_; have b_v := e0_.size; clear e0_ e1_)
  obtain ⟨p, h, rfl, hp1, hp2⟩ := r_v
  have D4 := D3.ext e_w4
  have m4 := m3.ext e_w4
  clear D3 m3 e_w4 b_v
  repeat (first | refine Vx ?_ | (apply Ops_q; (case hon => exact Va); (case hd => rfl); (case hq => exact YlA)) | refine Vr ?_ | refine Vt ?_ | refine Vf ?_ | refine Vm ?_ | refine Ve ?_ | refine Vo ?_ | refine Vz ?_ | refine Vn ?_)
  refine V_meet1 (fun s : Nat × Int × List Int => [(11, .int .i64 s.1), (12, .int .i64 s.2.1), (1, .int .i64 a), (2, .int .i64 b), (3, .int .i64 lim), (8, .bool bal), (9, .bool part), (10, .int .i64 l), (0, .slice (some ⟨g, 0, none⟩) n cap)])
    (fun s w' => a ≤ s.1 ∧ s.1 < b ∧ Mod (BlkU g) w w' ∧ DatU w' base g n cap s.2.2 ∧ PdS ltU L s.2.2 a0 a b b0) ?_ ?_
  · refine V_cond rfl (fun hh => ?_) (fun hh => ?_)
    · repeat (first | refine Vx ?_ | (apply Ops_q; (case hon => exact Va); (case hd => rfl); (case hq => exact YlA)) | refine Vr ?_ | refine Vt ?_ | refine Vf ?_ | refine Vm ?_ | refine Ve ?_ | refine Vo ?_ | refine Vz ?_ | refine Vn ?_)
      refine Ops_callM (S := BlkU g) (R := fun _ => DatV base g n cap (fun r L' => r = .tuple #[] ∧ Moved M L' a b)) (by exact Va) rfl rfl (fun w_ e_ => reverse_v M a b w_ (D4.ext e_) hn (by omega) (by omega)) ?_
      intro r w5 w0_ e0 m5 hR
      obtain ⟨M5, D5, rfl, hM5⟩ := hR
      have ep : (b : Int) - 1 - ((p : Int) - (a : Int)) = ((b - 1 - (p - a) : Nat) : Int) := by omega
      repeat (first | refine Vx ?_ | (apply Ops_q; (case hon => exact Va); (case hd => rfl); (case hq => exact YlA)) | refine Vr ?_ | refine Vt ?_ | refine Vf ?_ | refine Vm ?_ | refine Ve ?_ | refine Vo ?_ | refine Vz ?_ | refine Vn ?_)
      rw [ep]
      exact ⟨(b - 1 - (p - a), 1, M5), (by repeat (first | exact trivial | refine ⟨rfl, ?_⟩)), by dsimp only; omega, by dsimp only; omega, (m4.ext e0).trans m5, D5, hP.move hM5⟩
    · repeat (first | refine Vx ?_ | (apply Ops_q; (case hon => exact Va); (case hd => rfl); (case hq => exact YlA)) | refine Vr ?_ | refine Vt ?_ | refine Vf ?_ | refine Vm ?_ | refine Ve ?_ | refine Vo ?_ | refine Vz ?_ | refine Vn ?_)
      exact ⟨(p, h, M), (by repeat (first | exact trivial | refine ⟨rfl, ?_⟩)), hp1, hp2, m4, D4, hP⟩
  clear hp1 hp2 m4 D4 hP
  rintro ⟨p, h, M⟩ w3 ⟨hp1, hp2, m3, D3, hP⟩
  dsimp only at hp1 hp2 D3 hP ⊢
  repeat (first | refine Vx ?_ | (apply Ops_q; (case hon => exact Va); (case hd => rfl); (case hq => exact YlA)) | refine Vr ?_ | refine Vt ?_ | refine Vf ?_ | refine Vm ?_ | refine Ve ?_ | refine Vo ?_ | refine Vz ?_ | refine Vn ?_)
  refine Ops_meet [(68, .bool (bal && (part && decide (h = 1)))), (11, .int .i64 p), (1, .int .i64 a), (2, .int .i64 b), (3, .int .i64 lim), (8, .bool bal), (9, .bool part), (10, .int .i64 l), (0, .slice (some ⟨g, 0, none⟩) n cap)] ?_ ?_
  · cases bal
    · repeat (first | refine Vx ?_ | (apply Ops_q; (case hon => exact Va); (case hd => rfl); (case hq => exact YlA)) | refine Vr ?_ | refine Vt ?_ | refine Vf ?_ | refine Vm ?_ | refine Ve ?_ | refine Vo ?_ | refine Vz ?_ | refine Vn ?_)
      exact ⟨⟨rfl, (by repeat (first | exact trivial | refine ⟨rfl, ?_⟩))⟩, rfl⟩
    · cases part
      · repeat (first | refine Vx ?_ | (apply Ops_q; (case hon => exact Va); (case hd => rfl); (case hq => exact YlA)) | refine Vr ?_ | refine Vt ?_ | refine Vf ?_ | refine Vm ?_ | refine Ve ?_ | refine Vo ?_ | refine Vz ?_ | refine Vn ?_)
        exact ⟨⟨rfl, (by repeat (first | exact trivial | refine ⟨rfl, ?_⟩))⟩, rfl⟩
      · repeat (first | refine Vx ?_ | (apply Ops_q; (case hon => exact Va); (case hd => rfl); (case hq => exact YlA)) | refine Vr ?_ | refine Vt ?_ | refine Vf ?_ | refine Vm ?_ | refine Ve ?_ | refine Vo ?_ | refine Vz ?_ | refine Vn ?_)
        exact ⟨⟨rfl, (by repeat (first | exact trivial | refine ⟨rfl, ?_⟩))⟩, rfl⟩
  repeat (first | refine Vx ?_ | (apply Ops_q; (case hon => exact Va); (case hd => rfl); (case hq => exact YlA)) | refine Vr ?_ | refine Vt ?_ | refine Vf ?_ | refine Vm ?_ | refine Ve ?_ | refine Vo ?_ | refine Vz ?_ | refine Vn ?_)
  refine V_meet1 (fun M : List Int => [(11, .int .i64 p), (1, .int .i64 a), (2, .int .i64 b), (3, .int .i64 lim), (8, .bool bal), (9, .bool part), (10, .int .i64 l), (0, .slice (some ⟨g, 0, none⟩) n cap)])
    (fun M w' => Mod (BlkU g) w w' ∧ DatU w' base g n cap M ∧ PdS ltU L M a0 a b b0) ?_ ?_
  · refine V_cond rfl (fun ht => ?_) (fun ht => ?_)
    · repeat (first | refine Vx ?_ | (apply Ops_q; (case hon => exact Va); (case hd => rfl); (case hq => exact YlA)) | refine Vr ?_ | refine Vt ?_ | refine Vf ?_ | refine Vm ?_ | refine Ve ?_ | refine Vo ?_ | refine Vz ?_ | refine Vn ?_)
      refine Ops_callM (S := BlkU g) (R := fun _ => DatV base g n cap (fun r L' => ∃ o : Bool, r = .bool o ∧ Moved M L' a b ∧ (o = true → Asc ltU L' a b))) (by exact Va) rfl rfl (fun w_ e_ => partialU_v M a b w_ (D3.ext e_) hn (by omega) (by omega) hP.pre') ?_
      intro r w5 w0_ e0 m5 hR
      obtain ⟨M5, D5, o, rfl, hM5, hA5⟩ := hR
      repeat (first | refine Vx ?_ | (apply Ops_q; (case hon => exact Va); (case hd => rfl); (case hq => exact YlA)) | refine Vr ?_ | refine Vt ?_ | refine Vf ?_ | refine Vm ?_ | refine Ve ?_ | refine Vo ?_ | refine Vz ?_ | refine Vn ?_)
      refine V_cond rfl (fun ho => ?_) (fun ho => ?_)
      · replace hA5 := hA5 ho
        repeat (first | refine Vx ?_ | (apply Ops_q; (case hon => exact Va); (case hd => rfl); (case hq => exact YlA)) | refine Vr ?_ | refine Vt ?_ | refine Vf ?_ | refine Vm ?_ | refine Ve ?_ | refine Vo ?_ | refine Vz ?_ | refine Vn ?_)
        refine ret0 (by first | exact .inl rfl | exact .inr rfl) rfl ?_
        exact Does_mk (fun w' he => ⟨_, D5.ext he, rfl, (hP.move hM5).mv, (hP.move hM5).fin hA5⟩) ((m3.ext e0).trans m5)
      · repeat (first | refine Vx ?_ | (apply Ops_q; (case hon => exact Va); (case hd => rfl); (case hq => exact YlA)) | refine Vr ?_ | refine Vt ?_ | refine Vf ?_ | refine Vm ?_ | refine Ve ?_ | refine Vo ?_ | refine Vz ?_ | refine Vn ?_)
        exact ⟨M5, (by repeat (first | exact trivial | refine ⟨rfl, ?_⟩)), (m3.ext e0).trans m5, D5, hP.move hM5⟩
    · repeat (first | refine Vx ?_ | (apply Ops_q; (case hon => exact Va); (case hd => rfl); (case hq => exact YlA)) | refine Vr ?_ | refine Vt ?_ | refine Vf ?_ | refine Vm ?_ | refine Ve ?_ | refine Vo ?_ | refine Vz ?_ | refine Vn ?_)
      exact ⟨M, (by repeat (first | exact trivial | refine ⟨rfl, ?_⟩)), m3, D3, hP⟩
  clear m3 D3 hP
  rintro M w3 ⟨m3, D3, hP⟩
  obtain ⟨y, hy⟩ := D3.get (k := p) (by omega)
  obtain ⟨z, hz⟩ : ∃ z, 0 < a → M[a - 1]? = some z := by
    by_cases h : 0 < a
    · obtain ⟨z, hz⟩ := D3.get (k := a - 1) (by omega)
      exact ⟨z, fun _ => hz⟩
    · exact ⟨0, fun h2 => absurd h2 h⟩
  obtain ⟨t, ht⟩ : ∃ t, t = (decide (0 < a) && !decide (z < y)) := ⟨_, rfl⟩
  repeat (first | refine Vx ?_ | (apply Ops_q; (case hon => exact Va); (case hd => rfl); (case hq => exact YlA)) | refine Vr ?_ | refine Vt ?_ | refine Vf ?_ | refine Vm ?_ | refine Ve ?_ | refine Vo ?_ | refine Vz ?_ | refine Vn ?_)
  refine Ops_meet [(87, .bool t), (11, .int .i64 p), (1, .int .i64 a), (2, .int .i64 b), (3, .int .i64 lim), (8, .bool bal), (9, .bool part), (10, .int .i64 l), (0, .slice (some ⟨g, 0, none⟩) n cap)] ?_ ?_
  · have hcy := D3.at hy
    by_cases h : 0 < a
    · have hd : decide ((0 : Int) < (a : Int)) = true := decide_eq_true (by omega)
      have hcx := D3.at (hz h)
      have hs1 : (a : Int) - 1 = ((a - 1 : Nat) : Int) := by omega
      repeat (first | refine Vx ?_ | (apply Ops_q; (case hon => exact Va); (case hd => rfl); (case hq => exact YlA)) | refine Vr ?_ | refine Vt ?_ | refine Vf ?_ | refine Vm ?_ | refine Ve ?_ | refine Vo ?_ | refine Vz ?_ | refine Vn ?_)
      refine Ops_know rfl rfl hd ?_
      repeat (first | refine Vx ?_ | (apply Ops_q; (case hon => exact Va); (case hd => rfl); (case hq => exact YlA)) | refine Vr ?_ | refine Vt ?_ | refine Vf ?_ | refine Vm ?_ | refine Ve ?_ | refine Vo ?_ | refine Vz ?_ | refine Vn ?_)
      rw [hs1]
      (apply Ops_q; (case hon => (exact Va)); (case hd => rfl); (case hq => exact Yl_indexS (j := (a - 1)) rfl rfl (by omega)))
      repeat (first | refine Vx ?_ | (apply Ops_q; (case hon => exact Va); (case hd => rfl); (case hq => exact YlA)) | refine Vr ?_ | refine Vt ?_ | refine Vf ?_ | refine Vm ?_ | refine Ve ?_ | refine Vo ?_ | refine Vz ?_ | refine Vn ?_)
      (apply Ops_q; (case hon => (exact Va)); (case hd => rfl); (case hq => exact Yl_indexS (j := p) rfl rfl (by omega)))
      repeat (first | refine Vx ?_ | (apply Ops_q; (case hon => exact Va); (case hd => rfl); (case hq => exact YlA)) | refine Vr ?_ | refine Vt ?_ | refine Vf ?_ | refine Vm ?_ | refine Ve ?_ | refine Vo ?_ | refine Vz ?_ | refine Vn ?_)
      (apply Ops_q; (case hon => (exact Va)); (case hd => rfl); (case hq => exact Yl_call rfl (fun w_ e_ => lessU_v z y w_)))
      repeat (first | refine Vx ?_ | (apply Ops_q; (case hon => exact Va); (case hd => rfl); (case hq => exact YlA)) | refine Vr ?_ | refine Vt ?_ | refine Vf ?_ | refine Vm ?_ | refine Ve ?_ | refine Vo ?_ | refine Vz ?_ | refine Vn ?_)
      refine ⟨⟨?_, (by repeat (first | exact trivial | refine ⟨rfl, ?_⟩))⟩, rfl⟩
      rw [ht, decide_eq_true h]; exact rfl
    · have hd : decide ((0 : Int) < (a : Int)) = false := decide_eq_false (by omega)
      repeat (first | refine Vx ?_ | (apply Ops_q; (case hon => exact Va); (case hd => rfl); (case hq => exact YlA)) | refine Vr ?_ | refine Vt ?_ | refine Vf ?_ | refine Vm ?_ | refine Ve ?_ | refine Vo ?_ | refine Vz ?_ | refine Vn ?_)
      refine Ops_know rfl rfl hd ?_
      repeat (first | refine Vx ?_ | (apply Ops_q; (case hon => exact Va); (case hd => rfl); (case hq => exact YlA)) | refine Vr ?_ | refine Vt ?_ | refine Vf ?_ | refine Vm ?_ | refine Ve ?_ | refine Vo ?_ | refine Vz ?_ | refine Vn ?_)
      refine ⟨⟨?_, (by repeat (first | exact trivial | refine ⟨rfl, ?_⟩))⟩, rfl⟩
      rw [ht, decide_eq_false h]; exact rfl
  repeat (first | refine Vx ?_ | (apply Ops_q; (case hon => exact Va); (case hd => rfl); (case hq => exact YlA)) | refine Vr ?_ | refine Vt ?_ | refine Vf ?_ | refine Vm ?_ | refine Ve ?_ | refine Vo ?_ | refine Vz ?_ | refine Vn ?_)
  refine V_cond rfl (fun hc => ?_) (fun hc => ?_)
  · rw [hc] at ht
    have ha : 0 < a := by
      rcases Nat.eq_zero_or_pos a with h | h
      · rw [decide_eq_false (by omega)] at ht; cases ht
      · exact h
    rw [decide_eq_true ha] at ht
    have hzy : ¬z < y := fun h => by simp [h] at ht
    replace hz := hz ha
    repeat (first | refine Vx ?_ | (apply Ops_q; (case hon => exact Va); (case hd => rfl); (case hq => exact YlA)) | refine Vr ?_ | refine Vt ?_ | refine Vf ?_ | refine Vm ?_ | refine Ve ?_ | refine Vo ?_ | refine Vz ?_ | refine Vn ?_)
    refine Ops_callM (S := BlkU g) (R := fun _ => DatV base g n cap (fun r L' => ∃ i : Nat, r = .int .i64 i ∧ a < i ∧ i ≤ b ∧ Moved M L' a b ∧ (∀ k x, a ≤ k → k < i → L'[k]? = some x → ¬ltU y x < 0) ∧ ∀ k x, i ≤ k → k < b → L'[k]? = some x → ltU y x < 0)) (by exact Va) rfl rfl (fun w_ e_ => partEqU_v M a b p y w_ (D3.ext e_) hn (by omega) (by omega) ⟨hp1, hp2⟩ hy) ?_
    intro r w5 w0_ e0 m5 hR
    obtain ⟨M5, D5, i, rfl, hi1, hi2, hM5, hl1, hl2⟩ := hR
    repeat (first | refine Vx ?_ | (apply Ops_q; (case hon => exact Va); (case hd => rfl); (case hq => exact YlA)) | refine Vr ?_ | refine Vt ?_ | refine Vf ?_ | refine Vm ?_ | refine Ve ?_ | refine Vo ?_ | refine Vz ?_ | refine Vn ?_)
    have hP5 := hP.move hM5
    have hz5 : M5[a - 1]? = some z := (hM5.out _ (.inl (by omega))).trans hz
    refine ⟨(i, b, lim, bal, part, M5), (by repeat (first | exact trivial | refine ⟨rfl, ?_⟩)), ⟨hlim, (m3.ext e0).trans m5, D5, hP5.eq (by omega) hi2 (fun u v x x' h1 h2 h3 hx hx' => ?_) (fun u v x x' h1 h2 h3 h4 hx hx' => ?_)⟩, by simp only; omega⟩
    · have q1 := hl1 u x h1 (by omega) hx
      have q2 := hP5.pre' (a - 1) v z x' (Nat.zero_le _) (by omega) (by omega) (by omega) hz5 hx'
      simp only [ltU] at *; omega
    · have q1 := hl1 u x h1 h2 hx
      have q2 := hl2 v x' h3 h4 hx'
      simp only [ltU] at *; omega
  clear hz ht hy hc
  repeat (first | refine Vx ?_ | (apply Ops_q; (case hon => exact Va); (case hd => rfl); (case hq => exact YlA)) | refine Vr ?_ | refine Vt ?_ | refine Vf ?_ | refine Vm ?_ | refine Ve ?_ | refine Vo ?_ | refine Vz ?_ | refine Vn ?_)
  refine Ops_callM (S := BlkU g) (R := fun _ => DatV base g n cap (fun r L' => ∃ (j : Nat) (o : Bool), r = .tuple #[.int .i64 j, .bool o] ∧ a ≤ j ∧ j < b ∧ Moved M L' a b ∧ Below2 ltU L' a j j b ∧ Below2 ltU L' a (j + 1) (j + 1) b)) (by exact Va) rfl rfl (fun w_ e_ => partU_v M a b p w_ (D3.ext e_) hn (by omega) (by omega) ⟨hp1, hp2⟩) ?_
  intro r w5 w0_ e0 m5 hR
  obtain ⟨M5, D5, j, o, rfl, hj1, hj2, hM5, q1, q2⟩ := hR
  have hP5 := hP.move hM5
  have m05 := (m3.ext e0).trans m5
  clear hP m3 D3 hM5 m5 e0
  have el : (j : Int) - (a : Int) = ((j - a : Nat) : Int) := by omega
  have er : (b : Int) - (j : Int) = ((b - j : Nat) : Int) := by omega
  repeat (first | refine Vx ?_ | (apply Ops_q; (case hon => exact Va); (case hd => rfl); (case hq => exact YlA)) | refine Vr ?_ | refine Vt ?_ | refine Vf ?_ | refine Vm ?_ | refine Ve ?_ | refine Vo ?_ | refine Vz ?_ | refine Vn ?_)
  rw [el, er]
  repeat (first | refine Vx ?_ | (apply Ops_q; (case hon => exact Va); (case hd => rfl); (case hq => exact YlA)) | refine Vr ?_ | refine Vt ?_ | refine Vf ?_ | refine Vm ?_ | refine Ve ?_ | refine Vo ?_ | refine Vz ?_ | refine Vn ?_)
  refine V_cond rfl (fun hlr => ?_) (fun hlr => ?_)
  · repeat (first | refine Vx ?_ | (apply Ops_q; (case hon => exact Va); (case hd => rfl); (case hq => exact YlA)) | refine Vr ?_ | refine Vt ?_ | refine Vf ?_ | refine Vm ?_ | refine Ve ?_ | refine Vo ?_ | refine Vz ?_ | refine Vn ?_)
    refine Ops_callM (S := BlkU g) (R := fun _ => DatV base g n cap (fun r L' => r = .tuple #[] ∧ Moved M5 L' a j ∧ Asc ltU L' a j)) (by exact Va) rfl rfl (fun w_ e_ => ih (j - a) (by omega) M5 a j lim w_ (Nat.le_refl _) (D5.ext e_) (by omega) hj1 (fun u v x x' h1 h2 h3 h4 => hP5.pre' u v x x' h1 h2 h3 (by omega)) hlim) ?_
    intro r w6 w0_ e0 m6 hR
    obtain ⟨M6, D6, rfl, hM6, hA6⟩ := hR
    have hP6 := hP5.move (hM6.wide (Nat.le_refl _) (by omega))
    have hP7 := hP6.left hj1 hj2 hA6 (q1.moved hM6 (Nat.le_refl _)) (q2.moved (hM6.wide (Nat.le_refl _) (by omega)) (Nat.le_refl _))
    repeat (first | refine Vx ?_ | (apply Ops_q; (case hon => exact Va); (case hd => rfl); (case hq => exact YlA)) | refine Vr ?_ | refine Vt ?_ | refine Vf ?_ | refine Vm ?_ | refine Ve ?_ | refine Vo ?_ | refine Vz ?_ | refine Vn ?_)
    exact ⟨(j + 1, b, lim, decide ((l : Int) / 8 ≤ ((j - a : Nat) : Int)), o, M6), (by repeat (first | exact trivial | refine ⟨rfl, ?_⟩)), ⟨hlim, (m05.ext e0).trans m6, D6, hP7⟩, by simp only; omega⟩
  · repeat (first | refine Vx ?_ | (apply Ops_q; (case hon => exact Va); (case hd => rfl); (case hq => exact YlA)) | refine Vr ?_ | refine Vt ?_ | refine Vf ?_ | refine Vm ?_ | refine Ve ?_ | refine Vo ?_ | refine Vz ?_ | refine Vn ?_)
    refine Ops_callM (S := BlkU g) (R := fun _ => DatV base g n cap (fun r L' => r = .tuple #[] ∧ Moved M5 L' (j + 1) b ∧ Asc ltU L' (j + 1) b)) (by exact Va) rfl rfl (fun w_ e_ => ih (b - (j + 1)) (by omega) M5 (j + 1) b lim w_ (Nat.le_refl _) (D5.ext e_) (by omega) (by omega) (fun u v x x' h1 h2 h3 h4 hx hx' => by
        rcases Nat.lt_or_ge u a with c | c
        · exact hP5.pre' u v x x' h1 c (by omega) h4 hx hx'
        · exact q2 u v x x' c h2 h3 h4 hx hx') hlim) ?_
    intro r w6 w0_ e0 m6 hR
    obtain ⟨M6, D6, rfl, hM6, hA6⟩ := hR
    have hP6 := hP5.move (hM6.wide (by omega) (Nat.le_refl _))
    have hP7 := hP6.right hj1 hj2 hA6 (q1.moved' (hM6.wide (by omega) (Nat.le_refl _)) (Nat.le_refl _)) (q2.moved' hM6 (Nat.le_refl _))
    repeat (first | refine Vx ?_ | (apply Ops_q; (case hon => exact Va); (case hd => rfl); (case hq => exact YlA)) | refine Vr ?_ | refine Vt ?_ | refine Vf ?_ | refine Vm ?_ | refine Ve ?_ | refine Vo ?_ | refine Vz ?_ | refine Vn ?_)
    exact ⟨(a, j, lim, decide ((l : Int) / 8 ≤ ((b - j : Nat) : Int)), o, M6), (by repeat (first | exact trivial | refine ⟨rfl, ?_⟩)), ⟨hlim, (m05.ext e0).trans m6, D6, hP7⟩, by simp only; omega⟩
end
end Go.Proofs.Ytjpnaofoeeegeaa


/-
  Sorting words: slices.Sort and slices.Compact at uint64.
  Conditions: the list is one's own, and not too long for a machine.
-/
namespace Go.Proofs.Ytjpnaofoeeegeaa
open Go.RowKit

section
variable {P : Program} {N : Fr} {ops : Array Oper} {K : Env → World → Prop} {m : Env} {w : World} {rest : List Oper} {ty : TypeId} {pos : String} {after : Array Edge} {g : Option (Nat × Bool)}
/-- clear(s) at a slice of one's own, of elements of one cell. -/
theorem Ops_clear {t e t0 : TypeId} {x : Operand} {b o n c : Nat} {cs : List Value} {z : Value} [ht : TSlice P t e] [hz : TZero P e z [z]] (hon : On N ops m ⟨none, .call { callee := .builtin .clear, args := #[x], argTypes := #[t] }, ty, pos, after, g⟩)
    (hx : ev m x = some (.slice (some ⟨b, o, none⟩) n c)) (hB : Blk w b t0 cs) (hn : 0 < n) (ho : o + n ≤ cs.length) (h1 : z.oneCell' = true)
    (h : ∀ w1, Upd w w1 b t0 (splice cs o (List.replicate n z)) → Ops P N ops false K rest m w1) : Ops P N ops false K (⟨none, .call { callee := .builtin .clear, args := #[x], argTypes := #[t] }, ty, pos, after, g⟩ :: rest) m w := by
  refine ⟨fun a w' ha hw => ?_⟩
  unfold wpList
  rw [if_pos (hon.out a ha)]
  refine .inl ?_
  have hst := run_storeCells_at P b o t0 (List.replicate n z) 0 cs.toArray w' (hB.ext hw) (by simpa using ho) (fun v hv => by rw [List.eq_of_mem_replicate hv]; exact h1)
  simp only [Nat.add_zero] at hst
  obtain ⟨inf, h2, h3⟩ := Option.bind_eq_some_iff.1 hz.h
  have hzr : (zeroValue e).run P w' = .ok z w' := by simp [zeroValue, typeInfo, h2, h3]
  have hzc : (Builtin.zeroCells z.cells n).toList = List.replicate n z := by
    rw [hz.cells]
    simp [Builtin.zeroCells]
    apply List.ext_getElem
    · simp
    · intro i h1 h2
      simp [Nat.mod_one]
  have hr : (execOp a.eval ⟨none, .call { callee := .builtin .clear, args := #[x], argTypes := #[t] }, ty, pos, after, g⟩).run P w' = .ok (.value (.tuple #[])) (w'.setRow b (splice cs o (List.replicate n z)).toArray) := by
    obtain ⟨q, rfl⟩ : ∃ q, n = q + 1 := ⟨n - 1, by omega⟩
    simp [execOp, resolve, invoke, builtin, ha.ev hx, Builtin.clear_, run_underlying ht.h, hzr, hzc, hst, splice]
  unfold Oper.wp
  rw [hr]
  exact (h _ (Upd.of hB)).out _ _ (ha.put_none _) (ext_setRow hw _)
end
section
variable {base g n cap : Nat}
theorem sortU_v (hn : n ≤ 1000000000000) (L : List Int) (w : World) (hD : DatU w base g n cap L) :
    Calls Try.prog 76 #[.slice (some ⟨g, 0, none⟩) n cap] w (Does (BlkU g) (DatV base g n cap (fun r L' => r = .tuple #[] ∧ Moved L L' 0 n ∧ Asc ltU L' 0 n)) w) := by
  have hl := Lib.bitLen_le n 40 (by omega) (by omega)
  refine V_enter (vs := [_]) Try.func76 rfl Try.ntmps76 (Nat.le_of_ble_eq_true rfl) ?_
  repeat (first | refine Vx ?_ | (apply Ops_q; (case hon => exact Va); (case hd => rfl); (case hq => exact YlA)) | refine Vr ?_ | refine Vt ?_ | refine Vf ?_ | refine Vm ?_ | refine Ve ?_ | refine Vo ?_ | refine Vz ?_ | refine Vn ?_)
  (apply Ops_q; (case hon => (exact Va)); (case hd => rfl); (case hq => exact Yl_call rfl (fun w_ e_ => lenI_v n w_ (by omega))))
  repeat (first | refine Vx ?_ | (apply Ops_q; (case hon => exact Va); (case hd => rfl); (case hq => exact YlA)) | refine Vr ?_ | refine Vt ?_ | refine Vf ?_ | refine Vm ?_ | refine Ve ?_ | refine Vo ?_ | refine Vz ?_ | refine Vn ?_)
  refine Ops_callM (S := BlkU g) (R := fun _ => DatV base g n cap (fun r L' => r = .tuple #[] ∧ Moved L L' 0 n ∧ Asc ltU L' 0 n)) (by exact Va) rfl rfl (fun w_ e_ => pdqU_v hn n L 0 n (Lib.bitLen n) w_ (Nat.le_refl _) (hD.ext e_) (Nat.le_refl _) (Nat.zero_le _) (fun i j x y h1 h2 => absurd h2 (Nat.not_lt_zero _)) (by omega)) ?_
  intro r w5 w0_ e0 m5 hR
  obtain ⟨M5, D5, rfl, hM5, hA5⟩ := hR
  repeat (first | refine Vx ?_ | (apply Ops_q; (case hon => exact Va); (case hd => rfl); (case hq => exact YlA)) | refine Vr ?_ | refine Vt ?_ | refine Vf ?_ | refine Vm ?_ | refine Ve ?_ | refine Vo ?_ | refine Vz ?_ | refine Vn ?_)
  refine ret0 (by first | exact .inl rfl | exact .inr rfl) rfl ?_
  exact Does_mk (fun w' he => ⟨M5, D5.ext he, rfl, hM5, hA5⟩) ((Mod.of_ext e0).trans m5)
end
/-! ### Compact, in plain lists -/
structure SD (D L : List Int) (p : Nat) : Prop where
  lt : D.Pairwise (· < ·)
  mem : ∀ x, x ∈ D ↔ x ∈ L.take p
theorem SD.step {D L : List Int} {p n : Nat} (h : SD D L p) (hA : Asc ltU L 0 n) (hp : p < n) (hn : n = L.length) (h1 : 1 ≤ p) {x y : Int} (hx : L[p]? = some x) (hy : L[p - 1]? = some y) :
    (x ≠ y → SD (D ++ [x]) L (p + 1)) ∧ (x = y → SD D L (p + 1)) := by
  have hle : ∀ d ∈ D, d ≤ y := fun d hd => by
    obtain ⟨k, hk, rfl⟩ := List.mem_take_iff_getElem.1 ((h.mem d).1 hd)
    rcases Nat.lt_or_ge k (p - 1) with c | c
    · have := hA k (p - 1) _ y (Nat.zero_le _) c (by omega) (List.getElem?_eq_getElem (by omega : k < L.length)) hy
      simp only [ltU] at this; omega
    · obtain rfl : k = p - 1 := by omega
      rw [List.getElem?_eq_getElem (by omega)] at hy
      exact Int.le_of_eq (Option.some.inj hy)
  have hyx : ¬ltU x y < 0 := hA (p - 1) p y x (Nat.zero_le _) (by omega) hp hy hx
  simp only [ltU] at hyx
  have hm : ∀ z, z ∈ L.take (p + 1) ↔ z ∈ L.take p ∨ z = x := fun z => by
    rw [List.take_add_one, hx, List.mem_append]; simp
  refine ⟨fun hne => ⟨?_, fun z => ?_⟩, fun he => ⟨h.lt, fun z => ?_⟩⟩
  · rw [List.pairwise_append]
    refine ⟨h.lt, List.pairwise_singleton .., fun d hd z hz => ?_⟩
    rw [List.mem_singleton.1 hz]
    have := hle d hd; omega
  · rw [List.mem_append, hm, h.mem]; simp
  · rw [hm, ← h.mem]
    refine ⟨.inl, fun hz => hz.elim id fun e => ?_⟩
    rw [h.mem, e, he]
    exact List.mem_take_iff_getElem.2 ⟨p - 1, by omega, by rw [List.getElem?_eq_getElem (by omega)] at hy; exact Option.some.inj hy⟩
section
variable {P : Program} {N : Fr} {ops : Array Oper} {K : Env → World → Prop} {m : Env} {w : World} {rest : List Oper} {ty : TypeId} {pos : String} {after : Array Edge} {g : Option (Nat × Bool)} {dr : Bool}
/-- s[i:], the address exactly -/
theorem Ops_sliceLx {dst : Nat} {t e : TypeId} {x y : Operand} {k : IntKind} {i c n0 b0 n : Nat} {ad : Addr} [ht : TSlice P t e] [hs : TSize P e n0 b0]
    (hon : On N ops m ⟨some dst, .slice t x (some y) none none, ty, pos, after, g⟩) (hd : Nat.ble (dst + 1) N.n = true) (hx : ev m x = some (.slice (some ad) n c)) (hy : ev m y = some (.int k (i : Int)))
    (hi : i < n) (hc : n ≤ c) (h : Ops P N ops false K rest ((dst, .slice (some (ad.add (i * n0))) (n - i) (c - i)) :: m) w) :
    Ops P N ops false K (⟨some dst, .slice t x (some y) none none, ty, pos, after, g⟩ :: rest) m w := by
  obtain ⟨inf, h1, h2⟩ := Option.map_eq_some_iff.1 hs.h
  simp only [Prod.mk.injEq] at h2
  refine Ops_q hon hd (Yl_of_run fun ac w' ha _ => ?_) h
  have he : P.elem t = e := by simp [Program.elem, ht.h]
  have hu : P.underlying t = some (.slice (P.elem t)) := by rw [he]; exact ht.h
  have := run_slice_l (P := P) w' t (some ad) n c hu k i (by omega) (by omega)
  have hci : ¬c = i := by omega
  simp only [execOp, Option.map_none, Option.map_some, ha.ev hx, ha.ev hy]
  simp only [Sem.run_bind, run_sliceAt_slice w' t _ _ _ _ hu, this, sizeOf, typeInfo, he]
  simp [sliced, h1, h2.1, Result.andThen, hci]
/-- s[:i], whatever lies there -/
theorem Ops_sliceHx {dst : Nat} {t e : TypeId} {x y : Operand} {k : IntKind} {i c n0 b0 n : Nat} {ao : Option Addr} [ht : TSlice P t e] [hs : TSize P e n0 b0]
    (hon : On N ops m ⟨some dst, .slice t x none (some y) none, ty, pos, after, g⟩) (hd : Nat.ble (dst + 1) N.n = true) (hx : ev m x = some (.slice ao n c)) (hy : ev m y = some (.int k (i : Int)))
    (hi : i ≤ n) (hc : n ≤ c) (h : Ops P N ops false K rest ((dst, .slice ao i c) :: m) w) :
    Ops P N ops false K (⟨some dst, .slice t x none (some y) none, ty, pos, after, g⟩ :: rest) m w := by
  refine Ops_q hon hd (v := .slice ao i c) (Yl_of_run fun ac w' ha _ => ?_) h
  obtain ⟨inf, h1, h2⟩ := Option.map_eq_some_iff.1 hs.h
  have he : P.elem t = e := by simp [Program.elem, ht.h]
  have hu : P.underlying t = some (.slice (P.elem t)) := by rw [he]; exact ht.h
  have h0 : ao.map (fun a => a.add 0) = ao := by cases ao <;> simp [Addr.add]
  have := run_slice_h (P := P) w' t ao n c hu k i (by omega) (by omega)
  simp only [execOp, Option.map_none, Option.map_some, ha.ev hx, ha.ev hy]
  simp only [Sem.run_bind, run_sliceAt_slice w' t _ _ _ _ hu, this, sizeOf, typeInfo, he]
  simp [sliced, h1, h0, Result.andThen]
end
theorem cell_of_blk {w : World} {b k : Nat} {t : TypeId} {cs : List Value} (h : Blk w b t cs) : w.cell? ⟨b, k, none⟩ = cs[k]? := by
  unfold Blk at h
  simp [World.cell?, h]
/-- Words that can be read in a row, from the start of a block on. -/
def ReadU (w : World) (g : Nat) (D : List Int) : Prop := ∀ k x, D[k]? = some x → w.cell? ((⟨g, 0, none⟩ : Addr).add (k * 1)) = some (.int .u64 x)
theorem ReadU.ext {w w1 : World} {g : Nat} {D : List Int} (h : ReadU w g D) (he : Ext w w1) : ReadU w1 g D := fun k x hx => he.cell (h k x hx)
/-- What Compact leaves: the words without those that are like the one before. -/
def CmpR (g n cap : Nat) (L : List Int) (r : Value) (w' : World) : Prop := ∃ D : List Int, r = .slice (some ⟨g, 0, none⟩) D.length cap ∧ D.length ≤ n ∧ ReadU w' g D ∧ SD D L n
section
variable {base g n cap : Nat}
theorem DatU.read {w : World} {L : List Int} (h : DatU w base g n cap L) : ReadU w g L := fun _ _ hx => h.at hx
theorem DatU.le_cap {w : World} {L : List Int} (h : DatU w base g n cap L) : n ≤ cap := by
  obtain ⟨ao, c, hv, _, hc, _⟩ := h.own.slice2
  cases hv
  rw [List.length_map, h.len] at hc; exact hc
set_option maxHeartbeats 2000000 in
theorem compactU_v (hn : n ≤ 1000000000000) (L : List Int) (w : World) (hD : DatU w base g n cap L) (hA : Asc ltU L 0 n) :
    Calls Try.prog 77 #[.slice (some ⟨g, 0, none⟩) n cap] w (Does (BlkU g) (CmpR g n cap L) w) := by
  have hLl := hD.len
  have hcap := hD.le_cap
  refine V_enter (vs := [_]) Try.func77 rfl Try.ntmps77 (Nat.le_of_ble_eq_true rfl) ?_
  repeat (first | refine Vx ?_ | (apply Ops_q; (case hon => exact Va); (case hd => rfl); (case hq => exact YlA)) | refine Vr ?_ | refine Vt ?_ | refine Vf ?_ | refine Vm ?_ | refine Ve ?_ | refine Vo ?_ | refine Vz ?_ | refine Vn ?_)
  refine V_cond rfl (fun h2 => ?_) (fun h2 => ?_)
  · replace h2 := of_decide_eq_true h2
    repeat (first | refine Vx ?_ | (apply Ops_q; (case hon => exact Va); (case hd => rfl); (case hq => exact YlA)) | refine Vr ?_ | refine Vt ?_ | refine Vf ?_ | refine Vm ?_ | refine Ve ?_ | refine Vo ?_ | refine Vz ?_ | refine Vn ?_)
    refine ret1 (by first | exact .inl rfl | exact .inr rfl) rfl rfl ?_
    refine Does_mk (fun w' he => ⟨L, by rw [hLl], Nat.le_of_eq hLl, hD.read.ext he, ⟨?_, fun x => by rw [List.take_of_length_le (by omega)]⟩⟩) (.of_ext (Ext.refl _))
    match L, hLl with
    | [], _ => exact .nil
    | [x], _ => exact List.pairwise_singleton ..
    | x :: y :: l, h => simp at h; omega
  replace h2 := of_decide_eq_false h2
  repeat (first | refine Vx ?_ | (apply Ops_q; (case hon => exact Va); (case hd => rfl); (case hq => exact YlA)) | refine Vr ?_ | refine Vt ?_ | refine Vf ?_ | refine Vm ?_ | refine Ve ?_ | refine Vo ?_ | refine Vz ?_ | refine Vn ?_)
  refine V_loop (fun s : Nat => [(3, .int .i64 s), (0, .slice (some ⟨g, 0, none⟩) n cap)]) (fun s w' => Ext w w' ∧ 1 ≤ s ∧ s ≤ n ∧ SD (L.take s) L s) (fun s => n - s) 1 (by repeat (first | exact trivial | refine ⟨rfl, ?_⟩))
    ⟨Ext.refl _, Nat.le_refl _, by omega, ⟨?_, fun x => Iff.rfl⟩⟩ ?_
  · match L with
    | [] => simp
    | x :: l => simp
  rintro i w3 ⟨x3, h1, h3, hS⟩
  have D3 := hD.ext x3
  repeat (first | refine Vx ?_ | (apply Ops_q; (case hon => exact Va); (case hd => rfl); (case hq => exact YlA)) | refine Vr ?_ | refine Vt ?_ | refine Vf ?_ | refine Vm ?_ | refine Ve ?_ | refine Vo ?_ | refine Vz ?_ | refine Vn ?_)
  refine V_cond rfl (fun hi => ?_) (fun hi => ?_)
  · replace hi := of_decide_eq_true hi
    obtain ⟨p, rfl⟩ : ∃ p, i = p + 1 := ⟨i - 1, by omega⟩
    have hs1 : ((p + 1 : Nat) : Int) - 1 = (p : Int) := by omega
    obtain ⟨x, hx⟩ := D3.get (k := p + 1) (by omega)
    obtain ⟨y, hy⟩ := D3.get (k := p) (by omega)
    have hcx := D3.at hx
    have hcy := D3.at hy
    obtain ⟨q1, q2⟩ := hS.step hA (by omega) hLl.symm h1 hx hy
    repeat (first | refine Vx ?_ | (apply Ops_q; (case hon => exact Va); (case hd => rfl); (case hq => exact YlA)) | refine Vr ?_ | refine Vt ?_ | refine Vf ?_ | refine Vm ?_ | refine Ve ?_ | refine Vo ?_ | refine Vz ?_ | refine Vn ?_)
    (apply Ops_q; (case hon => (exact Va)); (case hd => rfl); (case hq => exact Yl_indexS (j := (p+1)) rfl rfl (by omega)))
    repeat (first | refine Vx ?_ | (apply Ops_q; (case hon => exact Va); (case hd => rfl); (case hq => exact YlA)) | refine Vr ?_ | refine Vt ?_ | refine Vf ?_ | refine Vm ?_ | refine Ve ?_ | refine Vo ?_ | refine Vz ?_ | refine Vn ?_)
    rw [hs1]
    (apply Ops_q; (case hon => (exact Va)); (case hd => rfl); (case hq => exact Yl_indexS (j := p) rfl rfl (by omega)))
    repeat (first | refine Vx ?_ | (apply Ops_q; (case hon => exact Va); (case hd => rfl); (case hq => exact YlA)) | refine Vr ?_ | refine Vt ?_ | refine Vf ?_ | refine Vm ?_ | refine Ve ?_ | refine Vo ?_ | refine Vz ?_ | refine Vn ?_)
    refine V_cond rfl (fun hxy => ?_) (fun hxy => ?_)
    · replace hxy := of_decide_eq_true hxy
      replace q2 := q2 hxy
      repeat (first | refine Vx ?_ | (apply Ops_q; (case hon => exact Va); (case hd => rfl); (case hq => exact YlA)) | refine Vr ?_ | refine Vt ?_ | refine Vf ?_ | refine Vm ?_ | refine Ve ?_ | refine Vo ?_ | refine Vz ?_ | refine Vn ?_)
      (refine Ops_sliceLx (by exact Va) rfl rfl rfl (by omega) hcap ?_; rw [add_blk, Nat.zero_add, Nat.mul_one])
      repeat (first | refine Vx ?_ | (apply Ops_q; (case hon => exact Va); (case hd => rfl); (case hq => exact YlA)) | refine Vr ?_ | refine Vt ?_ | refine Vf ?_ | refine Vm ?_ | refine Ve ?_ | refine Vo ?_ | refine Vz ?_ | refine Vn ?_)
      generalize hi0 : p + 1 = i0 at *
      clear hx hy hcx hcy hs1 q1 hS
      refine V_loop (fun s : Nat × Nat × List Int => [(5, .int .i64 s.1), (3, .int .i64 s.2.1), (4, .slice (some ⟨g, i0, none⟩) (n - i0) (cap - i0)), (0, .slice (some ⟨g, 0, none⟩) n cap)])
        (fun s w' => 1 ≤ s.1 ∧ s.1 ≤ n - i0 ∧ i0 ≤ s.2.1 ∧ s.2.1 < i0 + s.1 ∧ Mod (BlkU g) w w' ∧ DatU w' base g n cap s.2.2 ∧ SD (s.2.2.take s.2.1) L (i0 + s.1) ∧ ∀ j, i0 + s.1 ≤ j + 1 → s.2.2[j]? = L[j]?) (fun s => n - i0 - s.1) (1, i0, L) (by repeat (first | exact trivial | refine ⟨rfl, ?_⟩))
        ⟨Nat.le_refl _, by dsimp only; omega, Nat.le_refl _, by dsimp only; omega, .of_ext x3, D3, q2, fun _ _ => rfl⟩ ?_
      clear q2 D3 h1 h3 hi x3
      rintro ⟨k, i, M⟩ w3 ⟨h1, h3, h4, h5, m3, D3, hS, hsame⟩
      dsimp only at h1 h3 h4 h5 D3 hS hsame ⊢
      have hMl := D3.len
      repeat (first | refine Vx ?_ | (apply Ops_q; (case hon => exact Va); (case hd => rfl); (case hq => exact YlA)) | refine Vr ?_ | refine Vt ?_ | refine Vf ?_ | refine Vm ?_ | refine Ve ?_ | refine Vo ?_ | refine Vz ?_ | refine Vn ?_)
      refine V_cond rfl (fun hk => ?_) (fun hk => ?_)
      · replace hk := of_decide_eq_true hk
        obtain ⟨q, rfl⟩ : ∃ q, k = q + 1 := ⟨k - 1, by omega⟩
        have hs1 : ((q + 1 : Nat) : Int) - 1 = (q : Int) := by omega
        obtain ⟨x, hx⟩ := D3.get (k := i0 + (q + 1)) (by omega)
        obtain ⟨y, hy⟩ := D3.get (k := i0 + q) (by omega)
        have hcx := D3.at hx
        have hcy := D3.at hy
        rw [add_blk, Nat.zero_add, Nat.mul_one, ← Nat.mul_one (q + 1), ← add_blk] at hcx
        rw [add_blk, Nat.zero_add, Nat.mul_one, ← Nat.mul_one q, ← add_blk] at hcy
        obtain ⟨q1, q2⟩ := hS.step hA (by omega) hLl.symm (by omega) (by rw [← hsame _ (by omega)]; exact hx) (by rw [← hsame _ (by omega)]; exact hy)
        repeat (first | refine Vx ?_ | (apply Ops_q; (case hon => exact Va); (case hd => rfl); (case hq => exact YlA)) | refine Vr ?_ | refine Vt ?_ | refine Vf ?_ | refine Vm ?_ | refine Ve ?_ | refine Vo ?_ | refine Vz ?_ | refine Vn ?_)
        (apply Ops_q; (case hon => (exact Va)); (case hd => rfl); (case hq => exact Yl_indexS (j := (q+1)) rfl rfl (by omega)))
        repeat (first | refine Vx ?_ | (apply Ops_q; (case hon => exact Va); (case hd => rfl); (case hq => exact YlA)) | refine Vr ?_ | refine Vt ?_ | refine Vf ?_ | refine Vm ?_ | refine Ve ?_ | refine Vo ?_ | refine Vz ?_ | refine Vn ?_)
        rw [hs1]
        (apply Ops_q; (case hon => (exact Va)); (case hd => rfl); (case hq => exact Yl_indexS (j := q) rfl rfl (by omega)))
        repeat (first | refine Vx ?_ | (apply Ops_q; (case hon => exact Va); (case hd => rfl); (case hq => exact YlA)) | refine Vr ?_ | refine Vt ?_ | refine Vf ?_ | refine Vm ?_ | refine Ve ?_ | refine Vo ?_ | refine Vz ?_ | refine Vn ?_)
        refine V_cond rfl (fun hne => ?_) (fun hne => ?_)
        · repeat (first | refine Vx ?_ | (apply Ops_q; (case hon => exact Va); (case hd => rfl); (case hq => exact YlA)) | refine Vr ?_ | refine Vt ?_ | refine Vf ?_ | refine Vm ?_ | refine Ve ?_ | refine Vo ?_ | refine Vz ?_ | refine Vn ?_)
          (apply Ops_q; (case hon => (exact Va)); (case hd => rfl); (case hq => exact Yl_indexS (j := (q+1)) rfl rfl (by omega)))
          repeat (first | refine Vx ?_ | (apply Ops_q; (case hon => exact Va); (case hd => rfl); (case hq => exact YlA)) | refine Vr ?_ | refine Vt ?_ | refine Vf ?_ | refine Vm ?_ | refine Ve ?_ | refine Vo ?_ | refine Vz ?_ | refine Vn ?_)
          (apply Ops_q; (case hon => (exact Va)); (case hd => rfl); (case hq => exact Yl_indexS (j := i) rfl rfl (by omega)))
          repeat (first | refine Vx ?_ | (apply Ops_q; (case hon => exact Va); (case hd => rfl); (case hq => exact YlA)) | refine Vr ?_ | refine Vt ?_ | refine Vf ?_ | refine Vm ?_ | refine Ve ?_ | refine Vo ?_ | refine Vz ?_ | refine Vn ?_)
          refine Ops_storeDatU (i := i) (v := x) (by exact Va) rfl rfl rfl D3 (by omega) ?_
          intro w5 D5 g5
          have m5 : Mod (BlkU g) w w5 := m3.grow g5 (fun b hb => .inl (by cases hb; rfl))
          have hxy : x ≠ y := fun h => by simp [h] at hne
          have ht : (M.set i x).take (i + 1) = M.take i ++ [x] := by
            rw [List.take_add_one, List.take_set_of_le (Nat.le_refl _), List.getElem?_set_self (by omega)]; rfl
          repeat (first | refine Vx ?_ | (apply Ops_q; (case hon => exact Va); (case hd => rfl); (case hq => exact YlA)) | refine Vr ?_ | refine Vt ?_ | refine Vf ?_ | refine Vm ?_ | refine Ve ?_ | refine Vo ?_ | refine Vz ?_ | refine Vn ?_)
          refine ⟨(q + 1 + 1, i + 1, M.set i x), (by repeat (first | exact trivial | refine ⟨rfl, ?_⟩)), ⟨by dsimp only; omega, by dsimp only; omega, by dsimp only; omega, by dsimp only; omega, m5, D5, ?_, fun j hj => ?_⟩, by simp only; omega⟩
          · dsimp only; rw [ht]; exact q1 hxy
          · dsimp only at hj ⊢; rw [List.getElem?_set_ne (by omega)]; exact hsame j (by omega)
        · have hxy : x = y := by
            by_cases h : x = y
            · exact h
            · simp [h] at hne
          repeat (first | refine Vx ?_ | (apply Ops_q; (case hon => exact Va); (case hd => rfl); (case hq => exact YlA)) | refine Vr ?_ | refine Vt ?_ | refine Vf ?_ | refine Vm ?_ | refine Ve ?_ | refine Vo ?_ | refine Vz ?_ | refine Vn ?_)
          exact ⟨(q + 1 + 1, i, M), (by repeat (first | exact trivial | refine ⟨rfl, ?_⟩)), ⟨by dsimp only; omega, by dsimp only; omega, h4, by dsimp only; omega, m3, D3, q2 hxy, fun j hj => hsame j (by dsimp only at hj; omega)⟩, by simp only; omega⟩
      · replace hk := of_decide_eq_false hk
        obtain rfl : k = n - i0 := by omega
        have hin : i < n := by omega
        rw [show i0 + (n - i0) = n by omega] at hS
        repeat (first | refine Vx ?_ | (apply Ops_q; (case hon => exact Va); (case hd => rfl); (case hq => exact YlA)) | refine Vr ?_ | refine Vt ?_ | refine Vf ?_ | refine Vm ?_ | refine Ve ?_ | refine Vo ?_ | refine Vz ?_ | refine Vn ?_)
        (refine Ops_sliceLx (by exact Va) rfl rfl rfl hin hcap ?_; rw [add_blk, Nat.zero_add, Nat.mul_one])
        repeat (first | refine Vx ?_ | (apply Ops_q; (case hon => exact Va); (case hd => rfl); (case hq => exact YlA)) | refine Vr ?_ | refine Vt ?_ | refine Vf ?_ | refine Vm ?_ | refine Ve ?_ | refine Vo ?_ | refine Vz ?_ | refine Vn ?_)
        obtain ⟨hlen, ⟨e1, _⟩ | ⟨g', cap', cur, e1, e3, e4, e5, e6, e7, e8⟩⟩ := D3.own.row
        · cases e1
        cases e1
        have hB : Blk w3 g 53 cur.toList := by unfold Blk; simpa using e4
        have hcl : cur.toList.length = cap := by rw [Array.length_toList, e7, Nat.mul_one]
        refine Ops_clear (by exact Va) rfl hB (by omega) (by omega) rfl ?_
        intro w4 u4
        have m4 := m3.upd u4 (.inl rfl)
        repeat (first | refine Vx ?_ | (apply Ops_q; (case hon => exact Va); (case hd => rfl); (case hq => exact YlA)) | refine Vr ?_ | refine Vt ?_ | refine Vf ?_ | refine Vm ?_ | refine Ve ?_ | refine Vo ?_ | refine Vz ?_ | refine Vn ?_)
        refine Ops_sliceHx (by exact Va) rfl rfl rfl (Nat.le_of_lt hin) hcap ?_
        repeat (first | refine Vx ?_ | (apply Ops_q; (case hon => exact Va); (case hd => rfl); (case hq => exact YlA)) | refine Vr ?_ | refine Vt ?_ | refine Vf ?_ | refine Vm ?_ | refine Ve ?_ | refine Vo ?_ | refine Vz ?_ | refine Vn ?_)
        refine ret1 (by first | exact .inl rfl | exact .inr rfl) rfl rfl ?_
        refine Does_mk (fun w' he => ⟨M.take i, by rw [List.length_take, Nat.min_eq_left (by omega)], by rw [List.length_take]; omega, ReadU.ext (fun k x hx => ?_) he, hS⟩) m4
        rw [List.getElem?_take] at hx
        split at hx
        · rename_i hki
          have hk := D3.at hx
          rw [add_blk, cell_of_blk hB] at hk
          rw [add_blk, cell_of_blk u4.blk]
          unfold splice
          rw [List.append_assoc, List.getElem?_append_left (by rw [List.length_take]; omega), List.getElem?_take, if_pos (by omega)]
          exact hk
        · cases hx
    · replace hxy := of_decide_eq_false hxy
      replace q1 := q1 hxy
      repeat (first | refine Vx ?_ | (apply Ops_q; (case hon => exact Va); (case hd => rfl); (case hq => exact YlA)) | refine Vr ?_ | refine Vt ?_ | refine Vf ?_ | refine Vm ?_ | refine Ve ?_ | refine Vo ?_ | refine Vz ?_ | refine Vn ?_)
      refine ⟨p + 1 + 1, (by repeat (first | exact trivial | refine ⟨rfl, ?_⟩)), ⟨by assumption, by omega, by omega, ?_⟩, by omega⟩
      rw [List.take_add_one, hx]; exact q1
  · replace hi := of_decide_eq_false hi
    obtain rfl : i = n := by omega
    repeat (first | refine Vx ?_ | (apply Ops_q; (case hon => exact Va); (case hd => rfl); (case hq => exact YlA)) | refine Vr ?_ | refine Vt ?_ | refine Vf ?_ | refine Vm ?_ | refine Ve ?_ | refine Vo ?_ | refine Vz ?_ | refine Vn ?_)
    refine ret1 (by first | exact .inl rfl | exact .inr rfl) rfl rfl ?_
    rw [List.take_of_length_le (by omega)] at hS
    exact Does_mk (fun w' he => ⟨L, by rw [hLl], Nat.le_of_eq hLl, D3.read.ext he, hS⟩) (.of_ext x3)
end
end Go.Proofs.Ytjpnaofoeeegeaa


/-
  Tables (layer 7): bounds.
  Conditions: the lists are not too long for a machine.
-/
namespace Go.Proofs.Ytjpnaofoeeegeaa
open Go.RowKit

def words (L : List En) : List Int := L.flatMap fun x => [(x.p.a : Int), (x.p.last : Int) + 1]
theorem words_snoc {L : List En} {k : Nat} {x : En} (hx : L[k]? = some x) : words (L.take (k + 1)) = words (L.take k) ++ [(x.p.a : Int), (x.p.last : Int) + 1] := by
  unfold words; rw [List.take_add_one, hx, List.flatMap_append]; rfl
theorem words_len (L : List En) : (words L).length = 2 * L.length := by
  unfold words
  induction L with
  | nil => rfl
  | cons x l ih => rw [List.flatMap_cons, List.length_append, ih]; simp; omega
theorem own_lit1 {w w1 : World} {b : Nat} {e : TypeId} {v : Value} (h : New w w1 b e [v]) : Own w1 w.heap.size e 1 (.slice (some ⟨b, 0, none⟩) 1 1) [[v]] :=
  ⟨⟨rfl, .inr ⟨b, 1, #[v], rfl, h.ge, h.blk, Nat.le_refl _, by unfold maxLen; omega, rfl, rfl⟩⟩, by simp⟩
theorem last_lt' (p : Pf) (ha : p.a < 4294967296) : p.last < 4294967296 := by
  unfold Pf.last
  split
  · rename_i hv
    obtain ⟨v1, v2, v3⟩ := Pf.valid_iff.1 hv
    exact last_lt v3 (by omega) ha
  · omega
end Go.Proofs.Ytjpnaofoeeegeaa


/-
  Layer 6 (trie): a lookup returns the entry with the longest prefix.
  Conditions: addresses are below 2^32.
-/
namespace Go.Proofs.Ytjpnaofoeeegeaa
open Go.RowKit

def lu (E : Nat → Nat → Option Int) (a : Nat) : Nat → Option En
  | 0 => none
  | m + 1 => match E (top a m) m with
    | some v => some ⟨⟨top a m, m⟩, v⟩
    | none => lu E a m
theorem pre_last (E : Nat → Nat → Option Int) (a : Nat) : ∀ m, (pre E a m).getLast? = lu E a m
  | 0 => rfl
  | m + 1 => by
    rw [pre_succ, lu]
    cases h : E (top a m) m with
    | some v => simp [adds]
    | none => simp [adds, pre_last E a m]
theorem lu_none {E : Nat → Nat → Option Int} {a : Nat} : ∀ {m : Nat}, lu E a m = none → ∀ j, j < m → E (top a j) j = none
  | 0, _, j, hj => by omega
  | m + 1, h, j, hj => by
    rw [lu] at h
    cases hE : E (top a m) m with
    | some v => rw [hE] at h; cases h
    | none =>
      rw [hE] at h
      rcases Nat.lt_or_ge j m with h1 | h1
      · exact lu_none h j h1
      · obtain rfl : j = m := by omega
        exact hE
theorem lu_some {E : Nat → Nat → Option Int} {a : Nat} {e : En} : ∀ {m : Nat}, lu E a m = some e → ∃ j, j < m ∧ e.p = ⟨top a j, j⟩ ∧ E (top a j) j = some e.v ∧ ∀ i, j < i → i < m → E (top a i) i = none
  | 0, h => by cases h
  | m + 1, h => by
    rw [lu] at h
    cases hE : E (top a m) m with
    | some v =>
      rw [hE] at h
      cases h
      exact ⟨m, by omega, rfl, hE, fun i h1 h2 => by omega⟩
    | none =>
      rw [hE] at h
      obtain ⟨j, h1, h2, h3, h4⟩ := lu_some h
      refine ⟨j, by omega, h2, h3, fun i h5 h6 => ?_⟩
      rcases Nat.lt_or_ge i m with h7 | h7
      · exact h4 i h5 h7
      · obtain rfl : i = m := by omega
        exact hE
theorem setE_ne {E : Nat → Nat → Option Int} {p : Pf} {v : Int} {x k : Nat} (h : ¬(x = p.a ∧ k = p.n.toNat)) : setE E p v x k = E x k := by rw [setE, if_neg h]
theorem lu_setA {E : Nat → Nat → Option Int} {a : Nat} {p : Pf} {v : Int} {k : Nat} (hp : p = ⟨top a k, k⟩) : ∀ {m : Nat}, k < m → (∀ j, k < j → j < m → E (top a j) j = none) → lu (setE E p v) a m = some ⟨p, v⟩
  | 0, h, _ => by omega
  | m + 1, h, hn => by
    rw [lu]
    by_cases hk : m = k
    · subst hk
      rw [setE, if_pos (by rw [hp]; simp)]
      simp [hp]
    · rw [setE_ne (by rw [hp]; simp; intro _; exact hk), hn m (by omega) (by omega)]
      exact lu_setA hp (by omega) fun j h1 h2 => hn j h1 (by omega)
theorem lu_setB {E : Nat → Nat → Option Int} {a : Nat} {p : Pf} {v : Int} {k : Nat} (hp : p = ⟨top a k, k⟩) : ∀ {m : Nat}, (m ≤ k ∨ ∃ j, k < j ∧ j < m ∧ E (top a j) j ≠ none) → lu (setE E p v) a m = lu E a m
  | 0, _ => rfl
  | m + 1, h => by
    have hk : m ≠ k := by rcases h with h | ⟨j, h1, h2, _⟩ <;> omega
    rw [lu, lu, setE_ne (by rw [hp]; simp; intro _; exact hk)]
    cases hE : E (top a m) m with
    | some u => rfl
    | none =>
      refine lu_setB hp ?_
      rcases h with h | ⟨j, h1, h2, h3⟩
      · exact .inl (by omega)
      · rcases Nat.lt_or_ge j m with h7 | h7
        · exact .inr ⟨j, h1, h7, h3⟩
        · obtain rfl : j = m := by omega
          exact absurd hE h3
theorem lu_congr {E E' : Nat → Nat → Option Int} {a : Nat} : ∀ {m : Nat}, (∀ j, j < m → E' (top a j) j = E (top a j) j) → lu E' a m = lu E a m
  | 0, _ => rfl
  | m + 1, h => by
    rw [lu, lu, h m (by omega), lu_congr fun j hj => h j (by omega)]
/-- One step of the search for the longest. -/
def bestB (a : Nat) (o : Option En) (x : En) : Bool := x.p.has a && (o.isNone || decide ((o.getD En.zero).p.n ≤ x.p.n))
def bestS (a : Nat) (o : Option En) (x : En) : Option En := if bestB a o x then some x else o
def bestL (a : Nat) (L : List En) : Option En := L.foldl (bestS a) none
theorem look_put {E : Nat → Nat → Option Int} {a : Nat} {x : En} (hv : x.p.valid = true) : lookE (setE E x.p x.v) a = bestS a (lookE E a) x := by
  obtain ⟨v1, v2, v3⟩ := Pf.valid_iff.1 hv
  rw [lookE, lookE, pre_last, pre_last, bestS, bestB, Pf.has, hv, Bool.true_and]
  by_cases hh : top a x.p.n.toNat = x.p.a
  · rw [decide_eq_true hh, Bool.true_and]
    have hp : x.p = ⟨top a x.p.n.toNat, (x.p.n.toNat : Nat)⟩ := pf_eq hh.symm (show x.p.n = ((x.p.n.toNat : Nat) : Int) by omega)
    cases hl : lu E a 33 with
    | none =>
      rw [lu_setA hp (by omega) fun j h1 h2 => lu_none hl j h2]
      rfl
    | some e =>
      obtain ⟨j, h1, h2, h3, h4⟩ := lu_some hl
      have hn : e.p.n = j := by rw [h2]
      simp only [Option.isNone_some, Bool.false_or, Option.getD_some, hn]
      by_cases hjk : (j : Int) ≤ x.p.n
      · rw [decide_eq_true hjk, lu_setA hp (by omega) fun i h5 h6 => h4 i (by omega) h6]
        rfl
      · rw [decide_eq_false hjk, lu_setB hp (.inr ⟨j, by omega, h1, by rw [h3]; exact fun h => nomatch h⟩), hl]
        rfl
  · rw [decide_eq_false hh, Bool.false_and]
    refine lu_congr fun j hj => setE_ne ?_
    rintro ⟨e1, e2⟩
    subst e2
    exact hh e1
theorem look_best {a : Nat} {L : List En} (hok : allOk L = true) : lookE (ofS L).1 a = bestL a L := by
  have key : ∀ (L : List En) (s : St) (o : Option En), allOk L = true → lookE s.1 a = o → lookE (L.foldl putS s).1 a = L.foldl (bestS a) o := by
    intro L
    induction L with
    | nil => intro s o _ h; exact h
    | cons x r ih =>
      intro s o hok h
      unfold allOk at hok
      rw [List.all_cons, Bool.and_eq_true] at hok
      exact ih (putS s x) (bestS a o x) hok.2 (by rw [putS]; simp only; rw [look_put hok.1, h])
  have hz : ∀ m, lu (fun _ _ => none) a m = none := fun m => by
    induction m with
    | zero => rfl
    | succ m ih => rw [lu]; exact ih
  exact key L St.zero none hok (by rw [lookE, pre_last]; exact hz 33)
end Go.Proofs.Ytjpnaofoeeegeaa


/-
  Regions that draw their order and hold one store among the first operations: the loads come before it, the others do not look at memory.
  No conditions beyond those that each rule states.
-/
import Derived.Test.YtfakgiikobajnaaVLate
namespace Go.Proofs.Ytfakgiikobajnaa
open Go.RowKit

def isStore (o : Oper) : Bool := match o.op with
  | .store _ _ _ => true
  | _ => false
def isLoad (o : Oper) : Bool := match o.op with
  | .load _ _ => true
  | _ => false
section
variable {P : Program} {md : Region.Mode} {ops : Array Oper}
/-- What the operations do: the store leaves a world of which R is known; loads yield the same in every world that has grown from w0, the others in every world. -/
def storeY (P : Program) (w0 : World) (R : World → Prop) (o : Oper) (a : Act) (v : Value) : Prop :=
  if isStore o then v = undef ∧ ∀ w', Ext w0 w' → ∃ w'', (execOp a.eval o).run P w' = .ok .skip w'' ∧ R w'' else if isLoad o then yW P w0 o a v else ∀ w', o.quietAt P a (Ext w') w' v
theorem same_storeY (P : Program) (w0 : World) (R : World → Prop) : Same (storeY P w0 R) := fun o a a' v he h => by
  unfold storeY at *
  split at h
  · rename_i hd
    rw [if_pos hd]
    refine ⟨h.1, fun w' hw' => ?_⟩
    rw [he]; exact h.2 w' hw'
  · rename_i hd
    rw [if_neg hd]
    split at h
    · rename_i hl
      rw [if_pos hl]
      exact same_yW P w0 o a a' v he h
    · rename_i hl
      rw [if_neg hl]
      intro w'
      have := h w'
      unfold Oper.quietAt at *
      rwa [he]
theorem store_any {n s i0 : Nat} {Q1 : Act → Prop} {Q : Exit → Act → World → Prop} {w0 : World} {R : World → Prop} {pre : Array Oper} (hR : ∀ w w', Ext w w' → R w → R w') (hn : n ≤ ops.size) (hP : ∀ i o, i < n → ops[i]? = some o → pre[i]? = some o)
    (hA : ∀ i, n ≤ i → i < ops.size → ∀ j, j < n → reach ops md 9 i j = true)
    (hE : ∀ i o, ops[i]? = some o → i < n → ∀ e ∈ o.after, Region.binds md e = true → e.on < i)
    (hG : ∀ i o, ops[i]? = some o → i < n → o.guard = none) (h0 : i0 < n)
    (hS : ∀ i o, ops[i]? = some o → i < n → (isStore o = true ↔ i = i0)) (hS0 : ∀ o, ops[i0]? = some o → o.dst = none)
    (hLd : ∀ i o, ops[i]? = some o → i < n → isLoad o = true → reach ops md 9 i0 i = true)
    (last : ∀ a w, R w → Q1 a → wpAny P md ops Q s (upto ops.size n) a w) :
    ∀ (f : Nat) (L L' : Array Bool) (a : Act) (w : World), (L[i0]? = some false → Ext w0 w) → (L[i0]? = some true → R w) → L'.size = n → L.size = ops.size → (∀ j, j < n → L[j]? = L'[j]?) → (∀ j, n ≤ j → j < ops.size → L[j]? = some false) → cnt n L' = f →
      Closed ops md L → anyY md pre (storeY P w0 R) Q1 f L' a → wpAny P md ops Q (f + s) L a w := by
  intro f
  induction f with
  | zero =>
    intro L L' a w _ hX hs' hs h1 h2 hc hcl h
    have hlist : ∀ j, j < n → L[j]? = some true := fun j hj => by
      rw [h1 j hj]
      have := List.countP_eq_zero.1 hc j (List.mem_range.2 hj)
      have hlt : j < L'.size := by omega
      simp [hlt] at this
      simp [hlt, this]
    have hL : L = upto ops.size n := by
      refine Array.ext_getElem? fun j => ?_
      rcases Nat.lt_or_ge j ops.size with hj | hj
      · rw [upto_get _ _ _ hj]
        rcases Nat.lt_or_ge j n with hjn | hjn
        · rw [hlist j hjn]; simp [hjn]
        · rw [h2 j hjn hj]; simp; omega
      · rw [Array.getElem?_eq_none (by omega), Array.getElem?_eq_none (by rw [upto_size]; omega)]
    rw [Nat.zero_add]
    have hr := hX (hlist i0 h0)
    rw [hL]
    exact last a w hr h.2
  | succ f ih =>
    intro L L' a w hE0 hX hs' hs h1 h2 hc hcl h
    rw [Nat.succ_add]
    have un : ∃ j, j < n ∧ L'[j]? = some false ∧ ∀ k, k < j → L'[k]? = some true := by
      have hpos : 0 < cnt n L' := by omega
      obtain ⟨j, hj, hjf⟩ := List.countP_pos_iff.1 hpos
      have hjn := List.mem_range.1 hj
      have hjl : j < L'.size := by omega
      have hjf' : L'[j]? = some false := by simp [hjl] at hjf ⊢; exact hjf
      clear hj hjf hjl
      induction j using Nat.strongRecOn with
      | ind j ihj =>
        by_cases hall : ∀ k, k < j → L'[k]? = some true
        · exact ⟨j, hjn, hjf', hall⟩
        · obtain ⟨k, hk⟩ := Classical.not_forall.1 hall
          obtain ⟨hkj, hk⟩ := Classical.not_imp.1 hk
          have hkl : k < L'.size := by omega
          refine ihj k hkj (by omega) ?_
          rw [Array.getElem?_eq_getElem hkl] at hk ⊢
          cases hb : L'[k] with
          | true => rw [hb] at hk; exact absurd rfl hk
          | false => rfl
    obtain ⟨j0, hj0, hjf, hbelow⟩ := un
    have on_lt : ∀ {i : Nat} {o : Oper} {e : Edge}, ops[i]? = some o → i < n → e ∈ o.after → Region.binds md e = true → L.getD e.on false = L'.getD e.on false := fun ho hi he hb => by
      have h4 := hE _ _ ho hi _ he hb
      rename_i i1 o1 e1
      have h3 := h1 e1.on (by omega)
      rw [Array.getD_eq_getD_getElem?, Array.getD_eq_getD_getElem?, h3]
    have lt_n : ∀ i, i ∈ Region.ready md ops L → i < n := fun i hi => by
      obtain ⟨_, o, ho, hall⟩ := mem_ready.1 hi
      rcases Nat.lt_or_ge i n with h3 | h3
      · exact h3
      · have hlt : i < ops.size := by
          rcases Nat.lt_or_ge i ops.size with h' | h'
          · exact h'
          · rw [Array.getElem?_eq_none h'] at ho; cases ho
        have := reach_listed hcl 9 i j0 (fun o' ho' => by obtain rfl := Option.some.inj (ho.symm.trans ho'); exact hall) (hA i h3 hlt j0 hj0)
        rw [getD_of ((h1 j0 hj0).trans hjf)] at this
        cases this
    refine ⟨fun hr => ?_, fun i hi => ?_⟩
    · exfalso
      have hmem : j0 ∈ Region.ready md ops L := by
        have hlt : j0 < ops.size := by omega
        refine mem_ready.2 ⟨getD_of ((h1 j0 hj0).trans hjf) _, ops[j0], Array.getElem?_eq_getElem hlt, fun e he hb => ?_⟩
        have hlt' := hE j0 _ (Array.getElem?_eq_getElem hlt) hj0 e he hb
        exact getD_of ((h1 _ (by omega)).trans (hbelow _ hlt')) _
      rw [hr] at hmem; cases hmem
    · have hin' := lt_n i hi
      have hcl' := hcl.set hi
      obtain ⟨hun, o, ho, hall⟩ := mem_ready.1 hi
      have hpo : pre[i]? = some o := hP i o hin' ho
      have hun' : L'.getD i true = false := by
        have := h1 i hin'
        simp only [Array.getD_eq_getD_getElem?, ← this] at hun ⊢; exact hun
      have hi' : i ∈ Region.ready md pre L' := mem_ready.2 ⟨hun', o, hpo, fun e he hb => by rw [← on_lt ho hin' he hb]; exact hall e he hb⟩
      have hq := (stepY_iff hpo).1 (h.2 i hi')
      obtain ⟨v, hv, hK⟩ := hq
      have hset : ∀ j, j < n → (L.setIfInBounds i true)[j]? = (L'.setIfInBounds i true)[j]? := fun j hj => by
        by_cases e : i = j
        · subst e
          have hl1 : i < L.size := by omega
          have hl2 : i < L'.size := by omega
          simp [hl1, hl2]
        · rw [Array.getElem?_setIfInBounds_ne e, Array.getElem?_setIfInBounds_ne e]; exact h1 j hj
      have hset2 : ∀ j, n ≤ j → j < ops.size → (L.setIfInBounds i true)[j]? = some false := fun j hj hjs => by
        rw [Array.getElem?_setIfInBounds_ne (by omega)]; exact h2 j hj hjs
      have hc' : cnt n (L'.setIfInBounds i true) = f := by have := cnt_set n L' i hin' hun'; omega
      have hgn := hG i o ho hin'
      have hwt : ∀ y, Region.wanted o y = true := fun y => by unfold Region.wanted; rw [hgn]
      have hL0 : i0 < L.size := by omega
      unfold wpOp
      simp only [ho]
      rw [if_pos (hwt _)]
      rcases hv with ⟨_, hy⟩ | ⟨hwn, _⟩
      · unfold storeY at hy
        by_cases hii : i = i0
        · subst hii
          rw [if_pos ((hS i o ho hin').2 rfl)] at hy
          obtain ⟨rfl, hl⟩ := hy
          have hLf : L[i]? = some false := by
            rw [Array.getElem?_eq_getElem hL0]
            have : L[i] = false := by simpa [hL0] using hun
            rw [this]
          obtain ⟨w'', hrun, hRw⟩ := hl w (hE0 hLf)
          refine .inl ?_
          unfold Oper.wp
          rw [hrun]
          show wpAny P md ops Q (f + s) (L.setIfInBounds i true) (a.put o.dst undef) w''
          have hnew : (L.setIfInBounds i true)[i]? = some true := by simp [hL0]
          exact ih _ _ _ w'' (fun h3 => by rw [hnew] at h3; cases h3) (fun _ => hRw) (by simpa using hs') (by simpa using hs) hset hset2 hc' hcl' hK
        · rw [if_neg (fun h3 => hii ((hS i o ho hin').1 h3))] at hy
          have hsame : (L.setIfInBounds i true)[i0]? = L[i0]? := Array.getElem?_setIfInBounds_ne hii
          have hq1 : o.quietAt P a (Ext w) w v := by
            split at hy
            · rename_i hld
              refine hy w (hE0 ?_)
              cases hb : L[i0] with
              | false => rw [Array.getElem?_eq_getElem hL0, hb]
              | true =>
                have hlt : i0 < ops.size := by omega
                have := reach_listed hcl 9 i0 i (fun o' ho' e he hb' => hcl i0 o' (by simp [hL0, hb]) ho' e he hb') (hLd i o ho hin' hld)
                have hi2 : i < L.size := by omega
                simp [hi2] at this hun
                rw [this] at hun; cases hun
            · exact hy w
          have hq2 : ∀ w1, Ext w w1 → o.quietAt P a (Ext w1) w1 v := fun w1 hw1 => by
            split at hy
            · rename_i hld
              refine hy w1 ((hE0 ?_).trans hw1)
              cases hb : L[i0] with
              | false => rw [Array.getElem?_eq_getElem hL0, hb]
              | true =>
                have hlt : i0 < ops.size := by omega
                have := reach_listed hcl 9 i0 i (fun o' ho' e he hb' => hcl i0 o' (by simp [hL0, hb]) ho' e he hb') (hLd i o ho hin' hld)
                have hi2 : i < L.size := by omega
                simp [hi2] at this hun
                rw [this] at hun; cases hun
            · exact hy w1
          refine .inl (Oper.wp_of_quiet (C := fun w'' => Ext w w'') (K := fun x => x = a.put o.dst v) (Ext.refl w) (fun a1 w1 hw1 e => ?_) ?_)
          · subst e
            exact ih _ _ _ w1 (fun h3 => (hE0 (hsame ▸ h3)).trans hw1) (fun h3 => hR _ _ hw1 (hX (hsame ▸ h3))) (by simpa using hs') (by simpa using hs) hset hset2 hc' hcl' hK
          · refine ⟨v, fun w1 hw1 => ?_, rfl⟩
            have hq1 := hq2 w1 hw1
            unfold Oper.quietAt at hq1 ⊢
            generalize (execOp a.eval o).run P w1 = r at *
            cases r with
            | ok nx w2 =>
              cases nx <;> simp only [Oper.quietUpon] at hq1 ⊢ <;> first | exact hq1 | exact ⟨hq1.1, hq1.2.mono fun e w3 h3 => ⟨h3.1, hw1.trans h3.2⟩⟩
            | halt x w2 => simp only [Oper.quietUpon] at hq1
      · rw [hwt] at hwn; cases hwn

/-! ### The test -/
def storeB (ops : Array Oper) (n i0 : Nat) : Bool :=
  Nat.ble n ops.size && Region.noSelect ops && Region.lexB .any (ops.toList.take n).toArray && Nat.ble (i0 + 1) n &&
  (List.range ops.size).all (fun i => match ops[i]? with
    | none => true
    | some o => if Nat.ble (i + 1) n then (o.after.all fun e => !Region.binds .any e || Nat.ble (e.on + 1) i) && o.guard.isNone && (isStore o == Nat.beq i i0) && (!isStore o || o.dst.isNone) && (!isLoad o || reach ops .any 9 i0 i)
      else (List.range n).all fun j => reach ops .any 9 i j) &&
  (List.range ops.size).all (fun k => Nat.ble (k + 1) n || (match Region.ready .any ops (upto ops.size k) with
    | [k'] => Nat.beq k' k
    | _ => false)) &&
  (Region.ready .any ops (upto ops.size ops.size)).isEmpty
theorem wp_store {l : List Oper} {n i0 id : Nat} {Q1 : Act → Prop} {Q : Exit → Act → World → Prop} {w0 w : World} {a : Act} {R : World → Prop} (hR : ∀ w w', Ext w w' → R w → R w') (hm : P.follows .mixedOrders = true) (hB : storeB l.toArray n i0 = true) (hw : Ext w0 w)
    (h : listY (l.take n).toArray (storeY P w0 R) Q1 (l.take n) a)
    (last : ∀ a w, R w → Q1 a → wpList P l.toArray Q (l.drop n) a w) :
    (Code.region id l.toArray true).wp P Q a w := by
  simp only [storeB, Bool.and_eq_true] at hB
  obtain ⟨⟨⟨⟨⟨⟨b1, b0⟩, b2⟩, bi⟩, b3⟩, b4⟩, b5⟩ := hB
  have hn : n ≤ l.toArray.size := Nat.le_of_ble_eq_true b1
  have hnl : n ≤ l.length := by simpa using hn
  have at3 : ∀ i o, l.toArray[i]? = some o → _ := fun i o ho => by
    have hlt : i < l.toArray.size := by
      rcases Nat.lt_or_ge i l.toArray.size with h' | h'
      · exact h'
      · rw [Array.getElem?_eq_none h'] at ho; cases ho
    have := List.all_eq_true.1 b3 i (List.mem_range.2 hlt)
    simp only [ho] at this
    exact this
  have pre3 : ∀ i o, l.toArray[i]? = some o → i < n → _ := fun i o ho hi => by
    have := at3 i o ho
    rw [if_pos (Nat.ble_eq_true_of_le hi)] at this
    simp only [Bool.and_eq_true] at this
    exact this
  have hP : ∀ i o, i < n → l.toArray[i]? = some o → (l.take n).toArray[i]? = some o := fun i o hi ho => by
    have : l[i]? = some o := by simpa using ho
    simp [hi, this]
  have hE : ∀ i o, l.toArray[i]? = some o → i < n → ∀ e ∈ o.after, Region.binds .any e = true → e.on < i := fun i o ho hi e he hb => by
    have := Array.all_eq_true_iff_forall_mem.1 (pre3 i o ho hi).1.1.1.1 e he
    rw [hb, Bool.not_true, Bool.false_or] at this
    exact Nat.le_of_ble_eq_true this
  have hG : ∀ i o, l.toArray[i]? = some o → i < n → o.guard = none := fun i o ho hi => by
    have := (pre3 i o ho hi).1.1.1.2
    simpa using this
  have hS : ∀ i o, l.toArray[i]? = some o → i < n → (isStore o = true ↔ i = i0) := fun i o ho hi => by
    have := (pre3 i o ho hi).1.1.2
    have e : isStore o = Nat.beq i i0 := by simpa using this
    rw [e]; exact ⟨Nat.eq_of_beq_eq_true, fun h => by subst h; exact Nat.beq_refl _⟩
  have h0 : i0 < n := Nat.le_of_ble_eq_true bi
  have hS0 : ∀ o, l.toArray[i0]? = some o → o.dst = none := fun o ho => by
    have := (pre3 i0 o ho h0).1.2
    rw [(hS i0 o ho h0).2 rfl] at this
    simpa using this
  have hLd : ∀ i o, l.toArray[i]? = some o → i < n → isLoad o = true → reach l.toArray .any 9 i0 i = true := fun i o ho hi hl => by
    have := (pre3 i o ho hi).2
    rw [hl] at this
    simpa using this
  have hA : ∀ i, n ≤ i → i < l.toArray.size → ∀ j, j < n → reach l.toArray .any 9 i j = true := fun i hi his j hj => by
    have := at3 i _ (Array.getElem?_eq_getElem his)
    rw [if_neg (fun hb => by have := Nat.le_of_ble_eq_true hb; omega)] at this
    exact List.all_eq_true.1 this j (List.mem_range.2 hj)
  have hr : ∀ k, n ≤ k → k < l.toArray.size → Region.ready .any l.toArray (upto l.toArray.size k) = [k] := fun k hk hks => by
    have := List.all_eq_true.1 b4 k (List.mem_range.2 hks)
    simp only [Bool.or_eq_true] at this
    rcases this with h' | h'
    · have := Nat.le_of_ble_eq_true h'; omega
    · split at h'
      · rename_i k' he
        rw [he, Nat.eq_of_beq_eq_true h']
      · cases h'
  have he : Region.ready .any l.toArray (upto l.toArray.size l.toArray.size) = [] := by simpa using b5
  simp only [Region.lexB, Bool.and_eq_true] at b2
  have hdl : (l.drop n).length = l.toArray.size - n := by simp
  have hlen : (l.take n).length = n := by simp; omega
  refine wp_region_any hm ?_
  have quiet := anyY_lex (md := .any) (same_storeY P w0 R) b2.1 (l.take n) 0 (Array.replicate (l.take n).toArray.size false) a (by simp) (by simpa using b2.2) h
  have key := store_any (P := P) (md := .any) (ops := l.toArray) (pre := (l.take n).toArray) (n := n) (s := (l.drop n).length) (i0 := i0) (Q := Q) (Q1 := Q1) (w0 := w0) (R := R)
    hR hn hP hA hE hG h0 hS hS0 hLd
    (fun a1 w1 hw1 q1 => one_any hr he (l.drop n) n (Nat.le_refl _) (by rw [hdl]; omega) (fun j => by simp) a1 w1
      (last a1 w1 hw1 q1))
  have hcnt : cnt n (Array.replicate (l.take n).toArray.size false) = (l.take n).length := by
    unfold cnt
    rw [List.countP_eq_length.2]
    · rw [hlen]; simp
    · intro j hj
      have := List.mem_range.1 hj
      have h2 : j < (l.take n).toArray.size := by simp; omega
      simp only [Array.getD_eq_getD_getElem?, Array.getElem?_replicate]
      rw [if_pos h2]; rfl
  have hsame : ∀ j, j < n → (Array.replicate l.toArray.size false)[j]? = (Array.replicate (l.take n).toArray.size false)[j]? := fun j hj => by
    have h1 : j < l.length := by omega
    have h2 : j < (l.take n).length := by omega
    simp only [Array.getElem?_replicate]
    rw [if_pos (by simpa using h1), if_pos (by simpa using h2)]
  have hclosed : Closed l.toArray .any (Array.replicate l.toArray.size false) := fun (k : Nat) o hk => by
    simp only [Array.getD_eq_getD_getElem?, Array.getElem?_replicate] at hk
    split at hk <;> simp at hk
  have e : (l.take n).length + (l.drop n).length = l.toArray.size := by rw [hlen, hdl]; omega
  have := key (l.take n).length (Array.replicate l.toArray.size false) (Array.replicate (l.take n).toArray.size false) a { w with drawn := w.drawn + 1 } (fun _ => hw.draw) (fun h3 => by
    simp only [Array.getElem?_replicate] at h3
    split at h3 <;> simp at h3) (by simp; omega) (by simp)
    hsame (fun j _ hj => by simp only [Array.getElem?_replicate]; rw [if_pos hj]) hcnt hclosed quiet
  rwa [e] at this
end

section
variable {P : Program} {N : Nat} {m : Env} {w : World}
/-- Operations without guards: loads, which yield the same in every world that has grown from w, and others, which yield the same in every world; K is known of the frame behind them. -/
def YsS (P : Program) (N : Nat) (w : World) (K : Env → Prop) : List Oper → Env → Prop
  | [], m => K m
  | o :: r, m => ∃ d v, o.dst = some d ∧ Nat.ble (d + 1) N = true ∧ o.guard = none ∧ isStore o = false ∧ (if isLoad o then Yl P N m w o v else ∀ w', Yl P N m w' o v) ∧ YsS P N w K r ((d, v) :: m)
theorem YsS.nil {K : Env → Prop} {l : List Oper} (hl : l = []) (h : K m) : YsS P N w K l m := by subst hl; exact h
theorem YsS.pure {K : Env → Prop} {o : Oper} {r : List Oper} {d : Nat} {v : Value} (h1 : o.dst = some d) (h2 : Nat.ble (d + 1) N = true) (h4 : o.guard = none) (h3 : isStore o = false) (hl : isLoad o = false) (h5 : ∀ w', Yl P N m w' o v) (h6 : YsS P N w K r ((d, v) :: m)) : YsS P N w K (o :: r) m :=
  ⟨d, v, h1, h2, h4, h3, by rw [hl]; exact h5, h6⟩
theorem YsS.load {K : Env → Prop} {o : Oper} {r : List Oper} {d : Nat} {v : Value} (h1 : o.dst = some d) (h2 : Nat.ble (d + 1) N = true) (h4 : o.guard = none) (h3 : isStore o = false) (hl : isLoad o = true) (h5 : Yl P N m w o v) (h6 : YsS P N w K r ((d, v) :: m)) : YsS P N w K (o :: r) m :=
  ⟨d, v, h1, h2, h4, h3, by rw [hl]; exact h5, h6⟩
theorem listY_yss {ops : Array Oper} {Q : Act → Prop} {R : World → Prop} {K : Env → Prop} (hQ : ∀ M a, K M → Agree N M a → Q a) : ∀ (l : List Oper) (m : Env) (a : Act), YsS P N w K l m → Agree N m a → listY ops (storeY P w R) Q l a
  | [], m, a, h, ha => hQ m a h ha
  | o :: r, m, a, h, ha => by
    obtain ⟨d, v, h1, h2, h4, h3, h5, h6⟩ := h
    unfold listY
    rw [if_pos (by unfold Region.wanted; rw [h4])]
    refine ⟨v, ?_, ?_⟩
    · unfold storeY
      rw [h3, if_neg Bool.false_ne_true]
      split at h5
      · rename_i hl
        rw [if_pos hl]
        exact fun w1 hw1 => h5.out a w1 ha hw1
      · rename_i hl
        rw [if_neg hl]
        exact fun w1 => (h5 w1).out a w1 ha (Ext.refl _)
    · rw [h1]
      exact listY_yss hQ r _ _ h6 (ha.put (Nat.le_of_ble_eq_true h2) v)
/-- The store of a region: what it leaves, run alone. -/
theorem V_store (n i0 : Nat) {Q : Exit → Env → World → Prop} {id : Nat} {l : List Oper} {t : TypeId} {x y : Operand} {ty : TypeId} {pos : String} {after : Array Edge} {R : World → Prop}
    (hR : ∀ w w', Ext w w' → R w → R w') (hm : P.follows .mixedOrders = true) (ho : l.take n = l.take i0 ++ ⟨none, .store t x y, ty, pos, after, none⟩ :: (l.take n).drop (i0 + 1)) (hB : storeB l.toArray n i0 = true)
    (h : YsS P N w (fun M1 => (∀ a, Agree N M1 a → ∀ w', Ext w w' → ∃ w'', (execOp a.eval ⟨none, .store t x y, ty, pos, after, none⟩).run P w' = .ok .skip w'' ∧ R w'') ∧
      YsS P N w (fun M2 => ∀ w2, R w2 → Ops P N l.toArray false (fun m w => Q .normal m w) (l.drop n) M2 w2) ((l.take n).drop (i0 + 1)) M1) (l.take i0) m) :
    V P N (.region id l.toArray true) Q m w := by
  refine ⟨fun a w' ha hw => Code.wp_mono (Q := fun e a w => e = .normal ∧ lift N Q .normal a w) (fun e a w ⟨h1, h2⟩ => by rw [h1]; exact h2) ?_⟩
  refine wp_store (w0 := w) (R := R) hR hm hB hw (Q1 := fun a' => ∃ M2, (∀ w2, R w2 → Ops P N l.toArray false (fun m w => Q .normal m w) (l.drop n) M2 w2) ∧ Agree N M2 a') ?_ ?_
  · generalize hL : (l.take n).toArray = A
    rw [ho]
    refine listY_append _ _ _ (listY_yss (fun M1 a1 ⟨hst, h2⟩ ag1 => ?_) _ _ _ h ha)
    unfold listY
    rw [if_pos (by unfold Region.wanted; rfl)]
    refine ⟨undef, ?_, ?_⟩
    · unfold storeY
      rw [if_pos (show isStore _ = true from rfl)]
      exact ⟨rfl, hst a1 ag1⟩
    · exact listY_yss (fun M2 _ h3 ag2 => ⟨M2, h3, ag2⟩) _ _ _ h2 (ag1.put_none _)
  · rintro a1 w1 hR1 ⟨M2, h, ag⟩
    have h5 := (h w1 hR1).out a1 w1 ag (Ext.refl _)
    have mono : ∀ (l' : List Oper) (a : Act) (w0 : World), wpList P l.toArray (fun e a' w'' => e = .normal ∧ ∃ m' w1, Q .normal m' w1 ∧ Agree N m' a' ∧ Ext w1 w'') l' a w0 → wpList P l.toArray (fun e a w => e = .normal ∧ lift N Q .normal a w) l' a w0 := by
      intro l'
      induction l' with
      | nil => exact fun a w0 ⟨_, m', w1, q, ag, ex⟩ => ⟨rfl, m', w1, q, ag, ex⟩
      | cons o r ih =>
        intro a w0 h6
        unfold wpList at h6 ⊢
        split
        · rename_i hwn
          rw [if_pos hwn] at h6
          rcases h6 with h6 | h6
          · exact .inl (wp_normal (fun a1 w1 hh => ih a1 w1 hh) h6)
          · obtain ⟨_, _, _, h7, _⟩ := h6; cases h7
        · rename_i hwn
          rw [if_neg hwn] at h6
          exact ih _ _ h6
    exact mono _ _ _ h5
/-- A store, run by itself. -/
theorem store_run {t t0 : TypeId} {x y : Operand} {b o : Nat} {cs vs out : List Value} {v : Value} {n0 b0 : Nat} {ty : TypeId} {pos : String} {after : Array Edge} {g : Option (Nat × Bool)} [hs : TSize P t n0 b0]
    (hx : ev m x = some (.pointer (some ⟨b, o, none⟩))) (hy : ev m y = some v) (hB : Blk w b t0 cs) [hv : TCells v vs] [hl : TLen vs n0] [hp : TSplice o vs cs out] (h1 : vs.all (fun u => u.oneCell') = true)
    (a : Act) (ha : Agree N m a) (w' : World) (hw : Ext w w') : ∃ w'', (execOp a.eval ⟨none, .store t x y, ty, pos, after, g⟩).run P w' = .ok .skip w'' ∧ ∃ w1, Upd w w1 b t0 out ∧ Ext w1 w'' := by
  obtain ⟨inf, hi, hsz⟩ := Option.map_eq_some_iff.1 hs.h
  simp only [Prod.mk.injEq] at hsz
  have hlen := hl.h
  have ho := hp.len
  have hst := run_storeCells_at P b o t0 vs 0 cs.toArray w' (hB.ext hw) (by simpa using ho) (List.all_eq_true.1 h1)
  simp only [Nat.add_zero] at hst
  have e : out = splice cs o vs := by rw [← hp.h]; exact over_splice _ _ _ ho
  refine ⟨w'.setRow b out.toArray, ?_, w.setRow b out.toArray, Upd.of hB, ext_setRow hw _⟩
  rw [e]
  simp only [execOp, ha.ev hx, ha.ev hy, Instr.storeAt, Instr.sureAddr, storeVar, sizeOf, typeInfo]
  simp [hi, hsz.1, hv.h, hlen, hst, splice]
/-- A store of a whole element of a slice of one's own, run by itself. -/
theorem storeElem_run {t e : TypeId} {x y : Operand} {base b0 n0 g cap i : Nat} {p : Addr} {v : Value} {u : List Value} {L : List (List Value)} {ty : TypeId} {pos : String} {after : Array Edge} {gd : Option (Nat × Bool)} [hs : TSize P t n0 b0]
    (hx : ev m x = some (.pointer (some p))) (hy : ev m y = some v) (hp : p = ⟨g, i * n0, none⟩) (hown : Own w base e n0 (.slice (some ⟨g, 0, none⟩) L.length cap) L) (hi : i < L.length) [hu : TCells v u] [hl : TLen u n0] (h1 : u.all (fun u => u.oneCell') = true)
    (a : Act) (ha : Agree N m a) (w' : World) (hw : Ext w w') : ∃ w'', (execOp a.eval ⟨none, .store t x y, ty, pos, after, gd⟩).run P w' = .ok .skip w'' ∧ Own w'' base e n0 (.slice (some ⟨g, 0, none⟩) L.length cap) (L.set i u) ∧ Mod (fun c => c = g) w w'' := by
  subst hp
  obtain ⟨hlen, ⟨h2, _⟩ | ⟨g', cap', cur, h2, h3, h4, h5, h6, h7, h8⟩⟩ := hown.row
  · cases h2
  cases h2
  have hB : Blk w g e cur.toList := by unfold Blk; simpa using h4
  have ho : i * n0 + n0 ≤ L.length * n0 := by
    have : (i + 1) * n0 ≤ L.length * n0 := Nat.mul_le_mul_right _ hi
    rw [Nat.succ_mul] at this; omega
  have hc : cur.toList.length = cap * n0 := by simpa using h7
  have hlc : L.length * n0 ≤ cap * n0 := Nat.mul_le_mul_right _ h5
  have hul := hl.h
  have : TSplice (i * n0) u cur.toList (splice cur.toList (i * n0) u) := ⟨over_splice _ _ _ (by omega), by omega⟩
  have hsl : (splice cur.toList (i * n0) u).length = cur.toList.length := by unfold splice; simp only [List.length_append, List.length_take, List.length_drop]; omega
  obtain ⟨w2, hr, w1, hu1, he⟩ := store_run (P := P) (N := N) (t := t) (ty := ty) (pos := pos) (after := after) (g := gd) (vs := u) hx hy hB h1 a ha w' hw
  refine ⟨w2, hr, Own.ext ⟨⟨?_, .inr ⟨g, cap, _, by rw [List.length_set], h3, hu1.blk, ?_, h6, ?_, ?_⟩⟩, ?_⟩ he, ((Mod.of_ext (S := fun c => c = g) (Ext.refl _)).upd hu1 (.inl rfl)).ext he⟩
  · rw [flatten_set_all hul L i hown.len hi, List.length_set]
    unfold splice; simp only [List.length_append, List.length_take, List.length_drop]; omega
  · rw [List.length_set]; exact h5
  · rw [← hc, ← hsl]; simp
  · rw [flatten_set_all hul L i hown.len hi, List.length_set, ← h8]
    unfold splice
    have e1 : (List.take (i * n0) cur.toList ++ u).length = i * n0 + n0 := by simp; omega
    rw [List.take_append, e1, List.take_of_length_le (by omega), List.take_take, Nat.min_eq_left (by omega), List.drop_take, hul]
  · intro z hz
    rcases List.mem_or_eq_of_mem_set hz with hz | rfl
    · exact hown.len z hz
    · exact hul
/-- One less, for a number that is not 0. -/
theorem Yl_pred {t t' : TypeId} {x y : Operand} {p : Nat} {dst : Option Tmp} {ty : TypeId} {pos : String} {after : Array Edge} {g : Option (Nat × Bool)} (hx : ev m x = some (.int .i64 ((p + 1 : Nat) : Int))) (hy : ev m y = some (.int .i64 1)) (hk : p ≤ 4611686018427387904) :
    Yl P N m w ⟨dst, .binOp .sub t x y t', ty, pos, after, g⟩ (.int .i64 (p : Int)) := by
  have h := Yl_arith_in (P := P) (N := N) (w := w) (dst := dst) (ty := ty) (pos := pos) (after := after) (g := g) (op := .sub) (t := t) (t' := t') (c := ((p + 1 : Nat) : Int) - 1) hx hy rfl (by simp only [InK]; omega)
  have e : ((p + 1 : Nat) : Int) - 1 = (p : Int) := by omega
  rwa [e] at h
end
end Go.Proofs.Ytfakgiikobajnaa

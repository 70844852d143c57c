/-
  Regions that draw their order and hold one operation among the first that makes memory out of what the others give (the literal of a slice).
  No conditions beyond those that each rule states.
-/
import Derived.Test.YtfakgiikobajnaaVMod
namespace Go.Proofs.Ytfakgiikobajnaa
open Go.RowKit

section
variable {P : Program} {md : Region.Mode} {ops : Array Oper}
/-- In every world that has grown from w0 the operation leaves a value of which R is known, and a world that has grown. -/
def Late (P : Program) (w0 : World) (R : Value → World → Prop) (o : Oper) (a : Act) : Prop :=
  ∀ w', Ext w0 w' → ∃ x w'', (execOp a.eval o).run P w' = .ok (.value x) w'' ∧ Ext w' w'' ∧ R x w''
def lateY (P : Program) (w0 : World) (R : Value → World → Prop) (d : Nat) (o : Oper) (a : Act) (v : Value) : Prop :=
  if o.dst = some d then v = undef ∧ Late P w0 R o a else yW P w0 o a v
theorem same_lateY (P : Program) (w0 : World) (R : Value → World → Prop) (d : Nat) : Same (lateY P w0 R d) := fun o a a' v he h => by
  unfold lateY at *
  split at h
  · rename_i hd
    rw [if_pos hd]
    refine ⟨h.1, fun w' hw' => ?_⟩
    rw [he]; exact h.2 w' hw'
  · rename_i hd
    rw [if_neg hd]
    exact same_yW P w0 o a a' v he h

theorem late_any {n s d : Nat} (early : Nat → Bool) {Q1 : Act → Prop} {Q : Exit → Act → World → Prop} {w0 : World} {R : Value → World → Prop} {pre : Array Oper} (hR : ∀ x w w', Ext w w' → R x w → R x w') (hn : n ≤ ops.size) (hP : ∀ i o, i < n → ops[i]? = some o → pre[i]? = some o)
    (hA : ∀ i, n ≤ i → i < ops.size → ∀ j, j < n → early j = true ∨ reach ops md 9 i j = true)
    (hE : ∀ i o, ops[i]? = some o → i < n → ∀ e ∈ o.after, e.on < i)
    (hG : ∀ i o, ops[i]? = some o → i < n → ∀ g, o.guard = some g → g.1 < n ∧ ∀ o', ops[g.1]? = some o' → o'.dst ≠ some d)
    (hsel : ∀ (j : Nat) (o : Oper) cs b, ops[j]? = some o → j < n → o.op ≠ .select cs b)
    (hD : ∀ i o, ops[i]? = some o → i < n → d ∉ o.looksAt ops)
    (hg0 : ∀ i o, ops[i]? = some o → i < n → o.dst = some d → o.guard = none)
    (hin : ∃ i o, i < n ∧ ops[i]? = some o ∧ o.dst = some d)
    (last : ∀ a' a w, Ext w0 w → Q1 a' → But [d] a' a → (∃ x, a.tmps[d]? = some x ∧ R x w) → wpAny P md ops Q s (upto ops.size n) a w) :
    ∀ (f : Nat) (L L' : Array Bool) (a' a : Act) (w : World), Ext w0 w → L'.size = n → L.size = ops.size → (∀ j, j < n → L[j]? = L'[j]?) → (∀ j, n ≤ j → j < ops.size → L[j]? = some false) → cnt n L' = f →
      (∀ j, j < n → early j = true → L[j]? = some true) → Closed ops md L → But [d] a' a → d < a.tmps.size → ((∃ i o, L[i]? = some true ∧ i < n ∧ ops[i]? = some o ∧ o.dst = some d) → ∃ x, a.tmps[d]? = some x ∧ R x w) →
      anyY md pre (lateY P w0 R d) Q1 f L' a' → wpAny P md ops Q (f + s) L a w := by
  intro f
  induction f with
  | zero =>
    intro L L' a' a w hC hs' hs h1 h2 hc hea hcl hbut hDs hm h
    have hlist : ∀ j, j < n → L[j]? = some true := fun j hj => by
      rw [h1 j hj]
      have := List.countP_eq_zero.1 hc j (List.mem_range.2 hj)
      have hlt : j < L'.size := by omega
      simp [hlt] at this
      simp [hlt, this]
    have hL : L = upto ops.size n := by
      refine Array.ext_getElem? fun j => ?_
      rcases Nat.lt_or_ge j ops.size with hj | hj
      · rw [upto_get _ _ _ hj]
        rcases Nat.lt_or_ge j n with hjn | hjn
        · rw [hlist j hjn]; simp [hjn]
        · rw [h2 j hjn hj]; simp; omega
      · rw [Array.getElem?_eq_none (by omega), Array.getElem?_eq_none (by rw [upto_size]; omega)]
    rw [Nat.zero_add]
    obtain ⟨i, o, hi, ho, hd⟩ := hin
    have hm' := hm ⟨i, o, hlist i hi, hi, ho, hd⟩
    rw [hL]
    exact last a' a w hC h.2 hbut hm'
  | succ f ih =>
    intro L L' a' a w hC hs' hs h1 h2 hc hea hcl hbut hDs hm h
    rw [Nat.succ_add]
    have un : ∃ j, j < n ∧ L'[j]? = some false ∧ ∀ k, k < j → L'[k]? = some true := by
      have hpos : 0 < cnt n L' := by omega
      obtain ⟨j, hj, hjf⟩ := List.countP_pos_iff.1 hpos
      have hjn := List.mem_range.1 hj
      have hjl : j < L'.size := by omega
      have hjf' : L'[j]? = some false := by simp [hjl] at hjf ⊢; exact hjf
      clear hj hjf hjl
      induction j using Nat.strongRecOn with
      | ind j ihj =>
        by_cases hall : ∀ k, k < j → L'[k]? = some true
        · exact ⟨j, hjn, hjf', hall⟩
        · obtain ⟨k, hk⟩ := Classical.not_forall.1 hall
          obtain ⟨hkj, hk⟩ := Classical.not_imp.1 hk
          have hkl : k < L'.size := by omega
          refine ihj k hkj (by omega) ?_
          rw [Array.getElem?_eq_getElem hkl] at hk ⊢
          cases hb : L'[k] with
          | true => rw [hb] at hk; exact absurd rfl hk
          | false => rfl
    obtain ⟨j0, hj0, hjf, hbelow⟩ := un
    have on_lt : ∀ {i : Nat} {o : Oper} {e : Edge}, ops[i]? = some o → i < n → e ∈ o.after → L.getD e.on false = L'.getD e.on false := fun ho hi he => by
      have h4 := hE _ _ ho hi _ he
      rename_i i0 o0 e0
      have h3 := h1 e0.on (by omega)
      rw [Array.getD_eq_getD_getElem?, Array.getD_eq_getD_getElem?, h3]
    have lt_n : ∀ i, i ∈ Region.ready md ops L → i < n := fun i hi => by
      obtain ⟨_, o, ho, hall⟩ := mem_ready.1 hi
      rcases Nat.lt_or_ge i n with h3 | h3
      · exact h3
      · have hlt : i < ops.size := by
          rcases Nat.lt_or_ge i ops.size with h' | h'
          · exact h'
          · rw [Array.getElem?_eq_none h'] at ho; cases ho
        rcases hA i h3 hlt j0 hj0 with h4 | h4
        · have := hea j0 hj0 h4
          rw [h1 j0 hj0, hjf] at this; cases this
        · have := reach_listed hcl 9 i j0 (fun o' ho' => by obtain rfl := Option.some.inj (ho.symm.trans ho'); exact hall) h4
          rw [getD_of ((h1 j0 hj0).trans hjf)] at this
          cases this
    refine ⟨fun hr => ?_, fun i hi => ?_⟩
    · exfalso
      have hmem : j0 ∈ Region.ready md ops L := by
        have hlt : j0 < ops.size := by omega
        refine mem_ready.2 ⟨getD_of ((h1 j0 hj0).trans hjf) _, ops[j0], Array.getElem?_eq_getElem hlt, fun e he _ => ?_⟩
        have hlt' := hE j0 _ (Array.getElem?_eq_getElem hlt) hj0 e he
        exact getD_of ((h1 _ (by omega)).trans (hbelow _ hlt')) _
      rw [hr] at hmem; cases hmem
    · have hin' := lt_n i hi
      have hcl' := hcl.set hi
      obtain ⟨hun, o, ho, hall⟩ := mem_ready.1 hi
      have hpo : pre[i]? = some o := hP i o hin' ho
      have hun' : L'.getD i true = false := by
        have := h1 i hin'
        simp only [Array.getD_eq_getD_getElem?, ← this] at hun ⊢; exact hun
      have hi' : i ∈ Region.ready md pre L' := mem_ready.2 ⟨hun', o, hpo, fun e he hb => by rw [← on_lt ho hin' he]; exact hall e he hb⟩
      have hq := (stepY_iff hpo).1 (h.2 i hi')
      obtain ⟨v, hv, hK⟩ := hq
      have hset : ∀ j, j < n → (L.setIfInBounds i true)[j]? = (L'.setIfInBounds i true)[j]? := fun j hj => by
        by_cases e : i = j
        · subst e
          have hl1 : i < L.size := by omega
          have hl2 : i < L'.size := by omega
          simp [hl1, hl2]
        · rw [Array.getElem?_setIfInBounds_ne e, Array.getElem?_setIfInBounds_ne e]; exact h1 j hj
      have hset2 : ∀ j, n ≤ j → j < ops.size → (L.setIfInBounds i true)[j]? = some false := fun j hj hjs => by
        rw [Array.getElem?_setIfInBounds_ne (by omega)]; exact h2 j hj hjs
      have hea' : ∀ j, j < n → early j = true → (L.setIfInBounds i true)[j]? = some true := fun j hj he => by
        by_cases e : i = j
        · subst e
          have hl1 : i < L.size := by omega
          simp [hl1]
        · rw [Array.getElem?_setIfInBounds_ne e]; exact hea j hj he
      have hc' : cnt n (L'.setIfInBounds i true) = f := by have := cnt_set n L' i hin' hun'; omega
      have old : ∀ k, (L.setIfInBounds i true)[k]? = some true → k ≠ i → L[k]? = some true := fun k hk hki => by
        rwa [Array.getElem?_setIfInBounds_ne (Ne.symm hki)] at hk
      have hex : execOp a.eval o = execOp a'.eval o := hbut.exec o (fun cs b => hsel i o cs b ho hin') (fun x hx => by rw [List.mem_singleton.1 hx]; exact hD i o ho hin')
      unfold wpOp
      simp only [ho]
      by_cases hdo : o.dst = some d
      · have hgn := hg0 i o ho hin' hdo
        have hwt : ∀ y, Region.wanted o y = true := fun y => by unfold Region.wanted; rw [hgn]
        rw [if_pos (hwt _)]
        rcases hv with ⟨_, hy⟩ | ⟨hwn, _⟩
        · unfold lateY at hy
          rw [if_pos hdo] at hy
          obtain ⟨rfl, hl⟩ := hy
          obtain ⟨x, w'', hrun, hext, hRx⟩ := hl w hC
          rw [← hex] at hrun
          refine .inl ?_
          unfold Oper.wp
          rw [hrun]
          show wpAny P md ops Q (f + s) (L.setIfInBounds i true) (a.put o.dst x) w''
          rw [hdo] at hK ⊢
          have hb2 : But [d] (a'.put (some d) undef) (a.put (some d) x) := by
            refine ⟨hbut.defers, by simp [Act.put, hbut.size], fun k hk => ?_⟩
            have hne : d ≠ k := fun e => hk (by rw [e]; exact List.mem_singleton.2 rfl)
            simp only [Act.put]
            rw [Array.getElem?_setIfInBounds_ne hne, Array.getElem?_setIfInBounds_ne hne]
            exact hbut.slot k hk
          exact ih _ _ _ _ w'' (hC.trans hext) (by simpa using hs') (by simpa using hs) hset hset2 hc' hea' hcl' hb2 (by simp [Act.put, hDs]) (fun _ => ⟨x, by simp [Act.put, hDs], hRx⟩) hK
        · rw [hwt] at hwn; cases hwn
      · have hw : Region.wanted o (yielded pre a'.tmps) = Region.wanted o (yielded ops a.tmps) := by
          unfold Region.wanted
          cases hg : o.guard with
          | none => rfl
          | some gd =>
            obtain ⟨hg1, hg2⟩ := hG i o ho hin' gd hg
            have hlt : gd.1 < ops.size := by omega
            have hog := Array.getElem?_eq_getElem hlt
            have hpg := hP _ _ hg1 hog
            have hy : yielded pre a'.tmps gd.1 = yielded ops a.tmps gd.1 := by
              simp only [yielded, hpg, hog, Option.bind_some]
              cases hd : (ops[gd.1]'hlt).dst with
              | none => rfl
              | some d' =>
                have hdD : d' ∉ [d] := fun hdD => hg2 _ hog (by rw [hd, List.mem_singleton.1 hdD])
                simp only [Option.bind_some, hbut.slot d' hdD]
            simp only [hy]
        have made : ∀ u w'', Ext w w'' → (∃ k o, (L.setIfInBounds i true)[k]? = some true ∧ k < n ∧ ops[k]? = some o ∧ o.dst = some d) → ∃ x, (a.put o.dst u).tmps[d]? = some x ∧ R x w'' := fun u w'' hw'' ⟨k, ok, hk, hkn, hok, hkd⟩ => by
          have hki : k ≠ i := fun e => by subst e; obtain rfl := Option.some.inj (ho.symm.trans hok); exact hdo hkd
          obtain ⟨x, m1, m2⟩ := hm ⟨k, ok, old k hk hki, hkn, hok, hkd⟩
          refine ⟨x, ?_, hR x _ _ hw'' m2⟩
          cases hdst : o.dst with
          | none => exact m1
          | some y =>
            have : y ≠ d := fun e => hdo (by rw [hdst, e])
            simp only [Act.put]
            rw [Array.getElem?_setIfInBounds_ne this]; exact m1
        have szP : ∀ u, d < (a.put o.dst u).tmps.size := fun u => by cases o.dst <;> simp [Act.put, hDs]
        rcases hv with ⟨hwn, hy⟩ | ⟨hwn, hvu⟩
        · unfold lateY at hy
          rw [if_neg hdo] at hy
          rw [hw] at hwn
          rw [if_pos hwn]
          refine .inl (Oper.wp_of_quiet (C := fun w'' => Ext w w'') (K := fun x => x = a.put o.dst v) (Ext.refl w) (fun a1 w1 hw1 e => ?_) ?_)
          · subst e
            exact ih _ _ (a'.put o.dst v) _ w1 (hC.trans hw1) (by simpa using hs') (by simpa using hs) hset hset2 hc' hea' hcl' (hbut.put _ _) (szP v) (made v w1 hw1) hK
          · refine ⟨v, fun w1 hw1 => ?_, rfl⟩
            have hq1 := hy w1 (hC.trans hw1)
            unfold Oper.quietAt at hq1 ⊢
            rw [← hex] at hq1
            generalize (execOp a.eval o).run P w1 = r at *
            cases r with
            | ok nx w2 =>
              cases nx <;> simp only [Oper.quietUpon] at hq1 ⊢ <;> first | exact hq1 | exact ⟨hq1.1, hq1.2.mono fun e w3 h3 => ⟨h3.1, hw1.trans h3.2⟩⟩
            | halt x w2 => simp only [Oper.quietUpon] at hq1
        · rw [hw] at hwn
          rw [if_neg (by rw [hwn]; exact Bool.false_ne_true)]
          subst hvu
          exact ih _ _ (a'.put o.dst undef) _ w hC (by simpa using hs') (by simpa using hs) hset hset2 hc' hea' hcl' (hbut.put _ _) (szP _) (made undef w (Ext.refl w)) hK

/-! ### The test -/
def lateB (ops : Array Oper) (n d : Nat) (m0 : Bool) : Bool :=
  Nat.ble n ops.size && Region.noSelect ops && Region.lexB .any (ops.toList.take n).toArray &&
  (List.range ops.size).all (fun i => match ops[i]? with
    | none => true
    | some o => if Nat.ble (i + 1) n then (o.after.all fun e => Nat.ble (e.on + 1) i) &&
        (match o.guard with
          | none => true
          | some g => Nat.ble (g.1 + 1) n && (match ops[g.1]? with
            | none => true
            | some o' => !(o'.dst == some d))) &&
        !(o.looksAt ops).contains d &&
        (if o.dst == some d then o.guard.isNone && (List.range n).all fun i' => Nat.beq i i' || (match ops[i']? with
            | some o' => !(o'.dst == some d)
            | none => true) else true)
      else (List.range n).all fun j => (m0 && Nat.beq j 0) || reach ops .any 9 i j) &&
  (List.range ops.size).all (fun k => Nat.ble (k + 1) n || (match Region.ready .any ops (upto ops.size k) with
    | [k'] => Nat.beq k' k
    | _ => false)) &&
  (Region.ready .any ops (upto ops.size ops.size)).isEmpty &&
  (List.range n).any (fun i => match ops[i]? with
    | some o => o.dst == some d
    | none => false)

theorem rep_getD {m j : Nat} (h : j < m) : (Array.replicate m false).getD j true = false := by
  simp only [Array.getD_eq_getD_getElem?, Array.getElem?_replicate]
  rw [if_pos h]; rfl
theorem rep_set {m : Nat} (h : 0 < m) : ((Array.replicate m false).setIfInBounds 0 true)[0]? = some true := by
  rw [Array.getElem?_setIfInBounds]
  simp [h]
theorem wp_late {l : List Oper} {n d id : Nat} {Q1 : Act → Prop} {Q : Exit → Act → World → Prop} {w0 w : World} {a : Act} {R : Value → World → Prop} (m0 : Bool) (hR : ∀ x w w', Ext w w' → R x w → R x w') (hm : P.follows .mixedOrders = true) (hB : lateB l.toArray n d m0 = true)
    (h0 : m0 = true → (∃ d0 x ty pos after r, l = ⟨some d0, .move x, ty, pos, after, none⟩ :: r ∧ d0 ≠ d) ∧ 0 < n ∧ Region.free .any l.toArray (Array.replicate l.toArray.size false) 0 = true ∧ (Region.ready .any l.toArray (Array.replicate l.toArray.size false)).contains 0 = true ∧ ∀ c a w, ¬Q (.panic c) a w)
    (hd : d < a.tmps.size) (hw : Ext w0 w)
    (h : listY (l.take n).toArray (lateY P w0 R d) Q1 (l.take n) a)
    (last : ∀ a' a w, Ext w0 w → Q1 a' → But [d] a' a → (∃ x, a.tmps[d]? = some x ∧ R x w) → wpList P l.toArray Q (l.drop n) a w) :
    (Code.region id l.toArray true).wp P Q a w := by
  simp only [lateB, Bool.and_eq_true] at hB
  obtain ⟨⟨⟨⟨⟨⟨b1, b0⟩, b2⟩, b3⟩, b4⟩, b5⟩, b6⟩ := hB
  have hn : n ≤ l.toArray.size := Nat.le_of_ble_eq_true b1
  have hnl : n ≤ l.length := by simpa using hn
  have at3 : ∀ i o, l.toArray[i]? = some o → _ := fun i o ho => by
    have hlt : i < l.toArray.size := by
      rcases Nat.lt_or_ge i l.toArray.size with h' | h'
      · exact h'
      · rw [Array.getElem?_eq_none h'] at ho; cases ho
    have := List.all_eq_true.1 b3 i (List.mem_range.2 hlt)
    simp only [ho] at this
    exact this
  have pre3 : ∀ i o, l.toArray[i]? = some o → i < n → _ := fun i o ho hi => by
    have := at3 i o ho
    rw [if_pos (Nat.ble_eq_true_of_le hi)] at this
    simp only [Bool.and_eq_true] at this
    exact this
  have hP : ∀ i o, i < n → l.toArray[i]? = some o → (l.take n).toArray[i]? = some o := fun i o hi ho => by
    have : l[i]? = some o := by simpa using ho
    simp [hi, this]
  have hE : ∀ i o, l.toArray[i]? = some o → i < n → ∀ e ∈ o.after, e.on < i := fun i o ho hi e he =>
    Nat.le_of_ble_eq_true (Array.all_eq_true_iff_forall_mem.1 (pre3 i o ho hi).1.1.1 e he)
  have hG : ∀ i o, l.toArray[i]? = some o → i < n → ∀ g, o.guard = some g → g.1 < n ∧ ∀ o', l.toArray[g.1]? = some o' → o'.dst ≠ some d := fun i o ho hi g hg => by
    have h2 := (pre3 i o ho hi).1.1.2
    rw [hg] at h2
    simp only [Bool.and_eq_true] at h2
    refine ⟨Nat.le_of_ble_eq_true h2.1, fun o' ho' => ?_⟩
    have h3 := h2.2
    rw [ho'] at h3
    simpa using h3
  have hD : ∀ i o, l.toArray[i]? = some o → i < n → d ∉ o.looksAt l.toArray := fun i o ho hi => by
    have h2 := (pre3 i o ho hi).1.2
    simpa using h2
  have hlate : ∀ i o, l.toArray[i]? = some o → i < n → o.dst = some d → o.guard = none ∧ ∀ i' o', l.toArray[i']? = some o' → i' < n → o'.dst = some d → i = i' := fun i o ho hi hdo => by
    have h2 := (pre3 i o ho hi).2
    rw [if_pos (by rw [hdo]; simp)] at h2
    simp only [Bool.and_eq_true] at h2
    refine ⟨by simpa using h2.1, fun i' o' ho' hi' hdo' => ?_⟩
    have h3 := List.all_eq_true.1 h2.2 i' (List.mem_range.2 hi')
    simp only [Bool.or_eq_true] at h3
    rcases h3 with h3 | h3
    · exact Nat.eq_of_beq_eq_true h3
    · rw [ho'] at h3
      simp [hdo'] at h3
  have hA : ∀ i, n ≤ i → i < l.toArray.size → ∀ j, j < n → (fun j => m0 && Nat.beq j 0) j = true ∨ reach l.toArray .any 9 i j = true := fun i hi his j hj => by
    have := at3 i _ (Array.getElem?_eq_getElem his)
    rw [if_neg (fun hb => by have := Nat.le_of_ble_eq_true hb; omega)] at this
    exact Bool.or_eq_true_iff.1 (List.all_eq_true.1 this j (List.mem_range.2 hj))
  have hr : ∀ k, n ≤ k → k < l.toArray.size → Region.ready .any l.toArray (upto l.toArray.size k) = [k] := fun k hk hks => by
    have := List.all_eq_true.1 b4 k (List.mem_range.2 hks)
    simp only [Bool.or_eq_true] at this
    rcases this with h' | h'
    · have := Nat.le_of_ble_eq_true h'; omega
    · split at h'
      · rename_i k' he
        rw [he, Nat.eq_of_beq_eq_true h']
      · cases h'
  have he : Region.ready .any l.toArray (upto l.toArray.size l.toArray.size) = [] := by simpa using b5
  have hex : ∃ i o, i < n ∧ l.toArray[i]? = some o ∧ o.dst = some d := by
    obtain ⟨i, hi, h2⟩ := List.any_eq_true.1 b6
    have hi' := List.mem_range.1 hi
    have hlt : i < l.toArray.size := by omega
    rw [Array.getElem?_eq_getElem hlt] at h2
    exact ⟨i, _, hi', Array.getElem?_eq_getElem hlt, by simpa using h2⟩
  simp only [Region.lexB, Bool.and_eq_true] at b2
  have hdl : (l.drop n).length = l.toArray.size - n := by simp
  have hlen : (l.take n).length = n := by simp; omega
  refine wp_region_any hm ?_
  have quiet := anyY_lex (md := .any) (same_lateY P w0 R d) b2.1 (l.take n) 0 (Array.replicate (l.take n).toArray.size false) a (by simp) (by simpa using b2.2) h
  have key := late_any (P := P) (md := .any) (ops := l.toArray) (pre := (l.take n).toArray) (n := n) (s := (l.drop n).length) (d := d) (fun j => m0 && Nat.beq j 0) (Q := Q) (Q1 := Q1) (w0 := w0) (R := R)
    hR hn hP hA hE hG (fun j o cs b ho _ => Region.noSelect_spec b0 j o cs b ho) hD (fun i o ho hi hdo => (hlate i o ho hi hdo).1) hex
    (fun a' a1 w1 hw1 q1 hb hmd => one_any hr he (l.drop n) n (Nat.le_refl _) (by rw [hdl]; omega) (fun j => by simp) a1 w1
      (last a' a1 w1 hw1 q1 hb hmd))
  have hall : ∀ k : Nat, (Array.replicate l.toArray.size false)[k]? ≠ some true := fun k hk => by
    simp only [Array.getElem?_replicate] at hk
    split at hk <;> simp at hk
  have hcnt : cnt n (Array.replicate (l.take n).toArray.size false) = (l.take n).length := by
    unfold cnt
    rw [List.countP_eq_length.2]
    · rw [hlen]; simp
    · intro j hj
      have := List.mem_range.1 hj
      have h2 : j < (l.take n).toArray.size := by simp; omega
      simp only [Array.getD_eq_getD_getElem?, Array.getElem?_replicate]
      rw [if_pos h2]; rfl
  have hsame : ∀ j, j < n → (Array.replicate l.toArray.size false)[j]? = (Array.replicate (l.take n).toArray.size false)[j]? := fun j hj => by
    have h1 : j < l.length := by omega
    have h2 : j < (l.take n).length := by omega
    simp only [Array.getElem?_replicate]
    rw [if_pos (by simpa using h1), if_pos (by simpa using h2)]
  have hclosed : Closed l.toArray .any (Array.replicate l.toArray.size false) := fun (k : Nat) o hk => by
    simp only [Array.getD_eq_getD_getElem?, Array.getElem?_replicate] at hk
    split at hk <;> simp at hk
  have e : (l.take n).length + (l.drop n).length = l.toArray.size := by rw [hlen, hdl]; omega
  cases hm0 : m0 with
  | false =>
    have := key (l.take n).length (Array.replicate l.toArray.size false) (Array.replicate (l.take n).toArray.size false) a a { w with drawn := w.drawn + 1 } hw.draw (by simp; omega) (by simp)
      hsame (fun j _ hj => by simp only [Array.getElem?_replicate]; rw [if_pos hj]) hcnt (fun j _ h => by rw [hm0] at h; cases h) hclosed ⟨rfl, rfl, fun _ _ => rfl⟩ hd (fun ⟨i, o, hi, _⟩ => absurd hi (hall i)) quiet
    rwa [e] at this
  | true =>
    obtain ⟨⟨d0, x, ty, pos, after, r, hl, hd0⟩, hn0, hf, hrd, hQ⟩ := h0 hm0
    have ho0 : l.toArray[0]? = some ⟨some d0, .move x, ty, pos, after, none⟩ := by rw [hl]; rfl
    have hp0 := hP 0 _ hn0 ho0
    have hl1 : (l.take n).length = (n - 1) + 1 := by omega
    have hrun : ∀ (a : Act) (w : World), (execOp a.eval ⟨some d0, .move x, ty, pos, after, none⟩).run P w = .ok (.value (a.eval x)) w := fun a w => by simp [execOp]
    have hsz1 : 0 < l.toArray.size := by omega
    have hsz2 : 0 < (l.take n).toArray.size := by simp; omega
    have hrd' : 0 ∈ Region.ready .any (l.take n).toArray (Array.replicate (l.take n).toArray.size false) := by
      obtain ⟨_, o, ho, hall⟩ := mem_ready.1 (by simpa using hrd : 0 ∈ Region.ready .any l.toArray (Array.replicate l.toArray.size false))
      obtain rfl := Option.some.inj (ho0.symm.trans ho)
      refine mem_ready.2 ⟨rep_getD hsz2, _, hp0, fun ed hed hb => ?_⟩
      have := hE 0 _ ho0 hn0 ed hed
      omega
    rw [hl1] at quiet
    obtain ⟨v, hv, hK⟩ := (stepY_iff hp0).1 (quiet.2 0 hrd')
    have hv' : v = a.eval x := by
      rcases hv with ⟨_, hy⟩ | ⟨hwn, _⟩
      · unfold lateY at hy
        rw [if_neg (fun e => hd0 (by cases e; rfl))] at hy
        have := hy w0 (Ext.refl w0)
        unfold Oper.quietAt at this
        rw [hrun] at this
        simp only [Oper.quietUpon] at this
        exact this.2.symm
      · unfold Region.wanted at hwn; simp at hwn
    subst hv'
    have e' : l.toArray.size = (n - 1 + (l.drop n).length) + 1 := by omega
    suffices h9 : ∀ z, z = (n - 1 + (l.drop n).length) + 1 → wpAny P .any l.toArray Q z (Array.replicate l.toArray.size false) a { w with drawn := w.drawn + 1 } from h9 _ e'
    intro z hz
    subst hz
    refine wpAny_take ho0 b0 hf hrd (fun c a w hq => absurd hq (hQ c _ w)) (.inl ⟨by unfold Region.wanted; rfl, fun w => hrun a w⟩) ?_
    refine key (n - 1) _ _ _ _ { w with drawn := w.drawn + 1 } hw.draw (by rw [Array.size_setIfInBounds, Array.size_replicate, List.size_toArray]; exact hlen) (by rw [Array.size_setIfInBounds, Array.size_replicate]) (fun j hj => ?_) (fun j hj hjs => ?_) ?_ (fun j hj hea => ?_) (fun k o hk ho ed hed hb => ?_) ⟨rfl, rfl, fun _ _ => rfl⟩ (by show d < (a.tmps.setIfInBounds d0 _).size; rw [Array.size_setIfInBounds]; exact hd) (fun ⟨i, o, hi, hin, ho, hdo⟩ => ?_) hK
    · by_cases ej : 0 = j
      · subst ej; rw [rep_set hsz1, rep_set hsz2]
      · rw [Array.getElem?_setIfInBounds_ne ej, Array.getElem?_setIfInBounds_ne ej]; exact hsame j hj
    · rw [Array.getElem?_setIfInBounds_ne (by omega)]
      simp only [Array.getElem?_replicate]; rw [if_pos hjs]
    · have := cnt_set n (Array.replicate (l.take n).toArray.size false) 0 hn0 (rep_getD hsz2)
      omega
    · rw [hm0, Bool.true_and] at hea
      obtain rfl := Nat.eq_of_beq_eq_true hea
      exact rep_set hsz1
    · by_cases ek : 0 = k
      · subst ek
        have := hE 0 _ ho hn0 ed hed
        omega
      · rw [getD_set_ne false ek] at hk
        exact absurd (hclosed k o hk ho ed hed hb) (by
          intro _
          simp only [Array.getD_eq_getD_getElem?, Array.getElem?_replicate] at hk
          split at hk <;> simp at hk)
    · by_cases ei : 0 = i
      · subst ei
        obtain rfl := Option.some.inj (ho0.symm.trans ho)
        exact absurd (by cases hdo; rfl) hd0
      · rw [Array.getElem?_setIfInBounds_ne ei] at hi
        exact absurd hi (hall i)
end

section
variable {P : Program} {N : Nat} {m : Env} {w : World}
theorem listY_append {ops : Array Oper} {Y : Oper → Act → Value → Prop} {Q : Act → Prop} : ∀ (l1 l2 : List Oper) (a : Act), listY ops Y (fun a => listY ops Y Q l2 a) l1 a → listY ops Y Q (l1 ++ l2) a
  | [], _, _, h => h
  | o :: r, l2, a, h => by
    rw [List.cons_append]
    unfold listY at h ⊢
    split
    · rename_i hw
      rw [if_pos hw] at h
      obtain ⟨v, h1, h2⟩ := h
      exact ⟨v, h1, listY_append r l2 _ h2⟩
    · rename_i hw
      rw [if_neg hw] at h
      exact listY_append r l2 _ h
theorem listY_late {ops : Array Oper} {Q : Act → Prop} {w0 : World} {R : Value → World → Prop} {d : Nat} : ∀ (l : List Oper) (a : Act), (∀ o ∈ l, o.dst ≠ some d) → listY ops (yW P w0) Q l a → listY ops (lateY P w0 R d) Q l a
  | [], _, _, h => h
  | o :: r, a, hd, h => by
    have hr := fun o' ho' => hd o' (List.mem_cons_of_mem _ ho')
    unfold listY at h ⊢
    split
    · rename_i hw
      rw [if_pos hw] at h
      obtain ⟨v, h1, h2⟩ := h
      refine ⟨v, ?_, listY_late r _ hr h2⟩
      unfold lateY
      rw [if_neg (hd o (List.mem_cons_self ..))]; exact h1
    · rename_i hw
      rw [if_neg hw] at h
      exact listY_late r _ hr h
theorem run_lit {dst : Option Tmp} {t e : TypeId} {k : Nat} {ps : Array (Nat × Operand)} {pvs : List (Nat × Value)} {out zs : List Value} {z : Value} {n0 b0 : Nat} {ty : TypeId} {pos : String} {after : Array Edge} {g : Option (Nat × Bool)} [ht : TSlice P t e] [hs : TSize P e n0 b0] [hz : TZero P e z zs]
    {a : Act} (ha : Agree N m a) (hx : evp m ps.toList = some pvs) (hp : TParts n0 0 pvs out) (hn : (Nat.ble 1 (k * n0) && Nat.ble (k * n0) 16777216 && Nat.beq pvs.length k) = true) (w' : World) :
    (execOp a.eval ⟨dst, .buildSlice t k ps, ty, pos, after, g⟩).run P w' = .ok (.value (.slice (some ⟨w'.heap.size, 0, none⟩) k k)) (w'.alloc (.cells out.toArray e)) := by
  simp only [Bool.and_eq_true] at hn
  have n1 := Nat.le_of_ble_eq_true hn.1.1
  have n2 := Nat.le_of_ble_eq_true hn.1.2
  have n3 := Nat.eq_of_beq_eq_true hn.2
  obtain ⟨inf, hi, hsz⟩ := Option.map_eq_some_iff.1 hs.h
  simp only [Prod.mk.injEq] at hsz
  obtain ⟨inf', hi', hz'⟩ := Option.bind_eq_some_iff.1 hz.h
  obtain rfl := Option.some.inj (hi.symm.trans hi')
  have hfill : Instr.fill (fun i => some (i * inf.size, inf.size)) ((Array.range (k * inf.size)).map (z.cells[· % z.cells.size]!)) pvs = some out.toArray := by
    rw [hsz.1]
    have := hp.fill [] ((Array.range (k * n0)).map (z.cells[· % z.cells.size]!)).toList (by simp) (by simp [n3])
    rw [List.nil_append, List.nil_append, Array.toArray_toList] at this
    exact this
  have e1 : ps.map (fun p => (p.1, a.eval p.2)) = pvs.toArray := by rw [← ha.evp hx, ← Array.toList_map]
  have := run_buildSlice (P := P) w' t e k pvs.toArray out.toArray inf z ht.h hi hz' (by rw [hsz.1]; omega) (by rw [hsz.1]; omega) hfill
  simp only [execOp, e1]
  simp [this]
/-- A region that draws its order, with the literal of a slice at place i0 among its first n operations. -/
theorem V_lit0 (m0 : Bool) (n i0 : Nat) (out : List Value) {Q : Exit → Env → World → Prop} {id : Nat} {l : List Oper} {d : Nat} {t e : TypeId} {k : Nat} {ps : Array (Nat × Operand)} {ty : TypeId} {pos : String} {after : Array Edge} {zs : List Value} {z : Value} {n0 b0 : Nat} [ht : TSlice P t e] [hs : TSize P e n0 b0] [hz : TZero P e z zs]
    (hm : P.follows .mixedOrders = true) (ho : l.take n = l.take i0 ++ ⟨some d, .buildSlice t k ps, ty, pos, after, none⟩ :: (l.take n).drop (i0 + 1)) (hB : lateB l.toArray n d m0 = true)
    (h0 : m0 = true → (∃ d0 x ty pos after r, l = ⟨some d0, .move x, ty, pos, after, none⟩ :: r ∧ d0 ≠ d) ∧ 0 < n ∧ Region.free .any l.toArray (Array.replicate l.toArray.size false) 0 = true ∧ (Region.ready .any l.toArray (Array.replicate l.toArray.size false)).contains 0 = true) (hd : Nat.ble (d + 1) N = true)
    (hne : ((l.take i0).all (fun o => !(o.dst == some d)) && ((l.take n).drop (i0 + 1)).all (fun o => !(o.dst == some d))) = true)
    (h : Ops P N (l.take n).toArray true (fun m1 _ => ∃ pvs, evp m1 ps.toList = some pvs ∧ TParts n0 0 pvs out ∧ (Nat.ble 1 (k * n0) && Nat.ble (k * n0) 16777216 && Nat.beq pvs.length k) = true ∧
      Ops P N (l.take n).toArray true (fun m2 _ => ∀ w2 b, New w w2 b e out → Ops P N l.toArray false (fun m w => Q .normal m w) (l.drop n) ((d, .slice (some ⟨b, 0, none⟩) k k) :: m2) w2) ((l.take n).drop (i0 + 1)) ((d, undef) :: m1) w) (l.take i0) m w) :
    V P N (.region id l.toArray true) Q m w := by
  have hlt : d < N := Nat.le_of_ble_eq_true hd
  simp only [Bool.and_eq_true] at hne
  have hne1 : ∀ o ∈ l.take i0, o.dst ≠ some d := fun o ho e => by
    have := List.all_eq_true.1 hne.1 o ho
    rw [e] at this; simp at this
  have hne2 : ∀ o ∈ (l.take n).drop (i0 + 1), o.dst ≠ some d := fun o ho e => by
    have := List.all_eq_true.1 hne.2 o ho
    rw [e] at this; simp at this
  refine ⟨fun a w' ha hw => Code.wp_mono (Q := fun e a w => e = .normal ∧ lift N Q .normal a w) (fun e a w ⟨h1, h2⟩ => by rw [h1]; exact h2) ?_⟩
  refine wp_late m0 (w0 := w) (R := fun x w2 => ∃ b, x = .slice (some ⟨b, 0, none⟩) k k ∧ w.heap.size ≤ b ∧ Blk w2 b e out) (fun x w1 w2 he ⟨b, h1, h2, h3⟩ => ⟨b, h1, h2, h3.ext he⟩) hm hB (fun h => by
      obtain ⟨h1, h2, h3, h4⟩ := h0 h
      exact ⟨h1, h2, h3, h4, fun c a w hq => nomatch hq.1⟩) (by rw [ha.size]; exact hlt) hw
    (Q1 := fun a' => ∃ m2, (∀ w2 b, New w w2 b e out → Ops P N l.toArray false (fun m w => Q .normal m w) (l.drop n) ((d, .slice (some ⟨b, 0, none⟩) k k) :: m2) w2) ∧ Agree N m2 a') ?_ ?_
  · generalize hL : (l.take n).toArray = A at h ⊢
    rw [ho]
    refine listY_append _ _ _ (listY_mono (fun a1 ⟨m1, ⟨pvs, p1, p2, p3, h2⟩, ag1⟩ => ?_) _ _ (listY_late _ _ hne1 (h.out a ha)))
    unfold listY
    rw [if_pos (by unfold Region.wanted; rfl)]
    refine ⟨undef, ?_, ?_⟩
    · unfold lateY
      rw [if_pos rfl]
      refine ⟨rfl, fun w1 hw1 => ⟨_, _, run_lit ag1 p1 p2 p3 w1, (Ext.refl _).alloc _, w1.heap.size, rfl, hw1.size, alloc_heap _ _⟩⟩
    · exact listY_late _ _ hne2 (h2.out _ (ag1.put hlt undef))
  · rintro a' a1 w1 hw1 ⟨m2, h2, ag⟩ hb ⟨x, hx, b, rfl, hbl, hB1⟩
    have ag1 : Agree N ((d, .slice (some ⟨b, 0, none⟩) k k) :: m2) a1 := by
      refine ⟨by rw [hb.defers]; exact ag.defers, by rw [hb.size]; exact ag.size, fun i v hi => ?_⟩
      by_cases e : d = i
      · subst e
        rw [look_same] at hi; cases hi; exact hx
      · rw [look_other _ _ e] at hi
        rw [hb.slot i (fun h => e (List.mem_singleton.1 h).symm)]
        exact ag.slot i v hi
    have h5 := (h2 w1 b ⟨hw1, hbl, hB1⟩).out a1 w1 ag1 (Ext.refl _)
    have mono : ∀ (l' : List Oper) (a : Act) (w0 : World), wpList P l.toArray (fun e a' w'' => e = .normal ∧ ∃ m' w1, Q .normal m' w1 ∧ Agree N m' a' ∧ Ext w1 w'') l' a w0 → wpList P l.toArray (fun e a w => e = .normal ∧ lift N Q .normal a w) l' a w0 := by
      intro l'
      induction l' with
      | nil => exact fun a w0 ⟨_, m', w1, q, ag, ex⟩ => ⟨rfl, m', w1, q, ag, ex⟩
      | cons o r ih =>
        intro a w0 h6
        unfold wpList at h6 ⊢
        split
        · rename_i hwn
          rw [if_pos hwn] at h6
          rcases h6 with h6 | h6
          · exact .inl (wp_normal (fun a1 w1 hh => ih a1 w1 hh) h6)
          · obtain ⟨_, _, _, h7, _⟩ := h6; cases h7
        · rename_i hwn
          rw [if_neg hwn] at h6
          exact ih _ _ h6
    exact mono _ _ _ h5
theorem V_lit (n i0 : Nat) (out : List Value) {Q : Exit → Env → World → Prop} {id : Nat} {l : List Oper} {d : Nat} {t e : TypeId} {k : Nat} {ps : Array (Nat × Operand)} {ty : TypeId} {pos : String} {after : Array Edge} {zs : List Value} {z : Value} {n0 b0 : Nat} [ht : TSlice P t e] [hs : TSize P e n0 b0] [hz : TZero P e z zs]
    (hm : P.follows .mixedOrders = true) (ho : l.take n = l.take i0 ++ ⟨some d, .buildSlice t k ps, ty, pos, after, none⟩ :: (l.take n).drop (i0 + 1)) (hB : lateB l.toArray n d false = true) (hd : Nat.ble (d + 1) N = true)
    (hne : ((l.take i0).all (fun o => !(o.dst == some d)) && ((l.take n).drop (i0 + 1)).all (fun o => !(o.dst == some d))) = true)
    (h : Ops P N (l.take n).toArray true (fun m1 _ => ∃ pvs, evp m1 ps.toList = some pvs ∧ TParts n0 0 pvs out ∧ (Nat.ble 1 (k * n0) && Nat.ble (k * n0) 16777216 && Nat.beq pvs.length k) = true ∧
      Ops P N (l.take n).toArray true (fun m2 _ => ∀ w2 b, New w w2 b e out → Ops P N l.toArray false (fun m w => Q .normal m w) (l.drop n) ((d, .slice (some ⟨b, 0, none⟩) k k) :: m2) w2) ((l.take n).drop (i0 + 1)) ((d, undef) :: m1) w) (l.take i0) m w) :
    V P N (.region id l.toArray true) Q m w :=
  V_lit0 false n i0 out hm ho hB (fun h => nomatch h) hd hne h
/-- The same, where the first operation is a plain move that some of the last do not wait for. -/
theorem V_litM (n i0 : Nat) (out : List Value) {Q : Exit → Env → World → Prop} {id : Nat} {l : List Oper} {d d0 : Nat} {x : Operand} {r : List Oper} {ty0 : TypeId} {pos0 : String} {after0 : Array Edge} {t e : TypeId} {k : Nat} {ps : Array (Nat × Operand)} {ty : TypeId} {pos : String} {after : Array Edge} {zs : List Value} {z : Value} {n0 b0 : Nat} [ht : TSlice P t e] [hs : TSize P e n0 b0] [hz : TZero P e z zs]
    (hm : P.follows .mixedOrders = true) (ho : l.take n = l.take i0 ++ ⟨some d, .buildSlice t k ps, ty, pos, after, none⟩ :: (l.take n).drop (i0 + 1)) (hB : lateB l.toArray n d true = true)
    (hl : l = ⟨some d0, .move x, ty0, pos0, after0, none⟩ :: r) (hd0 : (!(Nat.beq d0 d) && Nat.ble 1 n) = true) (hf : (Region.free .any l.toArray (Array.replicate l.toArray.size false) 0 && (Region.ready .any l.toArray (Array.replicate l.toArray.size false)).contains 0) = true) (hd : Nat.ble (d + 1) N = true)
    (hne : ((l.take i0).all (fun o => !(o.dst == some d)) && ((l.take n).drop (i0 + 1)).all (fun o => !(o.dst == some d))) = true)
    (h : Ops P N (l.take n).toArray true (fun m1 _ => ∃ pvs, evp m1 ps.toList = some pvs ∧ TParts n0 0 pvs out ∧ (Nat.ble 1 (k * n0) && Nat.ble (k * n0) 16777216 && Nat.beq pvs.length k) = true ∧
      Ops P N (l.take n).toArray true (fun m2 _ => ∀ w2 b, New w w2 b e out → Ops P N l.toArray false (fun m w => Q .normal m w) (l.drop n) ((d, .slice (some ⟨b, 0, none⟩) k k) :: m2) w2) ((l.take n).drop (i0 + 1)) ((d, undef) :: m1) w) (l.take i0) m w) :
    V P N (.region id l.toArray true) Q m w := by
  simp only [Bool.and_eq_true] at hd0 hf
  refine V_lit0 true n i0 out hm ho hB (fun _ => ⟨⟨d0, x, ty0, pos0, after0, r, hl, fun e => ?_⟩, Nat.le_of_ble_eq_true hd0.2, hf.1, hf.2⟩) hd hne h
  subst e
  have := hd0.1
  rw [Nat.beq_refl] at this; cases this
end
end Go.Proofs.Ytfakgiikobajnaa

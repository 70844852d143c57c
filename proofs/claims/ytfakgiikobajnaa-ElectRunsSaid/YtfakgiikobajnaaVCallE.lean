/-
  Regions that draw their order and hold one call among the first operations, and two plain moves before it that may come late.
  No conditions beyond those that each rule states.
-/
import Derived.Test.YtfakgiikobajnaaVCall
namespace Go.Proofs.Ytfakgiikobajnaa
open Go.RowKit

section
variable {P : Program} {md : Region.Mode} {ops : Array Oper}
theorem callE_any {n s d : Nat} (early : Nat → Bool) {Q1 : Act → Prop} {Q : Exit → Act → World → Prop} {w0 : World} {C : World → Prop} {R : Value → World → Prop} {pre : Array Oper} (hCe : ∀ w w', C w → Ext w w' → C w') (hR : ∀ x w w', Ext w w' → R x w → R x w') (hn : n ≤ ops.size) (hP : ∀ i o, i < n → ops[i]? = some o → pre[i]? = some o)
    (hA : ∀ i, n ≤ i → i < ops.size → ∀ j, j < n → early j = true ∨ reach ops md 9 i j = true)
    (hE : ∀ i o, ops[i]? = some o → i < n → ∀ e ∈ o.after, Region.binds md e = true → e.on < i)
    (hG : ∀ i o, ops[i]? = some o → i < n → ∀ g, o.guard = some g → g.1 < n ∧ ∀ o', ops[g.1]? = some o' → o'.dst ≠ some d)
    (hsel : ∀ (j : Nat) (o : Oper) cs b, ops[j]? = some o → j < n → o.op ≠ .select cs b)
    (hD : ∀ i o, ops[i]? = some o → i < n → d ∉ o.looksAt ops)
    (hg0 : ∀ i o, ops[i]? = some o → i < n → o.dst = some d → o.guard = none)
    (hin : ∃ i o, i < n ∧ ops[i]? = some o ∧ o.dst = some d)
    (huniq : ∀ i o i' o', ops[i]? = some o → i < n → o.dst = some d → ops[i']? = some o' → i' < n → o'.dst = some d → i = i')
    (last : ∀ a' a w, C w → Q1 a' → But [d] a' a → (∃ x, a.tmps[d]? = some x ∧ R x w) → wpAny P md ops Q s (upto ops.size n) a w) :
    ∀ (f : Nat) (L L' : Array Bool) (a' a : Act) (w : World), C w → L'.size = n → L.size = ops.size → (∀ j, j < n → L[j]? = L'[j]?) → (∀ j, n ≤ j → j < ops.size → L[j]? = some false) → cnt n L' = f →
      (∀ j, j < n → early j = true → L[j]? = some true) → Closed ops md L → But [d] a' a → d < a.tmps.size → ((∀ i o, L[i]? = some true → i < n → ops[i]? = some o → o.dst ≠ some d) → Ext w0 w) → ((∃ i o, L[i]? = some true ∧ i < n ∧ ops[i]? = some o ∧ o.dst = some d) → ∃ x, a.tmps[d]? = some x ∧ R x w) →
      anyY md pre (callY P w0 C R d) Q1 f L' a' → wpAny P md ops Q (f + s) L a w := by
  intro f
  induction f with
  | zero =>
    intro L L' a' a w hC hs' hs h1 h2 hc hea hcl hbut hDs hX hm h
    have hlist : ∀ j, j < n → L[j]? = some true := fun j hj => by
      rw [h1 j hj]
      have := List.countP_eq_zero.1 hc j (List.mem_range.2 hj)
      have hlt : j < L'.size := by omega
      simp [hlt] at this
      simp [hlt, this]
    have hL : L = upto ops.size n := by
      refine Array.ext_getElem? fun j => ?_
      rcases Nat.lt_or_ge j ops.size with hj | hj
      · rw [upto_get _ _ _ hj]
        rcases Nat.lt_or_ge j n with hjn | hjn
        · rw [hlist j hjn]; simp [hjn]
        · rw [h2 j hjn hj]; simp; omega
      · rw [Array.getElem?_eq_none (by omega), Array.getElem?_eq_none (by rw [upto_size]; omega)]
    rw [Nat.zero_add]
    obtain ⟨i, o, hi, ho, hd⟩ := hin
    have hm' := hm ⟨i, o, hlist i hi, hi, ho, hd⟩
    rw [hL]
    exact last a' a w hC h.2 hbut hm'
  | succ f ih =>
    intro L L' a' a w hC hs' hs h1 h2 hc hea hcl hbut hDs hX hm h
    rw [Nat.succ_add]
    have un : ∃ j, j < n ∧ L'[j]? = some false ∧ ∀ k, k < j → L'[k]? = some true := by
      have hpos : 0 < cnt n L' := by omega
      obtain ⟨j, hj, hjf⟩ := List.countP_pos_iff.1 hpos
      have hjn := List.mem_range.1 hj
      have hjl : j < L'.size := by omega
      have hjf' : L'[j]? = some false := by simp [hjl] at hjf ⊢; exact hjf
      clear hj hjf hjl
      induction j using Nat.strongRecOn with
      | ind j ihj =>
        by_cases hall : ∀ k, k < j → L'[k]? = some true
        · exact ⟨j, hjn, hjf', hall⟩
        · obtain ⟨k, hk⟩ := Classical.not_forall.1 hall
          obtain ⟨hkj, hk⟩ := Classical.not_imp.1 hk
          have hkl : k < L'.size := by omega
          refine ihj k hkj (by omega) ?_
          rw [Array.getElem?_eq_getElem hkl] at hk ⊢
          cases hb : L'[k] with
          | true => rw [hb] at hk; exact absurd rfl hk
          | false => rfl
    obtain ⟨j0, hj0, hjf, hbelow⟩ := un
    have on_lt : ∀ {i : Nat} {o : Oper} {e : Edge}, ops[i]? = some o → i < n → e ∈ o.after → Region.binds md e = true → L.getD e.on false = L'.getD e.on false := fun ho hi he hb => by
      have h4 := hE _ _ ho hi _ he hb
      rename_i i0 o0 e0
      have h3 := h1 e0.on (by omega)
      rw [Array.getD_eq_getD_getElem?, Array.getD_eq_getD_getElem?, h3]
    have lt_n : ∀ i, i ∈ Region.ready md ops L → i < n := fun i hi => by
      obtain ⟨_, o, ho, hall⟩ := mem_ready.1 hi
      rcases Nat.lt_or_ge i n with h3 | h3
      · exact h3
      · have hlt : i < ops.size := by
          rcases Nat.lt_or_ge i ops.size with h' | h'
          · exact h'
          · rw [Array.getElem?_eq_none h'] at ho; cases ho
        rcases hA i h3 hlt j0 hj0 with h4 | h4
        · have := hea j0 hj0 h4
          rw [h1 j0 hj0, hjf] at this; cases this
        · have := reach_listed hcl 9 i j0 (fun o' ho' => by obtain rfl := Option.some.inj (ho.symm.trans ho'); exact hall) h4
          rw [getD_of ((h1 j0 hj0).trans hjf)] at this
          cases this
    refine ⟨fun hr => ?_, fun i hi => ?_⟩
    · exfalso
      have hmem : j0 ∈ Region.ready md ops L := by
        have hlt : j0 < ops.size := by omega
        refine mem_ready.2 ⟨getD_of ((h1 j0 hj0).trans hjf) _, ops[j0], Array.getElem?_eq_getElem hlt, fun e he hb => ?_⟩
        have hlt' := hE j0 _ (Array.getElem?_eq_getElem hlt) hj0 e he hb
        exact getD_of ((h1 _ (by omega)).trans (hbelow _ hlt')) _
      rw [hr] at hmem; cases hmem
    · have hin' := lt_n i hi
      have hcl' := hcl.set hi
      obtain ⟨hun, o, ho, hall⟩ := mem_ready.1 hi
      have hpo : pre[i]? = some o := hP i o hin' ho
      have hun' : L'.getD i true = false := by
        have := h1 i hin'
        simp only [Array.getD_eq_getD_getElem?, ← this] at hun ⊢; exact hun
      have hi' : i ∈ Region.ready md pre L' := mem_ready.2 ⟨hun', o, hpo, fun e he hb => by rw [← on_lt ho hin' he hb]; exact hall e he hb⟩
      have hq := (stepY_iff hpo).1 (h.2 i hi')
      obtain ⟨v, hv, hK⟩ := hq
      have hset : ∀ j, j < n → (L.setIfInBounds i true)[j]? = (L'.setIfInBounds i true)[j]? := fun j hj => by
        by_cases e : i = j
        · subst e
          have hl1 : i < L.size := by omega
          have hl2 : i < L'.size := by omega
          simp [hl1, hl2]
        · rw [Array.getElem?_setIfInBounds_ne e, Array.getElem?_setIfInBounds_ne e]; exact h1 j hj
      have hset2 : ∀ j, n ≤ j → j < ops.size → (L.setIfInBounds i true)[j]? = some false := fun j hj hjs => by
        rw [Array.getElem?_setIfInBounds_ne (by omega)]; exact h2 j hj hjs
      have hea' : ∀ j, j < n → early j = true → (L.setIfInBounds i true)[j]? = some true := fun j hj he => by
        by_cases e : i = j
        · subst e
          have hl1 : i < L.size := by omega
          simp [hl1]
        · rw [Array.getElem?_setIfInBounds_ne e]; exact hea j hj he
      have hc' : cnt n (L'.setIfInBounds i true) = f := by have := cnt_set n L' i hin' hun'; omega
      have old : ∀ k, (L.setIfInBounds i true)[k]? = some true → k ≠ i → L[k]? = some true := fun k hk hki => by
        rwa [Array.getElem?_setIfInBounds_ne (Ne.symm hki)] at hk
      have newi : (L.setIfInBounds i true)[i]? = some true := by
        have hl1 : i < L.size := by omega
        simp [hl1]
      have keepi : ∀ k, L[k]? = some true → (L.setIfInBounds i true)[k]? = some true := fun k hk => by
        by_cases e : i = k
        · subst e; exact newi
        · rw [Array.getElem?_setIfInBounds_ne e]; exact hk
      have hex : execOp a.eval o = execOp a'.eval o := hbut.exec o (fun cs b => hsel i o cs b ho hin') (fun x hx => by rw [List.mem_singleton.1 hx]; exact hD i o ho hin')
      unfold wpOp
      simp only [ho]
      by_cases hdo : o.dst = some d
      · have hgn := hg0 i o ho hin' hdo
        have hwt : ∀ y, Region.wanted o y = true := fun y => by unfold Region.wanted; rw [hgn]
        rw [if_pos (hwt _)]
        rcases hv with ⟨_, hy⟩ | ⟨hwn, _⟩
        · unfold callY at hy
          rw [if_pos hdo] at hy
          obtain ⟨rfl, hl⟩ := hy
          have hX' : Ext w0 w := hX (fun k ok hk hkn hok hkd => by
            obtain rfl := huniq i o k ok ho hin' hdo hok hkn hkd
            rw [getD_of hk] at hun; cases hun)
          obtain ⟨f', vs, hrun, hcall⟩ := hl w hX'
          rw [← hex] at hrun
          refine .inl ?_
          unfold Oper.wp
          rw [hrun]
          refine Calls.mono hcall fun e w'' hg => ?_
          obtain ⟨x, rfl, hCw, hRx⟩ := hg
          show wpAny P md ops Q (f + s) (L.setIfInBounds i true) (a.put o.dst x) w''
          rw [hdo] at hK ⊢
          have hb2 : But [d] (a'.put (some d) undef) (a.put (some d) x) := by
            refine ⟨hbut.defers, by simp [Act.put, hbut.size], fun k hk => ?_⟩
            have hne : d ≠ k := fun e => hk (by rw [e]; exact List.mem_singleton.2 rfl)
            simp only [Act.put]
            rw [Array.getElem?_setIfInBounds_ne hne, Array.getElem?_setIfInBounds_ne hne]
            exact hbut.slot k hk
          exact ih _ _ _ _ w'' hCw (by simpa using hs') (by simpa using hs) hset hset2 hc' hea' hcl' hb2 (by simp [Act.put, hDs]) (fun hno => absurd hdo (hno i o newi hin' ho)) (fun _ => ⟨x, by simp [Act.put, hDs], hRx⟩) hK
        · rw [hwt] at hwn; cases hwn
      · have hw : Region.wanted o (yielded pre a'.tmps) = Region.wanted o (yielded ops a.tmps) := by
          unfold Region.wanted
          cases hg : o.guard with
          | none => rfl
          | some gd =>
            obtain ⟨hg1, hg2⟩ := hG i o ho hin' gd hg
            have hlt : gd.1 < ops.size := by omega
            have hog := Array.getElem?_eq_getElem hlt
            have hpg := hP _ _ hg1 hog
            have hy : yielded pre a'.tmps gd.1 = yielded ops a.tmps gd.1 := by
              simp only [yielded, hpg, hog, Option.bind_some]
              cases hd : (ops[gd.1]'hlt).dst with
              | none => rfl
              | some d' =>
                have hdD : d' ∉ [d] := fun hdD => hg2 _ hog (by rw [hd, List.mem_singleton.1 hdD])
                simp only [Option.bind_some, hbut.slot d' hdD]
            simp only [hy]
        have made : ∀ u w'', Ext w w'' → (∃ k o, (L.setIfInBounds i true)[k]? = some true ∧ k < n ∧ ops[k]? = some o ∧ o.dst = some d) → ∃ x, (a.put o.dst u).tmps[d]? = some x ∧ R x w'' := fun u w'' hw'' ⟨k, ok, hk, hkn, hok, hkd⟩ => by
          have hki : k ≠ i := fun e => by subst e; obtain rfl := Option.some.inj (ho.symm.trans hok); exact hdo hkd
          obtain ⟨x, m1, m2⟩ := hm ⟨k, ok, old k hk hki, hkn, hok, hkd⟩
          refine ⟨x, ?_, hR x _ _ hw'' m2⟩
          cases hdst : o.dst with
          | none => exact m1
          | some y =>
            have : y ≠ d := fun e => hdo (by rw [hdst, e])
            simp only [Act.put]
            rw [Array.getElem?_setIfInBounds_ne this]; exact m1
        have szP : ∀ u, d < (a.put o.dst u).tmps.size := fun u => by cases o.dst <;> simp [Act.put, hDs]
        rcases hv with ⟨hwn, hy⟩ | ⟨hwn, hvu⟩
        · unfold callY at hy
          rw [if_neg hdo] at hy
          rw [hw] at hwn
          rw [if_pos hwn]
          refine .inl (Oper.wp_of_quiet (C := fun w'' => Ext w w'') (K := fun x => x = a.put o.dst v) (Ext.refl w) (fun a1 w1 hw1 e => ?_) ?_)
          · subst e
            exact ih _ _ (a'.put o.dst v) _ w1 (hCe _ _ hC hw1) (by simpa using hs') (by simpa using hs) hset hset2 hc' hea' hcl' (hbut.put _ _) (szP v) (fun hno => (hX (fun k ok hk hkn hok => hno k ok (keepi k hk) hkn hok)).trans hw1) (made v w1 hw1) hK
          · refine ⟨v, fun w1 hw1 => ?_, rfl⟩
            have hq1 := hy w1 (hCe _ _ hC hw1)
            unfold Oper.quietAt at hq1 ⊢
            rw [← hex] at hq1
            generalize (execOp a.eval o).run P w1 = r at *
            cases r with
            | ok nx w2 =>
              cases nx <;> simp only [Oper.quietUpon] at hq1 ⊢ <;> first | exact hq1 | exact ⟨hq1.1, hq1.2.mono fun e w3 h3 => ⟨h3.1, hw1.trans h3.2⟩⟩
            | halt x w2 => simp only [Oper.quietUpon] at hq1
        · rw [hw] at hwn
          rw [if_neg (by rw [hwn]; exact Bool.false_ne_true)]
          subst hvu
          exact ih _ _ (a'.put o.dst undef) _ w hC (by simpa using hs') (by simpa using hs) hset hset2 hc' hea' hcl' (hbut.put _ _) (szP _) (fun hno => hX (fun k ok hk hkn hok => hno k ok (keepi k hk) hkn hok)) (made undef w (Ext.refl w)) hK

/-! ### The test -/
def lateE (ops : Array Oper) (n d : Nat) : Bool :=
  Nat.ble n ops.size && Region.noSelect ops && Region.lexB .any (ops.toList.take n).toArray &&
  (List.range ops.size).all (fun i => match ops[i]? with
    | none => true
    | some o => if Nat.ble (i + 1) n then (o.after.all fun e => !Region.binds .any e || Nat.ble (e.on + 1) i) &&
        (match o.guard with
          | none => true
          | some g => Nat.ble (g.1 + 1) n && (match ops[g.1]? with
            | none => true
            | some o' => !(o'.dst == some d))) &&
        !(o.looksAt ops).contains d &&
        (if o.dst == some d then o.guard.isNone && (List.range n).all fun i' => Nat.beq i i' || (match ops[i']? with
            | some o' => !(o'.dst == some d)
            | none => true) else true)
      else (List.range n).all fun j => (Nat.beq j 0 || Nat.beq j 1) || reach ops .any 9 i j) &&
  (List.range ops.size).all (fun k => Nat.ble (k + 1) n || (match Region.ready .any ops (upto ops.size k) with
    | [k'] => Nat.beq k' k
    | _ => false)) &&
  (Region.ready .any ops (upto ops.size ops.size)).isEmpty &&
  (List.range n).any (fun i => match ops[i]? with
    | some o => o.dst == some d
    | none => false)
theorem wp_callE {l : List Oper} {n d id : Nat} {Q1 : Act → Prop} {Q : Exit → Act → World → Prop} {w0 w : World} {a : Act} {C : World → Prop} {R : Value → World → Prop} (hCe : ∀ w w', C w → Ext w w' → C w') (hC0 : ∀ w, Ext w0 w → C w) (hR : ∀ x w w', Ext w w' → R x w → R x w') (hm : P.follows .mixedOrders = true) (hB : lateE l.toArray n d = true)
    {d0 d1 : Nat} {x0 x1 : Operand} {ty0 ty1 : TypeId} {pos0 pos1 : String} {after0 after1 : Array Edge} {r : List Oper} (hl : l = ⟨some d0, .move x0, ty0, pos0, after0, none⟩ :: ⟨some d1, .move x1, ty1, pos1, after1, none⟩ :: r) (hd0 : d0 ≠ d) (hd1 : d1 ≠ d) (hn2 : 2 ≤ n)
    (hf0 : Region.free .any l.toArray (Array.replicate l.toArray.size false) 0 = true) (hr0 : (Region.ready .any l.toArray (Array.replicate l.toArray.size false)).contains 0 = true)
    (hf1 : Region.free .any l.toArray ((Array.replicate l.toArray.size false).setIfInBounds 0 true) 1 = true) (hr1 : (Region.ready .any l.toArray ((Array.replicate l.toArray.size false).setIfInBounds 0 true)).contains 1 = true) (hQ : ∀ c a w, ¬Q (.panic c) a w)
    (hd : d < a.tmps.size) (hw : Ext w0 w)
    (h : listY (l.take n).toArray (callY P w0 C R d) Q1 (l.take n) a)
    (last : ∀ a' a w, C w → Q1 a' → But [d] a' a → (∃ x, a.tmps[d]? = some x ∧ R x w) → wpList P l.toArray Q (l.drop n) a w) :
    (Code.region id l.toArray true).wp P Q a w := by
  simp only [lateE, Bool.and_eq_true] at hB
  obtain ⟨⟨⟨⟨⟨⟨b1, b0⟩, b2⟩, b3⟩, b4⟩, b5⟩, b6⟩ := hB
  have hn : n ≤ l.toArray.size := Nat.le_of_ble_eq_true b1
  have hnl : n ≤ l.length := by simpa using hn
  have at3 : ∀ i o, l.toArray[i]? = some o → _ := fun i o ho => by
    have hlt : i < l.toArray.size := by
      rcases Nat.lt_or_ge i l.toArray.size with h' | h'
      · exact h'
      · rw [Array.getElem?_eq_none h'] at ho; cases ho
    have := List.all_eq_true.1 b3 i (List.mem_range.2 hlt)
    simp only [ho] at this
    exact this
  have pre3 : ∀ i o, l.toArray[i]? = some o → i < n → _ := fun i o ho hi => by
    have := at3 i o ho
    rw [if_pos (Nat.ble_eq_true_of_le hi)] at this
    simp only [Bool.and_eq_true] at this
    exact this
  have hP : ∀ i o, i < n → l.toArray[i]? = some o → (l.take n).toArray[i]? = some o := fun i o hi ho => by
    have : l[i]? = some o := by simpa using ho
    simp [hi, this]
  have hE : ∀ i o, l.toArray[i]? = some o → i < n → ∀ e ∈ o.after, Region.binds .any e = true → e.on < i := fun i o ho hi e he hb => by
    have := Array.all_eq_true_iff_forall_mem.1 (pre3 i o ho hi).1.1.1 e he
    rw [hb, Bool.not_true, Bool.false_or] at this
    exact Nat.le_of_ble_eq_true this
  have hG : ∀ i o, l.toArray[i]? = some o → i < n → ∀ g, o.guard = some g → g.1 < n ∧ ∀ o', l.toArray[g.1]? = some o' → o'.dst ≠ some d := fun i o ho hi g hg => by
    have h2 := (pre3 i o ho hi).1.1.2
    rw [hg] at h2
    simp only [Bool.and_eq_true] at h2
    refine ⟨Nat.le_of_ble_eq_true h2.1, fun o' ho' => ?_⟩
    have h3 := h2.2
    rw [ho'] at h3
    simpa using h3
  have hD : ∀ i o, l.toArray[i]? = some o → i < n → d ∉ o.looksAt l.toArray := fun i o ho hi => by
    have h2 := (pre3 i o ho hi).1.2
    simpa using h2
  have hlate : ∀ i o, l.toArray[i]? = some o → i < n → o.dst = some d → o.guard = none ∧ ∀ i' o', l.toArray[i']? = some o' → i' < n → o'.dst = some d → i = i' := fun i o ho hi hdo => by
    have h2 := (pre3 i o ho hi).2
    rw [if_pos (by rw [hdo]; simp)] at h2
    simp only [Bool.and_eq_true] at h2
    refine ⟨by simpa using h2.1, fun i' o' ho' hi' hdo' => ?_⟩
    have h3 := List.all_eq_true.1 h2.2 i' (List.mem_range.2 hi')
    simp only [Bool.or_eq_true] at h3
    rcases h3 with h3 | h3
    · exact Nat.eq_of_beq_eq_true h3
    · rw [ho'] at h3
      simp [hdo'] at h3
  have hA : ∀ i, n ≤ i → i < l.toArray.size → ∀ j, j < n → (fun j => Nat.beq j 0 || Nat.beq j 1) j = true ∨ reach l.toArray .any 9 i j = true := fun i hi his j hj => by
    have := at3 i _ (Array.getElem?_eq_getElem his)
    rw [if_neg (fun hb => by have := Nat.le_of_ble_eq_true hb; omega)] at this
    exact Bool.or_eq_true_iff.1 (List.all_eq_true.1 this j (List.mem_range.2 hj))
  have hr : ∀ k, n ≤ k → k < l.toArray.size → Region.ready .any l.toArray (upto l.toArray.size k) = [k] := fun k hk hks => by
    have := List.all_eq_true.1 b4 k (List.mem_range.2 hks)
    simp only [Bool.or_eq_true] at this
    rcases this with h' | h'
    · have := Nat.le_of_ble_eq_true h'; omega
    · split at h'
      · rename_i k' he
        rw [he, Nat.eq_of_beq_eq_true h']
      · cases h'
  have he : Region.ready .any l.toArray (upto l.toArray.size l.toArray.size) = [] := by simpa using b5
  have hex : ∃ i o, i < n ∧ l.toArray[i]? = some o ∧ o.dst = some d := by
    obtain ⟨i, hi, h2⟩ := List.any_eq_true.1 b6
    have hi' := List.mem_range.1 hi
    have hlt : i < l.toArray.size := by omega
    rw [Array.getElem?_eq_getElem hlt] at h2
    exact ⟨i, _, hi', Array.getElem?_eq_getElem hlt, by simpa using h2⟩
  simp only [Region.lexB, Bool.and_eq_true] at b2
  have hdl : (l.drop n).length = l.toArray.size - n := by simp
  have hlen : (l.take n).length = n := by simp; omega
  refine wp_region_any hm ?_
  have quiet := anyY_lex (md := .any) (same_callY P w0 C R d) b2.1 (l.take n) 0 (Array.replicate (l.take n).toArray.size false) a (by simp) (by simpa using b2.2) h
  have key := callE_any (P := P) (md := .any) (ops := l.toArray) (pre := (l.take n).toArray) (n := n) (s := (l.drop n).length) (d := d) (fun j => Nat.beq j 0 || Nat.beq j 1) (Q := Q) (Q1 := Q1) (w0 := w0) (R := R)
    hCe hR hn hP hA hE hG (fun j o cs b ho _ => Region.noSelect_spec b0 j o cs b ho) hD (fun i o ho hi hdo => (hlate i o ho hi hdo).1) hex (fun i o i' o' ho hi hd ho' hi' hd' => (hlate i o ho hi hd).2 i' o' ho' hi' hd')
    (fun a' a1 w1 hw1 q1 hb hmd => one_any hr he (l.drop n) n (Nat.le_refl _) (by rw [hdl]; omega) (fun j => by simp) a1 w1
      (last a' a1 w1 hw1 q1 hb hmd))
  have hall : ∀ k : Nat, (Array.replicate l.toArray.size false)[k]? ≠ some true := fun k hk => by
    simp only [Array.getElem?_replicate] at hk
    split at hk <;> simp at hk
  have hcnt : cnt n (Array.replicate (l.take n).toArray.size false) = (l.take n).length := by
    unfold cnt
    rw [List.countP_eq_length.2]
    · rw [hlen]; simp
    · intro j hj
      have := List.mem_range.1 hj
      have h2 : j < (l.take n).toArray.size := by simp; omega
      simp only [Array.getD_eq_getD_getElem?, Array.getElem?_replicate]
      rw [if_pos h2]; rfl
  have hsame : ∀ j, j < n → (Array.replicate l.toArray.size false)[j]? = (Array.replicate (l.take n).toArray.size false)[j]? := fun j hj => by
    have h1 : j < l.length := by omega
    have h2 : j < (l.take n).length := by omega
    simp only [Array.getElem?_replicate]
    rw [if_pos (by simpa using h1), if_pos (by simpa using h2)]
  have hclosed : Closed l.toArray .any (Array.replicate l.toArray.size false) := fun (k : Nat) o hk => by
    simp only [Array.getD_eq_getD_getElem?, Array.getElem?_replicate] at hk
    split at hk <;> simp at hk
  have e : (l.take n).length + (l.drop n).length = l.toArray.size := by rw [hlen, hdl]; omega
  have ho0 : l.toArray[0]? = some ⟨some d0, .move x0, ty0, pos0, after0, none⟩ := by rw [hl]; rfl
  have ho1 : l.toArray[1]? = some ⟨some d1, .move x1, ty1, pos1, after1, none⟩ := by rw [hl]; rfl
  have hp0 := hP 0 _ (by omega) ho0
  have hp1 := hP 1 _ (by omega) ho1
  have hl1 : (l.take n).length = (n - 2) + 1 + 1 := by omega
  have hrun : ∀ (x : Operand) (d0 : Nat) (ty : TypeId) (pos : String) (after : Array Edge) (a : Act) (w : World), (execOp a.eval ⟨some d0, .move x, ty, pos, after, none⟩).run P w = .ok (.value (a.eval x)) w := fun x d0 ty pos after a w => by simp [execOp]
  have hsz : 2 ≤ l.toArray.size := by omega
  have hsz' : 2 ≤ (l.take n).toArray.size := by simp; omega
  -- what is listed at each of the three stages
  have g0 : ∀ (m k : Nat), (Array.replicate m false).getD k false = false := fun m k => by
    simp only [Array.getD_eq_getD_getElem?, Array.getElem?_replicate]
    split <;> rfl
  have s1 : ∀ {m : Nat}, 2 ≤ m → ((Array.replicate m false).setIfInBounds 0 true)[0]? = some true := fun h => by rw [Array.getElem?_setIfInBounds]; simp; omega
  have s2 : ∀ {m : Nat}, 2 ≤ m → (((Array.replicate m false).setIfInBounds 0 true).setIfInBounds 1 true)[1]? = some true := fun h => by rw [Array.getElem?_setIfInBounds]; simp; omega
  have s3 : ∀ {m : Nat}, 2 ≤ m → (((Array.replicate m false).setIfInBounds 0 true).setIfInBounds 1 true)[0]? = some true := fun h => by rw [Array.getElem?_setIfInBounds_ne (by omega)]; exact s1 h
  have nb0 : ∀ ed ∈ after0, Region.binds .any ed = true → False := fun ed hed hb => by
    obtain ⟨_, o, ho, hall⟩ := mem_ready.1 (by simpa using hr0 : 0 ∈ Region.ready .any l.toArray (Array.replicate l.toArray.size false))
    obtain rfl := Option.some.inj (ho0.symm.trans ho)
    have := hall ed hed hb
    rw [g0] at this; cases this
  have nb1 : ∀ ed ∈ after1, Region.binds .any ed = true → ed.on = 0 := fun ed hed hb => by
    obtain ⟨_, o, ho, hall⟩ := mem_ready.1 (by simpa using hr1 : 1 ∈ Region.ready .any l.toArray ((Array.replicate l.toArray.size false).setIfInBounds 0 true))
    obtain rfl := Option.some.inj (ho1.symm.trans ho)
    have h3 := hall ed hed hb
    by_cases e : ed.on = 0
    · exact e
    · rw [getD_set_ne false (Ne.symm e), g0] at h3; cases h3
  have hrd0 : 0 ∈ Region.ready .any (l.take n).toArray (Array.replicate (l.take n).toArray.size false) :=
    mem_ready.2 ⟨rep_getD (by omega), _, hp0, fun ed hed hb => (nb0 ed hed hb).elim⟩
  have hrd1 : 1 ∈ Region.ready .any (l.take n).toArray ((Array.replicate (l.take n).toArray.size false).setIfInBounds 0 true) :=
    mem_ready.2 ⟨by rw [getD_set_ne true (by omega)]; exact rep_getD (by omega), _, hp1, fun ed hed hb => by rw [nb1 ed hed hb]; exact getD_of (s1 hsz') _⟩
  have hval : ∀ {x : Operand} {d0 : Nat} {ty : TypeId} {pos : String} {after : Array Edge} {a : Act} {v : Value} {L : Array Oper}, d0 ≠ d → GivesY L (callY P w0 C R d) ⟨some d0, .move x, ty, pos, after, none⟩ v a → v = a.eval x := fun hne hv => by
    rcases hv with ⟨_, hy⟩ | ⟨hwn, _⟩
    · unfold callY at hy
      rw [if_neg (fun e => hne (by cases e; rfl))] at hy
      have := hy w0 (hC0 _ (Ext.refl w0))
      unfold Oper.quietAt at this
      rw [hrun] at this
      simp only [Oper.quietUpon] at this
      exact this.2.symm
    · unfold Region.wanted at hwn; simp at hwn
  rw [hl1] at quiet
  obtain ⟨v, hv, hK⟩ := (stepY_iff hp0).1 (quiet.2 0 hrd0)
  obtain rfl := hval hd0 hv
  obtain ⟨v, hv, hK⟩ := (stepY_iff hp1).1 (hK.2 1 hrd1)
  obtain rfl := hval hd1 hv
  have e' : l.toArray.size = (n - 2 + (l.drop n).length) + 1 + 1 := by omega
  suffices h9 : ∀ z, z = (n - 2 + (l.drop n).length) + 1 + 1 → wpAny P .any l.toArray Q z (Array.replicate l.toArray.size false) a { w with drawn := w.drawn + 1 } from h9 _ e'
  intro z hz
  subst hz
  refine wpAny_take ho0 b0 hf0 hr0 (fun c a w hq => absurd hq (hQ c _ w)) (.inl ⟨by unfold Region.wanted; rfl, fun w => hrun _ _ _ _ _ a w⟩) ?_
  refine wpAny_take ho1 b0 hf1 hr1 (fun c a w hq => absurd hq (hQ c _ w)) (.inl ⟨by unfold Region.wanted; rfl, fun w => hrun _ _ _ _ _ _ w⟩) ?_
  refine key (n - 2) _ _ _ _ { w with drawn := w.drawn + 1 } (hC0 _ hw.draw) (by rw [Array.size_setIfInBounds, Array.size_setIfInBounds, Array.size_replicate, List.size_toArray]; exact hlen) (by rw [Array.size_setIfInBounds, Array.size_setIfInBounds, Array.size_replicate]) (fun j hj => ?_) (fun j hj hjs => ?_) ?_ (fun j hj hea => ?_) (fun k o hk ho ed hed hb => ?_) ⟨rfl, rfl, fun _ _ => rfl⟩ (by show d < ((a.tmps.setIfInBounds d0 _).setIfInBounds d1 _).size; rw [Array.size_setIfInBounds, Array.size_setIfInBounds]; exact hd) (fun _ => hw.draw) (fun ⟨i, o, hi, hin, ho, hdo⟩ => ?_) hK
  · by_cases ej : 1 = j
    · subst ej; rw [s2 hsz, s2 hsz']
    · rw [Array.getElem?_setIfInBounds_ne ej, Array.getElem?_setIfInBounds_ne ej]
      by_cases ej0 : 0 = j
      · subst ej0; rw [s1 hsz, s1 hsz']
      · rw [Array.getElem?_setIfInBounds_ne ej0, Array.getElem?_setIfInBounds_ne ej0]; exact hsame j hj
  · rw [Array.getElem?_setIfInBounds_ne (by omega), Array.getElem?_setIfInBounds_ne (by omega)]
    simp only [Array.getElem?_replicate]; rw [if_pos hjs]
  · have h3 := cnt_set n (Array.replicate (l.take n).toArray.size false) 0 (by omega) (rep_getD (by omega))
    have h4 := cnt_set n ((Array.replicate (l.take n).toArray.size false).setIfInBounds 0 true) 1 (by omega) (by rw [getD_set_ne true (by omega)]; exact rep_getD (by omega))
    omega
  · rcases Bool.or_eq_true_iff.1 hea with hea | hea
    · obtain rfl := Nat.eq_of_beq_eq_true hea
      exact s3 hsz
    · obtain rfl := Nat.eq_of_beq_eq_true hea
      exact s2 hsz
  · by_cases ek : 1 = k
    · subst ek
      obtain rfl := Option.some.inj (ho1.symm.trans ho)
      rw [nb1 ed hed hb]
      exact getD_of (s3 hsz) _
    · by_cases ek0 : 0 = k
      · subst ek0
        obtain rfl := Option.some.inj (ho0.symm.trans ho)
        exact (nb0 ed hed hb).elim
      · rw [getD_set_ne false ek, getD_set_ne false ek0, g0] at hk; cases hk
  · by_cases ei : 1 = i
    · subst ei
      obtain rfl := Option.some.inj (ho1.symm.trans ho)
      exact absurd (by cases hdo; rfl) hd1
    · by_cases ei0 : 0 = i
      · subst ei0
        obtain rfl := Option.some.inj (ho0.symm.trans ho)
        exact absurd (by cases hdo; rfl) hd0
      · rw [Array.getElem?_setIfInBounds_ne ei, Array.getElem?_setIfInBounds_ne ei0] at hi
        simp only [Array.getElem?_replicate] at hi
        split at hi <;> simp at hi

end

section
variable {P : Program} {N : Nat} {m : Env} {w : World} {C : World → Prop}
/-- A region that draws its order, with a call at place i0 among its first n operations. -/
theorem V_callE (n i0 : Nat) {Q : Exit → Env → World → Prop} {id : Nat} {l : List Oper} {d : Nat} {f : FuncId} {xs : Array Operand} {ats : Array TypeId} {ty : TypeId} {pos : String} {after : Array Edge} {R : Value → World → Prop} [hf : TFun P f]
    (hCe : ∀ w w', C w → Ext w w' → C w') (hC0 : ∀ w', Ext w w' → C w') (hR : ∀ x w w', Ext w w' → R x w → R x w')
    (hm : P.follows .mixedOrders = true) (ho : l.take n = l.take i0 ++ ⟨some d, .call { callee := .value (.func f), args := xs, argTypes := ats }, ty, pos, after, none⟩ :: (l.take n).drop (i0 + 1)) (hB : lateE l.toArray n d = true) (hd : Nat.ble (d + 1) N = true)
    {d0 d1 : Nat} {x0 x1 : Operand} {ty0 ty1 : TypeId} {pos0 pos1 : String} {after0 after1 : Array Edge} {r : List Oper} (hl : l = ⟨some d0, .move x0, ty0, pos0, after0, none⟩ :: ⟨some d1, .move x1, ty1, pos1, after1, none⟩ :: r) (hdd : (!(Nat.beq d0 d) && !(Nat.beq d1 d) && Nat.ble 2 n) = true)
    (hfr : (Region.free .any l.toArray (Array.replicate l.toArray.size false) 0 && (Region.ready .any l.toArray (Array.replicate l.toArray.size false)).contains 0 && Region.free .any l.toArray ((Array.replicate l.toArray.size false).setIfInBounds 0 true) 1 && (Region.ready .any l.toArray ((Array.replicate l.toArray.size false).setIfInBounds 0 true)).contains 1) = true)
    (h : YsC P N C d (fun M1 => ∃ vs, evs M1 xs.toList = some vs ∧ (∀ w', Ext w w' → Calls P f vs.toArray w' (fun e w'' => ∃ x, e = .returned x ∧ C w'' ∧ R x w'')) ∧
      YsC P N C d (fun M2 => ∀ x w2, C w2 → R x w2 → Ops P N l.toArray false (fun m w => Q .normal m w) (l.drop n) ((d, x) :: M2) w2) ((l.take n).drop (i0 + 1)) ((d, undef) :: M1)) (l.take i0) m) :
    V P N (.region id l.toArray true) Q m w := by
  have hlt : d < N := Nat.le_of_ble_eq_true hd
  refine ⟨fun a w' ha hw => Code.wp_mono (Q := fun e a w => e = .normal ∧ lift N Q .normal a w) (fun e a w ⟨h1, h2⟩ => by rw [h1]; exact h2) ?_⟩
  simp only [Bool.and_eq_true] at hdd hfr
  have nb : ∀ {z : Nat}, (!(Nat.beq z d)) = true → z ≠ d := fun h e => by
    subst e
    rw [Nat.beq_refl] at h; cases h
  refine wp_callE (w0 := w) (C := C) (R := R) hCe hC0 hR hm hB hl (nb hdd.1.1) (nb hdd.1.2) (Nat.le_of_ble_eq_true hdd.2) hfr.1.1.1 hfr.1.1.2 hfr.1.2 hfr.2 (fun c a w hq => nomatch hq.1) (by rw [ha.size]; exact hlt) hw (Q1 := fun a' => ∃ M2, (∀ x w2, C w2 → R x w2 → Ops P N l.toArray false (fun m w => Q .normal m w) (l.drop n) ((d, x) :: M2) w2) ∧ Agree N M2 a') ?_ ?_
  · generalize hL : (l.take n).toArray = A
    rw [ho]
    refine listY_append _ _ _ (listY_ys (fun M1 a1 ⟨vs, hx, hc, h2⟩ ag1 => ?_) _ _ _ h ha)
    unfold listY
    rw [if_pos (by unfold Region.wanted; rfl)]
    refine ⟨undef, ?_, ?_⟩
    · unfold callY
      rw [if_pos rfl]
      refine ⟨rfl, fun w1 hw1 => ⟨f, vs.toArray, ?_, hc w1 hw1⟩⟩
      have e1 : xs.map a1.eval = vs.toArray := map_evs ag1 hx
      rw [execOp_call_go, e1]
      simpa using hf.h vs.toArray w1
    · exact listY_ys (fun M2 _ h3 ag2 => ⟨M2, h3, ag2⟩) _ _ _ h2 (ag1.put hlt undef)
  · rintro a' a1 w1 hw1 ⟨M2, h, ag⟩ hb ⟨x, hx, hR1⟩
    have ag1 : Agree N ((d, x) :: M2) a1 := by
      refine ⟨by rw [hb.defers]; exact ag.defers, by rw [hb.size]; exact ag.size, fun i v hi => ?_⟩
      by_cases e : d = i
      · subst e
        rw [look_same] at hi; cases hi; exact hx
      · rw [look_other _ _ e] at hi
        rw [hb.slot i (fun h => e (List.mem_singleton.1 h).symm)]
        exact ag.slot i v hi
    have h5 := (h x w1 hw1 hR1).out a1 w1 ag1 (Ext.refl _)
    have mono : ∀ (l' : List Oper) (a : Act) (w0 : World), wpList P l.toArray (fun e a' w'' => e = .normal ∧ ∃ m' w1, Q .normal m' w1 ∧ Agree N m' a' ∧ Ext w1 w'') l' a w0 → wpList P l.toArray (fun e a w => e = .normal ∧ lift N Q .normal a w) l' a w0 := by
      intro l'
      induction l' with
      | nil => exact fun a w0 ⟨_, m', w1, q, ag, ex⟩ => ⟨rfl, m', w1, q, ag, ex⟩
      | cons o r ih =>
        intro a w0 h6
        unfold wpList at h6 ⊢
        split
        · rename_i hwn
          rw [if_pos hwn] at h6
          rcases h6 with h6 | h6
          · exact .inl (wp_normal (fun a1 w1 hh => ih a1 w1 hh) h6)
          · obtain ⟨_, _, _, h7, _⟩ := h6; cases h7
        · rename_i hwn
          rw [if_neg hwn] at h6
          exact ih _ _ h6
    exact mono _ _ _ h5
end
end Go.Proofs.Ytfakgiikobajnaa

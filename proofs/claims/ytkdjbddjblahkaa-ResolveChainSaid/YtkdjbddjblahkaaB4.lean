/-
  Part 4 of the texts that the proofs of this seat share: rules of a walk, contracts of functions, plain facts. Each piece says below what it proves.
  No conditions beyond those that each lemma states.
-/
import Derived.Test.YtkdjbddjblahkaaB3

/-
  Regions that draw their order and hold, among the first operations, several that each give a value in new memory (calls, allocations, literals): what the others yield does not hang on them.
  No conditions beyond those that each rule states.
-/
namespace Go.Proofs.Ytkdjbddjblahkaa
open Go.RowKit

section
variable {P : Program} {md : Region.Mode} {ops : Array Oper}
/-- The operation leaves a value of which R is known, in a world that has grown. -/
def Giver (P : Program) (s : Sem Next) (w' : World) (R : Value → World → Prop) : Prop :=
  (∃ x w'', s.run P w' = .ok (.value x) w'' ∧ Ext w' w'' ∧ R x w'') ∨ ∃ f vs, s.run P w' = .ok (.enter f vs) w' ∧ Calls P f vs w' (fun e w'' => ∃ x, e = .returned x ∧ Ext w' w'' ∧ R x w'')
def LateG (P : Program) (w0 : World) (R : Value → World → Prop) (o : Oper) (a : Act) : Prop := ∀ w', Ext w0 w' → Giver P (execOp a.eval o) w' R
def giveY (P : Program) (w0 : World) (D : List Nat) (R : Nat → Value → World → Prop) (o : Oper) (a : Act) (v : Value) : Prop :=
  match o.dst with
  | some d => if D.contains d = true then v = undef ∧ LateG P w0 (R d) o a else yC P (Ext w0) o a v
  | none => yC P (Ext w0) o a v
theorem giveY_in {P : Program} {w0 : World} {D : List Nat} {R : Nat → Value → World → Prop} {o : Oper} {a : Act} {v : Value} {d : Nat} (hd : o.dst = some d) (hD : D.contains d = true) : giveY P w0 D R o a v = (v = undef ∧ LateG P w0 (R d) o a) := by
  unfold giveY; rw [hd]; simp only; rw [if_pos hD]
theorem giveY_out {P : Program} {w0 : World} {D : List Nat} {R : Nat → Value → World → Prop} {o : Oper} {a : Act} {v : Value} (hd : ∀ d, o.dst = some d → D.contains d = false) : giveY P w0 D R o a v = yC P (Ext w0) o a v := by
  unfold giveY
  cases hdst : o.dst with
  | none => rfl
  | some d => simp only; rw [if_neg (by rw [hd d hdst]; decide)]
theorem same_giveY (P : Program) (w0 : World) (D : List Nat) (R : Nat → Value → World → Prop) : Same (giveY P w0 D R) := fun o a a' v he h => by
  by_cases hd : ∃ d, o.dst = some d ∧ D.contains d = true
  · obtain ⟨d, h1, h2⟩ := hd
    rw [giveY_in h1 h2] at h ⊢
    refine ⟨h.1, fun w' hw' => ?_⟩
    rw [he]; exact h.2 w' hw'
  · have h1 : ∀ d, o.dst = some d → D.contains d = false := fun d h2 => by
      cases hc : D.contains d with
      | false => rfl
      | true => exact absurd ⟨d, h2, hc⟩ hd
    rw [giveY_out h1] at h ⊢
    intro w' hw'
    have := h w' hw'
    unfold Oper.quietAt at *
    rwa [he]

theorem give_any {n s : Nat} {D : List Nat} (early : Nat → Bool) {Q1 : Act → Prop} {Q : Exit → Act → World → Prop} {w0 : World} {R : Nat → Value → World → Prop} {pre : Array Oper} (hR : ∀ d x w w', Ext w w' → R d x w → R d x w') (hn : n ≤ ops.size) (hP : ∀ i o, i < n → ops[i]? = some o → pre[i]? = some o)
    (hA : ∀ i, n ≤ i → i < ops.size → ∀ j, j < n → early j = true ∨ reach ops md 9 i j = true)
    (hE : ∀ i o, ops[i]? = some o → i < n → ∀ e ∈ o.after, e.on < i)
    (hG : ∀ i o, ops[i]? = some o → i < n → ∀ g, o.guard = some g → g.1 < n ∧ ∀ o', ops[g.1]? = some o' → ∀ d ∈ D, o'.dst ≠ some d)
    (hsel : ∀ (j : Nat) (o : Oper) cs b, ops[j]? = some o → j < n → o.op ≠ .select cs b)
    (hD : ∀ i o, ops[i]? = some o → i < n → ∀ d ∈ D, d ∉ o.looksAt ops)
    (hg0 : ∀ i o, ops[i]? = some o → i < n → ∀ d ∈ D, o.dst = some d → o.guard = none)
    (hin : ∀ d ∈ D, ∃ i o, i < n ∧ ops[i]? = some o ∧ o.dst = some d)
    (last : ∀ a' a w, Ext w0 w → Q1 a' → But D a' a → (∀ d ∈ D, ∃ x, a.tmps[d]? = some x ∧ R d x w) → wpAny P md ops Q s (upto ops.size n) a w) :
    ∀ (f : Nat) (L L' : Array Bool) (a' a : Act) (w : World), Ext w0 w → L'.size = n → L.size = ops.size → (∀ j, j < n → L[j]? = L'[j]?) → (∀ j, n ≤ j → j < ops.size → L[j]? = some false) → cnt n L' = f →
      (∀ j, j < n → early j = true → L[j]? = some true) → Closed ops md L → But D a' a → (∀ d ∈ D, d < a.tmps.size) → (∀ d ∈ D, (∃ i o, L[i]? = some true ∧ i < n ∧ ops[i]? = some o ∧ o.dst = some d) → ∃ x, a.tmps[d]? = some x ∧ R d x w) →
      anyY md pre (giveY P w0 D R) Q1 f L' a' → wpAny P md ops Q (f + s) L a w := by
  intro f
  induction f with
  | zero =>
    intro L L' a' a w hC hs' hs h1 h2 hc hea hcl hbut hDs hm h
    have hlist : ∀ j, j < n → L[j]? = some true := fun j hj => by
      rw [h1 j hj]
      have := List.countP_eq_zero.1 hc j (List.mem_range.2 hj)
      have hlt : j < L'.size := by omega
      simp [hlt] at this
      simp [hlt, this]
    have hL : L = upto ops.size n := by
      refine Array.ext_getElem? fun j => ?_
      rcases Nat.lt_or_ge j ops.size with hj | hj
      · rw [upto_get _ _ _ hj]
        rcases Nat.lt_or_ge j n with hjn | hjn
        · rw [hlist j hjn]; simp [hjn]
        · rw [h2 j hjn hj]; simp; omega
      · rw [Array.getElem?_eq_none (by omega), Array.getElem?_eq_none (by rw [upto_size]; omega)]
    rw [Nat.zero_add]
    rw [hL]
    refine last a' a w hC h.2 hbut fun d hd => ?_
    obtain ⟨i, o, hi, ho, hd2⟩ := hin d hd
    exact hm d hd ⟨i, o, hlist i hi, hi, ho, hd2⟩
  | succ f ih =>
    intro L L' a' a w hC hs' hs h1 h2 hc hea hcl hbut hDs hm h
    rw [Nat.succ_add]
    have un : ∃ j, j < n ∧ L'[j]? = some false ∧ ∀ k, k < j → L'[k]? = some true := by
      have hpos : 0 < cnt n L' := by omega
      obtain ⟨j, hj, hjf⟩ := List.countP_pos_iff.1 hpos
      have hjn := List.mem_range.1 hj
      have hjl : j < L'.size := by omega
      have hjf' : L'[j]? = some false := by simp [hjl] at hjf ⊢; exact hjf
      clear hj hjf hjl
      induction j using Nat.strongRecOn with
      | ind j ihj =>
        by_cases hall : ∀ k, k < j → L'[k]? = some true
        · exact ⟨j, hjn, hjf', hall⟩
        · obtain ⟨k, hk⟩ := Classical.not_forall.1 hall
          obtain ⟨hkj, hk⟩ := Classical.not_imp.1 hk
          have hkl : k < L'.size := by omega
          refine ihj k hkj (by omega) ?_
          rw [Array.getElem?_eq_getElem hkl] at hk ⊢
          cases hb : L'[k] with
          | true => rw [hb] at hk; exact absurd rfl hk
          | false => rfl
    obtain ⟨j0, hj0, hjf, hbelow⟩ := un
    have on_lt : ∀ {i : Nat} {o : Oper} {e : Edge}, ops[i]? = some o → i < n → e ∈ o.after → L.getD e.on false = L'.getD e.on false := fun ho hi he => by
      have h4 := hE _ _ ho hi _ he
      rename_i i0 o0 e0
      have h3 := h1 e0.on (by omega)
      rw [Array.getD_eq_getD_getElem?, Array.getD_eq_getD_getElem?, h3]
    have lt_n : ∀ i, i ∈ Region.ready md ops L → i < n := fun i hi => by
      obtain ⟨_, o, ho, hall⟩ := mem_ready.1 hi
      rcases Nat.lt_or_ge i n with h3 | h3
      · exact h3
      · have hlt : i < ops.size := by
          rcases Nat.lt_or_ge i ops.size with h' | h'
          · exact h'
          · rw [Array.getElem?_eq_none h'] at ho; cases ho
        rcases hA i h3 hlt j0 hj0 with h4 | h4
        · have := hea j0 hj0 h4
          rw [h1 j0 hj0, hjf] at this; cases this
        · have := reach_listed hcl 9 i j0 (fun o' ho' => by obtain rfl := Option.some.inj (ho.symm.trans ho'); exact hall) h4
          rw [getD_of ((h1 j0 hj0).trans hjf)] at this
          cases this
    refine ⟨fun hr => ?_, fun i hi => ?_⟩
    · exfalso
      have hmem : j0 ∈ Region.ready md ops L := by
        have hlt : j0 < ops.size := by omega
        refine mem_ready.2 ⟨getD_of ((h1 j0 hj0).trans hjf) _, ops[j0], Array.getElem?_eq_getElem hlt, fun e he _ => ?_⟩
        have hlt' := hE j0 _ (Array.getElem?_eq_getElem hlt) hj0 e he
        exact getD_of ((h1 _ (by omega)).trans (hbelow _ hlt')) _
      rw [hr] at hmem; cases hmem
    · have hin' := lt_n i hi
      have hcl' := hcl.set hi
      obtain ⟨hun, o, ho, hall⟩ := mem_ready.1 hi
      have hpo : pre[i]? = some o := hP i o hin' ho
      have hun' : L'.getD i true = false := by
        have := h1 i hin'
        simp only [Array.getD_eq_getD_getElem?, ← this] at hun ⊢; exact hun
      have hi' : i ∈ Region.ready md pre L' := mem_ready.2 ⟨hun', o, hpo, fun e he hb => by rw [← on_lt ho hin' he]; exact hall e he hb⟩
      have hq := (stepY_iff hpo).1 (h.2 i hi')
      obtain ⟨v, hv, hK⟩ := hq
      have hset : ∀ j, j < n → (L.setIfInBounds i true)[j]? = (L'.setIfInBounds i true)[j]? := fun j hj => by
        by_cases e : i = j
        · subst e
          have hl1 : i < L.size := by omega
          have hl2 : i < L'.size := by omega
          simp [hl1, hl2]
        · rw [Array.getElem?_setIfInBounds_ne e, Array.getElem?_setIfInBounds_ne e]; exact h1 j hj
      have hset2 : ∀ j, n ≤ j → j < ops.size → (L.setIfInBounds i true)[j]? = some false := fun j hj hjs => by
        rw [Array.getElem?_setIfInBounds_ne (by omega)]; exact h2 j hj hjs
      have hea' : ∀ j, j < n → early j = true → (L.setIfInBounds i true)[j]? = some true := fun j hj he => by
        by_cases e : i = j
        · subst e
          have hl1 : i < L.size := by omega
          simp [hl1]
        · rw [Array.getElem?_setIfInBounds_ne e]; exact hea j hj he
      have hc' : cnt n (L'.setIfInBounds i true) = f := by have := cnt_set n L' i hin' hun'; omega
      have old : ∀ k, (L.setIfInBounds i true)[k]? = some true → k ≠ i → L[k]? = some true := fun k hk hki => by
        rwa [Array.getElem?_setIfInBounds_ne (Ne.symm hki)] at hk
      have hex : execOp a.eval o = execOp a'.eval o := hbut.exec o (fun cs b => hsel i o cs b ho hin') (fun x hx => hD i o ho hin' x hx)
      unfold wpOp
      simp only [ho]
      by_cases hdo : ∃ d, o.dst = some d ∧ D.contains d = true
      · obtain ⟨d, hdo, hdc⟩ := hdo
        have hdD : d ∈ D := by simpa using hdc
        have hgn := hg0 i o ho hin' d hdD hdo
        have hwt : ∀ y, Region.wanted o y = true := fun y => by unfold Region.wanted; rw [hgn]
        rw [if_pos (hwt _)]
        rcases hv with ⟨_, hy⟩ | ⟨hwn, _⟩
        · rw [giveY_in hdo hdc] at hy
          obtain ⟨rfl, hl⟩ := hy
          have cont : ∀ x w'', Ext w w'' → R d x w'' → wpAny P md ops Q (f + s) (L.setIfInBounds i true) (a.put o.dst x) w'' := fun x w'' hCw hRx => by
            rw [hdo] at hK ⊢
            have hb2 : But D (a'.put (some d) undef) (a.put (some d) x) := by
              refine ⟨hbut.defers, by simp [Act.put, hbut.size], fun k hk => ?_⟩
              have hne : d ≠ k := fun e => hk (by rw [← e]; exact hdD)
              simp only [Act.put]
              rw [Array.getElem?_setIfInBounds_ne hne, Array.getElem?_setIfInBounds_ne hne]
              exact hbut.slot k hk
            refine ih _ _ _ _ w'' (hC.trans hCw) (by simpa using hs') (by simpa using hs) hset hset2 hc' hea' hcl' hb2 (fun d2 hd2 => by simp [Act.put, hDs d2 hd2]) (fun d2 hd2 ⟨k, ok, hk, hkn, hok, hkd⟩ => ?_) hK
            by_cases e : d2 = d
            · subst e; exact ⟨x, by simp [Act.put, hDs d2 hd2], hRx⟩
            · have hki : k ≠ i := fun e2 => by subst e2; obtain rfl := Option.some.inj (ho.symm.trans hok); rw [hdo] at hkd; cases hkd; exact e rfl
              obtain ⟨z, m1, m2⟩ := hm d2 hd2 ⟨k, ok, old k hk hki, hkn, hok, hkd⟩
              refine ⟨z, ?_, hR d2 z _ _ hCw m2⟩
              simp only [Act.put]
              rw [Array.getElem?_setIfInBounds_ne (fun e2 => e e2.symm)]; exact m1
          refine .inl ?_
          unfold Oper.wp
          rcases hl w hC with ⟨x, w'', hrun, hCw, hRx⟩ | ⟨f', vs, hrun, hcall⟩
          · rw [← hex] at hrun
            rw [hrun]
            exact cont x w'' hCw hRx
          · rw [← hex] at hrun
            rw [hrun]
            refine Calls.mono hcall fun e w'' hg => ?_
            obtain ⟨x, rfl, hCw, hRx⟩ := hg
            exact cont x w'' hCw hRx
        · rw [hwt] at hwn; cases hwn
      · have hdn : ∀ d, o.dst = some d → D.contains d = false := fun d h2 => by
          cases hc : D.contains d with
          | false => rfl
          | true => exact absurd ⟨d, h2, hc⟩ hdo
        have hdn2 : ∀ d ∈ D, o.dst ≠ some d := fun d hd e => by
          have := hdn d e
          rw [List.contains_iff_mem.2 hd] at this; cases this
        have hw : Region.wanted o (yielded pre a'.tmps) = Region.wanted o (yielded ops a.tmps) := by
          unfold Region.wanted
          cases hg : o.guard with
          | none => rfl
          | some gd =>
            obtain ⟨hg1, hg2⟩ := hG i o ho hin' gd hg
            have hlt : gd.1 < ops.size := by omega
            have hog := Array.getElem?_eq_getElem hlt
            have hpg := hP _ _ hg1 hog
            have hy : yielded pre a'.tmps gd.1 = yielded ops a.tmps gd.1 := by
              simp only [yielded, hpg, hog, Option.bind_some]
              cases hd : (ops[gd.1]'hlt).dst with
              | none => rfl
              | some d' =>
                have hdD : d' ∉ D := fun hdD => hg2 _ hog d' hdD hd
                simp only [Option.bind_some, hbut.slot d' hdD]
            simp only [hy]
        have made : ∀ u w'', Ext w w'' → ∀ d ∈ D, (∃ k o, (L.setIfInBounds i true)[k]? = some true ∧ k < n ∧ ops[k]? = some o ∧ o.dst = some d) → ∃ x, (a.put o.dst u).tmps[d]? = some x ∧ R d x w'' := fun u w'' hw'' d hd ⟨k, ok, hk, hkn, hok, hkd⟩ => by
          have hki : k ≠ i := fun e => by subst e; obtain rfl := Option.some.inj (ho.symm.trans hok); exact hdn2 d hd hkd
          obtain ⟨x, m1, m2⟩ := hm d hd ⟨k, ok, old k hk hki, hkn, hok, hkd⟩
          refine ⟨x, ?_, hR d x _ _ hw'' m2⟩
          cases hdst : o.dst with
          | none => exact m1
          | some y =>
            have : y ≠ d := fun e => hdn2 d hd (by rw [hdst, e])
            simp only [Act.put]
            rw [Array.getElem?_setIfInBounds_ne this]; exact m1
        have szP : ∀ u, ∀ d ∈ D, d < (a.put o.dst u).tmps.size := fun u d hd => by cases o.dst <;> simp [Act.put, hDs d hd]
        rcases hv with ⟨hwn, hy⟩ | ⟨hwn, hvu⟩
        · rw [giveY_out hdn] at hy
          rw [hw] at hwn
          rw [if_pos hwn]
          refine .inl (Oper.wp_of_quiet (C := fun w'' => Ext w w'') (K := fun x => x = a.put o.dst v) (Ext.refl w) (fun a1 w1 hw1 e => ?_) ?_)
          · subst e
            exact ih _ _ (a'.put o.dst v) _ w1 (hC.trans hw1) (by simpa using hs') (by simpa using hs) hset hset2 hc' hea' hcl' (hbut.put _ _) (szP v) (made v w1 hw1) hK
          · refine ⟨v, fun w1 hw1 => ?_, rfl⟩
            have hq1 := hy w1 (hC.trans hw1)
            unfold Oper.quietAt at hq1 ⊢
            rw [← hex] at hq1
            generalize (execOp a.eval o).run P w1 = r at *
            cases r with
            | ok nx w2 =>
              cases nx <;> simp only [Oper.quietUpon] at hq1 ⊢ <;> first | exact hq1 | exact ⟨hq1.1, hq1.2.mono fun e w3 h3 => ⟨h3.1, hw1.trans h3.2⟩⟩
            | halt x w2 => simp only [Oper.quietUpon] at hq1
        · rw [hw] at hwn
          rw [if_neg (by rw [hwn]; exact Bool.false_ne_true)]
          subst hvu
          exact ih _ _ (a'.put o.dst undef) _ w hC (by simpa using hs') (by simpa using hs) hset hset2 hc' hea' hcl' (hbut.put _ _) (szP _) (made undef w (Ext.refl w)) hK

/-- lateB, for several slots. -/
def giveB (ops : Array Oper) (n : Nat) (D : List Nat) : Bool :=
  Nat.ble n ops.size && Region.noSelect ops && Region.lexB .any (ops.toList.take n).toArray &&
  (List.range ops.size).all (fun i => match ops[i]? with
    | none => true
    | some o => if Nat.ble (i + 1) n then (o.after.all fun e => Nat.ble (e.on + 1) i) &&
        (match o.guard with
          | none => true
          | some g => Nat.ble (g.1 + 1) n && (match ops[g.1]? with
            | none => true
            | some o' => D.all fun d => !(o'.dst == some d))) &&
        (D.all fun d => !(o.looksAt ops).contains d) &&
        (D.all fun d => if o.dst == some d then o.guard.isNone else true)
      else (List.range n).all fun j => reach ops .any 9 i j) &&
  (List.range ops.size).all (fun k => Nat.ble (k + 1) n || (match Region.ready .any ops (upto ops.size k) with
    | [k'] => Nat.beq k' k
    | _ => false)) &&
  (Region.ready .any ops (upto ops.size ops.size)).isEmpty &&
  D.all fun d => (List.range n).any (fun i => match ops[i]? with
    | some o => o.dst == some d
    | none => false)
theorem wp_give {ro : Option Nat} {l : List Oper} {n id : Nat} {D : List Nat} {Q1 : Act → Prop} {Q : Exit → Act → World → Prop} {w0 w : World} {a : Act} {R : Nat → Value → World → Prop} (hR : ∀ d x w w', Ext w w' → R d x w → R d x w') (hnd : NoDef ro l) (hQ : ¬LetsOut Q) (hm : P.follows .mixedOrders = true) (hB : giveB l.toArray n D = true)
    (hd : ∀ d ∈ D, d < a.tmps.size) (hw : Ext w0 w)
    (h : listY (l.take n).toArray (giveY P w0 D R) Q1 (l.take n) a)
    (last : ∀ a' a w, Ext w0 w → Q1 a' → But D a' a → (∀ d ∈ D, ∃ x, a.tmps[d]? = some x ∧ R d x w) → wpList P l.toArray Q (l.drop n) a w) :
    WpR ro P (.region id l.toArray true) Q a w := by
  simp only [giveB, Bool.and_eq_true] at hB
  obtain ⟨⟨⟨⟨⟨⟨b1, b0⟩, b2⟩, b3⟩, b4⟩, b5⟩, b6⟩ := hB
  have hn : n ≤ l.toArray.size := Nat.le_of_ble_eq_true b1
  have hnl : n ≤ l.length := by simpa using hn
  have at3 : ∀ i o, l.toArray[i]? = some o → _ := fun i o ho => by
    have hlt : i < l.toArray.size := by
      rcases Nat.lt_or_ge i l.toArray.size with h' | h'
      · exact h'
      · rw [Array.getElem?_eq_none h'] at ho; cases ho
    have := List.all_eq_true.1 b3 i (List.mem_range.2 hlt)
    simp only [ho] at this
    exact this
  have pre3 : ∀ i o, l.toArray[i]? = some o → i < n → _ := fun i o ho hi => by
    have := at3 i o ho
    rw [if_pos (Nat.ble_eq_true_of_le hi)] at this
    simp only [Bool.and_eq_true] at this
    exact this
  have hP : ∀ i o, i < n → l.toArray[i]? = some o → (l.take n).toArray[i]? = some o := fun i o hi ho => by
    have : l[i]? = some o := by simpa using ho
    simp [hi, this]
  have hE : ∀ i o, l.toArray[i]? = some o → i < n → ∀ e ∈ o.after, e.on < i := fun i o ho hi e he =>
    Nat.le_of_ble_eq_true (Array.all_eq_true_iff_forall_mem.1 (pre3 i o ho hi).1.1.1 e he)
  have hG : ∀ i o, l.toArray[i]? = some o → i < n → ∀ g, o.guard = some g → g.1 < n ∧ ∀ o', l.toArray[g.1]? = some o' → ∀ d ∈ D, o'.dst ≠ some d := fun i o ho hi g hg => by
    have h2 := (pre3 i o ho hi).1.1.2
    rw [hg] at h2
    simp only [Bool.and_eq_true] at h2
    refine ⟨Nat.le_of_ble_eq_true h2.1, fun o' ho' d hd => ?_⟩
    have h3 := h2.2
    rw [ho'] at h3
    have h4 := List.all_eq_true.1 h3 d hd
    simpa using h4
  have hD : ∀ i o, l.toArray[i]? = some o → i < n → ∀ d ∈ D, d ∉ o.looksAt l.toArray := fun i o ho hi d hd => by
    have h2 := List.all_eq_true.1 (pre3 i o ho hi).1.2 d hd
    simpa using h2
  have hlate : ∀ i o, l.toArray[i]? = some o → i < n → ∀ d ∈ D, o.dst = some d → o.guard = none := fun i o ho hi d hd hdo => by
    have h2 := List.all_eq_true.1 (pre3 i o ho hi).2 d hd
    rw [if_pos (by rw [hdo]; simp)] at h2
    simpa using h2
  have hA : ∀ i, n ≤ i → i < l.toArray.size → ∀ j, j < n → (fun _ => false) j = true ∨ reach l.toArray .any 9 i j = true := fun i hi his j hj => by
    have := at3 i _ (Array.getElem?_eq_getElem his)
    rw [if_neg (fun hb => by have := Nat.le_of_ble_eq_true hb; omega)] at this
    exact .inr (List.all_eq_true.1 this j (List.mem_range.2 hj))
  have hr : ∀ k, n ≤ k → k < l.toArray.size → Region.ready .any l.toArray (upto l.toArray.size k) = [k] := fun k hk hks => by
    have := List.all_eq_true.1 b4 k (List.mem_range.2 hks)
    simp only [Bool.or_eq_true] at this
    rcases this with h' | h'
    · have := Nat.le_of_ble_eq_true h'; omega
    · split at h'
      · rename_i k' he
        rw [he, Nat.eq_of_beq_eq_true h']
      · cases h'
  have he : Region.ready .any l.toArray (upto l.toArray.size l.toArray.size) = [] := by simpa using b5
  have hex : ∀ d ∈ D, ∃ i o, i < n ∧ l.toArray[i]? = some o ∧ o.dst = some d := fun d hd => by
    obtain ⟨i, hi, h2⟩ := List.any_eq_true.1 (List.all_eq_true.1 b6 d hd)
    have hi' := List.mem_range.1 hi
    have hlt : i < l.toArray.size := by omega
    rw [Array.getElem?_eq_getElem hlt] at h2
    exact ⟨i, _, hi', Array.getElem?_eq_getElem hlt, by simpa using h2⟩
  simp only [Region.lexB, Bool.and_eq_true] at b2
  have hdl : (l.drop n).length = l.toArray.size - n := by simp
  have hlen : (l.take n).length = n := by simp; omega
  refine wpR_region_any (by simpa using hnd) hQ hm ?_
  have quiet := anyY_lex (md := .any) (same_giveY P w0 D R) b2.1 (l.take n) 0 (Array.replicate (l.take n).toArray.size false) a (by simp) (by simpa using b2.2) h
  have key := give_any (P := P) (md := .any) (ops := l.toArray) (pre := (l.take n).toArray) (n := n) (s := (l.drop n).length) (D := D) (fun _ => false) (Q := Q) (Q1 := Q1) (w0 := w0) (R := R)
    hR hn hP hA hE hG (fun j o cs b ho _ => Region.noSelect_spec b0 j o cs b ho) hD (fun i o ho hi d hd hdo => hlate i o ho hi d hd hdo) hex
    (fun a' a1 w1 hw1 q1 hb hmd => one_any hr he (l.drop n) n (Nat.le_refl _) (by rw [hdl]; omega) (fun j => by simp) a1 w1
      (last a' a1 w1 hw1 q1 hb hmd))
  have hall : ∀ k : Nat, (Array.replicate l.toArray.size false)[k]? ≠ some true := fun k hk => by
    simp only [Array.getElem?_replicate] at hk
    split at hk <;> simp at hk
  have hcnt : cnt n (Array.replicate (l.take n).toArray.size false) = (l.take n).length := by
    unfold cnt
    rw [List.countP_eq_length.2]
    · rw [hlen]; simp
    · intro j hj
      have := List.mem_range.1 hj
      have h2 : j < (l.take n).toArray.size := by simp; omega
      simp only [Array.getD_eq_getD_getElem?, Array.getElem?_replicate]
      rw [if_pos h2]; rfl
  have hsame : ∀ j, j < n → (Array.replicate l.toArray.size false)[j]? = (Array.replicate (l.take n).toArray.size false)[j]? := fun j hj => by
    have h1 : j < l.length := by omega
    have h2 : j < (l.take n).length := by omega
    simp only [Array.getElem?_replicate]
    rw [if_pos (by simpa using h1), if_pos (by simpa using h2)]
  have hclosed : Closed l.toArray .any (Array.replicate l.toArray.size false) := fun (k : Nat) o hk => by
    simp only [Array.getD_eq_getD_getElem?, Array.getElem?_replicate] at hk
    split at hk <;> simp at hk
  have e : (l.take n).length + (l.drop n).length = l.toArray.size := by rw [hlen, hdl]; omega
  have := key (l.take n).length (Array.replicate l.toArray.size false) (Array.replicate (l.take n).toArray.size false) a a { w with drawn := w.drawn + 1 } hw.draw (by simp; omega) (by simp)
    hsame (fun j _ hj => by simp only [Array.getElem?_replicate]; rw [if_pos hj]) hcnt (fun j _ h => by cases h) hclosed ⟨rfl, rfl, fun _ _ => rfl⟩ hd (fun d _ ⟨i, o, hi, _⟩ => absurd hi (hall i)) quiet
  rwa [e] at this

end


section
variable {P : Program} {N : Fr} {m : Env} {w : World}
/-- The operation gives R in every frame that agrees and every world that has grown from w. -/
structure Gvs (P : Program) (N : Fr) (m : Env) (w : World) (o : Oper) (R : Value → World → Prop) : Prop where
  out : ∀ a w', Agree N m a → Ext w w' → Giver P (execOp a.eval o) w' R
theorem Gvs_call {dst : Option Tmp} {f : FuncId} {xs : Array Operand} {ats : Array TypeId} {ty : TypeId} {pos : String} {after : Array Edge} {g : Option (Nat × Bool)} {vs : List Value} {R : Value → World → Prop} [hf : TFun P f] (hx : evs m xs.toList = some vs)
    (hc : ∀ w', Ext w w' → Calls P f vs.toArray w' (Gives R w')) : Gvs P N m w ⟨dst, .call { callee := .value (.func f), args := xs, argTypes := ats }, ty, pos, after, g⟩ R := ⟨fun a w' ha hw => .inr ⟨f, vs.toArray, by
  have e1 : xs.map a.eval = vs.toArray := map_evs ha hx
  rw [execOp_call_go, e1]
  simpa using hf.h vs.toArray w', hc w' hw⟩⟩
/-- Operations without guards that yield the same values in every grown world; K is known of the frame behind them. -/
def YsG (P : Program) (N : Fr) (w0 : World) (D : List Nat) (K : Env → Prop) : List Oper → Env → Prop
  | [], m => K m
  | o :: r, m => ∃ d' v, o.dst = some d' ∧ Nat.ble (d' + 1) N.n = true ∧ D.contains d' = false ∧ o.guard = none ∧ (∀ w, Ext w0 w → Yl P N m w o v) ∧ YsG P N w0 D K r ((d', v) :: m)
theorem YsG.nil {D : List Nat} {K : Env → Prop} {l : List Oper} (hl : l = []) (h : K m) : YsG P N w D K l m := by subst hl; exact h
theorem YsG.cons {D : List Nat} {d' : Nat} {o : Oper} {r : List Oper} {v : Value} {K : Env → Prop} (h1 : o.dst = some d') (h2 : Nat.ble (d' + 1) N.n = true) (h3 : D.contains d' = false) (h4 : o.guard = none) (h5 : ∀ w', Ext w w' → Yl P N m w' o v) (h6 : YsG P N w D K r ((d', v) :: m)) : YsG P N w D K (o :: r) m :=
  ⟨d', v, h1, h2, h3, h4, h5, h6⟩
theorem Yl.up {w w' : World} {o : Oper} {v : Value} (h : Yl P N m w o v) (he : Ext w w') : Yl P N m w' o v := ⟨fun a w1 ha hw => h.out a w1 ha (he.trans hw)⟩
theorem YsG.q {D : List Nat} {d' : Nat} {op : Op} {ty : TypeId} {pos : String} {after : Array Edge} {r : List Oper} {v : Value} {K : Env → Prop} (h2 : Nat.ble (d' + 1) N.n = true) (h3 : D.contains d' = false) (hq : Yl P N m w ⟨some d', op, ty, pos, after, none⟩ v)
    (h6 : YsG P N w D K r ((d', v) :: m)) : YsG P N w D K (⟨some d', op, ty, pos, after, none⟩ :: r) m := ⟨d', v, rfl, h2, h3, rfl, fun _ he => hq.up he, h6⟩
theorem listY_ysG {ops : Array Oper} {Q : Act → Prop} {w0 : World} {R : Nat → Value → World → Prop} {D : List Nat} {K : Env → Prop} (hQ : ∀ M a, K M → Agree N M a → Q a) : ∀ (l : List Oper) (m : Env) (a : Act), YsG P N w0 D K l m → Agree N m a → listY ops (giveY P w0 D R) Q l a
  | [], m, a, h, ha => hQ m a h ha
  | o :: r, m, a, h, ha => by
    obtain ⟨d', v, h1, h2, h3, h4, h5, h6⟩ := h
    unfold listY
    rw [if_pos (by unfold Region.wanted; rw [h4])]
    refine ⟨v, ?_, ?_⟩
    · rw [giveY_out (fun d hd => by rw [h1] at hd; cases hd; exact h3)]
      exact fun w' hw' => (h5 w' hw').out a w' ha (Ext.refl _)
    · rw [h1]
      exact listY_ysG hQ r _ _ h6 (ha.put (Nat.le_of_ble_eq_true h2) v)
theorem wpList_lift {ops : Array Oper} {Q : Exit → Env → World → Prop} : ∀ (l' : List Oper) (a : Act) (w0 : World), wpList P ops (fun e a' w'' => e = .normal ∧ ∃ m' w1, Q .normal m' w1 ∧ Agree N m' a' ∧ Ext w1 w'') l' a w0 → wpList P ops (fun e a w => e = .normal ∧ lift N Q .normal a w) l' a w0 := by
  intro l'
  induction l' with
  | nil => exact fun a w0 ⟨_, m', w1, q, ag, ex⟩ => ⟨rfl, m', w1, q, ag, ex⟩
  | cons o r ih =>
    intro a w0 h6
    unfold wpList at h6 ⊢
    split
    · rename_i hwn
      rw [if_pos hwn] at h6
      rcases h6 with h6 | h6
      · exact .inl (wp_normal (fun a1 w1 hh => ih a1 w1 hh) h6)
      · obtain ⟨_, _, _, h7, _⟩ := h6; cases h7
    · rename_i hwn
      rw [if_neg hwn] at h6
      exact ih _ _ h6
/-- A region that draws its order, with an operation that gives (at the place i1) among its first n. -/
theorem V_give1 (n i1 : Nat) {Q : Exit → Env → World → Prop} {id : Nat} {l : List Oper} {o1 : Oper} {d1 : Nat} (R1 : Value → World → Prop)
    (hR1 : ∀ x w w', Ext w w' → R1 x w → R1 x w')
    (hm : P.follows .mixedOrders = true) (ho : l.take n = l.take i1 ++ o1 :: (l.take n).drop (i1 + 1)) (h1 : o1.dst = some d1) (g1 : o1.guard = none) (hB : giveB l.toArray n [d1] = true)
    (hd1 : Nat.ble (d1 + 1) N.n = true)
    (h : YsG P N w [d1] (fun M1 => Gvs P N M1 w o1 R1 ∧ YsG P N w [d1] (fun M3 => ∀ x1 w2, Ext w w2 → R1 x1 w2 → Ops P N l.toArray false (fun m w => Q .normal m w) (l.drop n) ((d1, x1) :: M3) w2)
      ((l.take n).drop (i1 + 1)) ((d1, undef) :: M1)) (l.take i1) m)
    (hnd : NoDef N.ro l := by first | exact .inl rfl | exact .inr (by kernel_rfl)) :
    V P N (.region id l.toArray true) Q m w := by
  have lt1 : d1 < N.n := Nat.le_of_ble_eq_true hd1
  refine ⟨fun a w' ha hw => wpR_mono (Q := fun e a w => e = .normal ∧ lift N Q .normal a w) (fun e a w ⟨h1, h2⟩ => by rw [h1]; exact h2) ?_⟩
  refine wp_give (w0 := w) (D := [d1]) (R := fun _ => R1) (fun d x w w' he hx => hR1 x w w' he hx) hnd noLet hm hB (fun d hd => by
    rw [ha.size, List.mem_singleton.1 hd]; exact lt1) hw (Q1 := fun a' => ∃ M3, (∀ x1 w2, Ext w w2 → R1 x1 w2 → Ops P N l.toArray false (fun m w => Q .normal m w) (l.drop n) ((d1, x1) :: M3) w2) ∧ Agree N M3 a') ?_ ?_
  · generalize hL : (l.take n).toArray = A
    rw [ho]
    refine listY_append _ _ _ (listY_ysG (fun M1 a1 ⟨hg1, h2'⟩ ag1 => ?_) _ _ _ h ha)
    unfold listY
    rw [if_pos (by unfold Region.wanted; rw [g1])]
    refine ⟨undef, ?_, ?_⟩
    · rw [giveY_in h1 (by simp)]
      exact ⟨rfl, fun w1 hw1 => hg1.out a1 w1 ag1 hw1⟩
    · rw [h1]
      exact listY_ysG (fun M3 _ h3 ag3 => ⟨M3, h3, ag3⟩) _ _ _ h2' (ag1.put lt1 undef)
  · rintro a' a1 w1 hw1 ⟨M3, h, ag⟩ hb hx
    obtain ⟨x1, hx1, hr1⟩ := hx d1 (by simp)
    have ag1 : Agree N ((d1, x1) :: M3) a1 := by
      refine ⟨by rw [hb.defers]; exact ag.defers, by rw [hb.size]; exact ag.size, fun i v hi => ?_⟩
      by_cases e : d1 = i
      · subst e
        rw [look_same] at hi; cases hi; exact hx1
      · rw [look_other _ _ e] at hi
        rw [hb.slot i (fun h => e (List.mem_singleton.1 h).symm)]
        exact ag.slot i v hi
    exact wpList_lift _ _ _ ((h x1 w1 hw1 hr1).out a1 w1 ag1 (Ext.refl _))
/-- A region that draws its order, with two operations that give (at the places i1 and i2) among its first n. -/
theorem V_give2 (n i1 i2 : Nat) {Q : Exit → Env → World → Prop} {id : Nat} {l : List Oper} {o1 o2 : Oper} {d1 d2 : Nat} (R1 R2 : Value → World → Prop)
    (hR1 : ∀ x w w', Ext w w' → R1 x w → R1 x w') (hR2 : ∀ x w w', Ext w w' → R2 x w → R2 x w')
    (hm : P.follows .mixedOrders = true) (ho : l.take n = l.take i1 ++ o1 :: ((l.take i2).drop (i1 + 1) ++ o2 :: (l.take n).drop (i2 + 1))) (h1 : o1.dst = some d1) (h2 : o2.dst = some d2) (g1 : o1.guard = none) (g2 : o2.guard = none) (hB : giveB l.toArray n [d1, d2] = true)
    (hd1 : Nat.ble (d1 + 1) N.n = true) (hd2 : Nat.ble (d2 + 1) N.n = true) (hne : Nat.beq d1 d2 = false)
    (h : YsG P N w [d1, d2] (fun M1 => Gvs P N M1 w o1 R1 ∧ YsG P N w [d1, d2] (fun M2 => Gvs P N M2 w o2 R2 ∧ YsG P N w [d1, d2] (fun M3 => ∀ x1 x2 w2, Ext w w2 → R1 x1 w2 → R2 x2 w2 → Ops P N l.toArray false (fun m w => Q .normal m w) (l.drop n) ((d2, x2) :: (d1, x1) :: M3) w2)
      ((l.take n).drop (i2 + 1)) ((d2, undef) :: M2)) ((l.take i2).drop (i1 + 1)) ((d1, undef) :: M1)) (l.take i1) m)
    (hnd : NoDef N.ro l := by first | exact .inl rfl | exact .inr (by kernel_rfl)) :
    V P N (.region id l.toArray true) Q m w := by
  have lt1 : d1 < N.n := Nat.le_of_ble_eq_true hd1
  have lt2 : d2 < N.n := Nat.le_of_ble_eq_true hd2
  have hne' : d1 ≠ d2 := fun e => by subst e; rw [Nat.beq_refl] at hne; cases hne
  refine ⟨fun a w' ha hw => wpR_mono (Q := fun e a w => e = .normal ∧ lift N Q .normal a w) (fun e a w ⟨h1, h2⟩ => by rw [h1]; exact h2) ?_⟩
  refine wp_give (w0 := w) (D := [d1, d2]) (R := fun d => if d = d1 then R1 else R2) (fun d x w w' he hx => by split at hx <;> rename_i e <;> simp only [e, if_true, if_false] <;> first | exact hR1 x w w' he hx | exact hR2 x w w' he hx) hnd noLet hm hB (fun d hd => by
    rw [ha.size]
    rcases List.mem_cons.1 hd with rfl | hd
    · exact lt1
    · rw [List.mem_singleton.1 hd]; exact lt2) hw (Q1 := fun a' => ∃ M3, (∀ x1 x2 w2, Ext w w2 → R1 x1 w2 → R2 x2 w2 → Ops P N l.toArray false (fun m w => Q .normal m w) (l.drop n) ((d2, x2) :: (d1, x1) :: M3) w2) ∧ Agree N M3 a') ?_ ?_
  · generalize hL : (l.take n).toArray = A
    rw [ho]
    refine listY_append _ _ _ (listY_ysG (fun M1 a1 ⟨hg1, h2'⟩ ag1 => ?_) _ _ _ h ha)
    unfold listY
    rw [if_pos (by unfold Region.wanted; rw [g1])]
    refine ⟨undef, ?_, ?_⟩
    · rw [giveY_in h1 (by simp)]
      refine ⟨rfl, fun w1 hw1 => ?_⟩
      rw [if_pos rfl]; exact hg1.out a1 w1 ag1 hw1
    · rw [h1]
      refine listY_append _ _ _ (listY_ysG (fun M2 a2 ⟨hg2, h3'⟩ ag2 => ?_) _ _ _ h2' (ag1.put lt1 undef))
      unfold listY
      rw [if_pos (by unfold Region.wanted; rw [g2])]
      refine ⟨undef, ?_, ?_⟩
      · rw [giveY_in h2 (by simp)]
        refine ⟨rfl, fun w1 hw1 => ?_⟩
        rw [if_neg (Ne.symm hne')]; exact hg2.out a2 w1 ag2 hw1
      · rw [h2]
        exact listY_ysG (fun M3 _ h3 ag3 => ⟨M3, h3, ag3⟩) _ _ _ h3' (ag2.put lt2 undef)
  · rintro a' a1 w1 hw1 ⟨M3, h, ag⟩ hb hx
    obtain ⟨x1, hx1, hr1⟩ := hx d1 (by simp)
    obtain ⟨x2, hx2, hr2⟩ := hx d2 (by simp)
    rw [if_pos rfl] at hr1
    rw [if_neg (Ne.symm hne')] at hr2
    have ag1 : Agree N ((d2, x2) :: (d1, x1) :: M3) a1 := by
      refine ⟨by rw [hb.defers]; exact ag.defers, by rw [hb.size]; exact ag.size, fun i v hi => ?_⟩
      by_cases e2 : d2 = i
      · subst e2
        rw [look_same] at hi; cases hi; exact hx2
      · rw [look_other _ _ e2] at hi
        by_cases e : d1 = i
        · subst e
          rw [look_same] at hi; cases hi; exact hx1
        · rw [look_other _ _ e] at hi
          rw [hb.slot i (fun h => by
            rcases List.mem_cons.1 h with h | h
            · exact e h.symm
            · exact e2 (List.mem_singleton.1 h).symm)]
          exact ag.slot i v hi
    have h5 := (h x1 x2 w1 hw1 hr1 hr2).out a1 w1 ag1 (Ext.refl _)
    have mono : ∀ (l' : List Oper) (a : Act) (w0 : World), wpList P l.toArray (fun e a' w'' => e = .normal ∧ ∃ m' w1, Q .normal m' w1 ∧ Agree N m' a' ∧ Ext w1 w'') l' a w0 → wpList P l.toArray (fun e a w => e = .normal ∧ lift N Q .normal a w) l' a w0 := by
      intro l'
      induction l' with
      | nil => exact fun a w0 ⟨_, m', w1, q, ag, ex⟩ => ⟨rfl, m', w1, q, ag, ex⟩
      | cons o r ih =>
        intro a w0 h6
        unfold wpList at h6 ⊢
        split
        · rename_i hwn
          rw [if_pos hwn] at h6
          rcases h6 with h6 | h6
          · exact .inl (wp_normal (fun a1 w1 hh => ih a1 w1 hh) h6)
          · obtain ⟨_, _, _, h7, _⟩ := h6; cases h7
        · rename_i hwn
          rw [if_neg hwn] at h6
          exact ih _ _ h6
    exact mono _ _ _ h5
end
end Go.Proofs.Ytkdjbddjblahkaa

/-
  As XVGive, where an operation that gives may look at the values of others that it comes after.
  No conditions beyond those that each rule states.
-/
namespace Go.Proofs.Ytkdjbddjblahkaa
open Go.RowKit

section
variable {P : Program} {md : Region.Mode} {ops : Array Oper}
/-- The operation gives, whatever the frame is, if what it looks at has been given. -/
def LateD (P : Program) (w0 : World) (D : List Nat) (R : Nat → Value → World → Prop) (ops : Array Oper) (o : Oper) (d : Nat) : Prop :=
  ∀ (a1 : Act) (w' : World), Ext w0 w' → (∀ d2 ∈ D, d2 ∈ o.looksAt ops → ∃ x, a1.tmps[d2]? = some x ∧ R d2 x w') → Giver P (execOp a1.eval o) w' (R d)
def gwY (P : Program) (w0 : World) (D : List Nat) (R : Nat → Value → World → Prop) (ops : Array Oper) (o : Oper) (a : Act) (v : Value) : Prop :=
  match o.dst with
  | some d => if D.contains d = true then v = undef ∧ ((LateG P w0 (R d) o a ∧ ∀ d ∈ D, d ∉ o.looksAt ops) ∨ LateD P w0 D R ops o d) else yC P (Ext w0) o a v
  | none => yC P (Ext w0) o a v
theorem gwY_in {P : Program} {w0 : World} {D : List Nat} {R : Nat → Value → World → Prop} {o : Oper} {a : Act} {v : Value} {d : Nat} (hd : o.dst = some d) (hD : D.contains d = true) : gwY P w0 D R ops o a v = (v = undef ∧ ((LateG P w0 (R d) o a ∧ ∀ d ∈ D, d ∉ o.looksAt ops) ∨ LateD P w0 D R ops o d)) := by
  unfold gwY; rw [hd]; simp only; rw [if_pos hD]
theorem gwY_out {P : Program} {w0 : World} {D : List Nat} {R : Nat → Value → World → Prop} {o : Oper} {a : Act} {v : Value} (hd : ∀ d, o.dst = some d → D.contains d = false) : gwY P w0 D R ops o a v = yC P (Ext w0) o a v := by
  unfold gwY
  cases hdst : o.dst with
  | none => rfl
  | some d => simp only; rw [if_neg (by rw [hd d hdst]; decide)]
theorem same_gwY (P : Program) (w0 : World) (D : List Nat) (R : Nat → Value → World → Prop) (ops : Array Oper) : Same (gwY P w0 D R ops) := fun o a a' v he h => by
  by_cases hd : ∃ d, o.dst = some d ∧ D.contains d = true
  · obtain ⟨d, h1, h2⟩ := hd
    rw [gwY_in h1 h2] at h ⊢
    refine ⟨h.1, h.2.imp (fun h => ⟨fun w' hw' => ?_, h.2⟩) id⟩
    rw [he]; exact h.1 w' hw'
  · have h1 : ∀ d, o.dst = some d → D.contains d = false := fun d h2 => by
      cases hc : D.contains d with
      | false => rfl
      | true => exact absurd ⟨d, h2, hc⟩ hd
    rw [gwY_out h1] at h ⊢
    intro w' hw'
    have := h w' hw'
    unfold Oper.quietAt at *
    rwa [he]

theorem giw_any {n s : Nat} {D : List Nat} (early : Nat → Bool) {Q1 : Act → Prop} {Q : Exit → Act → World → Prop} {w0 : World} {R : Nat → Value → World → Prop} {pre : Array Oper} (hR : ∀ d x w w', Ext w w' → R d x w → R d x w') (hn : n ≤ ops.size) (hP : ∀ i o, i < n → ops[i]? = some o → pre[i]? = some o)
    (hA : ∀ i, n ≤ i → i < ops.size → ∀ j, j < n → early j = true ∨ reach ops md 9 i j = true)
    (hE : ∀ i o, ops[i]? = some o → i < n → ∀ e ∈ o.after, e.on < i)
    (hG : ∀ i o, ops[i]? = some o → i < n → ∀ g, o.guard = some g → g.1 < n ∧ ∀ o', ops[g.1]? = some o' → ∀ d ∈ D, o'.dst ≠ some d)
    (hsel : ∀ (j : Nat) (o : Oper) cs b, ops[j]? = some o → j < n → o.op ≠ .select cs b)
    (hD : ∀ i o, ops[i]? = some o → i < n → (∀ d ∈ D, o.dst ≠ some d) → ∀ d ∈ D, d ∉ o.looksAt ops)
    (hL : ∀ i o, ops[i]? = some o → i < n → ∀ d ∈ D, d ∈ o.looksAt ops → ∃ j oj, j < n ∧ ops[j]? = some oj ∧ oj.dst = some d ∧ reach ops md 9 i j = true)
    (hg0 : ∀ i o, ops[i]? = some o → i < n → ∀ d ∈ D, o.dst = some d → o.guard = none)
    (hin : ∀ d ∈ D, ∃ i o, i < n ∧ ops[i]? = some o ∧ o.dst = some d)
    (last : ∀ a' a w, Ext w0 w → Q1 a' → But D a' a → (∀ d ∈ D, ∃ x, a.tmps[d]? = some x ∧ R d x w) → wpAny P md ops Q s (upto ops.size n) a w) :
    ∀ (f : Nat) (L L' : Array Bool) (a' a : Act) (w : World), Ext w0 w → L'.size = n → L.size = ops.size → (∀ j, j < n → L[j]? = L'[j]?) → (∀ j, n ≤ j → j < ops.size → L[j]? = some false) → cnt n L' = f →
      (∀ j, j < n → early j = true → L[j]? = some true) → Closed ops md L → But D a' a → (∀ d ∈ D, d < a.tmps.size) → (∀ d ∈ D, (∃ i o, L[i]? = some true ∧ i < n ∧ ops[i]? = some o ∧ o.dst = some d) → ∃ x, a.tmps[d]? = some x ∧ R d x w) →
      anyY md pre (gwY P w0 D R ops) Q1 f L' a' → wpAny P md ops Q (f + s) L a w := by
  intro f
  induction f with
  | zero =>
    intro L L' a' a w hC hs' hs h1 h2 hc hea hcl hbut hDs hm h
    have hlist : ∀ j, j < n → L[j]? = some true := fun j hj => by
      rw [h1 j hj]
      have := List.countP_eq_zero.1 hc j (List.mem_range.2 hj)
      have hlt : j < L'.size := by omega
      simp [hlt] at this
      simp [hlt, this]
    have hL : L = upto ops.size n := by
      refine Array.ext_getElem? fun j => ?_
      rcases Nat.lt_or_ge j ops.size with hj | hj
      · rw [upto_get _ _ _ hj]
        rcases Nat.lt_or_ge j n with hjn | hjn
        · rw [hlist j hjn]; simp [hjn]
        · rw [h2 j hjn hj]; simp; omega
      · rw [Array.getElem?_eq_none (by omega), Array.getElem?_eq_none (by rw [upto_size]; omega)]
    rw [Nat.zero_add]
    rw [hL]
    refine last a' a w hC h.2 hbut fun d hd => ?_
    obtain ⟨i, o, hi, ho, hd2⟩ := hin d hd
    exact hm d hd ⟨i, o, hlist i hi, hi, ho, hd2⟩
  | succ f ih =>
    intro L L' a' a w hC hs' hs h1 h2 hc hea hcl hbut hDs hm h
    rw [Nat.succ_add]
    have un : ∃ j, j < n ∧ L'[j]? = some false ∧ ∀ k, k < j → L'[k]? = some true := by
      have hpos : 0 < cnt n L' := by omega
      obtain ⟨j, hj, hjf⟩ := List.countP_pos_iff.1 hpos
      have hjn := List.mem_range.1 hj
      have hjl : j < L'.size := by omega
      have hjf' : L'[j]? = some false := by simp [hjl] at hjf ⊢; exact hjf
      clear hj hjf hjl
      induction j using Nat.strongRecOn with
      | ind j ihj =>
        by_cases hall : ∀ k, k < j → L'[k]? = some true
        · exact ⟨j, hjn, hjf', hall⟩
        · obtain ⟨k, hk⟩ := Classical.not_forall.1 hall
          obtain ⟨hkj, hk⟩ := Classical.not_imp.1 hk
          have hkl : k < L'.size := by omega
          refine ihj k hkj (by omega) ?_
          rw [Array.getElem?_eq_getElem hkl] at hk ⊢
          cases hb : L'[k] with
          | true => rw [hb] at hk; exact absurd rfl hk
          | false => rfl
    obtain ⟨j0, hj0, hjf, hbelow⟩ := un
    have on_lt : ∀ {i : Nat} {o : Oper} {e : Edge}, ops[i]? = some o → i < n → e ∈ o.after → L.getD e.on false = L'.getD e.on false := fun ho hi he => by
      have h4 := hE _ _ ho hi _ he
      rename_i i0 o0 e0
      have h3 := h1 e0.on (by omega)
      rw [Array.getD_eq_getD_getElem?, Array.getD_eq_getD_getElem?, h3]
    have lt_n : ∀ i, i ∈ Region.ready md ops L → i < n := fun i hi => by
      obtain ⟨_, o, ho, hall⟩ := mem_ready.1 hi
      rcases Nat.lt_or_ge i n with h3 | h3
      · exact h3
      · have hlt : i < ops.size := by
          rcases Nat.lt_or_ge i ops.size with h' | h'
          · exact h'
          · rw [Array.getElem?_eq_none h'] at ho; cases ho
        rcases hA i h3 hlt j0 hj0 with h4 | h4
        · have := hea j0 hj0 h4
          rw [h1 j0 hj0, hjf] at this; cases this
        · have := reach_listed hcl 9 i j0 (fun o' ho' => by obtain rfl := Option.some.inj (ho.symm.trans ho'); exact hall) h4
          rw [getD_of ((h1 j0 hj0).trans hjf)] at this
          cases this
    refine ⟨fun hr => ?_, fun i hi => ?_⟩
    · exfalso
      have hmem : j0 ∈ Region.ready md ops L := by
        have hlt : j0 < ops.size := by omega
        refine mem_ready.2 ⟨getD_of ((h1 j0 hj0).trans hjf) _, ops[j0], Array.getElem?_eq_getElem hlt, fun e he _ => ?_⟩
        have hlt' := hE j0 _ (Array.getElem?_eq_getElem hlt) hj0 e he
        exact getD_of ((h1 _ (by omega)).trans (hbelow _ hlt')) _
      rw [hr] at hmem; cases hmem
    · have hin' := lt_n i hi
      have hcl' := hcl.set hi
      obtain ⟨hun, o, ho, hall⟩ := mem_ready.1 hi
      have hpo : pre[i]? = some o := hP i o hin' ho
      have hun' : L'.getD i true = false := by
        have := h1 i hin'
        simp only [Array.getD_eq_getD_getElem?, ← this] at hun ⊢; exact hun
      have hi' : i ∈ Region.ready md pre L' := mem_ready.2 ⟨hun', o, hpo, fun e he hb => by rw [← on_lt ho hin' he]; exact hall e he hb⟩
      have hq := (stepY_iff hpo).1 (h.2 i hi')
      obtain ⟨v, hv, hK⟩ := hq
      have hset : ∀ j, j < n → (L.setIfInBounds i true)[j]? = (L'.setIfInBounds i true)[j]? := fun j hj => by
        by_cases e : i = j
        · subst e
          have hl1 : i < L.size := by omega
          have hl2 : i < L'.size := by omega
          simp [hl1, hl2]
        · rw [Array.getElem?_setIfInBounds_ne e, Array.getElem?_setIfInBounds_ne e]; exact h1 j hj
      have hset2 : ∀ j, n ≤ j → j < ops.size → (L.setIfInBounds i true)[j]? = some false := fun j hj hjs => by
        rw [Array.getElem?_setIfInBounds_ne (by omega)]; exact h2 j hj hjs
      have hea' : ∀ j, j < n → early j = true → (L.setIfInBounds i true)[j]? = some true := fun j hj he => by
        by_cases e : i = j
        · subst e
          have hl1 : i < L.size := by omega
          simp [hl1]
        · rw [Array.getElem?_setIfInBounds_ne e]; exact hea j hj he
      have hc' : cnt n (L'.setIfInBounds i true) = f := by have := cnt_set n L' i hin' hun'; omega
      have old : ∀ k, (L.setIfInBounds i true)[k]? = some true → k ≠ i → L[k]? = some true := fun k hk hki => by
        rwa [Array.getElem?_setIfInBounds_ne (Ne.symm hki)] at hk
      unfold wpOp
      simp only [ho]
      by_cases hdo : ∃ d, o.dst = some d ∧ D.contains d = true
      · obtain ⟨d, hdo, hdc⟩ := hdo
        have hdD : d ∈ D := by simpa using hdc
        have hgn := hg0 i o ho hin' d hdD hdo
        have hwt : ∀ y, Region.wanted o y = true := fun y => by unfold Region.wanted; rw [hgn]
        rw [if_pos (hwt _)]
        rcases hv with ⟨_, hy⟩ | ⟨hwn, _⟩
        · rw [gwY_in hdo hdc] at hy
          obtain ⟨rfl, hl⟩ := hy
          have cont : ∀ x w'', Ext w w'' → R d x w'' → wpAny P md ops Q (f + s) (L.setIfInBounds i true) (a.put o.dst x) w'' := fun x w'' hCw hRx => by
            rw [hdo] at hK ⊢
            have hb2 : But D (a'.put (some d) undef) (a.put (some d) x) := by
              refine ⟨hbut.defers, by simp [Act.put, hbut.size], fun k hk => ?_⟩
              have hne : d ≠ k := fun e => hk (by rw [← e]; exact hdD)
              simp only [Act.put]
              rw [Array.getElem?_setIfInBounds_ne hne, Array.getElem?_setIfInBounds_ne hne]
              exact hbut.slot k hk
            refine ih _ _ _ _ w'' (hC.trans hCw) (by simpa using hs') (by simpa using hs) hset hset2 hc' hea' hcl' hb2 (fun d2 hd2 => by simp [Act.put, hDs d2 hd2]) (fun d2 hd2 ⟨k, ok, hk, hkn, hok, hkd⟩ => ?_) hK
            by_cases e : d2 = d
            · subst e; exact ⟨x, by simp [Act.put, hDs d2 hd2], hRx⟩
            · have hki : k ≠ i := fun e2 => by subst e2; obtain rfl := Option.some.inj (ho.symm.trans hok); rw [hdo] at hkd; cases hkd; exact e rfl
              obtain ⟨z, m1, m2⟩ := hm d2 hd2 ⟨k, ok, old k hk hki, hkn, hok, hkd⟩
              refine ⟨z, ?_, hR d2 z _ _ hCw m2⟩
              simp only [Act.put]
              rw [Array.getElem?_setIfInBounds_ne (fun e2 => e e2.symm)]; exact m1
          refine .inl ?_
          unfold Oper.wp
          have hgv : Giver P (execOp a.eval o) w (R d) := by
            rcases hl with ⟨hl, hno⟩ | hl
            · rw [hbut.exec o (fun cs b => hsel i o cs b ho hin') (fun x hx => hno x hx)]
              exact hl w hC
            · refine hl a w hC fun d2 hd2 hlk => ?_
              obtain ⟨j, oj, hjn, hoj, hjd, hre⟩ := hL i o ho hin' d2 hd2 hlk
              have hjl := reach_listed hcl 9 i j (fun o' ho' => by obtain rfl := Option.some.inj (ho.symm.trans ho'); exact hall) hre
              refine hm d2 hd2 ⟨j, oj, ?_, hjn, hoj, hjd⟩
              have hls : j < L.size := by omega
              rw [Array.getD_eq_getD_getElem?, Array.getElem?_eq_getElem hls] at hjl
              rw [Array.getElem?_eq_getElem hls]
              exact congrArg some hjl
          rcases hgv with ⟨x, w'', hrun, hCw, hRx⟩ | ⟨f', vs, hrun, hcall⟩
          · rw [hrun]
            exact cont x w'' hCw hRx
          · rw [hrun]
            refine Calls.mono hcall fun e w'' hg => ?_
            obtain ⟨x, rfl, hCw, hRx⟩ := hg
            exact cont x w'' hCw hRx
        · rw [hwt] at hwn; cases hwn
      · have hdn : ∀ d, o.dst = some d → D.contains d = false := fun d h2 => by
          cases hc : D.contains d with
          | false => rfl
          | true => exact absurd ⟨d, h2, hc⟩ hdo
        have hdn2 : ∀ d ∈ D, o.dst ≠ some d := fun d hd e => by
          have := hdn d e
          rw [List.contains_iff_mem.2 hd] at this; cases this
        have hex : execOp a.eval o = execOp a'.eval o := hbut.exec o (fun cs b => hsel i o cs b ho hin') (fun x hx => hD i o ho hin' hdn2 x hx)
        have hw : Region.wanted o (yielded pre a'.tmps) = Region.wanted o (yielded ops a.tmps) := by
          unfold Region.wanted
          cases hg : o.guard with
          | none => rfl
          | some gd =>
            obtain ⟨hg1, hg2⟩ := hG i o ho hin' gd hg
            have hlt : gd.1 < ops.size := by omega
            have hog := Array.getElem?_eq_getElem hlt
            have hpg := hP _ _ hg1 hog
            have hy : yielded pre a'.tmps gd.1 = yielded ops a.tmps gd.1 := by
              simp only [yielded, hpg, hog, Option.bind_some]
              cases hd : (ops[gd.1]'hlt).dst with
              | none => rfl
              | some d' =>
                have hdD : d' ∉ D := fun hdD => hg2 _ hog d' hdD hd
                simp only [Option.bind_some, hbut.slot d' hdD]
            simp only [hy]
        have made : ∀ u w'', Ext w w'' → ∀ d ∈ D, (∃ k o, (L.setIfInBounds i true)[k]? = some true ∧ k < n ∧ ops[k]? = some o ∧ o.dst = some d) → ∃ x, (a.put o.dst u).tmps[d]? = some x ∧ R d x w'' := fun u w'' hw'' d hd ⟨k, ok, hk, hkn, hok, hkd⟩ => by
          have hki : k ≠ i := fun e => by subst e; obtain rfl := Option.some.inj (ho.symm.trans hok); exact hdn2 d hd hkd
          obtain ⟨x, m1, m2⟩ := hm d hd ⟨k, ok, old k hk hki, hkn, hok, hkd⟩
          refine ⟨x, ?_, hR d x _ _ hw'' m2⟩
          cases hdst : o.dst with
          | none => exact m1
          | some y =>
            have : y ≠ d := fun e => hdn2 d hd (by rw [hdst, e])
            simp only [Act.put]
            rw [Array.getElem?_setIfInBounds_ne this]; exact m1
        have szP : ∀ u, ∀ d ∈ D, d < (a.put o.dst u).tmps.size := fun u d hd => by cases o.dst <;> simp [Act.put, hDs d hd]
        rcases hv with ⟨hwn, hy⟩ | ⟨hwn, hvu⟩
        · rw [gwY_out hdn] at hy
          rw [hw] at hwn
          rw [if_pos hwn]
          refine .inl (Oper.wp_of_quiet (C := fun w'' => Ext w w'') (K := fun x => x = a.put o.dst v) (Ext.refl w) (fun a1 w1 hw1 e => ?_) ?_)
          · subst e
            exact ih _ _ (a'.put o.dst v) _ w1 (hC.trans hw1) (by simpa using hs') (by simpa using hs) hset hset2 hc' hea' hcl' (hbut.put _ _) (szP v) (made v w1 hw1) hK
          · refine ⟨v, fun w1 hw1 => ?_, rfl⟩
            have hq1 := hy w1 (hC.trans hw1)
            unfold Oper.quietAt at hq1 ⊢
            rw [← hex] at hq1
            generalize (execOp a.eval o).run P w1 = r at *
            cases r with
            | ok nx w2 =>
              cases nx <;> simp only [Oper.quietUpon] at hq1 ⊢ <;> first | exact hq1 | exact ⟨hq1.1, hq1.2.mono fun e w3 h3 => ⟨h3.1, hw1.trans h3.2⟩⟩
            | halt x w2 => simp only [Oper.quietUpon] at hq1
        · rw [hw] at hwn
          rw [if_neg (by rw [hwn]; exact Bool.false_ne_true)]
          subst hvu
          exact ih _ _ (a'.put o.dst undef) _ w hC (by simpa using hs') (by simpa using hs) hset hset2 hc' hea' hcl' (hbut.put _ _) (szP _) (made undef w (Ext.refl w)) hK

/-- giveB, where givers may look at others that they come after. -/
def giwB (ops : Array Oper) (n : Nat) (D : List Nat) : Bool :=
  Nat.ble n ops.size && Region.noSelect ops && Region.lexB .any (ops.toList.take n).toArray &&
  (List.range ops.size).all (fun i => match ops[i]? with
    | none => true
    | some o => if Nat.ble (i + 1) n then (o.after.all fun e => Nat.ble (e.on + 1) i) &&
        (match o.guard with
          | none => true
          | some g => Nat.ble (g.1 + 1) n && (match ops[g.1]? with
            | none => true
            | some o' => D.all fun d => !(o'.dst == some d))) &&
        (if (match o.dst with | some d0 => D.contains d0 | none => false) then D.all fun d => !(o.looksAt ops).contains d || (List.range n).any fun j => (match ops[j]? with | some oj => oj.dst == some d | none => false) && reach ops .any 9 i j
          else D.all fun d => !(o.looksAt ops).contains d) &&
        (D.all fun d => if o.dst == some d then o.guard.isNone else true)
      else (List.range n).all fun j => reach ops .any 9 i j) &&
  (List.range ops.size).all (fun k => Nat.ble (k + 1) n || (match Region.ready .any ops (upto ops.size k) with
    | [k'] => Nat.beq k' k
    | _ => false)) &&
  (Region.ready .any ops (upto ops.size ops.size)).isEmpty &&
  D.all fun d => (List.range n).any (fun i => match ops[i]? with
    | some o => o.dst == some d
    | none => false)
theorem wp_giw {ro : Option Nat} {l : List Oper} {n id : Nat} {D : List Nat} {Q1 : Act → Prop} {Q : Exit → Act → World → Prop} {w0 w : World} {a : Act} {R : Nat → Value → World → Prop} (hR : ∀ d x w w', Ext w w' → R d x w → R d x w') (hnd : NoDef ro l) (hQ : ¬LetsOut Q) (hm : P.follows .mixedOrders = true) (hB : giwB l.toArray n D = true)
    (hd : ∀ d ∈ D, d < a.tmps.size) (hw : Ext w0 w)
    (h : listY (l.take n).toArray (gwY P w0 D R l.toArray) Q1 (l.take n) a)
    (last : ∀ a' a w, Ext w0 w → Q1 a' → But D a' a → (∀ d ∈ D, ∃ x, a.tmps[d]? = some x ∧ R d x w) → wpList P l.toArray Q (l.drop n) a w) :
    WpR ro P (.region id l.toArray true) Q a w := by
  simp only [giwB, Bool.and_eq_true] at hB
  obtain ⟨⟨⟨⟨⟨⟨b1, b0⟩, b2⟩, b3⟩, b4⟩, b5⟩, b6⟩ := hB
  have hn : n ≤ l.toArray.size := Nat.le_of_ble_eq_true b1
  have hnl : n ≤ l.length := by simpa using hn
  have at3 : ∀ i o, l.toArray[i]? = some o → _ := fun i o ho => by
    have hlt : i < l.toArray.size := by
      rcases Nat.lt_or_ge i l.toArray.size with h' | h'
      · exact h'
      · rw [Array.getElem?_eq_none h'] at ho; cases ho
    have := List.all_eq_true.1 b3 i (List.mem_range.2 hlt)
    simp only [ho] at this
    exact this
  have pre3 : ∀ i o, l.toArray[i]? = some o → i < n → _ := fun i o ho hi => by
    have := at3 i o ho
    rw [if_pos (Nat.ble_eq_true_of_le hi)] at this
    simp only [Bool.and_eq_true] at this
    exact this
  have hP : ∀ i o, i < n → l.toArray[i]? = some o → (l.take n).toArray[i]? = some o := fun i o hi ho => by
    have : l[i]? = some o := by simpa using ho
    simp [hi, this]
  have hE : ∀ i o, l.toArray[i]? = some o → i < n → ∀ e ∈ o.after, e.on < i := fun i o ho hi e he =>
    Nat.le_of_ble_eq_true (Array.all_eq_true_iff_forall_mem.1 (pre3 i o ho hi).1.1.1 e he)
  have hG : ∀ i o, l.toArray[i]? = some o → i < n → ∀ g, o.guard = some g → g.1 < n ∧ ∀ o', l.toArray[g.1]? = some o' → ∀ d ∈ D, o'.dst ≠ some d := fun i o ho hi g hg => by
    have h2 := (pre3 i o ho hi).1.1.2
    rw [hg] at h2
    simp only [Bool.and_eq_true] at h2
    refine ⟨Nat.le_of_ble_eq_true h2.1, fun o' ho' d hd => ?_⟩
    have h3 := h2.2
    rw [ho'] at h3
    have h4 := List.all_eq_true.1 h3 d hd
    simpa using h4
  have hD : ∀ i o, l.toArray[i]? = some o → i < n → (∀ d ∈ D, o.dst ≠ some d) → ∀ d ∈ D, d ∉ o.looksAt l.toArray := fun i o ho hi hnd d hd => by
    have h2 := (pre3 i o ho hi).1.2
    rw [if_neg (by
      cases hdst : o.dst with
      | none => exact Bool.false_ne_true
      | some d0 =>
        intro hc
        exact hnd d0 (by simpa using hc) hdst)] at h2
    have h2 := List.all_eq_true.1 h2 d hd
    simpa using h2
  have hL : ∀ i o, l.toArray[i]? = some o → i < n → ∀ d ∈ D, d ∈ o.looksAt l.toArray → ∃ j oj, j < n ∧ l.toArray[j]? = some oj ∧ oj.dst = some d ∧ reach l.toArray .any 9 i j = true := fun i o ho hi d hd hlk => by
    have h2 := (pre3 i o ho hi).1.2
    by_cases hc : (match o.dst with | some d0 => D.contains d0 | none => false) = true
    · rw [if_pos hc] at h2
      have h3 := List.all_eq_true.1 h2 d hd
      rw [Bool.or_eq_true] at h3
      rcases h3 with h3 | h3
      · exact absurd hlk (by simpa using h3)
      · obtain ⟨j, hj, h4⟩ := List.any_eq_true.1 h3
        rw [Bool.and_eq_true] at h4
        cases hoj : l.toArray[j]? with
        | none => rw [hoj] at h4; cases h4.1
        | some oj => rw [hoj] at h4; exact ⟨j, oj, List.mem_range.1 hj, hoj, by simpa using h4.1, h4.2⟩
    · rw [if_neg hc] at h2
      have h3 := List.all_eq_true.1 h2 d hd
      exact absurd hlk (by simpa using h3)
  have hlate : ∀ i o, l.toArray[i]? = some o → i < n → ∀ d ∈ D, o.dst = some d → o.guard = none := fun i o ho hi d hd hdo => by
    have h2 := List.all_eq_true.1 (pre3 i o ho hi).2 d hd
    rw [if_pos (by rw [hdo]; simp)] at h2
    simpa using h2
  have hA : ∀ i, n ≤ i → i < l.toArray.size → ∀ j, j < n → (fun _ => false) j = true ∨ reach l.toArray .any 9 i j = true := fun i hi his j hj => by
    have := at3 i _ (Array.getElem?_eq_getElem his)
    rw [if_neg (fun hb => by have := Nat.le_of_ble_eq_true hb; omega)] at this
    exact .inr (List.all_eq_true.1 this j (List.mem_range.2 hj))
  have hr : ∀ k, n ≤ k → k < l.toArray.size → Region.ready .any l.toArray (upto l.toArray.size k) = [k] := fun k hk hks => by
    have := List.all_eq_true.1 b4 k (List.mem_range.2 hks)
    simp only [Bool.or_eq_true] at this
    rcases this with h' | h'
    · have := Nat.le_of_ble_eq_true h'; omega
    · split at h'
      · rename_i k' he
        rw [he, Nat.eq_of_beq_eq_true h']
      · cases h'
  have he : Region.ready .any l.toArray (upto l.toArray.size l.toArray.size) = [] := by simpa using b5
  have hex : ∀ d ∈ D, ∃ i o, i < n ∧ l.toArray[i]? = some o ∧ o.dst = some d := fun d hd => by
    obtain ⟨i, hi, h2⟩ := List.any_eq_true.1 (List.all_eq_true.1 b6 d hd)
    have hi' := List.mem_range.1 hi
    have hlt : i < l.toArray.size := by omega
    rw [Array.getElem?_eq_getElem hlt] at h2
    exact ⟨i, _, hi', Array.getElem?_eq_getElem hlt, by simpa using h2⟩
  simp only [Region.lexB, Bool.and_eq_true] at b2
  have hdl : (l.drop n).length = l.toArray.size - n := by simp
  have hlen : (l.take n).length = n := by simp; omega
  refine wpR_region_any (by simpa using hnd) hQ hm ?_
  have quiet := anyY_lex (md := .any) (same_gwY P w0 D R l.toArray) b2.1 (l.take n) 0 (Array.replicate (l.take n).toArray.size false) a (by simp) (by simpa using b2.2) h
  have key := giw_any (P := P) (md := .any) (ops := l.toArray) (pre := (l.take n).toArray) (n := n) (s := (l.drop n).length) (D := D) (fun _ => false) (Q := Q) (Q1 := Q1) (w0 := w0) (R := R)
    hR hn hP hA hE hG (fun j o cs b ho _ => Region.noSelect_spec b0 j o cs b ho) hD hL (fun i o ho hi d hd hdo => hlate i o ho hi d hd hdo) hex
    (fun a' a1 w1 hw1 q1 hb hmd => one_any hr he (l.drop n) n (Nat.le_refl _) (by rw [hdl]; omega) (fun j => by simp) a1 w1
      (last a' a1 w1 hw1 q1 hb hmd))
  have hall : ∀ k : Nat, (Array.replicate l.toArray.size false)[k]? ≠ some true := fun k hk => by
    simp only [Array.getElem?_replicate] at hk
    split at hk <;> simp at hk
  have hcnt : cnt n (Array.replicate (l.take n).toArray.size false) = (l.take n).length := by
    unfold cnt
    rw [List.countP_eq_length.2]
    · rw [hlen]; simp
    · intro j hj
      have := List.mem_range.1 hj
      have h2 : j < (l.take n).toArray.size := by simp; omega
      simp only [Array.getD_eq_getD_getElem?, Array.getElem?_replicate]
      rw [if_pos h2]; rfl
  have hsame : ∀ j, j < n → (Array.replicate l.toArray.size false)[j]? = (Array.replicate (l.take n).toArray.size false)[j]? := fun j hj => by
    have h1 : j < l.length := by omega
    have h2 : j < (l.take n).length := by omega
    simp only [Array.getElem?_replicate]
    rw [if_pos (by simpa using h1), if_pos (by simpa using h2)]
  have hclosed : Closed l.toArray .any (Array.replicate l.toArray.size false) := fun (k : Nat) o hk => by
    simp only [Array.getD_eq_getD_getElem?, Array.getElem?_replicate] at hk
    split at hk <;> simp at hk
  have e : (l.take n).length + (l.drop n).length = l.toArray.size := by rw [hlen, hdl]; omega
  have := key (l.take n).length (Array.replicate l.toArray.size false) (Array.replicate (l.take n).toArray.size false) a a { w with drawn := w.drawn + 1 } hw.draw (by simp; omega) (by simp)
    hsame (fun j _ hj => by simp only [Array.getElem?_replicate]; rw [if_pos hj]) hcnt (fun j _ h => by cases h) hclosed ⟨rfl, rfl, fun _ _ => rfl⟩ hd (fun d _ ⟨i, o, hi, _⟩ => absurd hi (hall i)) quiet
  rwa [e] at this

end


section
variable {P : Program} {N : Fr} {m : Env} {w : World}
/-- Operations without guards: pure ones, and givers. -/
def YsH (P : Program) (N : Fr) (w0 : World) (D : List Nat) (R : Nat → Value → World → Prop) (ops : Array Oper) (K : Env → Prop) : List Oper → Env → Prop
  | [], m => K m
  | o :: r, m => ∃ d' v, o.dst = some d' ∧ Nat.ble (d' + 1) N.n = true ∧ o.guard = none ∧ ((D.contains d' = false ∧ ∀ w, Ext w0 w → Yl P N m w o v) ∨ (D.contains d' = true ∧ v = undef ∧ ((Gvs P N m w0 o (R d') ∧ ∀ d ∈ D, d ∉ o.looksAt ops) ∨ LateD P w0 D R ops o d'))) ∧ YsH P N w0 D R ops K r ((d', v) :: m)
section
variable {D : List Nat} {R : Nat → Value → World → Prop} {ops : Array Oper} {K : Env → Prop}
theorem YsH.nil {l : List Oper} (hl : l = []) (h : K m) : YsH P N w D R ops K l m := by subst hl; exact h
theorem YsH.q {d' : Nat} {op : Op} {ty : TypeId} {pos : String} {after : Array Edge} {r : List Oper} {v : Value} (h2 : Nat.ble (d' + 1) N.n = true) (h3 : D.contains d' = false) (hq : Yl P N m w ⟨some d', op, ty, pos, after, none⟩ v)
    (h6 : YsH P N w D R ops K r ((d', v) :: m)) : YsH P N w D R ops K (⟨some d', op, ty, pos, after, none⟩ :: r) m := ⟨d', v, rfl, h2, rfl, .inl ⟨h3, fun _ he => hq.up he⟩, h6⟩
theorem YsH.g {d' : Nat} {op : Op} {ty : TypeId} {pos : String} {after : Array Edge} {r : List Oper} (h2 : Nat.ble (d' + 1) N.n = true) (h3 : D.contains d' = true) (hl : (D.all fun d => !((⟨some d', op, ty, pos, after, none⟩ : Oper).looksAt ops).contains d) = true) (hg : Gvs P N m w ⟨some d', op, ty, pos, after, none⟩ (R d'))
    (h6 : YsH P N w D R ops K r ((d', undef) :: m)) : YsH P N w D R ops K (⟨some d', op, ty, pos, after, none⟩ :: r) m :=
  ⟨d', undef, rfl, h2, rfl, .inr ⟨h3, rfl, .inl ⟨hg, fun d hd => by have := List.all_eq_true.1 hl d hd; simpa using this⟩⟩, h6⟩
theorem YsH.d {d' : Nat} {op : Op} {ty : TypeId} {pos : String} {after : Array Edge} {r : List Oper} (h2 : Nat.ble (d' + 1) N.n = true) (h3 : D.contains d' = true) (hg : LateD P w D R ops ⟨some d', op, ty, pos, after, none⟩ d')
    (h6 : YsH P N w D R ops K r ((d', undef) :: m)) : YsH P N w D R ops K (⟨some d', op, ty, pos, after, none⟩ :: r) m := ⟨d', undef, rfl, h2, rfl, .inr ⟨h3, rfl, .inr hg⟩, h6⟩
end
theorem listY_ysH {ops pre : Array Oper} {Q : Act → Prop} {w0 : World} {R : Nat → Value → World → Prop} {D : List Nat} {K : Env → Prop} (hQ : ∀ M a, K M → Agree N M a → Q a) : ∀ (l : List Oper) (m : Env) (a : Act), YsH P N w0 D R ops K l m → Agree N m a → listY pre (gwY P w0 D R ops) Q l a
  | [], m, a, h, ha => hQ m a h ha
  | o :: r, m, a, h, ha => by
    obtain ⟨d', v, h1, h2, h4, h5, h6⟩ := h
    unfold listY
    rw [if_pos (by unfold Region.wanted; rw [h4])]
    refine ⟨v, ?_, ?_⟩
    · rcases h5 with ⟨h3, h5⟩ | ⟨h3, rfl, h5⟩
      · rw [gwY_out (fun d hd => by rw [h1] at hd; cases hd; exact h3)]
        exact fun w' hw' => (h5 w' hw').out a w' ha (Ext.refl _)
      · rw [gwY_in h1 h3]
        exact ⟨rfl, h5.imp (fun h => ⟨fun w' hw' => h.1.out a w' ha hw', h.2⟩) id⟩
    · rw [h1]
      exact listY_ysH hQ r _ _ h6 (ha.put (Nat.le_of_ble_eq_true h2) v)
theorem Gvs.imp {o : Oper} {R R' : Value → World → Prop} (h : Gvs P N m w o R) (hi : ∀ v w', R v w' → R' v w') : Gvs P N m w o R' := ⟨fun a w' ha hw => by
  rcases h.out a w' ha hw with ⟨x, w'', h1, h2, h3⟩ | ⟨f, vs, h1, h2⟩
  · exact .inl ⟨x, w'', h1, h2, hi _ _ h3⟩
  · exact .inr ⟨f, vs, h1, h2.mono fun e w'' ⟨x, q1, q2, q3⟩ => ⟨x, q1, q2, hi _ _ q3⟩⟩⟩
theorem Gvs_lit {dst : Option Tmp} {t e : TypeId} {k : Nat} {ps : Array (Nat × Operand)} {pvs : List (Nat × Value)} {out zs : List Value} {z : Value} {n0 b0 : Nat} {ty : TypeId} {pos : String} {after : Array Edge} {g : Option (Nat × Bool)} [ht : TSlice P t e] [hs : TSize P e n0 b0] [hz : TZero P e z zs]
    (hx : evp m ps.toList = some pvs) [hp : TParts n0 0 pvs out] (hn : (Nat.ble 1 (k * n0) && Nat.ble (k * n0) 16777216 && Nat.beq pvs.length k) = true) : Gvs P N m w ⟨dst, .buildSlice t k ps, ty, pos, after, g⟩ (fun v w' => ∃ b, v = .slice (some ⟨b, 0, none⟩) k k ∧ w.heap.size ≤ b ∧ Blk w' b e out) :=
  ⟨fun _ w' ha hw => .inl ⟨_, _, run_lit ha hx hp hn w', (Ext.refl _).alloc _, w'.heap.size, rfl, hw.size, alloc_heap _ _⟩⟩
theorem LateD_call {D : List Nat} {R : Nat → Value → World → Prop} {ops : Array Oper} {d s : Nat} {f : FuncId} {ats : Array TypeId} {ty : TypeId} {pos : String} {after : Array Edge} [hf : TFun P f] (hD : D.contains s = true)
    (hc : ∀ x w', Ext w w' → R s x w' → Calls P f #[x] w' (Gives (R d) w')) : LateD P w D R ops ⟨some d, .call { callee := .value (.func f), args := #[.tmp s], argTypes := ats }, ty, pos, after, none⟩ d := fun a1 w' he hx => by
  obtain ⟨x, h1, h2⟩ := hx s (by simpa using hD) (by simp [Oper.looksAt, Op.operands, Call.operands])
  refine .inr ⟨f, #[x], ?_, hc x w' he h2⟩
  rw [execOp_call_go]
  have e : (#[Operand.tmp s].map a1.eval) = #[x] := by simp [Act.eval, h1]
  rw [e]
  simpa using hf.h #[x] w'
def Dset (N : Fr) (D : List Nat) : Bool := D.all fun d => Nat.ble (d + 1) N.n
/-- A frame whose slots of D are set. -/
def givn (D : List Nat) (X : Nat → Value) (m : Env) : Env := D.map (fun d => (d, X d)) ++ m
theorem agree_over {a' a : Act} {m : Env} {X : Nat → Value} : ∀ {D : List Nat}, Agree N m a' → (∀ d ∈ D, a.tmps[d]? = some (X d)) → a.defers = a'.defers → a.tmps.size = a'.tmps.size → (∀ i, i ∉ D → a.tmps[i]? = a'.tmps[i]?) → Agree N (givn D X m) a := fun {D} ha hX h1 h2 h3 => by
  refine ⟨by rw [h1]; exact ha.defers, by rw [h2]; exact ha.size, fun i v hi => ?_⟩
  by_cases hd : i ∈ D
  · rw [hX i hd]
    have : look (givn D X m) i = some (X i) := by
      unfold givn
      clear hX h3 hi
      induction D with
      | nil => cases hd
      | cons d D ih =>
        rw [List.map_cons, List.cons_append]
        by_cases e : d = i
        · subst e; exact look_same ..
        · rw [look_other _ _ e]
          exact ih ((List.mem_cons.1 hd).resolve_left (fun h => e h.symm))
    rw [this] at hi; exact hi
  · rw [h3 i hd]
    have : look (givn D X m) i = look m i := by
      unfold givn
      clear hX h3 hi
      induction D with
      | nil => rfl
      | cons d D ih =>
        rw [List.map_cons, List.cons_append, look_other _ _ (fun e => hd (by rw [e]; exact List.mem_cons_self))]
        exact ih (fun h => hd (List.mem_cons_of_mem _ h))
    rw [this] at hi; exact ha.slot i v hi
theorem V_givers (n : Nat) (D : List Nat) {Q : Exit → Env → World → Prop} {id : Nat} {l : List Oper} (R : Nat → Value → World → Prop) (hR : ∀ d x w w', Ext w w' → R d x w → R d x w')
    (hm : P.follows .mixedOrders = true) (hB : giwB l.toArray n D = true) (hd : Dset N D = true)
    (h : YsH P N w D R l.toArray (fun M => ∀ X w2, Ext w w2 → (∀ d ∈ D, R d (X d) w2) → Ops P N l.toArray false (fun m w => Q .normal m w) (l.drop n) (givn D X M) w2) (l.take n) m)
    (hnd : NoDef N.ro l := by first | exact .inl rfl | exact .inr (by kernel_rfl)) :
    V P N (.region id l.toArray true) Q m w := by
  refine ⟨fun a w' ha hw => wpR_mono (Q := fun e a w => e = .normal ∧ lift N Q .normal a w) (fun e a w ⟨h1, h2⟩ => by rw [h1]; exact h2) ?_⟩
  refine wp_giw (w0 := w) (D := D) (R := R) hR hnd noLet hm hB (fun d hdD => by
    rw [ha.size]; exact Nat.le_of_ble_eq_true (List.all_eq_true.1 hd d hdD)) hw (Q1 := fun a' => ∃ M, (∀ X w2, Ext w w2 → (∀ d ∈ D, R d (X d) w2) → Ops P N l.toArray false (fun m w => Q .normal m w) (l.drop n) (givn D X M) w2) ∧ Agree N M a') ?_ ?_
  · exact listY_ysH (fun M _ hM ag => ⟨M, hM, ag⟩) _ _ _ h ha
  · rintro a' a1 w1 hw1 ⟨M, hM, ag⟩ hb hx
    have hX : ∀ d ∈ D, a1.tmps[d]? = some ((a1.tmps[d]?).getD undef) ∧ R d ((a1.tmps[d]?).getD undef) w1 := fun d hdD => by
      obtain ⟨x, h1, h2⟩ := hx d hdD
      rw [h1]; exact ⟨rfl, h2⟩
    exact wpList_lift _ _ _ ((hM (fun d => (a1.tmps[d]?).getD undef) w1 hw1 (fun d hdD => (hX d hdD).2)).out a1 w1 (agree_over ag (fun d hdD => (hX d hdD).1) hb.defers hb.size hb.slot) (Ext.refl _))
end
end Go.Proofs.Ytkdjbddjblahkaa

/-
  Routes (layer 49): cmp.Or.
-/
namespace Go.Proofs.Ytkdjbddjblahkaa
open Go.RowKit

/-- The first that is not nothing. -/
def orL : List Int → Int
  | [] => 0
  | x :: r => if x = 0 then orL r else x
theorem orL_at : ∀ {L : List Int} {k : Nat} {x : Int}, (∀ j y, j < k → L[j]? = some y → y = 0) → L[k]? = some x → x ≠ 0 → orL L = x
  | [], _, _, _, h, _ => by simp at h
  | y :: L, 0, x, _, h, hx => by
    simp at h; subst h
    rw [orL, if_neg hx]
  | y :: L, k + 1, x, h0, h, hx => by
    rw [orL, if_pos (h0 0 y (Nat.succ_pos _) rfl)]
    exact orL_at (fun j z hj hz => h0 (j + 1) z (Nat.succ_lt_succ hj) (by simpa using hz)) (by simpa using h) hx
theorem orL_none : ∀ {L : List Int}, (∀ y ∈ L, y = 0) → orL L = 0
  | [], _ => rfl
  | y :: L, h => by rw [orL, if_pos (h y List.mem_cons_self)]; exact orL_none fun z hz => h z (List.mem_cons_of_mem _ hz)
set_option maxHeartbeats 1000000 in
theorem orA_v (a : Addr) (L : List Int) (n c : Nat) (w : World) (hn : n = L.length) (h64 : L.length ≤ 64) (hc : Cells w a (L.map fun x => Value.int .u32 x)) : Calls Try.prog 67 #[.slice (some a) n c] w (Ret (.int .u32 (orL L)) w) := by
  subst hn
  refine V_enter (vs := [_]) Try.func67 rfl Try.ntmps67 (Nat.le_of_ble_eq_true rfl) ?_
  repeat (first | refine Vx ?_ | (apply Ops_q; (case hon => exact Va); (case hd => rfl); (case hq => exact YlA)) | refine Vr ?_ | refine Vt ?_ | refine Vf ?_ | refine Vm ?_ | refine Ve ?_ | refine Vo ?_ | refine Vz ?_ | refine Vn ?_)
  refine V_loop (fun j : Nat => [(8, .int .i64 j), (7, .int .i64 L.length), (6, .slice (some a) L.length c), (3, .int .u32 0)]) (fun j w' => Ext w w' ∧ j ≤ L.length ∧ ∀ i y, i < j → L[i]? = some y → y = 0) (fun j => L.length - j) 0 (by repeat (first | exact trivial | refine ⟨rfl, ?_⟩)) ⟨Ext.refl _, Nat.zero_le _, fun i y h => absurd h (Nat.not_lt_zero _)⟩ ?_
  rintro j w1 ⟨e1, hj, hs⟩
  repeat (first | refine Vx ?_ | (apply Ops_q; (case hon => exact Va); (case hd => rfl); (case hq => exact YlA)) | refine Vr ?_ | refine Vt ?_ | refine Vf ?_ | refine Vm ?_ | refine Ve ?_ | refine Vo ?_ | refine Vz ?_ | refine Vn ?_)
  refine V_cond rfl (fun hg => ?_) (fun hg => ?_)
  · have hjl : j < L.length := by have := of_decide_eq_true hg; omega
    clear hg
    obtain ⟨x, hx⟩ : ∃ x, L[j]? = some x := ⟨_, List.getElem?_eq_getElem hjl⟩
    have q : w1.cell? (a.add (j * 1)) = some (.int .u32 x) := by rw [Nat.mul_one]; exact (hc.ext e1) j _ (by rw [List.getElem?_map, hx]; rfl)
    repeat (first | refine Vx ?_ | (apply Ops_q; (case hon => exact Va); (case hd => rfl); (case hq => exact YlA)) | refine Vr ?_ | refine Vt ?_ | refine Vf ?_ | refine Vm ?_ | refine Ve ?_ | refine Vo ?_ | refine Vz ?_ | refine Vn ?_)
    (apply Ops_q; (case hon => (exact Va)); (case hd => rfl); (case hq => exact Yl_indexS (j := j) rfl rfl (by omega)))
    repeat (first | refine Vx ?_ | (apply Ops_q; (case hon => exact Va); (case hd => rfl); (case hq => exact YlA)) | refine Vr ?_ | refine Vt ?_ | refine Vf ?_ | refine Vm ?_ | refine Ve ?_ | refine Vo ?_ | refine Vz ?_ | refine Vn ?_)
    by_cases t : x = 0
    · have d : (!decide (x = 0)) = false := by rw [decide_eq_true t]; rfl
      refine V_no rfl d ?_
      repeat (first | refine Vx ?_ | (apply Ops_q; (case hon => exact Va); (case hd => rfl); (case hq => exact YlA)) | refine Vr ?_ | refine Vt ?_ | refine Vf ?_ | refine Vm ?_ | refine Ve ?_ | refine Vo ?_ | refine Vz ?_ | refine Vn ?_)
      refine ⟨j + 1, (by repeat (first | exact trivial | refine ⟨rfl, ?_⟩)), ⟨e1, hjl, fun i y hi hy => ?_⟩, by omega⟩
      rcases Nat.lt_or_ge i j with h | h
      · exact hs i y h hy
      · obtain rfl : i = j := by omega
        rw [hx] at hy; cases hy; exact t
    · have d : (!decide (x = 0)) = true := by rw [decide_eq_false t]; rfl
      refine V_yes rfl d ?_
      repeat (first | refine Vx ?_ | (apply Ops_q; (case hon => exact Va); (case hd => rfl); (case hq => exact YlA)) | refine Vr ?_ | refine Vt ?_ | refine Vf ?_ | refine Vm ?_ | refine Ve ?_ | refine Vo ?_ | refine Vz ?_ | refine Vn ?_)
      refine ret1 (by first | exact .inl rfl | exact .inr rfl) rfl rfl ?_
      exact Ret_mk (by rw [orL_at hs hx t]) e1
  · obtain rfl : j = L.length := by have := of_decide_eq_false hg; omega
    repeat (first | refine Vx ?_ | (apply Ops_q; (case hon => exact Va); (case hd => rfl); (case hq => exact YlA)) | refine Vr ?_ | refine Vt ?_ | refine Vf ?_ | refine Vm ?_ | refine Ve ?_ | refine Vo ?_ | refine Vz ?_ | refine Vn ?_)
    refine ret1 (by first | exact .inl rfl | exact .inr rfl) rfl rfl ?_
    exact Ret_mk (by rw [orL_none fun y hy => by
      obtain ⟨i, hi, h⟩ := List.getElem_of_mem hy
      exact hs i y hi (by rw [List.getElem?_eq_getElem hi, h])]) e1
set_option maxHeartbeats 1000000 in
theorem orU_v (a : Addr) (L : List Int) (n c : Nat) (w : World) (hn : n = L.length) (h64 : L.length ≤ 64) (hc : Cells w a (L.map fun x => Value.int .u32 x)) : Calls Try.prog 68 #[.slice (some a) n c] w (Ret (.int .u32 (orL L)) w) := by
  subst hn
  refine V_enter (vs := [_]) Try.func68 rfl Try.ntmps68 (Nat.le_of_ble_eq_true rfl) ?_
  repeat (first | refine Vx ?_ | (apply Ops_q; (case hon => exact Va); (case hd => rfl); (case hq => exact YlA)) | refine Vr ?_ | refine Vt ?_ | refine Vf ?_ | refine Vm ?_ | refine Ve ?_ | refine Vo ?_ | refine Vz ?_ | refine Vn ?_)
  refine V_loop (fun j : Nat => [(8, .int .i64 j), (7, .int .i64 L.length), (6, .slice (some a) L.length c), (3, .int .u32 0)]) (fun j w' => Ext w w' ∧ j ≤ L.length ∧ ∀ i y, i < j → L[i]? = some y → y = 0) (fun j => L.length - j) 0 (by repeat (first | exact trivial | refine ⟨rfl, ?_⟩)) ⟨Ext.refl _, Nat.zero_le _, fun i y h => absurd h (Nat.not_lt_zero _)⟩ ?_
  rintro j w1 ⟨e1, hj, hs⟩
  repeat (first | refine Vx ?_ | (apply Ops_q; (case hon => exact Va); (case hd => rfl); (case hq => exact YlA)) | refine Vr ?_ | refine Vt ?_ | refine Vf ?_ | refine Vm ?_ | refine Ve ?_ | refine Vo ?_ | refine Vz ?_ | refine Vn ?_)
  refine V_cond rfl (fun hg => ?_) (fun hg => ?_)
  · have hjl : j < L.length := by have := of_decide_eq_true hg; omega
    clear hg
    obtain ⟨x, hx⟩ : ∃ x, L[j]? = some x := ⟨_, List.getElem?_eq_getElem hjl⟩
    have q : w1.cell? (a.add (j * 1)) = some (.int .u32 x) := by rw [Nat.mul_one]; exact (hc.ext e1) j _ (by rw [List.getElem?_map, hx]; rfl)
    repeat (first | refine Vx ?_ | (apply Ops_q; (case hon => exact Va); (case hd => rfl); (case hq => exact YlA)) | refine Vr ?_ | refine Vt ?_ | refine Vf ?_ | refine Vm ?_ | refine Ve ?_ | refine Vo ?_ | refine Vz ?_ | refine Vn ?_)
    (apply Ops_q; (case hon => (exact Va)); (case hd => rfl); (case hq => exact Yl_indexS (j := j) rfl rfl (by omega)))
    repeat (first | refine Vx ?_ | (apply Ops_q; (case hon => exact Va); (case hd => rfl); (case hq => exact YlA)) | refine Vr ?_ | refine Vt ?_ | refine Vf ?_ | refine Vm ?_ | refine Ve ?_ | refine Vo ?_ | refine Vz ?_ | refine Vn ?_)
    by_cases t : x = 0
    · have d : (!decide (x = 0)) = false := by rw [decide_eq_true t]; rfl
      refine V_no rfl d ?_
      repeat (first | refine Vx ?_ | (apply Ops_q; (case hon => exact Va); (case hd => rfl); (case hq => exact YlA)) | refine Vr ?_ | refine Vt ?_ | refine Vf ?_ | refine Vm ?_ | refine Ve ?_ | refine Vo ?_ | refine Vz ?_ | refine Vn ?_)
      refine ⟨j + 1, (by repeat (first | exact trivial | refine ⟨rfl, ?_⟩)), ⟨e1, hjl, fun i y hi hy => ?_⟩, by omega⟩
      rcases Nat.lt_or_ge i j with h | h
      · exact hs i y h hy
      · obtain rfl : i = j := by omega
        rw [hx] at hy; cases hy; exact t
    · have d : (!decide (x = 0)) = true := by rw [decide_eq_false t]; rfl
      refine V_yes rfl d ?_
      repeat (first | refine Vx ?_ | (apply Ops_q; (case hon => exact Va); (case hd => rfl); (case hq => exact YlA)) | refine Vr ?_ | refine Vt ?_ | refine Vf ?_ | refine Vm ?_ | refine Ve ?_ | refine Vo ?_ | refine Vz ?_ | refine Vn ?_)
      refine ret1 (by first | exact .inl rfl | exact .inr rfl) rfl rfl ?_
      exact Ret_mk (by rw [orL_at hs hx t]) e1
  · obtain rfl : j = L.length := by have := of_decide_eq_false hg; omega
    repeat (first | refine Vx ?_ | (apply Ops_q; (case hon => exact Va); (case hd => rfl); (case hq => exact YlA)) | refine Vr ?_ | refine Vt ?_ | refine Vf ?_ | refine Vm ?_ | refine Ve ?_ | refine Vo ?_ | refine Vz ?_ | refine Vn ?_)
    refine ret1 (by first | exact .inl rfl | exact .inr rfl) rfl rfl ?_
    exact Ret_mk (by rw [orL_none fun y hy => by
      obtain ⟨i, hi, h⟩ := List.getElem_of_mem hy
      exact hs i y hi (by rw [List.getElem?_eq_getElem hi, h])]) e1
set_option maxHeartbeats 1000000 in
theorem orI_v (a : Addr) (L : List Int) (n c : Nat) (w : World) (hn : n = L.length) (h64 : L.length ≤ 64) (hc : Cells w a (L.map fun x => Value.int .i64 x)) : Calls Try.prog 90 #[.slice (some a) n c] w (Ret (.int .i64 (orL L)) w) := by
  subst hn
  refine V_enter (vs := [_]) Try.func90 rfl Try.ntmps90 (Nat.le_of_ble_eq_true rfl) ?_
  repeat (first | refine Vx ?_ | (apply Ops_q; (case hon => exact Va); (case hd => rfl); (case hq => exact YlA)) | refine Vr ?_ | refine Vt ?_ | refine Vf ?_ | refine Vm ?_ | refine Ve ?_ | refine Vo ?_ | refine Vz ?_ | refine Vn ?_)
  refine V_loop (fun j : Nat => [(8, .int .i64 j), (7, .int .i64 L.length), (6, .slice (some a) L.length c), (3, .int .i64 0)]) (fun j w' => Ext w w' ∧ j ≤ L.length ∧ ∀ i y, i < j → L[i]? = some y → y = 0) (fun j => L.length - j) 0 (by repeat (first | exact trivial | refine ⟨rfl, ?_⟩)) ⟨Ext.refl _, Nat.zero_le _, fun i y h => absurd h (Nat.not_lt_zero _)⟩ ?_
  rintro j w1 ⟨e1, hj, hs⟩
  repeat (first | refine Vx ?_ | (apply Ops_q; (case hon => exact Va); (case hd => rfl); (case hq => exact YlA)) | refine Vr ?_ | refine Vt ?_ | refine Vf ?_ | refine Vm ?_ | refine Ve ?_ | refine Vo ?_ | refine Vz ?_ | refine Vn ?_)
  refine V_cond rfl (fun hg => ?_) (fun hg => ?_)
  · have hjl : j < L.length := by have := of_decide_eq_true hg; omega
    clear hg
    obtain ⟨x, hx⟩ : ∃ x, L[j]? = some x := ⟨_, List.getElem?_eq_getElem hjl⟩
    have q : w1.cell? (a.add (j * 1)) = some (.int .i64 x) := by rw [Nat.mul_one]; exact (hc.ext e1) j _ (by rw [List.getElem?_map, hx]; rfl)
    repeat (first | refine Vx ?_ | (apply Ops_q; (case hon => exact Va); (case hd => rfl); (case hq => exact YlA)) | refine Vr ?_ | refine Vt ?_ | refine Vf ?_ | refine Vm ?_ | refine Ve ?_ | refine Vo ?_ | refine Vz ?_ | refine Vn ?_)
    (apply Ops_q; (case hon => (exact Va)); (case hd => rfl); (case hq => exact Yl_indexS (j := j) rfl rfl (by omega)))
    repeat (first | refine Vx ?_ | (apply Ops_q; (case hon => exact Va); (case hd => rfl); (case hq => exact YlA)) | refine Vr ?_ | refine Vt ?_ | refine Vf ?_ | refine Vm ?_ | refine Ve ?_ | refine Vo ?_ | refine Vz ?_ | refine Vn ?_)
    by_cases t : x = 0
    · have d : (!decide (x = 0)) = false := by rw [decide_eq_true t]; rfl
      refine V_no rfl d ?_
      repeat (first | refine Vx ?_ | (apply Ops_q; (case hon => exact Va); (case hd => rfl); (case hq => exact YlA)) | refine Vr ?_ | refine Vt ?_ | refine Vf ?_ | refine Vm ?_ | refine Ve ?_ | refine Vo ?_ | refine Vz ?_ | refine Vn ?_)
      refine ⟨j + 1, (by repeat (first | exact trivial | refine ⟨rfl, ?_⟩)), ⟨e1, hjl, fun i y hi hy => ?_⟩, by omega⟩
      rcases Nat.lt_or_ge i j with h | h
      · exact hs i y h hy
      · obtain rfl : i = j := by omega
        rw [hx] at hy; cases hy; exact t
    · have d : (!decide (x = 0)) = true := by rw [decide_eq_false t]; rfl
      refine V_yes rfl d ?_
      repeat (first | refine Vx ?_ | (apply Ops_q; (case hon => exact Va); (case hd => rfl); (case hq => exact YlA)) | refine Vr ?_ | refine Vt ?_ | refine Vf ?_ | refine Vm ?_ | refine Ve ?_ | refine Vo ?_ | refine Vz ?_ | refine Vn ?_)
      refine ret1 (by first | exact .inl rfl | exact .inr rfl) rfl rfl ?_
      exact Ret_mk (by rw [orL_at hs hx t]) e1
  · obtain rfl : j = L.length := by have := of_decide_eq_false hg; omega
    repeat (first | refine Vx ?_ | (apply Ops_q; (case hon => exact Va); (case hd => rfl); (case hq => exact YlA)) | refine Vr ?_ | refine Vt ?_ | refine Vf ?_ | refine Vm ?_ | refine Ve ?_ | refine Vo ?_ | refine Vz ?_ | refine Vn ?_)
    refine ret1 (by first | exact .inl rfl | exact .inr rfl) rfl rfl ?_
    exact Ret_mk (by rw [orL_none fun y hy => by
      obtain ⟨i, hi, h⟩ := List.getElem_of_mem hy
      exact hs i y hi (by rw [List.getElem?_eq_getElem hi, h])]) e1
end Go.Proofs.Ytkdjbddjblahkaa

/-
  Routes (layer 49): what a hop resolves to.
  Conditions: addresses and routers are numbers of 32 bits; lists are not too long.
-/
namespace Go.Proofs.Ytkdjbddjblahkaa
open Go.RowKit

def Nh.good (h : Nh) : Prop := h.ok ∧ 0 ≤ h.weight ∧ h.weight ≤ 255
def Rt.good (r : Rt) : Prop := r.p.a < 4294967296 ∧ ∀ h ∈ r.hops, h.good
structure CbOk (cb : List Nh → List Nh) : Prop where
  len : ∀ L, (cb L).length ≤ 64
  good : ∀ L, (∀ x ∈ L, x.good) → ∀ x ∈ cb L, x.good
theorem orH_good {h x : Nh} (hh : h.good) (hx : x.good) : (orH h x).good := by
  obtain ⟨⟨h1, h2, h3⟩, h4, h5⟩ := hh
  obtain ⟨⟨x1, x2, x3⟩, x4, x5⟩ := hx
  refine ⟨⟨?_, ?_, x3⟩, ?_, ?_⟩
  · unfold orH; dsimp only; split <;> assumption
  · unfold orH; dsimp only; split <;> assumption
  · unfold orH; dsimp only; exact Int.le_min.2 ⟨Int.mul_nonneg x4 h4, by decide⟩
  · unfold orH; dsimp only; exact Int.min_le_right _ _
theorem hopS_good {V : List Rt} {f : Rt → Int × List Nh} {r : Rt} {h : Nh} (hf : ∀ s, s ∈ V → ∀ x ∈ (f s).2, x.good) (hr : r.p.a < 4294967296) (hh : h.good) : ∀ x ∈ (hopS V f r h).2, x.good := by
  unfold hopS
  split
  · intro x hx
    simp only [List.mem_singleton] at hx
    subst hx
    exact ⟨⟨hh.1.1, hh.1.2.1, hr⟩, hh.2⟩
  · split
    · intro x hx; cases hx
    · split
      · intro x hx; cases hx
      · split
        · intro x hx; cases hx
        · split
          · intro x hx; cases hx
          · rename_i s hs
            split
            · intro x hx; cases hx
            · split
              · intro x hx; cases hx
              · intro x hx
                obtain ⟨y, hy, rfl⟩ := List.mem_map.1 hx
                exact orH_good hh (hf s (List.mem_of_getElem? hs) y hy)
theorem rouF_good {cb : List Nh → List Nh} {V : List Rt} (hc : CbOk cb) (hV : ∀ r ∈ V, r.good) : ∀ (n : Nat) (r : Rt), r.good → ∀ x ∈ (rouF cb V n r).2, x.good
  | 0, _, _ => fun x hx => nomatch hx
  | n + 1, r, hr => by
    rw [rouF]
    unfold routeS
    split
    · intro x hx; cases hx
    · refine hc.good _ fun x hx => ?_
      obtain ⟨h, hh, hx⟩ := List.mem_flatMap.1 hx
      exact hopS_good (fun s hs => rouF_good hc hV n s (hV s hs)) hr.1 (hr.2 h hh) x hx
theorem badH_good {h : Nh} (ho : h.ok) (hb : ¬badH h) : h.good := by
  unfold badH at hb
  exact ⟨ho, by omega, by omega⟩
theorem Sv0.good {V : List Rt} {s : Sv} {w0 : World} (h : Sv0 V s w0) : ∀ r ∈ V, r.good := fun r hr => ⟨(h.rts.mem r hr).pa, fun x hx => badH_good ((h.rts.mem r hr).ok x hx) ((h.hops r hr).2 x hx)⟩
theorem orL2 (a b : Nat) : orL [(a : Int), (b : Int)] = ((if a = 0 then b else a : Nat) : Int) := by
  unfold orL orL orL
  by_cases h : a = 0
  · subst h
    by_cases h2 : b = 0
    · subst h2; rfl
    · rw [if_pos (by decide), if_neg (by omega), if_pos rfl]
  · rw [if_neg (by omega), if_neg h]
theorem arr_one {w : World} {b n0 : Nat} {t : TypeId} {cs : List Value} (h : Blk w b t cs) : Arr w n0 (some ⟨b, 0, none⟩) [cs] := fun k x hk => by
  cases k with
  | zero =>
    simp at hk; subst hk
    refine ⟨_, rfl, ?_⟩
    rw [Nat.zero_mul]
    exact h.cells
  | succ k => simp at hk
/-- What hop and route return. -/
def OutR (V : List Rt) (cb : List Nh → List Nh) (s : Sv) (X : Nat → Prop) (w0 : World) (o : Int × List Nh) (w : World) (v : Value) (w' : World) : Prop :=
  SvM V cb s X w0 w' ∧ ∃ ao c, v = .tuple #[.slice ao o.2.length c, .int .i64 o.1] ∧ Nhs w' ao o.2 ∧ o.2.length ≤ c ∧ (ao = none → c = 0) ∧ ∀ a, ao = some a → w.heap.size ≤ a.block ∧ a.block < w'.heap.size
section
variable {V : List Rt} {cb : List Nh → List Nh} {s : Sv} {X : Nat → Prop} {w0 w w' : World}
theorem OutR.nil (h : SvM V cb s X w0 w') (e : Int) : OutR V cb s X w0 (e, []) w (.tuple #[.slice none 0 0, .int .i64 e]) w' := ⟨h, none, 0, rfl, Arr.nil, Nat.le_refl _, fun _ => rfl, fun _ h => nomatch h⟩
theorem OutR.ext {o : Int × List Nh} {v : Value} {w1 : World} (h : OutR V cb s X w0 o w v w') (he : Ext w' w1) : OutR V cb s X w0 o w v w1 := by
  obtain ⟨h1, ao, c, h2, h3, h4, h5, h6⟩ := h
  exact ⟨h1.ext he, ao, c, h2, h3.ext he, h4, h5, fun a ha => ⟨(h6 a ha).1, Nat.lt_of_lt_of_le (h6 a ha).2 he.size⟩⟩
end
end Go.Proofs.Ytkdjbddjblahkaa

/-
  Routes (layer 49): the reference: equality of routes, the next route of a hop, membership.
  Conditions: addresses and routers are numbers of 32 bits; lists are not too long.
-/
namespace Go.Proofs.Ytkdjbddjblahkaa
open Go.RowKit

instance tcRt (x : Rt) : TCells x.val x.cells := ⟨rfl⟩
instance oaRt (x : Rt) : OneAll x.cells := ⟨rfl⟩
instance tlRt (x : Rt) : TLen x.cells 7 := ⟨rfl⟩
/-- An active list in memory. -/
structure VL (w : World) (ao : Option Addr) (V : List Rt) : Prop where
  rts : Rts w ao V
  dist : Dist V
  len : V.length ≤ 2000
  hops : ∀ r ∈ V, r.hops.length ≤ 64 ∧ ∀ h ∈ r.hops, ¬badH h
theorem VL.ext {w w' : World} {ao : Option Addr} {V : List Rt} (h : VL w ao V) (he : Ext w w') : VL w' ao V := ⟨h.rts.ext he, h.dist, h.len, h.hops⟩
theorem VL.good {w : World} {ao : Option Addr} {V : List Rt} (h : VL w ao V) : ∀ r ∈ V, r.good := fun r hr => ⟨(h.rts.mem r hr).pa, fun x hx => badH_good ((h.rts.mem r hr).ok x hx) ((h.hops r hr).2 x hx)⟩
theorem sam49_v (x r : Rt) (w : World) : Calls Try.prog 95 #[x.val, r.val] w (Ret (.bool (samR x r)) w) := by
  refine V_enter (vs := [_, _]) Try.func95 rfl Try.ntmps95 (Nat.le_of_ble_eq_true rfl) ?_
  repeat (first | refine Vx ?_ | (apply Ops_q; (case hon => exact Va); (case hd => rfl); (case hq => exact YlA)) | refine Vr ?_ | refine Vt ?_ | refine Vf ?_ | refine Vm ?_ | refine Ve ?_ | refine Vo ?_ | refine Vz ?_ | refine Vn ?_)
  (refine Ops_box (by exact Va) rfl rfl rfl ?_; intro w1 b2 n_b2; have k_b2 := n_b2.blk)
  repeat (first | refine Vx ?_ | (apply Ops_q; (case hon => exact Va); (case hd => rfl); (case hq => exact YlA)) | refine Vr ?_ | refine Vt ?_ | refine Vf ?_ | refine Vm ?_ | refine Ve ?_ | refine Vo ?_ | refine Vz ?_ | refine Vn ?_)
  (refine Ops_box (by exact Va) rfl rfl rfl ?_; intro w2 b3 n_b3; have k_b3 := n_b3.blk)
  replace k_b2 := k_b2.ext n_b3.ext
  have x2 := n_b2.ext.trans n_b3.ext
  clear n_b2 n_b3
  have q1 : Cells w2 ⟨b2, 0, none⟩ [.int .u32 x.p.a, .int .i64 x.p.n] := k_b2.part 0 2
  have q2 : Cells w2 ⟨b3, 0, none⟩ [.int .u32 r.p.a, .int .i64 r.p.n] := k_b3.part 0 2
  repeat (first | refine Vx ?_ | (apply Ops_q; (case hon => exact Va); (case hd => rfl); (case hq => exact YlA)) | refine Vr ?_ | refine Vt ?_ | refine Vf ?_ | refine Vm ?_ | refine Ve ?_ | refine Vo ?_ | refine Vz ?_ | refine Vn ?_)
  rw [eqPf_d]
  clear q1 q2
  by_cases t : x.p = r.p
  · have d : decide (x.p = r.p) = true := decide_eq_true t
    refine Ops_know rfl rfl d ?_
    repeat (first | refine Vx ?_ | (apply Ops_q; (case hon => exact Va); (case hd => rfl); (case hq => exact YlA)) | refine Vr ?_ | refine Vt ?_ | refine Vf ?_ | refine Vm ?_ | refine Ve ?_ | refine Vo ?_ | refine Vz ?_ | refine Vn ?_)
    refine ret1 (by first | exact .inl rfl | exact .inr rfl) rfl rfl ?_
    exact Ret_mk (by unfold samR; rw [d]; rfl) x2
  · have d : decide (x.p = r.p) = false := decide_eq_false t
    refine Ops_know rfl rfl d ?_
    repeat (first | refine Vx ?_ | (apply Ops_q; (case hon => exact Va); (case hd => rfl); (case hq => exact YlA)) | refine Vr ?_ | refine Vt ?_ | refine Vf ?_ | refine Vm ?_ | refine Ve ?_ | refine Vo ?_ | refine Vz ?_ | refine Vn ?_)
    refine ret1 (by first | exact .inl rfl | exact .inr rfl) rfl rfl ?_
    exact Ret_mk (by unfold samR; rw [d]; rfl) x2
/-- For hops that are not bad. -/
theorem nxI_neg {V : List Rt} {h : Nh} (hb : ¬badH h) (hi : h.iface < 0) : nxI V h = lg (fun r => false || !isV r) h.addr V := by
  unfold badH at hb
  have e : h.iface = -1 := by omega
  unfold nxI
  rw [if_pos e]
  rfl
theorem nxI_pos {V : List Rt} {h : Nh} (hi : 0 ≤ h.iface) : nxI V h = none := by unfold nxI; rw [if_neg (by omega)]
set_option maxHeartbeats 1000000 in
theorem next49_v {ao : Option Addr} {V : List Rt} (c : Nat) (h : Nh) (w : World) (hV : VL w ao V) (hh : h.ok) (hb : ¬badH h) :
    Calls Try.prog 77 #[.slice ao V.length c, h.val] w (Ret (.tuple #[(rtO V (nxI V h)).val, .bool (nxI V h).isSome]) w) := by
  have hlen := hV.len
  refine V_enter (vs := [_, _]) Try.func77 rfl Try.ntmps77 (Nat.le_of_ble_eq_true rfl) ?_
  repeat (first | refine Vx ?_ | (apply Ops_q; (case hon => exact Va); (case hd => rfl); (case hq => exact YlA)) | refine Vr ?_ | refine Vt ?_ | refine Vf ?_ | refine Vm ?_ | refine Ve ?_ | refine Vo ?_ | refine Vz ?_ | refine Vn ?_)
  (refine Ops_box (by exact Va) rfl rfl rfl ?_; intro w1 b3 n_b3; have k_b3 := n_b3.blk)
  have x1 := n_b3.ext
  clear n_b3
  repeat (first | refine Vx ?_ | (apply Ops_q; (case hon => exact Va); (case hd => rfl); (case hq => exact YlA)) | refine Vr ?_ | refine Vt ?_ | refine Vf ?_ | refine Vm ?_ | refine Ve ?_ | refine Vo ?_ | refine Vz ?_ | refine Vn ?_)
  (refine Ops_alloc (by exact Va) rfl ?_; intro w2 b4 n_b4; have k_b4 := n_b4.blk)
  have x2 := x1.trans n_b4.ext
  have g4 : w.heap.size ≤ b4 := Nat.le_trans x1.size n_b4.ge
  replace k_b3 := k_b3.ext n_b4.ext
  clear n_b4 x1
  repeat (first | refine Vx ?_ | (apply Ops_q; (case hon => exact Va); (case hd => rfl); (case hq => exact YlA)) | refine Vr ?_ | refine Vt ?_ | refine Vf ?_ | refine Vm ?_ | refine Ve ?_ | refine Vo ?_ | refine Vz ?_ | refine Vn ?_)
  by_cases t : 0 ≤ h.iface
  · have d : decide (0 ≤ h.iface) = true := decide_eq_true t
    refine V_yes rfl d ?_
    repeat (first | refine Vx ?_ | (apply Ops_q; (case hon => exact Va); (case hd => rfl); (case hq => exact YlA)) | refine Vr ?_ | refine Vt ?_ | refine Vf ?_ | refine Vm ?_ | refine Ve ?_ | refine Vo ?_ | refine Vz ?_ | refine Vn ?_)
    refine Ops_store (by exact Va) rfl rfl k_b4 (by first | rfl | exact OneAll.h) ?_
    intro w7 u7
    have x7 := u7.below x2 g4
    have k7 := u7.blk
    repeat (first | refine Vx ?_ | (apply Ops_q; (case hon => exact Va); (case hd => rfl); (case hq => exact YlA)) | refine Vr ?_ | refine Vt ?_ | refine Vf ?_ | refine Vm ?_ | refine Ve ?_ | refine Vo ?_ | refine Vz ?_ | refine Vn ?_)
    refine retR2 (.inl rfl) rfl (res_agg rfl k7.cells) (by rfl) ?_
    exact Ret_mk (by rw [nxI_pos t]; rfl) x7
  · have d : decide (0 ≤ h.iface) = false := decide_eq_false t
    refine V_no rfl d ?_
    rw [nxI_neg hb (by omega)]
    repeat (first | refine Vx ?_ | (apply Ops_q; (case hon => exact Va); (case hd => rfl); (case hq => exact YlA)) | refine Vr ?_ | refine Vt ?_ | refine Vf ?_ | refine Vm ?_ | refine Ve ?_ | refine Vo ?_ | refine Vz ?_ | refine Vn ?_)
    (apply Ops_q; (case hon => (exact Va)); (case hd => rfl); (case hq => exact Yl_call rfl (fun w_ e_ => longestR_v ao V c h.addr false w_ (hV.rts.ext (x2.trans e_)) (by omega) hh.1)))
    repeat (first | refine Vx ?_ | (apply Ops_q; (case hon => exact Va); (case hd => rfl); (case hq => exact YlA)) | refine Vr ?_ | refine Vt ?_ | refine Vf ?_ | refine Vm ?_ | refine Ve ?_ | refine Vo ?_ | refine Vz ?_ | refine Vn ?_)
    refine Ops_store (by exact Va) rfl rfl k_b4 (by first | rfl | exact OneAll.h) ?_
    intro w7 u7
    have x7 := u7.below x2 g4
    have k7 := u7.blk
    repeat (first | refine Vx ?_ | (apply Ops_q; (case hon => exact Va); (case hd => rfl); (case hq => exact YlA)) | refine Vr ?_ | refine Vt ?_ | refine Vf ?_ | refine Vm ?_ | refine Ve ?_ | refine Vo ?_ | refine Vz ?_ | refine Vn ?_)
    refine retR2 (.inl rfl) rfl (res_agg rfl k7.cells) (by rfl) ?_
    exact Ret_mk rfl x7
set_option maxHeartbeats 1000000 in
theorem contains49_v (ao : Option Addr) (L : List Rt) (n c : Nat) (r : Rt) (w : World) (hnl : n = L.length) (hL : Rts w ao L) (hn : L.length ≤ 4611686018427387904) :
    Calls Try.prog 104 #[.slice ao n c, r.val] w (Ret (.bool (L.any fun x => samR x r)) w) := by
  subst hnl
  refine V_enter (vs := [_, _]) Try.func104 rfl Try.ntmps104 (Nat.le_of_ble_eq_true rfl) ?_
  repeat (first | refine Vx ?_ | (apply Ops_q; (case hon => exact Va); (case hd => rfl); (case hq => exact YlA)) | refine Vr ?_ | refine Vt ?_ | refine Vf ?_ | refine Vm ?_ | refine Ve ?_ | refine Vo ?_ | refine Vz ?_ | refine Vn ?_)
  (refine Ops_box (by exact Va) rfl rfl rfl ?_; intro w0 b3 n_b3; have k_b3 := n_b3.blk)
  have x0 := n_b3.ext
  clear n_b3
  have kk3 := k_b3
  repeat (first | refine Vx ?_ | (apply Ops_q; (case hon => exact Va); (case hd => rfl); (case hq => exact YlA)) | refine Vr ?_ | refine Vt ?_ | refine Vf ?_ | refine Vm ?_ | refine Ve ?_ | refine Vo ?_ | refine Vz ?_ | refine Vn ?_)
  refine V_loop (fun j : Nat => [(9, .int .i64 j), (8, .int .i64 L.length), (7, .slice ao L.length c), (3, .pointer (some ⟨b3, 0, none⟩))]) (fun j w' => Ext w0 w' ∧ j ≤ L.length ∧ (L.take j).any (fun x => samR x r) = false) (fun j => L.length - j) 0 (by repeat (first | exact trivial | refine ⟨rfl, ?_⟩)) ⟨Ext.refl _, Nat.zero_le _, rfl⟩ ?_
  rintro j w1 ⟨e1, hj, hs⟩
  repeat (first | refine Vx ?_ | (apply Ops_q; (case hon => exact Va); (case hd => rfl); (case hq => exact YlA)) | refine Vr ?_ | refine Vt ?_ | refine Vf ?_ | refine Vm ?_ | refine Ve ?_ | refine Vo ?_ | refine Vz ?_ | refine Vn ?_)
  refine V_cond rfl (fun hg => ?_) (fun hg => ?_)
  · replace hg := of_decide_eq_true hg
    have hjl : j < L.length := by omega
    obtain ⟨x, hx⟩ : ∃ x, L[j]? = some x := ⟨_, List.getElem?_eq_getElem hjl⟩
    obtain ⟨ad, rfl, hc⟩ := hL.at hx
    have hc1 := hc.ext (x0.trans e1)
    have hmem : x ∈ L := List.mem_of_getElem? hx
    clear hc k_b3
    repeat (first | refine Vx ?_ | (apply Ops_q; (case hon => exact Va); (case hd => rfl); (case hq => exact YlA)) | refine Vr ?_ | refine Vt ?_ | refine Vf ?_ | refine Vm ?_ | refine Ve ?_ | refine Vo ?_ | refine Vz ?_ | refine Vn ?_)
    (apply Ops_q; (case hon => (exact Va)); (case hd => rfl); (case hq => exact Yl_indexS (j := j) rfl rfl (by omega)))
    repeat (first | refine Vx ?_ | (apply Ops_q; (case hon => exact Va); (case hd => rfl); (case hq => exact YlA)) | refine Vr ?_ | refine Vt ?_ | refine Vf ?_ | refine Vm ?_ | refine Ve ?_ | refine Vo ?_ | refine Vz ?_ | refine Vn ?_)
    (refine Ops_alloc (by exact Va) rfl ?_; intro w2 b6 n_b6; have k_b6 := n_b6.blk)
    repeat (first | refine Vx ?_ | (apply Ops_q; (case hon => exact Va); (case hd => rfl); (case hq => exact YlA)) | refine Vr ?_ | refine Vt ?_ | refine Vf ?_ | refine Vm ?_ | refine Ve ?_ | refine Vo ?_ | refine Vz ?_ | refine Vn ?_)
    (refine Ops_store (by exact Va) rfl rfl (by assumption) (by first | rfl | exact OneAll.h) ?_; intro w3 u_w3; have k_b6 := u_w3.blk)
    have e3 := u_w3.below (e1.trans n_b6.ext) (Nat.le_trans e1.size n_b6.ge)
    clear u_w3 n_b6 hc1
    have k3 := kk3.ext e3
    unfold Rt.cells at k3
    repeat (first | refine Vx ?_ | (apply Ops_q; (case hon => exact Va); (case hd => rfl); (case hq => exact YlA)) | refine Vr ?_ | refine Vt ?_ | refine Vf ?_ | refine Vm ?_ | refine Ve ?_ | refine Vo ?_ | refine Vz ?_ | refine Vn ?_)
    (apply Ops_q; (case hon => (exact Va)); (case hd => rfl); (case hq => exact Yl_call rfl (fun w_ e_ => sam49_v x r w_)))
    repeat (first | refine Vx ?_ | (apply Ops_q; (case hon => exact Va); (case hd => rfl); (case hq => exact YlA)) | refine Vr ?_ | refine Vt ?_ | refine Vf ?_ | refine Vm ?_ | refine Ve ?_ | refine Vo ?_ | refine Vz ?_ | refine Vn ?_)
    cases hb : samR x r with
    | true =>
      repeat (first | refine Vx ?_ | (apply Ops_q; (case hon => exact Va); (case hd => rfl); (case hq => exact YlA)) | refine Vr ?_ | refine Vt ?_ | refine Vf ?_ | refine Vm ?_ | refine Ve ?_ | refine Vo ?_ | refine Vz ?_ | refine Vn ?_)
      refine ret1 (by first | exact .inl rfl | exact .inr rfl) rfl rfl ?_
      exact Ret_mk (by rw [List.any_eq_true.2 ⟨x, hmem, hb⟩]) (x0.trans e3)
    | false =>
      repeat (first | refine Vx ?_ | (apply Ops_q; (case hon => exact Va); (case hd => rfl); (case hq => exact YlA)) | refine Vr ?_ | refine Vt ?_ | refine Vf ?_ | refine Vm ?_ | refine Ve ?_ | refine Vo ?_ | refine Vz ?_ | refine Vn ?_)
      exact ⟨j + 1, (by repeat (first | exact trivial | refine ⟨rfl, ?_⟩)), ⟨e3, hjl, by rw [List.take_add_one, hx, List.any_append, hs]; simp [hb]⟩, by omega⟩
  · obtain rfl : j = L.length := by have := of_decide_eq_false hg; omega
    rw [List.take_length] at hs
    repeat (first | refine Vx ?_ | (apply Ops_q; (case hon => exact Va); (case hd => rfl); (case hq => exact YlA)) | refine Vr ?_ | refine Vt ?_ | refine Vf ?_ | refine Vm ?_ | refine Ve ?_ | refine Vo ?_ | refine Vz ?_ | refine Vn ?_)
    refine ret1 (by first | exact .inl rfl | exact .inr rfl) rfl rfl ?_
    exact Ret_mk (by rw [hs]) (x0.trans e1)
end Go.Proofs.Ytkdjbddjblahkaa

/-
  Routes (layer 49): the reference's leads, loops.
  Conditions: addresses and routers are numbers of 32 bits; lists are not too long.
-/
namespace Go.Proofs.Ytkdjbddjblahkaa
open Go.RowKit

section
variable {P : Program} {N : Fr} {m : Env} {w : World} {ty : TypeId} {pos : String} {after : Array Edge} {g : Option (Nat × Bool)} {dst : Option Tmp}
def cutR (ao : Option Addr) (i c n0 : Nat) : Option Addr := if c = i then ao else ao.map (·.add (i * n0))
theorem Yl_sliceLr {t e : TypeId} {x y : Operand} {k : IntKind} {i c n0 b0 n : Nat} {ao : Option Addr} [ht : TSlice P t e] [hs : TSize P e n0 b0] (hx : ev m x = some (.slice ao n c)) (hy : ev m y = some (.int k (i : Int))) (hi : i ≤ n) (_ : n ≤ c) :
    Yl P N m w ⟨dst, .slice t x (some y) none none, ty, pos, after, g⟩ (.slice (cutR ao i c n0) (n - i) (c - i)) := by
  refine Yl_of_run fun ac w' ha _ => ?_
  obtain ⟨inf, h1, h2⟩ := Option.map_eq_some_iff.1 hs.h
  simp only [Prod.mk.injEq] at h2
  have he : P.elem t = e := by simp [Program.elem, ht.h]
  have hu : P.underlying t = some (.slice (P.elem t)) := by rw [he]; exact ht.h
  have := run_slice_l (P := P) w' t ao n c hu k i (by omega) (by omega)
  simp only [execOp, Option.map_none, Option.map_some, ha.ev hx, ha.ev hy]
  simp only [Sem.run_bind, run_sliceAt_slice w' t _ _ _ _ hu, this, sizeOf, typeInfo, he]
  simp [sliced, h1, h2.1, Result.andThen, cutR]
end
/-- The literal of one element, as a list of one's own. -/
theorem Own.lit1 {w : World} {base b n0 : Nat} {e : TypeId} {cs : List Value} (hB : Blk w b e cs) (hb : base ≤ b) (hl : cs.length = n0) : Own w base e n0 (.slice (some ⟨b, 0, none⟩) 1 1) [cs] :=
  by
  subst hl
  exact ⟨⟨by simp, .inr ⟨b, 1, cs.toArray, rfl, hb, hB, Nat.le_refl _, by decide, by simp, by simp⟩⟩, by simp⟩
/-! ### The queue -/
def atR (V : List Rt) (j : Nat) : Rt := rtO V (some j)
theorem atR_eq {V : List Rt} {j : Nat} {r : Rt} (h : V[j]? = some r) : atR V j = r := rtO_some h
theorem nodup_le : ∀ (n : Nat) {A : List Nat}, A.Nodup → (∀ x ∈ A, x < n) → A.length ≤ n
  | 0, A, _, h => by
    cases A with
    | nil => exact Nat.le_refl _
    | cons x A => exact absurd (h x List.mem_cons_self) (Nat.not_lt_zero _)
  | n + 1, A, hA, h => by
    by_cases hn : n ∈ A
    · have h1 := nodup_le n (A := A.erase n) (hA.erase n) (fun x hx => by
        have h2 := (List.Nodup.mem_erase_iff hA).1 hx
        have h3 := h x h2.2
        have h4 := h2.1
        omega)
      rw [List.length_erase_of_mem hn] at h1
      omega
    · exact Nat.le_trans (nodup_le n hA (fun x hx => by
        have h2 := h x hx
        have h3 : x ≠ n := fun e => hn (e ▸ hx)
        omega)) (Nat.le_succ n)
/-- i and what was found from it, A; the first k of them are done, and of the next one the hops of H. -/
structure Bfs (V : List Rt) (i : Nat) (to : Rt) (A : List Nat) (k : Nat) (H : List Nh) : Prop where
  nodup : A.Nodup
  rch : ∀ j ∈ A, Rch V i j
  no : ∀ j ∈ A, samR (atR V j) to = false
  done : ∀ p q, p < k → (i :: A)[p]? = some q → ∀ y ∈ kids V q, y ∈ A
  part : ∀ h ∈ H, ∀ y, nxI V h = some y → y ∈ A
section
variable {V : List Rt} {i k : Nat} {to : Rt} {A : List Nat} {H : List Nh}
theorem Bfs.start : Bfs V i to [] 0 [] := ⟨List.nodup_nil, (fun _ h => nomatch h), (fun _ h => nomatch h), (fun _ _ h => absurd h (Nat.not_lt_zero _)), (fun _ h => nomatch h)⟩
theorem Bfs.len (b : Bfs V i to A k H) : A.length ≤ V.length := nodup_le _ b.nodup fun x hx => (b.rch x hx).lt
theorem Bfs.stay {h : Nh} (b : Bfs V i to A k H) (hy : ∀ y, nxI V h = some y → y ∈ A) : Bfs V i to A k (H ++ [h]) :=
  ⟨b.nodup, b.rch, b.no, b.done, fun x hx y e => by
    rcases List.mem_append.1 hx with hx | hx
    · exact b.part x hx y e
    · simp at hx; subst hx; exact hy y e⟩
theorem Bfs.from_rch (b : Bfs V i to A k H) {q : Nat} (hq : (i :: A)[k]? = some q) {y : Nat} (hy : y ∈ kids V q) : Rch V i y := by
  rcases List.mem_cons.1 (List.mem_of_getElem? hq) with e | e
  · subst e; exact .one hy
  · exact (b.rch q e).snoc hy
theorem Bfs.add {h : Nh} {q y : Nat} {r : Rt} (b : Bfs V i to A k H) (hq : (i :: A)[k]? = some q) (hr : V[q]? = some r) (hh : h ∈ r.hops) (hy : nxI V h = some y) (hno : samR (atR V y) to = false) (hn : y ∉ A) : Bfs V i to (A ++ [y]) k (H ++ [h]) := by
  have hk : k < (i :: A).length := (List.getElem?_eq_some_iff.1 hq).1
  have hr2 := b.from_rch hq (kids_mem.2 ⟨r, h, hr, hh, hy⟩)
  refine ⟨?_, fun j hj => ?_, fun j hj => ?_, fun p q' hp hq' z hz => ?_, fun x hx z e => ?_⟩
  · refine List.nodup_append.2 ⟨b.nodup, List.nodup_cons.2 ⟨List.not_mem_nil, List.nodup_nil⟩, fun a ha c hc e => ?_⟩
    simp at hc; subst hc; subst e; exact hn ha
  · rcases List.mem_append.1 hj with hj | hj
    · exact b.rch j hj
    · simp at hj; subst hj; exact hr2
  · rcases List.mem_append.1 hj with hj | hj
    · exact b.no j hj
    · simp at hj; subst hj; exact hno
  · refine List.mem_append.2 (.inl (b.done p q' hp ?_ z hz))
    rw [← List.cons_append, List.getElem?_append_left (by omega)] at hq'
    exact hq'
  · rcases List.mem_append.1 hx with hx | hx
    · exact List.mem_append.2 (.inl (b.part x hx z e))
    · simp at hx; subst hx
      rw [hy] at e; cases e
      exact List.mem_append.2 (.inr List.mem_cons_self)
theorem Bfs.next {q : Nat} {r : Rt} (b : Bfs V i to A k r.hops) (hq : (i :: A)[k]? = some q) (hr : V[q]? = some r) : Bfs V i to A (k + 1) [] := by
  refine ⟨b.nodup, b.rch, b.no, fun p q' hp hq' z hz => ?_, fun _ h => nomatch h⟩
  rcases Nat.lt_or_ge p k with h | h
  · exact b.done p q' h hq' z hz
  · obtain rfl : p = k := by omega
    rw [hq] at hq'; cases hq'
    obtain ⟨r', h, e1, e2, e3⟩ := kids_mem.1 hz
    rw [hr] at e1; cases e1
    exact b.part h e2 z e3
theorem Bfs.all (b : Bfs V i to A k H) (hk : (i :: A).length ≤ k) {j : Nat} (h : Rch V i j) : j ∈ A := by
  refine h.closed (S := fun j => j ∈ A) (fun x hx => b.done 0 i (by simp at hk; omega) rfl x hx) (fun x hx y hy => ?_)
  obtain ⟨p, hp, e⟩ := List.getElem_of_mem hx
  exact b.done (p + 1) x (by simp at hk; omega) (by rw [List.getElem?_cons_succ, List.getElem?_eq_getElem hp, e]) y hy
end
/-- Route i leads to a route that is the same as another one. -/
def Ld (V : List Rt) (i : Nat) (to : Rt) : Prop := ∃ j, Rch V i j ∧ ∃ s, V[j]? = some s ∧ samR s to = true
open Classical in
noncomputable def ldB (V : List Rt) (i : Nat) (to : Rt) : Bool := decide (Ld V i to)
open Classical in
theorem ldB_yes {V : List Rt} {i : Nat} {to : Rt} (h : Ld V i to) : ldB V i to = true := decide_eq_true h
open Classical in
theorem ldB_no {V : List Rt} {i : Nat} {to : Rt} (h : ¬Ld V i to) : ldB V i to = false := decide_eq_false h
theorem loops_ld {V : List Rt} {i : Nat} {r ri : Rt} (hi : V[i]? = some ri) : loopsB V i r = (samR ri r || ldB V i r) := by
  cases h : samR ri r with
  | true => rw [Bool.true_or]; exact loopsB_yes ⟨i, .inl rfl, ri, hi, h⟩
  | false =>
    rw [Bool.false_or]
    by_cases h2 : Ld V i r
    · rw [ldB_yes h2]
      obtain ⟨j, h3, h4⟩ := h2
      exact loopsB_yes ⟨j, .inr h3, h4⟩
    · rw [ldB_no h2]
      refine loopsB_no ?_
      rintro ⟨j, rfl | h3, s, h4, h5⟩
      · rw [hi] at h4; cases h4; rw [h] at h5; cases h5
      · exact h2 ⟨j, h3, s, h4, h5⟩
/-- Whether a route is in the list, by what it is. -/
theorem any_sam {V : List Rt} {A : List Nat} {y : Nat} {r : Rt} (hD : Dist V) (hA : ∀ j ∈ A, j < V.length) (hr : V[y]? = some r) : ((A.map (atR V)).any fun x => samR x r) = decide (y ∈ A) := by
  by_cases h : y ∈ A
  · rw [decide_eq_true h]
    exact List.any_eq_true.2 ⟨atR V y, List.mem_map.2 ⟨y, h, rfl⟩, by rw [atR_eq hr]; exact samR_self r⟩
  · rw [decide_eq_false h]
    refine Bool.eq_false_iff.2 fun h2 => ?_
    obtain ⟨x, hx, h3⟩ := List.any_eq_true.1 h2
    obtain ⟨j, hj, rfl⟩ := List.mem_map.1 hx
    have hs : V[j]? = some (V[j]'(hA j hj)) := List.getElem?_eq_getElem (hA j hj)
    rw [atR_eq hs] at h3
    have := hD j y _ r hs hr (samR_iff.1 h3).1
    exact h (this ▸ hj)
def quR (V : List Rt) (i : Nat) (A : List Nat) : List Rt := (i :: A).map (atR V)
theorem quR_add (V : List Rt) (i : Nat) (A : List Nat) (y : Nat) : quR V i (A ++ [y]) = quR V i A ++ [atR V y] := by unfold quR; rw [← List.cons_append, List.map_append]; rfl
theorem quR_len (V : List Rt) (i : Nat) (A : List Nat) : (quR V i A).length = A.length + 1 := by unfold quR; rw [List.length_map, List.length_cons]
theorem quR_tail (V : List Rt) (i : Nat) (A : List Nat) : (quR V i A).drop 1 = A.map (atR V) := rfl
theorem rts_qu {w : World} {ao ao' : Option Addr} {V : List Rt} {A : List Nat} (hV : Rts w ao V) (h : Arr w 7 ao' ((A.map (atR V)).map Rt.cells)) : Rts w ao' (A.map (atR V)) := ⟨h, fun r hr => by
  obtain ⟨j, _, rfl⟩ := List.mem_map.1 hr
  exact rtO_mem hV (some j)⟩
theorem rts_tail {w : World} {ao : Option Addr} {c : Nat} {x : Rt} {L : List Rt} (h : Rts w ao (x :: L)) (hc : L.length + 1 ≤ c) : Rts w (cutR ao 1 c 7) L := by
  refine ⟨?_, fun r hr => h.mem r (List.mem_cons_of_mem _ hr)⟩
  unfold cutR
  split
  · have : L = [] := List.length_eq_zero_iff.1 (by omega)
    rw [this]; exact Arr.nil
  · intro k y hk
    obtain ⟨ad, rfl, h2⟩ := h.arr (k + 1) y (by simpa using hk)
    refine ⟨ad.add (1 * 7), rfl, ?_⟩
    rw [add_add, ← Nat.add_mul, Nat.add_comm 1 k]
    exact h2
set_option maxHeartbeats 4000000 in
theorem leads49_v {ao : Option Addr} {V : List Rt} (c i : Nat) (r to : Rt) (w : World) (hV : VL w ao V) (hr : V[i]? = some r) :
    Calls Try.prog 96 #[.slice ao V.length c, r.val, to.val] w (Ret (.bool (ldB V i to)) w) := by
  have hlen := hV.len
  have hil : i < V.length := (List.getElem?_eq_some_iff.1 hr).1
  refine V_enter (vs := [_, _, _]) Try.func96 rfl Try.ntmps96 (Nat.le_of_ble_eq_true rfl) ?_
  repeat (first | refine Vx ?_ | (apply Ops_q; (case hon => exact Va); (case hd => rfl); (case hq => exact YlA)) | refine Vr ?_ | refine Vt ?_ | refine Vf ?_ | refine Vm ?_ | refine Ve ?_ | refine Vo ?_ | refine Vz ?_ | refine Vn ?_)
  (refine Ops_box (by exact Va) rfl rfl rfl ?_; intro w1 b4 n_b4; have k_b4 := n_b4.blk)
  repeat (first | refine Vx ?_ | (apply Ops_q; (case hon => exact Va); (case hd => rfl); (case hq => exact YlA)) | refine Vr ?_ | refine Vt ?_ | refine Vf ?_ | refine Vm ?_ | refine Ve ?_ | refine Vo ?_ | refine Vz ?_ | refine Vn ?_)
  (refine Ops_box (by exact Va) rfl rfl rfl ?_; intro w2 b5 n_b5; have k_b5 := n_b5.blk)
  replace k_b4 := k_b4.ext n_b5.ext
  have x2 := n_b4.ext.trans n_b5.ext
  clear n_b4 n_b5
  repeat (first | refine Vx ?_ | (apply Ops_q; (case hon => exact Va); (case hd => rfl); (case hq => exact YlA)) | refine Vr ?_ | refine Vt ?_ | refine Vf ?_ | refine Vm ?_ | refine Ve ?_ | refine Vo ?_ | refine Vz ?_ | refine Vn ?_)
  (refine Ops_lit (by exact Va) rfl rfl rfl ?_; intro w3 bl n_bl; have k_bl := n_bl.blk)
  have x3 : Ext w2 w3 := n_bl.ext
  have o3 : Own w3 w2.heap.size 31 7 (.slice (some ⟨bl, 0, none⟩) 1 1) ((quR V i []).map Rt.cells) := by
    unfold quR; simp only [List.map_cons, List.map_nil]; rw [atR_eq hr]
    exact Own.lit1 k_bl n_bl.ge rfl
  clear n_bl k_bl k_b4
  have hV2 := hV.ext x2
  repeat (first | refine Vx ?_ | (apply Ops_q; (case hon => exact Va); (case hd => rfl); (case hq => exact YlA)) | refine Vr ?_ | refine Vt ?_ | refine Vf ?_ | refine Vm ?_ | refine Ve ?_ | refine Vo ?_ | refine Vz ?_ | refine Vn ?_)
  refine V_loop (fun z : Nat × List Nat × Value => [(8, .int .i64 z.1), (7, z.2.2), (5, .pointer (some ⟨b5, 0, none⟩)), (0, .slice ao V.length c)])
    (fun z w' => Ext w2 w' ∧ z.1 ≤ z.2.1.length + 1 ∧ Bfs V i to z.2.1 z.1 [] ∧ Own w' w2.heap.size 31 7 z.2.2 ((quR V i z.2.1).map Rt.cells)) (fun z => V.length + 1 - z.1) (0, [], .slice (some ⟨bl, 0, none⟩) 1 1)
    (by repeat (first | exact trivial | refine ⟨rfl, ?_⟩)) ⟨x3, Nat.zero_le _, Bfs.start, o3⟩ ?_
  clear o3 x3
  rintro ⟨k, A, v⟩ w4 ⟨x4, hk, hB, o4⟩
  dsimp only at hk hB o4 ⊢
  have hAl := hB.len
  obtain ⟨ao4, c4, rfl, hA4⟩ := o4.slice
  rw [List.length_map, quR_len] at o4 ⊢
  repeat (first | refine Vx ?_ | (apply Ops_q; (case hon => exact Va); (case hd => rfl); (case hq => exact YlA)) | refine Vr ?_ | refine Vt ?_ | refine Vf ?_ | refine Vm ?_ | refine Ve ?_ | refine Vo ?_ | refine Vz ?_ | refine Vn ?_)
  refine V_cond rfl (fun hg => ?_) (fun hg => ?_)
  · have hkl : k < A.length + 1 := by have := of_decide_eq_true hg; omega
    clear hg
    obtain ⟨q, hq⟩ : ∃ q, (i :: A)[k]? = some q := ⟨_, List.getElem?_eq_getElem (by rw [List.length_cons]; exact hkl)⟩
    obtain ⟨rq, hrq⟩ : ∃ s, V[q]? = some s := by
      rcases List.mem_cons.1 (List.mem_of_getElem? hq) with e | e
      · exact ⟨r, e ▸ hr⟩
      · exact ⟨_, List.getElem?_eq_getElem (hB.rch q e).lt⟩
    have hqm : (quR V i A)[k]? = some rq := by unfold quR; rw [List.getElem?_map, hq, Option.map_some, atR_eq hrq]
    obtain ⟨ad, rfl, hc⟩ := Rts.at (rts_qu (A := i :: A) (hV2.ext x4).rts hA4) hqm
    have rm := hV2.rts.mem rq (List.mem_of_getElem? hrq)
    have hh := hV.hops rq (List.mem_of_getElem? hrq)
    have q6 := hc 6 _ rfl
    clear hc hA4
    repeat (first | refine Vx ?_ | (apply Ops_q; (case hon => exact Va); (case hd => rfl); (case hq => exact YlA)) | refine Vr ?_ | refine Vt ?_ | refine Vf ?_ | refine Vm ?_ | refine Ve ?_ | refine Vo ?_ | refine Vz ?_ | refine Vn ?_)
    (apply Ops_q; (case hon => (exact Va)); (case hd => rfl); (case hq => exact Yl_indexS (j := k) rfl rfl (by omega)))
    repeat (first | refine Vx ?_ | (apply Ops_q; (case hon => exact Va); (case hd => rfl); (case hq => exact YlA)) | refine Vr ?_ | refine Vt ?_ | refine Vf ?_ | refine Vm ?_ | refine Ve ?_ | refine Vo ?_ | refine Vz ?_ | refine Vn ?_)
    clear q6
    refine V_loop (fun z : Nat × List Nat × Value => [(27, .int .i64 z.1), (26, .int .i64 rq.hops.length), (25, .slice rq.ao rq.hops.length rq.c), (7, z.2.2), (8, .int .i64 k), (5, .pointer (some ⟨b5, 0, none⟩)), (0, .slice ao V.length c)])
      (fun z w' => Ext w2 w' ∧ z.1 ≤ rq.hops.length ∧ (i :: z.2.1)[k]? = some q ∧ Bfs V i to z.2.1 k (rq.hops.take z.1) ∧ Own w' w2.heap.size 31 7 z.2.2 ((quR V i z.2.1).map Rt.cells)) (fun z => rq.hops.length - z.1) (0, A, .slice (some ad) (A.length + 1) c4)
      (by repeat (first | exact trivial | refine ⟨rfl, ?_⟩)) ⟨x4, Nat.zero_le _, hq, hB, o4⟩ ?_
    clear o4 x4 hB hkl hk hq hqm hAl
    rintro ⟨t, A, v⟩ w5 ⟨x5, ht, hq, hB, o5⟩
    dsimp only at ht hq hB o5 ⊢
    have hAl := hB.len
    repeat (first | refine Vx ?_ | (apply Ops_q; (case hon => exact Va); (case hd => rfl); (case hq => exact YlA)) | refine Vr ?_ | refine Vt ?_ | refine Vf ?_ | refine Vm ?_ | refine Ve ?_ | refine Vo ?_ | refine Vz ?_ | refine Vn ?_)
    refine V_cond rfl (fun hg => ?_) (fun hg => ?_)
    · have htl : t < rq.hops.length := by have := of_decide_eq_true hg; omega
      clear hg
      obtain ⟨x, hx⟩ : ∃ x, rq.hops[t]? = some x := ⟨_, List.getElem?_eq_getElem htl⟩
      have hxm := List.mem_of_getElem? hx
      have htk : rq.hops.take (t + 1) = rq.hops.take t ++ [x] := by rw [List.take_add_one, hx]; rfl
      obtain ⟨ah, eh, hch⟩ := (rm.hops.ext x5).at hx
      rw [eh]
      repeat (first | refine Vx ?_ | (apply Ops_q; (case hon => exact Va); (case hd => rfl); (case hq => exact YlA)) | refine Vr ?_ | refine Vt ?_ | refine Vf ?_ | refine Vm ?_ | refine Ve ?_ | refine Vo ?_ | refine Vz ?_ | refine Vn ?_)
      (apply Ops_q; (case hon => (exact Va)); (case hd => rfl); (case hq => exact Yl_indexS (j := t) rfl rfl (by omega)))
      repeat (first | refine Vx ?_ | (apply Ops_q; (case hon => exact Va); (case hd => rfl); (case hq => exact YlA)) | refine Vr ?_ | refine Vt ?_ | refine Vf ?_ | refine Vm ?_ | refine Ve ?_ | refine Vo ?_ | refine Vz ?_ | refine Vn ?_)
      (refine Ops_alloc (by exact Va) rfl ?_; intro w6 b10 n_b10; have k_b10 := n_b10.blk)
      repeat (first | refine Vx ?_ | (apply Ops_q; (case hon => exact Va); (case hd => rfl); (case hq => exact YlA)) | refine Vr ?_ | refine Vt ?_ | refine Vf ?_ | refine Vm ?_ | refine Ve ?_ | refine Vo ?_ | refine Vz ?_ | refine Vn ?_)
      (refine Ops_store (by exact Va) rfl rfl (by assumption) (by first | rfl | exact OneAll.h) ?_; intro w7 u_w7; have k_b10 := u_w7.blk)
      have y7 := u_w7.below n_b10.ext n_b10.ge
      have x7 := x5.trans y7
      have o7 := o5.ext y7
      clear u_w7 n_b10 hch o5
      repeat (first | refine Vx ?_ | (apply Ops_q; (case hon => exact Va); (case hd => rfl); (case hq => exact YlA)) | refine Vr ?_ | refine Vt ?_ | refine Vf ?_ | refine Vm ?_ | refine Ve ?_ | refine Vo ?_ | refine Vz ?_ | refine Vn ?_)
      (apply Ops_q; (case hon => (exact Va)); (case hd => rfl); (case hq => exact Yl_call rfl (fun w_ e_ => next49_v c x w_ (hV2.ext (x7.trans e_)) (rm.ok x hxm) (hh.2 x hxm))))
      clear k_b10
      repeat (first | refine Vx ?_ | (apply Ops_q; (case hon => exact Va); (case hd => rfl); (case hq => exact YlA)) | refine Vr ?_ | refine Vt ?_ | refine Vf ?_ | refine Vm ?_ | refine Ve ?_ | refine Vo ?_ | refine Vz ?_ | refine Vn ?_)
      (refine Ops_alloc (by exact Va) rfl ?_; intro w8 b11 n_b11; have k_b11 := n_b11.blk)
      repeat (first | refine Vx ?_ | (apply Ops_q; (case hon => exact Va); (case hd => rfl); (case hq => exact YlA)) | refine Vr ?_ | refine Vt ?_ | refine Vf ?_ | refine Vm ?_ | refine Ve ?_ | refine Vo ?_ | refine Vz ?_ | refine Vn ?_)
      (refine Ops_store (by exact Va) rfl rfl (by assumption) (by first | rfl | exact OneAll.h) ?_; intro w9 u_w9; have k_b11 := u_w9.blk)
      have y9 := u_w9.below n_b11.ext n_b11.ge
      have x9 := x7.trans y9
      have o9 := o7.ext y9
      clear u_w9 n_b11 o7
      repeat (first | refine Vx ?_ | (apply Ops_q; (case hon => exact Va); (case hd => rfl); (case hq => exact YlA)) | refine Vr ?_ | refine Vt ?_ | refine Vf ?_ | refine Vm ?_ | refine Ve ?_ | refine Vo ?_ | refine Vz ?_ | refine Vn ?_)
      cases hn : nxI V x with
      | none =>
        repeat (first | refine Vx ?_ | (apply Ops_q; (case hon => exact Va); (case hd => rfl); (case hq => exact YlA)) | refine Vr ?_ | refine Vt ?_ | refine Vf ?_ | refine Vm ?_ | refine Ve ?_ | refine Vo ?_ | refine Vz ?_ | refine Vn ?_)
        refine ⟨(t + 1, A, v), by rw [← eh]; exact (by repeat (first | exact trivial | refine ⟨rfl, ?_⟩)), ⟨x9, htl, hq, ?_, o9⟩, by simp only; omega⟩
        rw [htk]
        exact hB.stay fun y e => by rw [hn] at e; cases e
      | some y =>
        rw [hn] at k_b11
        have hyl := nxI_lt hn
        obtain ⟨ry, hry⟩ : ∃ s, V[y]? = some s := ⟨_, List.getElem?_eq_getElem hyl⟩
        rw [rtO_some hry] at k_b11
        have k59 := k_b5.ext x9
        repeat (first | refine Vx ?_ | (apply Ops_q; (case hon => exact Va); (case hd => rfl); (case hq => exact YlA)) | refine Vr ?_ | refine Vt ?_ | refine Vf ?_ | refine Vm ?_ | refine Ve ?_ | refine Vo ?_ | refine Vz ?_ | refine Vn ?_)
        (apply Ops_q; (case hon => (exact Va)); (case hd => rfl); (case hq => exact Yl_call rfl (fun w_ e_ => sam49_v ry to w_)))
        repeat (first | refine Vx ?_ | (apply Ops_q; (case hon => exact Va); (case hd => rfl); (case hq => exact YlA)) | refine Vr ?_ | refine Vt ?_ | refine Vf ?_ | refine Vm ?_ | refine Ve ?_ | refine Vo ?_ | refine Vz ?_ | refine Vn ?_)
        cases hs : samR ry to with
        | true =>
          repeat (first | refine Vx ?_ | (apply Ops_q; (case hon => exact Va); (case hd => rfl); (case hq => exact YlA)) | refine Vr ?_ | refine Vt ?_ | refine Vf ?_ | refine Vm ?_ | refine Ve ?_ | refine Vo ?_ | refine Vz ?_ | refine Vn ?_)
          refine ret1 (by first | exact .inl rfl | exact .inr rfl) rfl rfl ?_
          exact Ret_mk (by rw [ldB_yes ⟨y, hB.from_rch hq (kids_mem.2 ⟨rq, x, hrq, hxm, hn⟩), ry, hry, hs⟩]) (x2.trans x9)
        | false =>
          clear k59
          obtain ⟨ao9, c9, rfl, hA9, hc9, _⟩ := o9.slice2
          rw [List.length_map, quR_len] at o9 hc9 ⊢
          have hT := rts_tail (rts_qu (A := i :: A) (hV2.ext x9).rts hA9) (by rw [List.length_map]; exact hc9)
          have hany := any_sam (A := A) hV.dist (fun j hj => (hB.rch j hj).lt) hry
          clear hA9
          repeat (first | refine Vx ?_ | (apply Ops_q; (case hon => exact Va); (case hd => rfl); (case hq => exact YlA)) | refine Vr ?_ | refine Vt ?_ | refine Vf ?_ | refine Vm ?_ | refine Ve ?_ | refine Vo ?_ | refine Vz ?_ | refine Vn ?_)
          (apply Ops_q; (case hon => (exact Va)); (case hd => rfl); (case hq => exact Yl_sliceLr (i := 1) rfl rfl (by omega) hc9))
          repeat (first | refine Vx ?_ | (apply Ops_q; (case hon => exact Va); (case hd => rfl); (case hq => exact YlA)) | refine Vr ?_ | refine Vt ?_ | refine Vf ?_ | refine Vm ?_ | refine Ve ?_ | refine Vo ?_ | refine Vz ?_ | refine Vn ?_)
          (apply Ops_q; (case hon => (exact Va)); (case hd => rfl); (case hq => exact Yl_call rfl (fun w_ e_ => contains49_v _ (A.map (atR V)) (A.length + 1 - 1) (c9 - 1) ry w_ (by rw [List.length_map]; rfl) (hT.ext e_) (by rw [List.length_map]; omega))))
          rw [hany]
          repeat (first | refine Vx ?_ | (apply Ops_q; (case hon => exact Va); (case hd => rfl); (case hq => exact YlA)) | refine Vr ?_ | refine Vt ?_ | refine Vf ?_ | refine Vm ?_ | refine Ve ?_ | refine Vo ?_ | refine Vz ?_ | refine Vn ?_)
          by_cases hm : y ∈ A
          · have d : (!decide (y ∈ A)) = false := by rw [decide_eq_true hm]; rfl
            refine V_no rfl d ?_
            repeat (first | refine Vx ?_ | (apply Ops_q; (case hon => exact Va); (case hd => rfl); (case hq => exact YlA)) | refine Vr ?_ | refine Vt ?_ | refine Vf ?_ | refine Vm ?_ | refine Ve ?_ | refine Vo ?_ | refine Vz ?_ | refine Vn ?_)
            refine ⟨(t + 1, A, _), by rw [← eh]; exact (by repeat (first | exact trivial | refine ⟨rfl, ?_⟩)), ⟨x9, htl, hq, ?_, o9⟩, by simp only; omega⟩
            rw [htk]
            exact hB.stay fun z e => by rw [hn] at e; cases e; exact hm
          · have d : (!decide (y ∈ A)) = true := by rw [decide_eq_false hm]; rfl
            refine V_yes rfl d ?_
            have hB2 := hB.add hq hrq hxm hn (by rw [atR_eq hry]; exact hs) hm
            unfold Rt.cells at k_b11
            repeat (first | refine Vx ?_ | (apply Ops_q; (case hon => exact Va); (case hd => rfl); (case hq => exact YlA)) | refine Vr ?_ | refine Vt ?_ | refine Vf ?_ | refine Vm ?_ | refine Ve ?_ | refine Vo ?_ | refine Vz ?_ | refine Vn ?_)
            (refine Ops_lit (by exact Va) rfl rfl rfl ?_; intro w10 bn n_bn; have k_bn := n_bn.blk)
            have o10 := o9.ext n_bn.ext
            have x10 := x9.trans n_bn.ext
            have hcs : Cells w10 ⟨bn, 0, none⟩ ry.cells := n_bn.blk.cells
            repeat (first | refine Vx ?_ | (apply Ops_q; (case hon => exact Va); (case hd => rfl); (case hq => exact YlA)) | refine Vr ?_ | refine Vt ?_ | refine Vf ?_ | refine Vm ?_ | refine Ve ?_ | refine Vo ?_ | refine Vz ?_ | refine Vn ?_)
            refine Ops_append1 (u := ry.cells) (by exact Va) rfl rfl rfl rfl o10 hcs ⟨rfl⟩ ⟨rfl⟩ (by rw [List.length_map, quR_len]; omega) rfl x10.size ?_
            intro v' w11 o11 g11 d11
            have x11 : Ext w2 w11 := grow_below x10 g11 (fun b hb => o10.ge hb)
            rw [show [ry.cells] = [atR V y].map Rt.cells from by rw [atR_eq hry]; rfl, ← List.map_append, ← quR_add] at o11
            repeat (first | refine Vx ?_ | (apply Ops_q; (case hon => exact Va); (case hd => rfl); (case hq => exact YlA)) | refine Vr ?_ | refine Vt ?_ | refine Vf ?_ | refine Vm ?_ | refine Ve ?_ | refine Vo ?_ | refine Vz ?_ | refine Vn ?_)
            refine ⟨(t + 1, A ++ [y], v'), by rw [← eh]; exact (by repeat (first | exact trivial | refine ⟨rfl, ?_⟩)), ⟨x11, htl, ?_, ?_, o11⟩, by simp only; omega⟩
            · dsimp only
              rw [← List.cons_append, List.getElem?_append_left (List.getElem?_eq_some_iff.1 hq).1]; exact hq
            · dsimp only
              rw [htk]; exact hB2
    · obtain rfl : t = rq.hops.length := by have := of_decide_eq_false hg; omega
      rw [List.take_length] at hB
      have hk2 := (List.getElem?_eq_some_iff.1 hq).1
      rw [List.length_cons] at hk2
      have hB2 := hB.next hq hrq
      repeat (first | refine Vx ?_ | (apply Ops_q; (case hon => exact Va); (case hd => rfl); (case hq => exact YlA)) | refine Vr ?_ | refine Vt ?_ | refine Vf ?_ | refine Vm ?_ | refine Ve ?_ | refine Vo ?_ | refine Vz ?_ | refine Vn ?_)
      exact ⟨(k + 1, A, v), (by repeat (first | exact trivial | refine ⟨rfl, ?_⟩)), ⟨x5, by simp only; omega, hB2, o5⟩, by simp only; omega⟩
  · have hk3 : A.length + 1 ≤ k := by have := of_decide_eq_false hg; omega
    repeat (first | refine Vx ?_ | (apply Ops_q; (case hon => exact Va); (case hd => rfl); (case hq => exact YlA)) | refine Vr ?_ | refine Vt ?_ | refine Vf ?_ | refine Vm ?_ | refine Ve ?_ | refine Vo ?_ | refine Vz ?_ | refine Vn ?_)
    refine ret1 (by first | exact .inl rfl | exact .inr rfl) rfl rfl ?_
    refine Ret_mk ?_ (x2.trans x4)
    rw [ldB_no]
    rintro ⟨j, h1, s, h2, h3⟩
    have h4 := hB.no j (hB.all (by rw [List.length_cons]; exact hk3) h1)
    rw [atR_eq h2, h3] at h4
    cases h4
set_option maxHeartbeats 1000000 in
theorem loops49_v {ao : Option Addr} {V : List Rt} (c i : Nat) (r ri : Rt) (w : World) (hV : VL w ao V) (hr : V[i]? = some ri) :
    Calls Try.prog 78 #[.slice ao V.length c, r.val, ri.val] w (Ret (.bool (loopsB V i r)) w) := by
  rw [loops_ld hr]
  refine V_enter (vs := [_, _, _]) Try.func78 rfl Try.ntmps78 (Nat.le_of_ble_eq_true rfl) ?_
  repeat (first | refine Vx ?_ | (apply Ops_q; (case hon => exact Va); (case hd => rfl); (case hq => exact YlA)) | refine Vr ?_ | refine Vt ?_ | refine Vf ?_ | refine Vm ?_ | refine Ve ?_ | refine Vo ?_ | refine Vz ?_ | refine Vn ?_)
  (refine Ops_box (by exact Va) rfl rfl rfl ?_; intro w1 b4 n_b4; have k_b4 := n_b4.blk)
  repeat (first | refine Vx ?_ | (apply Ops_q; (case hon => exact Va); (case hd => rfl); (case hq => exact YlA)) | refine Vr ?_ | refine Vt ?_ | refine Vf ?_ | refine Vm ?_ | refine Ve ?_ | refine Vo ?_ | refine Vz ?_ | refine Vn ?_)
  (refine Ops_box (by exact Va) rfl rfl rfl ?_; intro w2 b5 n_b5; have k_b5 := n_b5.blk)
  replace k_b4 := k_b4.ext n_b5.ext
  have x2 := n_b4.ext.trans n_b5.ext
  clear n_b4 n_b5
  repeat (first | refine Vx ?_ | (apply Ops_q; (case hon => exact Va); (case hd => rfl); (case hq => exact YlA)) | refine Vr ?_ | refine Vt ?_ | refine Vf ?_ | refine Vm ?_ | refine Ve ?_ | refine Vo ?_ | refine Vz ?_ | refine Vn ?_)
  (apply Ops_q; (case hon => (exact Va)); (case hd => rfl); (case hq => exact Yl_call rfl (fun w_ e_ => sam49_v ri r w_)))
  repeat (first | refine Vx ?_ | (apply Ops_q; (case hon => exact Va); (case hd => rfl); (case hq => exact YlA)) | refine Vr ?_ | refine Vt ?_ | refine Vf ?_ | refine Vm ?_ | refine Ve ?_ | refine Vo ?_ | refine Vz ?_ | refine Vn ?_)
  cases h : samR ri r with
  | true =>
    repeat (first | refine Vx ?_ | (apply Ops_q; (case hon => exact Va); (case hd => rfl); (case hq => exact YlA)) | refine Vr ?_ | refine Vt ?_ | refine Vf ?_ | refine Vm ?_ | refine Ve ?_ | refine Vo ?_ | refine Vz ?_ | refine Vn ?_)
    refine ret1 (by first | exact .inl rfl | exact .inr rfl) rfl rfl ?_
    exact Ret_mk (by rw [Bool.true_or]) x2
  | false =>
    repeat (first | refine Vx ?_ | (apply Ops_q; (case hon => exact Va); (case hd => rfl); (case hq => exact YlA)) | refine Vr ?_ | refine Vt ?_ | refine Vf ?_ | refine Vm ?_ | refine Ve ?_ | refine Vo ?_ | refine Vz ?_ | refine Vn ?_)
    (apply Ops_q; (case hon => (exact Va)); (case hd => rfl); (case hq => exact Yl_call rfl (fun w_ e_ => leads49_v c i ri r w_ (hV.ext (x2.trans e_)) hr)))
    repeat (first | refine Vx ?_ | (apply Ops_q; (case hon => exact Va); (case hd => rfl); (case hq => exact YlA)) | refine Vr ?_ | refine Vt ?_ | refine Vf ?_ | refine Vm ?_ | refine Ve ?_ | refine Vo ?_ | refine Vz ?_ | refine Vn ?_)
    refine ret1 (by first | exact .inl rfl | exact .inr rfl) rfl rfl ?_
    exact Ret_mk (by rw [Bool.false_or]) x2
end Go.Proofs.Ytkdjbddjblahkaa

/-
  Routes (layer 49): the reference's depth.
  Conditions: addresses and routers are numbers of 32 bits; lists are not too long.
-/
namespace Go.Proofs.Ytkdjbddjblahkaa
open Go.RowKit

set_option maxHeartbeats 2000000 in
theorem depth49_v {ao : Option Addr} {V : List Rt} (c f : Nat) : ∀ (i : Nat) (r : Rt) (w : World), rkR V i = f → V[i]? = some r → VL w ao V →
    Calls Try.prog 79 #[.slice ao V.length c, r.val] w (Ret (.int .i64 (dep V i)) w) := by
  induction f using Nat.strongRecOn with
  | ind f ih =>
  intro i r w hf hr hV
  have hlen := hV.len
  have hrm : r ∈ V := List.mem_of_getElem? hr
  obtain ⟨hn64, hbad⟩ := hV.hops r hrm
  have rm := hV.rts.mem r hrm
  refine V_enter (vs := [_, _]) Try.func79 rfl Try.ntmps79 (Nat.le_of_ble_eq_true rfl) ?_
  repeat (first | refine Vx ?_ | (apply Ops_q; (case hon => exact Va); (case hd => rfl); (case hq => exact YlA)) | refine Vr ?_ | refine Vt ?_ | refine Vf ?_ | refine Vm ?_ | refine Ve ?_ | refine Vo ?_ | refine Vz ?_ | refine Vn ?_)
  (refine Ops_box (by exact Va) rfl rfl rfl ?_; intro w0 b3 n_b3; have k_b3 := n_b3.blk)
  have x0 := n_b3.ext
  clear n_b3
  have kk3 := k_b3
  unfold Rt.cells at k_b3
  repeat (first | refine Vx ?_ | (apply Ops_q; (case hon => exact Va); (case hd => rfl); (case hq => exact YlA)) | refine Vr ?_ | refine Vt ?_ | refine Vf ?_ | refine Vm ?_ | refine Ve ?_ | refine Vo ?_ | refine Vz ?_ | refine Vn ?_)
  clear k_b3
  refine V_loop (fun k : Nat => [(13, .int .i64 k), (12, .int .i64 r.hops.length), (11, .slice r.ao r.hops.length r.c), (5, .int .i64 ((r.hops.take k).foldl (depS V r (dep V)) 0)), (3, .pointer (some ⟨b3, 0, none⟩)), (0, .slice ao V.length c)])
    (fun k w' => Ext w0 w' ∧ k ≤ r.hops.length) (fun k => r.hops.length - k) 0 (by repeat (first | exact trivial | refine ⟨rfl, ?_⟩)) ⟨Ext.refl _, Nat.zero_le _⟩ ?_
  rintro k w1 ⟨x1, hk⟩
  repeat (first | refine Vx ?_ | (apply Ops_q; (case hon => exact Va); (case hd => rfl); (case hq => exact YlA)) | refine Vr ?_ | refine Vt ?_ | refine Vf ?_ | refine Vm ?_ | refine Ve ?_ | refine Vo ?_ | refine Vz ?_ | refine Vn ?_)
  refine V_cond rfl (fun hg => ?_) (fun hg => ?_)
  · have hkl : k < r.hops.length := by have := of_decide_eq_true hg; omega
    clear hg
    obtain ⟨x, hx⟩ : ∃ x, r.hops[k]? = some x := ⟨_, List.getElem?_eq_getElem hkl⟩
    have hxm := List.mem_of_getElem? hx
    obtain ⟨ah, eh, hch⟩ := (rm.hops.ext (x0.trans x1)).at hx
    have hfold : (r.hops.take (k + 1)).foldl (depS V r (dep V)) 0 = depS V r (dep V) ((r.hops.take k).foldl (depS V r (dep V)) 0) x := by rw [List.take_add_one, hx, List.foldl_append]; rfl
    have hm0 : 0 ≤ (r.hops.take k).foldl (depS V r (dep V)) 0 := depS_fold
    generalize (r.hops.take k).foldl (depS V r (dep V)) 0 = mm at *
    rw [eh]
    repeat (first | refine Vx ?_ | (apply Ops_q; (case hon => exact Va); (case hd => rfl); (case hq => exact YlA)) | refine Vr ?_ | refine Vt ?_ | refine Vf ?_ | refine Vm ?_ | refine Ve ?_ | refine Vo ?_ | refine Vz ?_ | refine Vn ?_)
    (apply Ops_q; (case hon => (exact Va)); (case hd => rfl); (case hq => exact Yl_indexS (j := k) rfl rfl (by omega)))
    repeat (first | refine Vx ?_ | (apply Ops_q; (case hon => exact Va); (case hd => rfl); (case hq => exact YlA)) | refine Vr ?_ | refine Vt ?_ | refine Vf ?_ | refine Vm ?_ | refine Ve ?_ | refine Vo ?_ | refine Vz ?_ | refine Vn ?_)
    (refine Ops_alloc (by exact Va) rfl ?_; intro w2 b7 n_b7; have k_b7 := n_b7.blk)
    repeat (first | refine Vx ?_ | (apply Ops_q; (case hon => exact Va); (case hd => rfl); (case hq => exact YlA)) | refine Vr ?_ | refine Vt ?_ | refine Vf ?_ | refine Vm ?_ | refine Ve ?_ | refine Vo ?_ | refine Vz ?_ | refine Vn ?_)
    (refine Ops_store (by exact Va) rfl rfl (by assumption) (by first | rfl | exact OneAll.h) ?_; intro w3 u_w3; have k_b7 := u_w3.blk)
    have y3 := u_w3.below n_b7.ext n_b7.ge
    have x3 := x1.trans y3
    clear u_w3 n_b7 hch
    have hV3 := hV.ext (x0.trans x3)
    repeat (first | refine Vx ?_ | (apply Ops_q; (case hon => exact Va); (case hd => rfl); (case hq => exact YlA)) | refine Vr ?_ | refine Vt ?_ | refine Vf ?_ | refine Vm ?_ | refine Ve ?_ | refine Vo ?_ | refine Vz ?_ | refine Vn ?_)
    (apply Ops_q; (case hon => (exact Va)); (case hd => rfl); (case hq => exact Yl_call rfl (fun w_ e_ => next49_v c x w_ (hV3.ext e_) (rm.ok x hxm) (hbad x hxm))))
    clear k_b7
    repeat (first | refine Vx ?_ | (apply Ops_q; (case hon => exact Va); (case hd => rfl); (case hq => exact YlA)) | refine Vr ?_ | refine Vt ?_ | refine Vf ?_ | refine Vm ?_ | refine Ve ?_ | refine Vo ?_ | refine Vz ?_ | refine Vn ?_)
    (refine Ops_alloc (by exact Va) rfl ?_; intro w4 b8 n_b8; have k_b8 := n_b8.blk)
    repeat (first | refine Vx ?_ | (apply Ops_q; (case hon => exact Va); (case hd => rfl); (case hq => exact YlA)) | refine Vr ?_ | refine Vt ?_ | refine Vf ?_ | refine Vm ?_ | refine Ve ?_ | refine Vo ?_ | refine Vz ?_ | refine Vn ?_)
    (refine Ops_store (by exact Va) rfl rfl (by assumption) (by first | rfl | exact OneAll.h) ?_; intro w5 u_w5; have k_b8 := u_w5.blk)
    have y5 := u_w5.below n_b8.ext n_b8.ge
    have x5 := x3.trans y5
    clear u_w5 n_b8
    have hV5 := hV3.ext y5
    repeat (first | refine Vx ?_ | (apply Ops_q; (case hon => exact Va); (case hd => rfl); (case hq => exact YlA)) | refine Vr ?_ | refine Vt ?_ | refine Vf ?_ | refine Vm ?_ | refine Ve ?_ | refine Vo ?_ | refine Vz ?_ | refine Vn ?_)
    cases hn : nxI V x with
    | none =>
      repeat (first | refine Vx ?_ | (apply Ops_q; (case hon => exact Va); (case hd => rfl); (case hq => exact YlA)) | refine Vr ?_ | refine Vt ?_ | refine Vf ?_ | refine Vm ?_ | refine Ve ?_ | refine Vo ?_ | refine Vz ?_ | refine Vn ?_)
      exact ⟨k + 1, by rw [hfold, depS, hn, ← eh]; exact (by repeat (first | exact trivial | refine ⟨rfl, ?_⟩)), ⟨x5, hkl⟩, by omega⟩
    | some y =>
      rw [hn] at k_b8
      have hyl := nxI_lt hn
      obtain ⟨ry, hy⟩ : ∃ z, V[y]? = some z := ⟨_, List.getElem?_eq_getElem hyl⟩
      rw [rtO_some hy] at k_b8
      have k35 := kk3.ext x5
      repeat (first | refine Vx ?_ | (apply Ops_q; (case hon => exact Va); (case hd => rfl); (case hq => exact YlA)) | refine Vr ?_ | refine Vt ?_ | refine Vf ?_ | refine Vm ?_ | refine Ve ?_ | refine Vo ?_ | refine Vz ?_ | refine Vn ?_)
      (apply Ops_q; (case hon => (exact Va)); (case hd => rfl); (case hq => exact Yl_call rfl (fun w_ e_ => loops49_v c y r ry w_ (hV5.ext e_) hy)))
      cases hl : loopsB V y r with
      | true =>
        repeat (first | refine Vx ?_ | (apply Ops_q; (case hon => exact Va); (case hd => rfl); (case hq => exact YlA)) | refine Vr ?_ | refine Vt ?_ | refine Vf ?_ | refine Vm ?_ | refine Ve ?_ | refine Vo ?_ | refine Vz ?_ | refine Vn ?_)
        exact ⟨k + 1, by rw [hfold, depS, hn, ← eh]; dsimp only; rw [if_pos hl]; exact (by repeat (first | exact trivial | refine ⟨rfl, ?_⟩)), ⟨x5, hkl⟩, by omega⟩
      | false =>
        have hrk := rkR_lt hr (kids_mem.2 ⟨r, x, hr, hxm, hn⟩) hl
        have hd0 := dep_nonneg V y
        have hd1 := dep_len V y
        repeat (first | refine Vx ?_ | (apply Ops_q; (case hon => exact Va); (case hd => rfl); (case hq => exact YlA)) | refine Vr ?_ | refine Vt ?_ | refine Vf ?_ | refine Vm ?_ | refine Ve ?_ | refine Vo ?_ | refine Vz ?_ | refine Vn ?_)
        (apply Ops_q; (case hon => (exact Va)); (case hd => rfl); (case hq => exact Yl_call rfl (fun w_ e_ => ih (rkR V y) (by omega) y ry w_ rfl hy (hV5.ext e_))))
        repeat (first | refine Vx ?_ | (apply Ops_q; (case hon => exact Va); (case hd => rfl); (case hq => exact YlA)) | refine Vr ?_ | refine Vt ?_ | refine Vf ?_ | refine Vm ?_ | refine Ve ?_ | refine Vo ?_ | refine Vz ?_ | refine Vn ?_)
        exact ⟨k + 1, by rw [hfold, depS, hn, ← eh]; dsimp only; rw [if_neg (by rw [hl]; decide)]; exact (by repeat (first | exact trivial | refine ⟨rfl, ?_⟩)), ⟨x5, hkl⟩, by omega⟩
  · obtain rfl : k = r.hops.length := by have := of_decide_eq_false hg; omega
    rw [List.take_length, ← dep_eq hr]
    repeat (first | refine Vx ?_ | (apply Ops_q; (case hon => exact Va); (case hd => rfl); (case hq => exact YlA)) | refine Vr ?_ | refine Vt ?_ | refine Vf ?_ | refine Vm ?_ | refine Ve ?_ | refine Vo ?_ | refine Vz ?_ | refine Vn ?_)
    refine ret1 (by first | exact .inl rfl | exact .inr rfl) rfl rfl ?_
    exact Ret_mk rfl (x0.trans x1)
end Go.Proofs.Ytkdjbddjblahkaa

/-
  Routes (layer 49): what a hop resolves to: the walk.
  Conditions: addresses and routers are numbers of 32 bits; lists are not too long.
-/
namespace Go.Proofs.Ytkdjbddjblahkaa
open Go.RowKit

/-- The contract of route, for a route of the list. -/
def RouteC (V : List Rt) (cb : List Nh → List Nh) (s : Sv) (w0 : World) (r : Rt) : Prop := ∀ (X : Nat → Prop) (w : World), SvM V cb s X w0 w → (∀ k, X k → k < w.heap.size) → Calls Try.prog 36 #[.pointer (some ⟨s.b, 0, none⟩), r.val] w (Does (SvB s) (OutR V cb s X w0 (rou cb V r) w) w)
def GivOr (x h : Nh) (d : Nat) (v : Value) (w' : World) : Prop :=
  if d = 89 then ∃ b, v = .slice (some ⟨b, 0, none⟩) 2 2 ∧ Blk w' b 24 [.int .u32 x.addr, .int .u32 h.addr]
  else if d = 90 then v = .int .u32 (orL [(x.addr : Int), (h.addr : Int)])
  else if d = 95 then ∃ b, v = .slice (some ⟨b, 0, none⟩) 2 2 ∧ Blk w' b 23 [.int .u32 x.router, .int .u32 h.router]
  else v = .int .u32 (orL [(x.router : Int), (h.router : Int)])
theorem GivOr.ext {x h : Nh} {d : Nat} {v : Value} {w w' : World} (he : Ext w w') (hg : GivOr x h d v w) : GivOr x h d v w' := by
  unfold GivOr at *
  split at hg
  · rename_i e; rw [if_pos e]; obtain ⟨b, h1, h2⟩ := hg; exact ⟨b, h1, h2.ext he⟩
  · rename_i e
    rw [if_neg e]
    split at hg
    · rename_i e2; rw [if_pos e2]; exact hg
    · rename_i e2
      rw [if_neg e2]
      split at hg
      · rename_i e3; rw [if_pos e3]; obtain ⟨b, h1, h2⟩ := hg; exact ⟨b, h1, h2.ext he⟩
      · rename_i e3; rw [if_neg e3]; exact hg
section
variable {V : List Rt} {cb : List Nh → List Nh} {s : Sv} {X : Nat → Prop} {w0 : World}
set_option maxHeartbeats 8000000 in
theorem hop_v (hcb : CbOk cb) (r : Rt) (h : Nh) (w : World) (hs : SvM V cb s X w0 w) (hX : ∀ k, X k → k < w.heap.size) (hh : h.good) (hrt : ∀ j x, nxI V h = some j → loopsB V j r = false → dep V j < 16 → V[j]? = some x → RouteC V cb s w0 x) :
    Calls Try.prog 51 #[.pointer (some ⟨s.b, 0, none⟩), r.val, h.val] w (Does (SvB s) (OutR V cb s X w0 (hopR cb V r h) w) w) := by
  have hV := hs.r.s0.len
  refine V_enter (vs := [_, _, _]) Try.func51 rfl Try.ntmps51 (Nat.le_of_ble_eq_true rfl) ?_
  repeat (first | refine Vx ?_ | (apply Ops_q; (case hon => exact Va); (case hd => rfl); (case hq => exact YlA)) | refine Vr ?_ | refine Vt ?_ | refine Vf ?_ | refine Vm ?_ | refine Ve ?_ | refine Vo ?_ | refine Vz ?_ | refine Vn ?_)
  (refine Ops_box (by exact Va) rfl rfl rfl ?_; intro w1 b4 n_b4; have k_b4 := n_b4.blk)
  have x1 := n_b4.ext
  have g4 := n_b4.ge
  clear n_b4
  repeat (first | refine Vx ?_ | (apply Ops_q; (case hon => exact Va); (case hd => rfl); (case hq => exact YlA)) | refine Vr ?_ | refine Vt ?_ | refine Vf ?_ | refine Vm ?_ | refine Ve ?_ | refine Vo ?_ | refine Vz ?_ | refine Vn ?_)
  (refine Ops_box (by exact Va) rfl rfl rfl ?_; intro w2 b5 n_b5; have k_b5 := n_b5.blk)
  have x2 := x1.trans n_b5.ext
  have g5 : w.heap.size ≤ b5 := Nat.le_trans x1.size n_b5.ge
  replace k_b4 := k_b4.ext n_b5.ext
  clear n_b5
  repeat (first | refine Vx ?_ | (apply Ops_q; (case hon => exact Va); (case hd => rfl); (case hq => exact YlA)) | refine Vr ?_ | refine Vt ?_ | refine Vf ?_ | refine Vm ?_ | refine Ve ?_ | refine Vo ?_ | refine Vz ?_ | refine Vn ?_)
  by_cases t1 : 0 ≤ h.iface
  · have d1 : decide (0 ≤ h.iface) = true := decide_eq_true t1
    refine V_yes rfl d1 ?_
    have q4 : Cells w2 ⟨b4, 0, none⟩ [.int .u32 r.p.a, .int .i64 r.p.n] := k_b4.part 0 2
    repeat (first | refine Vx ?_ | (apply Ops_q; (case hon => exact Va); (case hd => rfl); (case hq => exact YlA)) | refine Vr ?_ | refine Vt ?_ | refine Vf ?_ | refine Vm ?_ | refine Ve ?_ | refine Vo ?_ | refine Vz ?_ | refine Vn ?_)
    (refine Ops_store (by exact Va) rfl rfl (by assumption) (by first | rfl | exact OneAll.h) ?_; intro w3 u_w3; have k_b5 := u_w3.blk)
    have x3 := u_w3.below x2 g5
    clear u_w3 q4 k_b4
    repeat (first | refine Vx ?_ | (apply Ops_q; (case hon => exact Va); (case hd => rfl); (case hq => exact YlA)) | refine Vr ?_ | refine Vt ?_ | refine Vf ?_ | refine Vm ?_ | refine Ve ?_ | refine Vo ?_ | refine Vz ?_ | refine Vn ?_)
    (refine Ops_lit (by exact Va) rfl rfl rfl ?_; intro w4 bl n_bl; have k_bl := n_bl.blk)
    have x4 := x3.trans n_bl.ext
    have gl := n_bl.ge
    repeat (first | refine Vx ?_ | (apply Ops_q; (case hon => exact Va); (case hd => rfl); (case hq => exact YlA)) | refine Vr ?_ | refine Vt ?_ | refine Vf ?_ | refine Vm ?_ | refine Ve ?_ | refine Vo ?_ | refine Vz ?_ | refine Vn ?_)
    refine ret2 (by first | exact .inl rfl | exact .inr rfl) rfl rfl rfl ?_
    refine Does_mk (fun w' he => ?_) (.of_ext x4)
    rw [show hopR cb V r h = (0, [⟨h.addr, h.iface, h.router, h.weight, r.p⟩]) by unfold hopR hopS; rw [if_pos t1]]
    refine ⟨hs.ext (x4.trans he), _, 1, rfl, (arr_one k_bl).ext he, Nat.le_refl _, fun e => (by cases e), fun a ha => ?_⟩
    cases ha
    exact ⟨Nat.le_trans x3.size gl, Nat.lt_of_lt_of_le k_bl.lt he.size⟩
  have d1 : decide (0 ≤ h.iface) = false := decide_eq_false t1
  refine V_no rfl d1 ?_
  clear d1
  repeat (first | refine Vx ?_ | (apply Ops_q; (case hon => exact Va); (case hd => rfl); (case hq => exact YlA)) | refine Vr ?_ | refine Vt ?_ | refine Vf ?_ | refine Vm ?_ | refine Ve ?_ | refine Vo ?_ | refine Vz ?_ | refine Vn ?_)
  (apply Ops_q; (case hon => (exact Va)); (case hd => rfl); (case hq => exact Yl_call rfl (fun w_ e_ => next_v h w_ ((hs.ext x2).r.grown e_) hh.1)))
  repeat (first | refine Vx ?_ | (apply Ops_q; (case hon => exact Va); (case hd => rfl); (case hq => exact YlA)) | refine Vr ?_ | refine Vt ?_ | refine Vf ?_ | refine Vm ?_ | refine Ve ?_ | refine Vo ?_ | refine Vz ?_ | refine Vn ?_)
  have hno : ∀ c, (∀ f : Rt → Int × List Nh, hopS V f r h = (c, [])) → ∀ w3, SvM V cb s X w0 w3 → Mod (SvB s) w w3 → ∀ w', Ext w3 w' → Does (SvB s) (OutR V cb s X w0 (hopR cb V r h) w) w (.returned (.tuple #[.slice none 0 0, .int .i64 c])) w' := fun c hc w3 h3 m3 => Does_mk (fun w' he => by unfold hopR; rw [hc]; exact (OutR.nil h3 c).ext he) m3
  cases hn : nxI V h with
  | none =>
    have d2 : decide (numI none < 0) = true := rfl
    refine V_yes rfl d2 ?_
    repeat (first | refine Vx ?_ | (apply Ops_q; (case hon => exact Va); (case hd => rfl); (case hq => exact YlA)) | refine Vr ?_ | refine Vt ?_ | refine Vf ?_ | refine Vm ?_ | refine Ve ?_ | refine Vo ?_ | refine Vz ?_ | refine Vn ?_)
    refine ret2 (by first | exact .inl rfl | exact .inr rfl) rfl rfl rfl ?_
    exact hno 11 (fun f => by unfold hopS; rw [if_neg t1, hn]) w2 (hs.ext x2) (.of_ext x2)
  | some j =>
  have d2 : decide (numI (some j) < 0) = false := decide_eq_false (show ¬((j : Nat) : Int) < 0 by omega)
  refine V_no rfl d2 ?_
  clear d2
  unfold numI
  have hjl := nxI_lt hn
  obtain ⟨rj, hj⟩ : ∃ z, V[j]? = some z := ⟨_, List.getElem?_eq_getElem hjl⟩
  have hX1 : ∀ k, (X k ∨ k = b5) → X k ∨ w.heap.size ≤ k := fun k hk => hk.imp id (fun e => by omega)
  have h2 : SvM V cb s (fun k => X k ∨ k = b5) w0 w2 := (hs.toX hX1).ext x2
  have hX2 : ∀ k, (X k ∨ k = b5) → k < w2.heap.size := fun k hk => hk.elim (fun h => Nat.lt_of_lt_of_le (hX k h) x2.size) (fun e => e ▸ k_b5.lt)
  have hsub : ∀ k, X k → (X k ∨ k = b5) ∨ w2.heap.size ≤ k := fun k hk => .inl (.inl hk)
  repeat (first | refine Vx ?_ | (apply Ops_q; (case hon => exact Va); (case hd => rfl); (case hq => exact YlA)) | refine Vr ?_ | refine Vt ?_ | refine Vf ?_ | refine Vm ?_ | refine Ve ?_ | refine Vo ?_ | refine Vz ?_ | refine Vn ?_)
  refine Ops_callM (S := SvB s) (R := fun _ => SolR V cb s (fun k => X k ∨ k = b5) w0 (.bool (loopsB V j r))) (by exact Va) rfl rfl (fun w_ e_ => loops_v j r rj w_ (h2.ext e_) (fun c hc => Nat.lt_of_lt_of_le (hX2 c hc) e_.size) hj) ?_
  rintro v w4 w3 e3 m4 ⟨rfl, h4⟩
  have k54 := m4.blk (k_b5.ext e3) ((h2.ext e3).ne_b (k_b5.ext e3))
  have m24 : Mod (SvB s) w w4 := (Mod.of_ext (x2.trans e3)).trans m4
  have z4 : w2.heap.size ≤ w4.heap.size := Nat.le_trans e3.size m4.size
  clear k_b5 k_b4 m4 e3 h2
  repeat (first | refine Vx ?_ | (apply Ops_q; (case hon => exact Va); (case hd => rfl); (case hq => exact YlA)) | refine Vr ?_ | refine Vt ?_ | refine Vf ?_ | refine Vm ?_ | refine Ve ?_ | refine Vo ?_ | refine Vz ?_ | refine Vn ?_)
  cases hl : loopsB V j r with
  | true =>
    repeat (first | refine Vx ?_ | (apply Ops_q; (case hon => exact Va); (case hd => rfl); (case hq => exact YlA)) | refine Vr ?_ | refine Vt ?_ | refine Vf ?_ | refine Vm ?_ | refine Ve ?_ | refine Vo ?_ | refine Vz ?_ | refine Vn ?_)
    refine ret2 (by first | exact .inl rfl | exact .inr rfl) rfl rfl rfl ?_
    exact hno 10 (fun f => by unfold hopS; rw [if_neg t1, hn]; dsimp only; rw [if_pos hl]) w4 (h4.toX (fun k hk => .inl (.inl hk))) m24
  | false =>
  repeat (first | refine Vx ?_ | (apply Ops_q; (case hon => exact Va); (case hd => rfl); (case hq => exact YlA)) | refine Vr ?_ | refine Vt ?_ | refine Vf ?_ | refine Vm ?_ | refine Ve ?_ | refine Vo ?_ | refine Vz ?_ | refine Vn ?_)
  refine Ops_callM (S := SvB s) (R := fun _ => SolR V cb s (fun k => X k ∨ k = b5) w0 (.int .i64 (dep V j))) (by exact Va) rfl rfl (fun w_ e_ => depth_v _ j rj w_ rfl hj (h4.ext e_) (fun c hc => Nat.lt_of_lt_of_le (hX2 c hc) (Nat.le_trans z4 e_.size))) ?_
  rintro v w6 w5 e5 m6 ⟨rfl, h6⟩
  have k56 := m6.blk (k54.ext e5) ((h4.ext e5).ne_b (k54.ext e5))
  have m26 : Mod (SvB s) w w6 := (m24.ext e5).trans m6
  have z6 : w2.heap.size ≤ w6.heap.size := Nat.le_trans z4 (Nat.le_trans e5.size m6.size)
  clear k54 m6 e5 h4 m24 z4
  repeat (first | refine Vx ?_ | (apply Ops_q; (case hon => exact Va); (case hd => rfl); (case hq => exact YlA)) | refine Vr ?_ | refine Vt ?_ | refine Vf ?_ | refine Vm ?_ | refine Ve ?_ | refine Vo ?_ | refine Vz ?_ | refine Vn ?_)
  by_cases t3 : 16 ≤ dep V j
  · have d3 : decide (16 ≤ dep V j) = true := decide_eq_true t3
    refine V_yes rfl d3 ?_
    repeat (first | refine Vx ?_ | (apply Ops_q; (case hon => exact Va); (case hd => rfl); (case hq => exact YlA)) | refine Vr ?_ | refine Vt ?_ | refine Vf ?_ | refine Vm ?_ | refine Ve ?_ | refine Vo ?_ | refine Vz ?_ | refine Vn ?_)
    refine ret2 (by first | exact .inl rfl | exact .inr rfl) rfl rfl rfl ?_
    exact hno 24 (fun f => by unfold hopS; rw [if_neg t1, hn]; dsimp only; rw [if_neg (by rw [hl]; decide), if_pos t3]) w6 (h6.toX (fun k hk => .inl (.inl hk))) m26
  have d3 : decide (16 ≤ dep V j) = false := decide_eq_false t3
  refine V_no rfl d3 ?_
  clear d3
  have hdj : dep V j < 16 := by omega
  have hop1 : hopR cb V r h = if (rou cb V rj).1 ≠ 0 then ((rou cb V rj).1, []) else if (rou cb V rj).2 = [] then (11, []) else (0, (rou cb V rj).2.map (orH h)) := by
    unfold hopR hopS
    rw [if_neg t1, hn]
    dsimp only
    rw [if_neg (by rw [hl]; decide), if_neg t3, hj]
  have kb6 := h6.r.blk
  unfold Sv.cells at kb6
  obtain ⟨F3, c1, c2⟩ := h6.ress
  obtain ⟨ao0, n0, cc0, er0, hv0, hf0⟩ : ∃ ao n c e, (F3 (j : Int)).getD (.agg #[.slice none 0 0, .int .i64 0]) = .agg #[.slice ao n c, .int .i64 e] ∧ ((F3 (j : Int)).isSome = true → n = (rou cb V rj).2.length ∧ e = (rou cb V rj).1 ∧ Nhs w6 ao (rou cb V rj).2) := by
    cases hF : F3 (j : Int) with
    | none => exact ⟨none, 0, 0, 0, rfl, fun h => by cases h⟩
    | some v =>
      obtain ⟨j', r', q1, q2, _, ao, c, q3, q4, _⟩ := c2 _ _ hF
      have e : j = j' := by omega
      subst e
      rw [hj] at q2; cases q2
      exact ⟨ao, _, c, _, q3, fun _ => ⟨rfl, rfl, q4⟩⟩
  repeat (first | refine Vx ?_ | (apply Ops_q; (case hon => exact Va); (case hd => rfl); (case hq => exact YlA)) | refine Vr ?_ | refine Vt ?_ | refine Vf ?_ | refine Vm ?_ | refine Ve ?_ | refine Vo ?_ | refine Vz ?_ | refine Vn ?_)
  (apply Ops_q; (case hon => (exact Va)); (case hd => rfl); (case hq => exact Yl_lookup2 rfl rfl (c1)))
  rw [hv0]
  generalize (F3 (j : Int)).isSome = fnd at *
  repeat (first | refine Vx ?_ | (apply Ops_q; (case hon => exact Va); (case hd => rfl); (case hq => exact YlA)) | refine Vr ?_ | refine Vt ?_ | refine Vf ?_ | refine Vm ?_ | refine Ve ?_ | refine Vo ?_ | refine Vz ?_ | refine Vn ?_)
  (refine Ops_alloc (by exact Va) rfl ?_; intro w7 b9 n_b9; have k_b9 := n_b9.blk)
  have hb9 : w6.heap.size ≤ b9 := n_b9.ge
  repeat (first | refine Vx ?_ | (apply Ops_q; (case hon => exact Va); (case hd => rfl); (case hq => exact YlA)) | refine Vr ?_ | refine Vt ?_ | refine Vf ?_ | refine Vm ?_ | refine Ve ?_ | refine Vo ?_ | refine Vz ?_ | refine Vn ?_)
  (refine Ops_store (by exact Va) rfl rfl (by assumption) (by first | rfl | exact OneAll.h) ?_; intro w8 u_w8; have k_b9 := u_w8.blk)
  have y8 : Ext w6 w8 := u_w8.below n_b9.ext n_b9.ge
  clear u_w8 n_b9 c1 c2
  have h8 := h6.ext y8
  have k58 := k56.ext y8
  have m28 := m26.ext y8
  have kb8 := kb6.ext y8
  have ne59 : b5 ≠ b9 := Nat.ne_of_lt (Nat.lt_of_lt_of_le k56.lt hb9)
  repeat (first | refine Vx ?_ | (apply Ops_q; (case hon => exact Va); (case hd => rfl); (case hq => exact YlA)) | refine Vr ?_ | refine Vt ?_ | refine Vf ?_ | refine Vm ?_ | refine Ve ?_ | refine Vo ?_ | refine Vz ?_ | refine Vn ?_)
  refine V_meet1 (fun z : Option Addr × Nat => [(9, .pointer (some ⟨b9, 0, none⟩)), (5, .pointer (some ⟨b5, 0, none⟩))])
    (fun z w' => Mod (SvB s) w w' ∧ SvM V cb s X w0 w' ∧ Blk w' b9 106 [.slice z.1 (rou cb V rj).2.length z.2, .int .i64 (rou cb V rj).1] ∧ Blk w' b5 48 h.cells ∧ Nhs w' z.1 (rou cb V rj).2) ?_ ?_
  · cases fnd with
    | true =>
      obtain ⟨rfl, rfl, hN⟩ := hf0 rfl
      repeat (first | refine Vx ?_ | (apply Ops_q; (case hon => exact Va); (case hd => rfl); (case hq => exact YlA)) | refine Vr ?_ | refine Vt ?_ | refine Vf ?_ | refine Vm ?_ | refine Ve ?_ | refine Vo ?_ | refine Vz ?_ | refine Vn ?_)
      exact ⟨(ao0, cc0), (by repeat (first | exact trivial | refine ⟨rfl, ?_⟩)), m28, h8.toX (fun k hk => .inl (.inl hk)), k_b9, k58, hN.ext y8⟩
    | false =>
      obtain ⟨ad, ea, hcj⟩ := h8.r.rts.at hj
      rw [ea] at kb8
      have h83 : SvM V cb s (fun k => (X k ∨ k = b5) ∨ k = b9) w0 w8 := (h6.toX (X' := fun k => (X k ∨ k = b5) ∨ k = b9) (fun k hk => hk.imp id (fun e => by rw [e]; exact hb9))).ext y8
      have hX8 : ∀ k, ((X k ∨ k = b5) ∨ k = b9) → k < w8.heap.size := fun k hk => hk.elim (fun hk => Nat.lt_of_lt_of_le (hX2 k hk) (Nat.le_trans z6 y8.size)) (fun e => e ▸ k_b9.lt)
      repeat (first | refine Vx ?_ | (apply Ops_q; (case hon => exact Va); (case hd => rfl); (case hq => exact YlA)) | refine Vr ?_ | refine Vt ?_ | refine Vf ?_ | refine Vm ?_ | refine Ve ?_ | refine Vo ?_ | refine Vz ?_ | refine Vn ?_)
      (apply Ops_q; (case hon => (exact Va)); (case hd => rfl); (case hq => exact Yl_indexS (j := j) rfl rfl (by omega)))
      repeat (first | refine Vx ?_ | (apply Ops_q; (case hon => exact Va); (case hd => rfl); (case hq => exact YlA)) | refine Vr ?_ | refine Vt ?_ | refine Vf ?_ | refine Vm ?_ | refine Ve ?_ | refine Vo ?_ | refine Vz ?_ | refine Vn ?_)
      refine Ops_callM (S := SvB s) (R := fun w_ => OutR V cb s (fun k => (X k ∨ k = b5) ∨ k = b9) w0 (rou cb V rj) w_) (by exact Va) rfl rfl (fun w_ e_ => hrt j rj hn hl hdj hj _ w_ (h83.ext e_) (fun k hk => Nat.lt_of_lt_of_le (hX8 k hk) e_.size)) ?_
      rintro v w10 w9 e9 m10 ⟨h10, ao, c, rfl, hN, hlc, hnc, hfr⟩
      have nb9 := (h83.ext e9).ne_b (k_b9.ext e9)
      have nb5 := (h83.ext e9).ne_b (k58.ext e9)
      have k910 := m10.blk (k_b9.ext e9) nb9
      have k510 := m10.blk (k58.ext e9) nb5
      have m210 := (m28.ext e9).trans m10
      have l9 : b9 < w9.heap.size := (k_b9.ext e9).lt
      have z9 : w.heap.size ≤ w9.heap.size := (m28.ext e9).size
      have g9 : w.heap.size ≤ b9 := Nat.le_trans m26.size hb9
      clear k_b9 k58 m10 e9 kb8 hcj h8 h83 m28 kb6 k56
      repeat (first | refine Vx ?_ | (apply Ops_q; (case hon => exact Va); (case hd => rfl); (case hq => exact YlA)) | refine Vr ?_ | refine Vt ?_ | refine Vf ?_ | refine Vm ?_ | refine Ve ?_ | refine Vo ?_ | refine Vz ?_ | refine Vn ?_)
      refine Ops_store (by exact Va) rfl rfl k910 (by first | rfl | exact OneAll.h) ?_
      intro w11 u11
      have k911 := u11.blk
      repeat (first | refine Vx ?_ | (apply Ops_q; (case hon => exact Va); (case hd => rfl); (case hq => exact YlA)) | refine Vr ?_ | refine Vt ?_ | refine Vf ?_ | refine Vm ?_ | refine Ve ?_ | refine Vo ?_ | refine Vz ?_ | refine Vn ?_)
      refine Ops_store (by exact Va) rfl rfl k911 (by first | rfl | exact OneAll.h) ?_
      intro w12 u12
      have k912 := u12.blk
      have k512 := u12.keep (u11.keep k510 ne59) ne59
      have ma : Mod (fun c => c = b9) w10 w11 := Mod.upd (.of_ext (Ext.refl _)) u11 (.inl rfl)
      have mb : Mod (fun c => c = b9) w10 w12 := ma.upd u12 (.inl rfl)
      have h12 := h10.mod mb (fun c hc => .inr hc)
      have hN12 := mb.arr hN (fun a ha e => by have := (hfr a ha).1; omega)
      have m212 := (m210.upd u11 (.inr g9)).upd u12 (.inr g9)
      have h12X : SvM V cb s X w0 w12 := h12.toX (fun k hk => .inl (.inl (.inl hk)))
      have kb12 := h12X.r.blk
      unfold Sv.cells at kb12
      obtain ⟨F4, c1, c2⟩ := h12X.ress
      have hres : ResV V cb X w12 rj (.agg #[.slice ao (rou cb V rj).2.length c, .int .i64 (rou cb V rj).1]) := ⟨ao, c, rfl, hN12, fun a ha => ⟨fun hx => by have := hX _ hx; have := (hfr a ha).1; omega, Nat.lt_of_lt_of_le (hfr a ha).2 mb.size⟩⟩
      clear u11 u12 k910 k911 k510 h10 hN m210 h12
      repeat (first | refine Vx ?_ | (apply Ops_q; (case hon => exact Va); (case hd => rfl); (case hq => exact YlA)) | refine Vr ?_ | refine Vt ?_ | refine Vf ?_ | refine Vm ?_ | refine Ve ?_ | refine Vo ?_ | refine Vz ?_ | refine Vn ?_)
      refine V_region_mixed 6 (by kernel_rfl) (by kernel_rfl) rfl ?_
      repeat (first | refine Vx ?_ | (apply Ops_q; (case hon => exact Va); (case hd => rfl); (case hq => exact YlA)) | refine Vr ?_ | refine Vt ?_ | refine Vf ?_ | refine Vm ?_ | refine Ve ?_ | refine Vo ?_ | refine Vz ?_ | refine Vn ?_)
      refine Ops_mapUpdate (by exact Va) rfl rfl rfl c1 ?_
      intro w13 g13 c3
      have h13 := h12X.putRes g13 c1 c2 c3 hj hdj hres
      have k913 := grow_blk g13 k912 (fun e => nb9 (.inr (.inr (Option.some.inj e))))
      have k513 := grow_blk g13 k512 (fun e => nb5 (.inr (.inr (Option.some.inj e))))
      have hN13 := arr_ne_map c1 hN12 g13
      have m213 := m212.grow g13 (fun b e => .inl (.inr (.inr (Option.some.inj e).symm)))
      repeat (first | refine Vx ?_ | (apply Ops_q; (case hon => exact Va); (case hd => rfl); (case hq => exact YlA)) | refine Vr ?_ | refine Vt ?_ | refine Vf ?_ | refine Vm ?_ | refine Ve ?_ | refine Vo ?_ | refine Vz ?_ | refine Vn ?_)
      exact ⟨(ao, c), (by repeat (first | exact trivial | refine ⟨rfl, ?_⟩)), m213, h13, k913, k513, hN13⟩
  · rintro ⟨ao, c⟩ w13 ⟨m13, h13, k9, k5, hN⟩
    dsimp only at k9 hN ⊢
    have hL64 : (rou cb V rj).2.length ≤ 64 := rou_len hcb.len V rj
    have hgd : ∀ x ∈ (rou cb V rj).2, x.good := rouF_good hcb hs.r.s0.good 17 rj (hs.r.s0.good rj (List.mem_of_getElem? hj))
    clear k_b9 k58 m28 h8 y8 kb8 kb6 h6 k56 hf0 hv0 m26
    generalize rou cb V rj = o at *
    obtain ⟨er, L⟩ := o
    dsimp only at k9 hN hL64 hgd hop1
    have hout : ∀ c, hopR cb V r h = (c, []) → ∀ w', Ext w13 w' → Does (SvB s) (OutR V cb s X w0 (hopR cb V r h) w) w (.returned (.tuple #[.slice none 0 0, .int .i64 c])) w' := fun c hc => Does_mk (fun w' he => by rw [hc]; exact (OutR.nil h13 c).ext he) m13
    repeat (first | refine Vx ?_ | (apply Ops_q; (case hon => exact Va); (case hd => rfl); (case hq => exact YlA)) | refine Vr ?_ | refine Vt ?_ | refine Vf ?_ | refine Vm ?_ | refine Ve ?_ | refine Vo ?_ | refine Vz ?_ | refine Vn ?_)
    by_cases t4 : er = 0
    · have d4 : (!decide (er = 0)) = false := by rw [decide_eq_true t4]; rfl
      refine V_no rfl d4 ?_
      clear d4
      rw [if_neg (fun h => h t4)] at hop1
      repeat (first | refine Vx ?_ | (apply Ops_q; (case hon => exact Va); (case hd => rfl); (case hq => exact YlA)) | refine Vr ?_ | refine Vt ?_ | refine Vf ?_ | refine Vm ?_ | refine Ve ?_ | refine Vo ?_ | refine Vz ?_ | refine Vn ?_)
      by_cases t5 : L = []
      · have d5 : decide ((L.length : Int) = 0) = true := decide_eq_true (by rw [t5]; rfl)
        refine V_yes rfl d5 ?_
        repeat (first | refine Vx ?_ | (apply Ops_q; (case hon => exact Va); (case hd => rfl); (case hq => exact YlA)) | refine Vr ?_ | refine Vt ?_ | refine Vf ?_ | refine Vm ?_ | refine Ve ?_ | refine Vo ?_ | refine Vz ?_ | refine Vn ?_)
        refine ret2 (by first | exact .inl rfl | exact .inr rfl) rfl rfl rfl ?_
        exact hout 11 (by rw [hop1, if_pos t5])
      · have hpos : 0 < L.length := List.length_pos_iff.2 t5
        have d5 : decide ((L.length : Int) = 0) = false := decide_eq_false (by omega)
        refine V_no rfl d5 ?_
        rw [if_neg t5] at hop1
        clear d5 hout
        unfold Nh.cells at k5
        repeat (first | refine Vx ?_ | (apply Ops_q; (case hon => exact Va); (case hd => rfl); (case hq => exact YlA)) | refine Vr ?_ | refine Vt ?_ | refine Vf ?_ | refine Vm ?_ | refine Ve ?_ | refine Vo ?_ | refine Vz ?_ | refine Vn ?_)
        refine V_loop (fun z : Nat × Value => [(81, .int .i64 z.1), (80, .int .i64 L.length), (79, .slice ao L.length c), (11, z.2), (5, .pointer (some ⟨b5, 0, none⟩))])
          (fun z w' => Ext w13 w' ∧ z.1 ≤ L.length ∧ Own w' w13.heap.size 48 6 z.2 (((L.take z.1).map (orH h)).map Nh.cells)) (fun z => L.length - z.1) (0, .slice none 0 0) (by repeat (first | exact trivial | refine ⟨rfl, ?_⟩)) ⟨Ext.refl _, Nat.zero_le _, Own.nil⟩ ?_
        rintro ⟨k, v⟩ w14 ⟨x14, hk, o14⟩
        dsimp only at hk o14 ⊢
        repeat (first | refine Vx ?_ | (apply Ops_q; (case hon => exact Va); (case hd => rfl); (case hq => exact YlA)) | refine Vr ?_ | refine Vt ?_ | refine Vf ?_ | refine Vm ?_ | refine Ve ?_ | refine Vo ?_ | refine Vz ?_ | refine Vn ?_)
        refine V_cond rfl (fun hg => ?_) (fun hg => ?_)
        · have hkl : k < L.length := by have := of_decide_eq_true hg; omega
          clear hg
          obtain ⟨x, hx⟩ : ∃ z, L[k]? = some z := ⟨_, List.getElem?_eq_getElem hkl⟩
          have hxg := hgd x (List.mem_of_getElem? hx)
          obtain ⟨ah, rfl, hch⟩ := Nhs.at (hN.ext x14) hx
          have hp0 : 0 ≤ x.weight * h.weight := Int.mul_nonneg hxg.2.1 hh.2.1
          have hp1 : x.weight * h.weight ≤ 255 * 255 := Int.mul_le_mul hxg.2.2 hh.2.2 hh.2.1 (by decide)
          repeat (first | refine Vx ?_ | (apply Ops_q; (case hon => exact Va); (case hd => rfl); (case hq => exact YlA)) | refine Vr ?_ | refine Vt ?_ | refine Vf ?_ | refine Vm ?_ | refine Ve ?_ | refine Vo ?_ | refine Vz ?_ | refine Vn ?_)
          (apply Ops_q; (case hon => (exact Va)); (case hd => rfl); (case hq => exact Yl_indexS (j := k) rfl rfl (by omega)))
          repeat (first | refine Vx ?_ | (apply Ops_q; (case hon => exact Va); (case hd => rfl); (case hq => exact YlA)) | refine Vr ?_ | refine Vt ?_ | refine Vf ?_ | refine Vm ?_ | refine Ve ?_ | refine Vo ?_ | refine Vz ?_ | refine Vn ?_)
          (refine Ops_alloc (by exact Va) rfl ?_; intro w15 b13 n_b13; have k_b13 := n_b13.blk)
          repeat (first | refine Vx ?_ | (apply Ops_q; (case hon => exact Va); (case hd => rfl); (case hq => exact YlA)) | refine Vr ?_ | refine Vt ?_ | refine Vf ?_ | refine Vm ?_ | refine Ve ?_ | refine Vo ?_ | refine Vz ?_ | refine Vn ?_)
          (refine Ops_store (by exact Va) rfl rfl (by assumption) (by first | rfl | exact OneAll.h) ?_; intro w16 u_w16; have k_b13 := u_w16.blk)
          have y16 := u_w16.below n_b13.ext n_b13.ge
          have x16 := x14.trans y16
          have k516 := k5.ext x16
          have o16 := o14.ext y16
          have g13' : w13.heap.size ≤ b13 := Nat.le_trans x14.size n_b13.ge
          have ne13 : v.ownBlock ≠ some b13 := fun e => by have := o14.lt e; have := n_b13.ge; omega
          clear u_w16 n_b13 hch o14
          repeat (first | refine Vx ?_ | (apply Ops_q; (case hon => exact Va); (case hd => rfl); (case hq => exact YlA)) | refine Vt ?_ | refine Vf ?_ | refine Vm ?_ | refine Ve ?_ | refine Vo ?_ | refine Vz ?_ | refine Vn ?_)
          refine V_givers 13 [89, 90, 95, 96] (GivOr x h) (fun _ _ _ _ he hg => hg.ext he) (by kernel_rfl) (by kernel_rfl) (by kernel_rfl) ?_
          repeat (first | (apply YsH.q; (case h2 => rfl); (case h3 => rfl); (case hq => exact YlA)) | refine YsH.nil rfl ?_)
          refine YsH.g rfl rfl (by kernel_rfl) ((Gvs_lit rfl rfl).imp (fun v w' ⟨b, h1, _, h2⟩ => ⟨b, h1, h2⟩)) ?_
          refine YsH.d rfl rfl (LateD_call rfl (fun v w' _ ⟨b, h1, h2⟩ => by subst h1; exact (orA_v ⟨b, 0, none⟩ [(x.addr : Int), (h.addr : Int)] 2 2 w' rfl (show 2 ≤ 64 by decide) h2.cells).mono fun e w'' he => ⟨_, he.1, he.2, rfl⟩)) ?_
          repeat (first | (apply YsH.q; (case h2 => rfl); (case h3 => rfl); (case hq => exact YlA)) | refine YsH.nil rfl ?_)
          refine YsH.g rfl rfl (by kernel_rfl) ((Gvs_lit rfl rfl).imp (fun v w' ⟨b, h1, _, h2⟩ => ⟨b, h1, h2⟩)) ?_
          refine YsH.d rfl rfl (LateD_call rfl (fun v w' _ ⟨b, h1, h2⟩ => by subst h1; exact (orU_v ⟨b, 0, none⟩ [(x.router : Int), (h.router : Int)] 2 2 w' rfl (show 2 ≤ 64 by decide) h2.cells).mono fun e w'' he => ⟨_, he.1, he.2, rfl⟩)) ?_
          repeat (first | (apply YsH.q; (case h2 => rfl); (case h3 => rfl); (case hq => exact YlA)) | refine YsH.nil rfl ?_)
          intro Y w17 e17 hY
          have hY1 : Y 90 = .int .u32 (orL [(x.addr : Int), (h.addr : Int)]) := hY 90 (by decide)
          have hY2 : Y 96 = .int .u32 (orL [(x.router : Int), (h.router : Int)]) := hY 96 (by decide)
          unfold givn
          simp only [List.map_cons, List.map_nil, List.cons_append, List.nil_append]
          rw [hY1, hY2, orL2, orL2]
          have kb13 := k_b13.ext e17
          have x17 := x16.trans e17
          have o17 := o16.ext e17
          have k517 := k516.ext e17
          clear k_b13 o16 k516
          repeat (first | refine Vx ?_ | (apply Ops_q; (case hon => exact Va); (case hd => rfl); (case hq => exact YlA)) | refine Vr ?_ | refine Vt ?_ | refine Vf ?_ | refine Vm ?_ | refine Ve ?_ | refine Vo ?_ | refine Vz ?_ | refine Vn ?_)
          refine Ops_store (by exact Va) rfl rfl kb13 (by first | rfl | exact OneAll.h) ?_
          intro w18 u18
          have k18 := u18.blk
          repeat (first | refine Vx ?_ | (apply Ops_q; (case hon => exact Va); (case hd => rfl); (case hq => exact YlA)) | refine Vr ?_ | refine Vt ?_ | refine Vf ?_ | refine Vm ?_ | refine Ve ?_ | refine Vo ?_ | refine Vz ?_ | refine Vn ?_)
          refine Ops_store (by exact Va) rfl rfl k18 (by first | rfl | exact OneAll.h) ?_
          intro w19 u19
          have k19 := u19.blk
          have ne5 : b5 ≠ b13 := Nat.ne_of_lt (Nat.lt_of_lt_of_le k5.lt g13')
          have k519 := u19.keep (u18.keep k517 ne5) ne5
          have hik : InK .i64 (x.weight * h.weight) := by
            generalize x.weight * h.weight = z at *
            simp only [InK]; omega
          repeat (first | refine Vx ?_ | (apply Ops_q; (case hon => exact Va); (case hd => rfl); (case hq => exact YlA)) | refine Vr ?_ | refine Vt ?_ | refine Vf ?_ | refine Vm ?_ | refine Ve ?_ | refine Vo ?_ | refine Vz ?_ | refine Vn ?_)
          refine Ops_store (by exact Va) rfl rfl k19 (by first | rfl | exact OneAll.h) ?_
          intro w20 u20
          have k20 : Blk w20 b13 48 (orH h x).cells := by
            have := u20.blk
            unfold orH Nh.cells
            dsimp only
            exact this
          have x20 : Ext w13 w20 := u20.below (u19.below (u18.below x17 g13') g13') g13'
          have o20 := ((o17.upd u18 ne13).upd u19 ne13).upd u20 ne13
          clear u18 u19 u20 k18 k19 o17
          unfold Nh.cells at k20
          repeat (first | refine Vx ?_ | (apply Ops_q; (case hon => exact Va); (case hd => rfl); (case hq => exact YlA)) | refine Vr ?_ | refine Vt ?_ | refine Vf ?_ | refine Vm ?_ | refine Ve ?_ | refine Vo ?_ | refine Vz ?_ | refine Vn ?_)
          (refine Ops_lit (by exact Va) rfl rfl rfl ?_; intro w21 bl n_bl; have k_bl := n_bl.blk)
          have o21 := o20.ext n_bl.ext
          have x21 := x20.trans n_bl.ext
          have hlen : (((L.take k).map (orH h)).map Nh.cells).length ≤ 64 := by rw [List.length_map, List.length_map, List.length_take]; omega
          repeat (first | refine Vx ?_ | (apply Ops_q; (case hon => exact Va); (case hd => rfl); (case hq => exact YlA)) | refine Vr ?_ | refine Vt ?_ | refine Vf ?_ | refine Vm ?_ | refine Ve ?_ | refine Vo ?_ | refine Vz ?_ | refine Vn ?_)
          (refine Ops_append1 (by exact Va) rfl rfl rfl rfl o21 k_bl.cells inferInstance inferInstance (by first | omega | (rw [List.length_map]; omega)) rfl x21.size ?_; intro v' w22 o_v' g_w22 d_v')
          have x22 := grow_below x21 g_w22 (fun c hc => o21.ge hc)
          repeat (first | refine Vx ?_ | (apply Ops_q; (case hon => exact Va); (case hd => rfl); (case hq => exact YlA)) | refine Vr ?_ | refine Vt ?_ | refine Vf ?_ | refine Vm ?_ | refine Ve ?_ | refine Vo ?_ | refine Vz ?_ | refine Vn ?_)
          refine ⟨(k + 1, v'), (by repeat (first | exact trivial | refine ⟨rfl, ?_⟩)), ⟨x22, hkl, ?_⟩, by simp only; omega⟩
          dsimp only
          rw [List.take_add_one, hx, List.map_append, List.map_append]
          exact o_v'
        · obtain rfl : k = L.length := by have := of_decide_eq_false hg; omega
          rw [List.take_length] at o14
          obtain ⟨ao2, c2, rfl, hA2, hc2, hn2⟩ := o14.slice2
          repeat (first | refine Vx ?_ | (apply Ops_q; (case hon => exact Va); (case hd => rfl); (case hq => exact YlA)) | refine Vr ?_ | refine Vt ?_ | refine Vf ?_ | refine Vm ?_ | refine Ve ?_ | refine Vo ?_ | refine Vz ?_ | refine Vn ?_)
          refine ret2 (by first | exact .inl rfl | exact .inr rfl) rfl rfl rfl ?_
          refine Does_mk (fun w' he => ?_) (m13.ext x14)
          rw [hop1]
          refine ⟨h13.ext (x14.trans he), ao2, c2, ?_, hA2.ext he, by rw [List.length_map] at hc2; exact hc2, hn2, fun a ha => ?_⟩
          · rw [List.length_map]
          · subst ha
            exact ⟨Nat.le_trans m13.size (o14.ge rfl), Nat.lt_of_lt_of_le (o14.lt rfl) he.size⟩
    · have d4 : (!decide (er = 0)) = true := by rw [decide_eq_false t4]; rfl
      refine V_yes rfl d4 ?_
      repeat (first | refine Vx ?_ | (apply Ops_q; (case hon => exact Va); (case hd => rfl); (case hq => exact YlA)) | refine Vr ?_ | refine Vt ?_ | refine Vf ?_ | refine Vm ?_ | refine Ve ?_ | refine Vo ?_ | refine Vz ?_ | refine Vn ?_)
      refine ret2 (by first | exact .inl rfl | exact .inr rfl) rfl rfl rfl ?_
      exact hout er (by rw [hop1, if_pos t4])
end
end Go.Proofs.Ytkdjbddjblahkaa

/-
  Stable sorting in plain lists: swaps, rotations, merges.
  No conditions beyond those that each statement names.
-/
namespace Go.Proofs.Ytkdjbddjblahkaa

/-- Two elements change places. -/
def swp {α : Type} (L : List α) (i j : Nat) : List α := match L[i]?, L[j]? with
  | some x, some y => (L.set i y).set j x
  | _, _ => L
section
variable {α : Type} {L L' L'' : List α} {a b c m i j k n : Nat}
theorem swp_len : (swp L i j).length = L.length := by
  unfold swp
  split <;> simp
theorem swp_get (hi : i < L.length) (hj : j < L.length) (k : Nat) : (swp L i j)[k]? = if k = j then L[i]? else if k = i then L[j]? else L[k]? := by
  unfold swp
  rw [List.getElem?_eq_getElem hi, List.getElem?_eq_getElem hj]
  simp only [List.getElem?_set, List.length_set]
  by_cases h1 : k = j
  · subst h1; simp [hj]
  · rw [if_neg (Ne.symm h1), if_neg h1]
    by_cases h2 : k = i
    · subst h2; simp [hi]
    · rw [if_neg (Ne.symm h2), if_neg h2]
theorem swp_perm (hi : i < L.length) (hj : j < L.length) : (swp L i j).Perm L := by
  unfold swp
  rw [List.getElem?_eq_getElem hi, List.getElem?_eq_getElem hj]
  exact List.set_set_perm hi hj
theorem list_ext {A B : List α} (h : ∀ k : Nat, A[k]? = B[k]?) : A = B := List.ext_getElem? h
/-- What a list holds after other elements of the same range took its places; outside of it nothing has changed. -/
structure Moved (L L' : List α) (a b : Nat) : Prop where
  perm : L'.Perm L
  out : ∀ k, k < a ∨ b ≤ k → L'[k]? = L[k]?
  ins : ∀ k, a ≤ k → k < b → ∃ k', a ≤ k' ∧ k' < b ∧ L'[k]? = L[k']?
theorem Moved.refl (L : List α) (a b : Nat) : Moved L L a b := ⟨.refl _, fun _ _ => rfl, fun k h1 h2 => ⟨k, h1, h2, rfl⟩⟩
theorem Moved.len (h : Moved L L' a b) : L'.length = L.length := h.perm.length_eq
theorem Moved.trans (h : Moved L L' a b) (h2 : Moved L' L'' a b) : Moved L L'' a b := by
  refine ⟨h2.perm.trans h.perm, fun k hk => (h2.out k hk).trans (h.out k hk), fun k h3 h4 => ?_⟩
  obtain ⟨k1, p1, p2, p3⟩ := h2.ins k h3 h4
  obtain ⟨k2, q1, q2, q3⟩ := h.ins k1 p1 p2
  exact ⟨k2, q1, q2, p3.trans q3⟩
theorem Moved.wide {a' b' : Nat} (h : Moved L L' a b) (ha : a' ≤ a) (hb : b ≤ b') : Moved L L' a' b' := by
  refine ⟨h.perm, fun k hk => h.out k (by omega), fun k h3 h4 => ?_⟩
  by_cases hk : a ≤ k ∧ k < b
  · obtain ⟨k1, p1, p2, p3⟩ := h.ins k hk.1 hk.2
    exact ⟨k1, by omega, by omega, p3⟩
  · exact ⟨k, h3, h4, h.out k (by omega)⟩
theorem Moved.swp (hi : a ≤ i ∧ i < b) (hj : a ≤ j ∧ j < b) (hb : b ≤ L.length) : Moved L (swp L i j) a b := by
  have g := swp_get (L := L) (i := i) (j := j) (by omega) (by omega)
  refine ⟨swp_perm (by omega) (by omega), fun k hk => ?_, fun k h1 h2 => ?_⟩
  · rw [g, if_neg (by omega), if_neg (by omega)]
  · rw [g]
    split
    · exact ⟨i, hi.1, hi.2, rfl⟩
    · split
      · exact ⟨j, hj.1, hj.2, rfl⟩
      · exact ⟨k, h1, h2, rfl⟩
/-- An order by a function that compares, as Go's packages take it. -/
structure Ord (cf : α → α → Int) : Prop where
  tot : ∀ x y, cf x y < 0 → ¬cf y x < 0
  tr : ∀ x y z, ¬cf y x < 0 → ¬cf z y < 0 → ¬cf z x < 0
variable {cf : α → α → Int}
/-- Ascending from a on, below b. -/
def Asc (cf : α → α → Int) (L : List α) (a b : Nat) : Prop := ∀ i j x y, a ≤ i → i < j → j < b → L[i]? = some x → L[j]? = some y → ¬cf y x < 0
theorem Asc.part {a' b' : Nat} (h : Asc cf L a b) (ha : a ≤ a') (hb : b' ≤ b) : Asc cf L a' b' := fun i j x y h1 h2 h3 => h i j x y (by omega) h2 (by omega)
theorem Asc.one (h : b ≤ a + 1) : Asc cf L a b := fun i j x y h1 h2 h3 => by omega
theorem Asc.same (h : Asc cf L a b) (hs : ∀ k, a ≤ k → k < b → L'[k]? = L[k]?) : Asc cf L' a b := fun i j x y h1 h2 h3 hx hy => by
  rw [hs i h1 (by omega)] at hx
  rw [hs j (by omega) h3] at hy
  exact h i j x y h1 h2 h3 hx hy
/-- Everything in the first range is at most everything in the second. -/
def Below2 (cf : α → α → Int) (L : List α) (a b c d : Nat) : Prop := ∀ i j x y, a ≤ i → i < b → c ≤ j → j < d → L[i]? = some x → L[j]? = some y → ¬cf y x < 0
theorem Asc.join (h1 : Asc cf L a m) (h2 : Asc cf L m b) (h3 : Below2 cf L a m m b) : Asc cf L a b := fun i j x y p1 p2 p3 hx hy => by
  rcases Nat.lt_or_ge j m with h | h
  · exact h1 i j x y p1 p2 h hx hy
  · rcases Nat.lt_or_ge i m with h' | h'
    · exact h3 i j x y p1 h' h p3 hx hy
    · exact h2 i j x y h' p2 p3 hx hy
theorem Below2.moved {d : Nat} (h : Below2 cf L a b c d) (h1 : Moved L L' a b) (hc : b ≤ c) : Below2 cf L' a b c d := fun i j x y p1 p2 p3 p4 hx hy => by
  obtain ⟨k, q1, q2, q3⟩ := h1.ins i p1 p2
  rw [q3] at hx
  rw [h1.out j (by omega)] at hy
  exact h k j x y q1 q2 p3 p4 hx hy
theorem Below2.moved' {d : Nat} (h : Below2 cf L a b c d) (h1 : Moved L L' c d) (hc : b ≤ c) : Below2 cf L' a b c d := fun i j x y p1 p2 p3 p4 hx hy => by
  obtain ⟨k, q1, q2, q3⟩ := h1.ins j p3 p4
  rw [q3] at hy
  rw [h1.out i (by omega)] at hx
  exact h i k x y p1 p2 q1 q2 hx hy
/-! ### Insertion -/
/-- Ascending but for the element at j, which may be less than those before it. -/
def AscX (cf : α → α → Int) (L : List α) (a b j : Nat) : Prop := ∀ p q x y, a ≤ p → p < q → q < b → q ≠ j → L[p]? = some x → L[q]? = some y → ¬cf y x < 0
theorem AscX.start (h : Asc cf L a i) : AscX cf L a (i + 1) i := fun p q x y h1 h2 h3 h4 => h p q x y h1 h2 (by omega)
theorem AscX.step (ho : Ord cf) (h : AscX cf L a b (j + 1)) (ha : a ≤ j) (hb : j + 1 < b) (hl : b ≤ L.length) {x y : α} (hx : L[j + 1]? = some x) (hy : L[j]? = some y) (hlt : cf x y < 0) : AscX cf (swp L (j + 1) j) a b j := by
  have g := swp_get (L := L) (i := j + 1) (j := j) (by omega) (by omega)
  intro p q u v h1 h2 h3 h4 hu hv
  rw [g] at hu hv
  rw [if_neg h4] at hv
  by_cases e1 : p = j
  · rw [if_pos e1, hx] at hu
    cases hu
    by_cases e2 : q = j + 1
    · rw [if_pos e2, hy] at hv
      cases hv
      exact ho.tot _ _ hlt
    · rw [if_neg e2] at hv
      exact h (j + 1) q x v (by omega) (by omega) h3 e2 hx hv
  · rw [if_neg e1] at hu
    by_cases e3 : p = j + 1
    · rw [if_pos e3, hy] at hu
      cases hu
      rw [if_neg (by omega)] at hv
      exact h j q y v ha (by omega) h3 (by omega) hy hv
    · rw [if_neg e3] at hu
      by_cases e2 : q = j + 1
      · rw [if_pos e2, hy] at hv
        cases hv
        exact h p j u y h1 (by omega) (by omega) (by omega) hu hy
      · rw [if_neg e2] at hv
        exact h p q u v h1 h2 h3 e2 hu hv
theorem AscX.stop (ho : Ord cf) (h : AscX cf L a b j) (hj : j ≤ a ∨ ∃ x y, L[j]? = some x ∧ L[j - 1]? = some y ∧ ¬cf x y < 0) : Asc cf L a b := by
  intro p q x y h1 h2 h3 hx hy
  by_cases e : q = j
  · subst e
    rcases hj with hj | ⟨u, v, hu, hv, huv⟩
    · omega
    · rw [hy] at hu; cases hu
      by_cases e2 : p = q - 1
      · subst e2
        rw [hx] at hv; cases hv
        exact huv
      · exact ho.tr _ _ _ (h p (q - 1) x v h1 (by omega) (by omega) (by omega) hx hv) huv
  · exact h p q x y h1 h2 h3 e hx hy
/-! ### Rotations -/
def rotF (f : Nat → Option α) (lo m hi k : Nat) : Option α := if lo ≤ k ∧ k < lo + (hi - m) then f (m + (k - lo)) else if lo + (hi - m) ≤ k ∧ k < hi then f (lo + (k - (lo + (hi - m)))) else f k
def swrF (f : Nat → Option α) (a b n k : Nat) : Option α := if a ≤ k ∧ k < a + n then f (b + (k - a)) else if b ≤ k ∧ k < b + n then f (a + (k - b)) else f k
theorem swr_step {f : Nat → Option α} (hab : a + n ≤ b) (hi : i < n) (h : ∀ k, L[k]? = swrF f a b i k) (hL : b + n ≤ L.length) (k : Nat) : (swp L (a + i) (b + i))[k]? = swrF f a b (i + 1) k := by
  rw [swp_get (by omega) (by omega), h, h, h]
  unfold swrF
  by_cases e1 : k = b + i
  · subst e1
    rw [if_pos rfl, if_neg (by omega), if_neg (by omega), if_neg (by omega), if_pos (by omega)]
    congr 1; omega
  · rw [if_neg e1]
    by_cases e2 : k = a + i
    · subst e2
      rw [if_pos rfl, if_neg (by omega), if_neg (by omega), if_pos (by omega)]
      congr 1; omega
    · rw [if_neg e2]
      by_cases h1 : a ≤ k ∧ k < a + i
      · rw [if_pos h1, if_pos (by omega)]
      · rw [if_neg h1]
        by_cases h2 : b ≤ k ∧ k < b + i
        · rw [if_pos h2, if_neg (by omega), if_pos (by omega)]
        · rw [if_neg h2, if_neg (by omega), if_neg (by omega)]
theorem rot_big {f g : Nat → Option α} (him : i ≤ m) (hij : j < i) (h : ∀ k, g k = swrF f (m - i) m j k) (k : Nat) : rotF g (m - (i - j)) m (m + j) k = rotF f (m - i) m (m + j) k := by
  unfold rotF
  by_cases c1 : m - (i - j) ≤ k ∧ k < m - (i - j) + (m + j - m)
  · rw [if_pos c1, h, swrF, if_neg (by omega), if_pos (by omega), if_neg (by omega), if_pos (by omega)]
    congr 1; omega
  · rw [if_neg c1]
    by_cases c2 : m - (i - j) + (m + j - m) ≤ k ∧ k < m + j
    · rw [if_pos c2, h, swrF, if_neg (by omega), if_neg (by omega), if_neg (by omega), if_pos (by omega)]
      congr 1; omega
    · rw [if_neg c2, h, swrF]
      by_cases c3 : m - i ≤ k ∧ k < m - i + j
      · rw [if_pos c3, if_pos (by omega)]
      · rw [if_neg c3, if_neg (by omega), if_neg (by omega), if_neg (by omega)]
theorem rot_small {f g : Nat → Option α} (him : i ≤ m) (hij : i < j) (h : ∀ k, g k = swrF f (m - i) (m + j - i) i k) (k : Nat) : rotF g (m - i) m (m + (j - i)) k = rotF f (m - i) m (m + j) k := by
  unfold rotF
  by_cases c1 : m - i ≤ k ∧ k < m - i + (m + (j - i) - m)
  · rw [if_pos c1, h, swrF, if_neg (by omega), if_neg (by omega), if_pos (by omega)]
  · rw [if_neg c1]
    by_cases c2 : m - i + (m + (j - i) - m) ≤ k ∧ k < m + (j - i)
    · rw [if_pos c2, h, swrF, if_pos (by omega), if_pos (by omega)]
      congr 1; omega
    · rw [if_neg c2, h, swrF, if_neg (by omega)]
      by_cases c3 : m + j - i ≤ k ∧ k < m + j - i + i
      · rw [if_pos c3, if_neg (by omega), if_pos (by omega)]
        congr 1; omega
      · rw [if_neg c3, if_neg (by omega), if_neg (by omega)]
theorem rot_end {f g : Nat → Option α} (him : i ≤ m) (h : ∀ k, g k = swrF f (m - i) m i k) (k : Nat) : g k = rotF f (m - i) m (m + i) k := by
  rw [h]
  unfold rotF swrF
  by_cases c1 : m - i ≤ k ∧ k < m - i + i
  · rw [if_pos c1, if_pos (by omega)]
  · rw [if_neg c1]
    by_cases c2 : m ≤ k ∧ k < m + i
    · rw [if_pos c2, if_neg (by omega), if_pos (by omega)]
      congr 1; omega
    · rw [if_neg c2, if_neg (by omega), if_neg (by omega)]
theorem rot_none {f : Nat → Option α} {lo hi : Nat} (h1 : lo ≤ m) (h2 : m ≤ hi) (h : lo = m ∨ m = hi) (k : Nat) : rotF f lo m hi k = f k := by
  unfold rotF
  by_cases c1 : lo ≤ k ∧ k < lo + (hi - m)
  · rw [if_pos c1]; congr 1; omega
  · rw [if_neg c1]
    by_cases c2 : lo + (hi - m) ≤ k ∧ k < hi
    · rw [if_pos c2]; congr 1; omega
    · rw [if_neg c2]
theorem Moved.rot {lo hi : Nat} (hp : L'.Perm L) (h : ∀ k, L'[k]? = rotF (fun k => L[k]?) lo m hi k) (h1 : lo ≤ m) (h2 : m ≤ hi) : Moved L L' lo hi := by
  refine ⟨hp, fun k hk => ?_, fun k h3 h4 => ?_⟩
  · rw [h, rotF, if_neg (by omega), if_neg (by omega)]
  · rw [h, rotF]
    by_cases c1 : lo ≤ k ∧ k < lo + (hi - m)
    · exact ⟨m + (k - lo), by omega, by omega, by rw [if_pos c1]⟩
    · exact ⟨lo + (k - (lo + (hi - m))), by omega, by omega, by rw [if_neg c1, if_pos (by omega)]⟩
/-! ### Merging -/
/-- After the rotation the elements before the middle are at most those behind it. -/
theorem merge_rot (ho : Ord cf) {s e : Nat} (hA : Asc cf L a m) (hB : Asc cf L m b) (h1 : a ≤ s) (h2 : s ≤ m) (h3 : m ≤ e) (h4 : e ≤ b)
    (hlo : s = a ∨ e = b ∨ ∃ x y, L[e]? = some x ∧ L[s - 1]? = some y ∧ ¬cf x y < 0)
    (hhi : s = m ∨ e = m ∨ ∃ x y, L[e - 1]? = some x ∧ L[s]? = some y ∧ cf x y < 0)
    (h : ∀ k, L'[k]? = rotF (fun k => L[k]?) s m e k) :
    Asc cf L' a s ∧ Asc cf L' s (s + (e - m)) ∧ Asc cf L' (s + (e - m)) e ∧ Asc cf L' e b ∧ Below2 cf L' a (s + (e - m)) (s + (e - m)) b := by
  -- the four parts of the old list
  have r1 : ∀ k, k < s → L'[k]? = L[k]? := fun k hk => by rw [h, rotF, if_neg (by omega), if_neg (by omega)]
  have r2 : ∀ k, s ≤ k → k < s + (e - m) → L'[k]? = L[m + (k - s)]? := fun k hk hk2 => by rw [h, rotF, if_pos (by omega)]
  have r3 : ∀ k, s + (e - m) ≤ k → k < e → L'[k]? = L[s + (k - (s + (e - m)))]? := fun k hk hk2 => by rw [h, rotF, if_neg (by omega), if_pos (by omega)]
  have r4 : ∀ k, e ≤ k → L'[k]? = L[k]? := fun k hk => by rw [h, rotF, if_neg (by omega), if_neg (by omega)]
  refine ⟨fun i j x y p1 p2 p3 hx hy => ?_, fun i j x y p1 p2 p3 hx hy => ?_, fun i j x y p1 p2 p3 hx hy => ?_, fun i j x y p1 p2 p3 hx hy => ?_, fun i j x y p1 p2 p3 p4 hx hy => ?_⟩
  · rw [r1 i (by omega)] at hx
    rw [r1 j p3] at hy
    exact hA i j x y p1 p2 (by omega) hx hy
  · rw [r2 i p1 (by omega)] at hx
    rw [r2 j (by omega) p3] at hy
    exact hB _ _ x y (by omega) (by omega) (by omega) hx hy
  · rw [r3 i p1 (by omega)] at hx
    rw [r3 j (by omega) p3] at hy
    exact hA _ _ x y (by omega) (by omega) (by omega) hx hy
  · rw [r4 i p1] at hx
    rw [r4 j (by omega)] at hy
    exact hB i j x y (by omega) p2 p3 hx hy
  · -- a helper: at most, or the same place
    have leA : ∀ i j x y, a ≤ i → i ≤ j → j < m → L[i]? = some x → L[j]? = some y → ¬cf y x < 0 := fun i j x y q1 q2 q3 hx hy => by
      rcases Nat.lt_or_ge i j with h | h
      · exact hA i j x y q1 h q3 hx hy
      · obtain rfl : i = j := by omega
        rw [hx] at hy; cases hy
        exact fun hh => ho.tot _ _ hh hh
    have leB : ∀ i j x y, m ≤ i → i ≤ j → j < b → L[i]? = some x → L[j]? = some y → ¬cf y x < 0 := fun i j x y q1 q2 q3 hx hy => by
      rcases Nat.lt_or_ge i j with h | h
      · exact hB i j x y q1 h q3 hx hy
      · obtain rfl : i = j := by omega
        rw [hx] at hy; cases hy
        exact fun hh => ho.tot _ _ hh hh
    rcases Nat.lt_or_ge i s with c1 | c1
    · rw [r1 i c1] at hx
      rcases Nat.lt_or_ge j e with c2 | c2
      · rw [r3 j p3 c2] at hy
        exact leA _ _ x y p1 (by omega) (by omega) hx hy
      · rw [r4 j c2] at hy
        rcases hlo with hlo | hlo | ⟨u, v, hu, hv, huv⟩
        · omega
        · omega
        · have q1 := leA i (s - 1) x v p1 (by omega) (by omega) hx hv
          have q2 := leB e j u y h3 c2 p4 hu hy
          exact ho.tr _ _ _ (ho.tr _ _ _ q1 huv) q2
    · rw [r2 i c1 p2] at hx
      rcases Nat.lt_or_ge j e with c2 | c2
      · rw [r3 j p3 c2] at hy
        rcases hhi with hhi | hhi | ⟨u, v, hu, hv, huv⟩
        · omega
        · omega
        · have q1 := leB (m + (i - s)) (e - 1) x u (by omega) (by omega) (by omega) hx hu
          have q2 := leA s _ v y h1 (by omega) (by omega) hv hy
          exact ho.tr _ _ _ (ho.tr _ _ _ q1 (ho.tot _ _ huv)) q2
      · rw [r4 j c2] at hy
        exact leB _ _ x y (by omega) (by omega) p4 hx hy
theorem rot_l {k : Nat} (hak : a ≤ k) (h : ∀ x, L'[x]? = rotF (fun x => L[x]?) a (a + 1) (k + 1) x) (hk : k + 1 < L'.length) (x : Nat) : (swp L' k (k + 1))[x]? = rotF (fun x => L[x]?) a (a + 1) (k + 2) x := by
  rw [swp_get (by omega) hk, h, h, h]
  unfold rotF
  by_cases e1 : x = k + 1
  · subst e1
    rw [if_pos rfl, if_neg (by omega), if_pos (by omega), if_neg (by omega), if_pos (by omega)]
    congr 1; omega
  · rw [if_neg e1]
    by_cases e2 : x = k
    · subst e2
      rw [if_pos rfl, if_neg (by omega), if_neg (by omega), if_pos (by omega)]
      congr 1; omega
    · rw [if_neg e2]
      by_cases c1 : a ≤ x ∧ x < a + (k + 1 - (a + 1))
      · rw [if_pos c1, if_pos (by omega)]
      · rw [if_neg c1, if_neg (by omega), if_neg (by omega), if_neg (by omega)]
theorem rot_r {k : Nat} (hk1 : 1 ≤ k) (hkm : k ≤ m) (h : ∀ x, L'[x]? = rotF (fun x => L[x]?) k m (m + 1) x) (hk : m < L'.length) (x : Nat) : (swp L' k (k - 1))[x]? = rotF (fun x => L[x]?) (k - 1) m (m + 1) x := by
  rw [swp_get (by omega) (by omega), h, h, h]
  unfold rotF
  by_cases e1 : x = k - 1
  · subst e1
    rw [if_pos rfl, if_pos (by omega), if_pos (by omega)]
    congr 1; omega
  · rw [if_neg e1]
    by_cases e2 : x = k
    · subst e2
      rw [if_pos rfl, if_neg (by omega), if_neg (by omega), if_neg (by omega), if_pos (by omega)]
      congr 1; omega
    · rw [if_neg e2]
      by_cases c1 : k ≤ x ∧ x < k + (m + 1 - m)
      · omega
      · rw [if_neg c1]
        by_cases c2 : k + (m + 1 - m) ≤ x ∧ x < m + 1
        · rw [if_pos c2, if_neg (by omega), if_pos (by omega)]
          congr 1; omega
        · rw [if_neg c2, if_neg (by omega), if_neg (by omega)]
theorem merge_left (ho : Ord cf) {e : Nat} (hB : Asc cf L (a + 1) b) (h3 : a + 1 ≤ e) (h4 : e ≤ b)
    (hlo : e = b ∨ ∃ x y, L[e]? = some x ∧ L[a]? = some y ∧ ¬cf x y < 0) (hhi : e = a + 1 ∨ ∃ x y, L[e - 1]? = some x ∧ L[a]? = some y ∧ cf x y < 0)
    (h : ∀ k, L'[k]? = rotF (fun k => L[k]?) a (a + 1) e k) : Asc cf L' a b := by
  obtain ⟨_, q2, q3, q4, q5⟩ := merge_rot ho (a := a) (m := a + 1) (b := b) (s := a) (e := e) (Asc.one (Nat.le_refl _)) hB (Nat.le_refl _) (by omega) h3 h4 (.inl rfl) (hhi.imp id id |> .inr) h
  rw [show a + (e - (a + 1)) = e - 1 by omega] at q2 q3 q5
  refine Asc.join q2 (fun i j x y p1 p2 p3 hx hy => ?_) q5
  rcases Nat.lt_or_ge i e with c | c
  · obtain rfl : i = e - 1 := by omega
    rw [h, rotF, if_neg (by omega), if_pos (by omega), show a + (e - 1 - (a + (e - (a + 1)))) = a by omega] at hx
    rw [h, rotF, if_neg (by omega), if_neg (by omega)] at hy
    rcases hlo with hlo | ⟨u, v, hu, hv, huv⟩
    · omega
    · rw [hx] at hv; cases hv
      rcases Nat.lt_or_ge e j with c2 | c2
      · exact ho.tr _ _ _ huv (hB e j u y h3 c2 p3 hu hy)
      · obtain rfl : j = e := by omega
        rw [hy] at hu; cases hu
        exact huv
  · exact q4 i j x y c p2 p3 hx hy
theorem merge_right (ho : Ord cf) {s : Nat} (hA : Asc cf L a m) (h1 : a ≤ s) (h2 : s ≤ m)
    (hlo : s = a ∨ ∃ x y, L[m]? = some x ∧ L[s - 1]? = some y ∧ ¬cf x y < 0) (hhi : s = m ∨ ∃ x y, L[m]? = some x ∧ L[s]? = some y ∧ cf x y < 0)
    (h : ∀ k, L'[k]? = rotF (fun k => L[k]?) s m (m + 1) k) : Asc cf L' a (m + 1) := by
  obtain ⟨q1, q2, q3, _, q5⟩ := merge_rot ho (a := a) (m := m) (b := m + 1) (s := s) (e := m + 1) hA (Asc.one (Nat.le_refl _)) h1 h2 (Nat.le_succ _) (Nat.le_refl _) (.inr (.inl rfl)) (hhi.imp id (fun h => .inr h)) h
  rw [show s + (m + 1 - m) = s + 1 by omega] at q2 q3 q5
  refine Asc.join (fun i j x y p1 p2 p3 hx hy => ?_) q3 q5
  rcases Nat.lt_or_ge j s with c | c
  · exact q1 i j x y p1 p2 c hx hy
  · obtain rfl : j = s := by omega
    rw [h, rotF, if_neg (by omega), if_neg (by omega)] at hx
    rw [h, rotF, if_pos (by omega), show m + (j - j) = m by omega] at hy
    rcases hlo with hlo | ⟨u, v, hu, hv, huv⟩
    · omega
    · rw [hy] at hu; cases hu
      rcases Nat.lt_or_ge i (j - 1) with c2 | c2
      · exact ho.tr _ _ _ (hA i (j - 1) x v p1 c2 (by omega) hx hv) huv
      · obtain rfl : i = j - 1 := by omega
        rw [hx] at hv; cases hv
        exact huv
/-! ### Blocks -/
/-- Each block of s elements is ascending. -/
def Blocks (cf : α → α → Int) (L : List α) (n s : Nat) : Prop := ∀ q, Asc cf L (q * s) (min (q * s + s) n)
/-- The first blocks are merged by two. -/
def MidB (cf : α → α → Int) (L : List α) (n s q0 : Nat) : Prop := (∀ q, q < q0 → Asc cf L (q * (2 * s)) (q * (2 * s) + 2 * s)) ∧ ∀ q, 2 * q0 ≤ q → Asc cf L (q * s) (min (q * s + s) n)
theorem mul_step {q q0 t : Nat} (h : q < q0) : q * t + t ≤ q0 * t := by rw [← Nat.succ_mul]; exact Nat.mul_le_mul_right _ h
theorem Blocks.mid {s : Nat} (h : Blocks cf L n s) : MidB cf L n s 0 := ⟨fun _ hq => absurd hq (Nat.not_lt_zero _), fun q _ => h q⟩
theorem dbl (q s : Nat) : 2 * q * s = q * (2 * s) := by rw [Nat.mul_comm 2 q, Nat.mul_assoc]
theorem dbl1 (q s : Nat) : (2 * q + 1) * s = q * (2 * s) + s := by rw [Nat.succ_mul, dbl]
theorem MidB.parts {s q0 : Nat} (h : MidB cf L n s q0) (hb : q0 * (2 * s) + s ≤ n) : Asc cf L (q0 * (2 * s)) (q0 * (2 * s) + s) ∧ Asc cf L (q0 * (2 * s) + s) (min (q0 * (2 * s) + 2 * s) n) := by
  have h1 := h.2 (2 * q0) (Nat.le_refl _)
  have h2 := h.2 (2 * q0 + 1) (by omega)
  rw [dbl] at h1
  rw [dbl1] at h2
  refine ⟨h1.part (Nat.le_refl _) (by omega), h2.part (Nat.le_refl _) (by omega)⟩
theorem MidB.step {s q0 : Nat} (h : MidB cf L n s q0) (hm : Moved L L' (q0 * (2 * s)) (q0 * (2 * s) + 2 * s)) (ha : Asc cf L' (q0 * (2 * s)) (q0 * (2 * s) + 2 * s)) : MidB cf L' n s (q0 + 1) := by
  refine ⟨fun q hq => ?_, fun q hq => (h.2 q (by omega)).same fun k h1 h2 => hm.out k (.inr ?_)⟩
  · rcases Nat.lt_or_ge q q0 with c | c
    · have := mul_step (t := 2 * s) c
      exact (h.1 q c).same fun k h1 h2 => hm.out k (.inl (by omega))
    · obtain rfl : q = q0 := by omega
      exact ha
  · have : 2 * (q0 + 1) * s ≤ q * s := Nat.mul_le_mul_right _ hq
    rw [dbl, Nat.succ_mul] at this
    omega
theorem MidB.done {s q0 : Nat} (h : MidB cf L n s q0) (hn : n < q0 * (2 * s) + 2 * s) (hm : Moved L L' (q0 * (2 * s)) n) (ha : Asc cf L' (q0 * (2 * s)) n) : Blocks cf L' n (2 * s) := fun q => by
  rcases Nat.lt_or_ge q q0 with c | c
  · have := mul_step (t := 2 * s) c
    exact ((h.1 q c).part (Nat.le_refl _) (Nat.min_le_left _ _)).same fun k h1 h2 => hm.out k (by omega)
  · rcases Nat.lt_or_ge q0 q with c2 | c2
    · have := mul_step (t := 2 * s) c2
      exact Asc.one (by omega)
    · obtain rfl : q = q0 := by omega
      exact ha.part (Nat.le_refl _) (Nat.min_le_right _ _)
theorem MidB.rest {s q0 : Nat} (h : MidB cf L n s q0) (hn : n ≤ q0 * (2 * s) + s) : Asc cf L (q0 * (2 * s)) n := by
  have h1 := h.2 (2 * q0) (Nat.le_refl _)
  rw [dbl] at h1
  exact h1.part (Nat.le_refl _) (by omega)
def FirstB (cf : α → α → Int) (L : List α) (s q0 : Nat) : Prop := ∀ q, q < q0 → Asc cf L (q * s) (q * s + s)
theorem FirstB.step {s q0 : Nat} (h : FirstB cf L s q0) (hm : Moved L L' (q0 * s) (q0 * s + s)) (ha : Asc cf L' (q0 * s) (q0 * s + s)) : FirstB cf L' s (q0 + 1) := fun q hq => by
  rcases Nat.lt_or_ge q q0 with c | c
  · have := mul_step (t := s) c
    exact (h q c).same fun k h1 h2 => hm.out k (.inl (by omega))
  · obtain rfl : q = q0 := by omega
    exact ha
theorem FirstB.done {s q0 : Nat} (h : FirstB cf L s q0) (hn : n < q0 * s + s) (hm : Moved L L' (q0 * s) n) (ha : Asc cf L' (q0 * s) n) : Blocks cf L' n s := fun q => by
  rcases Nat.lt_or_ge q q0 with c | c
  · have := mul_step (t := s) c
    exact ((h q c).part (Nat.le_refl _) (Nat.min_le_left _ _)).same fun k h1 h2 => hm.out k (by omega)
  · rcases Nat.lt_or_ge q0 q with c2 | c2
    · have := mul_step (t := s) c2
      exact Asc.one (by omega)
    · obtain rfl : q = q0 := by omega
      exact ha.part (Nat.le_refl _) (Nat.min_le_right _ _)
theorem Blocks.all {s : Nat} (h : Blocks cf L n s) (hn : n ≤ s) : Asc cf L 0 n := by
  have := h 0
  rw [Nat.zero_mul] at this
  exact this.part (Nat.le_refl _) (by omega)
end
end Go.Proofs.Ytkdjbddjblahkaa

/-
  Regions that draw their order and hold one store among the first operations: the loads come before it, the others do not look at memory.
  No conditions beyond those that each rule states.
-/
namespace Go.Proofs.Ytkdjbddjblahkaa
open Go.RowKit

def isStore (o : Oper) : Bool := match o.op with
  | .store _ _ _ => true
  | _ => false
def isLoad (o : Oper) : Bool := match o.op with
  | .load _ _ => true
  | _ => false
section
variable {P : Program} {md : Region.Mode} {ops : Array Oper}
/-- What the operations do: the store leaves a world of which R is known; loads yield the same in every world that has grown from w0, the others in every world. -/
def storeY (P : Program) (w0 : World) (R : World → Prop) (o : Oper) (a : Act) (v : Value) : Prop :=
  if isStore o then v = undef ∧ ∀ w', Ext w0 w' → ∃ w'', (execOp a.eval o).run P w' = .ok .skip w'' ∧ R w'' else if isLoad o then yW P w0 o a v else ∀ w', o.quietAt P a (Ext w') w' v
theorem same_storeY (P : Program) (w0 : World) (R : World → Prop) : Same (storeY P w0 R) := fun o a a' v he h => by
  unfold storeY at *
  split at h
  · rename_i hd
    rw [if_pos hd]
    refine ⟨h.1, fun w' hw' => ?_⟩
    rw [he]; exact h.2 w' hw'
  · rename_i hd
    rw [if_neg hd]
    split at h
    · rename_i hl
      rw [if_pos hl]
      exact same_yW P w0 o a a' v he h
    · rename_i hl
      rw [if_neg hl]
      intro w'
      have := h w'
      unfold Oper.quietAt at *
      rwa [he]
theorem store_any {n s i0 : Nat} {Q1 : Act → Prop} {Q : Exit → Act → World → Prop} {w0 : World} {R : World → Prop} {pre : Array Oper} (hR : ∀ w w', Ext w w' → R w → R w') (hn : n ≤ ops.size) (hP : ∀ i o, i < n → ops[i]? = some o → pre[i]? = some o)
    (hA : ∀ i, n ≤ i → i < ops.size → ∀ j, j < n → reach ops md 9 i j = true)
    (hE : ∀ i o, ops[i]? = some o → i < n → ∀ e ∈ o.after, Region.binds md e = true → e.on < i)
    (hG : ∀ i o, ops[i]? = some o → i < n → o.guard = none) (h0 : i0 < n)
    (hS : ∀ i o, ops[i]? = some o → i < n → (isStore o = true ↔ i = i0)) (hS0 : ∀ o, ops[i0]? = some o → o.dst = none)
    (hLd : ∀ i o, ops[i]? = some o → i < n → isLoad o = true → reach ops md 9 i0 i = true)
    (last : ∀ a w, R w → Q1 a → wpAny P md ops Q s (upto ops.size n) a w) :
    ∀ (f : Nat) (L L' : Array Bool) (a : Act) (w : World), (L[i0]? = some false → Ext w0 w) → (L[i0]? = some true → R w) → L'.size = n → L.size = ops.size → (∀ j, j < n → L[j]? = L'[j]?) → (∀ j, n ≤ j → j < ops.size → L[j]? = some false) → cnt n L' = f →
      Closed ops md L → anyY md pre (storeY P w0 R) Q1 f L' a → wpAny P md ops Q (f + s) L a w := by
  intro f
  induction f with
  | zero =>
    intro L L' a w _ hX hs' hs h1 h2 hc hcl h
    have hlist : ∀ j, j < n → L[j]? = some true := fun j hj => by
      rw [h1 j hj]
      have := List.countP_eq_zero.1 hc j (List.mem_range.2 hj)
      have hlt : j < L'.size := by omega
      simp [hlt] at this
      simp [hlt, this]
    have hL : L = upto ops.size n := by
      refine Array.ext_getElem? fun j => ?_
      rcases Nat.lt_or_ge j ops.size with hj | hj
      · rw [upto_get _ _ _ hj]
        rcases Nat.lt_or_ge j n with hjn | hjn
        · rw [hlist j hjn]; simp [hjn]
        · rw [h2 j hjn hj]; simp; omega
      · rw [Array.getElem?_eq_none (by omega), Array.getElem?_eq_none (by rw [upto_size]; omega)]
    rw [Nat.zero_add]
    have hr := hX (hlist i0 h0)
    rw [hL]
    exact last a w hr h.2
  | succ f ih =>
    intro L L' a w hE0 hX hs' hs h1 h2 hc hcl h
    rw [Nat.succ_add]
    have un : ∃ j, j < n ∧ L'[j]? = some false ∧ ∀ k, k < j → L'[k]? = some true := by
      have hpos : 0 < cnt n L' := by omega
      obtain ⟨j, hj, hjf⟩ := List.countP_pos_iff.1 hpos
      have hjn := List.mem_range.1 hj
      have hjl : j < L'.size := by omega
      have hjf' : L'[j]? = some false := by simp [hjl] at hjf ⊢; exact hjf
      clear hj hjf hjl
      induction j using Nat.strongRecOn with
      | ind j ihj =>
        by_cases hall : ∀ k, k < j → L'[k]? = some true
        · exact ⟨j, hjn, hjf', hall⟩
        · obtain ⟨k, hk⟩ := Classical.not_forall.1 hall
          obtain ⟨hkj, hk⟩ := Classical.not_imp.1 hk
          have hkl : k < L'.size := by omega
          refine ihj k hkj (by omega) ?_
          rw [Array.getElem?_eq_getElem hkl] at hk ⊢
          cases hb : L'[k] with
          | true => rw [hb] at hk; exact absurd rfl hk
          | false => rfl
    obtain ⟨j0, hj0, hjf, hbelow⟩ := un
    have on_lt : ∀ {i : Nat} {o : Oper} {e : Edge}, ops[i]? = some o → i < n → e ∈ o.after → Region.binds md e = true → L.getD e.on false = L'.getD e.on false := fun ho hi he hb => by
      have h4 := hE _ _ ho hi _ he hb
      rename_i i1 o1 e1
      have h3 := h1 e1.on (by omega)
      rw [Array.getD_eq_getD_getElem?, Array.getD_eq_getD_getElem?, h3]
    have lt_n : ∀ i, i ∈ Region.ready md ops L → i < n := fun i hi => by
      obtain ⟨_, o, ho, hall⟩ := mem_ready.1 hi
      rcases Nat.lt_or_ge i n with h3 | h3
      · exact h3
      · have hlt : i < ops.size := by
          rcases Nat.lt_or_ge i ops.size with h' | h'
          · exact h'
          · rw [Array.getElem?_eq_none h'] at ho; cases ho
        have := reach_listed hcl 9 i j0 (fun o' ho' => by obtain rfl := Option.some.inj (ho.symm.trans ho'); exact hall) (hA i h3 hlt j0 hj0)
        rw [getD_of ((h1 j0 hj0).trans hjf)] at this
        cases this
    refine ⟨fun hr => ?_, fun i hi => ?_⟩
    · exfalso
      have hmem : j0 ∈ Region.ready md ops L := by
        have hlt : j0 < ops.size := by omega
        refine mem_ready.2 ⟨getD_of ((h1 j0 hj0).trans hjf) _, ops[j0], Array.getElem?_eq_getElem hlt, fun e he hb => ?_⟩
        have hlt' := hE j0 _ (Array.getElem?_eq_getElem hlt) hj0 e he hb
        exact getD_of ((h1 _ (by omega)).trans (hbelow _ hlt')) _
      rw [hr] at hmem; cases hmem
    · have hin' := lt_n i hi
      have hcl' := hcl.set hi
      obtain ⟨hun, o, ho, hall⟩ := mem_ready.1 hi
      have hpo : pre[i]? = some o := hP i o hin' ho
      have hun' : L'.getD i true = false := by
        have := h1 i hin'
        simp only [Array.getD_eq_getD_getElem?, ← this] at hun ⊢; exact hun
      have hi' : i ∈ Region.ready md pre L' := mem_ready.2 ⟨hun', o, hpo, fun e he hb => by rw [← on_lt ho hin' he hb]; exact hall e he hb⟩
      have hq := (stepY_iff hpo).1 (h.2 i hi')
      obtain ⟨v, hv, hK⟩ := hq
      have hset : ∀ j, j < n → (L.setIfInBounds i true)[j]? = (L'.setIfInBounds i true)[j]? := fun j hj => by
        by_cases e : i = j
        · subst e
          have hl1 : i < L.size := by omega
          have hl2 : i < L'.size := by omega
          simp [hl1, hl2]
        · rw [Array.getElem?_setIfInBounds_ne e, Array.getElem?_setIfInBounds_ne e]; exact h1 j hj
      have hset2 : ∀ j, n ≤ j → j < ops.size → (L.setIfInBounds i true)[j]? = some false := fun j hj hjs => by
        rw [Array.getElem?_setIfInBounds_ne (by omega)]; exact h2 j hj hjs
      have hc' : cnt n (L'.setIfInBounds i true) = f := by have := cnt_set n L' i hin' hun'; omega
      have hgn := hG i o ho hin'
      have hwt : ∀ y, Region.wanted o y = true := fun y => by unfold Region.wanted; rw [hgn]
      have hL0 : i0 < L.size := by omega
      unfold wpOp
      simp only [ho]
      rw [if_pos (hwt _)]
      rcases hv with ⟨_, hy⟩ | ⟨hwn, _⟩
      · unfold storeY at hy
        by_cases hii : i = i0
        · subst hii
          rw [if_pos ((hS i o ho hin').2 rfl)] at hy
          obtain ⟨rfl, hl⟩ := hy
          have hLf : L[i]? = some false := by
            rw [Array.getElem?_eq_getElem hL0]
            have : L[i] = false := by simpa [hL0] using hun
            rw [this]
          obtain ⟨w'', hrun, hRw⟩ := hl w (hE0 hLf)
          refine .inl ?_
          unfold Oper.wp
          rw [hrun]
          show wpAny P md ops Q (f + s) (L.setIfInBounds i true) (a.put o.dst undef) w''
          have hnew : (L.setIfInBounds i true)[i]? = some true := by simp [hL0]
          exact ih _ _ _ w'' (fun h3 => by rw [hnew] at h3; cases h3) (fun _ => hRw) (by simpa using hs') (by simpa using hs) hset hset2 hc' hcl' hK
        · rw [if_neg (fun h3 => hii ((hS i o ho hin').1 h3))] at hy
          have hsame : (L.setIfInBounds i true)[i0]? = L[i0]? := Array.getElem?_setIfInBounds_ne hii
          have hq1 : o.quietAt P a (Ext w) w v := by
            split at hy
            · rename_i hld
              refine hy w (hE0 ?_)
              cases hb : L[i0] with
              | false => rw [Array.getElem?_eq_getElem hL0, hb]
              | true =>
                have hlt : i0 < ops.size := by omega
                have := reach_listed hcl 9 i0 i (fun o' ho' e he hb' => hcl i0 o' (by simp [hL0, hb]) ho' e he hb') (hLd i o ho hin' hld)
                have hi2 : i < L.size := by omega
                simp [hi2] at this hun
                rw [this] at hun; cases hun
            · exact hy w
          have hq2 : ∀ w1, Ext w w1 → o.quietAt P a (Ext w1) w1 v := fun w1 hw1 => by
            split at hy
            · rename_i hld
              refine hy w1 ((hE0 ?_).trans hw1)
              cases hb : L[i0] with
              | false => rw [Array.getElem?_eq_getElem hL0, hb]
              | true =>
                have hlt : i0 < ops.size := by omega
                have := reach_listed hcl 9 i0 i (fun o' ho' e he hb' => hcl i0 o' (by simp [hL0, hb]) ho' e he hb') (hLd i o ho hin' hld)
                have hi2 : i < L.size := by omega
                simp [hi2] at this hun
                rw [this] at hun; cases hun
            · exact hy w1
          refine .inl (Oper.wp_of_quiet (C := fun w'' => Ext w w'') (K := fun x => x = a.put o.dst v) (Ext.refl w) (fun a1 w1 hw1 e => ?_) ?_)
          · subst e
            exact ih _ _ _ w1 (fun h3 => (hE0 (hsame ▸ h3)).trans hw1) (fun h3 => hR _ _ hw1 (hX (hsame ▸ h3))) (by simpa using hs') (by simpa using hs) hset hset2 hc' hcl' hK
          · refine ⟨v, fun w1 hw1 => ?_, rfl⟩
            have hq1 := hq2 w1 hw1
            unfold Oper.quietAt at hq1 ⊢
            generalize (execOp a.eval o).run P w1 = r at *
            cases r with
            | ok nx w2 =>
              cases nx <;> simp only [Oper.quietUpon] at hq1 ⊢ <;> first | exact hq1 | exact ⟨hq1.1, hq1.2.mono fun e w3 h3 => ⟨h3.1, hw1.trans h3.2⟩⟩
            | halt x w2 => simp only [Oper.quietUpon] at hq1
      · rw [hwt] at hwn; cases hwn

/-! ### The test -/
def storeB (ops : Array Oper) (n i0 : Nat) : Bool :=
  Nat.ble n ops.size && Region.noSelect ops && Region.lexB .any (ops.toList.take n).toArray && Nat.ble (i0 + 1) n &&
  (List.range ops.size).all (fun i => match ops[i]? with
    | none => true
    | some o => if Nat.ble (i + 1) n then (o.after.all fun e => !Region.binds .any e || Nat.ble (e.on + 1) i) && o.guard.isNone && (isStore o == Nat.beq i i0) && (!isStore o || o.dst.isNone) && (!isLoad o || reach ops .any 9 i0 i)
      else (List.range n).all fun j => reach ops .any 9 i j) &&
  (List.range ops.size).all (fun k => Nat.ble (k + 1) n || (match Region.ready .any ops (upto ops.size k) with
    | [k'] => Nat.beq k' k
    | _ => false)) &&
  (Region.ready .any ops (upto ops.size ops.size)).isEmpty
theorem wp_store {ro : Option Nat} {l : List Oper} {n i0 id : Nat} {Q1 : Act → Prop} {Q : Exit → Act → World → Prop} {w0 w : World} {a : Act} {R : World → Prop} (hR : ∀ w w', Ext w w' → R w → R w') (hnd : NoDef ro l) (hQ : ¬LetsOut Q) (hm : P.follows .mixedOrders = true) (hB : storeB l.toArray n i0 = true) (hw : Ext w0 w)
    (h : listY (l.take n).toArray (storeY P w0 R) Q1 (l.take n) a)
    (last : ∀ a w, R w → Q1 a → wpList P l.toArray Q (l.drop n) a w) :
    WpR ro P (.region id l.toArray true) Q a w := by
  simp only [storeB, Bool.and_eq_true] at hB
  obtain ⟨⟨⟨⟨⟨⟨b1, b0⟩, b2⟩, bi⟩, b3⟩, b4⟩, b5⟩ := hB
  have hn : n ≤ l.toArray.size := Nat.le_of_ble_eq_true b1
  have hnl : n ≤ l.length := by simpa using hn
  have at3 : ∀ i o, l.toArray[i]? = some o → _ := fun i o ho => by
    have hlt : i < l.toArray.size := by
      rcases Nat.lt_or_ge i l.toArray.size with h' | h'
      · exact h'
      · rw [Array.getElem?_eq_none h'] at ho; cases ho
    have := List.all_eq_true.1 b3 i (List.mem_range.2 hlt)
    simp only [ho] at this
    exact this
  have pre3 : ∀ i o, l.toArray[i]? = some o → i < n → _ := fun i o ho hi => by
    have := at3 i o ho
    rw [if_pos (Nat.ble_eq_true_of_le hi)] at this
    simp only [Bool.and_eq_true] at this
    exact this
  have hP : ∀ i o, i < n → l.toArray[i]? = some o → (l.take n).toArray[i]? = some o := fun i o hi ho => by
    have : l[i]? = some o := by simpa using ho
    simp [hi, this]
  have hE : ∀ i o, l.toArray[i]? = some o → i < n → ∀ e ∈ o.after, Region.binds .any e = true → e.on < i := fun i o ho hi e he hb => by
    have := Array.all_eq_true_iff_forall_mem.1 (pre3 i o ho hi).1.1.1.1 e he
    rw [hb, Bool.not_true, Bool.false_or] at this
    exact Nat.le_of_ble_eq_true this
  have hG : ∀ i o, l.toArray[i]? = some o → i < n → o.guard = none := fun i o ho hi => by
    have := (pre3 i o ho hi).1.1.1.2
    simpa using this
  have hS : ∀ i o, l.toArray[i]? = some o → i < n → (isStore o = true ↔ i = i0) := fun i o ho hi => by
    have := (pre3 i o ho hi).1.1.2
    have e : isStore o = Nat.beq i i0 := by simpa using this
    rw [e]; exact ⟨Nat.eq_of_beq_eq_true, fun h => by subst h; exact Nat.beq_refl _⟩
  have h0 : i0 < n := Nat.le_of_ble_eq_true bi
  have hS0 : ∀ o, l.toArray[i0]? = some o → o.dst = none := fun o ho => by
    have := (pre3 i0 o ho h0).1.2
    rw [(hS i0 o ho h0).2 rfl] at this
    simpa using this
  have hLd : ∀ i o, l.toArray[i]? = some o → i < n → isLoad o = true → reach l.toArray .any 9 i0 i = true := fun i o ho hi hl => by
    have := (pre3 i o ho hi).2
    rw [hl] at this
    simpa using this
  have hA : ∀ i, n ≤ i → i < l.toArray.size → ∀ j, j < n → reach l.toArray .any 9 i j = true := fun i hi his j hj => by
    have := at3 i _ (Array.getElem?_eq_getElem his)
    rw [if_neg (fun hb => by have := Nat.le_of_ble_eq_true hb; omega)] at this
    exact List.all_eq_true.1 this j (List.mem_range.2 hj)
  have hr : ∀ k, n ≤ k → k < l.toArray.size → Region.ready .any l.toArray (upto l.toArray.size k) = [k] := fun k hk hks => by
    have := List.all_eq_true.1 b4 k (List.mem_range.2 hks)
    simp only [Bool.or_eq_true] at this
    rcases this with h' | h'
    · have := Nat.le_of_ble_eq_true h'; omega
    · split at h'
      · rename_i k' he
        rw [he, Nat.eq_of_beq_eq_true h']
      · cases h'
  have he : Region.ready .any l.toArray (upto l.toArray.size l.toArray.size) = [] := by simpa using b5
  simp only [Region.lexB, Bool.and_eq_true] at b2
  have hdl : (l.drop n).length = l.toArray.size - n := by simp
  have hlen : (l.take n).length = n := by simp; omega
  refine wpR_region_any (by simpa using hnd) hQ hm ?_
  have quiet := anyY_lex (md := .any) (same_storeY P w0 R) b2.1 (l.take n) 0 (Array.replicate (l.take n).toArray.size false) a (by simp) (by simpa using b2.2) h
  have key := store_any (P := P) (md := .any) (ops := l.toArray) (pre := (l.take n).toArray) (n := n) (s := (l.drop n).length) (i0 := i0) (Q := Q) (Q1 := Q1) (w0 := w0) (R := R)
    hR hn hP hA hE hG h0 hS hS0 hLd
    (fun a1 w1 hw1 q1 => one_any hr he (l.drop n) n (Nat.le_refl _) (by rw [hdl]; omega) (fun j => by simp) a1 w1
      (last a1 w1 hw1 q1))
  have hcnt : cnt n (Array.replicate (l.take n).toArray.size false) = (l.take n).length := by
    unfold cnt
    rw [List.countP_eq_length.2]
    · rw [hlen]; simp
    · intro j hj
      have := List.mem_range.1 hj
      have h2 : j < (l.take n).toArray.size := by simp; omega
      simp only [Array.getD_eq_getD_getElem?, Array.getElem?_replicate]
      rw [if_pos h2]; rfl
  have hsame : ∀ j, j < n → (Array.replicate l.toArray.size false)[j]? = (Array.replicate (l.take n).toArray.size false)[j]? := fun j hj => by
    have h1 : j < l.length := by omega
    have h2 : j < (l.take n).length := by omega
    simp only [Array.getElem?_replicate]
    rw [if_pos (by simpa using h1), if_pos (by simpa using h2)]
  have hclosed : Closed l.toArray .any (Array.replicate l.toArray.size false) := fun (k : Nat) o hk => by
    simp only [Array.getD_eq_getD_getElem?, Array.getElem?_replicate] at hk
    split at hk <;> simp at hk
  have e : (l.take n).length + (l.drop n).length = l.toArray.size := by rw [hlen, hdl]; omega
  have := key (l.take n).length (Array.replicate l.toArray.size false) (Array.replicate (l.take n).toArray.size false) a { w with drawn := w.drawn + 1 } (fun _ => hw.draw) (fun h3 => by
    simp only [Array.getElem?_replicate] at h3
    split at h3 <;> simp at h3) (by simp; omega) (by simp)
    hsame (fun j _ hj => by simp only [Array.getElem?_replicate]; rw [if_pos hj]) hcnt hclosed quiet
  rwa [e] at this
end

section
variable {P : Program} {N : Fr} {m : Env} {w : World}
/-- Operations without guards: loads, which yield the same in every world that has grown from w, and others, which yield the same in every world; K is known of the frame behind them. -/
def YsS (P : Program) (N : Fr) (w : World) (K : Env → Prop) : List Oper → Env → Prop
  | [], m => K m
  | o :: r, m => ∃ d v, o.dst = some d ∧ Nat.ble (d + 1) N.n = true ∧ o.guard = none ∧ isStore o = false ∧ (if isLoad o then Yl P N m w o v else ∀ w', Yl P N m w' o v) ∧ YsS P N w K r ((d, v) :: m)
theorem YsS.nil {K : Env → Prop} {l : List Oper} (hl : l = []) (h : K m) : YsS P N w K l m := by subst hl; exact h
theorem YsS.pure {K : Env → Prop} {o : Oper} {r : List Oper} {d : Nat} {v : Value} (h1 : o.dst = some d) (h2 : Nat.ble (d + 1) N.n = true) (h4 : o.guard = none) (h3 : isStore o = false) (hl : isLoad o = false) (h5 : ∀ w', Yl P N m w' o v) (h6 : YsS P N w K r ((d, v) :: m)) : YsS P N w K (o :: r) m :=
  ⟨d, v, h1, h2, h4, h3, by rw [hl]; exact h5, h6⟩
theorem YsS.load {K : Env → Prop} {o : Oper} {r : List Oper} {d : Nat} {v : Value} (h1 : o.dst = some d) (h2 : Nat.ble (d + 1) N.n = true) (h4 : o.guard = none) (h3 : isStore o = false) (hl : isLoad o = true) (h5 : Yl P N m w o v) (h6 : YsS P N w K r ((d, v) :: m)) : YsS P N w K (o :: r) m :=
  ⟨d, v, h1, h2, h4, h3, by rw [hl]; exact h5, h6⟩
theorem listY_yss {ops : Array Oper} {Q : Act → Prop} {R : World → Prop} {K : Env → Prop} (hQ : ∀ M a, K M → Agree N M a → Q a) : ∀ (l : List Oper) (m : Env) (a : Act), YsS P N w K l m → Agree N m a → listY ops (storeY P w R) Q l a
  | [], m, a, h, ha => hQ m a h ha
  | o :: r, m, a, h, ha => by
    obtain ⟨d, v, h1, h2, h4, h3, h5, h6⟩ := h
    unfold listY
    rw [if_pos (by unfold Region.wanted; rw [h4])]
    refine ⟨v, ?_, ?_⟩
    · unfold storeY
      rw [h3, if_neg Bool.false_ne_true]
      split at h5
      · rename_i hl
        rw [if_pos hl]
        exact fun w1 hw1 => h5.out a w1 ha hw1
      · rename_i hl
        rw [if_neg hl]
        exact fun w1 => (h5 w1).out a w1 ha (Ext.refl _)
    · rw [h1]
      exact listY_yss hQ r _ _ h6 (ha.put (Nat.le_of_ble_eq_true h2) v)
/-- The store of a region: what it leaves, run alone. -/
theorem V_store (n i0 : Nat) {Q : Exit → Env → World → Prop} {id : Nat} {l : List Oper} {t : TypeId} {x y : Operand} {ty : TypeId} {pos : String} {after : Array Edge} {R : World → Prop}
    (hR : ∀ w w', Ext w w' → R w → R w') (hm : P.follows .mixedOrders = true) (ho : l.take n = l.take i0 ++ ⟨none, .store t x y, ty, pos, after, none⟩ :: (l.take n).drop (i0 + 1)) (hB : storeB l.toArray n i0 = true)
    (h : YsS P N w (fun M1 => (∀ a, Agree N M1 a → ∀ w', Ext w w' → ∃ w'', (execOp a.eval ⟨none, .store t x y, ty, pos, after, none⟩).run P w' = .ok .skip w'' ∧ R w'') ∧
      YsS P N w (fun M2 => ∀ w2, R w2 → Ops P N l.toArray false (fun m w => Q .normal m w) (l.drop n) M2 w2) ((l.take n).drop (i0 + 1)) M1) (l.take i0) m)
    (hnd : NoDef N.ro l := by first | exact .inl rfl | exact .inr (by kernel_rfl)) :
    V P N (.region id l.toArray true) Q m w := by
  refine ⟨fun a w' ha hw => wpR_mono (Q := fun e a w => e = .normal ∧ lift N Q .normal a w) (fun e a w ⟨h1, h2⟩ => by rw [h1]; exact h2) ?_⟩
  refine wp_store (w0 := w) (R := R) hR hnd noLet hm hB hw (Q1 := fun a' => ∃ M2, (∀ w2, R w2 → Ops P N l.toArray false (fun m w => Q .normal m w) (l.drop n) M2 w2) ∧ Agree N M2 a') ?_ ?_
  · generalize hL : (l.take n).toArray = A
    rw [ho]
    refine listY_append _ _ _ (listY_yss (fun M1 a1 ⟨hst, h2⟩ ag1 => ?_) _ _ _ h ha)
    unfold listY
    rw [if_pos (by unfold Region.wanted; rfl)]
    refine ⟨undef, ?_, ?_⟩
    · unfold storeY
      rw [if_pos (show isStore _ = true from rfl)]
      exact ⟨rfl, hst a1 ag1⟩
    · exact listY_yss (fun M2 _ h3 ag2 => ⟨M2, h3, ag2⟩) _ _ _ h2 (ag1.put_none _)
  · rintro a1 w1 hR1 ⟨M2, h, ag⟩
    have h5 := (h w1 hR1).out a1 w1 ag (Ext.refl _)
    have mono : ∀ (l' : List Oper) (a : Act) (w0 : World), wpList P l.toArray (fun e a' w'' => e = .normal ∧ ∃ m' w1, Q .normal m' w1 ∧ Agree N m' a' ∧ Ext w1 w'') l' a w0 → wpList P l.toArray (fun e a w => e = .normal ∧ lift N Q .normal a w) l' a w0 := by
      intro l'
      induction l' with
      | nil => exact fun a w0 ⟨_, m', w1, q, ag, ex⟩ => ⟨rfl, m', w1, q, ag, ex⟩
      | cons o r ih =>
        intro a w0 h6
        unfold wpList at h6 ⊢
        split
        · rename_i hwn
          rw [if_pos hwn] at h6
          rcases h6 with h6 | h6
          · exact .inl (wp_normal (fun a1 w1 hh => ih a1 w1 hh) h6)
          · obtain ⟨_, _, _, h7, _⟩ := h6; cases h7
        · rename_i hwn
          rw [if_neg hwn] at h6
          exact ih _ _ h6
    exact mono _ _ _ h5
/-- A store, run by itself. -/
theorem store_run {t t0 : TypeId} {x y : Operand} {b o : Nat} {cs vs out : List Value} {v : Value} {n0 b0 : Nat} {ty : TypeId} {pos : String} {after : Array Edge} {g : Option (Nat × Bool)} [hs : TSize P t n0 b0]
    (hx : ev m x = some (.pointer (some ⟨b, o, none⟩))) (hy : ev m y = some v) (hB : Blk w b t0 cs) [hv : TCells v vs] [hl : TLen vs n0] [hp : TSplice o vs cs out] (h1 : vs.all (fun u => u.oneCell') = true)
    (a : Act) (ha : Agree N m a) (w' : World) (hw : Ext w w') : ∃ w'', (execOp a.eval ⟨none, .store t x y, ty, pos, after, g⟩).run P w' = .ok .skip w'' ∧ ∃ w1, Upd w w1 b t0 out ∧ Ext w1 w'' := by
  obtain ⟨inf, hi, hsz⟩ := Option.map_eq_some_iff.1 hs.h
  simp only [Prod.mk.injEq] at hsz
  have hlen := hl.h
  have ho := hp.len
  have hst := run_storeCells_at P b o t0 vs 0 cs.toArray w' (hB.ext hw) (by simpa using ho) (List.all_eq_true.1 h1)
  simp only [Nat.add_zero] at hst
  have e : out = splice cs o vs := by rw [← hp.h]; exact over_splice _ _ _ ho
  refine ⟨w'.setRow b out.toArray, ?_, w.setRow b out.toArray, Upd.of hB, ext_setRow hw _⟩
  rw [e]
  simp only [execOp, ha.ev hx, ha.ev hy, Instr.storeAt, Instr.sureAddr, storeVar, sizeOf, typeInfo]
  simp [hi, hsz.1, hv.h, hlen, hst, splice]
/-- A store of a whole element of a slice of one's own, run by itself. -/
theorem storeElem_run {t e : TypeId} {x y : Operand} {base b0 n0 g cap i : Nat} {p : Addr} {v : Value} {u : List Value} {L : List (List Value)} {ty : TypeId} {pos : String} {after : Array Edge} {gd : Option (Nat × Bool)} [hs : TSize P t n0 b0]
    (hx : ev m x = some (.pointer (some p))) (hy : ev m y = some v) (hp : p = ⟨g, i * n0, none⟩) (hown : Own w base e n0 (.slice (some ⟨g, 0, none⟩) L.length cap) L) (hi : i < L.length) [hu : TCells v u] [hl : TLen u n0] (h1 : u.all (fun u => u.oneCell') = true)
    (a : Act) (ha : Agree N m a) (w' : World) (hw : Ext w w') : ∃ w'', (execOp a.eval ⟨none, .store t x y, ty, pos, after, gd⟩).run P w' = .ok .skip w'' ∧ Own w'' base e n0 (.slice (some ⟨g, 0, none⟩) L.length cap) (L.set i u) ∧ Mod (fun c => c = g) w w'' := by
  subst hp
  obtain ⟨hlen, ⟨h2, _⟩ | ⟨g', cap', cur, h2, h3, h4, h5, h6, h7, h8⟩⟩ := hown.row
  · cases h2
  cases h2
  have hB : Blk w g e cur.toList := by unfold Blk; simpa using h4
  have ho : i * n0 + n0 ≤ L.length * n0 := by
    have : (i + 1) * n0 ≤ L.length * n0 := Nat.mul_le_mul_right _ hi
    rw [Nat.succ_mul] at this; omega
  have hc : cur.toList.length = cap * n0 := by simpa using h7
  have hlc : L.length * n0 ≤ cap * n0 := Nat.mul_le_mul_right _ h5
  have hul := hl.h
  have : TSplice (i * n0) u cur.toList (splice cur.toList (i * n0) u) := ⟨over_splice _ _ _ (by omega), by omega⟩
  have hsl : (splice cur.toList (i * n0) u).length = cur.toList.length := by unfold splice; simp only [List.length_append, List.length_take, List.length_drop]; omega
  obtain ⟨w2, hr, w1, hu1, he⟩ := store_run (P := P) (N := N) (t := t) (ty := ty) (pos := pos) (after := after) (g := gd) (vs := u) hx hy hB h1 a ha w' hw
  refine ⟨w2, hr, Own.ext ⟨⟨?_, .inr ⟨g, cap, _, by rw [List.length_set], h3, hu1.blk, ?_, h6, ?_, ?_⟩⟩, ?_⟩ he, ((Mod.of_ext (S := fun c => c = g) (Ext.refl _)).upd hu1 (.inl rfl)).ext he⟩
  · rw [flatten_set_all hul L i hown.len hi, List.length_set]
    unfold splice; simp only [List.length_append, List.length_take, List.length_drop]; omega
  · rw [List.length_set]; exact h5
  · rw [← hc, ← hsl]; simp
  · rw [flatten_set_all hul L i hown.len hi, List.length_set, ← h8]
    unfold splice
    have e1 : (List.take (i * n0) cur.toList ++ u).length = i * n0 + n0 := by simp; omega
    rw [List.take_append, e1, List.take_of_length_le (by omega), List.take_take, Nat.min_eq_left (by omega), List.drop_take, hul]
  · intro z hz
    rcases List.mem_or_eq_of_mem_set hz with hz | rfl
    · exact hown.len z hz
    · exact hul
/-- One less, for a number that is not 0. -/
theorem Yl_pred {t t' : TypeId} {x y : Operand} {p : Nat} {dst : Option Tmp} {ty : TypeId} {pos : String} {after : Array Edge} {g : Option (Nat × Bool)} (hx : ev m x = some (.int .i64 ((p + 1 : Nat) : Int))) (hy : ev m y = some (.int .i64 1)) (hk : p ≤ 4611686018427387904) :
    Yl P N m w ⟨dst, .binOp .sub t x y t', ty, pos, after, g⟩ (.int .i64 (p : Int)) := by
  have h := Yl_arith_in (P := P) (N := N) (w := w) (dst := dst) (ty := ty) (pos := pos) (after := after) (g := g) (op := .sub) (t := t) (t' := t') (c := ((p + 1 : Nat) : Int) - 1) hx hy rfl (by simp only [InK]; omega)
  have e : ((p + 1 : Nat) : Int) - 1 = (p : Int) := by omega
  rwa [e] at h
end
end Go.Proofs.Ytkdjbddjblahkaa

/-
  Stable sorting with a function that compares: the walks of swapRange, rotate, insertionSort.
  Conditions: the list is one's own, and not too long for a machine.
-/
namespace Go.Proofs.Ytkdjbddjblahkaa
open Go.RowKit
instance (x : Nh) : TCells x.val x.cells := ⟨rfl⟩
instance (x : Nh) : OneAll x.cells := ⟨rfl⟩
instance (x : Nh) : TLen x.cells 6 := ⟨rfl⟩

/-- A list of one's own in memory, by its block. -/
structure Dat (w : World) (base g n cap : Nat) (L : List Nh) : Prop where
  own : Own w base 48 6 (.slice (some ⟨g, 0, none⟩) n cap) (L.map Nh.cells)
  len : L.length = n
theorem Dat.ext {w w1 : World} {base g n cap : Nat} {L : List Nh} (h : Dat w base g n cap L) (he : Ext w w1) : Dat w1 base g n cap L := ⟨h.own.ext he, h.len⟩
theorem Dat.at {w : World} {base g n cap : Nat} {L : List Nh} (h : Dat w base g n cap L) {k : Nat} {x : Nh} (hx : L[k]? = some x) : Cells w ((⟨g, 0, none⟩ : Addr).add (k * 6)) x.cells := by
  obtain ⟨ao, c, hv, hA⟩ := h.own.slice
  obtain ⟨ad, h1, h2⟩ := hA k x.cells (by rw [List.getElem?_map, hx]; rfl)
  injection hv with e1 e2 e3
  rw [h1] at e1
  cases e1; exact h2
theorem Dat.get {w : World} {base g n cap : Nat} {L : List Nh} (h : Dat w base g n cap L) {k : Nat} (hk : k < n) : ∃ x, L[k]? = some x := ⟨_, List.getElem?_eq_getElem (by rw [h.len]; exact hk)⟩
section
variable {P : Program} {N : Fr} {ops : Array Oper} {K : Env → World → Prop} {m : Env} {w : World} {rest : List Oper} {ty : TypeId} {pos : String} {after : Array Edge} {gd : Option (Nat × Bool)}
theorem Ops_storeDat {x y : Operand} {base b0 g n cap i : Nat} {p : Addr} {v : Nh} {L : List Nh} [hs : TSize P 48 6 b0] (hon : On N ops m ⟨none, .store 48 x y, ty, pos, after, gd⟩)
    (hx : ev m x = some (.pointer (some p))) (hy : ev m y = some v.val) (hp : p = (⟨g, 0, none⟩ : Addr).add (i * 6)) (hD : Dat w base g n cap L) (hi : i < n)
    (h : ∀ w1, Dat w1 base g n cap (L.set i v) → w.grownBy w1 (some g) → Ops P N ops false K rest m w1) : Ops P N ops false K (⟨none, .store 48 x y, ty, pos, after, gd⟩ :: rest) m w := by
  obtain ⟨o, hl⟩ := hD
  subst hl
  have hm : (L.map Nh.cells).length = L.length := List.length_map ..
  refine Ops_storeElem (i := i) (u := v.cells) (L := L.map Nh.cells) (base := base) (g := g) (cap := cap) hon hx hy (by rw [hp, add_blk, Nat.zero_add]) (by rw [hm]; exact o) (by rw [hm]; exact hi) OneAll.h (fun w1 o1 g1 => h w1 ⟨?_, List.length_set ..⟩ g1)
  rw [List.map_set]
  rw [hm] at o1; exact o1
theorem storeDat_run {x y : Operand} {base b0 g n cap i : Nat} {p : Addr} {v : Nh} {L : List Nh} [hs : TSize P 48 6 b0] (hx : ev m x = some (.pointer (some p))) (hy : ev m y = some v.val) (hp : p = (⟨g, 0, none⟩ : Addr).add (i * 6)) (hD : Dat w base g n cap L) (hi : i < n)
    (a : Act) (ha : Agree N m a) (w' : World) (hw : Ext w w') : ∃ w'', (execOp a.eval ⟨none, .store 48 x y, ty, pos, after, gd⟩).run P w' = .ok .skip w'' ∧ Dat w'' base g n cap (L.set i v) ∧ Mod (fun c => c = g) w w'' := by
  obtain ⟨o, hl⟩ := hD
  subst hl
  have hm : (L.map Nh.cells).length = L.length := List.length_map ..
  obtain ⟨w2, h1, h2, h3⟩ := storeElem_run (P := P) (N := N) (t := 48) (ty := ty) (pos := pos) (after := after) (gd := gd) (i := i) (u := v.cells) (L := L.map Nh.cells) (base := base) (g := g) (cap := cap) hx hy (by rw [hp, add_blk, Nat.zero_add]) (by rw [hm]; exact o) (by rw [hm]; exact hi) OneAll.h a ha w' hw
  refine ⟨w2, h1, ⟨?_, List.length_set ..⟩, h3⟩
  rw [List.map_set]
  rw [hm] at h2; exact h2
end
/-- What a function that sorts leaves. -/
def DatR (base g n cap : Nat) (R : List Nh → Prop) (r : Value) (w' : World) : Prop := r = .tuple #[] ∧ ∃ L', Dat w' base g n cap L' ∧ R L'
abbrev Blk1 (g : Nat) : Nat → Prop := fun c => c = g
section
variable {base g n cap : Nat} {fv : Value}
set_option maxHeartbeats 1000000 in
theorem swapRange_v (L : List Nh) (a b k : Nat) (w : World) (hD : Dat w base g n cap L) (hn : n ≤ 1000000000000) (hab : a + k ≤ b) (hb : b + k ≤ n) :
    Calls Try.prog 108 #[.slice (some ⟨g, 0, none⟩) n cap, .int .i64 a, .int .i64 b, .int .i64 k, fv] w
      (Does (Blk1 g) (DatR base g n cap (fun L' => L'.Perm L ∧ ∀ x, L'[x]? = swrF (fun x => L[x]?) a b k x)) w) := by
  refine V_enter (vs := [_, _, _, _, _]) Try.func108 rfl Try.ntmps108 (Nat.le_of_ble_eq_true rfl) ?_
  repeat (first | refine Vx ?_ | (apply Ops_q; (case hon => exact Va); (case hd => rfl); (case hq => exact YlA)) | refine Vr ?_ | refine Vt ?_ | refine Vf ?_ | refine Vm ?_ | refine Ve ?_ | refine Vo ?_ | refine Vz ?_ | refine Vn ?_)
  refine V_loop (fun s : Nat × List Nh => [(10, .int .i64 s.1), (0, .slice (some ⟨g, 0, none⟩) n cap), (1, .int .i64 a), (2, .int .i64 b), (3, .int .i64 k)])
    (fun s w' => s.1 ≤ k ∧ Mod (Blk1 g) w w' ∧ Dat w' base g n cap s.2 ∧ s.2.Perm L ∧ ∀ x, s.2[x]? = swrF (fun x => L[x]?) a b s.1 x) (fun s => k - s.1) (0, L) (by repeat (first | exact trivial | refine ⟨rfl, ?_⟩))
    ⟨Nat.zero_le _, .of_ext (Ext.refl _), hD, .refl _, fun x => by rw [swrF, if_neg (by omega), if_neg (by omega)]⟩ ?_
  rintro ⟨i, M⟩ w3 ⟨hi, m3, D3, hp, hf⟩
  dsimp only at hi D3 hp hf ⊢
  repeat (first | refine Vx ?_ | (apply Ops_q; (case hon => exact Va); (case hd => rfl); (case hq => exact YlA)) | refine Vr ?_ | refine Vt ?_ | refine Vf ?_ | refine Vm ?_ | refine Ve ?_ | refine Vo ?_ | refine Vz ?_ | refine Vn ?_)
  refine V_cond rfl (fun hg => ?_) (fun hg => ?_)
  · replace hg := of_decide_eq_true hg
    have hik : i < k := by omega
    have hMl := D3.len
    obtain ⟨x, hx⟩ := D3.get (k := a + i) (by omega)
    obtain ⟨y, hy⟩ := D3.get (k := b + i) (by omega)
    have hcx := D3.at hx
    have hcy := D3.at hy
    repeat (first | refine Vx ?_ | (apply Ops_q; (case hon => exact Va); (case hd => rfl); (case hq => exact YlA)) | refine Vt ?_ | refine Vf ?_ | refine Vm ?_ | refine Ve ?_ | refine Vo ?_ | refine Vz ?_ | refine Vn ?_)
    refine V_store (R := fun w' => Dat w' base g n cap (M.set (a + i) y) ∧ Mod (fun c => c = g) w3 w') 22 21 (fun _ _ he h => ⟨h.1.ext he, h.2.ext he⟩) (by kernel_rfl) rfl (by kernel_rfl) ?_
    repeat (first
      | (refine YsS.pure rfl rfl rfl rfl rfl (fun w_ => (by first | exact Yl_move rfl | exact Yl_arith_in rfl rfl rfl (by first | assumption | (simp only [InK]; omega)))) ?_)
      | (refine YsS.load rfl rfl rfl rfl rfl (by first | exact Yl_loadN rfl hcx inferInstance | exact Yl_loadN rfl hcy inferInstance) ?_))
    refine YsS.pure rfl rfl rfl rfl rfl (fun w_ => Yl_indexS (j := (b+i)) rfl rfl (by omega)) ?_
    repeat (first
      | (refine YsS.pure rfl rfl rfl rfl rfl (fun w_ => (by first | exact Yl_move rfl | exact Yl_arith_in rfl rfl rfl (by first | assumption | (simp only [InK]; omega)))) ?_)
      | (refine YsS.load rfl rfl rfl rfl rfl (by first | exact Yl_loadN rfl hcx inferInstance | exact Yl_loadN rfl hcy inferInstance) ?_))
    refine YsS.pure rfl rfl rfl rfl rfl (fun w_ => Yl_indexS (j := (a+i)) rfl rfl (by omega)) ?_
    repeat (first
      | (refine YsS.pure rfl rfl rfl rfl rfl (fun w_ => (by first | exact Yl_move rfl | exact Yl_arith_in rfl rfl rfl (by first | assumption | (simp only [InK]; omega)))) ?_)
      | (refine YsS.load rfl rfl rfl rfl rfl (by first | exact Yl_loadN rfl hcx inferInstance | exact Yl_loadN rfl hcy inferInstance) ?_))
    refine YsS.pure rfl rfl rfl rfl rfl (fun w_ => Yl_indexS (j := (a+i)) rfl rfl (by omega)) ?_
    repeat (first
      | (refine YsS.pure rfl rfl rfl rfl rfl (fun w_ => (by first | exact Yl_move rfl | exact Yl_arith_in rfl rfl rfl (by first | assumption | (simp only [InK]; omega)))) ?_)
      | (refine YsS.load rfl rfl rfl rfl rfl (by first | exact Yl_loadN rfl hcx inferInstance | exact Yl_loadN rfl hcy inferInstance) ?_))
    refine YsS.nil rfl ⟨fun a_ ag_ w_ hw_ => storeDat_run (i := a+i) (v := y) rfl rfl rfl D3 (by omega) a_ ag_ w_ hw_, ?_⟩
    repeat (first
      | (refine YsS.pure rfl rfl rfl rfl rfl (fun w_ => (by first | exact Yl_move rfl | exact Yl_arith_in rfl rfl rfl (by first | assumption | (simp only [InK]; omega)))) ?_)
      | (refine YsS.load rfl rfl rfl rfl rfl (by first | exact Yl_loadN rfl hcx inferInstance | exact Yl_loadN rfl hcy inferInstance) ?_))
    refine YsS.nil rfl ?_
    rintro w4 ⟨D4, m4⟩
    repeat (first | refine Vx ?_ | (apply Ops_q; (case hon => exact Va); (case hd => rfl); (case hq => exact YlA)) | refine Vr ?_ | refine Vt ?_ | refine Vf ?_ | refine Vm ?_ | refine Ve ?_ | refine Vo ?_ | refine Vz ?_ | refine Vn ?_)
    (apply Ops_q; (case hon => (exact Va)); (case hd => rfl); (case hq => exact Yl_indexS (j := (b+i)) rfl rfl (by omega)))
    repeat (first | refine Vx ?_ | (apply Ops_q; (case hon => exact Va); (case hd => rfl); (case hq => exact YlA)) | refine Vr ?_ | refine Vt ?_ | refine Vf ?_ | refine Vm ?_ | refine Ve ?_ | refine Vo ?_ | refine Vz ?_ | refine Vn ?_)
    refine Ops_storeDat (i := b+i) (v := x) (by exact Va) rfl rfl rfl D4 (by omega) ?_
    intro w5 D5 g5
    have m5 : Mod (Blk1 g) w w5 := (m3.trans m4).grow g5 (fun b hb => .inl (by cases hb; rfl))
    have hsw : (M.set (a+i) y).set (b+i) x = swp M (a+i) (b+i) := by unfold swp; rw [hx, hy]
    rw [hsw] at D5
    repeat (first | refine Vx ?_ | (apply Ops_q; (case hon => exact Va); (case hd => rfl); (case hq => exact YlA)) | refine Vr ?_ | refine Vt ?_ | refine Vf ?_ | refine Vm ?_ | refine Ve ?_ | refine Vo ?_ | refine Vz ?_ | refine Vn ?_)
    refine ⟨(i + 1, swp M (a + i) (b + i)), (by repeat (first | exact trivial | refine ⟨rfl, ?_⟩)), ⟨hik, m5, D5, (swp_perm (by omega) (by omega)).trans hp, fun x => swr_step (n := k) hab hik hf (by omega) x⟩, by simp only; omega⟩
  · replace hg := of_decide_eq_false hg
    obtain rfl : i = k := by omega
    repeat (first | refine Vx ?_ | (apply Ops_q; (case hon => exact Va); (case hd => rfl); (case hq => exact YlA)) | refine Vr ?_ | refine Vt ?_ | refine Vf ?_ | refine Vm ?_ | refine Ve ?_ | refine Vo ?_ | refine Vz ?_ | refine Vn ?_)
    refine ret0 (by first | exact .inl rfl | exact .inr rfl) rfl ?_
    exact Does_mk (fun w' he => ⟨rfl, M, D3.ext he, hp, hf⟩) m3
set_option maxHeartbeats 1000000 in
theorem rotate_v (L : List Nh) (a m b : Nat) (w : World) (hD : Dat w base g n cap L) (hn : n ≤ 1000000000000) (ham : a < m) (hmb : m < b) (hb : b ≤ n) :
    Calls Try.prog 107 #[.slice (some ⟨g, 0, none⟩) n cap, .int .i64 a, .int .i64 m, .int .i64 b, fv] w
      (Does (Blk1 g) (DatR base g n cap (fun L' => L'.Perm L ∧ ∀ x, L'[x]? = rotF (fun x => L[x]?) a m b x)) w) := by
  have e1 : (m : Int) - (a : Int) = ((m - a : Nat) : Int) := by omega
  have e2 : (b : Int) - (m : Int) = ((b - m : Nat) : Int) := by omega
  refine V_enter (vs := [_, _, _, _, _]) Try.func107 rfl Try.ntmps107 (Nat.le_of_ble_eq_true rfl) ?_
  repeat (first | refine Vx ?_ | (apply Ops_q; (case hon => exact Va); (case hd => rfl); (case hq => exact YlA)) | refine Vr ?_ | refine Vt ?_ | refine Vf ?_ | refine Vm ?_ | refine Ve ?_ | refine Vo ?_ | refine Vz ?_ | refine Vn ?_)
  rw [e1, e2]
  refine V_loop (fun s : Nat × Nat × List Nh => [(10, .int .i64 s.1), (11, .int .i64 s.2.1), (0, .slice (some ⟨g, 0, none⟩) n cap), (2, .int .i64 m), (4, fv)])
    (fun s w' => 0 < s.1 ∧ s.1 ≤ m ∧ 0 < s.2.1 ∧ m + s.2.1 ≤ n ∧ Mod (Blk1 g) w w' ∧ Dat w' base g n cap s.2.2 ∧ s.2.2.Perm L ∧ ∀ x, rotF (fun x => s.2.2[x]?) (m - s.1) m (m + s.2.1) x = rotF (fun x => L[x]?) a m b x) (fun s => s.1 + s.2.1) (m - a, b - m, L) (by repeat (first | exact trivial | refine ⟨rfl, ?_⟩))
    ⟨by dsimp only; omega, by dsimp only; omega, by dsimp only; omega, by dsimp only; omega, .of_ext (Ext.refl _), hD, .refl _, fun x => by dsimp only; rw [show m - (m - a) = a by omega, show m + (b - m) = b by omega]⟩ ?_
  rintro ⟨i, j, M⟩ w3 ⟨h1, h2, h3, h4, m3, D3, hp, hf⟩
  dsimp only at h1 h2 h3 h4 D3 hp hf ⊢
  have e3 : (m : Int) - (i : Int) = ((m - i : Nat) : Int) := by omega
  repeat (first | refine Vx ?_ | (apply Ops_q; (case hon => exact Va); (case hd => rfl); (case hq => exact YlA)) | refine Vr ?_ | refine Vt ?_ | refine Vf ?_ | refine Vm ?_ | refine Ve ?_ | refine Vo ?_ | refine Vz ?_ | refine Vn ?_)
  refine V_cond rfl (fun hg => ?_) (fun hg => ?_)
  · have hij : i ≠ j := by
      have : ¬((i : Int) = (j : Int)) := by simpa using hg
      omega
    repeat (first | refine Vx ?_ | (apply Ops_q; (case hon => exact Va); (case hd => rfl); (case hq => exact YlA)) | refine Vr ?_ | refine Vt ?_ | refine Vf ?_ | refine Vm ?_ | refine Ve ?_ | refine Vo ?_ | refine Vz ?_ | refine Vn ?_)
    refine V_cond rfl (fun hg2 => ?_) (fun hg2 => ?_)
    · replace hg2 := of_decide_eq_true hg2
      have hlt : j < i := by omega
      have e4 : (i : Int) - (j : Int) = ((i - j : Nat) : Int) := by omega
      repeat (first | refine Vx ?_ | (apply Ops_q; (case hon => exact Va); (case hd => rfl); (case hq => exact YlA)) | refine Vr ?_ | refine Vt ?_ | refine Vf ?_ | refine Vm ?_ | refine Ve ?_ | refine Vo ?_ | refine Vz ?_ | refine Vn ?_)
      rw [e3]
      refine Ops_callM (S := Blk1 g) (R := fun _ => DatR base g n cap (fun L' => L'.Perm M ∧ ∀ x, L'[x]? = swrF (fun x => M[x]?) (m - i) m j x)) (by exact Va) rfl rfl (fun w_ e_ => swapRange_v M (m - i) m j w_ (D3.ext e_) hn (by omega) (by omega)) ?_
      intro r w4 w0_ e0 m4 hR
      obtain ⟨rfl, M', D4, hp4, hf4⟩ := hR
      repeat (first | refine Vx ?_ | (apply Ops_q; (case hon => exact Va); (case hd => rfl); (case hq => exact YlA)) | refine Vr ?_ | refine Vt ?_ | refine Vf ?_ | refine Vm ?_ | refine Ve ?_ | refine Vo ?_ | refine Vz ?_ | refine Vn ?_)
      rw [e4]
      refine ⟨(i - j, j, M'), (by repeat (first | exact trivial | refine ⟨rfl, ?_⟩)), ⟨by dsimp only; omega, by dsimp only; omega, h3, h4, (m3.ext e0).trans m4, D4, hp4.trans hp, fun x => (rot_big h2 hlt hf4 x).trans (hf x)⟩, by simp only; omega⟩
    · replace hg2 := of_decide_eq_false hg2
      have hlt : i < j := by omega
      have e4 : (j : Int) - (i : Int) = ((j - i : Nat) : Int) := by omega
      have e5 : (m : Int) + (j : Int) - (i : Int) = ((m + j - i : Nat) : Int) := by omega
      repeat (first | refine Vx ?_ | (apply Ops_q; (case hon => exact Va); (case hd => rfl); (case hq => exact YlA)) | refine Vr ?_ | refine Vt ?_ | refine Vf ?_ | refine Vm ?_ | refine Ve ?_ | refine Vo ?_ | refine Vz ?_ | refine Vn ?_)
      rw [e3, e5]
      refine Ops_callM (S := Blk1 g) (R := fun _ => DatR base g n cap (fun L' => L'.Perm M ∧ ∀ x, L'[x]? = swrF (fun x => M[x]?) (m - i) (m + j - i) i x)) (by exact Va) rfl rfl (fun w_ e_ => swapRange_v M (m - i) (m + j - i) i w_ (D3.ext e_) hn (by omega) (by omega)) ?_
      intro r w4 w0_ e0 m4 hR
      obtain ⟨rfl, M', D4, hp4, hf4⟩ := hR
      repeat (first | refine Vx ?_ | (apply Ops_q; (case hon => exact Va); (case hd => rfl); (case hq => exact YlA)) | refine Vr ?_ | refine Vt ?_ | refine Vf ?_ | refine Vm ?_ | refine Ve ?_ | refine Vo ?_ | refine Vz ?_ | refine Vn ?_)
      rw [e4]
      refine ⟨(i, j - i, M'), (by repeat (first | exact trivial | refine ⟨rfl, ?_⟩)), ⟨h1, h2, by dsimp only; omega, by dsimp only; omega, (m3.ext e0).trans m4, D4, hp4.trans hp, fun x => (rot_small h2 hlt hf4 x).trans (hf x)⟩, by simp only; omega⟩
  · have hij : i = j := by
      have : (i : Int) = (j : Int) := by simpa using hg
      omega
    subst hij
    repeat (first | refine Vx ?_ | (apply Ops_q; (case hon => exact Va); (case hd => rfl); (case hq => exact YlA)) | refine Vr ?_ | refine Vt ?_ | refine Vf ?_ | refine Vm ?_ | refine Ve ?_ | refine Vo ?_ | refine Vz ?_ | refine Vn ?_)
    rw [e3]
    refine Ops_callM (S := Blk1 g) (R := fun _ => DatR base g n cap (fun L' => L'.Perm M ∧ ∀ x, L'[x]? = swrF (fun x => M[x]?) (m - i) m i x)) (by exact Va) rfl rfl (fun w_ e_ => swapRange_v M (m - i) m i w_ (D3.ext e_) hn (by omega) (by omega)) ?_
    intro r w4 w0_ e0 m4 hR
    obtain ⟨rfl, M', D4, hp4, hf4⟩ := hR
    repeat (first | refine Vx ?_ | (apply Ops_q; (case hon => exact Va); (case hd => rfl); (case hq => exact YlA)) | refine Vr ?_ | refine Vt ?_ | refine Vf ?_ | refine Vm ?_ | refine Ve ?_ | refine Vo ?_ | refine Vz ?_ | refine Vn ?_)
    refine ret0 (by first | exact .inl rfl | exact .inr rfl) rfl ?_
    exact Does_mk (fun w' he => ⟨rfl, M', D4.ext he, hp4.trans hp, fun x => (rot_end h2 hf4 x).trans (hf x)⟩) ((m3.ext e0).trans m4)
variable {f : FuncId} [TFun Try.prog f] {cf : Nh → Nh → Int}
set_option maxHeartbeats 1000000 in
theorem insertionSort_v (ho : Ord cf) (hcf : ∀ x y w', Calls Try.prog f #[x.val, y.val] w' (Ret (.int .i64 (cf x y)) w')) (L : List Nh) (a b : Nat) (w : World) (hD : Dat w base g n cap L) (hn : n ≤ 1000000000000) (hb : b ≤ n) (ha : a ≤ n) :
    Calls Try.prog 100 #[.slice (some ⟨g, 0, none⟩) n cap, .int .i64 a, .int .i64 b, .func (.func f) #[] #[]] w
      (Does (Blk1 g) (DatR base g n cap (fun L' => Moved L L' a b ∧ Asc cf L' a b)) w) := by
  refine V_enter (vs := [_, _, _, _]) Try.func100 rfl Try.ntmps100 (Nat.le_of_ble_eq_true rfl) ?_
  repeat (first | refine Vx ?_ | (apply Ops_q; (case hon => exact Va); (case hd => rfl); (case hq => exact YlA)) | refine Vr ?_ | refine Vt ?_ | refine Vf ?_ | refine Vm ?_ | refine Ve ?_ | refine Vo ?_ | refine Vz ?_ | refine Vn ?_)
  refine V_loop (fun s : Nat × List Nh => [(8, .int .i64 s.1), (0, .slice (some ⟨g, 0, none⟩) n cap), (1, .int .i64 a), (2, .int .i64 b), (3, .func (.func f) #[] #[])])
    (fun s w' => a + 1 ≤ s.1 ∧ (s.1 ≤ b ∨ s.1 = a + 1) ∧ Mod (Blk1 g) w w' ∧ Dat w' base g n cap s.2 ∧ Moved L s.2 a b ∧ Asc cf s.2 a s.1) (fun s => b - s.1) (a + 1, L) (by repeat (first | exact trivial | refine ⟨rfl, ?_⟩))
    ⟨Nat.le_refl _, .inr rfl, .of_ext (Ext.refl _), hD, Moved.refl .., Asc.one (Nat.le_refl _)⟩ ?_
  rintro ⟨i, M⟩ w3 ⟨h1, h2, m3, D3, hM, hA⟩
  dsimp only at h1 h2 D3 hM hA ⊢
  repeat (first | refine Vx ?_ | (apply Ops_q; (case hon => exact Va); (case hd => rfl); (case hq => exact YlA)) | refine Vr ?_ | refine Vt ?_ | refine Vf ?_ | refine Vm ?_ | refine Ve ?_ | refine Vo ?_ | refine Vz ?_ | refine Vn ?_)
  refine V_cond rfl (fun hg => ?_) (fun hg => ?_)
  · replace hg := of_decide_eq_true hg
    have hib : i < b := by omega
    repeat (first | refine Vx ?_ | (apply Ops_q; (case hon => exact Va); (case hd => rfl); (case hq => exact YlA)) | refine Vr ?_ | refine Vt ?_ | refine Vf ?_ | refine Vm ?_ | refine Ve ?_ | refine Vo ?_ | refine Vz ?_ | refine Vn ?_)
    refine V_loop (fun s : Nat × List Nh => [(9, .int .i64 s.1), (8, .int .i64 i), (0, .slice (some ⟨g, 0, none⟩) n cap), (1, .int .i64 a), (2, .int .i64 b), (3, .func (.func f) #[] #[])])
      (fun s w' => a ≤ s.1 ∧ s.1 ≤ i ∧ Mod (Blk1 g) w w' ∧ Dat w' base g n cap s.2 ∧ Moved L s.2 a b ∧ AscX cf s.2 a (i + 1) s.1) (fun s => s.1) (i, M) (by repeat (first | exact trivial | refine ⟨rfl, ?_⟩))
      ⟨by dsimp only; omega, Nat.le_refl _, m3, D3, hM, AscX.start hA⟩ ?_
    clear m3 D3 hM hA
    rintro ⟨j, M⟩ w3 ⟨h3, h4, m3, D3, hM, hA⟩
    dsimp only at h3 h4 D3 hM hA ⊢
    have hMl := D3.len
    by_cases hj : a < j
    · obtain ⟨p, rfl⟩ : ∃ p, j = p + 1 := ⟨j - 1, by omega⟩
      have hd : decide ((a : Int) < ((p + 1 : Nat) : Int)) = true := decide_eq_true (by omega)
      have hs1 : ((p + 1 : Nat) : Int) - 1 = (p : Int) := by omega
      obtain ⟨x, hx⟩ := D3.get (k := p + 1) (by omega)
      obtain ⟨y, hy⟩ := D3.get (k := p) (by omega)
      have hcx := D3.at hx
      have hcy := D3.at hy
      repeat (first | refine Vx ?_ | (apply Ops_q; (case hon => exact Va); (case hd => rfl); (case hq => exact YlA)) | refine Vr ?_ | refine Vt ?_ | refine Vf ?_ | refine Vm ?_ | refine Ve ?_ | refine Vo ?_ | refine Vz ?_ | refine Vn ?_)
      refine Ops_know rfl rfl hd ?_
      repeat (first | refine Vx ?_ | (apply Ops_q; (case hon => exact Va); (case hd => rfl); (case hq => exact YlA)) | refine Vr ?_ | refine Vt ?_ | refine Vf ?_ | refine Vm ?_ | refine Ve ?_ | refine Vo ?_ | refine Vz ?_ | refine Vn ?_)
      (apply Ops_q; (case hon => (exact Va)); (case hd => rfl); (case hq => exact Yl_indexS (j := (p+1)) rfl rfl (by omega)))
      repeat (first | refine Vx ?_ | (apply Ops_q; (case hon => exact Va); (case hd => rfl); (case hq => exact YlA)) | refine Vr ?_ | refine Vt ?_ | refine Vf ?_ | refine Vm ?_ | refine Ve ?_ | refine Vo ?_ | refine Vz ?_ | refine Vn ?_)
      rw [hs1]
      (apply Ops_q; (case hon => (exact Va)); (case hd => rfl); (case hq => exact Yl_indexS (j := p) rfl rfl (by omega)))
      repeat (first | refine Vx ?_ | (apply Ops_q; (case hon => exact Va); (case hd => rfl); (case hq => exact YlA)) | refine Vr ?_ | refine Vt ?_ | refine Vf ?_ | refine Vm ?_ | refine Ve ?_ | refine Vo ?_ | refine Vz ?_ | refine Vn ?_)
      (apply Ops_q; (case hon => first | exact on_none | exact on_guard rfl rfl); (case hd => rfl); (case hq => exact Yl_callv (first := []) (vs := [x.val, y.val]) (cap := []) rfl rfl (fun w_ e_ => hcf _ _ w_)))
      repeat (first | refine Vx ?_ | (apply Ops_q; (case hon => exact Va); (case hd => rfl); (case hq => exact YlA)) | refine Vr ?_ | refine Vt ?_ | refine Vf ?_ | refine Vm ?_ | refine Ve ?_ | refine Vo ?_ | refine Vz ?_ | refine Vn ?_)
      refine V_cond rfl (fun hlt => ?_) (fun hlt => ?_)
      · replace hlt := of_decide_eq_true hlt
        repeat (first | refine Vx ?_ | (apply Ops_q; (case hon => exact Va); (case hd => rfl); (case hq => exact YlA)) | refine Vt ?_ | refine Vf ?_ | refine Vm ?_ | refine Ve ?_ | refine Vo ?_ | refine Vz ?_ | refine Vn ?_)
        refine V_store (R := fun w' => Dat w' base g n cap (M.set (p + 1) y) ∧ Mod (fun c => c = g) w3 w') 16 15 (fun _ _ he h => ⟨h.1.ext he, h.2.ext he⟩) (by kernel_rfl) rfl (by kernel_rfl) ?_
        repeat (first
          | (refine YsS.pure rfl rfl rfl rfl rfl (fun w_ => (by first | exact Yl_move rfl | exact Yl_pred rfl rfl (by omega) | exact Yl_arith_in rfl rfl rfl (by first | assumption | (simp only [InK]; omega)))) ?_)
          | (refine YsS.load rfl rfl rfl rfl rfl (by first | exact Yl_loadN rfl hcx inferInstance | exact Yl_loadN rfl hcy inferInstance) ?_))
        refine YsS.pure rfl rfl rfl rfl rfl (fun w_ => Yl_indexS (j := p) rfl rfl (by omega)) ?_
        repeat (first
          | (refine YsS.pure rfl rfl rfl rfl rfl (fun w_ => (by first | exact Yl_move rfl | exact Yl_pred rfl rfl (by omega) | exact Yl_arith_in rfl rfl rfl (by first | assumption | (simp only [InK]; omega)))) ?_)
          | (refine YsS.load rfl rfl rfl rfl rfl (by first | exact Yl_loadN rfl hcx inferInstance | exact Yl_loadN rfl hcy inferInstance) ?_))
        refine YsS.pure rfl rfl rfl rfl rfl (fun w_ => Yl_indexS (j := (p+1)) rfl rfl (by omega)) ?_
        repeat (first
          | (refine YsS.pure rfl rfl rfl rfl rfl (fun w_ => (by first | exact Yl_move rfl | exact Yl_pred rfl rfl (by omega) | exact Yl_arith_in rfl rfl rfl (by first | assumption | (simp only [InK]; omega)))) ?_)
          | (refine YsS.load rfl rfl rfl rfl rfl (by first | exact Yl_loadN rfl hcx inferInstance | exact Yl_loadN rfl hcy inferInstance) ?_))
        refine YsS.pure rfl rfl rfl rfl rfl (fun w_ => Yl_indexS (j := (p+1)) rfl rfl (by omega)) ?_
        refine YsS.nil rfl ⟨fun a_ ag_ w_ hw_ => storeDat_run (i := p+1) (v := y) rfl rfl rfl D3 (by omega) a_ ag_ w_ hw_, ?_⟩
        repeat (first
          | (refine YsS.pure rfl rfl rfl rfl rfl (fun w_ => (by first | exact Yl_move rfl | exact Yl_arith_in rfl rfl rfl (by first | assumption | (simp only [InK]; omega)))) ?_)
          | (refine YsS.load rfl rfl rfl rfl rfl (by first | exact Yl_loadN rfl hcx inferInstance | exact Yl_loadN rfl hcy inferInstance) ?_))
        refine YsS.nil rfl ?_
        rintro w4 ⟨D4, m4⟩
        repeat (first | refine Vx ?_ | (apply Ops_q; (case hon => exact Va); (case hd => rfl); (case hq => exact YlA)) | refine Vr ?_ | refine Vt ?_ | refine Vf ?_ | refine Vm ?_ | refine Ve ?_ | refine Vo ?_ | refine Vz ?_ | refine Vn ?_)
        (apply Ops_q; (case hon => (exact Va)); (case hd => rfl); (case hq => exact Yl_indexS (j := (p)) rfl rfl (by omega)))
        repeat (first | refine Vx ?_ | (apply Ops_q; (case hon => exact Va); (case hd => rfl); (case hq => exact YlA)) | refine Vr ?_ | refine Vt ?_ | refine Vf ?_ | refine Vm ?_ | refine Ve ?_ | refine Vo ?_ | refine Vz ?_ | refine Vn ?_)
        refine Ops_storeDat (i := p) (v := x) (by exact Va) rfl rfl rfl D4 (by omega) ?_
        intro w5 D5 g5
        have m5 : Mod (Blk1 g) w w5 := (m3.trans m4).grow g5 (fun b hb => .inl (by cases hb; rfl))
        have hsw : (M.set (p+1) y).set (p) x = swp M (p+1) (p) := by unfold swp; rw [hx, hy]
        rw [hsw] at D5
        repeat (first | refine Vx ?_ | (apply Ops_q; (case hon => exact Va); (case hd => rfl); (case hq => exact YlA)) | refine Vr ?_ | refine Vt ?_ | refine Vf ?_ | refine Vm ?_ | refine Ve ?_ | refine Vo ?_ | refine Vz ?_ | refine Vn ?_)
        rw [hs1]
        refine ⟨(p, swp M (p + 1) p), (by repeat (first | exact trivial | refine ⟨rfl, ?_⟩)), ⟨by dsimp only; omega, by dsimp only; omega, m5, D5, hM.trans (Moved.swp (by omega) (by omega) (by omega)), hA.step ho (by omega) (by omega) (by omega) hx hy hlt⟩, by simp only; omega⟩
      · replace hlt := of_decide_eq_false hlt
        repeat (first | refine Vx ?_ | (apply Ops_q; (case hon => exact Va); (case hd => rfl); (case hq => exact YlA)) | refine Vr ?_ | refine Vt ?_ | refine Vf ?_ | refine Vm ?_ | refine Ve ?_ | refine Vo ?_ | refine Vz ?_ | refine Vn ?_)
        refine ⟨(i + 1, M), (by repeat (first | exact trivial | refine ⟨rfl, ?_⟩)), ⟨by dsimp only; omega, .inl (by dsimp only; omega), m3, D3, hM, hA.stop ho (.inr ⟨x, y, hx, hy, hlt⟩)⟩, by simp only; omega⟩
    · have hd : decide ((a : Int) < (j : Int)) = false := decide_eq_false (by omega)
      repeat (first | refine Vx ?_ | (apply Ops_q; (case hon => exact Va); (case hd => rfl); (case hq => exact YlA)) | refine Vr ?_ | refine Vt ?_ | refine Vf ?_ | refine Vm ?_ | refine Ve ?_ | refine Vo ?_ | refine Vz ?_ | refine Vn ?_)
      refine Ops_know rfl rfl hd ?_
      repeat (first | refine Vx ?_ | (apply Ops_q; (case hon => exact Va); (case hd => rfl); (case hq => exact YlA)) | refine Vr ?_ | refine Vt ?_ | refine Vf ?_ | refine Vm ?_ | refine Ve ?_ | refine Vo ?_ | refine Vz ?_ | refine Vn ?_)
      refine ⟨(i + 1, M), (by repeat (first | exact trivial | refine ⟨rfl, ?_⟩)), ⟨by dsimp only; omega, .inl (by dsimp only; omega), m3, D3, hM, hA.stop ho (.inl (by omega))⟩, by simp only; omega⟩
  · replace hg := of_decide_eq_false hg
    repeat (first | refine Vx ?_ | (apply Ops_q; (case hon => exact Va); (case hd => rfl); (case hq => exact YlA)) | refine Vr ?_ | refine Vt ?_ | refine Vf ?_ | refine Vm ?_ | refine Ve ?_ | refine Vo ?_ | refine Vz ?_ | refine Vn ?_)
    refine ret0 (by first | exact .inl rfl | exact .inr rfl) rfl ?_
    refine Does_mk (fun w' he => ⟨rfl, M, D3.ext he, hM, ?_⟩) m3
    exact hA.part (Nat.le_refl _) (by omega)
end
end Go.Proofs.Ytkdjbddjblahkaa

/-
  Layer 27 (elect): the plain laws: both elections elect the same; who is elected.
  No conditions beyond those that each statement names.
-/
import Derived.Test.YtfakgiikobajnaaElS
namespace Go.Proofs.Ytfakgiikobajnaa
open Go.RowKit

/-- No two have one router. -/
abbrev Apart (L : List Nb) : Prop := L.Pairwise (fun x y => x.r ≠ y.r)
theorem met_false {L : List Nb} {r : Int} : met L r = false ↔ ∀ y ∈ L, y.r ≠ r := by
  unfold met
  rw [List.any_eq_false]
  simp
theorem eligF_spec : ∀ (L pre : List Nb), Apart (eligF pre L) ∧ ∀ y ∈ eligF pre L, met pre y.r = false ∧ y ∈ L ∧ 0 < y.p
  | [], pre => by simp [eligF]
  | x :: r, pre => by
    obtain ⟨h1, h2⟩ := eligF_spec r (pre ++ [x])
    have h3 : ∀ y ∈ eligF (pre ++ [x]) r, met pre y.r = false ∧ y ∈ x :: r ∧ 0 < y.p ∧ x.r ≠ y.r := fun y hy => by
      obtain ⟨a, b, c⟩ := h2 y hy
      rw [met_false] at a
      exact ⟨met_false.2 fun z hz => a z (List.mem_append_left _ hz), List.mem_cons_of_mem _ b, c, a x (by simp)⟩
    unfold eligF
    cases he : eligB pre x with
    | false =>
      simp only [Bool.false_eq_true, if_false, List.nil_append]
      exact ⟨h1, fun y hy => ⟨(h3 y hy).1, (h3 y hy).2.1, (h3 y hy).2.2.1⟩⟩
    | true =>
      simp only [if_true]
      have he' := he
      simp only [eligB, Bool.and_eq_true, Bool.not_eq_true', decide_eq_true_eq] at he'
      refine ⟨List.pairwise_append.2 ⟨List.pairwise_singleton .., h1, fun a ha b hb => ?_⟩, fun y hy => ?_⟩
      · obtain rfl := List.mem_singleton.1 ha
        exact (h3 b hb).2.2.2
      · rcases List.mem_append.1 hy with hy | hy
        · obtain rfl := List.mem_singleton.1 hy
          exact ⟨he'.1, List.mem_cons_self .., he'.2⟩
        · exact ⟨(h3 y hy).1, (h3 y hy).2.1, (h3 y hy).2.2.1⟩
theorem elig_apart (L : List Nb) : Apart (elig L) := (eligF_spec L []).1
theorem changes_not {self d b : Int} {x : Nb} (h : x.r ≠ self) : changes self d b x = false := by
  rw [changes, isR, decide_eq_false h, Bool.false_and]
theorem change_not {self d b : Int} {x : Nb} (h : x.r ≠ self) : change self d b x = x := by
  rw [change, changes_not h]; rfl
theorem turn_eq (self d b : Int) : ∀ (c : List Nb), Apart c → turn self d b c = if c.any (changes self d b) then some (c.map (change self d b)) else none
  | [], _ => rfl
  | x :: t, h => by
    obtain ⟨h1, h2⟩ := List.pairwise_cons.1 h
    by_cases hx : x.r = self
    · have ht : ∀ y ∈ t, y.r ≠ self := fun y hy e => h1 y hy (hx.trans e.symm)
      have hany : t.any (changes self d b) = false := List.any_eq_false.2 fun y hy => by rw [changes_not (ht y hy)]; exact Bool.false_ne_true
      have hmap : t.map (change self d b) = t := 
        (List.map_congr_left (f := change self d b) (g := id) (fun y hy => change_not (ht y hy))).trans (List.map_id t)
      have hq : isR self x = true := decide_eq_true hx
      have hi : (x :: t).findIdx? (isR self) = some 0 := by rw [List.findIdx?_cons, hq]; rfl
      rw [turn, hi, List.any_cons, hany, Bool.or_false, List.map_cons, hmap, changes, hq, Bool.true_and]
      simp only [List.getElem?_cons_zero, List.set_cons_zero]
      cases ho : off self d b x with
      | true => rw [change, changes, hq, ho]; rfl
      | false => rfl
    · have hq : isR self x = false := decide_eq_false hx
      have ih := turn_eq self d b t h2
      rw [List.any_cons, changes_not hx, Bool.false_or, List.map_cons, change_not hx]
      rw [turn] at ih ⊢
      rw [List.findIdx?_cons, hq]
      cases hf : t.findIdx? (isR self) with
      | none =>
        rw [hf] at ih
        dsimp only at ih
        cases ha : t.any (changes self d b) with
        | true => rw [ha] at ih; cases ih
        | false => rfl
      | some i =>
        rw [hf] at ih
        dsimp only at ih
        simp only [Bool.false_eq_true, if_false, Option.map_some, List.getElem?_cons_succ, List.set_cons_succ]
        cases hg : t[i]? with
        | none =>
          rw [hg] at ih
          dsimp only at ih
          cases ha : t.any (changes self d b) with
          | true => rw [ha] at ih; cases ih
          | false => rfl
        | some y =>
          rw [hg] at ih
          dsimp only at ih ⊢
          cases ha : t.any (changes self d b) <;> cases hoff : off self d b y <;> rw [ha, hoff] at ih <;> simp at ih ⊢
          exact ih
theorem elect_same (self : Int) (L : List Nb) : electP self L = electR self L := by
  rw [electP, electR, turn_eq _ _ _ _ (elig_apart L)]
  split <;> rename_i h <;> split at h <;> rename_i h2
  · cases h
  · rw [if_neg h2]
  · cases h; rw [if_pos h2]
  · cases h

/-! ### Whom a round prefers -/
theorem bef_iff (x y : Nb) : x.bef y = true ↔ y.p < x.p ∨ (x.p = y.p ∧ y.r < x.r) := by
  rw [bef_eq]; simp
theorem pref_snoc (q : Nb → Bool) (L : List Nb) (x : Nb) : pref q (L ++ [x]) = if q x && takes (pref q L) x then some x else pref q L := by
  unfold pref
  rw [List.foldl_append]; rfl
theorem rev_ind {P : List Nb → Prop} (h0 : P []) (h1 : ∀ L x, P L → P (L ++ [x])) (L : List Nb) : P L := by
  have : ∀ M : List Nb, P M.reverse := fun M => by
    induction M with
    | nil => exact h0
    | cons x r ih => rw [List.reverse_cons]; exact h1 _ _ ih
  simpa using this L.reverse
/-- Preferred: it holds, and none that holds is ahead of it. -/
theorem pref_spec (q : Nb → Bool) (L : List Nb) : (pref q L = none → ∀ y ∈ L, q y = false) ∧ ∀ x, pref q L = some x → x ∈ L ∧ q x = true ∧ ∀ y ∈ L, q y = true → y.bef x = false := by
  induction L using rev_ind with
  | h0 => exact ⟨fun _ y h => by simp at h, fun x h => by cases h⟩
  | h1 L z ih =>
    obtain ⟨i1, i2⟩ := ih
    rw [pref_snoc]
    cases hq : q z with
    | false =>
      simp only [Bool.false_and, Bool.false_eq_true, if_false]
      refine ⟨fun h y hy => ?_, fun x h => ?_⟩
      · rcases List.mem_append.1 hy with hy | hy
        · exact i1 h y hy
        · obtain rfl := List.mem_singleton.1 hy; exact hq
      · obtain ⟨a, b, c⟩ := i2 x h
        refine ⟨List.mem_append_left _ a, b, fun y hy hqy => ?_⟩
        rcases List.mem_append.1 hy with hy | hy
        · exact c y hy hqy
        · obtain rfl := List.mem_singleton.1 hy; rw [hq] at hqy; cases hqy
    | true =>
      rw [Bool.true_and]
      cases hP : pref q L with
      | none =>
        simp only [takes, Option.isNone_none, Bool.true_or, if_true]
        refine ⟨fun h => (nomatch h), fun x h => ?_⟩
        cases h
        refine ⟨by simp, hq, fun y hy hqy => ?_⟩
        rcases List.mem_append.1 hy with hy | hy
        · rw [i1 hP y hy] at hqy; cases hqy
        · obtain rfl := List.mem_singleton.1 hy
          cases hb : y.bef y with
          | false => rfl
          | true => rw [bef_iff] at hb; omega
      | some b =>
        obtain ⟨a1, a2, a3⟩ := i2 b hP
        simp only [takes, Option.isNone_some, Bool.false_or, Option.getD_some]
        cases hb : z.bef b with
        | true =>
          simp only [if_true]
          refine ⟨fun h => (nomatch h), fun x h => ?_⟩
          cases h
          refine ⟨by simp, hq, fun y hy hqy => ?_⟩
          rcases List.mem_append.1 hy with hy | hy
          · have h3 := a3 y hy hqy
            cases hyz : y.bef z with
            | false => rfl
            | true =>
              have : y.bef b = true := by rw [bef_iff] at hb hyz ⊢; omega
              rw [this] at h3; cases h3
          · obtain rfl := List.mem_singleton.1 hy
            cases hyz : y.bef y with
            | false => rfl
            | true => rw [bef_iff] at hyz; omega
        | false =>
          simp only [Bool.false_eq_true, if_false]
          refine ⟨fun h => (nomatch h), fun x h => ?_⟩
          cases h
          refine ⟨List.mem_append_left _ a1, a2, fun y hy hqy => ?_⟩
          rcases List.mem_append.1 hy with hy | hy
          · exact a3 y hy hqy
          · obtain rfl := List.mem_singleton.1 hy; exact hb
theorem apart_eq {L : List Nb} (h : Apart L) {x y : Nb} (hx : x ∈ L) (hy : y ∈ L) (e : x.r = y.r) : x = y := by
  induction L with
  | nil => cases hx
  | cons z t ih =>
    obtain ⟨h1, h2⟩ := List.pairwise_cons.1 h
    rcases List.mem_cons.1 hx with e1 | h3 <;> rcases List.mem_cons.1 hy with e2 | h4
    · rw [e1, e2]
    · rw [e1] at e; exact absurd e (h1 y h4)
    · rw [e2] at e; exact absurd e.symm (h1 x h3)
    · exact ih h2 h3 h4
/-- Who is preferred, found. -/
theorem pref_is {q : Nb → Bool} {L : List Nb} (h : Apart L) {x : Nb} (hx : x ∈ L) (hq : q x = true) (hb : ∀ y ∈ L, q y = true → y.bef x = false) : pref q L = some x := by
  obtain ⟨h1, h2⟩ := pref_spec q L
  cases hP : pref q L with
  | none => rw [h1 hP x hx] at hq; cases hq
  | some z =>
    obtain ⟨a, b, c⟩ := h2 z hP
    have e1 := hb z a b
    have e2 := c x hx hq
    have : z.r = x.r := by
      rw [← Bool.not_eq_true, bef_iff] at e1 e2; omega
    rw [apart_eq h a hx this]
theorem pref_none {q : Nb → Bool} {L : List Nb} (h : ∀ y ∈ L, q y = false) : pref q L = none := by
  cases hP : pref q L with
  | none => rfl
  | some z =>
    obtain ⟨a, b, _⟩ := (pref_spec q L).2 z hP
    rw [h z a] at b; cases b
/-- Only one that holds: it is preferred. -/
theorem pref_one {q : Nb → Bool} {L : List Nb} (h : Apart L) {x : Nb} (hx : x ∈ L) (hq : q x = true) (h1 : ∀ y ∈ L, q y = true → y = x) : pref q L = some x :=
  pref_is h hx hq fun y hy hqy => by
    rw [h1 y hy hqy]
    cases hb : x.bef x with
    | false => rfl
    | true => rw [bef_iff] at hb; omega
theorem pref_perm {q : Nb → Bool} {L M : List Nb} (h : Apart L) (hp : L.Perm M) : pref q L = pref q M := by
  cases hP : pref q L with
  | none => exact (pref_none fun y hy => (pref_spec q L).1 hP y (hp.mem_iff.2 hy)).symm
  | some x =>
    obtain ⟨a, b, c⟩ := (pref_spec q L).2 x hP
    refine (pref_is (hp.pairwise h fun e => Ne.symm e) (hp.mem_iff.1 a) b fun y hy => c y (hp.mem_iff.2 hy)).symm
end Go.Proofs.Ytfakgiikobajnaa

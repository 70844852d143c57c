/-
  Layer 27 (elect): who is elected, in plain lists.
  No conditions beyond those that each statement names.
-/
import Derived.Test.YtfakgiikobajnaaElP
namespace Go.Proofs.Ytfakgiikobajnaa
open Go.RowKit

theorem rnd_nil : (rndD []).r = 0 ∧ (rndB []).r = 0 := ⟨rfl, rfl⟩
theorem rndB_mem (C : List Nb) : (rndB C).r = 0 ∨ ∃ x ∈ C, x.r = (rndB C).r := by
  unfold rndB
  cases h1 : pref (fun x => x.isBDR && !x.isDR) C with
  | some x => exact .inr ⟨x, ((pref_spec _ C).2 x h1).1, rfl⟩
  | none =>
    cases h2 : pref (fun x => !x.isDR) C with
    | some x => exact .inr ⟨x, ((pref_spec _ C).2 x h2).1, rfl⟩
    | none => exact .inl rfl
theorem rndD_mem {C : List Nb} (h : C ≠ []) : ∃ x ∈ C, x.r = (rndD C).r := by
  unfold rndD
  cases h1 : pref (fun x => x.isDR) C with
  | some x => exact ⟨x, ((pref_spec _ C).2 x h1).1, rfl⟩
  | none =>
    unfold rndB
    cases h2 : pref (fun x => x.isBDR && !x.isDR) C with
    | some x => exact ⟨x, ((pref_spec _ C).2 x h2).1, rfl⟩
    | none =>
      cases h3 : pref (fun x => !x.isDR) C with
      | some x => exact ⟨x, ((pref_spec _ C).2 x h3).1, rfl⟩
      | none =>
        cases C with
        | nil => exact absurd rfl h
        | cons y t =>
          have e1 := (pref_spec _ _).1 h1 y (List.mem_cons_self ..)
          have e3 := (pref_spec _ _).1 h3 y (List.mem_cons_self ..)
          simp only [Bool.not_eq_false'] at e3
          rw [e1] at e3; cases e3
theorem change_r (self d b : Int) (x : Nb) : (change self d b x).r = x.r := by
  unfold change
  split <;> rfl
theorem elig_sub {L : List Nb} {x : Nb} (h : x ∈ elig L) : x ∈ L := ((eligF_spec L []).2 x h).2.1
/-- The list of the last round. -/
theorem electR_of (self : Int) (L : List Nb) : ∃ C : List Nb, electP self L = last2 (rndD C).r (rndB C).r ∧ C.map (·.r) = (elig L).map (·.r) := by
  rw [elect_same, electR]
  split
  · exact ⟨_, rfl, by rw [List.map_map]; exact List.map_congr_left fun x _ => change_r _ _ _ x⟩
  · exact ⟨_, rfl, rfl⟩
theorem elect_none {self : Int} {L : List Nb} (h : elig L = []) : electP self L = (0, 0) := by
  obtain ⟨C, h1, h2⟩ := electR_of self L
  rw [h] at h2
  obtain rfl : C = [] := List.map_eq_nil_iff.1 h2
  rw [h1]; rfl
theorem elect_some {self : Int} {L : List Nb} (h0 : ∀ x ∈ L, x.r ≠ 0) (h : elig L ≠ []) :
    (elig L).any (fun x => decide (x.r = (electP self L).1)) = true ∧ (decide ((electP self L).2 = 0) || (elig L).any (fun x => decide (x.r = (electP self L).2))) = true ∧ (electP self L).1 ≠ (electP self L).2 := by
  obtain ⟨C, h1, h2⟩ := electR_of self L
  have hC : C ≠ [] := fun e => by rw [e] at h2; exact h (List.map_eq_nil_iff.1 h2.symm)
  have hin : ∀ r, (∃ x ∈ C, x.r = r) → (elig L).any (fun x => decide (x.r = r)) = true ∧ r ≠ 0 := fun r ⟨x, hx, e⟩ => by
    have : r ∈ (elig L).map (·.r) := by rw [← h2]; exact List.mem_map.2 ⟨x, hx, e⟩
    obtain ⟨y, hy, e2⟩ := List.mem_map.1 this
    exact ⟨List.any_eq_true.2 ⟨y, hy, decide_eq_true e2⟩, fun e3 => h0 y (elig_sub hy) (e2.trans e3)⟩
  obtain ⟨d1, d2⟩ := hin _ (rndD_mem hC)
  rw [h1]
  unfold last2
  by_cases hbd : (rndB C).r = (rndD C).r
  · rw [if_pos hbd]
    exact ⟨d1, by simp, d2⟩
  · rw [if_neg hbd]
    refine ⟨d1, ?_, fun e => hbd e.symm⟩
    rcases rndB_mem C with e | e
    · rw [decide_eq_true e, Bool.true_or]
    · rw [(hin _ e).1, Bool.or_true]
/-- One alone claims to be the designated router, and it is not oneself. -/
theorem elect_stable {self : Int} {L : List Nb} {x : Nb} (h : (elig L).filter (fun x => x.isDR) = [x]) (hs : x.r ≠ self) : (electP self L).1 = x.r := by
  have hmem : ∀ y, (y ∈ elig L ∧ y.isDR = true) ↔ y = x := fun y => by
    have : y ∈ (elig L).filter (fun x => x.isDR) ↔ _ := List.mem_filter
    rw [h, List.mem_singleton] at this
    exact this.symm
  obtain ⟨hx1, hx2⟩ := (hmem x).2 rfl
  have hap := elig_apart L
  have hD : pref (fun x => x.isDR) (elig L) = some x := pref_one hap hx1 hx2 fun y hy hq => (hmem y).1 ⟨hy, hq⟩
  have hd : (rndD (elig L)).r = x.r := by rw [rndD, hD]; rfl
  rw [elect_same, electR]
  split
  · show (rndD _).r = x.r
    rw [hd]
    generalize (rndB (elig L)).r = b
    have hm : ∀ y, y ∈ (elig L).map (change self x.r b) → ∃ z ∈ elig L, change self x.r b z = y := fun y hy => List.mem_map.1 hy
    have hcx : change self x.r b x = x := change_not hs
    have hap2 : Apart ((elig L).map (change self x.r b)) := by
      rw [Apart, List.pairwise_map]
      exact hap.imp fun h => by rw [change_r, change_r]; exact h
    have : pref (fun x => x.isDR) ((elig L).map (change self x.r b)) = some x := by
      refine pref_one hap2 (List.mem_map.2 ⟨x, hx1, hcx⟩) hx2 fun y hy hq => ?_
      obtain ⟨z, hz, rfl⟩ := hm y hy
      by_cases hzs : z.r = self
      · exfalso
        cases hc : changes self x.r b z with
        | true =>
          rw [change, hc] at hq
          simp only [if_true, Nb.to, Nb.isDR, decide_eq_true_eq] at hq
          exact hs (hq.trans hzs)
        | false =>
          rw [change, hc] at hq
          have := (hmem z).1 ⟨hz, hq⟩
          rw [this] at hzs; exact hs hzs
      · rw [change_not hzs] at hq ⊢
        exact (hmem z).1 ⟨hz, hq⟩
    rw [rndD, this]; rfl
  · exact hd
/-- All declare the same two eligible routers. -/
def says (d b : Int) (x : Nb) : Nb := x.to d b
theorem eligF_map (d b : Int) : ∀ (L pre : List Nb), eligF (pre.map (says d b)) (L.map (says d b)) = (eligF pre L).map (says d b)
  | [], _ => rfl
  | x :: r, pre => by
    have hm : met (pre.map (says d b)) (says d b x).r = met pre x.r := by unfold met; rw [List.any_map]; rfl
    have he : eligB (pre.map (says d b)) (says d b x) = eligB pre x := by unfold eligB; rw [hm]; rfl
    simp only [List.map_cons, eligF, he, List.map_append]
    rw [show pre.map (says d b) ++ [says d b x] = (pre ++ [x]).map (says d b) by simp, eligF_map d b r (pre ++ [x])]
    congr 1
    split <;> rfl
theorem elect_agrees {self : Int} {L : List Nb} {x y : Nb} (hx : x ∈ elig L) (hy : y ∈ elig L) (hne : x.r ≠ y.r) (_hx0 : x.r ≠ 0) (_hy0 : y.r ≠ 0) : electP self (L.map (says x.r y.r)) = (x.r, y.r) := by
  have hE : elig (L.map (says x.r y.r)) = (elig L).map (says x.r y.r) := eligF_map x.r y.r L []
  have hap : Apart ((elig L).map (says x.r y.r)) := by
    rw [Apart, List.pairwise_map]; exact elig_apart L
  have h1 : pref (fun x => x.isDR) ((elig L).map (says x.r y.r)) = some (says x.r y.r x) := by
    refine pref_one hap (List.mem_map.2 ⟨x, hx, rfl⟩) (decide_eq_true rfl) fun z hz hq => ?_
    obtain ⟨u, hu, rfl⟩ := List.mem_map.1 hz
    rw [apart_eq (elig_apart L) hu hx (of_decide_eq_true hq).symm]
  have h2 : pref (fun x => x.isBDR && !x.isDR) ((elig L).map (says x.r y.r)) = some (says x.r y.r y) := by
    refine pref_one hap (List.mem_map.2 ⟨y, hy, rfl⟩) ?_ fun z hz hq => ?_
    · have e1 : (says x.r y.r y).isBDR = true := decide_eq_true rfl
      have e2 : (says x.r y.r y).isDR = false := decide_eq_false hne
      rw [e1, e2]; rfl
    · obtain ⟨u, hu, rfl⟩ := List.mem_map.1 hz
      rw [apart_eq (elig_apart L) hu hy (of_decide_eq_true (Bool.and_eq_true_iff.1 hq).1).symm]
  have hd : (rndD ((elig L).map (says x.r y.r))).r = x.r := by rw [rndD, h1]; rfl
  have hb : (rndB ((elig L).map (says x.r y.r))).r = y.r := by rw [rndB, h2]; rfl
  rw [elect_same, electR, hE, hd, hb, if_neg]
  · rw [last2, if_neg (Ne.symm hne)]
  · rw [Bool.not_eq_true, List.any_eq_false]
    intro z hz
    obtain ⟨u, hu, rfl⟩ := List.mem_map.1 hz
    rw [Bool.not_eq_true]
    by_cases hs : u.r = self
    · subst hs
      show (isR u.r (says x.r y.r u) && off u.r x.r y.r (says x.r y.r u)) = false
      have e1 : (says x.r y.r u).isDR = decide (x.r = u.r) := rfl
      have e2 : (says x.r y.r u).isBDR = decide (y.r = u.r) := rfl
      rw [off, e1, e2]
      simp
    · exact changes_not hs
/-- The order of candidates with different routers. -/
theorem elig_filter {L : List Nb} (h : Apart L) : elig L = L.filter (fun x => decide (0 < x.p)) := by
  have key : ∀ (L pre : List Nb), Apart L → (∀ x ∈ L, met pre x.r = false) → eligF pre L = L.filter (fun x => decide (0 < x.p)) := by
    intro L
    induction L with
    | nil => intro _ _ _; rfl
    | cons x r ih =>
      intro pre hL hm
      obtain ⟨h1, h2⟩ := List.pairwise_cons.1 hL
      have hx := hm x (List.mem_cons_self ..)
      have hr := ih (pre ++ [x]) h2 fun y hy => by
        have := hm y (List.mem_cons_of_mem _ hy)
        rw [met_false] at this ⊢
        intro z hz
        rcases List.mem_append.1 hz with hz | hz
        · exact this z hz
        · obtain rfl := List.mem_singleton.1 hz; exact h1 y hy
      rw [eligF, hr, eligB, hx, Bool.not_false, Bool.true_and, List.filter_cons]
      split <;> simp
  exact key L [] h fun x _ => rfl
theorem electR_perm {C C' : List Nb} (h : Apart C) (hp : C.Perm C') : (rndD C).r = (rndD C').r ∧ (rndB C).r = (rndB C').r := by
  unfold rndD rndB
  rw [pref_perm h hp, pref_perm h hp, pref_perm h hp]
  exact ⟨rfl, rfl⟩
theorem any_perm {C C' : List Nb} (p : Nb → Bool) (hp : C.Perm C') : C.any p = C'.any p := by
  rw [Bool.eq_iff_iff, List.any_eq_true, List.any_eq_true]
  exact ⟨fun ⟨x, hx, h⟩ => ⟨x, hp.mem_iff.1 hx, h⟩, fun ⟨x, hx, h⟩ => ⟨x, hp.mem_iff.2 hx, h⟩⟩
theorem elect_order {self : Int} {L M : List Nb} (h : Apart L) (hp : L.Perm M) : electP self L = electP self M := by
  have hM : Apart M := hp.pairwise h fun e => Ne.symm e
  have hE : (elig L).Perm (elig M) := by rw [elig_filter h, elig_filter hM]; exact hp.filter _
  have hap := elig_apart L
  obtain ⟨e1, e2⟩ := electR_perm hap hE
  rw [elect_same, elect_same, electR, electR, e1, e2, any_perm _ hE]
  have hE2 := hE.map (change self (rndD (elig M)).r (rndB (elig M)).r)
  have hap2 : Apart ((elig L).map (change self (rndD (elig M)).r (rndB (elig M)).r)) := by
    rw [Apart, List.pairwise_map]
    exact hap.imp fun h => by rw [change_r, change_r]; exact h
  obtain ⟨e3, e4⟩ := electR_perm hap2 hE2
  rw [e3, e4]
end Go.Proofs.Ytfakgiikobajnaa

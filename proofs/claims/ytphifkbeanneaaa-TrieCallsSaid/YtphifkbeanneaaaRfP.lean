/-
  Layer 6 (trie), in plain lists: what the reference's list of entries does.
  No conditions beyond those that each statement names.
-/
import Derived.Test.YtphifkbeanneaaaTrDL
namespace Go.Proofs.Ytphifkbeanneaaa
open Go.RowKit

/-- The index of the first entry whose prefix is not less. -/
def plc : List En → Pf → Nat
  | [], _ => 0
  | x :: r, p => if pLt x.p p then plc r p + 1 else 0
theorem plc_le (S : List En) (p : Pf) : plc S p ≤ S.length := by
  induction S with
  | nil => exact Nat.le_refl _
  | cons x r ih =>
    rw [plc, List.length_cons]
    split <;> omega
theorem plc_step {S : List En} {p : Pf} {k : Nat} (h : k ≤ plc S p) {x : En} (hx : S[k]? = some x) : if pLt x.p p then k + 1 ≤ plc S p else k = plc S p := by
  induction S generalizing k with
  | nil => simp at hx
  | cons y r ih =>
    rw [plc] at h ⊢
    cases k with
    | zero =>
      simp only [List.getElem?_cons_zero, Option.some.injEq] at hx
      subst hx
      split <;> simp
    | succ k =>
      simp only [List.getElem?_cons_succ] at hx
      by_cases hy : pLt y.p p
      · rw [if_pos hy] at h ⊢
        have := ih (by omega) hx
        split
        · rename_i h2; rw [if_pos h2] at this; omega
        · rename_i h2; rw [if_neg h2] at this; omega
      · rw [if_neg hy] at h; omega
def findV (S : List En) (p : Pf) : Option Int := (S.find? (fun e => decide (e.p = p))).map (·.v)
def delL (S : List En) (p : Pf) : List En := S.filter (fun e => !decide (e.p = p))
theorem findV_take {S : List En} {p : Pf} {k : Nat} (h : ∀ e ∈ S.take k, e.p ≠ p) {x : En} (hx : S[k]? = some x) (he : x.p = p) : findV S p = some x.v := by
  induction S generalizing k with
  | nil => simp at hx
  | cons y r ih =>
    unfold findV at ih ⊢
    rw [List.find?_cons]
    cases k with
    | zero =>
      simp only [List.getElem?_cons_zero, Option.some.injEq] at hx
      subst hx
      rw [decide_eq_true he]; rfl
    | succ k =>
      simp only [List.getElem?_cons_succ] at hx
      rw [List.take_succ_cons] at h
      rw [decide_eq_false (h y (List.mem_cons_self ..))]
      exact ih (fun e he => h e (List.mem_cons_of_mem _ he)) hx
theorem findV_none {S : List En} {p : Pf} : findV S p = none ↔ ∀ e ∈ S, e.p ≠ p := by
  unfold findV
  rw [Option.map_eq_none_iff, List.find?_eq_none]
  simp
theorem findV_some {S : List En} {p : Pf} {v : Int} (h : findV S p = some v) : ⟨p, v⟩ ∈ S := by
  unfold findV at h
  obtain ⟨e, h1, h2⟩ := Option.map_eq_some_iff.1 h
  have h3 := List.mem_of_find?_eq_some h1
  have h4 : e.p = p := of_decide_eq_true (List.find?_some (p := fun e : En => decide (e.p = p)) h1)
  cases e
  simp only at h2 h4
  subst h2; subst h4; exact h3
theorem delL_same {S : List En} {p : Pf} (h : ∀ e ∈ S, e.p ≠ p) : delL S p = S :=
  List.filter_eq_self.2 fun e he => by rw [decide_eq_false (h e he)]; rfl
theorem above_ne {x : En} {r : List En} (h : ∀ y ∈ r, pLt x.p y.p) {p : Pf} (hp : x.p = p ∨ pLt p x.p) : ∀ e ∈ r, e.p ≠ p := fun e he e2 => by
  have := h e he
  rw [e2] at this
  rcases hp with rfl | hp
  · exact pLt_irrefl _ this
  · exact pLt_irrefl _ (pLt_trans this hp)
theorem plc_above {x : En} {r : List En} (h : ∀ y ∈ r, pLt x.p y.p) {p : Pf} (hp : x.p = p ∨ pLt p x.p) : plc r p = 0 := by
  cases r with
  | nil => rfl
  | cons y r =>
    rw [plc, if_neg]
    intro h2
    have := h y (List.mem_cons_self ..)
    have h3 := pLt_trans this h2
    rcases hp with rfl | hp
    · exact pLt_irrefl _ h3
    · exact pLt_irrefl _ (pLt_trans h3 hp)
theorem ins_eq (e : En) : ∀ (S : List En), Srt S → (delL S e.p).take (plc (delL S e.p) e.p) ++ e :: (delL S e.p).drop (plc (delL S e.p) e.p) = insL e S
  | [], _ => rfl
  | x :: r, h => by
    obtain ⟨h1, h2⟩ := List.pairwise_cons.1 h
    have ih := ins_eq e r h2
    unfold insL
    by_cases he : x.p = e.p
    · have hd : delL (x :: r) e.p = r := by
        have := delL_same (above_ne h1 (.inl he))
        unfold delL at this ⊢
        rw [List.filter_cons, decide_eq_true he]
        exact this
      rw [if_pos he, hd, plc_above h1 (.inl he)]; rfl
    · have hd : delL (x :: r) e.p = x :: delL r e.p := by
        unfold delL
        rw [List.filter_cons, decide_eq_false he]
        rfl
      rw [if_neg he, hd, plc]
      by_cases hlt : pLt e.p x.p
      · have : ¬pLt x.p e.p := fun h3 => pLt_irrefl _ (pLt_trans hlt h3)
        rw [if_pos hlt, if_neg this, delL_same (above_ne h1 (.inr hlt))]; rfl
      · rw [if_neg hlt, if_pos (pLt_total hlt (Ne.symm he)), List.take_succ_cons, List.drop_succ_cons, List.cons_append, ih]
theorem del_eq (p : Pf) : ∀ (S : List En), Srt S → findV S p ≠ none → S.take (plc S p) ++ S.drop (plc S p + 1) = delL S p ∧ plc S p < S.length
  | [], _, h => absurd rfl h
  | x :: r, h, hf => by
    obtain ⟨h1, h2⟩ := List.pairwise_cons.1 h
    by_cases he : x.p = p
    · have hn : ¬pLt x.p p := by rw [he]; exact pLt_irrefl _
      rw [plc, if_neg hn]
      refine ⟨?_, Nat.succ_pos _⟩
      have := delL_same (above_ne h1 (.inl he))
      unfold delL at this ⊢
      rw [List.filter_cons, decide_eq_true he]
      exact this.symm
    · have hf2 : findV r p ≠ none := fun h3 => hf (findV_none.2 fun e he2 => by
        rcases List.mem_cons.1 he2 with rfl | he2
        · exact he
        · exact findV_none.1 h3 e he2)
      obtain ⟨i1, i2⟩ := del_eq p r h2 hf2
      have hlt : pLt x.p p := by
        cases hv : findV r p with
        | none => exact absurd hv hf2
        | some v => exact h1 _ (findV_some hv)
      have hd : delL (x :: r) p = x :: delL r p := by
        unfold delL
        rw [List.filter_cons, decide_eq_false he]
        rfl
      rw [plc, if_pos hlt, hd, List.take_succ_cons, List.drop_succ_cons, List.cons_append, i1]
      exact ⟨rfl, by rw [List.length_cons]; omega⟩
theorem delL_srt {S : List En} (h : Srt S) (p : Pf) : Srt (delL S p) := h.filter _
theorem delL_len (S : List En) (p : Pf) : (delL S p).length ≤ S.length := List.length_filter_le _ _
/-! ### The reference and the trie -/
theorem find_rep {E : Nat → Nat → Option Int} {S : List En} (h : Rep E S) {p : Pf} (ha : p.a < 4294967296) : findV S p = getV E p := by
  rw [getV]
  cases hf : findV S p with
  | none =>
    split
    · rename_i hv
      cases hat : at_ E p with
      | none => rfl
      | some v => exact absurd rfl (findV_none.1 hf _ ((h.mem ⟨p, v⟩ hv ha).2 hat))
    · rfl
  | some v =>
    have hm := findV_some hf
    obtain ⟨h1, h2⟩ := h.ok _ hm
    rw [if_pos h1]
    exact ((h.mem _ h1 h2).1 hm).symm
theorem Rep.del {E : Nat → Nat → Option Int} {S : List En} (h : Rep E S) {p : Pf} (hp : p.valid = true) : Rep (delE E p) (delL S p) := by
  refine ⟨delL_srt h.srt p, fun e he => h.ok e (List.mem_filter.1 he).1, fun e he hea => ?_⟩
  have hm := h.mem e he hea
  unfold delL
  rw [List.mem_filter, hm, at_, at_, delE]
  by_cases h2 : e.p.a = p.a ∧ e.p.n.toNat = p.n.toNat
  · have e2 := at_inj hp he h2
    rw [if_pos h2, decide_eq_true e2]
    simp
  · have e2 : e.p ≠ p := fun e3 => h2 (by rw [e3]; exact ⟨rfl, rfl⟩)
    rw [if_neg h2, decide_eq_false e2]
    simp
theorem Rep.inval {E : Nat → Nat → Option Int} {S : List En} (h : Rep E S) {p : Pf} (hp : p.valid = false) : delL S p = S ∧ findV S p = none := by
  have : ∀ e ∈ S, e.p ≠ p := fun e he e2 => by
    have := (h.ok e he).1
    rw [e2, hp] at this; cases this
  exact ⟨delL_same this, findV_none.2 this⟩
def covB (q p : Pf) : Bool := p.valid && (q.has p.a && decide (q.n ≤ p.n))
theorem pre_mem {E : Nat → Nat → Option Int} {a : Nat} {e : En} : ∀ {k : Nat}, e ∈ pre E a k ↔ ∃ j, j < k ∧ e.p = ⟨top a j, j⟩ ∧ E (top a j) j = some e.v
  | 0 => by simp [pre]
  | k + 1 => by
    rw [pre_succ, List.mem_append, adds_mem, pre_mem]
    constructor
    · rintro (⟨j, h1, h2⟩ | ⟨h1, h2⟩)
      · exact ⟨j, by omega, h2⟩
      · exact ⟨k, by omega, h1, h2⟩
    · rintro ⟨j, h1, h2, h3⟩
      rcases Nat.lt_or_ge j k with h4 | h4
      · exact .inl ⟨j, h4, h2, h3⟩
      · obtain rfl : j = k := by omega
        exact .inr ⟨h2, h3⟩
theorem pre_srt (E : Nat → Nat → Option Int) (a : Nat) : ∀ k, k ≤ 33 → Srt (pre E a k)
  | 0, _ => by simp [pre]
  | k + 1, hk => by
    rw [pre_succ]
    refine List.pairwise_append.2 ⟨pre_srt E a k (by omega), adds_srt _ _, fun x hx y hy => ?_⟩
    obtain ⟨j, h1, h2, _⟩ := pre_mem.1 hx
    obtain ⟨h3, _⟩ := adds_mem.1 hy
    have h5 : top (top a k) j = top a j := top_top a (by omega) (by omega)
    have h6 := top_le (top a k) j
    rw [h2, h3]
    unfold pLt
    simp only
    rw [h5] at h6
    omega
theorem above_rep {E : Nat → Nat → Option Int} {S : List En} (h : Rep E S) {p : Pf} (ha : p.a < 4294967296) : aboveL E p = S.filter (fun e => covB e.p p) := by
  unfold aboveL covB
  cases hv : p.valid with
  | false => simp
  | true =>
    obtain ⟨v1, v2, v3⟩ := Pf.valid_iff.1 hv
    simp only [if_true, Bool.true_and]
    refine srt_eq (pre_srt E p.a _ (by omega)) (h.srt.filter _) fun e => ?_
    rw [pre_mem, List.mem_filter, Bool.and_eq_true, decide_eq_true_eq, Pf.has, Bool.and_eq_true, decide_eq_true_eq]
    constructor
    · rintro ⟨j, h1, h2, h3⟩
      have hj : j ≤ 32 := by omega
      have htt : top (top p.a j) j = top p.a j := top_top p.a (Nat.le_refl j) hj
      have hok : e.p.valid = true := by
        rw [h2]
        exact Pf.valid_iff.2 ⟨Int.natCast_nonneg _, by simp only; omega, by simp only [Int.toNat_natCast]; exact htt⟩
      have hlt : e.p.a < 4294967296 := by rw [h2]; exact Nat.lt_of_le_of_lt (top_le _ _) ha
      refine ⟨(h.mem e hok hlt).2 ?_, ⟨hok, ?_⟩, ?_⟩
      · rw [at_, h2]; exact h3
      · rw [h2]; rfl
      · rw [h2]; simp only; omega
    · rintro ⟨h1, ⟨h2, h3⟩, h4⟩
      obtain ⟨w1, w2, w3⟩ := Pf.valid_iff.1 h2
      refine ⟨e.p.n.toNat, by omega, pf_eq h3.symm (show e.p.n = ((e.p.n.toNat : Nat) : Int) by omega), ?_⟩
      have := (h.mem e h2 (h.ok e h1).2).1 h1
      rw [h3]; exact this
theorem under_rep {E : Nat → Nat → Option Int} {S : List En} (h : Rep E S) {p : Pf} (ha : p.a < 4294967296) : underL E p = S.filter (fun e => covB p e.p) := by
  cases hv : p.valid with
  | false =>
    unfold covB Pf.has underL
    rw [hv]; simp
  | true =>
    obtain ⟨v1, v2, v3⟩ := Pf.valid_iff.1 hv
    rw [underL_eq h hv ha]
    refine List.filter_congr fun e he => ?_
    rw [covB, underB, Pf.has, hv, (h.ok e he).1, Bool.true_and, Bool.true_and]
    congr 1
    exact decide_eq_decide.2 (by omega)
end Go.Proofs.Ytphifkbeanneaaa

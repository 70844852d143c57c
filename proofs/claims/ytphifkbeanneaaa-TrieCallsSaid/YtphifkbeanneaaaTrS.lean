/-
  Layer 6 (trie), in plain lists: the entries of a trie as a sorted list.
  No conditions beyond those that each statement names.
-/
import Derived.Test.YtphifkbeanneaaaTrL
namespace Go.Proofs.Ytphifkbeanneaaa
open Go.RowKit

/-- Prefixes by address, then by length. -/
def pLt (p q : Pf) : Prop := p.a < q.a ∨ (p.a = q.a ∧ p.n < q.n)
instance (p q : Pf) : Decidable (pLt p q) := by unfold pLt; infer_instance
theorem pLt_irrefl (p : Pf) : ¬pLt p p := by unfold pLt; omega
theorem pLt_trans {p q r : Pf} (h : pLt p q) (h2 : pLt q r) : pLt p r := by unfold pLt at *; omega
theorem pf_eq {p q : Pf} (h1 : p.a = q.a) (h2 : p.n = q.n) : p = q := by cases p; cases q; simp_all
theorem pLt_total {p q : Pf} (h1 : ¬pLt p q) (h2 : p ≠ q) : pLt q p := by
  have : ¬(p.a = q.a ∧ p.n = q.n) := fun ⟨a, b⟩ => h2 (pf_eq a b)
  unfold pLt at *
  omega
abbrev Srt (S : List En) : Prop := S.Pairwise (fun x y => pLt x.p y.p)
theorem srt_eq : ∀ {A B : List En}, Srt A → Srt B → (∀ e, e ∈ A ↔ e ∈ B) → A = B
  | [], [], _, _, _ => rfl
  | [], b :: B, _, _, h => by have := (h b).2 (List.mem_cons_self ..); cases this
  | a :: A, [], _, _, h => by have := (h a).1 (List.mem_cons_self ..); cases this
  | a :: A, b :: B, hA, hB, h => by
    obtain ⟨a1, a2⟩ := List.pairwise_cons.1 hA
    obtain ⟨b1, b2⟩ := List.pairwise_cons.1 hB
    have hab : a = b := by
      rcases List.mem_cons.1 ((h a).1 (List.mem_cons_self ..)) with e | e
      · exact e
      · rcases List.mem_cons.1 ((h b).2 (List.mem_cons_self ..)) with e2 | e2
        · exact e2.symm
        · exact absurd (pLt_trans (b1 a e) (a1 b e2)) (pLt_irrefl _)
    subst hab
    congr 1
    refine srt_eq a2 b2 fun e => ⟨fun he => ?_, fun he => ?_⟩
    · rcases List.mem_cons.1 ((h e).1 (List.mem_cons_of_mem _ he)) with e2 | e2
      · subst e2; exact absurd (a1 _ he) (pLt_irrefl _)
      · exact e2
    · rcases List.mem_cons.1 ((h e).2 (List.mem_cons_of_mem _ he)) with e2 | e2
      · subst e2; exact absurd (b1 _ he) (pLt_irrefl _)
      · exact e2
theorem srt_key {S : List En} (h : Srt S) {x y : En} (hx : x ∈ S) (hy : y ∈ S) (e : x.p = y.p) : x = y := by
  induction S with
  | nil => cases hx
  | cons a r ih =>
    obtain ⟨h1, h2⟩ := List.pairwise_cons.1 h
    rcases List.mem_cons.1 hx with e1 | h3 <;> rcases List.mem_cons.1 hy with e2 | h4
    · rw [e1, e2]
    · have := h1 y h4
      rw [← e1, e] at this; exact absurd this (pLt_irrefl _)
    · have := h1 x h3
      rw [← e2, e] at this; exact absurd this (pLt_irrefl _)
    · exact ih h2 h3 h4
/-- The list holds just the entries of E, in order. -/
structure Rep (E : Nat → Nat → Option Int) (S : List En) : Prop where
  srt : Srt S
  ok : ∀ e ∈ S, e.p.valid = true ∧ e.p.a < 4294967296
  mem : ∀ e : En, e.p.valid = true → e.p.a < 4294967296 → (e ∈ S ↔ at_ E e.p = some e.v)
theorem Rep.nil : Rep (fun _ _ => none) [] := ⟨List.Pairwise.nil, fun e h => (by cases h), fun e _ _ => ⟨fun h => (by cases h), fun h => nomatch h⟩⟩
def insL (e : En) : List En → List En
  | [] => [e]
  | x :: r => if x.p = e.p then e :: r else if pLt e.p x.p then e :: x :: r else x :: insL e r
theorem insL_mem {S : List En} (h : Srt S) (e x : En) : x ∈ insL e S ↔ x = e ∨ (x ∈ S ∧ x.p ≠ e.p) := by
  induction S with
  | nil => simp [insL]
  | cons y r ih =>
    obtain ⟨h1, h2⟩ := List.pairwise_cons.1 h
    unfold insL
    split
    · rename_i he
      simp only [List.mem_cons]
      constructor
      · rintro (h | h)
        · exact .inl h
        · refine .inr ⟨.inr h, fun e2 => ?_⟩
          have := h1 x h
          rw [he, ← e2] at this; exact pLt_irrefl _ this
      · rintro (h | ⟨h | h, h3⟩)
        · exact .inl h
        · subst h; exact absurd he h3
        · exact .inr h
    · rename_i hne
      split
      · rename_i hlt
        simp only [List.mem_cons]
        constructor
        · rintro (h | h | h)
          · exact .inl h
          · subst h; exact .inr ⟨.inl rfl, hne⟩
          · refine .inr ⟨.inr h, fun e2 => ?_⟩
            have := pLt_trans hlt (h1 x h)
            rw [e2] at this; exact pLt_irrefl _ this
        · rintro (h | ⟨h | h, _⟩)
          · exact .inl h
          · exact .inr (.inl h)
          · exact .inr (.inr h)
      · simp only [List.mem_cons, ih h2]
        constructor
        · rintro (h | h | ⟨h, h3⟩)
          · subst h; exact .inr ⟨.inl rfl, hne⟩
          · exact .inl h
          · exact .inr ⟨.inr h, h3⟩
        · rintro (h | ⟨h | h, h3⟩)
          · exact .inr (.inl h)
          · exact .inl h
          · exact .inr (.inr ⟨h, h3⟩)
theorem insL_srt {S : List En} (h : Srt S) (e : En) : Srt (insL e S) := by
  induction S with
  | nil => exact List.pairwise_singleton ..
  | cons y r ih =>
    obtain ⟨h1, h2⟩ := List.pairwise_cons.1 h
    unfold insL
    split
    · rename_i he
      exact List.pairwise_cons.2 ⟨fun z hz => by rw [← he]; exact h1 z hz, h2⟩
    · rename_i hne
      split
      · rename_i hlt
        refine List.pairwise_cons.2 ⟨fun z hz => ?_, h⟩
        rcases List.mem_cons.1 hz with rfl | hz
        · exact hlt
        · exact pLt_trans hlt (h1 z hz)
      · rename_i hlt
        refine List.pairwise_cons.2 ⟨fun z hz => ?_, ih h2⟩
        rcases (insL_mem h2 e z).1 hz with rfl | ⟨hz, _⟩
        · exact pLt_total hlt (Ne.symm hne)
        · exact h1 z hz
theorem at_inj {p q : Pf} (hp : p.valid = true) (hq : q.valid = true) (h : q.a = p.a ∧ q.n.toNat = p.n.toNat) : q = p := by
  obtain ⟨p1, _, _⟩ := Pf.valid_iff.1 hp
  obtain ⟨q1, _, _⟩ := Pf.valid_iff.1 hq
  exact pf_eq h.1 (by omega)
theorem Rep.put {E : Nat → Nat → Option Int} {S : List En} (h : Rep E S) {p : Pf} (hp : p.valid = true) (ha : p.a < 4294967296) (v : Int) : Rep (setE E p v) (insL ⟨p, v⟩ S) := by
  refine ⟨insL_srt h.srt _, fun e he => ?_, fun e he hea => ?_⟩
  · rcases (insL_mem h.srt _ e).1 he with rfl | ⟨he, _⟩
    · exact ⟨hp, ha⟩
    · exact h.ok e he
  · rw [insL_mem h.srt, at_, setE]
    split
    · rename_i h2
      have e2 := at_inj hp he h2
      constructor
      · rintro (h3 | ⟨_, h3⟩)
        · rw [h3]
        · exact absurd e2 h3
      · intro h3
        refine .inl ?_
        cases e
        simp only at e2
        subst e2
        cases h3; rfl
    · rename_i h2
      have e2 : e.p ≠ p := fun e3 => h2 (by rw [e3]; exact ⟨rfl, rfl⟩)
      have := h.mem e he hea
      rw [at_] at this
      rw [← this]
      constructor
      · rintro (h3 | ⟨h3, _⟩)
        · rw [h3] at e2; exact absurd rfl e2
        · exact h3
      · exact fun h3 => .inr ⟨h3, e2⟩
theorem insL_len (e : En) : ∀ (S : List En), Srt S → (insL e S).length = if S.any (fun x => decide (x.p = e.p)) then S.length else S.length + 1
  | [], _ => rfl
  | x :: r, h => by
    obtain ⟨h1, h2⟩ := List.pairwise_cons.1 h
    unfold insL
    by_cases he : x.p = e.p
    · simp [he]
    · rw [if_neg he, List.any_cons, decide_eq_false he, Bool.false_or]
      by_cases hlt : pLt e.p x.p
      · rw [if_pos hlt, if_neg]
        · rfl
        · rw [Bool.not_eq_true, List.any_eq_false]
          intro z hz hz2
          have := pLt_trans hlt (h1 z hz)
          rw [of_decide_eq_true hz2] at this
          exact pLt_irrefl _ this
      · rw [if_neg hlt, List.length_cons, insL_len e r h2]
        split <;> simp
theorem Rep.none_iff {E : Nat → Nat → Option Int} {S : List En} (h : Rep E S) {p : Pf} (hp : p.valid = true) (ha : p.a < 4294967296) : (at_ E p).isNone = !S.any (fun x => decide (x.p = p)) := by
  cases hE : at_ E p with
  | none =>
    have : S.any (fun x => decide (x.p = p)) = false := List.any_eq_false.2 fun x hx h2 => by
      have e := of_decide_eq_true h2
      obtain ⟨h3, h4⟩ := h.ok x hx
      have := (h.mem x h3 h4).1 hx
      rw [e, hE] at this; cases this
    rw [this]; rfl
  | some v =>
    have : S.any (fun x => decide (x.p = p)) = true := List.any_eq_true.2 ⟨⟨p, v⟩, (h.mem ⟨p, v⟩ hp ha).2 hE, decide_eq_true rfl⟩
    rw [this]; rfl
/-- The sorted list of entries that were put one after another. -/
def srtL (L : List En) : List En := L.foldl (fun S e => insL e S) []
theorem rep_of : ∀ (L : List En), allOk L = true → (∀ e ∈ L, e.p.a < 4294967296) → Rep (ofS L).1 (srtL L) ∧ (ofS L).2 = (srtL L).length := by
  have key : ∀ (L : List En) (s : St) (S : List En), Rep s.1 S → s.2 = S.length → allOk L = true → (∀ e ∈ L, e.p.a < 4294967296) → Rep (L.foldl putS s).1 (L.foldl (fun S e => insL e S) S) ∧ (L.foldl putS s).2 = (L.foldl (fun S e => insL e S) S).length := by
    intro L
    induction L with
    | nil => intro s S h h2 _ _; exact ⟨h, h2⟩
    | cons x r ih =>
      intro s S h h2 hok ha
      unfold allOk at hok
      rw [List.all_cons, Bool.and_eq_true] at hok
      have hax := ha x (List.mem_cons_self ..)
      refine ih (putS s x) (insL x S) (h.put hok.1 hax x.v) ?_ hok.2 (fun e he => ha e (List.mem_cons_of_mem _ he))
      rw [insL_len x S h.srt]
      unfold putS
      simp only [h.none_iff hok.1 hax, h2]
      cases S.any (fun y => decide (y.p = x.p)) <;> simp
  intro L hok ha
  exact key L St.zero [] Rep.nil rfl hok ha
/-! ### Below a prefix -/
theorem top_mono {a b c : Nat} (h : a ≤ b) : top a c ≤ top b c := by unfold top; exact Nat.mul_le_mul_right _ (Nat.div_le_div_right h)
def underB (x k : Nat) (e : En) : Bool := decide (top e.p.a k = x) && decide ((k : Int) ≤ e.p.n)
theorem adds_mem {p : Pf} {o : Option Int} {e : En} : e ∈ adds p o ↔ e.p = p ∧ o = some e.v := by
  unfold adds
  cases o with
  | none => simp
  | some v =>
    simp only [List.mem_singleton, Option.some.injEq]
    constructor
    · rintro rfl; exact ⟨rfl, rfl⟩
    · rintro ⟨rfl, rfl⟩; rfl
theorem top_split {a x k : Nat} (hk : k < 32) (h : top a k = x) : top a (k + 1) = kidA x k 0 ∨ top a (k + 1) = kidA x k 1 := by
  have := top_kid a hk
  rw [h] at this
  have hb := bit_lt a k
  rcases (by omega : bitAt a k = 0 ∨ bitAt a k = 1) with e | e
  · exact .inl (by rw [this, e])
  · exact .inr (by rw [this, e])
theorem sub_mem (E : Nat → Nat → Option Int) : ∀ (f x k : Nat), k + f = 32 → top x k = x → x < 4294967296 → ∀ e : En, e ∈ sub E f x k ↔ e.p.valid = true ∧ e.p.a < 4294967296 ∧ top e.p.a k = x ∧ (k : Int) ≤ e.p.n ∧ at_ E e.p = some e.v
  | 0, x, k, hk, hx, hl, e => by
    obtain rfl : k = 32 := by omega
    rw [sub, adds_mem]
    constructor
    · rintro ⟨h1, h2⟩
      rw [h1]
      exact ⟨Pf.valid_iff.2 ⟨by simp, by simp, by simpa using hx⟩, hl, hx, by simp, h2⟩
    · rintro ⟨h1, h2, h3, h4, h5⟩
      obtain ⟨v1, v2, v3⟩ := Pf.valid_iff.1 h1
      rw [top_full] at h3
      have hn : e.p.n = 32 := by omega
      have hp : e.p = ⟨x, (32 : Nat)⟩ := pf_eq h3 hn
      refine ⟨hp, ?_⟩
      rw [hp] at h5; exact h5
  | f + 1, x, k, hk, hx, hl, e => by
    have hk32 : k < 32 := by omega
    have t0 := kid_top hk32 hx (bit := 0) (by omega)
    have t1 := kid_top hk32 hx (bit := 1) (by omega)
    rw [sub, List.mem_append, List.mem_append, adds_mem, sub_mem E f _ _ (by omega) t0.1 (kid_lt hk32 hx (by omega) hl), sub_mem E f _ _ (by omega) t1.1 (kid_lt hk32 hx (by omega) hl)]
    constructor
    · rintro (⟨h1, h2⟩ | ⟨h1, h2, h3, h4, h5⟩ | ⟨h1, h2, h3, h4, h5⟩)
      · rw [h1]
        exact ⟨Pf.valid_iff.2 ⟨by simp, by simp; omega, by simpa using hx⟩, hl, hx, by simp, h2⟩
      · refine ⟨h1, h2, ?_, by omega, h5⟩
        rw [← top_top e.p.a (j := k) (k := k + 1) (by omega) (by omega), h3, t0.2]
      · refine ⟨h1, h2, ?_, by omega, h5⟩
        rw [← top_top e.p.a (j := k) (k := k + 1) (by omega) (by omega), h3, t1.2]
    · rintro ⟨h1, h2, h3, h4, h5⟩
      obtain ⟨v1, v2, v3⟩ := Pf.valid_iff.1 h1
      by_cases hn : e.p.n = k
      · refine .inl ⟨pf_eq ?_ hn, ?_⟩
        · rw [hn, Int.toNat_natCast] at v3
          rw [← v3, h3]
        · have : e.p.a = x := by rw [hn, Int.toNat_natCast] at v3; rw [← v3, h3]
          rw [at_, this, hn, Int.toNat_natCast] at h5; exact h5
      · rcases top_split hk32 h3 with h6 | h6
        · exact .inr (.inl ⟨h1, h2, h6, by omega, h5⟩)
        · exact .inr (.inr ⟨h1, h2, h6, by omega, h5⟩)
theorem adds_srt (p : Pf) (o : Option Int) : Srt (adds p o) := by unfold adds; split <;> simp
theorem sub_srt (E : Nat → Nat → Option Int) : ∀ (f x k : Nat), k + f = 32 → top x k = x → x < 4294967296 → Srt (sub E f x k)
  | 0, x, k, _, _, _ => by rw [sub]; exact adds_srt _ _
  | f + 1, x, k, hk, hx, hl => by
    have hk32 : k < 32 := by omega
    have t0 := kid_top hk32 hx (bit := 0) (by omega)
    have t1 := kid_top hk32 hx (bit := 1) (by omega)
    have m0 := sub_mem E f _ _ (by omega) t0.1 (kid_lt hk32 hx (by omega) hl)
    have m1 := sub_mem E f _ _ (by omega) t1.1 (kid_lt hk32 hx (by omega) hl)
    have hp : 0 < 2 ^ (31 - k) := Nat.two_pow_pos _
    have hlt : kidA x k 0 < kidA x k 1 := by unfold kidA; omega
    rw [sub]
    refine List.pairwise_append.2 ⟨adds_srt _ _, List.pairwise_append.2 ⟨sub_srt E f _ _ (by omega) t0.1 (kid_lt hk32 hx (by omega) hl), sub_srt E f _ _ (by omega) t1.1 (kid_lt hk32 hx (by omega) hl), fun a ha b hb => ?_⟩, fun a ha b hb => ?_⟩
    · obtain ⟨_, _, a3, _, _⟩ := (m0 a).1 ha
      obtain ⟨_, _, b3, _, _⟩ := (m1 b).1 hb
      refine .inl ?_
      rcases Nat.lt_or_ge a.p.a b.p.a with h | h
      · exact h
      · have := top_mono (c := k + 1) h
        omega
    · obtain ⟨a1, _⟩ := adds_mem.1 ha
      have hb' : ∃ bit, bit < 2 ∧ top b.p.a (k + 1) = kidA x k bit ∧ ((k + 1 : Nat) : Int) ≤ b.p.n := by
        rcases List.mem_append.1 hb with hb | hb
        · obtain ⟨_, _, b3, b4, _⟩ := (m0 b).1 hb
          exact ⟨0, by omega, b3, b4⟩
        · obtain ⟨_, _, b3, b4, _⟩ := (m1 b).1 hb
          exact ⟨1, by omega, b3, b4⟩
      obtain ⟨bit, hbit, h3, h4⟩ := hb'
      have h5 : top b.p.a k = x := by rw [← top_top b.p.a (j := k) (k := k + 1) (by omega) (by omega), h3, (kid_top hk32 hx hbit).2]
      have h6 := top_le b.p.a k
      rw [a1]
      unfold pLt
      simp only
      omega
theorem sub_eq {E : Nat → Nat → Option Int} {S : List En} (h : Rep E S) {f x k : Nat} (hk : k + f = 32) (hx : top x k = x) (hl : x < 4294967296) : sub E f x k = S.filter (underB x k) := by
  refine srt_eq (sub_srt E f x k hk hx hl) (h.srt.filter _) fun e => ?_
  rw [sub_mem E f x k hk hx hl, List.mem_filter, underB, Bool.and_eq_true, decide_eq_true_eq, decide_eq_true_eq]
  constructor
  · rintro ⟨h1, h2, h3, h4, h5⟩
    exact ⟨(h.mem e h1 h2).2 h5, h3, h4⟩
  · rintro ⟨h1, h3, h4⟩
    obtain ⟨h5, h6⟩ := h.ok e h1
    exact ⟨h5, h6, h3, h4, (h.mem e h5 h6).1 h1⟩
theorem underL_eq {E : Nat → Nat → Option Int} {S : List En} (h : Rep E S) {p : Pf} (hp : p.valid = true) (ha : p.a < 4294967296) : underL E p = S.filter (underB p.a p.n.toNat) := by
  obtain ⟨v1, v2, v3⟩ := Pf.valid_iff.1 hp
  rw [underL, if_pos hp, sub_eq h (by omega) v3 ha]
theorem underL_all {E : Nat → Nat → Option Int} {S : List En} (h : Rep E S) : underL E ⟨0, 0⟩ = S := by
  rw [underL_eq h (by decide) (by decide)]
  refine List.filter_eq_self.2 fun e he => ?_
  obtain ⟨h1, h2⟩ := h.ok e he
  obtain ⟨v1, _, _⟩ := Pf.valid_iff.1 h1
  rw [underB, Bool.and_eq_true, decide_eq_true_eq, decide_eq_true_eq]
  exact ⟨top_zero _ h2, by simpa using v1⟩
end Go.Proofs.Ytphifkbeanneaaa

/-
  Part 4 of the texts that the proofs of this seat share: rules of a walk, contracts of functions, plain facts. Each piece says below what it proves.
  No conditions beyond those that each lemma states.
-/
import Derived.Test.YtjpnaofoeeegeaaB3

/-
  Layer 6 (trie), in plain lists: the entries of a trie as a sorted list.
  No conditions beyond those that each statement names.
-/
namespace Go.Proofs.Ytjpnaofoeeegeaa
open Go.RowKit

/-- Prefixes by address, then by length. -/
def pLt (p q : Pf) : Prop := p.a < q.a ∨ (p.a = q.a ∧ p.n < q.n)
instance (p q : Pf) : Decidable (pLt p q) := by unfold pLt; infer_instance
theorem pLt_irrefl (p : Pf) : ¬pLt p p := by unfold pLt; omega
theorem pLt_trans {p q r : Pf} (h : pLt p q) (h2 : pLt q r) : pLt p r := by unfold pLt at *; omega
theorem pf_eq {p q : Pf} (h1 : p.a = q.a) (h2 : p.n = q.n) : p = q := by cases p; cases q; simp_all
theorem pLt_total {p q : Pf} (h1 : ¬pLt p q) (h2 : p ≠ q) : pLt q p := by
  have : ¬(p.a = q.a ∧ p.n = q.n) := fun ⟨a, b⟩ => h2 (pf_eq a b)
  unfold pLt at *
  omega
abbrev Srt (S : List En) : Prop := S.Pairwise (fun x y => pLt x.p y.p)
theorem srt_eq : ∀ {A B : List En}, Srt A → Srt B → (∀ e, e ∈ A ↔ e ∈ B) → A = B
  | [], [], _, _, _ => rfl
  | [], b :: B, _, _, h => by have := (h b).2 (List.mem_cons_self ..); cases this
  | a :: A, [], _, _, h => by have := (h a).1 (List.mem_cons_self ..); cases this
  | a :: A, b :: B, hA, hB, h => by
    obtain ⟨a1, a2⟩ := List.pairwise_cons.1 hA
    obtain ⟨b1, b2⟩ := List.pairwise_cons.1 hB
    have hab : a = b := by
      rcases List.mem_cons.1 ((h a).1 (List.mem_cons_self ..)) with e | e
      · exact e
      · rcases List.mem_cons.1 ((h b).2 (List.mem_cons_self ..)) with e2 | e2
        · exact e2.symm
        · exact absurd (pLt_trans (b1 a e) (a1 b e2)) (pLt_irrefl _)
    subst hab
    congr 1
    refine srt_eq a2 b2 fun e => ⟨fun he => ?_, fun he => ?_⟩
    · rcases List.mem_cons.1 ((h e).1 (List.mem_cons_of_mem _ he)) with e2 | e2
      · subst e2; exact absurd (a1 _ he) (pLt_irrefl _)
      · exact e2
    · rcases List.mem_cons.1 ((h e).2 (List.mem_cons_of_mem _ he)) with e2 | e2
      · subst e2; exact absurd (b1 _ he) (pLt_irrefl _)
      · exact e2
theorem srt_key {S : List En} (h : Srt S) {x y : En} (hx : x ∈ S) (hy : y ∈ S) (e : x.p = y.p) : x = y := by
  induction S with
  | nil => cases hx
  | cons a r ih =>
    obtain ⟨h1, h2⟩ := List.pairwise_cons.1 h
    rcases List.mem_cons.1 hx with e1 | h3 <;> rcases List.mem_cons.1 hy with e2 | h4
    · rw [e1, e2]
    · have := h1 y h4
      rw [← e1, e] at this; exact absurd this (pLt_irrefl _)
    · have := h1 x h3
      rw [← e2, e] at this; exact absurd this (pLt_irrefl _)
    · exact ih h2 h3 h4
/-- The list holds just the entries of E, in order. -/
structure Rep (E : Nat → Nat → Option Int) (S : List En) : Prop where
  srt : Srt S
  ok : ∀ e ∈ S, e.p.valid = true ∧ e.p.a < 4294967296
  mem : ∀ e : En, e.p.valid = true → e.p.a < 4294967296 → (e ∈ S ↔ at_ E e.p = some e.v)
theorem Rep.nil : Rep (fun _ _ => none) [] := ⟨List.Pairwise.nil, fun e h => (by cases h), fun e _ _ => ⟨fun h => (by cases h), fun h => nomatch h⟩⟩
def insL (e : En) : List En → List En
  | [] => [e]
  | x :: r => if x.p = e.p then e :: r else if pLt e.p x.p then e :: x :: r else x :: insL e r
theorem insL_mem {S : List En} (h : Srt S) (e x : En) : x ∈ insL e S ↔ x = e ∨ (x ∈ S ∧ x.p ≠ e.p) := by
  induction S with
  | nil => simp [insL]
  | cons y r ih =>
    obtain ⟨h1, h2⟩ := List.pairwise_cons.1 h
    unfold insL
    split
    · rename_i he
      simp only [List.mem_cons]
      constructor
      · rintro (h | h)
        · exact .inl h
        · refine .inr ⟨.inr h, fun e2 => ?_⟩
          have := h1 x h
          rw [he, ← e2] at this; exact pLt_irrefl _ this
      · rintro (h | ⟨h | h, h3⟩)
        · exact .inl h
        · subst h; exact absurd he h3
        · exact .inr h
    · rename_i hne
      split
      · rename_i hlt
        simp only [List.mem_cons]
        constructor
        · rintro (h | h | h)
          · exact .inl h
          · subst h; exact .inr ⟨.inl rfl, hne⟩
          · refine .inr ⟨.inr h, fun e2 => ?_⟩
            have := pLt_trans hlt (h1 x h)
            rw [e2] at this; exact pLt_irrefl _ this
        · rintro (h | ⟨h | h, _⟩)
          · exact .inl h
          · exact .inr (.inl h)
          · exact .inr (.inr h)
      · simp only [List.mem_cons, ih h2]
        constructor
        · rintro (h | h | ⟨h, h3⟩)
          · subst h; exact .inr ⟨.inl rfl, hne⟩
          · exact .inl h
          · exact .inr ⟨.inr h, h3⟩
        · rintro (h | ⟨h | h, h3⟩)
          · exact .inr (.inl h)
          · exact .inl h
          · exact .inr (.inr ⟨h, h3⟩)
theorem insL_srt {S : List En} (h : Srt S) (e : En) : Srt (insL e S) := by
  induction S with
  | nil => exact List.pairwise_singleton ..
  | cons y r ih =>
    obtain ⟨h1, h2⟩ := List.pairwise_cons.1 h
    unfold insL
    split
    · rename_i he
      exact List.pairwise_cons.2 ⟨fun z hz => by rw [← he]; exact h1 z hz, h2⟩
    · rename_i hne
      split
      · rename_i hlt
        refine List.pairwise_cons.2 ⟨fun z hz => ?_, h⟩
        rcases List.mem_cons.1 hz with rfl | hz
        · exact hlt
        · exact pLt_trans hlt (h1 z hz)
      · rename_i hlt
        refine List.pairwise_cons.2 ⟨fun z hz => ?_, ih h2⟩
        rcases (insL_mem h2 e z).1 hz with rfl | ⟨hz, _⟩
        · exact pLt_total hlt (Ne.symm hne)
        · exact h1 z hz
theorem at_inj {p q : Pf} (hp : p.valid = true) (hq : q.valid = true) (h : q.a = p.a ∧ q.n.toNat = p.n.toNat) : q = p := by
  obtain ⟨p1, _, _⟩ := Pf.valid_iff.1 hp
  obtain ⟨q1, _, _⟩ := Pf.valid_iff.1 hq
  exact pf_eq h.1 (by omega)
theorem Rep.put {E : Nat → Nat → Option Int} {S : List En} (h : Rep E S) {p : Pf} (hp : p.valid = true) (ha : p.a < 4294967296) (v : Int) : Rep (setE E p v) (insL ⟨p, v⟩ S) := by
  refine ⟨insL_srt h.srt _, fun e he => ?_, fun e he hea => ?_⟩
  · rcases (insL_mem h.srt _ e).1 he with rfl | ⟨he, _⟩
    · exact ⟨hp, ha⟩
    · exact h.ok e he
  · rw [insL_mem h.srt, at_, setE]
    split
    · rename_i h2
      have e2 := at_inj hp he h2
      constructor
      · rintro (h3 | ⟨_, h3⟩)
        · rw [h3]
        · exact absurd e2 h3
      · intro h3
        refine .inl ?_
        cases e
        simp only at e2
        subst e2
        cases h3; rfl
    · rename_i h2
      have e2 : e.p ≠ p := fun e3 => h2 (by rw [e3]; exact ⟨rfl, rfl⟩)
      have := h.mem e he hea
      rw [at_] at this
      rw [← this]
      constructor
      · rintro (h3 | ⟨h3, _⟩)
        · rw [h3] at e2; exact absurd rfl e2
        · exact h3
      · exact fun h3 => .inr ⟨h3, e2⟩
theorem insL_len (e : En) : ∀ (S : List En), Srt S → (insL e S).length = if S.any (fun x => decide (x.p = e.p)) then S.length else S.length + 1
  | [], _ => rfl
  | x :: r, h => by
    obtain ⟨h1, h2⟩ := List.pairwise_cons.1 h
    unfold insL
    by_cases he : x.p = e.p
    · simp [he]
    · rw [if_neg he, List.any_cons, decide_eq_false he, Bool.false_or]
      by_cases hlt : pLt e.p x.p
      · rw [if_pos hlt, if_neg]
        · rfl
        · rw [Bool.not_eq_true, List.any_eq_false]
          intro z hz hz2
          have := pLt_trans hlt (h1 z hz)
          rw [of_decide_eq_true hz2] at this
          exact pLt_irrefl _ this
      · rw [if_neg hlt, List.length_cons, insL_len e r h2]
        split <;> simp
theorem Rep.none_iff {E : Nat → Nat → Option Int} {S : List En} (h : Rep E S) {p : Pf} (hp : p.valid = true) (ha : p.a < 4294967296) : (at_ E p).isNone = !S.any (fun x => decide (x.p = p)) := by
  cases hE : at_ E p with
  | none =>
    have : S.any (fun x => decide (x.p = p)) = false := List.any_eq_false.2 fun x hx h2 => by
      have e := of_decide_eq_true h2
      obtain ⟨h3, h4⟩ := h.ok x hx
      have := (h.mem x h3 h4).1 hx
      rw [e, hE] at this; cases this
    rw [this]; rfl
  | some v =>
    have : S.any (fun x => decide (x.p = p)) = true := List.any_eq_true.2 ⟨⟨p, v⟩, (h.mem ⟨p, v⟩ hp ha).2 hE, decide_eq_true rfl⟩
    rw [this]; rfl
/-- The sorted list of entries that were put one after another. -/
def srtL (L : List En) : List En := L.foldl (fun S e => insL e S) []
theorem rep_of : ∀ (L : List En), allOk L = true → (∀ e ∈ L, e.p.a < 4294967296) → Rep (ofS L).1 (srtL L) ∧ (ofS L).2 = (srtL L).length := by
  have key : ∀ (L : List En) (s : St) (S : List En), Rep s.1 S → s.2 = S.length → allOk L = true → (∀ e ∈ L, e.p.a < 4294967296) → Rep (L.foldl putS s).1 (L.foldl (fun S e => insL e S) S) ∧ (L.foldl putS s).2 = (L.foldl (fun S e => insL e S) S).length := by
    intro L
    induction L with
    | nil => intro s S h h2 _ _; exact ⟨h, h2⟩
    | cons x r ih =>
      intro s S h h2 hok ha
      unfold allOk at hok
      rw [List.all_cons, Bool.and_eq_true] at hok
      have hax := ha x (List.mem_cons_self ..)
      refine ih (putS s x) (insL x S) (h.put hok.1 hax x.v) ?_ hok.2 (fun e he => ha e (List.mem_cons_of_mem _ he))
      rw [insL_len x S h.srt]
      unfold putS
      simp only [h.none_iff hok.1 hax, h2]
      cases S.any (fun y => decide (y.p = x.p)) <;> simp
  intro L hok ha
  exact key L St.zero [] Rep.nil rfl hok ha
/-! ### Below a prefix -/
theorem top_mono {a b c : Nat} (h : a ≤ b) : top a c ≤ top b c := by unfold top; exact Nat.mul_le_mul_right _ (Nat.div_le_div_right h)
def underB (x k : Nat) (e : En) : Bool := decide (top e.p.a k = x) && decide ((k : Int) ≤ e.p.n)
theorem adds_mem {p : Pf} {o : Option Int} {e : En} : e ∈ adds p o ↔ e.p = p ∧ o = some e.v := by
  unfold adds
  cases o with
  | none => simp
  | some v =>
    simp only [List.mem_singleton, Option.some.injEq]
    constructor
    · rintro rfl; exact ⟨rfl, rfl⟩
    · rintro ⟨rfl, rfl⟩; rfl
theorem top_split {a x k : Nat} (hk : k < 32) (h : top a k = x) : top a (k + 1) = kidA x k 0 ∨ top a (k + 1) = kidA x k 1 := by
  have := top_kid a hk
  rw [h] at this
  have hb := bit_lt a k
  rcases (by omega : bitAt a k = 0 ∨ bitAt a k = 1) with e | e
  · exact .inl (by rw [this, e])
  · exact .inr (by rw [this, e])
theorem sub_mem (E : Nat → Nat → Option Int) : ∀ (f x k : Nat), k + f = 32 → top x k = x → x < 4294967296 → ∀ e : En, e ∈ sub E f x k ↔ e.p.valid = true ∧ e.p.a < 4294967296 ∧ top e.p.a k = x ∧ (k : Int) ≤ e.p.n ∧ at_ E e.p = some e.v
  | 0, x, k, hk, hx, hl, e => by
    obtain rfl : k = 32 := by omega
    rw [sub, adds_mem]
    constructor
    · rintro ⟨h1, h2⟩
      rw [h1]
      exact ⟨Pf.valid_iff.2 ⟨by simp, by simp, by simpa using hx⟩, hl, hx, by simp, h2⟩
    · rintro ⟨h1, h2, h3, h4, h5⟩
      obtain ⟨v1, v2, v3⟩ := Pf.valid_iff.1 h1
      rw [top_full] at h3
      have hn : e.p.n = 32 := by omega
      have hp : e.p = ⟨x, (32 : Nat)⟩ := pf_eq h3 hn
      refine ⟨hp, ?_⟩
      rw [hp] at h5; exact h5
  | f + 1, x, k, hk, hx, hl, e => by
    have hk32 : k < 32 := by omega
    have t0 := kid_top hk32 hx (bit := 0) (by omega)
    have t1 := kid_top hk32 hx (bit := 1) (by omega)
    rw [sub, List.mem_append, List.mem_append, adds_mem, sub_mem E f _ _ (by omega) t0.1 (kid_lt hk32 hx (by omega) hl), sub_mem E f _ _ (by omega) t1.1 (kid_lt hk32 hx (by omega) hl)]
    constructor
    · rintro (⟨h1, h2⟩ | ⟨h1, h2, h3, h4, h5⟩ | ⟨h1, h2, h3, h4, h5⟩)
      · rw [h1]
        exact ⟨Pf.valid_iff.2 ⟨by simp, by simp; omega, by simpa using hx⟩, hl, hx, by simp, h2⟩
      · refine ⟨h1, h2, ?_, by omega, h5⟩
        rw [← top_top e.p.a (j := k) (k := k + 1) (by omega) (by omega), h3, t0.2]
      · refine ⟨h1, h2, ?_, by omega, h5⟩
        rw [← top_top e.p.a (j := k) (k := k + 1) (by omega) (by omega), h3, t1.2]
    · rintro ⟨h1, h2, h3, h4, h5⟩
      obtain ⟨v1, v2, v3⟩ := Pf.valid_iff.1 h1
      by_cases hn : e.p.n = k
      · refine .inl ⟨pf_eq ?_ hn, ?_⟩
        · rw [hn, Int.toNat_natCast] at v3
          rw [← v3, h3]
        · have : e.p.a = x := by rw [hn, Int.toNat_natCast] at v3; rw [← v3, h3]
          rw [at_, this, hn, Int.toNat_natCast] at h5; exact h5
      · rcases top_split hk32 h3 with h6 | h6
        · exact .inr (.inl ⟨h1, h2, h6, by omega, h5⟩)
        · exact .inr (.inr ⟨h1, h2, h6, by omega, h5⟩)
theorem adds_srt (p : Pf) (o : Option Int) : Srt (adds p o) := by unfold adds; split <;> simp
theorem sub_srt (E : Nat → Nat → Option Int) : ∀ (f x k : Nat), k + f = 32 → top x k = x → x < 4294967296 → Srt (sub E f x k)
  | 0, x, k, _, _, _ => by rw [sub]; exact adds_srt _ _
  | f + 1, x, k, hk, hx, hl => by
    have hk32 : k < 32 := by omega
    have t0 := kid_top hk32 hx (bit := 0) (by omega)
    have t1 := kid_top hk32 hx (bit := 1) (by omega)
    have m0 := sub_mem E f _ _ (by omega) t0.1 (kid_lt hk32 hx (by omega) hl)
    have m1 := sub_mem E f _ _ (by omega) t1.1 (kid_lt hk32 hx (by omega) hl)
    have hp : 0 < 2 ^ (31 - k) := Nat.two_pow_pos _
    have hlt : kidA x k 0 < kidA x k 1 := by unfold kidA; omega
    rw [sub]
    refine List.pairwise_append.2 ⟨adds_srt _ _, List.pairwise_append.2 ⟨sub_srt E f _ _ (by omega) t0.1 (kid_lt hk32 hx (by omega) hl), sub_srt E f _ _ (by omega) t1.1 (kid_lt hk32 hx (by omega) hl), fun a ha b hb => ?_⟩, fun a ha b hb => ?_⟩
    · obtain ⟨_, _, a3, _, _⟩ := (m0 a).1 ha
      obtain ⟨_, _, b3, _, _⟩ := (m1 b).1 hb
      refine .inl ?_
      rcases Nat.lt_or_ge a.p.a b.p.a with h | h
      · exact h
      · have := top_mono (c := k + 1) h
        omega
    · obtain ⟨a1, _⟩ := adds_mem.1 ha
      have hb' : ∃ bit, bit < 2 ∧ top b.p.a (k + 1) = kidA x k bit ∧ ((k + 1 : Nat) : Int) ≤ b.p.n := by
        rcases List.mem_append.1 hb with hb | hb
        · obtain ⟨_, _, b3, b4, _⟩ := (m0 b).1 hb
          exact ⟨0, by omega, b3, b4⟩
        · obtain ⟨_, _, b3, b4, _⟩ := (m1 b).1 hb
          exact ⟨1, by omega, b3, b4⟩
      obtain ⟨bit, hbit, h3, h4⟩ := hb'
      have h5 : top b.p.a k = x := by rw [← top_top b.p.a (j := k) (k := k + 1) (by omega) (by omega), h3, (kid_top hk32 hx hbit).2]
      have h6 := top_le b.p.a k
      rw [a1]
      unfold pLt
      simp only
      omega
theorem sub_eq {E : Nat → Nat → Option Int} {S : List En} (h : Rep E S) {f x k : Nat} (hk : k + f = 32) (hx : top x k = x) (hl : x < 4294967296) : sub E f x k = S.filter (underB x k) := by
  refine srt_eq (sub_srt E f x k hk hx hl) (h.srt.filter _) fun e => ?_
  rw [sub_mem E f x k hk hx hl, List.mem_filter, underB, Bool.and_eq_true, decide_eq_true_eq, decide_eq_true_eq]
  constructor
  · rintro ⟨h1, h2, h3, h4, h5⟩
    exact ⟨(h.mem e h1 h2).2 h5, h3, h4⟩
  · rintro ⟨h1, h3, h4⟩
    obtain ⟨h5, h6⟩ := h.ok e h1
    exact ⟨h5, h6, h3, h4, (h.mem e h5 h6).1 h1⟩
theorem underL_eq {E : Nat → Nat → Option Int} {S : List En} (h : Rep E S) {p : Pf} (hp : p.valid = true) (ha : p.a < 4294967296) : underL E p = S.filter (underB p.a p.n.toNat) := by
  obtain ⟨v1, v2, v3⟩ := Pf.valid_iff.1 hp
  rw [underL, if_pos hp, sub_eq h (by omega) v3 ha]
theorem underL_all {E : Nat → Nat → Option Int} {S : List En} (h : Rep E S) : underL E ⟨0, 0⟩ = S := by
  rw [underL_eq h (by decide) (by decide)]
  refine List.filter_eq_self.2 fun e he => ?_
  obtain ⟨h1, h2⟩ := h.ok e he
  obtain ⟨v1, _, _⟩ := Pf.valid_iff.1 h1
  rw [underB, Bool.and_eq_true, decide_eq_true_eq, decide_eq_true_eq]
  exact ⟨top_zero _ h2, by simpa using v1⟩
end Go.Proofs.Ytjpnaofoeeegeaa

/-
  Layer 6 (trie): Compare, SameEntries; the order in which entries are put.
  Conditions: addresses are below 2^32.
-/
namespace Go.Proofs.Ytjpnaofoeeegeaa
open Go.RowKit

def cmpP (p q : Pf) : Int := if pLt p q then -1 else if p = q then 0 else 1
theorem compare_v (p q : Pf) (w : World) : Calls Try.prog 53 #[p.val, q.val] w (Ret (.int .i64 (cmpP p q)) w) := by
  refine V_enter (vs := [_, _]) Try.func53 rfl Try.ntmps53 (Nat.le_of_ble_eq_true rfl) ?_
  repeat (first | refine Vx ?_ | (apply Ops_q; (case hon => exact Va); (case hd => rfl); (case hq => exact YlA)) | refine Vr ?_ | refine Vt ?_ | refine Vf ?_ | refine Vm ?_ | refine Ve ?_ | refine Vo ?_ | refine Vz ?_ | refine Vn ?_)
  (refine Ops_box (by exact Va) rfl rfl rfl ?_; intro w1 b1 n_b1; have k_b1 := n_b1.blk)
  repeat (first | refine Vx ?_ | (apply Ops_q; (case hon => exact Va); (case hd => rfl); (case hq => exact YlA)) | refine Vr ?_ | refine Vt ?_ | refine Vf ?_ | refine Vm ?_ | refine Ve ?_ | refine Vo ?_ | refine Vz ?_ | refine Vn ?_)
  (refine Ops_box (by exact Va) rfl rfl rfl ?_; intro w2 b2 n_b2; have k_b2 := n_b2.blk)
  replace k_b1 := k_b1.ext n_b2.ext
  have e2 := n_b1.ext.trans n_b2.ext
  repeat (first | refine Vx ?_ | (apply Ops_q; (case hon => exact Va); (case hd => rfl); (case hq => exact YlA)) | refine Vr ?_ | refine Vt ?_ | refine Vf ?_ | refine Vm ?_ | refine Ve ?_ | refine Vo ?_ | refine Vz ?_ | refine Vn ?_)
  refine V_cond rfl (fun h1 => ?_) (fun h1 => ?_)
  · have h1' : p.a ≠ q.a := by
      have : ¬((p.a : Int) = (q.a : Int)) := by simpa using h1
      omega
    have hne : p ≠ q := fun e => h1' (by rw [e])
    repeat (first | refine Vx ?_ | (apply Ops_q; (case hon => exact Va); (case hd => rfl); (case hq => exact YlA)) | refine Vr ?_ | refine Vt ?_ | refine Vf ?_ | refine Vm ?_ | refine Ve ?_ | refine Vo ?_ | refine Vz ?_ | refine Vn ?_)
    refine V_cond rfl (fun h2 => ?_) (fun h2 => ?_)
    · repeat (first | refine Vx ?_ | (apply Ops_q; (case hon => exact Va); (case hd => rfl); (case hq => exact YlA)) | refine Vr ?_ | refine Vt ?_ | refine Vf ?_ | refine Vm ?_ | refine Ve ?_ | refine Vo ?_ | refine Vz ?_ | refine Vn ?_)
      refine ret1 (by first | exact .inl rfl | exact .inr rfl) rfl rfl ?_
      refine Ret_mk ?_ e2
      have : p.a < q.a := by have := of_decide_eq_true h2; omega
      rw [cmpP, if_pos (.inl this)]
    · repeat (first | refine Vx ?_ | (apply Ops_q; (case hon => exact Va); (case hd => rfl); (case hq => exact YlA)) | refine Vr ?_ | refine Vt ?_ | refine Vf ?_ | refine Vm ?_ | refine Ve ?_ | refine Vo ?_ | refine Vz ?_ | refine Vn ?_)
      refine ret1 (by first | exact .inl rfl | exact .inr rfl) rfl rfl ?_
      refine Ret_mk ?_ e2
      have : ¬pLt p q := by have := of_decide_eq_false h2; unfold pLt; omega
      rw [cmpP, if_neg this, if_neg hne]
  · have h1' : p.a = q.a := by
      have : (p.a : Int) = (q.a : Int) := by simpa using h1
      omega
    repeat (first | refine Vx ?_ | (apply Ops_q; (case hon => exact Va); (case hd => rfl); (case hq => exact YlA)) | refine Vr ?_ | refine Vt ?_ | refine Vf ?_ | refine Vm ?_ | refine Ve ?_ | refine Vo ?_ | refine Vz ?_ | refine Vn ?_)
    refine V_cond rfl (fun h2 => ?_) (fun h2 => ?_)
    · repeat (first | refine Vx ?_ | (apply Ops_q; (case hon => exact Va); (case hd => rfl); (case hq => exact YlA)) | refine Vr ?_ | refine Vt ?_ | refine Vf ?_ | refine Vm ?_ | refine Ve ?_ | refine Vo ?_ | refine Vz ?_ | refine Vn ?_)
      refine ret1 (by first | exact .inl rfl | exact .inr rfl) rfl rfl ?_
      refine Ret_mk ?_ e2
      rw [cmpP, if_pos (.inr ⟨h1', of_decide_eq_true h2⟩)]
    · replace h2 := of_decide_eq_false h2
      have hnl : ¬pLt p q := by unfold pLt; omega
      repeat (first | refine Vx ?_ | (apply Ops_q; (case hon => exact Va); (case hd => rfl); (case hq => exact YlA)) | refine Vr ?_ | refine Vt ?_ | refine Vf ?_ | refine Vm ?_ | refine Ve ?_ | refine Vo ?_ | refine Vz ?_ | refine Vn ?_)
      refine V_cond rfl (fun h3 => ?_) (fun h3 => ?_)
      · repeat (first | refine Vx ?_ | (apply Ops_q; (case hon => exact Va); (case hd => rfl); (case hq => exact YlA)) | refine Vr ?_ | refine Vt ?_ | refine Vf ?_ | refine Vm ?_ | refine Ve ?_ | refine Vo ?_ | refine Vz ?_ | refine Vn ?_)
        refine ret1 (by first | exact .inl rfl | exact .inr rfl) rfl rfl ?_
        refine Ret_mk ?_ e2
        have hne : p ≠ q := fun e => by have := of_decide_eq_true h3; rw [e] at this; omega
        rw [cmpP, if_neg hnl, if_neg hne]
      · repeat (first | refine Vx ?_ | (apply Ops_q; (case hon => exact Va); (case hd => rfl); (case hq => exact YlA)) | refine Vr ?_ | refine Vt ?_ | refine Vf ?_ | refine Vm ?_ | refine Ve ?_ | refine Vo ?_ | refine Vz ?_ | refine Vn ?_)
        refine ret1 (by first | exact .inl rfl | exact .inr rfl) rfl rfl ?_
        refine Ret_mk ?_ e2
        have he : p = q := pf_eq h1' (by have := of_decide_eq_false h3; omega)
        rw [cmpP, if_neg hnl, if_pos he]
theorem eqEn_dec (x y : En) : decide ((x.p.a : Int) = (y.p.a : Int) ∧ x.p.n = y.p.n ∧ x.v = y.v) = decide (x = y) := by
  by_cases h : x = y
  · subst h; simp
  · rw [decide_eq_false h, decide_eq_false]
    rintro ⟨h1, h2, h3⟩
    refine h ?_
    have : x.p = y.p := pf_eq (by omega) h2
    cases x; cases y; simp_all
theorem sameEntries_v (ao bo : Option Addr) (A B : List En) (c d : Nat) (w : World) (hA : Ens w ao A) (hB : Ens w bo B) (hn : A.length ≤ 1000000) : Calls Try.prog 31 #[.slice ao A.length c, .slice bo B.length d] w (Ret (.bool (decide (A = B))) w) := by
  refine V_enter (vs := [_, _]) Try.func31 rfl Try.ntmps31 (Nat.le_of_ble_eq_true rfl) ?_
  repeat (first | refine Vx ?_ | (apply Ops_q; (case hon => exact Va); (case hd => rfl); (case hq => exact YlA)) | refine Vr ?_ | refine Vt ?_ | refine Vf ?_ | refine Vm ?_ | refine Ve ?_ | refine Vo ?_ | refine Vz ?_ | refine Vn ?_)
  refine V_cond rfl (fun h1 => ?_) (fun h1 => ?_)
  · have hne : A.length ≠ B.length := fun e => by
      have : ¬((A.length : Int) = (B.length : Int)) := by simpa using h1
      omega
    repeat (first | refine Vx ?_ | (apply Ops_q; (case hon => exact Va); (case hd => rfl); (case hq => exact YlA)) | refine Vr ?_ | refine Vt ?_ | refine Vf ?_ | refine Vm ?_ | refine Ve ?_ | refine Vo ?_ | refine Vz ?_ | refine Vn ?_)
    refine ret1 (by first | exact .inl rfl | exact .inr rfl) rfl rfl ?_
    exact Ret_mk (by rw [decide_eq_false (fun e => hne (by rw [e]))]) (Ext.refl _)
  have hlen : A.length = B.length := by
    have : (A.length : Int) = (B.length : Int) := by simpa using h1
    omega
  repeat (first | refine Vx ?_ | (apply Ops_q; (case hon => exact Va); (case hd => rfl); (case hq => exact YlA)) | refine Vr ?_ | refine Vt ?_ | refine Vf ?_ | refine Vm ?_ | refine Ve ?_ | refine Vo ?_ | refine Vz ?_ | refine Vn ?_)
  refine V_loop (fun k : Nat => [(14, .int .i64 k), (13, .int .i64 A.length), (12, .slice ao A.length c), (1, .slice bo B.length d)]) (fun k w' => Ext w w' ∧ k ≤ A.length ∧ ∀ j, j < k → A[j]? = B[j]?) (fun k => A.length - k) 0 (by repeat (first | exact trivial | refine ⟨rfl, ?_⟩)) ⟨Ext.refl _, Nat.zero_le _, fun j h => by omega⟩ ?_
  rintro k w1 ⟨e1, hk, hs⟩
  repeat (first | refine Vx ?_ | (apply Ops_q; (case hon => exact Va); (case hd => rfl); (case hq => exact YlA)) | refine Vr ?_ | refine Vt ?_ | refine Vf ?_ | refine Vm ?_ | refine Ve ?_ | refine Vo ?_ | refine Vz ?_ | refine Vn ?_)
  refine V_cond rfl (fun hg => ?_) (fun hg => ?_)
  · replace hg := of_decide_eq_true hg
    have hkl : k < A.length := by omega
    obtain ⟨x, hx⟩ : ∃ x, A[k]? = some x := ⟨_, List.getElem?_eq_getElem hkl⟩
    obtain ⟨y, hy⟩ : ∃ y, B[k]? = some y := ⟨_, List.getElem?_eq_getElem (by omega)⟩
    obtain ⟨ad, rfl, hc⟩ := hA.at hx
    obtain ⟨bd, rfl, hd⟩ := hB.at hy
    have hc1 : Cells w1 (ad.add (k * 3)) [.int .u32 x.p.a, .int .i64 x.p.n, .int .i64 x.v] := hc.ext e1
    have hkb : k < B.length := by omega
    repeat (first | refine Vx ?_ | (apply Ops_q; (case hon => exact Va); (case hd => rfl); (case hq => exact YlA)) | refine Vr ?_ | refine Vt ?_ | refine Vf ?_ | refine Vm ?_ | refine Ve ?_ | refine Vo ?_ | refine Vz ?_ | refine Vn ?_)
    (apply Ops_q; (case hon => (exact Va)); (case hd => rfl); (case hq => exact Yl_indexS (j := k) rfl rfl (by omega)))
    repeat (first | refine Vx ?_ | (apply Ops_q; (case hon => exact Va); (case hd => rfl); (case hq => exact YlA)) | refine Vr ?_ | refine Vt ?_ | refine Vf ?_ | refine Vm ?_ | refine Ve ?_ | refine Vo ?_ | refine Vz ?_ | refine Vn ?_)
    (refine Ops_alloc (by exact Va) rfl ?_; intro w2 b2 n_b2; have k_b2 := n_b2.blk)
    repeat (first | refine Vx ?_ | (apply Ops_q; (case hon => exact Va); (case hd => rfl); (case hq => exact YlA)) | refine Vr ?_ | refine Vt ?_ | refine Vf ?_ | refine Vm ?_ | refine Ve ?_ | refine Vo ?_ | refine Vz ?_ | refine Vn ?_)
    (refine Ops_store (by exact Va) rfl rfl (by assumption) (by first | rfl | exact OneAll.h) ?_; intro w3 u_w3; have k_b2 := u_w3.blk)
    have e3 := u_w3.below (e1.trans n_b2.ext) (Nat.le_trans e1.size n_b2.ge)
    have hd1 : Cells w3 (bd.add (k * 3)) [.int .u32 y.p.a, .int .i64 y.p.n, .int .i64 y.v] := hd.ext e3
    repeat (first | refine Vx ?_ | (apply Ops_q; (case hon => exact Va); (case hd => rfl); (case hq => exact YlA)) | refine Vr ?_ | refine Vt ?_ | refine Vf ?_ | refine Vm ?_ | refine Ve ?_ | refine Vo ?_ | refine Vz ?_ | refine Vn ?_)
    (apply Ops_q; (case hon => (exact Va)); (case hd => rfl); (case hq => exact Yl_indexS (j := k) rfl rfl (by omega)))
    repeat (first | refine Vx ?_ | (apply Ops_q; (case hon => exact Va); (case hd => rfl); (case hq => exact YlA)) | refine Vr ?_ | refine Vt ?_ | refine Vf ?_ | refine Vm ?_ | refine Ve ?_ | refine Vo ?_ | refine Vz ?_ | refine Vn ?_)
    rw [eqEn_dec]
    refine V_cond rfl (fun h2 => ?_) (fun h2 => ?_)
    · have hne : x ≠ y := by simpa using h2
      repeat (first | refine Vx ?_ | (apply Ops_q; (case hon => exact Va); (case hd => rfl); (case hq => exact YlA)) | refine Vr ?_ | refine Vt ?_ | refine Vf ?_ | refine Vm ?_ | refine Ve ?_ | refine Vo ?_ | refine Vz ?_ | refine Vn ?_)
      refine ret1 (by first | exact .inl rfl | exact .inr rfl) rfl rfl ?_
      refine Ret_mk ?_ e3
      rw [decide_eq_false]
      intro e
      rw [e, hy] at hx; cases hx
      exact hne rfl
    · have he : x = y := by simpa using h2
      repeat (first | refine Vx ?_ | (apply Ops_q; (case hon => exact Va); (case hd => rfl); (case hq => exact YlA)) | refine Vr ?_ | refine Vt ?_ | refine Vf ?_ | refine Vm ?_ | refine Ve ?_ | refine Vo ?_ | refine Vz ?_ | refine Vn ?_)
      refine ⟨k + 1, (by repeat (first | exact trivial | refine ⟨rfl, ?_⟩)), ⟨e3, hkl, fun j hj => ?_⟩, by omega⟩
      rcases Nat.lt_or_ge j k with h3 | h3
      · exact hs j h3
      · obtain rfl : j = k := by omega
        rw [hx, hy, he]
  replace hg := of_decide_eq_false hg
  obtain rfl : k = A.length := by omega
  repeat (first | refine Vx ?_ | (apply Ops_q; (case hon => exact Va); (case hd => rfl); (case hq => exact YlA)) | refine Vr ?_ | refine Vt ?_ | refine Vf ?_ | refine Vm ?_ | refine Ve ?_ | refine Vo ?_ | refine Vz ?_ | refine Vn ?_)
  refine ret1 (by first | exact .inl rfl | exact .inr rfl) rfl rfl ?_
  refine Ret_mk ?_ e1
  rw [decide_eq_true]
  refine List.ext_getElem? fun j => ?_
  rcases Nat.lt_or_ge j A.length with h3 | h3
  · exact hs j h3
  · rw [List.getElem?_eq_none h3, List.getElem?_eq_none (by omega)]

/-! ### Put in another order -/
theorem at_setE {E : Nat → Nat → Option Int} {p q : Pf} {v : Int} (hp : p.valid = true) (hq : q.valid = true) : at_ (setE E q v) p = if p = q then some v else at_ E p := by
  rw [at_, setE]
  by_cases h : p = q
  · rw [if_pos h, if_pos (by rw [h]; exact ⟨rfl, rfl⟩)]
  · rw [if_neg h, if_neg (fun h2 => h (at_inj hq hp h2))]
theorem keys_fold {p : Pf} (hp : p.valid = true) : ∀ (F : List En) (s : St), allOk F = true → (at_ (F.foldl putS s).1 p).isNone = ((at_ s.1 p).isNone && !F.any (fun x => decide (x.p = p)))
  | [], s, _ => by simp
  | x :: r, s, h => by
    unfold allOk at h
    rw [List.all_cons, Bool.and_eq_true] at h
    rw [List.foldl_cons, keys_fold hp r _ h.2, List.any_cons]
    unfold putS
    simp only
    rw [at_setE hp h.1]
    by_cases he : p = x.p
    · rw [if_pos he, decide_eq_true he.symm]; simp
    · rw [if_neg he, decide_eq_false (fun e => he e.symm)]; simp
theorem keys_of {F : List En} {p : Pf} (hp : p.valid = true) (hF : allOk F = true) : (at_ (ofS F).1 p).isNone = !F.any (fun x => decide (x.p = p)) := by
  have := keys_fold hp F St.zero hF
  unfold ofS
  rw [this]; rfl
/-- The first entries of each prefix. -/
def firstF (pr : List En) : List En → List En
  | [] => []
  | x :: r => (if pr.any (fun y => decide (y.p = x.p)) then [] else [x]) ++ firstF (pr ++ [x]) r
theorem firstF_append : ∀ (A pr B : List En), firstF pr (A ++ B) = firstF pr A ++ firstF (pr ++ A) B
  | [], pr, B => by simp [firstF]
  | x :: r, pr, B => by simp only [List.cons_append, firstF, firstF_append r (pr ++ [x]) B, List.append_assoc, List.nil_append]
def firsts (F : List En) : List En := firstF [] F
theorem firsts_snoc (F : List En) (x : En) : firsts (F ++ [x]) = firsts F ++ (if F.any (fun y => decide (y.p = x.p)) then [] else [x]) := by
  unfold firsts
  rw [firstF_append]
  simp [firstF]
theorem ofS_snoc' (F : List En) (x : En) : ofS (F ++ [x]) = putS (ofS F) x := by
  unfold ofS
  rw [List.foldl_append]; rfl
theorem en_ind {P : List En → Prop} (h0 : P []) (h1 : ∀ L x, P L → P (L ++ [x])) (L : List En) : P L := by
  have : ∀ M : List En, P M.reverse := fun M => by
    induction M with
    | nil => exact h0
    | cons x r ih => rw [List.reverse_cons]; exact h1 _ _ ih
  simpa using this L.reverse
theorem allOk_snoc {F : List En} {x : En} (h : allOk (F ++ [x]) = true) : allOk F = true ∧ x.p.valid = true := by
  unfold allOk at *
  rw [List.all_append, Bool.and_eq_true] at h
  simpa using h
theorem firsts_spec (F : List En) : allOk F = true → ((ofS F).2 = (firsts F).length ∧ (∀ e ∈ firsts F, e ∈ F) ∧ ∀ p : Pf, (firsts F).any (fun x => decide (x.p = p)) = F.any (fun x => decide (x.p = p))) := by
  induction F using en_ind with
  | h0 => exact fun _ => ⟨rfl, fun e h => by simp [firsts, firstF] at h, fun p => rfl⟩
  | h1 F x ih =>
    intro h
    obtain ⟨h1, h2⟩ := allOk_snoc h
    obtain ⟨i1, i2, i3⟩ := ih h1
    have hk := keys_of h2 h1
    rw [firsts_snoc, ofS_snoc', putS]
    simp only [hk, i1]
    cases ha : F.any (fun y => decide (y.p = x.p)) with
    | true =>
      simp only [if_true, List.append_nil, Bool.not_true, Bool.false_eq_true, if_false]
      refine ⟨trivial, fun e he => List.mem_append_left _ (i2 e he), fun p => ?_⟩
      rw [i3 p, List.any_append]
      simp only [List.any_cons, List.any_nil, Bool.or_false]
      by_cases hp : x.p = p
      · subst hp; rw [ha]; rfl
      · rw [decide_eq_false hp, Bool.or_false]
    | false =>
      simp only [Bool.false_eq_true, if_false, Bool.not_false, if_true]
      refine ⟨by simp, fun e he => ?_, fun p => ?_⟩
      · rcases List.mem_append.1 he with he | he
        · exact List.mem_append_left _ (i2 e he)
        · exact List.mem_append_right _ he
      · rw [List.any_append, List.any_append, i3 p]
theorem same_fold {E : Nat → Nat → Option Int} {p : Pf} (hp : p.valid = true) : ∀ (G : List En) (s : St), allOk G = true → (∀ e ∈ G, at_ E e.p = some e.v) → at_ (G.foldl putS s).1 p = if G.any (fun x => decide (x.p = p)) then at_ E p else at_ s.1 p
  | [], s, _, _ => by simp
  | x :: r, s, h, hE => by
    unfold allOk at h
    rw [List.all_cons, Bool.and_eq_true] at h
    rw [List.foldl_cons, same_fold hp r _ h.2 (fun e he => hE e (List.mem_cons_of_mem _ he)), List.any_cons]
    unfold putS
    simp only
    rw [at_setE hp h.1]
    by_cases he : p = x.p
    · have := hE x (List.mem_cons_self ..)
      rw [← he] at this
      rw [if_pos he, decide_eq_true he.symm, this]
      simp
    · rw [if_neg he, decide_eq_false (fun e => he e.symm)]; simp
/-- An entry with the value that E has. -/
def now (E : Nat → Nat → Option Int) (e : En) : En := ⟨e.p, (getV E e.p).getD 0⟩
theorem order_same {F : List En} (hF : allOk F = true) (ha : ∀ e ∈ F, e.p.a < 4294967296) (G : List En) (hG : G = (firsts F).reverse.map (now (ofS F).1)) : allOk G = true ∧ srtL G = srtL F := by
  obtain ⟨_, s2, s3⟩ := firsts_spec F hF
  have hval : ∀ e ∈ F, e.p.valid = true := fun e he => List.all_eq_true.1 hF e he
  have hm : ∀ e ∈ G, ∃ x ∈ firsts F, e = now (ofS F).1 x := fun e he => by
    rw [hG] at he
    obtain ⟨x, hx, rfl⟩ := List.mem_map.1 he
    exact ⟨x, List.mem_reverse.1 hx, rfl⟩
  have hok : allOk G = true := List.all_eq_true.2 fun e he => by
    obtain ⟨x, hx, rfl⟩ := hm e he
    exact hval x (s2 x hx)
  have haG : ∀ e ∈ G, e.p.a < 4294967296 := fun e he => by
    obtain ⟨x, hx, rfl⟩ := hm e he
    exact ha x (s2 x hx)
  have hE : ∀ e ∈ G, at_ (ofS F).1 e.p = some e.v := fun e he => by
    obtain ⟨x, hx, rfl⟩ := hm e he
    have hv := hval x (s2 x hx)
    have hk := keys_of hv hF
    have : F.any (fun y => decide (y.p = x.p)) = true := List.any_eq_true.2 ⟨x, s2 x hx, decide_eq_true rfl⟩
    rw [this] at hk
    show at_ (ofS F).1 x.p = some ((getV (ofS F).1 x.p).getD 0)
    rw [getV, if_pos hv]
    cases hat : at_ (ofS F).1 x.p with
    | none => rw [hat] at hk; cases hk
    | some v => rfl
  have hany : ∀ p : Pf, G.any (fun x => decide (x.p = p)) = F.any (fun x => decide (x.p = p)) := fun p => by
    rw [← s3 p, hG, List.any_map, List.any_reverse]
    rfl
  obtain ⟨r1, _⟩ := rep_of F hF ha
  obtain ⟨r2, _⟩ := rep_of G hok haG
  refine ⟨hok, srt_eq r2.srt r1.srt fun e => ?_⟩
  have key : ∀ p : Pf, p.valid = true → at_ (ofS G).1 p = at_ (ofS F).1 p := fun p hp => by
    have h1 := same_fold hp G St.zero hok hE
    have h2 := keys_of hp hF
    rw [← hany p] at h2
    unfold ofS at h1 h2 ⊢
    rw [h1]
    cases hg : G.any (fun x => decide (x.p = p)) with
    | true => rfl
    | false =>
      rw [hg] at h2
      cases hat : at_ (List.foldl putS St.zero F).fst p with
      | none => rfl
      | some v => rw [hat] at h2; cases h2
  constructor
  · intro he
    obtain ⟨h1, h2⟩ := r2.ok e he
    have := (r2.mem e h1 h2).1 he
    rw [key e.p h1] at this
    exact (r1.mem e h1 h2).2 this
  · intro he
    obtain ⟨h1, h2⟩ := r1.ok e he
    have := (r1.mem e h1 h2).1 he
    rw [← key e.p h1] at this
    exact (r2.mem e h1 h2).2 this
end Go.Proofs.Ytjpnaofoeeegeaa

/-
  Tables (layer 7): Compare, Contains, Covers of package prefix; Check and Lookup, of the program and of the reference.
  Conditions: the list is not too long for a machine.
-/
namespace Go.Proofs.Ytjpnaofoeeegeaa
open Go.RowKit

theorem compareP_v (p q : Pf) (w : World) : Calls Try.prog 39 #[p.val, q.val] w (Ret (.int .i64 (cmpP p q)) w) := by
  refine V_enter (vs := [_, _]) Try.func39 rfl Try.ntmps39 (Nat.le_of_ble_eq_true rfl) ?_
  repeat (first | refine Vx ?_ | (apply Ops_q; (case hon => exact Va); (case hd => rfl); (case hq => exact YlA)) | refine Vr ?_ | refine Vt ?_ | refine Vf ?_ | refine Vm ?_ | refine Ve ?_ | refine Vo ?_ | refine Vz ?_ | refine Vn ?_)
  (refine Ops_box (by exact Va) rfl rfl rfl ?_; intro w1 b1 n_b1; have k_b1 := n_b1.blk)
  repeat (first | refine Vx ?_ | (apply Ops_q; (case hon => exact Va); (case hd => rfl); (case hq => exact YlA)) | refine Vr ?_ | refine Vt ?_ | refine Vf ?_ | refine Vm ?_ | refine Ve ?_ | refine Vo ?_ | refine Vz ?_ | refine Vn ?_)
  (refine Ops_box (by exact Va) rfl rfl rfl ?_; intro w2 b2 n_b2; have k_b2 := n_b2.blk)
  replace k_b1 := k_b1.ext n_b2.ext
  have e2 := n_b1.ext.trans n_b2.ext
  repeat (first | refine Vx ?_ | (apply Ops_q; (case hon => exact Va); (case hd => rfl); (case hq => exact YlA)) | refine Vr ?_ | refine Vt ?_ | refine Vf ?_ | refine Vm ?_ | refine Ve ?_ | refine Vo ?_ | refine Vz ?_ | refine Vn ?_)
  refine Ops_split rfl rfl (fun h1 => ?_) (fun h1 => ?_)
  · replace h1 := of_decide_eq_true h1
    repeat (first | refine Vx ?_ | (apply Ops_q; (case hon => exact Va); (case hd => rfl); (case hq => exact YlA)) | refine Vr ?_ | refine Vt ?_ | refine Vf ?_ | refine Vm ?_ | refine Ve ?_ | refine Vo ?_ | refine Vz ?_ | refine Vn ?_)
    refine ret1 (by first | exact .inl rfl | exact .inr rfl) rfl rfl ?_
    exact Ret_mk (by rw [cmpP, if_pos (.inl (by omega))]) e2
  replace h1 := of_decide_eq_false h1
  repeat (first | refine Vx ?_ | (apply Ops_q; (case hon => exact Va); (case hd => rfl); (case hq => exact YlA)) | refine Vr ?_ | refine Vt ?_ | refine Vf ?_ | refine Vm ?_ | refine Ve ?_ | refine Vo ?_ | refine Vz ?_ | refine Vn ?_)
  refine Ops_split rfl rfl (fun h2 => ?_) (fun h2 => ?_)
  · replace h2 := of_decide_eq_true h2
    repeat (first | refine Vx ?_ | (apply Ops_q; (case hon => exact Va); (case hd => rfl); (case hq => exact YlA)) | refine Vr ?_ | refine Vt ?_ | refine Vf ?_ | refine Vm ?_ | refine Ve ?_ | refine Vo ?_ | refine Vz ?_ | refine Vn ?_)
    refine V_cond rfl (fun h3 => ?_) (fun h3 => ?_)
    · replace h3 := of_decide_eq_true h3
      repeat (first | refine Vx ?_ | (apply Ops_q; (case hon => exact Va); (case hd => rfl); (case hq => exact YlA)) | refine Vr ?_ | refine Vt ?_ | refine Vf ?_ | refine Vm ?_ | refine Ve ?_ | refine Vo ?_ | refine Vz ?_ | refine Vn ?_)
      refine ret1 (by first | exact .inl rfl | exact .inr rfl) rfl rfl ?_
      exact Ret_mk (by rw [cmpP, if_pos (.inr ⟨by omega, h3⟩)]) e2
    replace h3 := of_decide_eq_false h3
    have hnl : ¬pLt p q := by unfold pLt; omega
    repeat (first | refine Vx ?_ | (apply Ops_q; (case hon => exact Va); (case hd => rfl); (case hq => exact YlA)) | refine Vr ?_ | refine Vt ?_ | refine Vf ?_ | refine Vm ?_ | refine Ve ?_ | refine Vo ?_ | refine Vz ?_ | refine Vn ?_)
    refine V_cond rfl (fun h4 => ?_) (fun h4 => ?_)
    · have he : p = q := pf_eq (by omega) (by simp at h4; omega)
      repeat (first | refine Vx ?_ | (apply Ops_q; (case hon => exact Va); (case hd => rfl); (case hq => exact YlA)) | refine Vr ?_ | refine Vt ?_ | refine Vf ?_ | refine Vm ?_ | refine Ve ?_ | refine Vo ?_ | refine Vz ?_ | refine Vn ?_)
      refine ret1 (by first | exact .inl rfl | exact .inr rfl) rfl rfl ?_
      exact Ret_mk (by rw [cmpP, if_neg hnl, if_pos he]) e2
    · have he : p ≠ q := fun e => by subst e; simp at h4
      repeat (first | refine Vx ?_ | (apply Ops_q; (case hon => exact Va); (case hd => rfl); (case hq => exact YlA)) | refine Vr ?_ | refine Vt ?_ | refine Vf ?_ | refine Vm ?_ | refine Ve ?_ | refine Vo ?_ | refine Vz ?_ | refine Vn ?_)
      refine ret1 (by first | exact .inl rfl | exact .inr rfl) rfl rfl ?_
      exact Ret_mk (by rw [cmpP, if_neg hnl, if_neg he]) e2
  · replace h2 := of_decide_eq_false h2
    have hnl : ¬pLt p q := by unfold pLt; omega
    have he : p ≠ q := fun e => by subst e; exact h2 rfl
    repeat (first | refine Vx ?_ | (apply Ops_q; (case hon => exact Va); (case hd => rfl); (case hq => exact YlA)) | refine Vr ?_ | refine Vt ?_ | refine Vf ?_ | refine Vm ?_ | refine Ve ?_ | refine Vo ?_ | refine Vz ?_ | refine Vn ?_)
    refine V_cond rfl (fun h4 => ?_) (fun h4 => ?_)
    · exact absurd (by simp at h4; omega) h2
    · repeat (first | refine Vx ?_ | (apply Ops_q; (case hon => exact Va); (case hd => rfl); (case hq => exact YlA)) | refine Vr ?_ | refine Vt ?_ | refine Vf ?_ | refine Vm ?_ | refine Ve ?_ | refine Vo ?_ | refine Vz ?_ | refine Vn ?_)
      refine ret1 (by first | exact .inl rfl | exact .inr rfl) rfl rfl ?_
      exact Ret_mk (by rw [cmpP, if_neg hnl, if_neg he]) e2
theorem containsP_v (p : Pf) (a : Nat) (w : World) (hp : p.a < 4294967296) (ha : a < 4294967296) : Calls Try.prog 46 #[p.val, .int .u32 a] w (Ret (.bool (p.has a)) w) := by
  refine V_enter (vs := [_, _]) Try.func46 rfl Try.ntmps46 (Nat.le_of_ble_eq_true rfl) ?_
  repeat (first | refine Vx ?_ | (apply Ops_q; (case hon => exact Va); (case hd => rfl); (case hq => exact YlA)) | refine Vr ?_ | refine Vt ?_ | refine Vf ?_ | refine Vm ?_ | refine Ve ?_ | refine Vo ?_ | refine Vz ?_ | refine Vn ?_)
  (refine Ops_box (by exact Va) rfl rfl rfl ?_; intro w1 b1 n_b1; have k_b1 := n_b1.blk)
  repeat (first | refine Vx ?_ | (apply Ops_q; (case hon => exact Va); (case hd => rfl); (case hq => exact YlA)) | refine Vr ?_ | refine Vt ?_ | refine Vf ?_ | refine Vm ?_ | refine Ve ?_ | refine Vo ?_ | refine Vz ?_ | refine Vn ?_)
  (apply Ops_q; (case hon => (exact Va)); (case hd => rfl); (case hq => exact Yl_call rfl (fun w_ e_ => valid_v p w_ hp)))
  repeat (first | refine Vx ?_ | (apply Ops_q; (case hon => exact Va); (case hd => rfl); (case hq => exact YlA)) | refine Vr ?_ | refine Vt ?_ | refine Vf ?_ | refine Vm ?_ | refine Ve ?_ | refine Vo ?_ | refine Vz ?_ | refine Vn ?_)
  cases hv : p.valid with
  | false =>
    repeat (first | refine Vx ?_ | (apply Ops_q; (case hon => exact Va); (case hd => rfl); (case hq => exact YlA)) | refine Vr ?_ | refine Vt ?_ | refine Vf ?_ | refine Vm ?_ | refine Ve ?_ | refine Vo ?_ | refine Vz ?_ | refine Vn ?_)
    refine ret1 (by first | exact .inl rfl | exact .inr rfl) rfl rfl ?_
    exact Ret_mk (by rw [Pf.has, hv]; rfl) n_b1.ext
  | true =>
    obtain ⟨v1, v2, v3⟩ := Pf.valid_iff.1 hv
    repeat (first | refine Vx ?_ | (apply Ops_q; (case hon => exact Va); (case hd => rfl); (case hq => exact YlA)) | refine Vr ?_ | refine Vt ?_ | refine Vf ?_ | refine Vm ?_ | refine Ve ?_ | refine Vo ?_ | refine Vz ?_ | refine Vn ?_)
    (apply Ops_q; (case hon => (exact Va)); (case hd => rfl); (case hq => exact Yl_call rfl (fun w_ e_ => of_v a p.n w_ ha)))
    repeat (first | refine Vx ?_ | (apply Ops_q; (case hon => exact Va); (case hd => rfl); (case hq => exact YlA)) | refine Vr ?_ | refine Vt ?_ | refine Vf ?_ | refine Vm ?_ | refine Ve ?_ | refine Vo ?_ | refine Vz ?_ | refine Vn ?_)
    refine ret1 (by first | exact .inl rfl | exact .inr rfl) rfl rfl ?_
    refine Ret_mk ?_ n_b1.ext
    rw [Pf.has, hv, Bool.true_and, Pf.of, lowN_in v1 v2]
    congr 1
    rw [← castEq]
    by_cases h : ((top a p.n.toNat : Nat) : Int) = (p.a : Int) <;> simp [h]
/-- q lies in p. -/
def Pf.covers (p q : Pf) : Bool := q.valid && (decide (p.n ≤ q.n) && p.has q.a)
theorem coversP_v (p q : Pf) (w : World) (hp : p.a < 4294967296) (hq : q.a < 4294967296) : Calls Try.prog 71 #[p.val, q.val] w (Ret (.bool (p.covers q)) w) := by
  refine V_enter (vs := [_, _]) Try.func71 rfl Try.ntmps71 (Nat.le_of_ble_eq_true rfl) ?_
  repeat (first | refine Vx ?_ | (apply Ops_q; (case hon => exact Va); (case hd => rfl); (case hq => exact YlA)) | refine Vr ?_ | refine Vt ?_ | refine Vf ?_ | refine Vm ?_ | refine Ve ?_ | refine Vo ?_ | refine Vz ?_ | refine Vn ?_)
  (refine Ops_box (by exact Va) rfl rfl rfl ?_; intro w1 b1 n_b1; have k_b1 := n_b1.blk)
  repeat (first | refine Vx ?_ | (apply Ops_q; (case hon => exact Va); (case hd => rfl); (case hq => exact YlA)) | refine Vr ?_ | refine Vt ?_ | refine Vf ?_ | refine Vm ?_ | refine Ve ?_ | refine Vo ?_ | refine Vz ?_ | refine Vn ?_)
  (refine Ops_box (by exact Va) rfl rfl rfl ?_; intro w2 b2 n_b2; have k_b2 := n_b2.blk)
  replace k_b1 := k_b1.ext n_b2.ext
  have e2 := n_b1.ext.trans n_b2.ext
  repeat (first | refine Vx ?_ | (apply Ops_q; (case hon => exact Va); (case hd => rfl); (case hq => exact YlA)) | refine Vr ?_ | refine Vt ?_ | refine Vf ?_ | refine Vm ?_ | refine Ve ?_ | refine Vo ?_ | refine Vz ?_ | refine Vn ?_)
  (apply Ops_q; (case hon => (exact Va)); (case hd => rfl); (case hq => exact Yl_call rfl (fun w_ e_ => valid_v q w_ hq)))
  repeat (first | refine Vx ?_ | (apply Ops_q; (case hon => exact Va); (case hd => rfl); (case hq => exact YlA)) | refine Vr ?_ | refine Vt ?_ | refine Vf ?_ | refine Vm ?_ | refine Ve ?_ | refine Vo ?_ | refine Vz ?_ | refine Vn ?_)
  cases hv : q.valid with
  | false =>
    repeat (first | refine Vx ?_ | (apply Ops_q; (case hon => exact Va); (case hd => rfl); (case hq => exact YlA)) | refine Vr ?_ | refine Vt ?_ | refine Vf ?_ | refine Vm ?_ | refine Ve ?_ | refine Vo ?_ | refine Vz ?_ | refine Vn ?_)
    refine ret1 (by first | exact .inl rfl | exact .inr rfl) rfl rfl ?_
    exact Ret_mk (by rw [Pf.covers, hv]; rfl) e2
  | true =>
    repeat (first | refine Vx ?_ | (apply Ops_q; (case hon => exact Va); (case hd => rfl); (case hq => exact YlA)) | refine Vr ?_ | refine Vt ?_ | refine Vf ?_ | refine Vm ?_ | refine Ve ?_ | refine Vo ?_ | refine Vz ?_ | refine Vn ?_)
    refine Ops_split rfl rfl (fun h1 => ?_) (fun h1 => ?_)
    · repeat (first | refine Vx ?_ | (apply Ops_q; (case hon => exact Va); (case hd => rfl); (case hq => exact YlA)) | refine Vr ?_ | refine Vt ?_ | refine Vf ?_ | refine Vm ?_ | refine Ve ?_ | refine Vo ?_ | refine Vz ?_ | refine Vn ?_)
      (apply Ops_q; (case hon => (exact Va)); (case hd => rfl); (case hq => exact Yl_call rfl (fun w_ e_ => containsP_v p q.a w_ hp hq)))
      repeat (first | refine Vx ?_ | (apply Ops_q; (case hon => exact Va); (case hd => rfl); (case hq => exact YlA)) | refine Vr ?_ | refine Vt ?_ | refine Vf ?_ | refine Vm ?_ | refine Ve ?_ | refine Vo ?_ | refine Vz ?_ | refine Vn ?_)
      refine ret1 (by first | exact .inl rfl | exact .inr rfl) rfl rfl ?_
      exact Ret_mk (by rw [Pf.covers, hv, h1]; rfl) e2
    · repeat (first | refine Vx ?_ | (apply Ops_q; (case hon => exact Va); (case hd => rfl); (case hq => exact YlA)) | refine Vr ?_ | refine Vt ?_ | refine Vf ?_ | refine Vm ?_ | refine Ve ?_ | refine Vo ?_ | refine Vz ?_ | refine Vn ?_)
      refine ret1 (by first | exact .inl rfl | exact .inr rfl) rfl rfl ?_
      exact Ret_mk (by rw [Pf.covers, hv, h1]; rfl) e2
/-! ### Check -/
def chkF : Option Pf → List En → Int
  | _, [] => 0
  | pr, x :: l => if x.p.valid = false then 1 else if x.v < -1 then 5 else if (match pr with | none => false | some q => decide (0 ≤ cmpP q x.p)) = true then 16 else chkF (some x.p) l
def chk (L : List En) : Int := if 2000 < L.length then 4 else chkF none L
def prevP (L : List En) (k : Nat) : Option Pf := if k = 0 then none else (L[k - 1]?).map (·.p)
theorem chkF_at {L : List En} {k : Nat} {x : En} (hx : L[k]? = some x) : chkF (prevP L k) (L.drop k) =
    if x.p.valid = false then 1 else if x.v < -1 then 5 else if (match prevP L k with | none => false | some q => decide (0 ≤ cmpP q x.p)) = true then 16 else chkF (prevP L (k + 1)) (L.drop (k + 1)) := by
  have hk : k < L.length := (List.getElem?_eq_some_iff.1 hx).1
  have hd : L.drop k = x :: L.drop (k + 1) := by rw [List.drop_eq_getElem_cons hk, (List.getElem?_eq_some_iff.1 hx).2]
  have hp : prevP L (k + 1) = some x.p := by rw [prevP, if_neg (by omega), Nat.add_sub_cancel, hx]; rfl
  rw [hd, hp]
  cases prevP L k <;> rfl
set_option maxHeartbeats 1000000 in
theorem check_v (ao : Option Addr) (L : List En) (c : Nat) (w : World) (hL : Ens w ao L) (ha : ∀ e ∈ L, e.p.a < 4294967296) (hn : L.length ≤ 1000000) :
    Calls Try.prog 13 #[.slice ao L.length c] w (Ret (.int .i64 (chk L)) w) := by
  refine V_enter (vs := [_]) Try.func13 rfl Try.ntmps13 (Nat.le_of_ble_eq_true rfl) ?_
  repeat (first | refine Vx ?_ | (apply Ops_q; (case hon => exact Va); (case hd => rfl); (case hq => exact YlA)) | refine Vr ?_ | refine Vt ?_ | refine Vf ?_ | refine Vm ?_ | refine Ve ?_ | refine Vo ?_ | refine Vz ?_ | refine Vn ?_)
  refine V_cond rfl (fun h1 => ?_) (fun h1 => ?_)
  · replace h1 := of_decide_eq_true h1
    repeat (first | refine Vx ?_ | (apply Ops_q; (case hon => exact Va); (case hd => rfl); (case hq => exact YlA)) | refine Vr ?_ | refine Vt ?_ | refine Vf ?_ | refine Vm ?_ | refine Ve ?_ | refine Vo ?_ | refine Vz ?_ | refine Vn ?_)
    refine ret1 (by first | exact .inl rfl | exact .inr rfl) rfl rfl ?_
    exact Ret_mk (by rw [chk, if_pos (by omega)]) (Ext.refl _)
  replace h1 := of_decide_eq_false h1
  repeat (first | refine Vx ?_ | (apply Ops_q; (case hon => exact Va); (case hd => rfl); (case hq => exact YlA)) | refine Vr ?_ | refine Vt ?_ | refine Vf ?_ | refine Vm ?_ | refine Ve ?_ | refine Vo ?_ | refine Vz ?_ | refine Vn ?_)
  refine V_loop (fun k : Nat => [(10, .int .i64 k), (9, .int .i64 L.length), (8, .slice ao L.length c), (0, .slice ao L.length c)]) (fun k w' => Ext w w' ∧ k ≤ L.length ∧ chk L = chkF (prevP L k) (L.drop k)) (fun k => L.length - k) 0 (by repeat (first | exact trivial | refine ⟨rfl, ?_⟩)) ⟨Ext.refl _, Nat.zero_le _, by rw [chk, if_neg (by omega)]; rfl⟩ ?_
  rintro k w1 ⟨e1, hk, hs⟩
  repeat (first | refine Vx ?_ | (apply Ops_q; (case hon => exact Va); (case hd => rfl); (case hq => exact YlA)) | refine Vr ?_ | refine Vt ?_ | refine Vf ?_ | refine Vm ?_ | refine Ve ?_ | refine Vo ?_ | refine Vz ?_ | refine Vn ?_)
  refine V_cond rfl (fun hg => ?_) (fun hg => ?_)
  · replace hg := of_decide_eq_true hg
    have hkl : k < L.length := by omega
    obtain ⟨x, hx⟩ : ∃ x, L[k]? = some x := ⟨_, List.getElem?_eq_getElem hkl⟩
    rw [chkF_at hx] at hs
    obtain ⟨ad, rfl, hc⟩ := hL.at hx
    have hxa := ha x (List.mem_of_getElem? hx)
    have hc1 : Cells w1 (ad.add (k * 3)) [.int .u32 x.p.a, .int .i64 x.p.n, .int .i64 x.v] := hc.ext e1
    repeat (first | refine Vx ?_ | (apply Ops_q; (case hon => exact Va); (case hd => rfl); (case hq => exact YlA)) | refine Vr ?_ | refine Vt ?_ | refine Vf ?_ | refine Vm ?_ | refine Ve ?_ | refine Vo ?_ | refine Vz ?_ | refine Vn ?_)
    (apply Ops_q; (case hon => (exact Va)); (case hd => rfl); (case hq => exact Yl_indexS (j := k) rfl rfl (by omega)))
    repeat (first | refine Vx ?_ | (apply Ops_q; (case hon => exact Va); (case hd => rfl); (case hq => exact YlA)) | refine Vr ?_ | refine Vt ?_ | refine Vf ?_ | refine Vm ?_ | refine Ve ?_ | refine Vo ?_ | refine Vz ?_ | refine Vn ?_)
    (refine Ops_alloc (by exact Va) rfl ?_; intro w2 b2 n_b2; have k_b2 := n_b2.blk)
    repeat (first | refine Vx ?_ | (apply Ops_q; (case hon => exact Va); (case hd => rfl); (case hq => exact YlA)) | refine Vr ?_ | refine Vt ?_ | refine Vf ?_ | refine Vm ?_ | refine Ve ?_ | refine Vo ?_ | refine Vz ?_ | refine Vn ?_)
    (refine Ops_store (by exact Va) rfl rfl (by assumption) (by first | rfl | exact OneAll.h) ?_; intro w3 u_w3; have k_b2 := u_w3.blk)
    have e3 := u_w3.below (e1.trans n_b2.ext) (Nat.le_trans e1.size n_b2.ge)
    have hpart : Cells w3 ⟨b2, 0, none⟩ [.int .u32 x.p.a, .int .i64 x.p.n] := k_b2.part 0 2
    repeat (first | refine Vx ?_ | (apply Ops_q; (case hon => exact Va); (case hd => rfl); (case hq => exact YlA)) | refine Vr ?_ | refine Vt ?_ | refine Vf ?_ | refine Vm ?_ | refine Ve ?_ | refine Vo ?_ | refine Vz ?_ | refine Vn ?_)
    (apply Ops_q; (case hon => (exact Va)); (case hd => rfl); (case hq => exact Yl_call rfl (fun w_ e_ => valid_v x.p w_ hxa)))
    repeat (first | refine Vx ?_ | (apply Ops_q; (case hon => exact Va); (case hd => rfl); (case hq => exact YlA)) | refine Vr ?_ | refine Vt ?_ | refine Vf ?_ | refine Vm ?_ | refine Ve ?_ | refine Vo ?_ | refine Vz ?_ | refine Vn ?_)
    cases hv : x.p.valid with
    | false =>
      repeat (first | refine Vx ?_ | (apply Ops_q; (case hon => exact Va); (case hd => rfl); (case hq => exact YlA)) | refine Vr ?_ | refine Vt ?_ | refine Vf ?_ | refine Vm ?_ | refine Ve ?_ | refine Vo ?_ | refine Vz ?_ | refine Vn ?_)
      refine ret1 (by first | exact .inl rfl | exact .inr rfl) rfl rfl ?_
      exact Ret_mk (by rw [hs, if_pos hv]) e3
    | true =>
      rw [if_neg (by rw [hv]; decide)] at hs
      repeat (first | refine Vx ?_ | (apply Ops_q; (case hon => exact Va); (case hd => rfl); (case hq => exact YlA)) | refine Vr ?_ | refine Vt ?_ | refine Vf ?_ | refine Vm ?_ | refine Ve ?_ | refine Vo ?_ | refine Vz ?_ | refine Vn ?_)
      refine V_cond rfl (fun h2 => ?_) (fun h2 => ?_)
      · replace h2 := of_decide_eq_true h2
        repeat (first | refine Vx ?_ | (apply Ops_q; (case hon => exact Va); (case hd => rfl); (case hq => exact YlA)) | refine Vr ?_ | refine Vt ?_ | refine Vf ?_ | refine Vm ?_ | refine Ve ?_ | refine Vo ?_ | refine Vz ?_ | refine Vn ?_)
        refine ret1 (by first | exact .inl rfl | exact .inr rfl) rfl rfl ?_
        exact Ret_mk (by rw [hs, if_pos h2]) e3
      replace h2 := of_decide_eq_false h2
      rw [if_neg h2] at hs
      by_cases hk0 : k = 0
      · have hd : decide ((0 : Int) < (k : Int)) = false := decide_eq_false (by omega)
        repeat (first | refine Vx ?_ | (apply Ops_q; (case hon => exact Va); (case hd => rfl); (case hq => exact YlA)) | refine Vr ?_ | refine Vt ?_ | refine Vf ?_ | refine Vm ?_ | refine Ve ?_ | refine Vo ?_ | refine Vz ?_ | refine Vn ?_)
        refine Ops_know rfl rfl hd ?_
        repeat (first | refine Vx ?_ | (apply Ops_q; (case hon => exact Va); (case hd => rfl); (case hq => exact YlA)) | refine Vr ?_ | refine Vt ?_ | refine Vf ?_ | refine Vm ?_ | refine Ve ?_ | refine Vo ?_ | refine Vz ?_ | refine Vn ?_)
        refine ⟨k + 1, (by repeat (first | exact trivial | refine ⟨rfl, ?_⟩)), ⟨e3, hkl, ?_⟩, by omega⟩
        rw [hs, prevP, if_pos hk0]; rfl
      · have hd : decide ((0 : Int) < (k : Int)) = true := decide_eq_true (by omega)
        have hs1 : (k : Int) - 1 = ((k - 1 : Nat) : Int) := by omega
        obtain ⟨y, hy⟩ : ∃ y, L[k - 1]? = some y := ⟨_, List.getElem?_eq_getElem (by omega)⟩
        obtain ⟨ad', e', hd'⟩ := hL.at hy
        cases e'
        have hdp : Cells w3 (ad.add ((k - 1) * 3)) [.int .u32 y.p.a, .int .i64 y.p.n] := fun j u hj => hd'.ext e3 j u (by
          match j, hj with
          | 0, hj => exact hj
          | 1, hj => exact hj)
        have hpr : prevP L k = some y.p := by rw [prevP, if_neg hk0, hy]; rfl
        rw [hpr] at hs
        dsimp only at hs
        have hkp : k - 1 < L.length := by omega
        repeat (first | refine Vx ?_ | (apply Ops_q; (case hon => exact Va); (case hd => rfl); (case hq => exact YlA)) | refine Vr ?_ | refine Vt ?_ | refine Vf ?_ | refine Vm ?_ | refine Ve ?_ | refine Vo ?_ | refine Vz ?_ | refine Vn ?_)
        refine Ops_know rfl rfl hd ?_
        repeat (first | refine Vx ?_ | (apply Ops_q; (case hon => exact Va); (case hd => rfl); (case hq => exact YlA)) | refine Vr ?_ | refine Vt ?_ | refine Vf ?_ | refine Vm ?_ | refine Ve ?_ | refine Vo ?_ | refine Vz ?_ | refine Vn ?_)
        rw [hs1]
        (apply Ops_q; (case hon => (exact Va)); (case hd => rfl); (case hq => exact Yl_indexS (j := (k - 1)) rfl rfl (by omega)))
        repeat (first | refine Vx ?_ | (apply Ops_q; (case hon => exact Va); (case hd => rfl); (case hq => exact YlA)) | refine Vr ?_ | refine Vt ?_ | refine Vf ?_ | refine Vm ?_ | refine Ve ?_ | refine Vo ?_ | refine Vz ?_ | refine Vn ?_)
        (apply Ops_q; (case hon => (exact Va)); (case hd => rfl); (case hq => exact Yl_call rfl (fun w_ e_ => compareP_v y.p x.p w_)))
        repeat (first | refine Vx ?_ | (apply Ops_q; (case hon => exact Va); (case hd => rfl); (case hq => exact YlA)) | refine Vr ?_ | refine Vt ?_ | refine Vf ?_ | refine Vm ?_ | refine Ve ?_ | refine Vo ?_ | refine Vz ?_ | refine Vn ?_)
        refine V_cond rfl (fun h3 => ?_) (fun h3 => ?_)
        · repeat (first | refine Vx ?_ | (apply Ops_q; (case hon => exact Va); (case hd => rfl); (case hq => exact YlA)) | refine Vr ?_ | refine Vt ?_ | refine Vf ?_ | refine Vm ?_ | refine Ve ?_ | refine Vo ?_ | refine Vz ?_ | refine Vn ?_)
          refine ret1 (by first | exact .inl rfl | exact .inr rfl) rfl rfl ?_
          exact Ret_mk (by rw [hs, if_pos h3]) e3
        · repeat (first | refine Vx ?_ | (apply Ops_q; (case hon => exact Va); (case hd => rfl); (case hq => exact YlA)) | refine Vr ?_ | refine Vt ?_ | refine Vf ?_ | refine Vm ?_ | refine Ve ?_ | refine Vo ?_ | refine Vz ?_ | refine Vn ?_)
          refine ⟨k + 1, (by repeat (first | exact trivial | refine ⟨rfl, ?_⟩)), ⟨e3, hkl, ?_⟩, by omega⟩
          rw [hs, if_neg (by rw [h3]; decide)]
  replace hg := of_decide_eq_false hg
  obtain rfl : k = L.length := by omega
  repeat (first | refine Vx ?_ | (apply Ops_q; (case hon => exact Va); (case hd => rfl); (case hq => exact YlA)) | refine Vr ?_ | refine Vt ?_ | refine Vf ?_ | refine Vm ?_ | refine Ve ?_ | refine Vo ?_ | refine Vz ?_ | refine Vn ?_)
  refine ret1 (by first | exact .inl rfl | exact .inr rfl) rfl rfl ?_
  rw [List.drop_length] at hs
  refine Ret_mk ?_ e1
  rw [hs]; cases prevP L L.length <;> rfl
set_option maxHeartbeats 1000000 in
theorem checkR_v (ao : Option Addr) (L : List En) (c : Nat) (w : World) (hL : Ens w ao L) (ha : ∀ e ∈ L, e.p.a < 4294967296) (hn : L.length ≤ 1000000) :
    Calls Try.prog 21 #[.slice ao L.length c] w (Ret (.int .i64 (chk L)) w) := by
  refine V_enter (vs := [_]) Try.func21 rfl Try.ntmps21 (Nat.le_of_ble_eq_true rfl) ?_
  repeat (first | refine Vx ?_ | (apply Ops_q; (case hon => exact Va); (case hd => rfl); (case hq => exact YlA)) | refine Vr ?_ | refine Vt ?_ | refine Vf ?_ | refine Vm ?_ | refine Ve ?_ | refine Vo ?_ | refine Vz ?_ | refine Vn ?_)
  refine V_cond rfl (fun h1 => ?_) (fun h1 => ?_)
  · replace h1 := of_decide_eq_true h1
    repeat (first | refine Vx ?_ | (apply Ops_q; (case hon => exact Va); (case hd => rfl); (case hq => exact YlA)) | refine Vr ?_ | refine Vt ?_ | refine Vf ?_ | refine Vm ?_ | refine Ve ?_ | refine Vo ?_ | refine Vz ?_ | refine Vn ?_)
    refine ret1 (by first | exact .inl rfl | exact .inr rfl) rfl rfl ?_
    exact Ret_mk (by rw [chk, if_pos (by omega)]) (Ext.refl _)
  replace h1 := of_decide_eq_false h1
  repeat (first | refine Vx ?_ | (apply Ops_q; (case hon => exact Va); (case hd => rfl); (case hq => exact YlA)) | refine Vr ?_ | refine Vt ?_ | refine Vf ?_ | refine Vm ?_ | refine Ve ?_ | refine Vo ?_ | refine Vz ?_ | refine Vn ?_)
  refine V_loop (fun k : Nat => [(10, .int .i64 k), (9, .int .i64 L.length), (8, .slice ao L.length c), (0, .slice ao L.length c)]) (fun k w' => Ext w w' ∧ k ≤ L.length ∧ chk L = chkF (prevP L k) (L.drop k)) (fun k => L.length - k) 0 (by repeat (first | exact trivial | refine ⟨rfl, ?_⟩)) ⟨Ext.refl _, Nat.zero_le _, by rw [chk, if_neg (by omega)]; rfl⟩ ?_
  rintro k w1 ⟨e1, hk, hs⟩
  repeat (first | refine Vx ?_ | (apply Ops_q; (case hon => exact Va); (case hd => rfl); (case hq => exact YlA)) | refine Vr ?_ | refine Vt ?_ | refine Vf ?_ | refine Vm ?_ | refine Ve ?_ | refine Vo ?_ | refine Vz ?_ | refine Vn ?_)
  refine V_cond rfl (fun hg => ?_) (fun hg => ?_)
  · replace hg := of_decide_eq_true hg
    have hkl : k < L.length := by omega
    obtain ⟨x, hx⟩ : ∃ x, L[k]? = some x := ⟨_, List.getElem?_eq_getElem hkl⟩
    rw [chkF_at hx] at hs
    obtain ⟨ad, rfl, hc⟩ := hL.at hx
    have hxa := ha x (List.mem_of_getElem? hx)
    have hc1 : Cells w1 (ad.add (k * 3)) [.int .u32 x.p.a, .int .i64 x.p.n, .int .i64 x.v] := hc.ext e1
    repeat (first | refine Vx ?_ | (apply Ops_q; (case hon => exact Va); (case hd => rfl); (case hq => exact YlA)) | refine Vr ?_ | refine Vt ?_ | refine Vf ?_ | refine Vm ?_ | refine Ve ?_ | refine Vo ?_ | refine Vz ?_ | refine Vn ?_)
    (apply Ops_q; (case hon => (exact Va)); (case hd => rfl); (case hq => exact Yl_indexS (j := k) rfl rfl (by omega)))
    repeat (first | refine Vx ?_ | (apply Ops_q; (case hon => exact Va); (case hd => rfl); (case hq => exact YlA)) | refine Vr ?_ | refine Vt ?_ | refine Vf ?_ | refine Vm ?_ | refine Ve ?_ | refine Vo ?_ | refine Vz ?_ | refine Vn ?_)
    (refine Ops_alloc (by exact Va) rfl ?_; intro w2 b2 n_b2; have k_b2 := n_b2.blk)
    repeat (first | refine Vx ?_ | (apply Ops_q; (case hon => exact Va); (case hd => rfl); (case hq => exact YlA)) | refine Vr ?_ | refine Vt ?_ | refine Vf ?_ | refine Vm ?_ | refine Ve ?_ | refine Vo ?_ | refine Vz ?_ | refine Vn ?_)
    (refine Ops_store (by exact Va) rfl rfl (by assumption) (by first | rfl | exact OneAll.h) ?_; intro w3 u_w3; have k_b2 := u_w3.blk)
    have e3 := u_w3.below (e1.trans n_b2.ext) (Nat.le_trans e1.size n_b2.ge)
    have hpart : Cells w3 ⟨b2, 0, none⟩ [.int .u32 x.p.a, .int .i64 x.p.n] := k_b2.part 0 2
    repeat (first | refine Vx ?_ | (apply Ops_q; (case hon => exact Va); (case hd => rfl); (case hq => exact YlA)) | refine Vr ?_ | refine Vt ?_ | refine Vf ?_ | refine Vm ?_ | refine Ve ?_ | refine Vo ?_ | refine Vz ?_ | refine Vn ?_)
    (apply Ops_q; (case hon => (exact Va)); (case hd => rfl); (case hq => exact Yl_call rfl (fun w_ e_ => rvalid_v x.p w_ hxa)))
    repeat (first | refine Vx ?_ | (apply Ops_q; (case hon => exact Va); (case hd => rfl); (case hq => exact YlA)) | refine Vr ?_ | refine Vt ?_ | refine Vf ?_ | refine Vm ?_ | refine Ve ?_ | refine Vo ?_ | refine Vz ?_ | refine Vn ?_)
    cases hv : x.p.valid with
    | false =>
      repeat (first | refine Vx ?_ | (apply Ops_q; (case hon => exact Va); (case hd => rfl); (case hq => exact YlA)) | refine Vr ?_ | refine Vt ?_ | refine Vf ?_ | refine Vm ?_ | refine Ve ?_ | refine Vo ?_ | refine Vz ?_ | refine Vn ?_)
      refine ret1 (by first | exact .inl rfl | exact .inr rfl) rfl rfl ?_
      exact Ret_mk (by rw [hs, if_pos hv]) e3
    | true =>
      rw [if_neg (by rw [hv]; decide)] at hs
      repeat (first | refine Vx ?_ | (apply Ops_q; (case hon => exact Va); (case hd => rfl); (case hq => exact YlA)) | refine Vr ?_ | refine Vt ?_ | refine Vf ?_ | refine Vm ?_ | refine Ve ?_ | refine Vo ?_ | refine Vz ?_ | refine Vn ?_)
      refine V_cond rfl (fun h2 => ?_) (fun h2 => ?_)
      · replace h2 := of_decide_eq_true h2
        repeat (first | refine Vx ?_ | (apply Ops_q; (case hon => exact Va); (case hd => rfl); (case hq => exact YlA)) | refine Vr ?_ | refine Vt ?_ | refine Vf ?_ | refine Vm ?_ | refine Ve ?_ | refine Vo ?_ | refine Vz ?_ | refine Vn ?_)
        refine ret1 (by first | exact .inl rfl | exact .inr rfl) rfl rfl ?_
        exact Ret_mk (by rw [hs, if_pos h2]) e3
      replace h2 := of_decide_eq_false h2
      rw [if_neg h2] at hs
      by_cases hk0 : k = 0
      · have hd : decide ((0 : Int) < (k : Int)) = false := decide_eq_false (by omega)
        repeat (first | refine Vx ?_ | (apply Ops_q; (case hon => exact Va); (case hd => rfl); (case hq => exact YlA)) | refine Vr ?_ | refine Vt ?_ | refine Vf ?_ | refine Vm ?_ | refine Ve ?_ | refine Vo ?_ | refine Vz ?_ | refine Vn ?_)
        refine Ops_know rfl rfl hd ?_
        repeat (first | refine Vx ?_ | (apply Ops_q; (case hon => exact Va); (case hd => rfl); (case hq => exact YlA)) | refine Vr ?_ | refine Vt ?_ | refine Vf ?_ | refine Vm ?_ | refine Ve ?_ | refine Vo ?_ | refine Vz ?_ | refine Vn ?_)
        refine ⟨k + 1, (by repeat (first | exact trivial | refine ⟨rfl, ?_⟩)), ⟨e3, hkl, ?_⟩, by omega⟩
        rw [hs, prevP, if_pos hk0]; rfl
      · have hd : decide ((0 : Int) < (k : Int)) = true := decide_eq_true (by omega)
        have hs1 : (k : Int) - 1 = ((k - 1 : Nat) : Int) := by omega
        obtain ⟨y, hy⟩ : ∃ y, L[k - 1]? = some y := ⟨_, List.getElem?_eq_getElem (by omega)⟩
        obtain ⟨ad', e', hd'⟩ := hL.at hy
        cases e'
        have hdp : Cells w3 (ad.add ((k - 1) * 3)) [.int .u32 y.p.a, .int .i64 y.p.n] := fun j u hj => hd'.ext e3 j u (by
          match j, hj with
          | 0, hj => exact hj
          | 1, hj => exact hj)
        have hpr : prevP L k = some y.p := by rw [prevP, if_neg hk0, hy]; rfl
        rw [hpr] at hs
        dsimp only at hs
        have hkp : k - 1 < L.length := by omega
        repeat (first | refine Vx ?_ | (apply Ops_q; (case hon => exact Va); (case hd => rfl); (case hq => exact YlA)) | refine Vr ?_ | refine Vt ?_ | refine Vf ?_ | refine Vm ?_ | refine Ve ?_ | refine Vo ?_ | refine Vz ?_ | refine Vn ?_)
        refine Ops_know rfl rfl hd ?_
        repeat (first | refine Vx ?_ | (apply Ops_q; (case hon => exact Va); (case hd => rfl); (case hq => exact YlA)) | refine Vr ?_ | refine Vt ?_ | refine Vf ?_ | refine Vm ?_ | refine Ve ?_ | refine Vo ?_ | refine Vz ?_ | refine Vn ?_)
        rw [hs1]
        (apply Ops_q; (case hon => (exact Va)); (case hd => rfl); (case hq => exact Yl_indexS (j := (k - 1)) rfl rfl (by omega)))
        repeat (first | refine Vx ?_ | (apply Ops_q; (case hon => exact Va); (case hd => rfl); (case hq => exact YlA)) | refine Vr ?_ | refine Vt ?_ | refine Vf ?_ | refine Vm ?_ | refine Ve ?_ | refine Vo ?_ | refine Vz ?_ | refine Vn ?_)
        (apply Ops_q; (case hon => (exact Va)); (case hd => rfl); (case hq => exact Yl_call rfl (fun w_ e_ => compare_v y.p x.p w_)))
        repeat (first | refine Vx ?_ | (apply Ops_q; (case hon => exact Va); (case hd => rfl); (case hq => exact YlA)) | refine Vr ?_ | refine Vt ?_ | refine Vf ?_ | refine Vm ?_ | refine Ve ?_ | refine Vo ?_ | refine Vz ?_ | refine Vn ?_)
        refine V_cond rfl (fun h3 => ?_) (fun h3 => ?_)
        · repeat (first | refine Vx ?_ | (apply Ops_q; (case hon => exact Va); (case hd => rfl); (case hq => exact YlA)) | refine Vr ?_ | refine Vt ?_ | refine Vf ?_ | refine Vm ?_ | refine Ve ?_ | refine Vo ?_ | refine Vz ?_ | refine Vn ?_)
          refine ret1 (by first | exact .inl rfl | exact .inr rfl) rfl rfl ?_
          exact Ret_mk (by rw [hs, if_pos h3]) e3
        · repeat (first | refine Vx ?_ | (apply Ops_q; (case hon => exact Va); (case hd => rfl); (case hq => exact YlA)) | refine Vr ?_ | refine Vt ?_ | refine Vf ?_ | refine Vm ?_ | refine Ve ?_ | refine Vo ?_ | refine Vz ?_ | refine Vn ?_)
          refine ⟨k + 1, (by repeat (first | exact trivial | refine ⟨rfl, ?_⟩)), ⟨e3, hkl, ?_⟩, by omega⟩
          rw [hs, if_neg (by rw [h3]; decide)]
  replace hg := of_decide_eq_false hg
  obtain rfl : k = L.length := by omega
  repeat (first | refine Vx ?_ | (apply Ops_q; (case hon => exact Va); (case hd => rfl); (case hq => exact YlA)) | refine Vr ?_ | refine Vt ?_ | refine Vf ?_ | refine Vm ?_ | refine Ve ?_ | refine Vo ?_ | refine Vz ?_ | refine Vn ?_)
  refine ret1 (by first | exact .inl rfl | exact .inr rfl) rfl rfl ?_
  rw [List.drop_length] at hs
  refine Ret_mk ?_ e1
  rw [hs]; cases prevP L L.length <;> rfl
/-! ### Lookup -/
def lkS (a : Nat) (s : Int × Int) (x : En) : Int × Int := if decide (s.2 < x.p.n) && x.p.has a then (x.v, x.p.n) else s
def lk (L : List En) (a : Nat) : Int := (L.foldl (lkS a) (-1, -1)).1
theorem lk_step {L : List En} {k : Nat} {x : En} (a : Nat) (hx : L[k]? = some x) : (L.take (k + 1)).foldl (lkS a) (-1, -1) = lkS a ((L.take k).foldl (lkS a) (-1, -1)) x := by
  rw [List.take_add_one, hx, List.foldl_append]; rfl
theorem lookIn_v (ao : Option Addr) (L : List En) (c : Nat) (a : Nat) (w : World) (hL : Ens w ao L) (hLa : ∀ e ∈ L, e.p.a < 4294967296) (hn : L.length ≤ 1000000) (ha : a < 4294967296) :
    Calls Try.prog 54 #[.slice ao L.length c, .int .u32 a] w (Ret (.int .i64 (lk L a)) w) := by
  refine V_enter (vs := [_, _]) Try.func54 rfl Try.ntmps54 (Nat.le_of_ble_eq_true rfl) ?_
  repeat (first | refine Vx ?_ | (apply Ops_q; (case hon => exact Va); (case hd => rfl); (case hq => exact YlA)) | refine Vr ?_ | refine Vt ?_ | refine Vf ?_ | refine Vm ?_ | refine Ve ?_ | refine Vo ?_ | refine Vz ?_ | refine Vn ?_)
  refine V_loop (fun k : Nat => [(11, .int .i64 k), (10, .int .i64 L.length), (9, .slice ao L.length c), (1, .int .u32 a), (5, .int .i64 ((L.take k).foldl (lkS a) (-1, -1)).1), (6, .int .i64 ((L.take k).foldl (lkS a) (-1, -1)).2)]) (fun k w' => Ext w w' ∧ k ≤ L.length) (fun k => L.length - k) 0 (by repeat (first | exact trivial | refine ⟨rfl, ?_⟩)) ⟨Ext.refl _, Nat.zero_le _⟩ ?_
  rintro k w1 ⟨e1, hk⟩
  repeat (first | refine Vx ?_ | (apply Ops_q; (case hon => exact Va); (case hd => rfl); (case hq => exact YlA)) | refine Vr ?_ | refine Vt ?_ | refine Vf ?_ | refine Vm ?_ | refine Ve ?_ | refine Vo ?_ | refine Vz ?_ | refine Vn ?_)
  refine V_cond rfl (fun hg => ?_) (fun hg => ?_)
  · replace hg := of_decide_eq_true hg
    have hkl : k < L.length := by omega
    obtain ⟨x, hx⟩ : ∃ x, L[k]? = some x := ⟨_, List.getElem?_eq_getElem hkl⟩
    have hst := lk_step a hx
    obtain ⟨ad, rfl, hc⟩ := hL.at hx
    have hxa := hLa x (List.mem_of_getElem? hx)
    have hc1 : Cells w1 (ad.add (k * 3)) [.int .u32 x.p.a, .int .i64 x.p.n, .int .i64 x.v] := hc.ext e1
    generalize (L.take k).foldl (lkS a) (-1, -1) = s at *
    obtain ⟨bv, bl⟩ := s
    repeat (first | refine Vx ?_ | (apply Ops_q; (case hon => exact Va); (case hd => rfl); (case hq => exact YlA)) | refine Vr ?_ | refine Vt ?_ | refine Vf ?_ | refine Vm ?_ | refine Ve ?_ | refine Vo ?_ | refine Vz ?_ | refine Vn ?_)
    (apply Ops_q; (case hon => (exact Va)); (case hd => rfl); (case hq => exact Yl_indexS (j := k) rfl rfl (by omega)))
    repeat (first | refine Vx ?_ | (apply Ops_q; (case hon => exact Va); (case hd => rfl); (case hq => exact YlA)) | refine Vr ?_ | refine Vt ?_ | refine Vf ?_ | refine Vm ?_ | refine Ve ?_ | refine Vo ?_ | refine Vz ?_ | refine Vn ?_)
    (refine Ops_alloc (by exact Va) rfl ?_; intro w2 b2 n_b2; have k_b2 := n_b2.blk)
    repeat (first | refine Vx ?_ | (apply Ops_q; (case hon => exact Va); (case hd => rfl); (case hq => exact YlA)) | refine Vr ?_ | refine Vt ?_ | refine Vf ?_ | refine Vm ?_ | refine Ve ?_ | refine Vo ?_ | refine Vz ?_ | refine Vn ?_)
    (refine Ops_store (by exact Va) rfl rfl (by assumption) (by first | rfl | exact OneAll.h) ?_; intro w3 u_w3; have k_b2 := u_w3.blk)
    have e3 := u_w3.below (e1.trans n_b2.ext) (Nat.le_trans e1.size n_b2.ge)
    have hpart : Cells w3 ⟨b2, 0, none⟩ [.int .u32 x.p.a, .int .i64 x.p.n] := k_b2.part 0 2
    repeat (first | refine Vx ?_ | (apply Ops_q; (case hon => exact Va); (case hd => rfl); (case hq => exact YlA)) | refine Vr ?_ | refine Vt ?_ | refine Vf ?_ | refine Vm ?_ | refine Ve ?_ | refine Vo ?_ | refine Vz ?_ | refine Vn ?_)
    refine Ops_meet [(25, .bool (decide (bl < x.p.n) && x.p.has a)), (8, .pointer (some ⟨b2, 0, none⟩)), (11, .int .i64 k), (10, .int .i64 L.length), (9, .slice (some ad) L.length c), (1, .int .u32 a), (5, .int .i64 bv), (6, .int .i64 bl)] ?_ ?_
    · refine Ops_split rfl rfl (fun h1 => ?_) (fun h1 => ?_)
      · repeat (first | refine Vx ?_ | (apply Ops_q; (case hon => exact Va); (case hd => rfl); (case hq => exact YlA)) | refine Vr ?_ | refine Vt ?_ | refine Vf ?_ | refine Vm ?_ | refine Ve ?_ | refine Vo ?_ | refine Vz ?_ | refine Vn ?_)
        (apply Ops_q; (case hon => (exact Va)); (case hd => rfl); (case hq => exact Yl_call rfl (fun w_ e_ => contains_v x.p a w_ hxa ha)))
        repeat (first | refine Vx ?_ | (apply Ops_q; (case hon => exact Va); (case hd => rfl); (case hq => exact YlA)) | refine Vr ?_ | refine Vt ?_ | refine Vf ?_ | refine Vm ?_ | refine Ve ?_ | refine Vo ?_ | refine Vz ?_ | refine Vn ?_)
        refine ⟨⟨?_, (by repeat (first | exact trivial | refine ⟨rfl, ?_⟩))⟩, rfl⟩
        rw [h1]; exact rfl
      · repeat (first | refine Vx ?_ | (apply Ops_q; (case hon => exact Va); (case hd => rfl); (case hq => exact YlA)) | refine Vr ?_ | refine Vt ?_ | refine Vf ?_ | refine Vm ?_ | refine Ve ?_ | refine Vo ?_ | refine Vz ?_ | refine Vn ?_)
        refine ⟨⟨?_, (by repeat (first | exact trivial | refine ⟨rfl, ?_⟩))⟩, rfl⟩
        rw [h1]; exact rfl
    repeat (first | refine Vx ?_ | (apply Ops_q; (case hon => exact Va); (case hd => rfl); (case hq => exact YlA)) | refine Vr ?_ | refine Vt ?_ | refine Vf ?_ | refine Vm ?_ | refine Ve ?_ | refine Vo ?_ | refine Vz ?_ | refine Vn ?_)
    refine V_cond rfl (fun h2 => ?_) (fun h2 => ?_)
    · rw [lkS, if_pos h2] at hst
      repeat (first | refine Vx ?_ | (apply Ops_q; (case hon => exact Va); (case hd => rfl); (case hq => exact YlA)) | refine Vr ?_ | refine Vt ?_ | refine Vf ?_ | refine Vm ?_ | refine Ve ?_ | refine Vo ?_ | refine Vz ?_ | refine Vn ?_)
      refine ⟨k + 1, ?_, ⟨e3, hkl⟩, by omega⟩
      rw [hst]
      exact (by repeat (first | exact trivial | refine ⟨rfl, ?_⟩))
    · rw [lkS, if_neg (by rw [h2]; decide)] at hst
      repeat (first | refine Vx ?_ | (apply Ops_q; (case hon => exact Va); (case hd => rfl); (case hq => exact YlA)) | refine Vr ?_ | refine Vt ?_ | refine Vf ?_ | refine Vm ?_ | refine Ve ?_ | refine Vo ?_ | refine Vz ?_ | refine Vn ?_)
      refine ⟨k + 1, ?_, ⟨e3, hkl⟩, by omega⟩
      rw [hst]
      exact (by repeat (first | exact trivial | refine ⟨rfl, ?_⟩))
  replace hg := of_decide_eq_false hg
  obtain rfl : k = L.length := by omega
  repeat (first | refine Vx ?_ | (apply Ops_q; (case hon => exact Va); (case hd => rfl); (case hq => exact YlA)) | refine Vr ?_ | refine Vt ?_ | refine Vf ?_ | refine Vm ?_ | refine Ve ?_ | refine Vo ?_ | refine Vz ?_ | refine Vn ?_)
  refine ret1 (by first | exact .inl rfl | exact .inr rfl) rfl rfl ?_
  exact Ret_mk (by rw [lk, List.take_length]) e1
/-- What Lookup returns. -/
def lkT (L : List En) (a : Nat) : Int := if chk L = 0 then lk L a else -1
theorem lookupR_v (ao : Option Addr) (L : List En) (c : Nat) (a : Nat) (w : World) (hL : Ens w ao L) (hLa : ∀ e ∈ L, e.p.a < 4294967296) (hn : L.length ≤ 1000000) (ha : a < 4294967296) :
    Calls Try.prog 22 #[.slice ao L.length c, .int .u32 a] w (Ret (.int .i64 (lkT L a)) w) := by
  refine V_enter (vs := [_, _]) Try.func22 rfl Try.ntmps22 (Nat.le_of_ble_eq_true rfl) ?_
  repeat (first | refine Vx ?_ | (apply Ops_q; (case hon => exact Va); (case hd => rfl); (case hq => exact YlA)) | refine Vr ?_ | refine Vt ?_ | refine Vf ?_ | refine Vm ?_ | refine Ve ?_ | refine Vo ?_ | refine Vz ?_ | refine Vn ?_)
  (apply Ops_q; (case hon => (exact Va)); (case hd => rfl); (case hq => exact Yl_call rfl (fun w_ e_ => checkR_v ao L c w_ (hL.ext e_) hLa hn)))
  repeat (first | refine Vx ?_ | (apply Ops_q; (case hon => exact Va); (case hd => rfl); (case hq => exact YlA)) | refine Vr ?_ | refine Vt ?_ | refine Vf ?_ | refine Vm ?_ | refine Ve ?_ | refine Vo ?_ | refine Vz ?_ | refine Vn ?_)
  refine V_cond rfl (fun h => ?_) (fun h => ?_)
  · have h0 : ¬chk L = 0 := by simpa using h
    repeat (first | refine Vx ?_ | (apply Ops_q; (case hon => exact Va); (case hd => rfl); (case hq => exact YlA)) | refine Vr ?_ | refine Vt ?_ | refine Vf ?_ | refine Vm ?_ | refine Ve ?_ | refine Vo ?_ | refine Vz ?_ | refine Vn ?_)
    refine ret1 (by first | exact .inl rfl | exact .inr rfl) rfl rfl ?_
    exact Ret_mk (by rw [lkT, if_neg h0]) (Ext.refl _)
  · have h0 : chk L = 0 := by simpa using h
    repeat (first | refine Vx ?_ | (apply Ops_q; (case hon => exact Va); (case hd => rfl); (case hq => exact YlA)) | refine Vr ?_ | refine Vt ?_ | refine Vf ?_ | refine Vm ?_ | refine Ve ?_ | refine Vo ?_ | refine Vz ?_ | refine Vn ?_)
    (apply Ops_q; (case hon => (exact Va)); (case hd => rfl); (case hq => exact Yl_call rfl (fun w_ e_ => lookIn_v ao L c a w_ (hL.ext e_) hLa hn ha)))
    repeat (first | refine Vx ?_ | (apply Ops_q; (case hon => exact Va); (case hd => rfl); (case hq => exact YlA)) | refine Vr ?_ | refine Vt ?_ | refine Vf ?_ | refine Vm ?_ | refine Ve ?_ | refine Vo ?_ | refine Vz ?_ | refine Vn ?_)
    refine ret1 (by first | exact .inl rfl | exact .inr rfl) rfl rfl ?_
    exact Ret_mk (by rw [lkT, if_pos h0]) (Ext.refl _)
theorem lookupA_v (ao : Option Addr) (L : List En) (c : Nat) (a : Nat) (w : World) (hL : Ens w ao L) (hLa : ∀ e ∈ L, e.p.a < 4294967296) (hn : L.length ≤ 1000000) (ha : a < 4294967296) :
    Calls Try.prog 17 #[.slice ao L.length c, .int .u32 a] w (Ret (.int .i64 (lkT L a)) w) := by
  refine V_enter (vs := [_, _]) Try.func17 rfl Try.ntmps17 (Nat.le_of_ble_eq_true rfl) ?_
  repeat (first | refine Vx ?_ | (apply Ops_q; (case hon => exact Va); (case hd => rfl); (case hq => exact YlA)) | refine Vr ?_ | refine Vt ?_ | refine Vf ?_ | refine Vm ?_ | refine Ve ?_ | refine Vo ?_ | refine Vz ?_ | refine Vn ?_)
  (apply Ops_q; (case hon => (exact Va)); (case hd => rfl); (case hq => exact Yl_call rfl (fun w_ e_ => check_v ao L c w_ (hL.ext e_) hLa hn)))
  repeat (first | refine Vx ?_ | (apply Ops_q; (case hon => exact Va); (case hd => rfl); (case hq => exact YlA)) | refine Vr ?_ | refine Vt ?_ | refine Vf ?_ | refine Vm ?_ | refine Ve ?_ | refine Vo ?_ | refine Vz ?_ | refine Vn ?_)
  refine V_cond rfl (fun h => ?_) (fun h => ?_)
  · have h0 : ¬chk L = 0 := by simpa using h
    repeat (first | refine Vx ?_ | (apply Ops_q; (case hon => exact Va); (case hd => rfl); (case hq => exact YlA)) | refine Vr ?_ | refine Vt ?_ | refine Vf ?_ | refine Vm ?_ | refine Ve ?_ | refine Vo ?_ | refine Vz ?_ | refine Vn ?_)
    refine ret1 (by first | exact .inl rfl | exact .inr rfl) rfl rfl ?_
    exact Ret_mk (by rw [lkT, if_neg h0]) (Ext.refl _)
  · have h0 : chk L = 0 := by simpa using h
    repeat (first | refine Vx ?_ | (apply Ops_q; (case hon => exact Va); (case hd => rfl); (case hq => exact YlA)) | refine Vr ?_ | refine Vt ?_ | refine Vf ?_ | refine Vm ?_ | refine Ve ?_ | refine Vo ?_ | refine Vz ?_ | refine Vn ?_)
    refine V_loop (fun k : Nat => [(14, .int .i64 k), (13, .int .i64 L.length), (12, .slice ao L.length c), (1, .int .u32 a), (5, .int .i64 ((L.take k).foldl (lkS a) (-1, -1)).1), (6, .int .i64 ((L.take k).foldl (lkS a) (-1, -1)).2)]) (fun k w' => Ext w w' ∧ k ≤ L.length) (fun k => L.length - k) 0 (by repeat (first | exact trivial | refine ⟨rfl, ?_⟩)) ⟨Ext.refl _, Nat.zero_le _⟩ ?_
    rintro k w1 ⟨e1, hk⟩
    repeat (first | refine Vx ?_ | (apply Ops_q; (case hon => exact Va); (case hd => rfl); (case hq => exact YlA)) | refine Vr ?_ | refine Vt ?_ | refine Vf ?_ | refine Vm ?_ | refine Ve ?_ | refine Vo ?_ | refine Vz ?_ | refine Vn ?_)
    refine V_cond rfl (fun hg => ?_) (fun hg => ?_)
    · replace hg := of_decide_eq_true hg
      have hkl : k < L.length := by omega
      obtain ⟨x, hx⟩ : ∃ x, L[k]? = some x := ⟨_, List.getElem?_eq_getElem hkl⟩
      have hst := lk_step a hx
      obtain ⟨ad, rfl, hc⟩ := hL.at hx
      have hxa := hLa x (List.mem_of_getElem? hx)
      have hc1 : Cells w1 (ad.add (k * 3)) [.int .u32 x.p.a, .int .i64 x.p.n, .int .i64 x.v] := hc.ext e1
      generalize (L.take k).foldl (lkS a) (-1, -1) = s at *
      obtain ⟨bv, bl⟩ := s
      repeat (first | refine Vx ?_ | (apply Ops_q; (case hon => exact Va); (case hd => rfl); (case hq => exact YlA)) | refine Vr ?_ | refine Vt ?_ | refine Vf ?_ | refine Vm ?_ | refine Ve ?_ | refine Vo ?_ | refine Vz ?_ | refine Vn ?_)
      (apply Ops_q; (case hon => (exact Va)); (case hd => rfl); (case hq => exact Yl_indexS (j := k) rfl rfl (by omega)))
      repeat (first | refine Vx ?_ | (apply Ops_q; (case hon => exact Va); (case hd => rfl); (case hq => exact YlA)) | refine Vr ?_ | refine Vt ?_ | refine Vf ?_ | refine Vm ?_ | refine Ve ?_ | refine Vo ?_ | refine Vz ?_ | refine Vn ?_)
      (refine Ops_alloc (by exact Va) rfl ?_; intro w2 b2 n_b2; have k_b2 := n_b2.blk)
      repeat (first | refine Vx ?_ | (apply Ops_q; (case hon => exact Va); (case hd => rfl); (case hq => exact YlA)) | refine Vr ?_ | refine Vt ?_ | refine Vf ?_ | refine Vm ?_ | refine Ve ?_ | refine Vo ?_ | refine Vz ?_ | refine Vn ?_)
      (refine Ops_store (by exact Va) rfl rfl (by assumption) (by first | rfl | exact OneAll.h) ?_; intro w3 u_w3; have k_b2 := u_w3.blk)
      have e3 := u_w3.below (e1.trans n_b2.ext) (Nat.le_trans e1.size n_b2.ge)
      have hpart : Cells w3 ⟨b2, 0, none⟩ [.int .u32 x.p.a, .int .i64 x.p.n] := k_b2.part 0 2
      repeat (first | refine Vx ?_ | (apply Ops_q; (case hon => exact Va); (case hd => rfl); (case hq => exact YlA)) | refine Vr ?_ | refine Vt ?_ | refine Vf ?_ | refine Vm ?_ | refine Ve ?_ | refine Vo ?_ | refine Vz ?_ | refine Vn ?_)
      refine Ops_meet [(28, .bool (decide (bl < x.p.n) && x.p.has a)), (8, .pointer (some ⟨b2, 0, none⟩)), (14, .int .i64 k), (13, .int .i64 L.length), (12, .slice (some ad) L.length c), (1, .int .u32 a), (5, .int .i64 bv), (6, .int .i64 bl)] ?_ ?_
      · refine Ops_split rfl rfl (fun h1 => ?_) (fun h1 => ?_)
        · repeat (first | refine Vx ?_ | (apply Ops_q; (case hon => exact Va); (case hd => rfl); (case hq => exact YlA)) | refine Vr ?_ | refine Vt ?_ | refine Vf ?_ | refine Vm ?_ | refine Ve ?_ | refine Vo ?_ | refine Vz ?_ | refine Vn ?_)
          (apply Ops_q; (case hon => (exact Va)); (case hd => rfl); (case hq => exact Yl_call rfl (fun w_ e_ => containsP_v x.p a w_ hxa ha)))
          repeat (first | refine Vx ?_ | (apply Ops_q; (case hon => exact Va); (case hd => rfl); (case hq => exact YlA)) | refine Vr ?_ | refine Vt ?_ | refine Vf ?_ | refine Vm ?_ | refine Ve ?_ | refine Vo ?_ | refine Vz ?_ | refine Vn ?_)
          refine ⟨⟨?_, (by repeat (first | exact trivial | refine ⟨rfl, ?_⟩))⟩, rfl⟩
          rw [h1]; exact rfl
        · repeat (first | refine Vx ?_ | (apply Ops_q; (case hon => exact Va); (case hd => rfl); (case hq => exact YlA)) | refine Vr ?_ | refine Vt ?_ | refine Vf ?_ | refine Vm ?_ | refine Ve ?_ | refine Vo ?_ | refine Vz ?_ | refine Vn ?_)
          refine ⟨⟨?_, (by repeat (first | exact trivial | refine ⟨rfl, ?_⟩))⟩, rfl⟩
          rw [h1]; exact rfl
      repeat (first | refine Vx ?_ | (apply Ops_q; (case hon => exact Va); (case hd => rfl); (case hq => exact YlA)) | refine Vr ?_ | refine Vt ?_ | refine Vf ?_ | refine Vm ?_ | refine Ve ?_ | refine Vo ?_ | refine Vz ?_ | refine Vn ?_)
      refine V_cond rfl (fun h2 => ?_) (fun h2 => ?_)
      · rw [lkS, if_pos h2] at hst
        repeat (first | refine Vx ?_ | (apply Ops_q; (case hon => exact Va); (case hd => rfl); (case hq => exact YlA)) | refine Vr ?_ | refine Vt ?_ | refine Vf ?_ | refine Vm ?_ | refine Ve ?_ | refine Vo ?_ | refine Vz ?_ | refine Vn ?_)
        refine ⟨k + 1, ?_, ⟨e3, hkl⟩, by omega⟩
        rw [hst]
        exact (by repeat (first | exact trivial | refine ⟨rfl, ?_⟩))
      · rw [lkS, if_neg (by rw [h2]; decide)] at hst
        repeat (first | refine Vx ?_ | (apply Ops_q; (case hon => exact Va); (case hd => rfl); (case hq => exact YlA)) | refine Vr ?_ | refine Vt ?_ | refine Vf ?_ | refine Vm ?_ | refine Ve ?_ | refine Vo ?_ | refine Vz ?_ | refine Vn ?_)
        refine ⟨k + 1, ?_, ⟨e3, hkl⟩, by omega⟩
        rw [hst]
        exact (by repeat (first | exact trivial | refine ⟨rfl, ?_⟩))
    replace hg := of_decide_eq_false hg
    obtain rfl : k = L.length := by omega
    repeat (first | refine Vx ?_ | (apply Ops_q; (case hon => exact Va); (case hd => rfl); (case hq => exact YlA)) | refine Vr ?_ | refine Vt ?_ | refine Vf ?_ | refine Vm ?_ | refine Ve ?_ | refine Vo ?_ | refine Vz ?_ | refine Vn ?_)
    refine ret1 (by first | exact .inl rfl | exact .inr rfl) rfl rfl ?_
    exact Ret_mk (by rw [lkT, if_pos h0, lk, List.take_length]) e1
end Go.Proofs.Ytjpnaofoeeegeaa

/-
  Stable sorting in plain lists: swaps, rotations, merges.
  No conditions beyond those that each statement names.
-/
namespace Go.Proofs.Ytjpnaofoeeegeaa

/-- Two elements change places. -/
def swp {α : Type} (L : List α) (i j : Nat) : List α := match L[i]?, L[j]? with
  | some x, some y => (L.set i y).set j x
  | _, _ => L
section
variable {α : Type} {L L' L'' : List α} {a b c m i j k n : Nat}
theorem swp_len : (swp L i j).length = L.length := by
  unfold swp
  split <;> simp
theorem swp_get (hi : i < L.length) (hj : j < L.length) (k : Nat) : (swp L i j)[k]? = if k = j then L[i]? else if k = i then L[j]? else L[k]? := by
  unfold swp
  rw [List.getElem?_eq_getElem hi, List.getElem?_eq_getElem hj]
  simp only [List.getElem?_set, List.length_set]
  by_cases h1 : k = j
  · subst h1; simp [hj]
  · rw [if_neg (Ne.symm h1), if_neg h1]
    by_cases h2 : k = i
    · subst h2; simp [hi]
    · rw [if_neg (Ne.symm h2), if_neg h2]
theorem swp_perm (hi : i < L.length) (hj : j < L.length) : (swp L i j).Perm L := by
  unfold swp
  rw [List.getElem?_eq_getElem hi, List.getElem?_eq_getElem hj]
  exact List.set_set_perm hi hj
theorem list_ext {A B : List α} (h : ∀ k : Nat, A[k]? = B[k]?) : A = B := List.ext_getElem? h
/-- What a list holds after other elements of the same range took its places; outside of it nothing has changed. -/
structure Moved (L L' : List α) (a b : Nat) : Prop where
  perm : L'.Perm L
  out : ∀ k, k < a ∨ b ≤ k → L'[k]? = L[k]?
  ins : ∀ k, a ≤ k → k < b → ∃ k', a ≤ k' ∧ k' < b ∧ L'[k]? = L[k']?
theorem Moved.refl (L : List α) (a b : Nat) : Moved L L a b := ⟨.refl _, fun _ _ => rfl, fun k h1 h2 => ⟨k, h1, h2, rfl⟩⟩
theorem Moved.len (h : Moved L L' a b) : L'.length = L.length := h.perm.length_eq
theorem Moved.trans (h : Moved L L' a b) (h2 : Moved L' L'' a b) : Moved L L'' a b := by
  refine ⟨h2.perm.trans h.perm, fun k hk => (h2.out k hk).trans (h.out k hk), fun k h3 h4 => ?_⟩
  obtain ⟨k1, p1, p2, p3⟩ := h2.ins k h3 h4
  obtain ⟨k2, q1, q2, q3⟩ := h.ins k1 p1 p2
  exact ⟨k2, q1, q2, p3.trans q3⟩
theorem Moved.wide {a' b' : Nat} (h : Moved L L' a b) (ha : a' ≤ a) (hb : b ≤ b') : Moved L L' a' b' := by
  refine ⟨h.perm, fun k hk => h.out k (by omega), fun k h3 h4 => ?_⟩
  by_cases hk : a ≤ k ∧ k < b
  · obtain ⟨k1, p1, p2, p3⟩ := h.ins k hk.1 hk.2
    exact ⟨k1, by omega, by omega, p3⟩
  · exact ⟨k, h3, h4, h.out k (by omega)⟩
theorem Moved.swp (hi : a ≤ i ∧ i < b) (hj : a ≤ j ∧ j < b) (hb : b ≤ L.length) : Moved L (swp L i j) a b := by
  have g := swp_get (L := L) (i := i) (j := j) (by omega) (by omega)
  refine ⟨swp_perm (by omega) (by omega), fun k hk => ?_, fun k h1 h2 => ?_⟩
  · rw [g, if_neg (by omega), if_neg (by omega)]
  · rw [g]
    split
    · exact ⟨i, hi.1, hi.2, rfl⟩
    · split
      · exact ⟨j, hj.1, hj.2, rfl⟩
      · exact ⟨k, h1, h2, rfl⟩
/-- An order by a function that compares, as Go's packages take it. -/
structure Ord (cf : α → α → Int) : Prop where
  tot : ∀ x y, cf x y < 0 → ¬cf y x < 0
  tr : ∀ x y z, ¬cf y x < 0 → ¬cf z y < 0 → ¬cf z x < 0
variable {cf : α → α → Int}
/-- Ascending from a on, below b. -/
def Asc (cf : α → α → Int) (L : List α) (a b : Nat) : Prop := ∀ i j x y, a ≤ i → i < j → j < b → L[i]? = some x → L[j]? = some y → ¬cf y x < 0
theorem Asc.part {a' b' : Nat} (h : Asc cf L a b) (ha : a ≤ a') (hb : b' ≤ b) : Asc cf L a' b' := fun i j x y h1 h2 h3 => h i j x y (by omega) h2 (by omega)
theorem Asc.one (h : b ≤ a + 1) : Asc cf L a b := fun i j x y h1 h2 h3 => by omega
theorem Asc.same (h : Asc cf L a b) (hs : ∀ k, a ≤ k → k < b → L'[k]? = L[k]?) : Asc cf L' a b := fun i j x y h1 h2 h3 hx hy => by
  rw [hs i h1 (by omega)] at hx
  rw [hs j (by omega) h3] at hy
  exact h i j x y h1 h2 h3 hx hy
/-- Everything in the first range is at most everything in the second. -/
def Below2 (cf : α → α → Int) (L : List α) (a b c d : Nat) : Prop := ∀ i j x y, a ≤ i → i < b → c ≤ j → j < d → L[i]? = some x → L[j]? = some y → ¬cf y x < 0
theorem Asc.join (h1 : Asc cf L a m) (h2 : Asc cf L m b) (h3 : Below2 cf L a m m b) : Asc cf L a b := fun i j x y p1 p2 p3 hx hy => by
  rcases Nat.lt_or_ge j m with h | h
  · exact h1 i j x y p1 p2 h hx hy
  · rcases Nat.lt_or_ge i m with h' | h'
    · exact h3 i j x y p1 h' h p3 hx hy
    · exact h2 i j x y h' p2 p3 hx hy
theorem Below2.moved {d : Nat} (h : Below2 cf L a b c d) (h1 : Moved L L' a b) (hc : b ≤ c) : Below2 cf L' a b c d := fun i j x y p1 p2 p3 p4 hx hy => by
  obtain ⟨k, q1, q2, q3⟩ := h1.ins i p1 p2
  rw [q3] at hx
  rw [h1.out j (by omega)] at hy
  exact h k j x y q1 q2 p3 p4 hx hy
theorem Below2.moved' {d : Nat} (h : Below2 cf L a b c d) (h1 : Moved L L' c d) (hc : b ≤ c) : Below2 cf L' a b c d := fun i j x y p1 p2 p3 p4 hx hy => by
  obtain ⟨k, q1, q2, q3⟩ := h1.ins j p3 p4
  rw [q3] at hy
  rw [h1.out i (by omega)] at hx
  exact h i k x y p1 p2 q1 q2 hx hy
/-! ### Insertion -/
/-- Ascending but for the element at j, which may be less than those before it. -/
def AscX (cf : α → α → Int) (L : List α) (a b j : Nat) : Prop := ∀ p q x y, a ≤ p → p < q → q < b → q ≠ j → L[p]? = some x → L[q]? = some y → ¬cf y x < 0
theorem AscX.start (h : Asc cf L a i) : AscX cf L a (i + 1) i := fun p q x y h1 h2 h3 h4 => h p q x y h1 h2 (by omega)
theorem AscX.step (ho : Ord cf) (h : AscX cf L a b (j + 1)) (ha : a ≤ j) (hb : j + 1 < b) (hl : b ≤ L.length) {x y : α} (hx : L[j + 1]? = some x) (hy : L[j]? = some y) (hlt : cf x y < 0) : AscX cf (swp L (j + 1) j) a b j := by
  have g := swp_get (L := L) (i := j + 1) (j := j) (by omega) (by omega)
  intro p q u v h1 h2 h3 h4 hu hv
  rw [g] at hu hv
  rw [if_neg h4] at hv
  by_cases e1 : p = j
  · rw [if_pos e1, hx] at hu
    cases hu
    by_cases e2 : q = j + 1
    · rw [if_pos e2, hy] at hv
      cases hv
      exact ho.tot _ _ hlt
    · rw [if_neg e2] at hv
      exact h (j + 1) q x v (by omega) (by omega) h3 e2 hx hv
  · rw [if_neg e1] at hu
    by_cases e3 : p = j + 1
    · rw [if_pos e3, hy] at hu
      cases hu
      rw [if_neg (by omega)] at hv
      exact h j q y v ha (by omega) h3 (by omega) hy hv
    · rw [if_neg e3] at hu
      by_cases e2 : q = j + 1
      · rw [if_pos e2, hy] at hv
        cases hv
        exact h p j u y h1 (by omega) (by omega) (by omega) hu hy
      · rw [if_neg e2] at hv
        exact h p q u v h1 h2 h3 e2 hu hv
theorem AscX.stop (ho : Ord cf) (h : AscX cf L a b j) (hj : j ≤ a ∨ ∃ x y, L[j]? = some x ∧ L[j - 1]? = some y ∧ ¬cf x y < 0) : Asc cf L a b := by
  intro p q x y h1 h2 h3 hx hy
  by_cases e : q = j
  · subst e
    rcases hj with hj | ⟨u, v, hu, hv, huv⟩
    · omega
    · rw [hy] at hu; cases hu
      by_cases e2 : p = q - 1
      · subst e2
        rw [hx] at hv; cases hv
        exact huv
      · exact ho.tr _ _ _ (h p (q - 1) x v h1 (by omega) (by omega) (by omega) hx hv) huv
  · exact h p q x y h1 h2 h3 e hx hy
/-! ### Rotations -/
def rotF (f : Nat → Option α) (lo m hi k : Nat) : Option α := if lo ≤ k ∧ k < lo + (hi - m) then f (m + (k - lo)) else if lo + (hi - m) ≤ k ∧ k < hi then f (lo + (k - (lo + (hi - m)))) else f k
def swrF (f : Nat → Option α) (a b n k : Nat) : Option α := if a ≤ k ∧ k < a + n then f (b + (k - a)) else if b ≤ k ∧ k < b + n then f (a + (k - b)) else f k
theorem swr_step {f : Nat → Option α} (hab : a + n ≤ b) (hi : i < n) (h : ∀ k, L[k]? = swrF f a b i k) (hL : b + n ≤ L.length) (k : Nat) : (swp L (a + i) (b + i))[k]? = swrF f a b (i + 1) k := by
  rw [swp_get (by omega) (by omega), h, h, h]
  unfold swrF
  by_cases e1 : k = b + i
  · subst e1
    rw [if_pos rfl, if_neg (by omega), if_neg (by omega), if_neg (by omega), if_pos (by omega)]
    congr 1; omega
  · rw [if_neg e1]
    by_cases e2 : k = a + i
    · subst e2
      rw [if_pos rfl, if_neg (by omega), if_neg (by omega), if_pos (by omega)]
      congr 1; omega
    · rw [if_neg e2]
      by_cases h1 : a ≤ k ∧ k < a + i
      · rw [if_pos h1, if_pos (by omega)]
      · rw [if_neg h1]
        by_cases h2 : b ≤ k ∧ k < b + i
        · rw [if_pos h2, if_neg (by omega), if_pos (by omega)]
        · rw [if_neg h2, if_neg (by omega), if_neg (by omega)]
theorem rot_big {f g : Nat → Option α} (him : i ≤ m) (hij : j < i) (h : ∀ k, g k = swrF f (m - i) m j k) (k : Nat) : rotF g (m - (i - j)) m (m + j) k = rotF f (m - i) m (m + j) k := by
  unfold rotF
  by_cases c1 : m - (i - j) ≤ k ∧ k < m - (i - j) + (m + j - m)
  · rw [if_pos c1, h, swrF, if_neg (by omega), if_pos (by omega), if_neg (by omega), if_pos (by omega)]
    congr 1; omega
  · rw [if_neg c1]
    by_cases c2 : m - (i - j) + (m + j - m) ≤ k ∧ k < m + j
    · rw [if_pos c2, h, swrF, if_neg (by omega), if_neg (by omega), if_neg (by omega), if_pos (by omega)]
      congr 1; omega
    · rw [if_neg c2, h, swrF]
      by_cases c3 : m - i ≤ k ∧ k < m - i + j
      · rw [if_pos c3, if_pos (by omega)]
      · rw [if_neg c3, if_neg (by omega), if_neg (by omega), if_neg (by omega)]
theorem rot_small {f g : Nat → Option α} (him : i ≤ m) (hij : i < j) (h : ∀ k, g k = swrF f (m - i) (m + j - i) i k) (k : Nat) : rotF g (m - i) m (m + (j - i)) k = rotF f (m - i) m (m + j) k := by
  unfold rotF
  by_cases c1 : m - i ≤ k ∧ k < m - i + (m + (j - i) - m)
  · rw [if_pos c1, h, swrF, if_neg (by omega), if_neg (by omega), if_pos (by omega)]
  · rw [if_neg c1]
    by_cases c2 : m - i + (m + (j - i) - m) ≤ k ∧ k < m + (j - i)
    · rw [if_pos c2, h, swrF, if_pos (by omega), if_pos (by omega)]
      congr 1; omega
    · rw [if_neg c2, h, swrF, if_neg (by omega)]
      by_cases c3 : m + j - i ≤ k ∧ k < m + j - i + i
      · rw [if_pos c3, if_neg (by omega), if_pos (by omega)]
        congr 1; omega
      · rw [if_neg c3, if_neg (by omega), if_neg (by omega)]
theorem rot_end {f g : Nat → Option α} (him : i ≤ m) (h : ∀ k, g k = swrF f (m - i) m i k) (k : Nat) : g k = rotF f (m - i) m (m + i) k := by
  rw [h]
  unfold rotF swrF
  by_cases c1 : m - i ≤ k ∧ k < m - i + i
  · rw [if_pos c1, if_pos (by omega)]
  · rw [if_neg c1]
    by_cases c2 : m ≤ k ∧ k < m + i
    · rw [if_pos c2, if_neg (by omega), if_pos (by omega)]
      congr 1; omega
    · rw [if_neg c2, if_neg (by omega), if_neg (by omega)]
theorem rot_none {f : Nat → Option α} {lo hi : Nat} (h1 : lo ≤ m) (h2 : m ≤ hi) (h : lo = m ∨ m = hi) (k : Nat) : rotF f lo m hi k = f k := by
  unfold rotF
  by_cases c1 : lo ≤ k ∧ k < lo + (hi - m)
  · rw [if_pos c1]; congr 1; omega
  · rw [if_neg c1]
    by_cases c2 : lo + (hi - m) ≤ k ∧ k < hi
    · rw [if_pos c2]; congr 1; omega
    · rw [if_neg c2]
theorem Moved.rot {lo hi : Nat} (hp : L'.Perm L) (h : ∀ k, L'[k]? = rotF (fun k => L[k]?) lo m hi k) (h1 : lo ≤ m) (h2 : m ≤ hi) : Moved L L' lo hi := by
  refine ⟨hp, fun k hk => ?_, fun k h3 h4 => ?_⟩
  · rw [h, rotF, if_neg (by omega), if_neg (by omega)]
  · rw [h, rotF]
    by_cases c1 : lo ≤ k ∧ k < lo + (hi - m)
    · exact ⟨m + (k - lo), by omega, by omega, by rw [if_pos c1]⟩
    · exact ⟨lo + (k - (lo + (hi - m))), by omega, by omega, by rw [if_neg c1, if_pos (by omega)]⟩
/-! ### Merging -/
/-- After the rotation the elements before the middle are at most those behind it. -/
theorem merge_rot (ho : Ord cf) {s e : Nat} (hA : Asc cf L a m) (hB : Asc cf L m b) (h1 : a ≤ s) (h2 : s ≤ m) (h3 : m ≤ e) (h4 : e ≤ b)
    (hlo : s = a ∨ e = b ∨ ∃ x y, L[e]? = some x ∧ L[s - 1]? = some y ∧ ¬cf x y < 0)
    (hhi : s = m ∨ e = m ∨ ∃ x y, L[e - 1]? = some x ∧ L[s]? = some y ∧ cf x y < 0)
    (h : ∀ k, L'[k]? = rotF (fun k => L[k]?) s m e k) :
    Asc cf L' a s ∧ Asc cf L' s (s + (e - m)) ∧ Asc cf L' (s + (e - m)) e ∧ Asc cf L' e b ∧ Below2 cf L' a (s + (e - m)) (s + (e - m)) b := by
  -- the four parts of the old list
  have r1 : ∀ k, k < s → L'[k]? = L[k]? := fun k hk => by rw [h, rotF, if_neg (by omega), if_neg (by omega)]
  have r2 : ∀ k, s ≤ k → k < s + (e - m) → L'[k]? = L[m + (k - s)]? := fun k hk hk2 => by rw [h, rotF, if_pos (by omega)]
  have r3 : ∀ k, s + (e - m) ≤ k → k < e → L'[k]? = L[s + (k - (s + (e - m)))]? := fun k hk hk2 => by rw [h, rotF, if_neg (by omega), if_pos (by omega)]
  have r4 : ∀ k, e ≤ k → L'[k]? = L[k]? := fun k hk => by rw [h, rotF, if_neg (by omega), if_neg (by omega)]
  refine ⟨fun i j x y p1 p2 p3 hx hy => ?_, fun i j x y p1 p2 p3 hx hy => ?_, fun i j x y p1 p2 p3 hx hy => ?_, fun i j x y p1 p2 p3 hx hy => ?_, fun i j x y p1 p2 p3 p4 hx hy => ?_⟩
  · rw [r1 i (by omega)] at hx
    rw [r1 j p3] at hy
    exact hA i j x y p1 p2 (by omega) hx hy
  · rw [r2 i p1 (by omega)] at hx
    rw [r2 j (by omega) p3] at hy
    exact hB _ _ x y (by omega) (by omega) (by omega) hx hy
  · rw [r3 i p1 (by omega)] at hx
    rw [r3 j (by omega) p3] at hy
    exact hA _ _ x y (by omega) (by omega) (by omega) hx hy
  · rw [r4 i p1] at hx
    rw [r4 j (by omega)] at hy
    exact hB i j x y (by omega) p2 p3 hx hy
  · -- a helper: at most, or the same place
    have leA : ∀ i j x y, a ≤ i → i ≤ j → j < m → L[i]? = some x → L[j]? = some y → ¬cf y x < 0 := fun i j x y q1 q2 q3 hx hy => by
      rcases Nat.lt_or_ge i j with h | h
      · exact hA i j x y q1 h q3 hx hy
      · obtain rfl : i = j := by omega
        rw [hx] at hy; cases hy
        exact fun hh => ho.tot _ _ hh hh
    have leB : ∀ i j x y, m ≤ i → i ≤ j → j < b → L[i]? = some x → L[j]? = some y → ¬cf y x < 0 := fun i j x y q1 q2 q3 hx hy => by
      rcases Nat.lt_or_ge i j with h | h
      · exact hB i j x y q1 h q3 hx hy
      · obtain rfl : i = j := by omega
        rw [hx] at hy; cases hy
        exact fun hh => ho.tot _ _ hh hh
    rcases Nat.lt_or_ge i s with c1 | c1
    · rw [r1 i c1] at hx
      rcases Nat.lt_or_ge j e with c2 | c2
      · rw [r3 j p3 c2] at hy
        exact leA _ _ x y p1 (by omega) (by omega) hx hy
      · rw [r4 j c2] at hy
        rcases hlo with hlo | hlo | ⟨u, v, hu, hv, huv⟩
        · omega
        · omega
        · have q1 := leA i (s - 1) x v p1 (by omega) (by omega) hx hv
          have q2 := leB e j u y h3 c2 p4 hu hy
          exact ho.tr _ _ _ (ho.tr _ _ _ q1 huv) q2
    · rw [r2 i c1 p2] at hx
      rcases Nat.lt_or_ge j e with c2 | c2
      · rw [r3 j p3 c2] at hy
        rcases hhi with hhi | hhi | ⟨u, v, hu, hv, huv⟩
        · omega
        · omega
        · have q1 := leB (m + (i - s)) (e - 1) x u (by omega) (by omega) (by omega) hx hu
          have q2 := leA s _ v y h1 (by omega) (by omega) hv hy
          exact ho.tr _ _ _ (ho.tr _ _ _ q1 (ho.tot _ _ huv)) q2
      · rw [r4 j c2] at hy
        exact leB _ _ x y (by omega) (by omega) p4 hx hy
theorem rot_l {k : Nat} (hak : a ≤ k) (h : ∀ x, L'[x]? = rotF (fun x => L[x]?) a (a + 1) (k + 1) x) (hk : k + 1 < L'.length) (x : Nat) : (swp L' k (k + 1))[x]? = rotF (fun x => L[x]?) a (a + 1) (k + 2) x := by
  rw [swp_get (by omega) hk, h, h, h]
  unfold rotF
  by_cases e1 : x = k + 1
  · subst e1
    rw [if_pos rfl, if_neg (by omega), if_pos (by omega), if_neg (by omega), if_pos (by omega)]
    congr 1; omega
  · rw [if_neg e1]
    by_cases e2 : x = k
    · subst e2
      rw [if_pos rfl, if_neg (by omega), if_neg (by omega), if_pos (by omega)]
      congr 1; omega
    · rw [if_neg e2]
      by_cases c1 : a ≤ x ∧ x < a + (k + 1 - (a + 1))
      · rw [if_pos c1, if_pos (by omega)]
      · rw [if_neg c1, if_neg (by omega), if_neg (by omega), if_neg (by omega)]
theorem rot_r {k : Nat} (hk1 : 1 ≤ k) (hkm : k ≤ m) (h : ∀ x, L'[x]? = rotF (fun x => L[x]?) k m (m + 1) x) (hk : m < L'.length) (x : Nat) : (swp L' k (k - 1))[x]? = rotF (fun x => L[x]?) (k - 1) m (m + 1) x := by
  rw [swp_get (by omega) (by omega), h, h, h]
  unfold rotF
  by_cases e1 : x = k - 1
  · subst e1
    rw [if_pos rfl, if_pos (by omega), if_pos (by omega)]
    congr 1; omega
  · rw [if_neg e1]
    by_cases e2 : x = k
    · subst e2
      rw [if_pos rfl, if_neg (by omega), if_neg (by omega), if_neg (by omega), if_pos (by omega)]
      congr 1; omega
    · rw [if_neg e2]
      by_cases c1 : k ≤ x ∧ x < k + (m + 1 - m)
      · omega
      · rw [if_neg c1]
        by_cases c2 : k + (m + 1 - m) ≤ x ∧ x < m + 1
        · rw [if_pos c2, if_neg (by omega), if_pos (by omega)]
          congr 1; omega
        · rw [if_neg c2, if_neg (by omega), if_neg (by omega)]
theorem merge_left (ho : Ord cf) {e : Nat} (hB : Asc cf L (a + 1) b) (h3 : a + 1 ≤ e) (h4 : e ≤ b)
    (hlo : e = b ∨ ∃ x y, L[e]? = some x ∧ L[a]? = some y ∧ ¬cf x y < 0) (hhi : e = a + 1 ∨ ∃ x y, L[e - 1]? = some x ∧ L[a]? = some y ∧ cf x y < 0)
    (h : ∀ k, L'[k]? = rotF (fun k => L[k]?) a (a + 1) e k) : Asc cf L' a b := by
  obtain ⟨_, q2, q3, q4, q5⟩ := merge_rot ho (a := a) (m := a + 1) (b := b) (s := a) (e := e) (Asc.one (Nat.le_refl _)) hB (Nat.le_refl _) (by omega) h3 h4 (.inl rfl) (hhi.imp id id |> .inr) h
  rw [show a + (e - (a + 1)) = e - 1 by omega] at q2 q3 q5
  refine Asc.join q2 (fun i j x y p1 p2 p3 hx hy => ?_) q5
  rcases Nat.lt_or_ge i e with c | c
  · obtain rfl : i = e - 1 := by omega
    rw [h, rotF, if_neg (by omega), if_pos (by omega), show a + (e - 1 - (a + (e - (a + 1)))) = a by omega] at hx
    rw [h, rotF, if_neg (by omega), if_neg (by omega)] at hy
    rcases hlo with hlo | ⟨u, v, hu, hv, huv⟩
    · omega
    · rw [hx] at hv; cases hv
      rcases Nat.lt_or_ge e j with c2 | c2
      · exact ho.tr _ _ _ huv (hB e j u y h3 c2 p3 hu hy)
      · obtain rfl : j = e := by omega
        rw [hy] at hu; cases hu
        exact huv
  · exact q4 i j x y c p2 p3 hx hy
theorem merge_right (ho : Ord cf) {s : Nat} (hA : Asc cf L a m) (h1 : a ≤ s) (h2 : s ≤ m)
    (hlo : s = a ∨ ∃ x y, L[m]? = some x ∧ L[s - 1]? = some y ∧ ¬cf x y < 0) (hhi : s = m ∨ ∃ x y, L[m]? = some x ∧ L[s]? = some y ∧ cf x y < 0)
    (h : ∀ k, L'[k]? = rotF (fun k => L[k]?) s m (m + 1) k) : Asc cf L' a (m + 1) := by
  obtain ⟨q1, q2, q3, _, q5⟩ := merge_rot ho (a := a) (m := m) (b := m + 1) (s := s) (e := m + 1) hA (Asc.one (Nat.le_refl _)) h1 h2 (Nat.le_succ _) (Nat.le_refl _) (.inr (.inl rfl)) (hhi.imp id (fun h => .inr h)) h
  rw [show s + (m + 1 - m) = s + 1 by omega] at q2 q3 q5
  refine Asc.join (fun i j x y p1 p2 p3 hx hy => ?_) q3 q5
  rcases Nat.lt_or_ge j s with c | c
  · exact q1 i j x y p1 p2 c hx hy
  · obtain rfl : j = s := by omega
    rw [h, rotF, if_neg (by omega), if_neg (by omega)] at hx
    rw [h, rotF, if_pos (by omega), show m + (j - j) = m by omega] at hy
    rcases hlo with hlo | ⟨u, v, hu, hv, huv⟩
    · omega
    · rw [hy] at hu; cases hu
      rcases Nat.lt_or_ge i (j - 1) with c2 | c2
      · exact ho.tr _ _ _ (hA i (j - 1) x v p1 c2 (by omega) hx hv) huv
      · obtain rfl : i = j - 1 := by omega
        rw [hx] at hv; cases hv
        exact huv
/-! ### Blocks -/
/-- Each block of s elements is ascending. -/
def Blocks (cf : α → α → Int) (L : List α) (n s : Nat) : Prop := ∀ q, Asc cf L (q * s) (min (q * s + s) n)
/-- The first blocks are merged by two. -/
def MidB (cf : α → α → Int) (L : List α) (n s q0 : Nat) : Prop := (∀ q, q < q0 → Asc cf L (q * (2 * s)) (q * (2 * s) + 2 * s)) ∧ ∀ q, 2 * q0 ≤ q → Asc cf L (q * s) (min (q * s + s) n)
theorem mul_step {q q0 t : Nat} (h : q < q0) : q * t + t ≤ q0 * t := by rw [← Nat.succ_mul]; exact Nat.mul_le_mul_right _ h
theorem Blocks.mid {s : Nat} (h : Blocks cf L n s) : MidB cf L n s 0 := ⟨fun _ hq => absurd hq (Nat.not_lt_zero _), fun q _ => h q⟩
theorem dbl (q s : Nat) : 2 * q * s = q * (2 * s) := by rw [Nat.mul_comm 2 q, Nat.mul_assoc]
theorem dbl1 (q s : Nat) : (2 * q + 1) * s = q * (2 * s) + s := by rw [Nat.succ_mul, dbl]
theorem MidB.parts {s q0 : Nat} (h : MidB cf L n s q0) (hb : q0 * (2 * s) + s ≤ n) : Asc cf L (q0 * (2 * s)) (q0 * (2 * s) + s) ∧ Asc cf L (q0 * (2 * s) + s) (min (q0 * (2 * s) + 2 * s) n) := by
  have h1 := h.2 (2 * q0) (Nat.le_refl _)
  have h2 := h.2 (2 * q0 + 1) (by omega)
  rw [dbl] at h1
  rw [dbl1] at h2
  refine ⟨h1.part (Nat.le_refl _) (by omega), h2.part (Nat.le_refl _) (by omega)⟩
theorem MidB.step {s q0 : Nat} (h : MidB cf L n s q0) (hm : Moved L L' (q0 * (2 * s)) (q0 * (2 * s) + 2 * s)) (ha : Asc cf L' (q0 * (2 * s)) (q0 * (2 * s) + 2 * s)) : MidB cf L' n s (q0 + 1) := by
  refine ⟨fun q hq => ?_, fun q hq => (h.2 q (by omega)).same fun k h1 h2 => hm.out k (.inr ?_)⟩
  · rcases Nat.lt_or_ge q q0 with c | c
    · have := mul_step (t := 2 * s) c
      exact (h.1 q c).same fun k h1 h2 => hm.out k (.inl (by omega))
    · obtain rfl : q = q0 := by omega
      exact ha
  · have : 2 * (q0 + 1) * s ≤ q * s := Nat.mul_le_mul_right _ hq
    rw [dbl, Nat.succ_mul] at this
    omega
theorem MidB.done {s q0 : Nat} (h : MidB cf L n s q0) (hn : n < q0 * (2 * s) + 2 * s) (hm : Moved L L' (q0 * (2 * s)) n) (ha : Asc cf L' (q0 * (2 * s)) n) : Blocks cf L' n (2 * s) := fun q => by
  rcases Nat.lt_or_ge q q0 with c | c
  · have := mul_step (t := 2 * s) c
    exact ((h.1 q c).part (Nat.le_refl _) (Nat.min_le_left _ _)).same fun k h1 h2 => hm.out k (by omega)
  · rcases Nat.lt_or_ge q0 q with c2 | c2
    · have := mul_step (t := 2 * s) c2
      exact Asc.one (by omega)
    · obtain rfl : q = q0 := by omega
      exact ha.part (Nat.le_refl _) (Nat.min_le_right _ _)
theorem MidB.rest {s q0 : Nat} (h : MidB cf L n s q0) (hn : n ≤ q0 * (2 * s) + s) : Asc cf L (q0 * (2 * s)) n := by
  have h1 := h.2 (2 * q0) (Nat.le_refl _)
  rw [dbl] at h1
  exact h1.part (Nat.le_refl _) (by omega)
def FirstB (cf : α → α → Int) (L : List α) (s q0 : Nat) : Prop := ∀ q, q < q0 → Asc cf L (q * s) (q * s + s)
theorem FirstB.step {s q0 : Nat} (h : FirstB cf L s q0) (hm : Moved L L' (q0 * s) (q0 * s + s)) (ha : Asc cf L' (q0 * s) (q0 * s + s)) : FirstB cf L' s (q0 + 1) := fun q hq => by
  rcases Nat.lt_or_ge q q0 with c | c
  · have := mul_step (t := s) c
    exact (h q c).same fun k h1 h2 => hm.out k (.inl (by omega))
  · obtain rfl : q = q0 := by omega
    exact ha
theorem FirstB.done {s q0 : Nat} (h : FirstB cf L s q0) (hn : n < q0 * s + s) (hm : Moved L L' (q0 * s) n) (ha : Asc cf L' (q0 * s) n) : Blocks cf L' n s := fun q => by
  rcases Nat.lt_or_ge q q0 with c | c
  · have := mul_step (t := s) c
    exact ((h q c).part (Nat.le_refl _) (Nat.min_le_left _ _)).same fun k h1 h2 => hm.out k (by omega)
  · rcases Nat.lt_or_ge q0 q with c2 | c2
    · have := mul_step (t := s) c2
      exact Asc.one (by omega)
    · obtain rfl : q = q0 := by omega
      exact ha.part (Nat.le_refl _) (Nat.min_le_right _ _)
theorem Blocks.all {s : Nat} (h : Blocks cf L n s) (hn : n ≤ s) : Asc cf L 0 n := by
  have := h 0
  rw [Nat.zero_mul] at this
  exact this.part (Nat.le_refl _) (by omega)
end
end Go.Proofs.Ytjpnaofoeeegeaa

/-
  Regions that draw their order and hold one store among the first operations: the loads come before it, the others do not look at memory.
  No conditions beyond those that each rule states.
-/
namespace Go.Proofs.Ytjpnaofoeeegeaa
open Go.RowKit

def isStore (o : Oper) : Bool := match o.op with
  | .store _ _ _ => true
  | _ => false
def isLoad (o : Oper) : Bool := match o.op with
  | .load _ _ => true
  | _ => false
section
variable {P : Program} {md : Region.Mode} {ops : Array Oper}
/-- What the operations do: the store leaves a world of which R is known; loads yield the same in every world that has grown from w0, the others in every world. -/
def storeY (P : Program) (w0 : World) (R : World → Prop) (o : Oper) (a : Act) (v : Value) : Prop :=
  if isStore o then v = undef ∧ ∀ w', Ext w0 w' → ∃ w'', (execOp a.eval o).run P w' = .ok .skip w'' ∧ R w'' else if isLoad o then yW P w0 o a v else ∀ w', o.quietAt P a (Ext w') w' v
theorem same_storeY (P : Program) (w0 : World) (R : World → Prop) : Same (storeY P w0 R) := fun o a a' v he h => by
  unfold storeY at *
  split at h
  · rename_i hd
    rw [if_pos hd]
    refine ⟨h.1, fun w' hw' => ?_⟩
    rw [he]; exact h.2 w' hw'
  · rename_i hd
    rw [if_neg hd]
    split at h
    · rename_i hl
      rw [if_pos hl]
      exact same_yW P w0 o a a' v he h
    · rename_i hl
      rw [if_neg hl]
      intro w'
      have := h w'
      unfold Oper.quietAt at *
      rwa [he]
theorem store_any {n s i0 : Nat} {Q1 : Act → Prop} {Q : Exit → Act → World → Prop} {w0 : World} {R : World → Prop} {pre : Array Oper} (hR : ∀ w w', Ext w w' → R w → R w') (hn : n ≤ ops.size) (hP : ∀ i o, i < n → ops[i]? = some o → pre[i]? = some o)
    (hA : ∀ i, n ≤ i → i < ops.size → ∀ j, j < n → reach ops md 9 i j = true)
    (hE : ∀ i o, ops[i]? = some o → i < n → ∀ e ∈ o.after, Region.binds md e = true → e.on < i)
    (hG : ∀ i o, ops[i]? = some o → i < n → o.guard = none) (h0 : i0 < n)
    (hS : ∀ i o, ops[i]? = some o → i < n → (isStore o = true ↔ i = i0)) (hS0 : ∀ o, ops[i0]? = some o → o.dst = none)
    (hLd : ∀ i o, ops[i]? = some o → i < n → isLoad o = true → reach ops md 9 i0 i = true)
    (last : ∀ a w, R w → Q1 a → wpAny P md ops Q s (upto ops.size n) a w) :
    ∀ (f : Nat) (L L' : Array Bool) (a : Act) (w : World), (L[i0]? = some false → Ext w0 w) → (L[i0]? = some true → R w) → L'.size = n → L.size = ops.size → (∀ j, j < n → L[j]? = L'[j]?) → (∀ j, n ≤ j → j < ops.size → L[j]? = some false) → cnt n L' = f →
      Closed ops md L → anyY md pre (storeY P w0 R) Q1 f L' a → wpAny P md ops Q (f + s) L a w := by
  intro f
  induction f with
  | zero =>
    intro L L' a w _ hX hs' hs h1 h2 hc hcl h
    have hlist : ∀ j, j < n → L[j]? = some true := fun j hj => by
      rw [h1 j hj]
      have := List.countP_eq_zero.1 hc j (List.mem_range.2 hj)
      have hlt : j < L'.size := by omega
      simp [hlt] at this
      simp [hlt, this]
    have hL : L = upto ops.size n := by
      refine Array.ext_getElem? fun j => ?_
      rcases Nat.lt_or_ge j ops.size with hj | hj
      · rw [upto_get _ _ _ hj]
        rcases Nat.lt_or_ge j n with hjn | hjn
        · rw [hlist j hjn]; simp [hjn]
        · rw [h2 j hjn hj]; simp; omega
      · rw [Array.getElem?_eq_none (by omega), Array.getElem?_eq_none (by rw [upto_size]; omega)]
    rw [Nat.zero_add]
    have hr := hX (hlist i0 h0)
    rw [hL]
    exact last a w hr h.2
  | succ f ih =>
    intro L L' a w hE0 hX hs' hs h1 h2 hc hcl h
    rw [Nat.succ_add]
    have un : ∃ j, j < n ∧ L'[j]? = some false ∧ ∀ k, k < j → L'[k]? = some true := by
      have hpos : 0 < cnt n L' := by omega
      obtain ⟨j, hj, hjf⟩ := List.countP_pos_iff.1 hpos
      have hjn := List.mem_range.1 hj
      have hjl : j < L'.size := by omega
      have hjf' : L'[j]? = some false := by simp [hjl] at hjf ⊢; exact hjf
      clear hj hjf hjl
      induction j using Nat.strongRecOn with
      | ind j ihj =>
        by_cases hall : ∀ k, k < j → L'[k]? = some true
        · exact ⟨j, hjn, hjf', hall⟩
        · obtain ⟨k, hk⟩ := Classical.not_forall.1 hall
          obtain ⟨hkj, hk⟩ := Classical.not_imp.1 hk
          have hkl : k < L'.size := by omega
          refine ihj k hkj (by omega) ?_
          rw [Array.getElem?_eq_getElem hkl] at hk ⊢
          cases hb : L'[k] with
          | true => rw [hb] at hk; exact absurd rfl hk
          | false => rfl
    obtain ⟨j0, hj0, hjf, hbelow⟩ := un
    have on_lt : ∀ {i : Nat} {o : Oper} {e : Edge}, ops[i]? = some o → i < n → e ∈ o.after → Region.binds md e = true → L.getD e.on false = L'.getD e.on false := fun ho hi he hb => by
      have h4 := hE _ _ ho hi _ he hb
      rename_i i1 o1 e1
      have h3 := h1 e1.on (by omega)
      rw [Array.getD_eq_getD_getElem?, Array.getD_eq_getD_getElem?, h3]
    have lt_n : ∀ i, i ∈ Region.ready md ops L → i < n := fun i hi => by
      obtain ⟨_, o, ho, hall⟩ := mem_ready.1 hi
      rcases Nat.lt_or_ge i n with h3 | h3
      · exact h3
      · have hlt : i < ops.size := by
          rcases Nat.lt_or_ge i ops.size with h' | h'
          · exact h'
          · rw [Array.getElem?_eq_none h'] at ho; cases ho
        have := reach_listed hcl 9 i j0 (fun o' ho' => by obtain rfl := Option.some.inj (ho.symm.trans ho'); exact hall) (hA i h3 hlt j0 hj0)
        rw [getD_of ((h1 j0 hj0).trans hjf)] at this
        cases this
    refine ⟨fun hr => ?_, fun i hi => ?_⟩
    · exfalso
      have hmem : j0 ∈ Region.ready md ops L := by
        have hlt : j0 < ops.size := by omega
        refine mem_ready.2 ⟨getD_of ((h1 j0 hj0).trans hjf) _, ops[j0], Array.getElem?_eq_getElem hlt, fun e he hb => ?_⟩
        have hlt' := hE j0 _ (Array.getElem?_eq_getElem hlt) hj0 e he hb
        exact getD_of ((h1 _ (by omega)).trans (hbelow _ hlt')) _
      rw [hr] at hmem; cases hmem
    · have hin' := lt_n i hi
      have hcl' := hcl.set hi
      obtain ⟨hun, o, ho, hall⟩ := mem_ready.1 hi
      have hpo : pre[i]? = some o := hP i o hin' ho
      have hun' : L'.getD i true = false := by
        have := h1 i hin'
        simp only [Array.getD_eq_getD_getElem?, ← this] at hun ⊢; exact hun
      have hi' : i ∈ Region.ready md pre L' := mem_ready.2 ⟨hun', o, hpo, fun e he hb => by rw [← on_lt ho hin' he hb]; exact hall e he hb⟩
      have hq := (stepY_iff hpo).1 (h.2 i hi')
      obtain ⟨v, hv, hK⟩ := hq
      have hset : ∀ j, j < n → (L.setIfInBounds i true)[j]? = (L'.setIfInBounds i true)[j]? := fun j hj => by
        by_cases e : i = j
        · subst e
          have hl1 : i < L.size := by omega
          have hl2 : i < L'.size := by omega
          simp [hl1, hl2]
        · rw [Array.getElem?_setIfInBounds_ne e, Array.getElem?_setIfInBounds_ne e]; exact h1 j hj
      have hset2 : ∀ j, n ≤ j → j < ops.size → (L.setIfInBounds i true)[j]? = some false := fun j hj hjs => by
        rw [Array.getElem?_setIfInBounds_ne (by omega)]; exact h2 j hj hjs
      have hc' : cnt n (L'.setIfInBounds i true) = f := by have := cnt_set n L' i hin' hun'; omega
      have hgn := hG i o ho hin'
      have hwt : ∀ y, Region.wanted o y = true := fun y => by unfold Region.wanted; rw [hgn]
      have hL0 : i0 < L.size := by omega
      unfold wpOp
      simp only [ho]
      rw [if_pos (hwt _)]
      rcases hv with ⟨_, hy⟩ | ⟨hwn, _⟩
      · unfold storeY at hy
        by_cases hii : i = i0
        · subst hii
          rw [if_pos ((hS i o ho hin').2 rfl)] at hy
          obtain ⟨rfl, hl⟩ := hy
          have hLf : L[i]? = some false := by
            rw [Array.getElem?_eq_getElem hL0]
            have : L[i] = false := by simpa [hL0] using hun
            rw [this]
          obtain ⟨w'', hrun, hRw⟩ := hl w (hE0 hLf)
          refine .inl ?_
          unfold Oper.wp
          rw [hrun]
          show wpAny P md ops Q (f + s) (L.setIfInBounds i true) (a.put o.dst undef) w''
          have hnew : (L.setIfInBounds i true)[i]? = some true := by simp [hL0]
          exact ih _ _ _ w'' (fun h3 => by rw [hnew] at h3; cases h3) (fun _ => hRw) (by simpa using hs') (by simpa using hs) hset hset2 hc' hcl' hK
        · rw [if_neg (fun h3 => hii ((hS i o ho hin').1 h3))] at hy
          have hsame : (L.setIfInBounds i true)[i0]? = L[i0]? := Array.getElem?_setIfInBounds_ne hii
          have hq1 : o.quietAt P a (Ext w) w v := by
            split at hy
            · rename_i hld
              refine hy w (hE0 ?_)
              cases hb : L[i0] with
              | false => rw [Array.getElem?_eq_getElem hL0, hb]
              | true =>
                have hlt : i0 < ops.size := by omega
                have := reach_listed hcl 9 i0 i (fun o' ho' e he hb' => hcl i0 o' (by simp [hL0, hb]) ho' e he hb') (hLd i o ho hin' hld)
                have hi2 : i < L.size := by omega
                simp [hi2] at this hun
                rw [this] at hun; cases hun
            · exact hy w
          have hq2 : ∀ w1, Ext w w1 → o.quietAt P a (Ext w1) w1 v := fun w1 hw1 => by
            split at hy
            · rename_i hld
              refine hy w1 ((hE0 ?_).trans hw1)
              cases hb : L[i0] with
              | false => rw [Array.getElem?_eq_getElem hL0, hb]
              | true =>
                have hlt : i0 < ops.size := by omega
                have := reach_listed hcl 9 i0 i (fun o' ho' e he hb' => hcl i0 o' (by simp [hL0, hb]) ho' e he hb') (hLd i o ho hin' hld)
                have hi2 : i < L.size := by omega
                simp [hi2] at this hun
                rw [this] at hun; cases hun
            · exact hy w1
          refine .inl (Oper.wp_of_quiet (C := fun w'' => Ext w w'') (K := fun x => x = a.put o.dst v) (Ext.refl w) (fun a1 w1 hw1 e => ?_) ?_)
          · subst e
            exact ih _ _ _ w1 (fun h3 => (hE0 (hsame ▸ h3)).trans hw1) (fun h3 => hR _ _ hw1 (hX (hsame ▸ h3))) (by simpa using hs') (by simpa using hs) hset hset2 hc' hcl' hK
          · refine ⟨v, fun w1 hw1 => ?_, rfl⟩
            have hq1 := hq2 w1 hw1
            unfold Oper.quietAt at hq1 ⊢
            generalize (execOp a.eval o).run P w1 = r at *
            cases r with
            | ok nx w2 =>
              cases nx <;> simp only [Oper.quietUpon] at hq1 ⊢ <;> first | exact hq1 | exact ⟨hq1.1, hq1.2.mono fun e w3 h3 => ⟨h3.1, hw1.trans h3.2⟩⟩
            | halt x w2 => simp only [Oper.quietUpon] at hq1
      · rw [hwt] at hwn; cases hwn

/-! ### The test -/
def storeB (ops : Array Oper) (n i0 : Nat) : Bool :=
  Nat.ble n ops.size && Region.noSelect ops && Region.lexB .any (ops.toList.take n).toArray && Nat.ble (i0 + 1) n &&
  (List.range ops.size).all (fun i => match ops[i]? with
    | none => true
    | some o => if Nat.ble (i + 1) n then (o.after.all fun e => !Region.binds .any e || Nat.ble (e.on + 1) i) && o.guard.isNone && (isStore o == Nat.beq i i0) && (!isStore o || o.dst.isNone) && (!isLoad o || reach ops .any 9 i0 i)
      else (List.range n).all fun j => reach ops .any 9 i j) &&
  (List.range ops.size).all (fun k => Nat.ble (k + 1) n || (match Region.ready .any ops (upto ops.size k) with
    | [k'] => Nat.beq k' k
    | _ => false)) &&
  (Region.ready .any ops (upto ops.size ops.size)).isEmpty
theorem wp_store {ro : Option Nat} {l : List Oper} {n i0 id : Nat} {Q1 : Act → Prop} {Q : Exit → Act → World → Prop} {w0 w : World} {a : Act} {R : World → Prop} (hR : ∀ w w', Ext w w' → R w → R w') (hnd : NoDef ro l) (hQ : ¬LetsOut Q) (hm : P.follows .mixedOrders = true) (hB : storeB l.toArray n i0 = true) (hw : Ext w0 w)
    (h : listY (l.take n).toArray (storeY P w0 R) Q1 (l.take n) a)
    (last : ∀ a w, R w → Q1 a → wpList P l.toArray Q (l.drop n) a w) :
    WpR ro P (.region id l.toArray true) Q a w := by
  simp only [storeB, Bool.and_eq_true] at hB
  obtain ⟨⟨⟨⟨⟨⟨b1, b0⟩, b2⟩, bi⟩, b3⟩, b4⟩, b5⟩ := hB
  have hn : n ≤ l.toArray.size := Nat.le_of_ble_eq_true b1
  have hnl : n ≤ l.length := by simpa using hn
  have at3 : ∀ i o, l.toArray[i]? = some o → _ := fun i o ho => by
    have hlt : i < l.toArray.size := by
      rcases Nat.lt_or_ge i l.toArray.size with h' | h'
      · exact h'
      · rw [Array.getElem?_eq_none h'] at ho; cases ho
    have := List.all_eq_true.1 b3 i (List.mem_range.2 hlt)
    simp only [ho] at this
    exact this
  have pre3 : ∀ i o, l.toArray[i]? = some o → i < n → _ := fun i o ho hi => by
    have := at3 i o ho
    rw [if_pos (Nat.ble_eq_true_of_le hi)] at this
    simp only [Bool.and_eq_true] at this
    exact this
  have hP : ∀ i o, i < n → l.toArray[i]? = some o → (l.take n).toArray[i]? = some o := fun i o hi ho => by
    have : l[i]? = some o := by simpa using ho
    simp [hi, this]
  have hE : ∀ i o, l.toArray[i]? = some o → i < n → ∀ e ∈ o.after, Region.binds .any e = true → e.on < i := fun i o ho hi e he hb => by
    have := Array.all_eq_true_iff_forall_mem.1 (pre3 i o ho hi).1.1.1.1 e he
    rw [hb, Bool.not_true, Bool.false_or] at this
    exact Nat.le_of_ble_eq_true this
  have hG : ∀ i o, l.toArray[i]? = some o → i < n → o.guard = none := fun i o ho hi => by
    have := (pre3 i o ho hi).1.1.1.2
    simpa using this
  have hS : ∀ i o, l.toArray[i]? = some o → i < n → (isStore o = true ↔ i = i0) := fun i o ho hi => by
    have := (pre3 i o ho hi).1.1.2
    have e : isStore o = Nat.beq i i0 := by simpa using this
    rw [e]; exact ⟨Nat.eq_of_beq_eq_true, fun h => by subst h; exact Nat.beq_refl _⟩
  have h0 : i0 < n := Nat.le_of_ble_eq_true bi
  have hS0 : ∀ o, l.toArray[i0]? = some o → o.dst = none := fun o ho => by
    have := (pre3 i0 o ho h0).1.2
    rw [(hS i0 o ho h0).2 rfl] at this
    simpa using this
  have hLd : ∀ i o, l.toArray[i]? = some o → i < n → isLoad o = true → reach l.toArray .any 9 i0 i = true := fun i o ho hi hl => by
    have := (pre3 i o ho hi).2
    rw [hl] at this
    simpa using this
  have hA : ∀ i, n ≤ i → i < l.toArray.size → ∀ j, j < n → reach l.toArray .any 9 i j = true := fun i hi his j hj => by
    have := at3 i _ (Array.getElem?_eq_getElem his)
    rw [if_neg (fun hb => by have := Nat.le_of_ble_eq_true hb; omega)] at this
    exact List.all_eq_true.1 this j (List.mem_range.2 hj)
  have hr : ∀ k, n ≤ k → k < l.toArray.size → Region.ready .any l.toArray (upto l.toArray.size k) = [k] := fun k hk hks => by
    have := List.all_eq_true.1 b4 k (List.mem_range.2 hks)
    simp only [Bool.or_eq_true] at this
    rcases this with h' | h'
    · have := Nat.le_of_ble_eq_true h'; omega
    · split at h'
      · rename_i k' he
        rw [he, Nat.eq_of_beq_eq_true h']
      · cases h'
  have he : Region.ready .any l.toArray (upto l.toArray.size l.toArray.size) = [] := by simpa using b5
  simp only [Region.lexB, Bool.and_eq_true] at b2
  have hdl : (l.drop n).length = l.toArray.size - n := by simp
  have hlen : (l.take n).length = n := by simp; omega
  refine wpR_region_any (by simpa using hnd) hQ hm ?_
  have quiet := anyY_lex (md := .any) (same_storeY P w0 R) b2.1 (l.take n) 0 (Array.replicate (l.take n).toArray.size false) a (by simp) (by simpa using b2.2) h
  have key := store_any (P := P) (md := .any) (ops := l.toArray) (pre := (l.take n).toArray) (n := n) (s := (l.drop n).length) (i0 := i0) (Q := Q) (Q1 := Q1) (w0 := w0) (R := R)
    hR hn hP hA hE hG h0 hS hS0 hLd
    (fun a1 w1 hw1 q1 => one_any hr he (l.drop n) n (Nat.le_refl _) (by rw [hdl]; omega) (fun j => by simp) a1 w1
      (last a1 w1 hw1 q1))
  have hcnt : cnt n (Array.replicate (l.take n).toArray.size false) = (l.take n).length := by
    unfold cnt
    rw [List.countP_eq_length.2]
    · rw [hlen]; simp
    · intro j hj
      have := List.mem_range.1 hj
      have h2 : j < (l.take n).toArray.size := by simp; omega
      simp only [Array.getD_eq_getD_getElem?, Array.getElem?_replicate]
      rw [if_pos h2]; rfl
  have hsame : ∀ j, j < n → (Array.replicate l.toArray.size false)[j]? = (Array.replicate (l.take n).toArray.size false)[j]? := fun j hj => by
    have h1 : j < l.length := by omega
    have h2 : j < (l.take n).length := by omega
    simp only [Array.getElem?_replicate]
    rw [if_pos (by simpa using h1), if_pos (by simpa using h2)]
  have hclosed : Closed l.toArray .any (Array.replicate l.toArray.size false) := fun (k : Nat) o hk => by
    simp only [Array.getD_eq_getD_getElem?, Array.getElem?_replicate] at hk
    split at hk <;> simp at hk
  have e : (l.take n).length + (l.drop n).length = l.toArray.size := by rw [hlen, hdl]; omega
  have := key (l.take n).length (Array.replicate l.toArray.size false) (Array.replicate (l.take n).toArray.size false) a { w with drawn := w.drawn + 1 } (fun _ => hw.draw) (fun h3 => by
    simp only [Array.getElem?_replicate] at h3
    split at h3 <;> simp at h3) (by simp; omega) (by simp)
    hsame (fun j _ hj => by simp only [Array.getElem?_replicate]; rw [if_pos hj]) hcnt hclosed quiet
  rwa [e] at this
end

section
variable {P : Program} {N : Fr} {m : Env} {w : World}
/-- Operations without guards: loads, which yield the same in every world that has grown from w, and others, which yield the same in every world; K is known of the frame behind them. -/
def YsS (P : Program) (N : Fr) (w : World) (K : Env → Prop) : List Oper → Env → Prop
  | [], m => K m
  | o :: r, m => ∃ d v, o.dst = some d ∧ Nat.ble (d + 1) N.n = true ∧ o.guard = none ∧ isStore o = false ∧ (if isLoad o then Yl P N m w o v else ∀ w', Yl P N m w' o v) ∧ YsS P N w K r ((d, v) :: m)
theorem YsS.nil {K : Env → Prop} {l : List Oper} (hl : l = []) (h : K m) : YsS P N w K l m := by subst hl; exact h
theorem YsS.pure {K : Env → Prop} {o : Oper} {r : List Oper} {d : Nat} {v : Value} (h1 : o.dst = some d) (h2 : Nat.ble (d + 1) N.n = true) (h4 : o.guard = none) (h3 : isStore o = false) (hl : isLoad o = false) (h5 : ∀ w', Yl P N m w' o v) (h6 : YsS P N w K r ((d, v) :: m)) : YsS P N w K (o :: r) m :=
  ⟨d, v, h1, h2, h4, h3, by rw [hl]; exact h5, h6⟩
theorem YsS.load {K : Env → Prop} {o : Oper} {r : List Oper} {d : Nat} {v : Value} (h1 : o.dst = some d) (h2 : Nat.ble (d + 1) N.n = true) (h4 : o.guard = none) (h3 : isStore o = false) (hl : isLoad o = true) (h5 : Yl P N m w o v) (h6 : YsS P N w K r ((d, v) :: m)) : YsS P N w K (o :: r) m :=
  ⟨d, v, h1, h2, h4, h3, by rw [hl]; exact h5, h6⟩
theorem listY_yss {ops : Array Oper} {Q : Act → Prop} {R : World → Prop} {K : Env → Prop} (hQ : ∀ M a, K M → Agree N M a → Q a) : ∀ (l : List Oper) (m : Env) (a : Act), YsS P N w K l m → Agree N m a → listY ops (storeY P w R) Q l a
  | [], m, a, h, ha => hQ m a h ha
  | o :: r, m, a, h, ha => by
    obtain ⟨d, v, h1, h2, h4, h3, h5, h6⟩ := h
    unfold listY
    rw [if_pos (by unfold Region.wanted; rw [h4])]
    refine ⟨v, ?_, ?_⟩
    · unfold storeY
      rw [h3, if_neg Bool.false_ne_true]
      split at h5
      · rename_i hl
        rw [if_pos hl]
        exact fun w1 hw1 => h5.out a w1 ha hw1
      · rename_i hl
        rw [if_neg hl]
        exact fun w1 => (h5 w1).out a w1 ha (Ext.refl _)
    · rw [h1]
      exact listY_yss hQ r _ _ h6 (ha.put (Nat.le_of_ble_eq_true h2) v)
/-- The store of a region: what it leaves, run alone. -/
theorem V_store (n i0 : Nat) {Q : Exit → Env → World → Prop} {id : Nat} {l : List Oper} {t : TypeId} {x y : Operand} {ty : TypeId} {pos : String} {after : Array Edge} {R : World → Prop}
    (hR : ∀ w w', Ext w w' → R w → R w') (hm : P.follows .mixedOrders = true) (ho : l.take n = l.take i0 ++ ⟨none, .store t x y, ty, pos, after, none⟩ :: (l.take n).drop (i0 + 1)) (hB : storeB l.toArray n i0 = true)
    (h : YsS P N w (fun M1 => (∀ a, Agree N M1 a → ∀ w', Ext w w' → ∃ w'', (execOp a.eval ⟨none, .store t x y, ty, pos, after, none⟩).run P w' = .ok .skip w'' ∧ R w'') ∧
      YsS P N w (fun M2 => ∀ w2, R w2 → Ops P N l.toArray false (fun m w => Q .normal m w) (l.drop n) M2 w2) ((l.take n).drop (i0 + 1)) M1) (l.take i0) m)
    (hnd : NoDef N.ro l := by first | exact .inl rfl | exact .inr (by kernel_rfl)) :
    V P N (.region id l.toArray true) Q m w := by
  refine ⟨fun a w' ha hw => wpR_mono (Q := fun e a w => e = .normal ∧ lift N Q .normal a w) (fun e a w ⟨h1, h2⟩ => by rw [h1]; exact h2) ?_⟩
  refine wp_store (w0 := w) (R := R) hR hnd noLet hm hB hw (Q1 := fun a' => ∃ M2, (∀ w2, R w2 → Ops P N l.toArray false (fun m w => Q .normal m w) (l.drop n) M2 w2) ∧ Agree N M2 a') ?_ ?_
  · generalize hL : (l.take n).toArray = A
    rw [ho]
    refine listY_append _ _ _ (listY_yss (fun M1 a1 ⟨hst, h2⟩ ag1 => ?_) _ _ _ h ha)
    unfold listY
    rw [if_pos (by unfold Region.wanted; rfl)]
    refine ⟨undef, ?_, ?_⟩
    · unfold storeY
      rw [if_pos (show isStore _ = true from rfl)]
      exact ⟨rfl, hst a1 ag1⟩
    · exact listY_yss (fun M2 _ h3 ag2 => ⟨M2, h3, ag2⟩) _ _ _ h2 (ag1.put_none _)
  · rintro a1 w1 hR1 ⟨M2, h, ag⟩
    have h5 := (h w1 hR1).out a1 w1 ag (Ext.refl _)
    have mono : ∀ (l' : List Oper) (a : Act) (w0 : World), wpList P l.toArray (fun e a' w'' => e = .normal ∧ ∃ m' w1, Q .normal m' w1 ∧ Agree N m' a' ∧ Ext w1 w'') l' a w0 → wpList P l.toArray (fun e a w => e = .normal ∧ lift N Q .normal a w) l' a w0 := by
      intro l'
      induction l' with
      | nil => exact fun a w0 ⟨_, m', w1, q, ag, ex⟩ => ⟨rfl, m', w1, q, ag, ex⟩
      | cons o r ih =>
        intro a w0 h6
        unfold wpList at h6 ⊢
        split
        · rename_i hwn
          rw [if_pos hwn] at h6
          rcases h6 with h6 | h6
          · exact .inl (wp_normal (fun a1 w1 hh => ih a1 w1 hh) h6)
          · obtain ⟨_, _, _, h7, _⟩ := h6; cases h7
        · rename_i hwn
          rw [if_neg hwn] at h6
          exact ih _ _ h6
    exact mono _ _ _ h5
/-- A store, run by itself. -/
theorem store_run {t t0 : TypeId} {x y : Operand} {b o : Nat} {cs vs out : List Value} {v : Value} {n0 b0 : Nat} {ty : TypeId} {pos : String} {after : Array Edge} {g : Option (Nat × Bool)} [hs : TSize P t n0 b0]
    (hx : ev m x = some (.pointer (some ⟨b, o, none⟩))) (hy : ev m y = some v) (hB : Blk w b t0 cs) [hv : TCells v vs] [hl : TLen vs n0] [hp : TSplice o vs cs out] (h1 : vs.all (fun u => u.oneCell') = true)
    (a : Act) (ha : Agree N m a) (w' : World) (hw : Ext w w') : ∃ w'', (execOp a.eval ⟨none, .store t x y, ty, pos, after, g⟩).run P w' = .ok .skip w'' ∧ ∃ w1, Upd w w1 b t0 out ∧ Ext w1 w'' := by
  obtain ⟨inf, hi, hsz⟩ := Option.map_eq_some_iff.1 hs.h
  simp only [Prod.mk.injEq] at hsz
  have hlen := hl.h
  have ho := hp.len
  have hst := run_storeCells_at P b o t0 vs 0 cs.toArray w' (hB.ext hw) (by simpa using ho) (List.all_eq_true.1 h1)
  simp only [Nat.add_zero] at hst
  have e : out = splice cs o vs := by rw [← hp.h]; exact over_splice _ _ _ ho
  refine ⟨w'.setRow b out.toArray, ?_, w.setRow b out.toArray, Upd.of hB, ext_setRow hw _⟩
  rw [e]
  simp only [execOp, ha.ev hx, ha.ev hy, Instr.storeAt, Instr.sureAddr, storeVar, sizeOf, typeInfo]
  simp [hi, hsz.1, hv.h, hlen, hst, splice]
/-- A store of a whole element of a slice of one's own, run by itself. -/
theorem storeElem_run {t e : TypeId} {x y : Operand} {base b0 n0 g cap i : Nat} {p : Addr} {v : Value} {u : List Value} {L : List (List Value)} {ty : TypeId} {pos : String} {after : Array Edge} {gd : Option (Nat × Bool)} [hs : TSize P t n0 b0]
    (hx : ev m x = some (.pointer (some p))) (hy : ev m y = some v) (hp : p = ⟨g, i * n0, none⟩) (hown : Own w base e n0 (.slice (some ⟨g, 0, none⟩) L.length cap) L) (hi : i < L.length) [hu : TCells v u] [hl : TLen u n0] (h1 : u.all (fun u => u.oneCell') = true)
    (a : Act) (ha : Agree N m a) (w' : World) (hw : Ext w w') : ∃ w'', (execOp a.eval ⟨none, .store t x y, ty, pos, after, gd⟩).run P w' = .ok .skip w'' ∧ Own w'' base e n0 (.slice (some ⟨g, 0, none⟩) L.length cap) (L.set i u) ∧ Mod (fun c => c = g) w w'' := by
  subst hp
  obtain ⟨hlen, ⟨h2, _⟩ | ⟨g', cap', cur, h2, h3, h4, h5, h6, h7, h8⟩⟩ := hown.row
  · cases h2
  cases h2
  have hB : Blk w g e cur.toList := by unfold Blk; simpa using h4
  have ho : i * n0 + n0 ≤ L.length * n0 := by
    have : (i + 1) * n0 ≤ L.length * n0 := Nat.mul_le_mul_right _ hi
    rw [Nat.succ_mul] at this; omega
  have hc : cur.toList.length = cap * n0 := by simpa using h7
  have hlc : L.length * n0 ≤ cap * n0 := Nat.mul_le_mul_right _ h5
  have hul := hl.h
  have : TSplice (i * n0) u cur.toList (splice cur.toList (i * n0) u) := ⟨over_splice _ _ _ (by omega), by omega⟩
  have hsl : (splice cur.toList (i * n0) u).length = cur.toList.length := by unfold splice; simp only [List.length_append, List.length_take, List.length_drop]; omega
  obtain ⟨w2, hr, w1, hu1, he⟩ := store_run (P := P) (N := N) (t := t) (ty := ty) (pos := pos) (after := after) (g := gd) (vs := u) hx hy hB h1 a ha w' hw
  refine ⟨w2, hr, Own.ext ⟨⟨?_, .inr ⟨g, cap, _, by rw [List.length_set], h3, hu1.blk, ?_, h6, ?_, ?_⟩⟩, ?_⟩ he, ((Mod.of_ext (S := fun c => c = g) (Ext.refl _)).upd hu1 (.inl rfl)).ext he⟩
  · rw [flatten_set_all hul L i hown.len hi, List.length_set]
    unfold splice; simp only [List.length_append, List.length_take, List.length_drop]; omega
  · rw [List.length_set]; exact h5
  · rw [← hc, ← hsl]; simp
  · rw [flatten_set_all hul L i hown.len hi, List.length_set, ← h8]
    unfold splice
    have e1 : (List.take (i * n0) cur.toList ++ u).length = i * n0 + n0 := by simp; omega
    rw [List.take_append, e1, List.take_of_length_le (by omega), List.take_take, Nat.min_eq_left (by omega), List.drop_take, hul]
  · intro z hz
    rcases List.mem_or_eq_of_mem_set hz with hz | rfl
    · exact hown.len z hz
    · exact hul
/-- One less, for a number that is not 0. -/
theorem Yl_pred {t t' : TypeId} {x y : Operand} {p : Nat} {dst : Option Tmp} {ty : TypeId} {pos : String} {after : Array Edge} {g : Option (Nat × Bool)} (hx : ev m x = some (.int .i64 ((p + 1 : Nat) : Int))) (hy : ev m y = some (.int .i64 1)) (hk : p ≤ 4611686018427387904) :
    Yl P N m w ⟨dst, .binOp .sub t x y t', ty, pos, after, g⟩ (.int .i64 (p : Int)) := by
  have h := Yl_arith_in (P := P) (N := N) (w := w) (dst := dst) (ty := ty) (pos := pos) (after := after) (g := g) (op := .sub) (t := t) (t' := t') (c := ((p + 1 : Nat) : Int) - 1) hx hy rfl (by simp only [InK]; omega)
  have e : ((p + 1 : Nat) : Int) - 1 = (p : Int) := by omega
  rwa [e] at h
end
end Go.Proofs.Ytjpnaofoeeegeaa

/-
  Sorting words (slices.Sort at uint64): the list in memory; Less, insertionSort, reverseRange, siftDown, heapSort.
  Conditions: the list is one's own, and not too long for a machine.
-/
namespace Go.Proofs.Ytjpnaofoeeegeaa
open Go.RowKit

theorem Ret_w {v v' : Value} {w w1 : World} (hv : v' = v) (he : Ext w w1) : ∀ w', Ext w1 w' → Ret v w (.returned v') w' := fun _ h => ⟨by rw [hv], he.trans h⟩
def uc (x : Int) : List Value := [.int .u64 x]
/-- A list of words of one's own in memory, by its block. -/
structure DatU (w : World) (base g n cap : Nat) (L : List Int) : Prop where
  own : Own w base 53 1 (.slice (some ⟨g, 0, none⟩) n cap) (L.map uc)
  len : L.length = n
theorem DatU.ext {w w1 : World} {base g n cap : Nat} {L : List Int} (h : DatU w base g n cap L) (he : Ext w w1) : DatU w1 base g n cap L := ⟨h.own.ext he, h.len⟩
theorem DatU.at {w : World} {base g n cap : Nat} {L : List Int} (h : DatU w base g n cap L) {k : Nat} {x : Int} (hx : L[k]? = some x) : w.cell? ((⟨g, 0, none⟩ : Addr).add (k * 1)) = some (.int .u64 x) := by
  obtain ⟨ao, c, hv, hA⟩ := h.own.slice
  obtain ⟨ad, h1, h2⟩ := hA k (uc x) (by rw [List.getElem?_map, hx]; rfl)
  injection hv with e1 e2 e3
  rw [h1] at e1
  cases e1
  have := h2 0 _ rfl
  rw [add_add, Nat.add_zero] at this; exact this
theorem DatU.get {w : World} {base g n cap : Nat} {L : List Int} (h : DatU w base g n cap L) {k : Nat} (hk : k < n) : ∃ x, L[k]? = some x := ⟨_, List.getElem?_eq_getElem (by rw [h.len]; exact hk)⟩
section
variable {P : Program} {N : Fr} {ops : Array Oper} {K : Env → World → Prop} {m : Env} {w : World} {rest : List Oper} {ty : TypeId} {pos : String} {after : Array Edge} {gd : Option (Nat × Bool)}
theorem Ops_storeDatU {x y : Operand} {base b0 g n cap i : Nat} {p : Addr} {v : Int} {L : List Int} [hs : TSize P 53 1 b0] (hon : On N ops m ⟨none, .store 53 x y, ty, pos, after, gd⟩)
    (hx : ev m x = some (.pointer (some p))) (hy : ev m y = some (.int .u64 v)) (hp : p = (⟨g, 0, none⟩ : Addr).add (i * 1)) (hD : DatU w base g n cap L) (hi : i < n)
    (h : ∀ w1, DatU w1 base g n cap (L.set i v) → w.grownBy w1 (some g) → Ops P N ops false K rest m w1) : Ops P N ops false K (⟨none, .store 53 x y, ty, pos, after, gd⟩ :: rest) m w := by
  obtain ⟨o, hl⟩ := hD
  subst hl
  have hm : (L.map uc).length = L.length := List.length_map ..
  refine Ops_storeElem (i := i) (u := uc v) (hl := ⟨rfl⟩) (hu := ⟨rfl⟩) (L := L.map uc) (base := base) (g := g) (cap := cap) hon hx hy (by rw [hp, add_blk, Nat.zero_add]; rfl) (by rw [hm]; exact o) (by rw [hm]; exact hi) rfl (fun w1 o1 g1 => h w1 ⟨?_, List.length_set ..⟩ g1)
  rw [List.map_set]
  rw [hm] at o1; exact o1
theorem storeDatU_run {x y : Operand} {base b0 g n cap i : Nat} {p : Addr} {v : Int} {L : List Int} [hs : TSize P 53 1 b0] (hx : ev m x = some (.pointer (some p))) (hy : ev m y = some (.int .u64 v)) (hp : p = (⟨g, 0, none⟩ : Addr).add (i * 1)) (hD : DatU w base g n cap L) (hi : i < n)
    (a : Act) (ha : Agree N m a) (w' : World) (hw : Ext w w') : ∃ w'', (execOp a.eval ⟨none, .store 53 x y, ty, pos, after, gd⟩).run P w' = .ok .skip w'' ∧ DatU w'' base g n cap (L.set i v) ∧ Mod (fun c => c = g) w w'' := by
  obtain ⟨o, hl⟩ := hD
  subst hl
  have hm : (L.map uc).length = L.length := List.length_map ..
  obtain ⟨w2, h1, h2, h3⟩ := storeElem_run (P := P) (N := N) (t := 53) (ty := ty) (pos := pos) (after := after) (gd := gd) (i := i) (u := uc v) (hl := ⟨rfl⟩) (hu := ⟨rfl⟩) (L := L.map uc) (base := base) (g := g) (cap := cap) hx hy (by rw [hp, add_blk, Nat.zero_add]; rfl) (by rw [hm]; exact o) (by rw [hm]; exact hi) rfl a ha w' hw
  refine ⟨w2, h1, ⟨?_, List.length_set ..⟩, h3⟩
  rw [List.map_set]
  rw [hm] at h2; exact h2
end
/-- What a function that sorts leaves. -/
def DatV (base g n cap : Nat) (R : Value → List Int → Prop) (r : Value) (w' : World) : Prop := ∃ L', DatU w' base g n cap L' ∧ R r L'
abbrev BlkU (g : Nat) : Nat → Prop := fun c => c = g
abbrev ltU : Int → Int → Int := fun x y => x - y
theorem ordU : Ord ltU := ⟨fun x y h => by simp only [ltU] at *; omega, fun x y z h1 h2 => by simp only [ltU] at *; omega⟩
theorem nanU64_v (a : Int) (w : World) : Calls Try.prog 127 #[.int .u64 a] w (Ret (.bool false) w) := by
  refine V_enter (vs := [_]) Try.func127 rfl Try.ntmps127 (Nat.le_of_ble_eq_true rfl) ?_
  repeat (first | refine Vx ?_ | (apply Ops_q; (case hon => exact Va); (case hd => rfl); (case hq => exact YlA)) | refine Vr ?_ | refine Vt ?_ | refine Vf ?_ | refine Vm ?_ | refine Ve ?_ | refine Vo ?_ | refine Vz ?_ | refine Vn ?_)
  refine ret1 (by first | exact .inl rfl | exact .inr rfl) rfl rfl ?_
  exact Ret_w (by simp) (Ext.refl _)
theorem lessU_v (a b : Int) (w : World) : Calls Try.prog 116 #[.int .u64 a, .int .u64 b] w (Ret (.bool (decide (a < b))) w) := by
  refine V_enter (vs := [_, _]) Try.func116 rfl Try.ntmps116 (Nat.le_of_ble_eq_true rfl) ?_
  repeat (first | refine Vx ?_ | (apply Ops_q; (case hon => exact Va); (case hd => rfl); (case hq => exact YlA)) | refine Vr ?_ | refine Vt ?_ | refine Vf ?_ | refine Vm ?_ | refine Ve ?_ | refine Vo ?_ | refine Vz ?_ | refine Vn ?_)
  (apply Ops_q; (case hon => (exact Va)); (case hd => rfl); (case hq => exact Yl_call rfl (fun w_ e_ => nanU64_v a w_)))
  repeat (first | refine Vx ?_ | (apply Ops_q; (case hon => exact Va); (case hd => rfl); (case hq => exact YlA)) | refine Vr ?_ | refine Vt ?_ | refine Vf ?_ | refine Vm ?_ | refine Ve ?_ | refine Vo ?_ | refine Vz ?_ | refine Vn ?_)
  refine ret1 (by first | exact .inl rfl | exact .inr rfl) rfl rfl ?_
  exact Ret_w rfl (Ext.refl _)
section
variable {base g n cap : Nat}
set_option maxHeartbeats 1000000 in
theorem insertionU_v (L : List Int) (a b : Nat) (w : World) (hD : DatU w base g n cap L) (hn : n ≤ 1000000000000) (hb : b ≤ n) (ha : a ≤ n) :
    Calls Try.prog 110 #[.slice (some ⟨g, 0, none⟩) n cap, .int .i64 a, .int .i64 b] w
      (Does (BlkU g) (DatV base g n cap (fun r L' => r = .tuple #[] ∧ Moved L L' a b ∧ Asc ltU L' a b)) w) := by
  refine V_enter (vs := [_, _, _]) Try.func110 rfl Try.ntmps110 (Nat.le_of_ble_eq_true rfl) ?_
  repeat (first | refine Vx ?_ | (apply Ops_q; (case hon => exact Va); (case hd => rfl); (case hq => exact YlA)) | refine Vr ?_ | refine Vt ?_ | refine Vf ?_ | refine Vm ?_ | refine Ve ?_ | refine Vo ?_ | refine Vz ?_ | refine Vn ?_)
  refine V_loop (fun s : Nat × List Int => [(6, .int .i64 s.1), (0, .slice (some ⟨g, 0, none⟩) n cap), (1, .int .i64 a), (2, .int .i64 b)])
    (fun s w' => a + 1 ≤ s.1 ∧ (s.1 ≤ b ∨ s.1 = a + 1) ∧ Mod (BlkU g) w w' ∧ DatU w' base g n cap s.2 ∧ Moved L s.2 a b ∧ Asc ltU s.2 a s.1) (fun s => b - s.1) (a + 1, L) (by repeat (first | exact trivial | refine ⟨rfl, ?_⟩))
    ⟨Nat.le_refl _, .inr rfl, .of_ext (Ext.refl _), hD, Moved.refl .., Asc.one (Nat.le_refl _)⟩ ?_
  rintro ⟨i, M⟩ w3 ⟨h1, h2, m3, D3, hM, hA⟩
  dsimp only at h1 h2 D3 hM hA ⊢
  repeat (first | refine Vx ?_ | (apply Ops_q; (case hon => exact Va); (case hd => rfl); (case hq => exact YlA)) | refine Vr ?_ | refine Vt ?_ | refine Vf ?_ | refine Vm ?_ | refine Ve ?_ | refine Vo ?_ | refine Vz ?_ | refine Vn ?_)
  refine V_cond rfl (fun hg => ?_) (fun hg => ?_)
  · replace hg := of_decide_eq_true hg
    have hib : i < b := by omega
    repeat (first | refine Vx ?_ | (apply Ops_q; (case hon => exact Va); (case hd => rfl); (case hq => exact YlA)) | refine Vr ?_ | refine Vt ?_ | refine Vf ?_ | refine Vm ?_ | refine Ve ?_ | refine Vo ?_ | refine Vz ?_ | refine Vn ?_)
    refine V_loop (fun s : Nat × List Int => [(7, .int .i64 s.1), (6, .int .i64 i), (0, .slice (some ⟨g, 0, none⟩) n cap), (1, .int .i64 a), (2, .int .i64 b)])
      (fun s w' => a ≤ s.1 ∧ s.1 ≤ i ∧ Mod (BlkU g) w w' ∧ DatU w' base g n cap s.2 ∧ Moved L s.2 a b ∧ AscX ltU s.2 a (i + 1) s.1) (fun s => s.1) (i, M) (by repeat (first | exact trivial | refine ⟨rfl, ?_⟩))
      ⟨by dsimp only; omega, Nat.le_refl _, m3, D3, hM, AscX.start hA⟩ ?_
    clear m3 D3 hM hA
    rintro ⟨j, M⟩ w3 ⟨h3, h4, m3, D3, hM, hA⟩
    dsimp only at h3 h4 D3 hM hA ⊢
    have hMl := D3.len
    by_cases hj : a < j
    · obtain ⟨p, rfl⟩ : ∃ p, j = p + 1 := ⟨j - 1, by omega⟩
      have hd : decide ((a : Int) < ((p + 1 : Nat) : Int)) = true := decide_eq_true (by omega)
      have hs1 : ((p + 1 : Nat) : Int) - 1 = (p : Int) := by omega
      obtain ⟨x, hx⟩ := D3.get (k := p + 1) (by omega)
      obtain ⟨y, hy⟩ := D3.get (k := p) (by omega)
      have hcx := D3.at hx
      have hcy := D3.at hy
      repeat (first | refine Vx ?_ | (apply Ops_q; (case hon => exact Va); (case hd => rfl); (case hq => exact YlA)) | refine Vr ?_ | refine Vt ?_ | refine Vf ?_ | refine Vm ?_ | refine Ve ?_ | refine Vo ?_ | refine Vz ?_ | refine Vn ?_)
      refine Ops_know rfl rfl hd ?_
      repeat (first | refine Vx ?_ | (apply Ops_q; (case hon => exact Va); (case hd => rfl); (case hq => exact YlA)) | refine Vr ?_ | refine Vt ?_ | refine Vf ?_ | refine Vm ?_ | refine Ve ?_ | refine Vo ?_ | refine Vz ?_ | refine Vn ?_)
      (apply Ops_q; (case hon => (exact Va)); (case hd => rfl); (case hq => exact Yl_indexS (j := (p+1)) rfl rfl (by omega)))
      repeat (first | refine Vx ?_ | (apply Ops_q; (case hon => exact Va); (case hd => rfl); (case hq => exact YlA)) | refine Vr ?_ | refine Vt ?_ | refine Vf ?_ | refine Vm ?_ | refine Ve ?_ | refine Vo ?_ | refine Vz ?_ | refine Vn ?_)
      rw [hs1]
      (apply Ops_q; (case hon => (exact Va)); (case hd => rfl); (case hq => exact Yl_indexS (j := p) rfl rfl (by omega)))
      repeat (first | refine Vx ?_ | (apply Ops_q; (case hon => exact Va); (case hd => rfl); (case hq => exact YlA)) | refine Vr ?_ | refine Vt ?_ | refine Vf ?_ | refine Vm ?_ | refine Ve ?_ | refine Vo ?_ | refine Vz ?_ | refine Vn ?_)
      (apply Ops_q; (case hon => (exact Va)); (case hd => rfl); (case hq => exact Yl_call rfl (fun w_ e_ => lessU_v x y w_)))
      repeat (first | refine Vx ?_ | (apply Ops_q; (case hon => exact Va); (case hd => rfl); (case hq => exact YlA)) | refine Vr ?_ | refine Vt ?_ | refine Vf ?_ | refine Vm ?_ | refine Ve ?_ | refine Vo ?_ | refine Vz ?_ | refine Vn ?_)
      refine V_cond rfl (fun hlt => ?_) (fun hlt => ?_)
      · replace hlt : ltU x y < 0 := by have := of_decide_eq_true hlt; simp only [ltU]; omega
        repeat (first | refine Vx ?_ | (apply Ops_q; (case hon => exact Va); (case hd => rfl); (case hq => exact YlA)) | refine Vt ?_ | refine Vf ?_ | refine Vm ?_ | refine Ve ?_ | refine Vo ?_ | refine Vz ?_ | refine Vn ?_)
        refine V_store (R := fun w' => DatU w' base g n cap (M.set (p + 1) y) ∧ Mod (fun c => c = g) w3 w') 16 15 (fun _ _ he h => ⟨h.1.ext he, h.2.ext he⟩) (by kernel_rfl) rfl (by kernel_rfl) ?_
        repeat (first
          | (refine YsS.pure rfl rfl rfl rfl rfl (fun w_ => (by first | exact Yl_move rfl | exact Yl_pred rfl rfl (by omega) | exact Yl_arith_in rfl rfl rfl (by first | assumption | (simp only [InK]; omega)))) ?_)
          | (refine YsS.load rfl rfl rfl rfl rfl (by first | exact Yl_load rfl hcx | exact Yl_load rfl hcy) ?_))
        refine YsS.pure rfl rfl rfl rfl rfl (fun w_ => Yl_indexS (j := p) rfl rfl (by omega)) ?_
        repeat (first
          | (refine YsS.pure rfl rfl rfl rfl rfl (fun w_ => (by first | exact Yl_move rfl | exact Yl_pred rfl rfl (by omega) | exact Yl_arith_in rfl rfl rfl (by first | assumption | (simp only [InK]; omega)))) ?_)
          | (refine YsS.load rfl rfl rfl rfl rfl (by first | exact Yl_load rfl hcx | exact Yl_load rfl hcy) ?_))
        refine YsS.pure rfl rfl rfl rfl rfl (fun w_ => Yl_indexS (j := (p+1)) rfl rfl (by omega)) ?_
        repeat (first
          | (refine YsS.pure rfl rfl rfl rfl rfl (fun w_ => (by first | exact Yl_move rfl | exact Yl_pred rfl rfl (by omega) | exact Yl_arith_in rfl rfl rfl (by first | assumption | (simp only [InK]; omega)))) ?_)
          | (refine YsS.load rfl rfl rfl rfl rfl (by first | exact Yl_load rfl hcx | exact Yl_load rfl hcy) ?_))
        refine YsS.pure rfl rfl rfl rfl rfl (fun w_ => Yl_indexS (j := (p+1)) rfl rfl (by omega)) ?_
        refine YsS.nil rfl ⟨fun a_ ag_ w_ hw_ => storeDatU_run (i := p+1) (v := y) rfl rfl rfl D3 (by omega) a_ ag_ w_ hw_, ?_⟩
        repeat (first
          | (refine YsS.pure rfl rfl rfl rfl rfl (fun w_ => (by first | exact Yl_move rfl | exact Yl_pred rfl rfl (by omega) | exact Yl_arith_in rfl rfl rfl (by first | assumption | (simp only [InK]; omega)))) ?_)
          | (refine YsS.load rfl rfl rfl rfl rfl (by first | exact Yl_load rfl hcx | exact Yl_load rfl hcy) ?_))
        refine YsS.nil rfl ?_
        rintro w4 ⟨D4, m4⟩
        repeat (first | refine Vx ?_ | (apply Ops_q; (case hon => exact Va); (case hd => rfl); (case hq => exact YlA)) | refine Vr ?_ | refine Vt ?_ | refine Vf ?_ | refine Vm ?_ | refine Ve ?_ | refine Vo ?_ | refine Vz ?_ | refine Vn ?_)
        (apply Ops_q; (case hon => (exact Va)); (case hd => rfl); (case hq => exact Yl_indexS (j := (p)) rfl rfl (by omega)))
        repeat (first | refine Vx ?_ | (apply Ops_q; (case hon => exact Va); (case hd => rfl); (case hq => exact YlA)) | refine Vr ?_ | refine Vt ?_ | refine Vf ?_ | refine Vm ?_ | refine Ve ?_ | refine Vo ?_ | refine Vz ?_ | refine Vn ?_)
        refine Ops_storeDatU (i := p) (v := x) (by exact Va) rfl rfl rfl D4 (by omega) ?_
        intro w5 D5 g5
        have m5 : Mod (BlkU g) w w5 := (m3.trans m4).grow g5 (fun b hb => .inl (by cases hb; rfl))
        have hsw : (M.set (p+1) y).set (p) x = swp M (p+1) (p) := by unfold swp; rw [hx, hy]
        rw [hsw] at D5
        repeat (first | refine Vx ?_ | (apply Ops_q; (case hon => exact Va); (case hd => rfl); (case hq => exact YlA)) | refine Vr ?_ | refine Vt ?_ | refine Vf ?_ | refine Vm ?_ | refine Ve ?_ | refine Vo ?_ | refine Vz ?_ | refine Vn ?_)
        rw [hs1]
        refine ⟨(p, swp M (p + 1) p), (by repeat (first | exact trivial | refine ⟨rfl, ?_⟩)), ⟨by dsimp only; omega, by dsimp only; omega, m5, D5, hM.trans (Moved.swp (by omega) (by omega) (by omega)), hA.step ordU (by omega) (by omega) (by omega) hx hy hlt⟩, by simp only; omega⟩
      · replace hlt : ¬ltU x y < 0 := by have := of_decide_eq_false hlt; simp only [ltU]; omega
        repeat (first | refine Vx ?_ | (apply Ops_q; (case hon => exact Va); (case hd => rfl); (case hq => exact YlA)) | refine Vr ?_ | refine Vt ?_ | refine Vf ?_ | refine Vm ?_ | refine Ve ?_ | refine Vo ?_ | refine Vz ?_ | refine Vn ?_)
        refine ⟨(i + 1, M), (by repeat (first | exact trivial | refine ⟨rfl, ?_⟩)), ⟨by dsimp only; omega, .inl (by dsimp only; omega), m3, D3, hM, hA.stop ordU (.inr ⟨x, y, hx, hy, hlt⟩)⟩, by simp only; omega⟩
    · have hd : decide ((a : Int) < (j : Int)) = false := decide_eq_false (by omega)
      repeat (first | refine Vx ?_ | (apply Ops_q; (case hon => exact Va); (case hd => rfl); (case hq => exact YlA)) | refine Vr ?_ | refine Vt ?_ | refine Vf ?_ | refine Vm ?_ | refine Ve ?_ | refine Vo ?_ | refine Vz ?_ | refine Vn ?_)
      refine Ops_know rfl rfl hd ?_
      repeat (first | refine Vx ?_ | (apply Ops_q; (case hon => exact Va); (case hd => rfl); (case hq => exact YlA)) | refine Vr ?_ | refine Vt ?_ | refine Vf ?_ | refine Vm ?_ | refine Ve ?_ | refine Vo ?_ | refine Vz ?_ | refine Vn ?_)
      refine ⟨(i + 1, M), (by repeat (first | exact trivial | refine ⟨rfl, ?_⟩)), ⟨by dsimp only; omega, .inl (by dsimp only; omega), m3, D3, hM, hA.stop ordU (.inl (by omega))⟩, by simp only; omega⟩
  · replace hg := of_decide_eq_false hg
    repeat (first | refine Vx ?_ | (apply Ops_q; (case hon => exact Va); (case hd => rfl); (case hq => exact YlA)) | refine Vr ?_ | refine Vt ?_ | refine Vf ?_ | refine Vm ?_ | refine Ve ?_ | refine Vo ?_ | refine Vz ?_ | refine Vn ?_)
    refine ret0 (by first | exact .inl rfl | exact .inr rfl) rfl ?_
    refine Does_mk (fun w' he => ⟨M, D3.ext he, rfl, hM, ?_⟩) m3
    exact hA.part (Nat.le_refl _) (by omega)
end
end Go.Proofs.Ytjpnaofoeeegeaa

/-
  Sorting words (slices.Sort at uint64): order2, median, choosePivot, reverseRange.
  Conditions: the list is one's own, and not too long for a machine.
-/
namespace Go.Proofs.Ytjpnaofoeeegeaa
open Go.RowKit

section
variable {base g n cap : Nat}
/-- The count of swaps: a number in a block of its own. -/
def Swaps (w : World) (bs : Nat) (k : Int) : Prop := Blk w bs 3 [.int .i64 k] ∧ 0 ≤ k
/-- What a function that counts swaps leaves. -/
def SwR (bs : Nat) (k : Int) (R : Value → Prop) (r : Value) (w' : World) : Prop := R r ∧ ∃ k', Swaps w' bs k' ∧ k' ≤ k
theorem order2_v (L : List Int) (a b bs : Nat) (k : Int) (w : World) (hD : DatU w base g n cap L) (hs : Swaps w bs k) (hk : k ≤ 1000) (ha : a < n) (hb : b < n) :
    Calls Try.prog 128 #[.slice (some ⟨g, 0, none⟩) n cap, .int .i64 a, .int .i64 b, .pointer (some ⟨bs, 0, none⟩)] w
      (Does (fun c => c = bs) (SwR bs (k + 1) (fun r => r = .tuple #[.int .i64 a, .int .i64 b] ∨ r = .tuple #[.int .i64 b, .int .i64 a])) w) := by
  obtain ⟨kb, k0⟩ := hs
  obtain ⟨x, hx⟩ := hD.get ha
  obtain ⟨y, hy⟩ := hD.get hb
  have hcx := hD.at hx
  have hcy := hD.at hy
  refine V_enter (vs := [_, _, _, _]) Try.func128 rfl Try.ntmps128 (Nat.le_of_ble_eq_true rfl) ?_
  repeat (first | refine Vx ?_ | (apply Ops_q; (case hon => exact Va); (case hd => rfl); (case hq => exact YlA)) | refine Vr ?_ | refine Vt ?_ | refine Vf ?_ | refine Vm ?_ | refine Ve ?_ | refine Vo ?_ | refine Vz ?_ | refine Vn ?_)
  (apply Ops_q; (case hon => (exact Va)); (case hd => rfl); (case hq => exact Yl_indexS (j := b) rfl rfl (by omega)))
  repeat (first | refine Vx ?_ | (apply Ops_q; (case hon => exact Va); (case hd => rfl); (case hq => exact YlA)) | refine Vr ?_ | refine Vt ?_ | refine Vf ?_ | refine Vm ?_ | refine Ve ?_ | refine Vo ?_ | refine Vz ?_ | refine Vn ?_)
  (apply Ops_q; (case hon => (exact Va)); (case hd => rfl); (case hq => exact Yl_indexS (j := a) rfl rfl (by omega)))
  repeat (first | refine Vx ?_ | (apply Ops_q; (case hon => exact Va); (case hd => rfl); (case hq => exact YlA)) | refine Vr ?_ | refine Vt ?_ | refine Vf ?_ | refine Vm ?_ | refine Ve ?_ | refine Vo ?_ | refine Vz ?_ | refine Vn ?_)
  (apply Ops_q; (case hon => (exact Va)); (case hd => rfl); (case hq => exact Yl_call rfl (fun w_ e_ => lessU_v y x w_)))
  repeat (first | refine Vx ?_ | (apply Ops_q; (case hon => exact Va); (case hd => rfl); (case hq => exact YlA)) | refine Vr ?_ | refine Vt ?_ | refine Vf ?_ | refine Vm ?_ | refine Ve ?_ | refine Vo ?_ | refine Vz ?_ | refine Vn ?_)
  refine V_cond rfl (fun h => ?_) (fun h => ?_)
  · repeat (first | refine Vx ?_ | (apply Ops_q; (case hon => exact Va); (case hd => rfl); (case hq => exact YlA)) | refine Vr ?_ | refine Vt ?_ | refine Vf ?_ | refine Vm ?_ | refine Ve ?_ | refine Vo ?_ | refine Vz ?_ | refine Vn ?_)
    (refine Ops_store (by exact Va) rfl rfl kb (by rfl) ?_; intro w1 u1)
    have m1 : Mod (fun c => c = bs) w w1 := (Mod.of_ext (S := fun c => c = bs) (Ext.refl _)).upd u1 (.inl rfl)
    repeat (first | refine Vx ?_ | (apply Ops_q; (case hon => exact Va); (case hd => rfl); (case hq => exact YlA)) | refine Vr ?_ | refine Vt ?_ | refine Vf ?_ | refine Vm ?_ | refine Ve ?_ | refine Vo ?_ | refine Vz ?_ | refine Vn ?_)
    refine ret2 (by first | exact .inl rfl | exact .inr rfl) rfl rfl rfl ?_
    exact Does_mk (fun w' he => ⟨.inr rfl, k + 1, ⟨u1.blk.ext he, by omega⟩, Int.le_refl _⟩) m1
  · repeat (first | refine Vx ?_ | (apply Ops_q; (case hon => exact Va); (case hd => rfl); (case hq => exact YlA)) | refine Vr ?_ | refine Vt ?_ | refine Vf ?_ | refine Vm ?_ | refine Ve ?_ | refine Vo ?_ | refine Vz ?_ | refine Vn ?_)
    refine ret2 (by first | exact .inl rfl | exact .inr rfl) rfl rfl rfl ?_
    exact Does_mk (fun w' he => ⟨.inl rfl, k, ⟨kb.ext he, k0⟩, by omega⟩) (.of_ext (Ext.refl _))
theorem DatU.mod {w w1 : World} {L : List Int} {S : Nat → Prop} (h : DatU w base g n cap L) (hm : Mod S w w1) (hs : ¬S g) : DatU w1 base g n cap L := ⟨hm.own h.own (fun b hb => by cases hb; exact hs), h.len⟩
theorem median_v (L : List Int) (a b c bs lo hi : Nat) (k : Int) (w : World) (hD : DatU w base g n cap L) (hs : Swaps w bs k) (hk : k ≤ 900) (hne : g ≠ bs) (hhi : hi ≤ n) (ha : lo ≤ a ∧ a < hi) (hb : lo ≤ b ∧ b < hi) (hc : lo ≤ c ∧ c < hi) :
    Calls Try.prog 126 #[.slice (some ⟨g, 0, none⟩) n cap, .int .i64 a, .int .i64 b, .int .i64 c, .pointer (some ⟨bs, 0, none⟩)] w
      (Does (fun c => c = bs) (SwR bs (k + 3) (fun r => ∃ p : Nat, r = .int .i64 p ∧ lo ≤ p ∧ p < hi)) w) := by
  refine V_enter (vs := [_, _, _, _, _]) Try.func126 rfl Try.ntmps126 (Nat.le_of_ble_eq_true rfl) ?_
  repeat (first | refine Vx ?_ | (apply Ops_q; (case hon => exact Va); (case hd => rfl); (case hq => exact YlA)) | refine Vr ?_ | refine Vt ?_ | refine Vf ?_ | refine Vm ?_ | refine Ve ?_ | refine Vo ?_ | refine Vz ?_ | refine Vn ?_)
  refine Ops_callM (S := fun c => c = bs) (R := fun _ => SwR bs (k + 1) (fun r => r = .tuple #[.int .i64 a, .int .i64 b] ∨ r = .tuple #[.int .i64 b, .int .i64 a])) (by exact Va) rfl rfl (fun w_ e_ => order2_v L a b bs k w_ (hD.ext e_) ⟨hs.1.ext e_, hs.2⟩ (by omega) (by omega) (by omega)) ?_
  intro r w1 w0_ e0w1 mw1 hR
  obtain ⟨hr, k1, sw1, hw1⟩ := hR
  have Dw1 := (hD.ext e0w1).mod mw1 (fun e => hne e)
  obtain ⟨pw1, qw1, hpqw1, rfl⟩ : ∃ p q : Nat, ((p = a ∧ q = b) ∨ (p = b ∧ q = a)) ∧ r = .tuple #[.int .i64 p, .int .i64 q] := by
    rcases hr with rfl | rfl
    · exact ⟨_, _, .inl ⟨rfl, rfl⟩, rfl⟩
    · exact ⟨_, _, .inr ⟨rfl, rfl⟩, rfl⟩
  repeat (first | refine Vx ?_ | (apply Ops_q; (case hon => exact Va); (case hd => rfl); (case hq => exact YlA)) | refine Vr ?_ | refine Vt ?_ | refine Vf ?_ | refine Vm ?_ | refine Ve ?_ | refine Vo ?_ | refine Vz ?_ | refine Vn ?_)
  refine Ops_callM (S := fun c => c = bs) (R := fun _ => SwR bs (k1 + 1) (fun r => r = .tuple #[.int .i64 qw1, .int .i64 c] ∨ r = .tuple #[.int .i64 c, .int .i64 qw1])) (by exact Va) rfl rfl (fun w_ e_ => order2_v L qw1 c bs k1 w_ (Dw1.ext e_) ⟨sw1.1.ext e_, sw1.2⟩ (by omega) (by omega) (by omega)) ?_
  intro r w2 w0_ e0w2 mw2 hR
  obtain ⟨hr, k2, sw2, hw2⟩ := hR
  have Dw2 := (Dw1.ext e0w2).mod mw2 (fun e => hne e)
  obtain ⟨pw2, qw2, hpqw2, rfl⟩ : ∃ p q : Nat, ((p = qw1 ∧ q = c) ∨ (p = c ∧ q = qw1)) ∧ r = .tuple #[.int .i64 p, .int .i64 q] := by
    rcases hr with rfl | rfl
    · exact ⟨_, _, .inl ⟨rfl, rfl⟩, rfl⟩
    · exact ⟨_, _, .inr ⟨rfl, rfl⟩, rfl⟩
  repeat (first | refine Vx ?_ | (apply Ops_q; (case hon => exact Va); (case hd => rfl); (case hq => exact YlA)) | refine Vr ?_ | refine Vt ?_ | refine Vf ?_ | refine Vm ?_ | refine Ve ?_ | refine Vo ?_ | refine Vz ?_ | refine Vn ?_)
  refine Ops_callM (S := fun c => c = bs) (R := fun _ => SwR bs (k2 + 1) (fun r => r = .tuple #[.int .i64 pw1, .int .i64 pw2] ∨ r = .tuple #[.int .i64 pw2, .int .i64 pw1])) (by exact Va) rfl rfl (fun w_ e_ => order2_v L pw1 pw2 bs k2 w_ (Dw2.ext e_) ⟨sw2.1.ext e_, sw2.2⟩ (by omega) (by omega) (by omega)) ?_
  intro r w3 w0_ e0w3 mw3 hR
  obtain ⟨hr, k3, sw3, hw3⟩ := hR
  have Dw3 := (Dw2.ext e0w3).mod mw3 (fun e => hne e)
  obtain ⟨pw3, qw3, hpqw3, rfl⟩ : ∃ p q : Nat, ((p = pw1 ∧ q = pw2) ∨ (p = pw2 ∧ q = pw1)) ∧ r = .tuple #[.int .i64 p, .int .i64 q] := by
    rcases hr with rfl | rfl
    · exact ⟨_, _, .inl ⟨rfl, rfl⟩, rfl⟩
    · exact ⟨_, _, .inr ⟨rfl, rfl⟩, rfl⟩
  repeat (first | refine Vx ?_ | (apply Ops_q; (case hon => exact Va); (case hd => rfl); (case hq => exact YlA)) | refine Vr ?_ | refine Vt ?_ | refine Vf ?_ | refine Vm ?_ | refine Ve ?_ | refine Vo ?_ | refine Vz ?_ | refine Vn ?_)
  refine ret1 (by first | exact .inl rfl | exact .inr rfl) rfl rfl ?_
  have m3 := (((Mod.of_ext e0w1).trans mw1).ext e0w2 |>.trans mw2).ext e0w3 |>.trans mw3
  exact Does_mk (fun w' he => ⟨⟨qw3, rfl, by omega, by omega⟩, k3, ⟨sw3.1.ext he, sw3.2⟩, by omega⟩) m3
theorem medianAdjacent_v (L : List Int) (a bs lo hi : Nat) (k : Int) (w : World) (hD : DatU w base g n cap L) (hs : Swaps w bs k) (hk : k ≤ 900) (hne : g ≠ bs) (hn : n ≤ 1000000000000) (hhi : hi ≤ n) (ha : lo + 1 ≤ a ∧ a + 1 < hi) :
    Calls Try.prog 125 #[.slice (some ⟨g, 0, none⟩) n cap, .int .i64 a, .pointer (some ⟨bs, 0, none⟩)] w
      (Does (fun c => c = bs) (SwR bs (k + 3) (fun r => ∃ p : Nat, r = .int .i64 p ∧ lo ≤ p ∧ p < hi)) w) := by
  obtain ⟨z, rfl⟩ : ∃ z, a = z + 1 := ⟨a - 1, by omega⟩
  have hz : ((z + 1 : Nat) : Int) - 1 = (z : Int) := by omega
  refine V_enter (vs := [_, _, _]) Try.func125 rfl Try.ntmps125 (Nat.le_of_ble_eq_true rfl) ?_
  repeat (first | refine Vx ?_ | (apply Ops_q; (case hon => exact Va); (case hd => rfl); (case hq => exact YlA)) | refine Vr ?_ | refine Vt ?_ | refine Vf ?_ | refine Vm ?_ | refine Ve ?_ | refine Vo ?_ | refine Vz ?_ | refine Vn ?_)
  rw [hz]
  refine Ops_callM (S := fun c => c = bs) (R := fun _ => SwR bs (k + 3) (fun r => ∃ p : Nat, r = .int .i64 p ∧ lo ≤ p ∧ p < hi)) (by exact Va) rfl rfl (fun w_ e_ => median_v L z (z + 1) (z + 1 + 1) bs lo hi k w_ (hD.ext e_) ⟨hs.1.ext e_, hs.2⟩ hk hne hhi (by omega) (by omega) (by omega)) ?_
  intro r w1 w0_ e0 m1 hR
  obtain ⟨⟨p, rfl, hp⟩, k1, s1, hk1⟩ := hR
  repeat (first | refine Vx ?_ | (apply Ops_q; (case hon => exact Va); (case hd => rfl); (case hq => exact YlA)) | refine Vr ?_ | refine Vt ?_ | refine Vf ?_ | refine Vm ?_ | refine Ve ?_ | refine Vo ?_ | refine Vz ?_ | refine Vn ?_)
  refine ret1 (by first | exact .inl rfl | exact .inr rfl) rfl rfl ?_
  exact Does_mk (fun w' he => ⟨⟨p, rfl, hp⟩, k1, ⟨s1.1.ext he, s1.2⟩, hk1⟩) ((Mod.of_ext e0).trans m1)
set_option maxHeartbeats 1000000 in
theorem choosePivot_v (L : List Int) (a b : Nat) (w : World) (hD : DatU w base g n cap L) (hn : n ≤ 1000000000000) (hb : b ≤ n) (hab : a + 12 < b) :
    Calls Try.prog 113 #[.slice (some ⟨g, 0, none⟩) n cap, .int .i64 a, .int .i64 b] w
      (Gives (fun r _ => ∃ (p : Nat) (h : Int), r = .tuple #[.int .i64 p, .int .i64 h] ∧ a ≤ p ∧ p < b) w) := by
  have hg := hD.own.lt (b := g) rfl
  obtain ⟨l, hl⟩ : ∃ l : Nat, (b : Int) - (a : Int) = (l : Int) := ⟨b - a, by omega⟩
  have e1 : (a : Int) + (l : Int) / 4 * 1 = ((a + l / 4 * 1 : Nat) : Int) := by omega
  have e2 : (a : Int) + (l : Int) / 4 * 2 = ((a + l / 4 * 2 : Nat) : Int) := by omega
  have e3 : (a : Int) + (l : Int) / 4 * 3 = ((a + l / 4 * 3 : Nat) : Int) := by omega
  have h1 : a ≤ a + l / 4 * 1 ∧ a + l / 4 * 1 < b := by omega
  have h2 : a ≤ a + l / 4 * 2 ∧ a + l / 4 * 2 < b := by omega
  have h3 : a ≤ a + l / 4 * 3 ∧ a + l / 4 * 3 < b := by omega
  have h50 : 50 ≤ l → (a + 1 ≤ a + l / 4 * 1 ∧ a + l / 4 * 1 + 1 < b) ∧ (a + 1 ≤ a + l / 4 * 2 ∧ a + l / 4 * 2 + 1 < b) ∧ (a + 1 ≤ a + l / 4 * 3 ∧ a + l / 4 * 3 + 1 < b) := by omega
  generalize a + l / 4 * 1 = i at *
  generalize a + l / 4 * 2 = j at *
  generalize a + l / 4 * 3 = k at *
  refine V_enter (vs := [_, _, _]) Try.func113 rfl Try.ntmps113 (Nat.le_of_ble_eq_true rfl) ?_
  repeat (first | refine Vx ?_ | (apply Ops_q; (case hon => exact Va); (case hd => rfl); (case hq => exact YlA)) | refine Vr ?_ | refine Vt ?_ | refine Vf ?_ | refine Vm ?_ | refine Ve ?_ | refine Vo ?_ | refine Vz ?_ | refine Vn ?_)
  rw [hl]
  repeat (first | refine Vx ?_ | (apply Ops_q; (case hon => exact Va); (case hd => rfl); (case hq => exact YlA)) | refine Vr ?_ | refine Vt ?_ | refine Vf ?_ | refine Vm ?_ | refine Ve ?_ | refine Vo ?_ | refine Vz ?_ | refine Vn ?_)
  (refine Ops_alloc (by exact Va) rfl ?_; intro w1 bs n_bs; have k_bs := n_bs.blk)
  repeat (first | refine Vx ?_ | (apply Ops_q; (case hon => exact Va); (case hd => rfl); (case hq => exact YlA)) | refine Vr ?_ | refine Vt ?_ | refine Vf ?_ | refine Vm ?_ | refine Ve ?_ | refine Vo ?_ | refine Vz ?_ | refine Vn ?_)
  rw [e1, e2, e3]
  refine V_yes rfl (decide_eq_true (by omega : (8 : Int) ≤ (l : Int))) ?_
  have hgb : g ≠ bs := by have := n_bs.ge; omega
  have hbw := n_bs.ge
  repeat (first | refine Vx ?_ | (apply Ops_q; (case hon => exact Va); (case hd => rfl); (case hq => exact YlA)) | refine Vr ?_ | refine Vt ?_ | refine Vf ?_ | refine Vm ?_ | refine Ve ?_ | refine Vo ?_ | refine Vz ?_ | refine Vn ?_)
  refine V_meet1 (fun s : Nat × Nat × Nat => [(10, .int .i64 s.1), (11, .int .i64 s.2.1), (12, .int .i64 s.2.2), (9, .pointer (some ⟨bs, 0, none⟩)), (0, .slice (some ⟨g, 0, none⟩) n cap)])
    (fun s w' => Ext w w' ∧ (a ≤ s.1 ∧ s.1 < b) ∧ (a ≤ s.2.1 ∧ s.2.1 < b) ∧ (a ≤ s.2.2 ∧ s.2.2 < b) ∧ (∃ c, Swaps w' bs c ∧ c ≤ 9) ∧ DatU w' base g n cap L) ?_ ?_
  · refine V_cond rfl (fun h => ?_) (fun h => ?_)
    · obtain ⟨q1, q2, q3⟩ := h50 (by have := of_decide_eq_true h; omega)
      repeat (first | refine Vx ?_ | (apply Ops_q; (case hon => exact Va); (case hd => rfl); (case hq => exact YlA)) | refine Vr ?_ | refine Vt ?_ | refine Vf ?_ | refine Vm ?_ | refine Ve ?_ | refine Vo ?_ | refine Vz ?_ | refine Vn ?_)
      refine Ops_callM (S := fun c => c = bs) (R := fun _ => SwR bs (0 + 3) (fun r => ∃ p : Nat, r = .int .i64 p ∧ a ≤ p ∧ p < b)) (by exact Va) rfl rfl (fun w_ e_ => medianAdjacent_v L i bs a b 0 w_ (hD.ext (n_bs.ext.trans e_)) ⟨k_bs.ext e_, Int.le_refl _⟩ (by omega) hgb hn hb q1) ?_
      intro r w2 w0_ e0 m2 hR
      obtain ⟨⟨p1, rfl, hp1⟩, c2, s2, hc2⟩ := hR
      have D2 := (hD.ext (n_bs.ext.trans e0)).mod m2 hgb
      have x2 : Ext w w2 := Mod.ext_of (n_bs.ext.trans e0) m2 (fun c hc => by rw [hc]; exact hbw)
      repeat (first | refine Vx ?_ | (apply Ops_q; (case hon => exact Va); (case hd => rfl); (case hq => exact YlA)) | refine Vr ?_ | refine Vt ?_ | refine Vf ?_ | refine Vm ?_ | refine Ve ?_ | refine Vo ?_ | refine Vz ?_ | refine Vn ?_)
      refine Ops_callM (S := fun c => c = bs) (R := fun _ => SwR bs (c2 + 3) (fun r => ∃ p : Nat, r = .int .i64 p ∧ a ≤ p ∧ p < b)) (by exact Va) rfl rfl (fun w_ e_ => medianAdjacent_v L j bs a b c2 w_ (D2.ext e_) ⟨s2.1.ext e_, s2.2⟩ (by omega) hgb hn hb q2) ?_
      intro r w3 w0_ e0 m3 hR
      obtain ⟨⟨p2, rfl, hp2⟩, c3, s3, hc3⟩ := hR
      have D3 := (D2.ext e0).mod m3 hgb
      have x3 : Ext w w3 := Mod.ext_of (x2.trans e0) m3 (fun c hc => by rw [hc]; exact hbw)
      repeat (first | refine Vx ?_ | (apply Ops_q; (case hon => exact Va); (case hd => rfl); (case hq => exact YlA)) | refine Vr ?_ | refine Vt ?_ | refine Vf ?_ | refine Vm ?_ | refine Ve ?_ | refine Vo ?_ | refine Vz ?_ | refine Vn ?_)
      refine Ops_callM (S := fun c => c = bs) (R := fun _ => SwR bs (c3 + 3) (fun r => ∃ p : Nat, r = .int .i64 p ∧ a ≤ p ∧ p < b)) (by exact Va) rfl rfl (fun w_ e_ => medianAdjacent_v L k bs a b c3 w_ (D3.ext e_) ⟨s3.1.ext e_, s3.2⟩ (by omega) hgb hn hb q3) ?_
      intro r w4 w0_ e0 m4 hR
      obtain ⟨⟨p3, rfl, hp3⟩, c4, s4, hc4⟩ := hR
      have D4 := (D3.ext e0).mod m4 hgb
      have x4 : Ext w w4 := Mod.ext_of (x3.trans e0) m4 (fun c hc => by rw [hc]; exact hbw)
      repeat (first | refine Vx ?_ | (apply Ops_q; (case hon => exact Va); (case hd => rfl); (case hq => exact YlA)) | refine Vr ?_ | refine Vt ?_ | refine Vf ?_ | refine Vm ?_ | refine Ve ?_ | refine Vo ?_ | refine Vz ?_ | refine Vn ?_)
      exact ⟨(p1, p2, p3), (by repeat (first | exact trivial | refine ⟨rfl, ?_⟩)), x4, hp1, hp2, hp3, ⟨c4, s4, by omega⟩, D4⟩
    · repeat (first | refine Vx ?_ | (apply Ops_q; (case hon => exact Va); (case hd => rfl); (case hq => exact YlA)) | refine Vr ?_ | refine Vt ?_ | refine Vf ?_ | refine Vm ?_ | refine Ve ?_ | refine Vo ?_ | refine Vz ?_ | refine Vn ?_)
      exact ⟨(i, j, k), (by repeat (first | exact trivial | refine ⟨rfl, ?_⟩)), n_bs.ext, h1, h2, h3, ⟨0, ⟨k_bs, Int.le_refl _⟩, by omega⟩, hD.ext n_bs.ext⟩
  rintro ⟨i, j, k⟩ w2 ⟨x2, h1, h2, h3, ⟨c2, s2, hc2⟩, D2⟩
  dsimp only at h1 h2 h3 ⊢
  repeat (first | refine Vx ?_ | (apply Ops_q; (case hon => exact Va); (case hd => rfl); (case hq => exact YlA)) | refine Vr ?_ | refine Vt ?_ | refine Vf ?_ | refine Vm ?_ | refine Ve ?_ | refine Vo ?_ | refine Vz ?_ | refine Vn ?_)
  refine Ops_callM (S := fun c => c = bs) (R := fun _ => SwR bs (c2 + 3) (fun r => ∃ p : Nat, r = .int .i64 p ∧ a ≤ p ∧ p < b)) (by exact Va) rfl rfl (fun w_ e_ => median_v L i j k bs a b c2 w_ (D2.ext e_) ⟨s2.1.ext e_, s2.2⟩ (by omega) hgb hb h1 h2 h3) ?_
  intro r w3 w0_ e0 m3 hR
  obtain ⟨⟨p, rfl, hp⟩, c3, s3, hc3⟩ := hR
  have x3 : Ext w w3 := Mod.ext_of (x2.trans e0) m3 (fun c hc => by rw [hc]; exact hbw)
  have k3 := s3.1
  repeat (first | refine Vx ?_ | (apply Ops_q; (case hon => exact Va); (case hd => rfl); (case hq => exact YlA)) | refine Vr ?_ | refine Vt ?_ | refine Vf ?_ | refine Vm ?_ | refine Ve ?_ | refine Vo ?_ | refine Vz ?_ | refine Vn ?_)
  refine V_cond rfl (fun h5 => ?_) (fun h5 => ?_)
  · repeat (first | refine Vx ?_ | (apply Ops_q; (case hon => exact Va); (case hd => rfl); (case hq => exact YlA)) | refine Vr ?_ | refine Vt ?_ | refine Vf ?_ | refine Vm ?_ | refine Ve ?_ | refine Vo ?_ | refine Vz ?_ | refine Vn ?_)
    refine ret2 (by first | exact .inl rfl | exact .inr rfl) rfl rfl rfl ?_
    exact Gives_mk (fun w' _ => ⟨p, _, rfl, hp⟩) x3
  repeat (first | refine Vx ?_ | (apply Ops_q; (case hon => exact Va); (case hd => rfl); (case hq => exact YlA)) | refine Vr ?_ | refine Vt ?_ | refine Vf ?_ | refine Vm ?_ | refine Ve ?_ | refine Vo ?_ | refine Vz ?_ | refine Vn ?_)
  refine V_cond rfl (fun h6 => ?_) (fun h6 => ?_)
  · repeat (first | refine Vx ?_ | (apply Ops_q; (case hon => exact Va); (case hd => rfl); (case hq => exact YlA)) | refine Vr ?_ | refine Vt ?_ | refine Vf ?_ | refine Vm ?_ | refine Ve ?_ | refine Vo ?_ | refine Vz ?_ | refine Vn ?_)
    refine ret2 (by first | exact .inl rfl | exact .inr rfl) rfl rfl rfl ?_
    exact Gives_mk (fun w' _ => ⟨p, _, rfl, hp⟩) x3
  · repeat (first | refine Vx ?_ | (apply Ops_q; (case hon => exact Va); (case hd => rfl); (case hq => exact YlA)) | refine Vr ?_ | refine Vt ?_ | refine Vf ?_ | refine Vm ?_ | refine Ve ?_ | refine Vo ?_ | refine Vz ?_ | refine Vn ?_)
    refine ret2 (by first | exact .inl rfl | exact .inr rfl) rfl rfl rfl ?_
    exact Gives_mk (fun w' _ => ⟨p, _, rfl, hp⟩) x3
set_option maxHeartbeats 1000000 in
theorem reverse_v (L : List Int) (a b : Nat) (w : World) (hD : DatU w base g n cap L) (hn : n ≤ 1000000000000) (hab : a < b) (hb : b ≤ n) :
    Calls Try.prog 114 #[.slice (some ⟨g, 0, none⟩) n cap, .int .i64 a, .int .i64 b] w
      (Does (BlkU g) (DatV base g n cap (fun r L' => r = .tuple #[] ∧ Moved L L' a b)) w) := by
  obtain ⟨z, rfl⟩ : ∃ z, b = z + 1 := ⟨b - 1, by omega⟩
  have hz : ((z + 1 : Nat) : Int) - 1 = (z : Int) := by omega
  refine V_enter (vs := [_, _, _]) Try.func114 rfl Try.ntmps114 (Nat.le_of_ble_eq_true rfl) ?_
  repeat (first | refine Vx ?_ | (apply Ops_q; (case hon => exact Va); (case hd => rfl); (case hq => exact YlA)) | refine Vr ?_ | refine Vt ?_ | refine Vf ?_ | refine Vm ?_ | refine Ve ?_ | refine Vo ?_ | refine Vz ?_ | refine Vn ?_)
  rw [hz]
  refine V_loop (fun s : Nat × Nat × List Int => [(6, .int .i64 s.1), (7, .int .i64 s.2.1), (0, .slice (some ⟨g, 0, none⟩) n cap)])
    (fun s w' => a ≤ s.1 ∧ s.2.1 ≤ z ∧ s.1 ≤ s.2.1 + 1 ∧ Mod (BlkU g) w w' ∧ DatU w' base g n cap s.2.2 ∧ Moved L s.2.2 a (z + 1)) (fun s => s.2.1 + 1 - s.1) (a, z, L) (by repeat (first | exact trivial | refine ⟨rfl, ?_⟩))
    ⟨Nat.le_refl _, Nat.le_refl _, by dsimp only; omega, .of_ext (Ext.refl _), hD, Moved.refl ..⟩ ?_
  rintro ⟨i, j, M⟩ w3 ⟨h1, h2, h3, m3, D3, hM⟩
  dsimp only at h1 h2 h3 D3 hM ⊢
  have hMl := D3.len
  repeat (first | refine Vx ?_ | (apply Ops_q; (case hon => exact Va); (case hd => rfl); (case hq => exact YlA)) | refine Vr ?_ | refine Vt ?_ | refine Vf ?_ | refine Vm ?_ | refine Ve ?_ | refine Vo ?_ | refine Vz ?_ | refine Vn ?_)
  refine V_cond rfl (fun hg => ?_) (fun hg => ?_)
  · replace hg := of_decide_eq_true hg
    obtain ⟨p, rfl⟩ : ∃ p, j = p + 1 := ⟨j - 1, by omega⟩
    have hs1 : ((p + 1 : Nat) : Int) - 1 = (p : Int) := by omega
    obtain ⟨x, hx⟩ := D3.get (k := i) (by omega)
    obtain ⟨y, hy⟩ := D3.get (k := p + 1) (by omega)
    have hcx := D3.at hx
    have hcy := D3.at hy
    repeat (first | refine Vx ?_ | (apply Ops_q; (case hon => exact Va); (case hd => rfl); (case hq => exact YlA)) | refine Vt ?_ | refine Vf ?_ | refine Vm ?_ | refine Ve ?_ | refine Vo ?_ | refine Vz ?_ | refine Vn ?_)
    refine V_store (R := fun w' => DatU w' base g n cap (M.set i y) ∧ Mod (fun c => c = g) w3 w') 14 13 (fun _ _ he h => ⟨h.1.ext he, h.2.ext he⟩) (by kernel_rfl) rfl (by kernel_rfl) ?_
    repeat (first
      | (refine YsS.pure rfl rfl rfl rfl rfl (fun w_ => (by first | exact Yl_move rfl | exact Yl_pred rfl rfl (by omega) | exact Yl_arith_in rfl rfl rfl (by first | assumption | (simp only [InK]; omega)))) ?_)
      | (refine YsS.load rfl rfl rfl rfl rfl (by first | exact Yl_load rfl hcx | exact Yl_load rfl hcy) ?_))
    refine YsS.pure rfl rfl rfl rfl rfl (fun w_ => Yl_indexS (j := (p+1)) rfl rfl (by omega)) ?_
    repeat (first
      | (refine YsS.pure rfl rfl rfl rfl rfl (fun w_ => (by first | exact Yl_move rfl | exact Yl_pred rfl rfl (by omega) | exact Yl_arith_in rfl rfl rfl (by first | assumption | (simp only [InK]; omega)))) ?_)
      | (refine YsS.load rfl rfl rfl rfl rfl (by first | exact Yl_load rfl hcx | exact Yl_load rfl hcy) ?_))
    refine YsS.pure rfl rfl rfl rfl rfl (fun w_ => Yl_indexS (j := i) rfl rfl (by omega)) ?_
    repeat (first
      | (refine YsS.pure rfl rfl rfl rfl rfl (fun w_ => (by first | exact Yl_move rfl | exact Yl_pred rfl rfl (by omega) | exact Yl_arith_in rfl rfl rfl (by first | assumption | (simp only [InK]; omega)))) ?_)
      | (refine YsS.load rfl rfl rfl rfl rfl (by first | exact Yl_load rfl hcx | exact Yl_load rfl hcy) ?_))
    refine YsS.pure rfl rfl rfl rfl rfl (fun w_ => Yl_indexS (j := i) rfl rfl (by omega)) ?_
    refine YsS.nil rfl ⟨fun a_ ag_ w_ hw_ => storeDatU_run (i := i) (v := y) rfl rfl rfl D3 (by omega) a_ ag_ w_ hw_, ?_⟩
    repeat (first
      | (refine YsS.pure rfl rfl rfl rfl rfl (fun w_ => (by first | exact Yl_move rfl | exact Yl_pred rfl rfl (by omega) | exact Yl_arith_in rfl rfl rfl (by first | assumption | (simp only [InK]; omega)))) ?_)
      | (refine YsS.load rfl rfl rfl rfl rfl (by first | exact Yl_load rfl hcx | exact Yl_load rfl hcy) ?_))
    refine YsS.nil rfl ?_
    rintro w4 ⟨D4, m4⟩
    repeat (first | refine Vx ?_ | (apply Ops_q; (case hon => exact Va); (case hd => rfl); (case hq => exact YlA)) | refine Vr ?_ | refine Vt ?_ | refine Vf ?_ | refine Vm ?_ | refine Ve ?_ | refine Vo ?_ | refine Vz ?_ | refine Vn ?_)
    (apply Ops_q; (case hon => (exact Va)); (case hd => rfl); (case hq => exact Yl_indexS (j := (p+1)) rfl rfl (by omega)))
    repeat (first | refine Vx ?_ | (apply Ops_q; (case hon => exact Va); (case hd => rfl); (case hq => exact YlA)) | refine Vr ?_ | refine Vt ?_ | refine Vf ?_ | refine Vm ?_ | refine Ve ?_ | refine Vo ?_ | refine Vz ?_ | refine Vn ?_)
    refine Ops_storeDatU (i := p+1) (v := x) (by exact Va) rfl rfl rfl D4 (by omega) ?_
    intro w5 D5 g5
    have m5 : Mod (BlkU g) w w5 := (m3.trans m4).grow g5 (fun b hb => .inl (by cases hb; rfl))
    have hsw : (M.set (i) y).set (p+1) x = swp M (i) (p+1) := by unfold swp; rw [hx, hy]
    rw [hsw] at D5
    repeat (first | refine Vx ?_ | (apply Ops_q; (case hon => exact Va); (case hd => rfl); (case hq => exact YlA)) | refine Vr ?_ | refine Vt ?_ | refine Vf ?_ | refine Vm ?_ | refine Ve ?_ | refine Vo ?_ | refine Vz ?_ | refine Vn ?_)
    rw [hs1]
    refine ⟨(i + 1, p, swp M i (p + 1)), (by repeat (first | exact trivial | refine ⟨rfl, ?_⟩)), ⟨by dsimp only; omega, by dsimp only; omega, by dsimp only; omega, m5, D5, hM.trans (Moved.swp (by omega) (by omega) (by omega))⟩, by simp only; omega⟩
  · replace hg := of_decide_eq_false hg
    repeat (first | refine Vx ?_ | (apply Ops_q; (case hon => exact Va); (case hd => rfl); (case hq => exact YlA)) | refine Vr ?_ | refine Vt ?_ | refine Vf ?_ | refine Vm ?_ | refine Ve ?_ | refine Vo ?_ | refine Vz ?_ | refine Vn ?_)
    refine ret0 (by first | exact .inl rfl | exact .inr rfl) rfl ?_
    exact Does_mk (fun w' he => ⟨M, D3.ext he, rfl, hM⟩) m3
end
end Go.Proofs.Ytjpnaofoeeegeaa

/-
  Sorting words (slices.Sort at uint64): partialInsertionSort.
  Conditions: the list is one's own, and not too long for a machine; nothing before the range is greater than what it holds.
-/
namespace Go.Proofs.Ytjpnaofoeeegeaa
open Go.RowKit

section
variable {base g n cap : Nat}
/-- Nothing before a is greater than what stands from a on, below b. -/
abbrev Pre2 (L : List Int) (a b : Nat) : Prop := Below2 ltU L 0 a a b
set_option maxHeartbeats 2000000 in
theorem partialU_v (L : List Int) (a b : Nat) (w : World) (hD : DatU w base g n cap L) (hn : n ≤ 1000000000000) (hb : b ≤ n) (hab : a < b) (hp : Pre2 L a b) :
    Calls Try.prog 115 #[.slice (some ⟨g, 0, none⟩) n cap, .int .i64 a, .int .i64 b] w
      (Does (BlkU g) (DatV base g n cap (fun r L' => ∃ o : Bool, r = .bool o ∧ Moved L L' a b ∧ (o = true → Asc ltU L' a b))) w) := by
  refine V_enter (vs := [_, _, _]) Try.func115 rfl Try.ntmps115 (Nat.le_of_ble_eq_true rfl) ?_
  repeat (first | refine Vx ?_ | (apply Ops_q; (case hon => exact Va); (case hd => rfl); (case hq => exact YlA)) | refine Vr ?_ | refine Vt ?_ | refine Vf ?_ | refine Vm ?_ | refine Ve ?_ | refine Vo ?_ | refine Vz ?_ | refine Vn ?_)
  refine V_loop (fun s : Nat × Nat × List Int => [(7, .int .i64 s.2.1), (8, .int .i64 s.1), (0, .slice (some ⟨g, 0, none⟩) n cap), (1, .int .i64 a), (2, .int .i64 b)])
    (fun s w' => s.1 ≤ 5 ∧ a + 1 ≤ s.2.1 ∧ s.2.1 ≤ b ∧ Mod (BlkU g) w w' ∧ DatU w' base g n cap s.2.2 ∧ Moved L s.2.2 a b ∧ Asc ltU s.2.2 a s.2.1) (fun s => 5 - s.1) (0, a + 1, L) (by repeat (first | exact trivial | refine ⟨rfl, ?_⟩))
    ⟨by dsimp only; omega, Nat.le_refl _, by dsimp only; omega, .of_ext (Ext.refl _), hD, Moved.refl .., Asc.one (Nat.le_refl _)⟩ ?_
  rintro ⟨q, i, M⟩ w3 ⟨h0, h1, h2, m3, D3, hM, hA⟩
  dsimp only at h0 h1 h2 D3 hM hA ⊢
  repeat (first | refine Vx ?_ | (apply Ops_q; (case hon => exact Va); (case hd => rfl); (case hq => exact YlA)) | refine Vr ?_ | refine Vt ?_ | refine Vf ?_ | refine Vm ?_ | refine Ve ?_ | refine Vo ?_ | refine Vz ?_ | refine Vn ?_)
  refine V_cond rfl (fun hg => ?_) (fun hg => ?_)
  · replace hg := of_decide_eq_true hg
    have hq : q < 5 := by omega
    repeat (first | refine Vx ?_ | (apply Ops_q; (case hon => exact Va); (case hd => rfl); (case hq => exact YlA)) | refine Vr ?_ | refine Vt ?_ | refine Vf ?_ | refine Vm ?_ | refine Ve ?_ | refine Vo ?_ | refine Vz ?_ | refine Vn ?_)
    refine V_loop (fun s : Nat => [(7, .int .i64 s), (8, .int .i64 q), (0, .slice (some ⟨g, 0, none⟩) n cap), (1, .int .i64 a), (2, .int .i64 b)])
      (fun s w' => Ext w3 w' ∧ a + 1 ≤ s ∧ s ≤ b ∧ Asc ltU M a s) (fun s => b - s) i (by repeat (first | exact trivial | refine ⟨rfl, ?_⟩)) ⟨Ext.refl _, h1, h2, hA⟩ ?_
    clear h1 h2 hA
    rintro i w3 ⟨x3, h1, h2, hA⟩
    have D3 := D3.ext x3
    have m3 := m3.ext x3
    have hMl := D3.len
    obtain ⟨p, rfl⟩ : ∃ p, i = p + 1 := ⟨i - 1, by omega⟩
    have hs1 : ((p + 1 : Nat) : Int) - 1 = (p : Int) := by omega
    obtain ⟨y, hy⟩ := D3.get (k := p) (by omega)
    have hcy := D3.at hy
    by_cases hib : p + 1 < b
    · have hd : decide (((p + 1 : Nat) : Int) < (b : Int)) = true := decide_eq_true (by omega)
      obtain ⟨x, hx⟩ := D3.get (k := p + 1) (by omega)
      have hcx := D3.at hx
      repeat (first | refine Vx ?_ | (apply Ops_q; (case hon => exact Va); (case hd => rfl); (case hq => exact YlA)) | refine Vr ?_ | refine Vt ?_ | refine Vf ?_ | refine Vm ?_ | refine Ve ?_ | refine Vo ?_ | refine Vz ?_ | refine Vn ?_)
      refine Ops_know rfl rfl hd ?_
      repeat (first | refine Vx ?_ | (apply Ops_q; (case hon => exact Va); (case hd => rfl); (case hq => exact YlA)) | refine Vr ?_ | refine Vt ?_ | refine Vf ?_ | refine Vm ?_ | refine Ve ?_ | refine Vo ?_ | refine Vz ?_ | refine Vn ?_)
      (apply Ops_q; (case hon => (exact Va)); (case hd => rfl); (case hq => exact Yl_indexS (j := (p+1)) rfl rfl (by omega)))
      repeat (first | refine Vx ?_ | (apply Ops_q; (case hon => exact Va); (case hd => rfl); (case hq => exact YlA)) | refine Vr ?_ | refine Vt ?_ | refine Vf ?_ | refine Vm ?_ | refine Ve ?_ | refine Vo ?_ | refine Vz ?_ | refine Vn ?_)
      rw [hs1]
      (apply Ops_q; (case hon => (exact Va)); (case hd => rfl); (case hq => exact Yl_indexS (j := p) rfl rfl (by omega)))
      repeat (first | refine Vx ?_ | (apply Ops_q; (case hon => exact Va); (case hd => rfl); (case hq => exact YlA)) | refine Vr ?_ | refine Vt ?_ | refine Vf ?_ | refine Vm ?_ | refine Ve ?_ | refine Vo ?_ | refine Vz ?_ | refine Vn ?_)
      (apply Ops_q; (case hon => (exact Va)); (case hd => rfl); (case hq => exact Yl_call rfl (fun w_ e_ => lessU_v x y w_)))
      repeat (first | refine Vx ?_ | (apply Ops_q; (case hon => exact Va); (case hd => rfl); (case hq => exact YlA)) | refine Vr ?_ | refine Vt ?_ | refine Vf ?_ | refine Vm ?_ | refine Ve ?_ | refine Vo ?_ | refine Vz ?_ | refine Vn ?_)
      refine V_cond rfl (fun hlt => ?_) (fun hlt => ?_)
      · replace hlt : ¬ltU x y < 0 := by
          have : ¬(x < y) := fun h => by simp [h] at hlt
          simp only [ltU]; omega
        repeat (first | refine Vx ?_ | (apply Ops_q; (case hon => exact Va); (case hd => rfl); (case hq => exact YlA)) | refine Vr ?_ | refine Vt ?_ | refine Vf ?_ | refine Vm ?_ | refine Ve ?_ | refine Vo ?_ | refine Vz ?_ | refine Vn ?_)
        refine ⟨p + 1 + 1, (by repeat (first | exact trivial | refine ⟨rfl, ?_⟩)), ⟨by assumption, by omega, by omega, (AscX.start hA).stop ordU (.inr ⟨x, y, hx, hy, hlt⟩)⟩, by omega⟩
      · replace hlt : ltU x y < 0 := by
          have : x < y := by
            by_cases h : x < y
            · exact h
            · simp [h] at hlt
          simp only [ltU]; omega
        repeat (first | refine Vx ?_ | (apply Ops_q; (case hon => exact Va); (case hd => rfl); (case hq => exact YlA)) | refine Vr ?_ | refine Vt ?_ | refine Vf ?_ | refine Vm ?_ | refine Ve ?_ | refine Vo ?_ | refine Vz ?_ | refine Vn ?_)
        refine V_no rfl (decide_eq_false (by omega : ¬((p + 1 : Nat) : Int) = (b : Int))) ?_
        repeat (first | refine Vx ?_ | (apply Ops_q; (case hon => exact Va); (case hd => rfl); (case hq => exact YlA)) | refine Vr ?_ | refine Vt ?_ | refine Vf ?_ | refine Vm ?_ | refine Ve ?_ | refine Vo ?_ | refine Vz ?_ | refine Vn ?_)
        refine V_cond rfl (fun h50 => ?_) (fun h50 => ?_)
        · repeat (first | refine Vx ?_ | (apply Ops_q; (case hon => exact Va); (case hd => rfl); (case hq => exact YlA)) | refine Vr ?_ | refine Vt ?_ | refine Vf ?_ | refine Vm ?_ | refine Ve ?_ | refine Vo ?_ | refine Vz ?_ | refine Vn ?_)
          refine ret1 (by first | exact .inl rfl | exact .inr rfl) rfl rfl ?_
          exact Does_mk (fun w' he => ⟨M, D3.ext he, false, rfl, hM, nofun⟩) m3
        repeat (first | refine Vx ?_ | (apply Ops_q; (case hon => exact Va); (case hd => rfl); (case hq => exact YlA)) | refine Vt ?_ | refine Vf ?_ | refine Vm ?_ | refine Ve ?_ | refine Vo ?_ | refine Vz ?_ | refine Vn ?_)
        refine V_store (R := fun w' => DatU w' base g n cap (M.set (p + 1) y) ∧ Mod (fun c => c = g) w3 w') 16 15 (fun _ _ he h => ⟨h.1.ext he, h.2.ext he⟩) (by kernel_rfl) rfl (by kernel_rfl) ?_
        repeat (first
          | (refine YsS.pure rfl rfl rfl rfl rfl (fun w_ => (by first | exact Yl_move rfl | exact Yl_pred rfl rfl (by omega) | exact Yl_arith_in rfl rfl rfl (by first | assumption | (simp only [InK]; omega)))) ?_)
          | (refine YsS.load rfl rfl rfl rfl rfl (by first | exact Yl_load rfl hcx | exact Yl_load rfl hcy) ?_))
        refine YsS.pure rfl rfl rfl rfl rfl (fun w_ => Yl_indexS (j := p) rfl rfl (by omega)) ?_
        repeat (first
          | (refine YsS.pure rfl rfl rfl rfl rfl (fun w_ => (by first | exact Yl_move rfl | exact Yl_pred rfl rfl (by omega) | exact Yl_arith_in rfl rfl rfl (by first | assumption | (simp only [InK]; omega)))) ?_)
          | (refine YsS.load rfl rfl rfl rfl rfl (by first | exact Yl_load rfl hcx | exact Yl_load rfl hcy) ?_))
        refine YsS.pure rfl rfl rfl rfl rfl (fun w_ => Yl_indexS (j := (p+1)) rfl rfl (by omega)) ?_
        repeat (first
          | (refine YsS.pure rfl rfl rfl rfl rfl (fun w_ => (by first | exact Yl_move rfl | exact Yl_pred rfl rfl (by omega) | exact Yl_arith_in rfl rfl rfl (by first | assumption | (simp only [InK]; omega)))) ?_)
          | (refine YsS.load rfl rfl rfl rfl rfl (by first | exact Yl_load rfl hcx | exact Yl_load rfl hcy) ?_))
        refine YsS.pure rfl rfl rfl rfl rfl (fun w_ => Yl_indexS (j := (p+1)) rfl rfl (by omega)) ?_
        refine YsS.nil rfl ⟨fun a_ ag_ w_ hw_ => storeDatU_run (i := p + 1) (v := y) rfl rfl rfl D3 (by omega) a_ ag_ w_ hw_, ?_⟩
        repeat (first
          | (refine YsS.pure rfl rfl rfl rfl rfl (fun w_ => (by first | exact Yl_move rfl | exact Yl_pred rfl rfl (by omega) | exact Yl_arith_in rfl rfl rfl (by first | assumption | (simp only [InK]; omega)))) ?_)
          | (refine YsS.load rfl rfl rfl rfl rfl (by first | exact Yl_load rfl hcx | exact Yl_load rfl hcy) ?_))
        refine YsS.nil rfl ?_
        rintro w4 ⟨D4, m4⟩
        repeat (first | refine Vx ?_ | (apply Ops_q; (case hon => exact Va); (case hd => rfl); (case hq => exact YlA)) | refine Vr ?_ | refine Vt ?_ | refine Vf ?_ | refine Vm ?_ | refine Ve ?_ | refine Vo ?_ | refine Vz ?_ | refine Vn ?_)
        (apply Ops_q; (case hon => (exact Va)); (case hd => rfl); (case hq => exact Yl_indexS (j := p) rfl rfl (by omega)))
        repeat (first | refine Vx ?_ | (apply Ops_q; (case hon => exact Va); (case hd => rfl); (case hq => exact YlA)) | refine Vr ?_ | refine Vt ?_ | refine Vf ?_ | refine Vm ?_ | refine Ve ?_ | refine Vo ?_ | refine Vz ?_ | refine Vn ?_)
        refine Ops_storeDatU (i := p) (v := x) (by exact Va) rfl rfl rfl D4 (by omega) ?_
        intro w5 D5 g5
        have m5 : Mod (BlkU g) w w5 := (m3.trans m4).grow g5 (fun b hb => .inl (by cases hb; rfl))
        have hsw : (M.set (p + 1) y).set p x = swp M (p + 1) p := by unfold swp; rw [hx, hy]
        rw [hsw] at D5
        have hM5 : Moved L (swp M (p + 1) p) a b := hM.trans (Moved.swp (by omega) (by omega) (by omega))
        have hA5 : AscX ltU (swp M (p + 1) p) a (p + 1 + 1) p := (AscX.start hA).step ordU (by omega) (by omega) (by omega) hx hy hlt
        clear hx hy hcx hcy hlt D3 m3 D4 m4 g5 hsw hA hM hMl
        generalize swp M (p + 1) p = M5 at *
        repeat (first | refine Vx ?_ | (apply Ops_q; (case hon => exact Va); (case hd => rfl); (case hq => exact YlA)) | refine Vr ?_ | refine Vt ?_ | refine Vf ?_ | refine Vm ?_ | refine Ve ?_ | refine Vo ?_ | refine Vz ?_ | refine Vn ?_)
        refine V_meet1 (fun M : List Int => [(7, .int .i64 (p + 1 : Nat)), (8, .int .i64 q), (0, .slice (some ⟨g, 0, none⟩) n cap), (1, .int .i64 a), (2, .int .i64 b)])
          (fun M w' => Mod (BlkU g) w w' ∧ DatU w' base g n cap M ∧ Moved L M a b ∧ Asc ltU M a (p + 1)) ?_ ?_
        · refine V_cond rfl (fun h2 => ?_) (fun h2 => ?_)
          · replace h2 := of_decide_eq_true h2
            repeat (first | refine Vx ?_ | (apply Ops_q; (case hon => exact Va); (case hd => rfl); (case hq => exact YlA)) | refine Vr ?_ | refine Vt ?_ | refine Vf ?_ | refine Vm ?_ | refine Ve ?_ | refine Vo ?_ | refine Vz ?_ | refine Vn ?_)
            rw [hs1]
            refine V_loop (fun s : Nat × List Int => [(9, .int .i64 s.1), (7, .int .i64 (p + 1 : Nat)), (8, .int .i64 q), (0, .slice (some ⟨g, 0, none⟩) n cap), (1, .int .i64 a), (2, .int .i64 b)])
              (fun s w' => a ≤ s.1 ∧ s.1 ≤ p ∧ Mod (BlkU g) w w' ∧ DatU w' base g n cap s.2 ∧ Moved L s.2 a b ∧ AscX ltU s.2 a (p + 1 + 1) s.1) (fun s => s.1) (p, M5) (by repeat (first | exact trivial | refine ⟨rfl, ?_⟩))
              ⟨by dsimp only; omega, Nat.le_refl _, m5, D5, hM5, hA5⟩ ?_
            clear m5 D5 hM5 hA5
            rintro ⟨j, M⟩ w3 ⟨h3, h4, m3, D3, hM, hA⟩
            dsimp only at h3 h4 D3 hM hA ⊢
            have hMl := D3.len
            repeat (first | refine Vx ?_ | (apply Ops_q; (case hon => exact Va); (case hd => rfl); (case hq => exact YlA)) | refine Vr ?_ | refine Vt ?_ | refine Vf ?_ | refine Vm ?_ | refine Ve ?_ | refine Vo ?_ | refine Vz ?_ | refine Vn ?_)
            refine V_cond rfl (fun hj => ?_) (fun hj => ?_)
            · replace hj := of_decide_eq_true hj
              obtain ⟨r, rfl⟩ : ∃ r, j = r + 1 := ⟨j - 1, by omega⟩
              have hs1 : ((r + 1 : Nat) : Int) - 1 = (r : Int) := by omega
              obtain ⟨x, hx⟩ := D3.get (k := r + 1) (by omega)
              obtain ⟨y, hy⟩ := D3.get (k := r) (by omega)
              have hcx := D3.at hx
              have hcy := D3.at hy
              repeat (first | refine Vx ?_ | (apply Ops_q; (case hon => exact Va); (case hd => rfl); (case hq => exact YlA)) | refine Vr ?_ | refine Vt ?_ | refine Vf ?_ | refine Vm ?_ | refine Ve ?_ | refine Vo ?_ | refine Vz ?_ | refine Vn ?_)
              (apply Ops_q; (case hon => (exact Va)); (case hd => rfl); (case hq => exact Yl_indexS (j := (r+1)) rfl rfl (by omega)))
              repeat (first | refine Vx ?_ | (apply Ops_q; (case hon => exact Va); (case hd => rfl); (case hq => exact YlA)) | refine Vr ?_ | refine Vt ?_ | refine Vf ?_ | refine Vm ?_ | refine Ve ?_ | refine Vo ?_ | refine Vz ?_ | refine Vn ?_)
              rw [hs1]
              (apply Ops_q; (case hon => (exact Va)); (case hd => rfl); (case hq => exact Yl_indexS (j := r) rfl rfl (by omega)))
              repeat (first | refine Vx ?_ | (apply Ops_q; (case hon => exact Va); (case hd => rfl); (case hq => exact YlA)) | refine Vr ?_ | refine Vt ?_ | refine Vf ?_ | refine Vm ?_ | refine Ve ?_ | refine Vo ?_ | refine Vz ?_ | refine Vn ?_)
              (apply Ops_q; (case hon => (exact Va)); (case hd => rfl); (case hq => exact Yl_call rfl (fun w_ e_ => lessU_v x y w_)))
              repeat (first | refine Vx ?_ | (apply Ops_q; (case hon => exact Va); (case hd => rfl); (case hq => exact YlA)) | refine Vr ?_ | refine Vt ?_ | refine Vf ?_ | refine Vm ?_ | refine Ve ?_ | refine Vo ?_ | refine Vz ?_ | refine Vn ?_)
              refine V_cond rfl (fun hlt => ?_) (fun hlt => ?_)
              · replace hlt : ¬ltU x y < 0 := by
                  have : ¬(x < y) := fun h => by simp [h] at hlt
                  simp only [ltU]; omega
                repeat (first | refine Vx ?_ | (apply Ops_q; (case hon => exact Va); (case hd => rfl); (case hq => exact YlA)) | refine Vr ?_ | refine Vt ?_ | refine Vf ?_ | refine Vm ?_ | refine Ve ?_ | refine Vo ?_ | refine Vz ?_ | refine Vn ?_)
                exact ⟨M, (by repeat (first | exact trivial | refine ⟨rfl, ?_⟩)), m3, D3, hM, (hA.stop ordU (.inr ⟨x, y, hx, hy, hlt⟩)).part (Nat.le_refl _) (by omega)⟩
              · replace hlt : ltU x y < 0 := by
                  have : x < y := by
                    by_cases h : x < y
                    · exact h
                    · simp [h] at hlt
                  simp only [ltU]; omega
                have har : a ≤ r := by
                  rcases Nat.lt_or_ge r a with h | h
                  · exact absurd hlt ((hp.moved' hM (Nat.le_refl _)) r (r + 1) y x (Nat.zero_le _) h h3 (by omega) hy hx)
                  · exact h
                repeat (first | refine Vx ?_ | (apply Ops_q; (case hon => exact Va); (case hd => rfl); (case hq => exact YlA)) | refine Vt ?_ | refine Vf ?_ | refine Vm ?_ | refine Ve ?_ | refine Vo ?_ | refine Vz ?_ | refine Vn ?_)
                refine V_store (R := fun w' => DatU w' base g n cap (M.set (r + 1) y) ∧ Mod (fun c => c = g) w3 w') 16 15 (fun _ _ he h => ⟨h.1.ext he, h.2.ext he⟩) (by kernel_rfl) rfl (by kernel_rfl) ?_
                repeat (first
                  | (refine YsS.pure rfl rfl rfl rfl rfl (fun w_ => (by first | exact Yl_move rfl | exact Yl_pred rfl rfl (by omega) | exact Yl_arith_in rfl rfl rfl (by first | assumption | (simp only [InK]; omega)))) ?_)
                  | (refine YsS.load rfl rfl rfl rfl rfl (by first | exact Yl_load rfl hcx | exact Yl_load rfl hcy) ?_))
                refine YsS.pure rfl rfl rfl rfl rfl (fun w_ => Yl_indexS (j := r) rfl rfl (by omega)) ?_
                repeat (first
                  | (refine YsS.pure rfl rfl rfl rfl rfl (fun w_ => (by first | exact Yl_move rfl | exact Yl_pred rfl rfl (by omega) | exact Yl_arith_in rfl rfl rfl (by first | assumption | (simp only [InK]; omega)))) ?_)
                  | (refine YsS.load rfl rfl rfl rfl rfl (by first | exact Yl_load rfl hcx | exact Yl_load rfl hcy) ?_))
                refine YsS.pure rfl rfl rfl rfl rfl (fun w_ => Yl_indexS (j := (r+1)) rfl rfl (by omega)) ?_
                repeat (first
                  | (refine YsS.pure rfl rfl rfl rfl rfl (fun w_ => (by first | exact Yl_move rfl | exact Yl_pred rfl rfl (by omega) | exact Yl_arith_in rfl rfl rfl (by first | assumption | (simp only [InK]; omega)))) ?_)
                  | (refine YsS.load rfl rfl rfl rfl rfl (by first | exact Yl_load rfl hcx | exact Yl_load rfl hcy) ?_))
                refine YsS.pure rfl rfl rfl rfl rfl (fun w_ => Yl_indexS (j := (r+1)) rfl rfl (by omega)) ?_
                refine YsS.nil rfl ⟨fun a_ ag_ w_ hw_ => storeDatU_run (i := r + 1) (v := y) rfl rfl rfl D3 (by omega) a_ ag_ w_ hw_, ?_⟩
                repeat (first
                  | (refine YsS.pure rfl rfl rfl rfl rfl (fun w_ => (by first | exact Yl_move rfl | exact Yl_pred rfl rfl (by omega) | exact Yl_arith_in rfl rfl rfl (by first | assumption | (simp only [InK]; omega)))) ?_)
                  | (refine YsS.load rfl rfl rfl rfl rfl (by first | exact Yl_load rfl hcx | exact Yl_load rfl hcy) ?_))
                refine YsS.nil rfl ?_
                rintro w4 ⟨D4, m4⟩
                repeat (first | refine Vx ?_ | (apply Ops_q; (case hon => exact Va); (case hd => rfl); (case hq => exact YlA)) | refine Vr ?_ | refine Vt ?_ | refine Vf ?_ | refine Vm ?_ | refine Ve ?_ | refine Vo ?_ | refine Vz ?_ | refine Vn ?_)
                (apply Ops_q; (case hon => (exact Va)); (case hd => rfl); (case hq => exact Yl_indexS (j := r) rfl rfl (by omega)))
                repeat (first | refine Vx ?_ | (apply Ops_q; (case hon => exact Va); (case hd => rfl); (case hq => exact YlA)) | refine Vr ?_ | refine Vt ?_ | refine Vf ?_ | refine Vm ?_ | refine Ve ?_ | refine Vo ?_ | refine Vz ?_ | refine Vn ?_)
                refine Ops_storeDatU (i := r) (v := x) (by exact Va) rfl rfl rfl D4 (by omega) ?_
                intro w5 D5 g5
                have m5 : Mod (BlkU g) w w5 := (m3.trans m4).grow g5 (fun b hb => .inl (by cases hb; rfl))
                have hsw : (M.set (r + 1) y).set r x = swp M (r + 1) r := by unfold swp; rw [hx, hy]
                rw [hsw] at D5
                repeat (first | refine Vx ?_ | (apply Ops_q; (case hon => exact Va); (case hd => rfl); (case hq => exact YlA)) | refine Vr ?_ | refine Vt ?_ | refine Vf ?_ | refine Vm ?_ | refine Ve ?_ | refine Vo ?_ | refine Vz ?_ | refine Vn ?_)
                rw [hs1]
                refine ⟨(r, swp M (r + 1) r), (by repeat (first | exact trivial | refine ⟨rfl, ?_⟩)), ⟨har, by dsimp only; omega, m5, D5, hM.trans (Moved.swp (by omega) (by omega) (by omega)), hA.step ordU har (by omega) (by omega) hx hy hlt⟩, by simp only; omega⟩
            · replace hj := of_decide_eq_false hj
              repeat (first | refine Vx ?_ | (apply Ops_q; (case hon => exact Va); (case hd => rfl); (case hq => exact YlA)) | refine Vr ?_ | refine Vt ?_ | refine Vf ?_ | refine Vm ?_ | refine Ve ?_ | refine Vo ?_ | refine Vz ?_ | refine Vn ?_)
              exact ⟨M, (by repeat (first | exact trivial | refine ⟨rfl, ?_⟩)), m3, D3, hM, (hA.stop ordU (.inl (by omega))).part (Nat.le_refl _) (by omega)⟩
          · replace h2 := of_decide_eq_false h2
            repeat (first | refine Vx ?_ | (apply Ops_q; (case hon => exact Va); (case hd => rfl); (case hq => exact YlA)) | refine Vr ?_ | refine Vt ?_ | refine Vf ?_ | refine Vm ?_ | refine Ve ?_ | refine Vo ?_ | refine Vz ?_ | refine Vn ?_)
            exact ⟨M5, (by repeat (first | exact trivial | refine ⟨rfl, ?_⟩)), m5, D5, hM5, Asc.one (by omega)⟩
        clear m5 D5 hM5 hA5
        rintro M w3 ⟨m3, D3, hM, hA⟩
        repeat (first | refine Vx ?_ | (apply Ops_q; (case hon => exact Va); (case hd => rfl); (case hq => exact YlA)) | refine Vr ?_ | refine Vt ?_ | refine Vf ?_ | refine Vm ?_ | refine Ve ?_ | refine Vo ?_ | refine Vz ?_ | refine Vn ?_)
        refine V_cond rfl (fun h2 => ?_) (fun h2 => ?_)
        · replace h2 := of_decide_eq_true h2
          repeat (first | refine Vx ?_ | (apply Ops_q; (case hon => exact Va); (case hd => rfl); (case hq => exact YlA)) | refine Vr ?_ | refine Vt ?_ | refine Vf ?_ | refine Vm ?_ | refine Ve ?_ | refine Vo ?_ | refine Vz ?_ | refine Vn ?_)
          refine V_loop (fun s : Nat × List Int => [(10, .int .i64 s.1), (7, .int .i64 (p + 1 : Nat)), (8, .int .i64 q), (0, .slice (some ⟨g, 0, none⟩) n cap), (1, .int .i64 a), (2, .int .i64 b)])
            (fun s w' => p + 2 ≤ s.1 ∧ s.1 ≤ b ∧ Mod (BlkU g) w w' ∧ DatU w' base g n cap s.2 ∧ Moved L s.2 a b ∧ Asc ltU s.2 a (p + 1)) (fun s => b - s.1) (p + 2, M) (by repeat (first | exact trivial | refine ⟨rfl, ?_⟩))
            ⟨Nat.le_refl _, by dsimp only; omega, m3, D3, hM, hA⟩ ?_
          clear m3 D3 hM hA
          rintro ⟨j, M⟩ w3 ⟨h3, h4, m3, D3, hM, hA⟩
          dsimp only at h3 h4 D3 hM hA ⊢
          have hMl := D3.len
          repeat (first | refine Vx ?_ | (apply Ops_q; (case hon => exact Va); (case hd => rfl); (case hq => exact YlA)) | refine Vr ?_ | refine Vt ?_ | refine Vf ?_ | refine Vm ?_ | refine Ve ?_ | refine Vo ?_ | refine Vz ?_ | refine Vn ?_)
          refine V_cond rfl (fun hj => ?_) (fun hj => ?_)
          · replace hj := of_decide_eq_true hj
            obtain ⟨r, rfl⟩ : ∃ r, j = r + 1 := ⟨j - 1, by omega⟩
            have hs1 : ((r + 1 : Nat) : Int) - 1 = (r : Int) := by omega
            obtain ⟨x, hx⟩ := D3.get (k := r + 1) (by omega)
            obtain ⟨y, hy⟩ := D3.get (k := r) (by omega)
            have hcx := D3.at hx
            have hcy := D3.at hy
            repeat (first | refine Vx ?_ | (apply Ops_q; (case hon => exact Va); (case hd => rfl); (case hq => exact YlA)) | refine Vr ?_ | refine Vt ?_ | refine Vf ?_ | refine Vm ?_ | refine Ve ?_ | refine Vo ?_ | refine Vz ?_ | refine Vn ?_)
            (apply Ops_q; (case hon => (exact Va)); (case hd => rfl); (case hq => exact Yl_indexS (j := (r+1)) rfl rfl (by omega)))
            repeat (first | refine Vx ?_ | (apply Ops_q; (case hon => exact Va); (case hd => rfl); (case hq => exact YlA)) | refine Vr ?_ | refine Vt ?_ | refine Vf ?_ | refine Vm ?_ | refine Ve ?_ | refine Vo ?_ | refine Vz ?_ | refine Vn ?_)
            rw [hs1]
            (apply Ops_q; (case hon => (exact Va)); (case hd => rfl); (case hq => exact Yl_indexS (j := r) rfl rfl (by omega)))
            repeat (first | refine Vx ?_ | (apply Ops_q; (case hon => exact Va); (case hd => rfl); (case hq => exact YlA)) | refine Vr ?_ | refine Vt ?_ | refine Vf ?_ | refine Vm ?_ | refine Ve ?_ | refine Vo ?_ | refine Vz ?_ | refine Vn ?_)
            (apply Ops_q; (case hon => (exact Va)); (case hd => rfl); (case hq => exact Yl_call rfl (fun w_ e_ => lessU_v x y w_)))
            repeat (first | refine Vx ?_ | (apply Ops_q; (case hon => exact Va); (case hd => rfl); (case hq => exact YlA)) | refine Vr ?_ | refine Vt ?_ | refine Vf ?_ | refine Vm ?_ | refine Ve ?_ | refine Vo ?_ | refine Vz ?_ | refine Vn ?_)
            refine V_cond rfl (fun hlt => ?_) (fun hlt => ?_)
            · repeat (first | refine Vx ?_ | (apply Ops_q; (case hon => exact Va); (case hd => rfl); (case hq => exact YlA)) | refine Vr ?_ | refine Vt ?_ | refine Vf ?_ | refine Vm ?_ | refine Ve ?_ | refine Vo ?_ | refine Vz ?_ | refine Vn ?_)
              exact ⟨(q + 1, p + 1, M), (by repeat (first | exact trivial | refine ⟨rfl, ?_⟩)), ⟨by dsimp only; omega, by assumption, by assumption, m3, D3, hM, hA⟩, by simp only; omega⟩
            · repeat (first | refine Vx ?_ | (apply Ops_q; (case hon => exact Va); (case hd => rfl); (case hq => exact YlA)) | refine Vt ?_ | refine Vf ?_ | refine Vm ?_ | refine Ve ?_ | refine Vo ?_ | refine Vz ?_ | refine Vn ?_)
              refine V_store (R := fun w' => DatU w' base g n cap (M.set (r + 1) y) ∧ Mod (fun c => c = g) w3 w') 16 15 (fun _ _ he h => ⟨h.1.ext he, h.2.ext he⟩) (by kernel_rfl) rfl (by kernel_rfl) ?_
              repeat (first
                | (refine YsS.pure rfl rfl rfl rfl rfl (fun w_ => (by first | exact Yl_move rfl | exact Yl_pred rfl rfl (by omega) | exact Yl_arith_in rfl rfl rfl (by first | assumption | (simp only [InK]; omega)))) ?_)
                | (refine YsS.load rfl rfl rfl rfl rfl (by first | exact Yl_load rfl hcx | exact Yl_load rfl hcy) ?_))
              refine YsS.pure rfl rfl rfl rfl rfl (fun w_ => Yl_indexS (j := r) rfl rfl (by omega)) ?_
              repeat (first
                | (refine YsS.pure rfl rfl rfl rfl rfl (fun w_ => (by first | exact Yl_move rfl | exact Yl_pred rfl rfl (by omega) | exact Yl_arith_in rfl rfl rfl (by first | assumption | (simp only [InK]; omega)))) ?_)
                | (refine YsS.load rfl rfl rfl rfl rfl (by first | exact Yl_load rfl hcx | exact Yl_load rfl hcy) ?_))
              refine YsS.pure rfl rfl rfl rfl rfl (fun w_ => Yl_indexS (j := (r+1)) rfl rfl (by omega)) ?_
              repeat (first
                | (refine YsS.pure rfl rfl rfl rfl rfl (fun w_ => (by first | exact Yl_move rfl | exact Yl_pred rfl rfl (by omega) | exact Yl_arith_in rfl rfl rfl (by first | assumption | (simp only [InK]; omega)))) ?_)
                | (refine YsS.load rfl rfl rfl rfl rfl (by first | exact Yl_load rfl hcx | exact Yl_load rfl hcy) ?_))
              refine YsS.pure rfl rfl rfl rfl rfl (fun w_ => Yl_indexS (j := (r+1)) rfl rfl (by omega)) ?_
              refine YsS.nil rfl ⟨fun a_ ag_ w_ hw_ => storeDatU_run (i := r + 1) (v := y) rfl rfl rfl D3 (by omega) a_ ag_ w_ hw_, ?_⟩
              repeat (first
                | (refine YsS.pure rfl rfl rfl rfl rfl (fun w_ => (by first | exact Yl_move rfl | exact Yl_pred rfl rfl (by omega) | exact Yl_arith_in rfl rfl rfl (by first | assumption | (simp only [InK]; omega)))) ?_)
                | (refine YsS.load rfl rfl rfl rfl rfl (by first | exact Yl_load rfl hcx | exact Yl_load rfl hcy) ?_))
              refine YsS.nil rfl ?_
              rintro w4 ⟨D4, m4⟩
              repeat (first | refine Vx ?_ | (apply Ops_q; (case hon => exact Va); (case hd => rfl); (case hq => exact YlA)) | refine Vr ?_ | refine Vt ?_ | refine Vf ?_ | refine Vm ?_ | refine Ve ?_ | refine Vo ?_ | refine Vz ?_ | refine Vn ?_)
              (apply Ops_q; (case hon => (exact Va)); (case hd => rfl); (case hq => exact Yl_indexS (j := r) rfl rfl (by omega)))
              repeat (first | refine Vx ?_ | (apply Ops_q; (case hon => exact Va); (case hd => rfl); (case hq => exact YlA)) | refine Vr ?_ | refine Vt ?_ | refine Vf ?_ | refine Vm ?_ | refine Ve ?_ | refine Vo ?_ | refine Vz ?_ | refine Vn ?_)
              refine Ops_storeDatU (i := r) (v := x) (by exact Va) rfl rfl rfl D4 (by omega) ?_
              intro w5 D5 g5
              have m5 : Mod (BlkU g) w w5 := (m3.trans m4).grow g5 (fun b hb => .inl (by cases hb; rfl))
              have hsw : (M.set (r + 1) y).set r x = swp M (r + 1) r := by unfold swp; rw [hx, hy]
              rw [hsw] at D5
              repeat (first | refine Vx ?_ | (apply Ops_q; (case hon => exact Va); (case hd => rfl); (case hq => exact YlA)) | refine Vr ?_ | refine Vt ?_ | refine Vf ?_ | refine Vm ?_ | refine Ve ?_ | refine Vo ?_ | refine Vz ?_ | refine Vn ?_)
              have hs := Moved.swp (L := M) (i := r + 1) (j := r) (a := p + 1) (b := b) (by omega) (by omega) (by omega)
              refine ⟨(r + 1 + 1, swp M (r + 1) r), (by repeat (first | exact trivial | refine ⟨rfl, ?_⟩)), ⟨by dsimp only; omega, by dsimp only; omega, m5, D5, hM.trans (hs.wide (by omega) (Nat.le_refl _)), hA.same fun k _ hk => hs.out k (.inl hk)⟩, by simp only; omega⟩
          · repeat (first | refine Vx ?_ | (apply Ops_q; (case hon => exact Va); (case hd => rfl); (case hq => exact YlA)) | refine Vr ?_ | refine Vt ?_ | refine Vf ?_ | refine Vm ?_ | refine Ve ?_ | refine Vo ?_ | refine Vz ?_ | refine Vn ?_)
            exact ⟨(q + 1, p + 1, M), (by repeat (first | exact trivial | refine ⟨rfl, ?_⟩)), ⟨by dsimp only; omega, by assumption, by assumption, m3, D3, hM, hA⟩, by simp only; omega⟩
        · repeat (first | refine Vx ?_ | (apply Ops_q; (case hon => exact Va); (case hd => rfl); (case hq => exact YlA)) | refine Vr ?_ | refine Vt ?_ | refine Vf ?_ | refine Vm ?_ | refine Ve ?_ | refine Vo ?_ | refine Vz ?_ | refine Vn ?_)
          exact ⟨(q + 1, p + 1, M), (by repeat (first | exact trivial | refine ⟨rfl, ?_⟩)), ⟨by dsimp only; omega, by assumption, by assumption, m3, D3, hM, hA⟩, by simp only; omega⟩
    · have hd : decide (((p + 1 : Nat) : Int) < (b : Int)) = false := decide_eq_false (by omega)
      repeat (first | refine Vx ?_ | (apply Ops_q; (case hon => exact Va); (case hd => rfl); (case hq => exact YlA)) | refine Vr ?_ | refine Vt ?_ | refine Vf ?_ | refine Vm ?_ | refine Ve ?_ | refine Vo ?_ | refine Vz ?_ | refine Vn ?_)
      refine Ops_know rfl rfl hd ?_
      repeat (first | refine Vx ?_ | (apply Ops_q; (case hon => exact Va); (case hd => rfl); (case hq => exact YlA)) | refine Vr ?_ | refine Vt ?_ | refine Vf ?_ | refine Vm ?_ | refine Ve ?_ | refine Vo ?_ | refine Vz ?_ | refine Vn ?_)
      refine V_yes rfl (decide_eq_true (by omega : ((p + 1 : Nat) : Int) = (b : Int))) ?_
      repeat (first | refine Vx ?_ | (apply Ops_q; (case hon => exact Va); (case hd => rfl); (case hq => exact YlA)) | refine Vr ?_ | refine Vt ?_ | refine Vf ?_ | refine Vm ?_ | refine Ve ?_ | refine Vo ?_ | refine Vz ?_ | refine Vn ?_)
      refine ret1 (by first | exact .inl rfl | exact .inr rfl) rfl rfl ?_
      obtain rfl : b = p + 1 := by omega
      exact Does_mk (fun w' he => ⟨M, D3.ext he, true, rfl, hM, fun _ => hA⟩) m3
  · repeat (first | refine Vx ?_ | (apply Ops_q; (case hon => exact Va); (case hd => rfl); (case hq => exact YlA)) | refine Vr ?_ | refine Vt ?_ | refine Vf ?_ | refine Vm ?_ | refine Ve ?_ | refine Vo ?_ | refine Vz ?_ | refine Vn ?_)
    refine ret1 (by first | exact .inl rfl | exact .inr rfl) rfl rfl ?_
    exact Does_mk (fun w' he => ⟨M, D3.ext he, false, rfl, hM, nofun⟩) m3
end
end Go.Proofs.Ytjpnaofoeeegeaa

/-
  Sorting in plain lists, what Sort needs beyond insertion: heaps, partitions, the state of the outer loop.
  No conditions beyond those that each statement names.
-/
namespace Go.Proofs.Ytjpnaofoeeegeaa

section
variable {α : Type} {L L' M M' : List α} {a b i j n r f lo : Nat} {cf : α → α → Int}
/-- A heap from the place lo on, but for what stands at r. -/
structure HeapX (cf : α → α → Int) (L : List α) (f lo n r : Nat) : Prop where
  kids : ∀ i c x y, lo ≤ i → i ≠ r → (c = 2 * i + 1 ∨ c = 2 * i + 2) → c < n → L[f + i]? = some x → L[f + c]? = some y → ¬cf x y < 0
  grand : ∀ p c x y, lo ≤ p → (r = 2 * p + 1 ∨ r = 2 * p + 2) → (c = 2 * r + 1 ∨ c = 2 * r + 2) → c < n → L[f + p]? = some x → L[f + c]? = some y → ¬cf x y < 0
def Heap (cf : α → α → Int) (L : List α) (f lo n : Nat) : Prop := ∀ i c x y, lo ≤ i → (c = 2 * i + 1 ∨ c = 2 * i + 2) → c < n → L[f + i]? = some x → L[f + c]? = some y → ¬cf x y < 0
theorem HeapX.leaf (h : HeapX cf L f lo n r) (hr : n ≤ 2 * r + 1) : Heap cf L f lo n := fun i c x y h1 h2 h3 hx hy => h.kids i c x y h1 (by omega) h2 h3 hx hy
theorem HeapX.stop (ho : Ord cf) (h : HeapX cf L f lo n r) {x y : α} (hx : L[f + r]? = some x) (hlt : ¬cf x y < 0) (hmax : ∀ c z, (c = 2 * r + 1 ∨ c = 2 * r + 2) → c < n → L[f + c]? = some z → ¬cf y z < 0) : Heap cf L f lo n := by
  intro i c u v h1 h2 h3 hu hv
  by_cases e : i = r
  · subst e
    rw [hx] at hu; cases hu
    exact ho.tr _ _ _ (hmax c v h2 h3 hv) hlt
  · exact h.kids i c u v h1 e h2 h3 hu hv
theorem HeapX.step (ho : Ord cf) (h : HeapX cf L f lo n r) {c : Nat} (hr : lo ≤ r) (hc : c = 2 * r + 1 ∨ c = 2 * r + 2) (hcn : c < n) (hl : f + n ≤ L.length) {x y : α} (hx : L[f + r]? = some x) (hy : L[f + c]? = some y) (hlt : cf x y < 0)
    (hmax : ∀ c z, (c = 2 * r + 1 ∨ c = 2 * r + 2) → c < n → L[f + c]? = some z → ¬cf y z < 0) : HeapX cf (swp L (f + r) (f + c)) f lo n c := by
  have g := swp_get (L := L) (i := f + r) (j := f + c) (by omega) (by omega)
  refine ⟨fun i d u v h1 h2 h3 h4 hu hv => ?_, fun p d u v h1 h2 h3 h4 hu hv => ?_⟩
  · rw [g] at hu hv
    rw [if_neg (by omega)] at hu
    by_cases e1 : i = r
    · subst e1
      rw [if_pos rfl, hy] at hu; cases hu
      by_cases e2 : d = c
      · rw [if_pos (by omega), hx] at hv; cases hv
        exact ho.tot _ _ hlt
      · rw [if_neg (by omega), if_neg (by omega)] at hv
        exact hmax d v h3 h4 hv
    · rw [if_neg (by omega)] at hu
      rw [if_neg (by omega)] at hv
      by_cases e2 : d = r
      · rw [if_pos (by omega), hy] at hv; cases hv
        exact h.grand i c u y h1 (by omega) hc hcn hu hy
      · rw [if_neg (by omega)] at hv
        exact h.kids i d u v h1 e1 h3 h4 hu hv
  · obtain rfl : p = r := by omega
    rw [g, if_neg (by omega), if_pos rfl, hy] at hu; cases hu
    rw [g, if_neg (by omega), if_neg (by omega)] at hv
    exact h.kids c d y v (by omega) (by omega) h3 h4 hy hv
theorem Heap.next (h : Heap cf L f (r + 1) n) : HeapX cf L f r n r := ⟨fun i c x y h1 h2 h3 h4 hx hy => h i c x y (by omega) h3 h4 hx hy, fun p c x y h1 h2 => by omega⟩
theorem Heap.none (h : n ≤ 2 * lo + 1) : Heap cf L f lo n := fun i c x y h1 h2 h3 => by omega
theorem Heap.top (ho : Ord cf) (h : Heap cf L f 0 n) (hl : f + n ≤ L.length) {x : α} (hx : L[f]? = some x) : ∀ k y, k < n → L[f + k]? = some y → ¬cf x y < 0 := by
  intro k
  induction k using Nat.strongRecOn with
  | ind k ih =>
    intro y hk hy
    by_cases e : k = 0
    · subst e
      rw [Nat.add_zero, hx] at hy; cases hy
      exact fun hh => ho.tot _ _ hh hh
    · have hz : L[f + (k - 1) / 2]? = some (L[f + (k - 1) / 2]'(by omega)) := List.getElem?_eq_getElem _
      exact ho.tr _ _ _ (h ((k - 1) / 2) k _ y (Nat.zero_le _) (by omega) hk hz hy) (ih ((k - 1) / 2) (by omega) _ (by omega) hz)
/-- The second phase of a heap sort: the first k elements are a heap, the others are in order and not less. -/
structure HSt (cf : α → α → Int) (L : List α) (f k b : Nat) : Prop where
  heap : Heap cf L f 0 k
  asc : Asc cf L (f + k) b
  below : Below2 cf L f (f + k) (f + k) b
theorem HSt.start (h : Heap cf L f 0 n) (hb : b = f + n) : HSt cf L f n b := ⟨h, Asc.one (by omega), fun i j x y h1 h2 h3 h4 => by omega⟩
theorem HSt.swap (ho : Ord cf) {k : Nat} (h : HSt cf L f (k + 1) b) (hb : f + k < b) (hl : b ≤ L.length) :
    HeapX cf (swp L f (f + k)) f 0 k 0 ∧ Asc cf (swp L f (f + k)) (f + k) b ∧ Below2 cf (swp L f (f + k)) f (f + k) (f + k) b := by
  have g := swp_get (L := L) (i := f) (j := f + k) (by omega) (by omega)
  have hx : L[f]? = some (L[f]'(by omega)) := List.getElem?_eq_getElem _
  generalize L[f]'(by omega) = x at hx
  have ht := h.heap.top ho (by omega) hx
  have hb2 := h.below
  refine ⟨⟨fun i c u v h1 h2 h3 h4 hu hv => ?_, fun p c u v h1 h2 => by omega⟩, fun i j u v h1 h2 h3 hu hv => ?_, fun i j u v h1 h2 h3 h4 hu hv => ?_⟩
  · rw [g, if_neg (by omega), if_neg (by omega)] at hu hv
    exact h.heap i c u v h1 h3 (by omega) hu hv
  · rw [g, if_neg (by omega), if_neg (by omega)] at hv
    rw [g] at hu
    by_cases e : i = f + k
    · rw [if_pos e] at hu
      exact hb2 f j u v (by omega) (by omega) (by omega) h3 hu hv
    · rw [if_neg e, if_neg (by omega)] at hu
      exact h.asc i j u v (by omega) h2 h3 hu hv
  · have hu' : ∃ i', f ≤ i' ∧ i' < f + (k + 1) ∧ L[i']? = some u := by
      rw [g, if_neg (by omega)] at hu
      by_cases e : i = f
      · rw [if_pos e] at hu; exact ⟨_, by omega, by omega, hu⟩
      · rw [if_neg e] at hu; exact ⟨_, by omega, by omega, hu⟩
    obtain ⟨i', p1, p2, p3⟩ := hu'
    rw [g] at hv
    by_cases e : j = f + k
    · rw [if_pos e, hx] at hv; cases hv
      obtain ⟨q, rfl⟩ : ∃ q, i' = f + q := ⟨i' - f, by omega⟩
      exact ht q u (by omega) p3
    · rw [if_neg e, if_neg (by omega)] at hv
      exact hb2 i' j u v p1 p2 (by omega) h4 p3 hv
theorem HSt.next {k : Nat} (h1 : Heap cf L' f 0 k) (h2 : Asc cf L (f + k) b) (h3 : Below2 cf L f (f + k) (f + k) b) (hm : Moved L L' f (f + k)) : HSt cf L' f k b :=
  ⟨h1, h2.same fun x hx _ => hm.out x (.inr hx), h3.moved hm (Nat.le_refl _)⟩
/-! ### Partitions -/
structure PtS (P Q : α → Prop) (M : List α) (a i j b : Nat) : Prop where
  left : ∀ k x, a < k → k < i → M[k]? = some x → P x
  right : ∀ k x, j < k → k < b → M[k]? = some x → Q x
section
variable {P Q : α → Prop}
theorem PtS.start (h : j + 1 = b) : PtS P Q M a (a + 1) j b := ⟨fun k x h1 h2 => by omega, fun k x h1 h2 => by omega⟩
theorem PtS.inc (h : PtS P Q M a i j b) {x : α} (hx : M[i]? = some x) (hp : P x) : PtS P Q M a (i + 1) j b := ⟨fun k y h1 h2 hy => by
  by_cases e : k = i
  · subst e; rw [hx] at hy; cases hy; exact hp
  · exact h.left k y h1 (by omega) hy, h.right⟩
theorem PtS.dec (h : PtS P Q M a i (j + 1) b) {x : α} (hx : M[j + 1]? = some x) (hq : Q x) : PtS P Q M a i j b := ⟨h.left, fun k y h1 h2 hy => by
  by_cases e : k = j + 1
  · subst e; rw [hx] at hy; cases hy; exact hq
  · exact h.right k y (by omega) h2 hy⟩
theorem PtS.swap (h : PtS P Q M a i (j + 1) b) (hij : i < j + 1) (hl : j + 1 < M.length) {x y : α} (hx : M[i]? = some x) (hy : M[j + 1]? = some y) (hq : Q x) (hp : P y) : PtS P Q (swp M i (j + 1)) a (i + 1) j b := by
  have g := swp_get (L := M) (i := i) (j := j + 1) (by omega) (by omega)
  refine ⟨fun k z h1 h2 hz => ?_, fun k z h1 h2 hz => ?_⟩
  · rw [g, if_neg (by omega)] at hz
    by_cases e : k = i
    · rw [if_pos e, hy] at hz; cases hz; exact hp
    · rw [if_neg e] at hz; exact h.left k z h1 (by omega) hz
  · rw [g] at hz
    by_cases e : k = j + 1
    · rw [if_pos e, hx] at hz; cases hz; exact hq
    · rw [if_neg e, if_neg (by omega)] at hz; exact h.right k z (by omega) h2 hz
end
theorem part_end (ho : Ord cf) {pv : α} (h : PtS (fun x => cf x pv < 0) (fun x => ¬cf x pv < 0) M a (j + 1) j b) (hp : M[a]? = some pv) (haj : a ≤ j) (hj : j < M.length) :
    Below2 cf (swp M j a) a j j b ∧ Below2 cf (swp M j a) a (j + 1) (j + 1) b := by
  have g := swp_get (L := M) (i := j) (j := a) hj (by omega)
  have hl : ∀ k x, a ≤ k → k < j → (swp M j a)[k]? = some x → cf x pv < 0 := fun k x h1 h2 hx => by
    rw [g] at hx
    by_cases e : k = a
    · rw [if_pos e] at hx; exact h.left j x (by omega) (by omega) hx
    · rw [if_neg e, if_neg (by omega)] at hx; exact h.left k x (by omega) (by omega) hx
  have hm : ∀ x, (swp M j a)[j]? = some x → x = pv := fun x hx => by
    rw [g] at hx
    by_cases e : j = a
    · rw [if_pos e, e, hp] at hx; exact (Option.some.inj hx).symm
    · rw [if_neg e, if_pos rfl, hp] at hx; exact (Option.some.inj hx).symm
  have hr : ∀ k x, j < k → k < b → (swp M j a)[k]? = some x → ¬cf x pv < 0 := fun k x h1 h2 hx => by
    rw [g, if_neg (by omega), if_neg (by omega)] at hx; exact h.right k x h1 h2 hx
  have irr : ∀ x, ¬cf x x < 0 := fun x hh => ho.tot _ _ hh hh
  refine ⟨fun i k x y h1 h2 h3 h4 hx hy => ?_, fun i k x y h1 h2 h3 h4 hx hy => ?_⟩
  · by_cases e : k = j
    · subst e; rw [hm y hy]; exact ho.tot _ _ (hl i x h1 h2 hx)
    · exact ho.tr _ _ _ (ho.tot _ _ (hl i x h1 h2 hx)) (hr k y (by omega) h4 hy)
  · by_cases e : i = j
    · subst e; rw [hm x hx]; exact hr k y (by omega) h4 hy
    · exact ho.tr _ _ _ (ho.tot _ _ (hl i x h1 (by omega) hx)) (hr k y (by omega) h4 hy)
/-! ### The outer loop -/
structure PdS (cf : α → α → Int) (L M : List α) (a0 a b b0 : Nat) : Prop where
  h1 : a0 ≤ a
  h2 : a ≤ b
  h3 : b ≤ b0
  mv : Moved L M a0 b0
  lo : Asc cf M a0 a
  hi : Asc cf M b b0
  bl : Below2 cf M a0 a a b0
  bh : Below2 cf M a0 b b b0
  pre : Below2 cf M 0 a0 a0 b0
section
variable {a0 b0 m : Nat}
theorem PdS.start (h : a ≤ b) (hp : Below2 cf L 0 a a b) : PdS cf L L a a b b :=
  ⟨Nat.le_refl _, h, Nat.le_refl _, .refl .., Asc.one (Nat.le_succ _), Asc.one (Nat.le_succ _), fun i j x y p1 p2 p3 p4 => by omega, fun i j x y p1 p2 p3 p4 => by omega, hp⟩
theorem PdS.pre' (h : PdS cf L M a0 a b b0) : Below2 cf M 0 a a b := fun i j x y p1 p2 p3 p4 hx hy => by
  have := h.h1; have := h.h3
  rcases Nat.lt_or_ge i a0 with c | c
  · exact h.pre i j x y p1 c (by omega) (by omega) hx hy
  · exact h.bl i j x y c p2 p3 (by omega) hx hy
theorem PdS.move (h : PdS cf L M a0 a b b0) (hm : Moved M M' a b) : PdS cf L M' a0 a b b0 := by
  have e1 := h.h1; have e2 := h.h2; have e3 := h.h3
  have w := hm.wide e1 e3
  exact ⟨e1, e2, e3, h.mv.trans w, h.lo.same fun k _ hk => hm.out k (.inl hk), h.hi.same fun k hk _ => hm.out k (.inr hk), h.bl.moved' (hm.wide (Nat.le_refl _) e3) (Nat.le_refl _), h.bh.moved (hm.wide e1 (Nat.le_refl _)) (Nat.le_refl _), h.pre.moved' w (Nat.le_refl _)⟩
theorem PdS.fin (h : PdS cf L M a0 a b b0) (hs : Asc cf M a b) : Asc cf M a0 b0 := by
  have e1 := h.h1; have e2 := h.h2; have e3 := h.h3
  refine Asc.join (Asc.join h.lo hs fun i j x y p1 p2 p3 p4 hx hy => h.bl i j x y p1 p2 p3 (by omega) hx hy) h.hi h.bh
theorem PdS.eq (h : PdS cf L M a0 a b b0) (hm1 : a ≤ m) (hm2 : m ≤ b) (hs : Asc cf M a m) (hb : Below2 cf M a m m b) : PdS cf L M a0 m b b0 := by
  have e1 := h.h1; have e2 := h.h2; have e3 := h.h3
  refine ⟨by omega, hm2, e3, h.mv, Asc.join h.lo hs fun i j x y p1 p2 p3 p4 hx hy => h.bl i j x y p1 p2 p3 (by omega) hx hy, h.hi, fun i j x y p1 p2 p3 p4 hx hy => ?_, h.bh, h.pre⟩
  rcases Nat.lt_or_ge i a with c | c
  · exact h.bl i j x y p1 c (by omega) p4 hx hy
  rcases Nat.lt_or_ge j b with d | d
  · exact hb i j x y c p2 p3 d hx hy
  · exact h.bh i j x y p1 (by omega) d p4 hx hy
theorem PdS.left (h : PdS cf L M a0 a b b0) (hm1 : a ≤ m) (hm2 : m < b) (hs : Asc cf M a m) (hb : Below2 cf M a m m b) (hb2 : Below2 cf M a (m + 1) (m + 1) b) : PdS cf L M a0 (m + 1) b b0 :=
  h.eq (by omega) hm2 (Asc.join hs (Asc.one (Nat.le_refl _)) fun i j x y p1 p2 p3 p4 hx hy => hb i j x y p1 p2 p3 (by omega) hx hy) hb2
theorem PdS.right (h : PdS cf L M a0 a b b0) (hm1 : a ≤ m) (hm2 : m < b) (hs : Asc cf M (m + 1) b) (hb : Below2 cf M a m m b) (hb2 : Below2 cf M a (m + 1) (m + 1) b) : PdS cf L M a0 a m b0 := by
  have e1 := h.h1; have e2 := h.h2; have e3 := h.h3
  refine ⟨e1, hm1, by omega, h.mv, h.lo, fun i j x y p1 p2 p3 hx hy => ?_, h.bl, fun i j x y p1 p2 p3 p4 hx hy => ?_, h.pre⟩
  · rcases Nat.lt_or_ge j b with d | d
    · rcases Nat.lt_or_ge m i with c | c
      · exact hs i j x y c p2 d hx hy
      · exact hb2 i j x y (by omega) (by omega) (by omega) d hx hy
    · rcases Nat.lt_or_ge i b with c | c
      · exact h.bh i j x y (by omega) c d p3 hx hy
      · exact h.hi i j x y c p2 p3 hx hy
  · rcases Nat.lt_or_ge i a with c | c
    · exact h.bl i j x y p1 c (by omega) p4 hx hy
    rcases Nat.lt_or_ge j b with d | d
    · exact hb i j x y c p2 p3 d hx hy
    · exact h.bh i j x y p1 (by omega) d p4 hx hy
end
end
end Go.Proofs.Ytjpnaofoeeegeaa

/-
  Sorting words (slices.Sort at uint64): siftDown, heapSort.
  Conditions: the list is one's own, and not too long for a machine.
-/
namespace Go.Proofs.Ytjpnaofoeeegeaa
open Go.RowKit

section
variable {base g n cap : Nat}
set_option maxHeartbeats 2000000 in
theorem siftU_v (L : List Int) (lo hi f : Nat) (w : World) (hD : DatU w base g n cap L) (hn : n ≤ 1000000000000) (hf : f + hi ≤ n) (hlo : lo ≤ hi) (hH : HeapX ltU L f lo hi lo) :
    Calls Try.prog 122 #[.slice (some ⟨g, 0, none⟩) n cap, .int .i64 lo, .int .i64 hi, .int .i64 f] w
      (Does (BlkU g) (DatV base g n cap (fun r L' => r = .tuple #[] ∧ Moved L L' f (f + hi) ∧ Heap ltU L' f lo hi)) w) := by
  refine V_enter (vs := [_, _, _, _]) Try.func122 rfl Try.ntmps122 (Nat.le_of_ble_eq_true rfl) ?_
  repeat (first | refine Vx ?_ | (apply Ops_q; (case hon => exact Va); (case hd => rfl); (case hq => exact YlA)) | refine Vr ?_ | refine Vt ?_ | refine Vf ?_ | refine Vm ?_ | refine Ve ?_ | refine Vo ?_ | refine Vz ?_ | refine Vn ?_)
  refine V_loop (fun s : Nat × List Int => [(8, .int .i64 s.1), (0, .slice (some ⟨g, 0, none⟩) n cap), (2, .int .i64 hi), (3, .int .i64 f)])
    (fun s w' => lo ≤ s.1 ∧ s.1 ≤ hi ∧ Mod (BlkU g) w w' ∧ DatU w' base g n cap s.2 ∧ Moved L s.2 f (f + hi) ∧ HeapX ltU s.2 f lo hi s.1) (fun s => hi - s.1) (lo, L) (by repeat (first | exact trivial | refine ⟨rfl, ?_⟩))
    ⟨Nat.le_refl _, hlo, .of_ext (Ext.refl _), hD, Moved.refl .., hH⟩ ?_
  clear hD hH
  rintro ⟨r, M⟩ w3 ⟨h1, h2, m3, D3, hM, hH⟩
  dsimp only at h1 h2 D3 hM hH ⊢
  have hMl := D3.len
  have e1 : 2 * (r : Int) + 1 = ((2 * r + 1 : Nat) : Int) := by omega
  repeat (first | refine Vx ?_ | (apply Ops_q; (case hon => exact Va); (case hd => rfl); (case hq => exact YlA)) | refine Vr ?_ | refine Vt ?_ | refine Vf ?_ | refine Vm ?_ | refine Ve ?_ | refine Vo ?_ | refine Vz ?_ | refine Vn ?_)
  rw [e1]
  refine V_cond rfl (fun hg => ?_) (fun hg => ?_)
  · replace hg := of_decide_eq_true hg
    repeat (first | refine Vx ?_ | (apply Ops_q; (case hon => exact Va); (case hd => rfl); (case hq => exact YlA)) | refine Vr ?_ | refine Vt ?_ | refine Vf ?_ | refine Vm ?_ | refine Ve ?_ | refine Vo ?_ | refine Vz ?_ | refine Vn ?_)
    refine ret0 (by first | exact .inl rfl | exact .inr rfl) rfl ?_
    exact Does_mk (fun w' he => ⟨M, D3.ext he, rfl, hM, hH.leaf (by omega)⟩) m3
  replace hg := of_decide_eq_false hg
  repeat (first | refine Vx ?_ | (apply Ops_q; (case hon => exact Va); (case hd => rfl); (case hq => exact YlA)) | refine Vr ?_ | refine Vt ?_ | refine Vf ?_ | refine Vm ?_ | refine Ve ?_ | refine Vo ?_ | refine Vz ?_ | refine Vn ?_)
  obtain ⟨x, hx⟩ := D3.get (k := f + (2 * r + 1)) (by omega)
  obtain ⟨y, hy⟩ : ∃ y, 2 * r + 2 < hi → M[f + (2 * r + 2)]? = some y := by
    by_cases hc : 2 * r + 2 < hi
    · obtain ⟨y, hy⟩ := D3.get (k := f + (2 * r + 2)) (by omega)
      exact ⟨y, fun _ => hy⟩
    · exact ⟨0, fun h => absurd h hc⟩
  obtain ⟨t, ht⟩ : ∃ t, t = (decide (2 * r + 2 < hi) && decide (x < y)) := ⟨_, rfl⟩
  refine Ops_meet [(36, .bool t), (9, .int .i64 (2 * r + 1 : Nat)), (8, .int .i64 r), (0, .slice (some ⟨g, 0, none⟩) n cap), (2, .int .i64 hi), (3, .int .i64 f)] ?_ ?_
  · by_cases hc : 2 * r + 2 < hi
    · have hd : decide (((2 * r + 1 : Nat) : Int) + 1 < (hi : Int)) = true := decide_eq_true (by omega)
      have e2 : (f : Int) + ((2 * r + 1 : Nat) : Int) = ((f + (2 * r + 1) : Nat) : Int) := by omega
      have e3 : ((f + (2 * r + 1) : Nat) : Int) + 1 = ((f + (2 * r + 2) : Nat) : Int) := by omega
      replace hy := hy hc
      have hcx := D3.at hx
      have hcy := D3.at hy
      repeat (first | refine Vx ?_ | (apply Ops_q; (case hon => exact Va); (case hd => rfl); (case hq => exact YlA)) | refine Vr ?_ | refine Vt ?_ | refine Vf ?_ | refine Vm ?_ | refine Ve ?_ | refine Vo ?_ | refine Vz ?_ | refine Vn ?_)
      refine Ops_know rfl rfl hd ?_
      repeat (first | refine Vx ?_ | (apply Ops_q; (case hon => exact Va); (case hd => rfl); (case hq => exact YlA)) | refine Vr ?_ | refine Vt ?_ | refine Vf ?_ | refine Vm ?_ | refine Ve ?_ | refine Vo ?_ | refine Vz ?_ | refine Vn ?_)
      rw [e2]
      (apply Ops_q; (case hon => (exact Va)); (case hd => rfl); (case hq => exact Yl_indexS (j := (f + (2 * r + 1))) rfl rfl (by omega)))
      repeat (first | refine Vx ?_ | (apply Ops_q; (case hon => exact Va); (case hd => rfl); (case hq => exact YlA)) | refine Vr ?_ | refine Vt ?_ | refine Vf ?_ | refine Vm ?_ | refine Ve ?_ | refine Vo ?_ | refine Vz ?_ | refine Vn ?_)
      rw [e2, e3]
      (apply Ops_q; (case hon => (exact Va)); (case hd => rfl); (case hq => exact Yl_indexS (j := (f + (2 * r + 2))) rfl rfl (by omega)))
      repeat (first | refine Vx ?_ | (apply Ops_q; (case hon => exact Va); (case hd => rfl); (case hq => exact YlA)) | refine Vr ?_ | refine Vt ?_ | refine Vf ?_ | refine Vm ?_ | refine Ve ?_ | refine Vo ?_ | refine Vz ?_ | refine Vn ?_)
      (apply Ops_q; (case hon => (exact Va)); (case hd => rfl); (case hq => exact Yl_call rfl (fun w_ e_ => lessU_v x y w_)))
      repeat (first | refine Vx ?_ | (apply Ops_q; (case hon => exact Va); (case hd => rfl); (case hq => exact YlA)) | refine Vr ?_ | refine Vt ?_ | refine Vf ?_ | refine Vm ?_ | refine Ve ?_ | refine Vo ?_ | refine Vz ?_ | refine Vn ?_)
      refine ⟨⟨?_, (by repeat (first | exact trivial | refine ⟨rfl, ?_⟩))⟩, rfl⟩
      rw [ht, decide_eq_true hc]; exact rfl
    · have hd : decide (((2 * r + 1 : Nat) : Int) + 1 < (hi : Int)) = false := decide_eq_false (by omega)
      repeat (first | refine Vx ?_ | (apply Ops_q; (case hon => exact Va); (case hd => rfl); (case hq => exact YlA)) | refine Vr ?_ | refine Vt ?_ | refine Vf ?_ | refine Vm ?_ | refine Ve ?_ | refine Vo ?_ | refine Vz ?_ | refine Vn ?_)
      refine Ops_know rfl rfl hd ?_
      repeat (first | refine Vx ?_ | (apply Ops_q; (case hon => exact Va); (case hd => rfl); (case hq => exact YlA)) | refine Vr ?_ | refine Vt ?_ | refine Vf ?_ | refine Vm ?_ | refine Ve ?_ | refine Vo ?_ | refine Vz ?_ | refine Vn ?_)
      refine ⟨⟨?_, (by repeat (first | exact trivial | refine ⟨rfl, ?_⟩))⟩, rfl⟩
      rw [ht, decide_eq_false hc]; exact rfl
  repeat (first | refine Vx ?_ | (apply Ops_q; (case hon => exact Va); (case hd => rfl); (case hq => exact YlA)) | refine Vr ?_ | refine Vt ?_ | refine Vf ?_ | refine Vm ?_ | refine Ve ?_ | refine Vo ?_ | refine Vz ?_ | refine Vn ?_)
  refine V_meet1 (fun c : Nat => [(9, .int .i64 c), (8, .int .i64 r), (0, .slice (some ⟨g, 0, none⟩) n cap), (2, .int .i64 hi), (3, .int .i64 f)])
    (fun c w' => Ext w3 w' ∧ (c = 2 * r + 1 ∨ c = 2 * r + 2) ∧ c < hi ∧ ∀ y, M[f + c]? = some y → ∀ d z, (d = 2 * r + 1 ∨ d = 2 * r + 2) → d < hi → M[f + d]? = some z → ¬ltU y z < 0) ?_ ?_
  · refine V_cond rfl (fun hlt => ?_) (fun hlt => ?_)
    · rw [hlt] at ht
      have hc : 2 * r + 2 < hi := by
        rcases Nat.lt_or_ge (2 * r + 2) hi with h | h
        · exact h
        · rw [decide_eq_false (by omega)] at ht; cases ht
      rw [decide_eq_true hc] at ht
      have hlt := of_decide_eq_true ht.symm
      replace hy := hy hc
      repeat (first | refine Vx ?_ | (apply Ops_q; (case hon => exact Va); (case hd => rfl); (case hq => exact YlA)) | refine Vr ?_ | refine Vt ?_ | refine Vf ?_ | refine Vm ?_ | refine Ve ?_ | refine Vo ?_ | refine Vz ?_ | refine Vn ?_)
      refine ⟨2 * r + 2, (by repeat (first | exact trivial | refine ⟨rfl, ?_⟩)), Ext.refl _, .inr rfl, hc, fun u hu d z h4 h5 hz => ?_⟩
      rw [hy] at hu; cases hu
      rcases h4 with rfl | rfl
      · rw [hx] at hz; cases hz; simp only [ltU]; omega
      · rw [hy] at hz; cases hz; simp only [ltU]; omega
    · rw [hlt] at ht
      repeat (first | refine Vx ?_ | (apply Ops_q; (case hon => exact Va); (case hd => rfl); (case hq => exact YlA)) | refine Vr ?_ | refine Vt ?_ | refine Vf ?_ | refine Vm ?_ | refine Ve ?_ | refine Vo ?_ | refine Vz ?_ | refine Vn ?_)
      refine ⟨2 * r + 1, (by repeat (first | exact trivial | refine ⟨rfl, ?_⟩)), Ext.refl _, .inl rfl, by omega, fun u hu d z h4 h5 hz => ?_⟩
      rw [hx] at hu; cases hu
      rcases h4 with rfl | rfl
      · rw [hx] at hz; cases hz; simp only [ltU]; omega
      · rw [decide_eq_true h5] at ht
        have hlt := of_decide_eq_false ht.symm
        rw [hy h5] at hz; cases hz; simp only [ltU]; omega
  clear hx hy ht x y t
  rintro c w3 ⟨x3, hc, hci, hmax⟩
  have D3 := D3.ext x3
  have m3 := m3.ext x3
  obtain ⟨x, hx⟩ := D3.get (k := f + r) (by omega)
  obtain ⟨y, hy⟩ := D3.get (k := f + c) (by omega)
  have hcx := D3.at hx
  have hcy := D3.at hy
  have e2 : (f : Int) + (r : Int) = ((f + r : Nat) : Int) := by omega
  have e3 : (f : Int) + (c : Int) = ((f + c : Nat) : Int) := by omega
  repeat (first | refine Vx ?_ | (apply Ops_q; (case hon => exact Va); (case hd => rfl); (case hq => exact YlA)) | refine Vr ?_ | refine Vt ?_ | refine Vf ?_ | refine Vm ?_ | refine Ve ?_ | refine Vo ?_ | refine Vz ?_ | refine Vn ?_)
  rw [e2]
  (apply Ops_q; (case hon => (exact Va)); (case hd => rfl); (case hq => exact Yl_indexS (j := (f + r)) rfl rfl (by omega)))
  repeat (first | refine Vx ?_ | (apply Ops_q; (case hon => exact Va); (case hd => rfl); (case hq => exact YlA)) | refine Vr ?_ | refine Vt ?_ | refine Vf ?_ | refine Vm ?_ | refine Ve ?_ | refine Vo ?_ | refine Vz ?_ | refine Vn ?_)
  rw [e3]
  (apply Ops_q; (case hon => (exact Va)); (case hd => rfl); (case hq => exact Yl_indexS (j := (f + c)) rfl rfl (by omega)))
  repeat (first | refine Vx ?_ | (apply Ops_q; (case hon => exact Va); (case hd => rfl); (case hq => exact YlA)) | refine Vr ?_ | refine Vt ?_ | refine Vf ?_ | refine Vm ?_ | refine Ve ?_ | refine Vo ?_ | refine Vz ?_ | refine Vn ?_)
  (apply Ops_q; (case hon => (exact Va)); (case hd => rfl); (case hq => exact Yl_call rfl (fun w_ e_ => lessU_v x y w_)))
  repeat (first | refine Vx ?_ | (apply Ops_q; (case hon => exact Va); (case hd => rfl); (case hq => exact YlA)) | refine Vr ?_ | refine Vt ?_ | refine Vf ?_ | refine Vm ?_ | refine Ve ?_ | refine Vo ?_ | refine Vz ?_ | refine Vn ?_)
  refine V_cond rfl (fun hlt => ?_) (fun hlt => ?_)
  · replace hlt : ¬ltU x y < 0 := by
      have : ¬(x < y) := fun h => by simp [h] at hlt
      simp only [ltU]; omega
    repeat (first | refine Vx ?_ | (apply Ops_q; (case hon => exact Va); (case hd => rfl); (case hq => exact YlA)) | refine Vr ?_ | refine Vt ?_ | refine Vf ?_ | refine Vm ?_ | refine Ve ?_ | refine Vo ?_ | refine Vz ?_ | refine Vn ?_)
    refine ret0 (by first | exact .inl rfl | exact .inr rfl) rfl ?_
    exact Does_mk (fun w' he => ⟨M, D3.ext he, rfl, hM, hH.stop ordU hx hlt (hmax y hy)⟩) m3
  · replace hlt : ltU x y < 0 := by
      have : x < y := by
        by_cases h : x < y
        · exact h
        · simp [h] at hlt
      simp only [ltU]; omega
    repeat (first | refine Vx ?_ | (apply Ops_q; (case hon => exact Va); (case hd => rfl); (case hq => exact YlA)) | refine Vt ?_ | refine Vf ?_ | refine Vm ?_ | refine Ve ?_ | refine Vo ?_ | refine Vz ?_ | refine Vn ?_)
    refine V_store (R := fun w' => DatU w' base g n cap (M.set (f + r) y) ∧ Mod (fun c => c = g) w3 w') 22 21 (fun _ _ he h => ⟨h.1.ext he, h.2.ext he⟩) (by kernel_rfl) rfl (by kernel_rfl) ?_
    repeat (first
      | (refine YsS.pure rfl rfl rfl rfl rfl (fun w_ => (by first | exact Yl_move rfl | exact Yl_pred rfl rfl (by omega) | exact Yl_arith_in rfl rfl rfl (by first | assumption | (simp only [InK]; omega)))) ?_)
      | (refine YsS.load rfl rfl rfl rfl rfl (by first | exact Yl_load rfl hcx | exact Yl_load rfl hcy) ?_))
    refine YsS.pure rfl rfl rfl rfl rfl (fun w_ => Yl_indexS (j := (f+c)) rfl rfl (by omega)) ?_
    repeat (first
      | (refine YsS.pure rfl rfl rfl rfl rfl (fun w_ => (by first | exact Yl_move rfl | exact Yl_pred rfl rfl (by omega) | exact Yl_arith_in rfl rfl rfl (by first | assumption | (simp only [InK]; omega)))) ?_)
      | (refine YsS.load rfl rfl rfl rfl rfl (by first | exact Yl_load rfl hcx | exact Yl_load rfl hcy) ?_))
    refine YsS.pure rfl rfl rfl rfl rfl (fun w_ => Yl_indexS (j := (f+r)) rfl rfl (by omega)) ?_
    repeat (first
      | (refine YsS.pure rfl rfl rfl rfl rfl (fun w_ => (by first | exact Yl_move rfl | exact Yl_pred rfl rfl (by omega) | exact Yl_arith_in rfl rfl rfl (by first | assumption | (simp only [InK]; omega)))) ?_)
      | (refine YsS.load rfl rfl rfl rfl rfl (by first | exact Yl_load rfl hcx | exact Yl_load rfl hcy) ?_))
    refine YsS.pure rfl rfl rfl rfl rfl (fun w_ => Yl_indexS (j := (f+r)) rfl rfl (by omega)) ?_
    refine YsS.nil rfl ⟨fun a_ ag_ w_ hw_ => storeDatU_run (i := f + r) (v := y) rfl rfl rfl D3 (by omega) a_ ag_ w_ hw_, ?_⟩
    repeat (first
      | (refine YsS.pure rfl rfl rfl rfl rfl (fun w_ => (by first | exact Yl_move rfl | exact Yl_pred rfl rfl (by omega) | exact Yl_arith_in rfl rfl rfl (by first | assumption | (simp only [InK]; omega)))) ?_)
      | (refine YsS.load rfl rfl rfl rfl rfl (by first | exact Yl_load rfl hcx | exact Yl_load rfl hcy) ?_))
    refine YsS.nil rfl ?_
    rintro w4 ⟨D4, m4⟩
    repeat (first | refine Vx ?_ | (apply Ops_q; (case hon => exact Va); (case hd => rfl); (case hq => exact YlA)) | refine Vr ?_ | refine Vt ?_ | refine Vf ?_ | refine Vm ?_ | refine Ve ?_ | refine Vo ?_ | refine Vz ?_ | refine Vn ?_)
    rw [e3]
    (apply Ops_q; (case hon => (exact Va)); (case hd => rfl); (case hq => exact Yl_indexS (j := (f + c)) rfl rfl (by omega)))
    repeat (first | refine Vx ?_ | (apply Ops_q; (case hon => exact Va); (case hd => rfl); (case hq => exact YlA)) | refine Vr ?_ | refine Vt ?_ | refine Vf ?_ | refine Vm ?_ | refine Ve ?_ | refine Vo ?_ | refine Vz ?_ | refine Vn ?_)
    refine Ops_storeDatU (i := f + c) (v := x) (by exact Va) rfl rfl rfl D4 (by omega) ?_
    intro w5 D5 g5
    have m5 : Mod (BlkU g) w w5 := (m3.trans m4).grow g5 (fun b hb => .inl (by cases hb; rfl))
    have hsw : (M.set (f + r) y).set (f + c) x = swp M (f + r) (f + c) := by unfold swp; rw [hx, hy]
    rw [hsw] at D5
    repeat (first | refine Vx ?_ | (apply Ops_q; (case hon => exact Va); (case hd => rfl); (case hq => exact YlA)) | refine Vr ?_ | refine Vt ?_ | refine Vf ?_ | refine Vm ?_ | refine Ve ?_ | refine Vo ?_ | refine Vz ?_ | refine Vn ?_)
    refine ⟨(c, swp M (f + r) (f + c)), (by repeat (first | exact trivial | refine ⟨rfl, ?_⟩)), ⟨by dsimp only; omega, by dsimp only; omega, m5, D5, hM.trans (Moved.swp (by omega) (by omega) (by omega)), hH.step ordU h1 hc hci (by omega) hx hy hlt (hmax y hy)⟩, by simp only; omega⟩
set_option maxHeartbeats 2000000 in
theorem heapU_v (L : List Int) (a b : Nat) (w : World) (hD : DatU w base g n cap L) (hn : n ≤ 1000000000000) (hb : b ≤ n) (hab : a < b) :
    Calls Try.prog 111 #[.slice (some ⟨g, 0, none⟩) n cap, .int .i64 a, .int .i64 b] w
      (Does (BlkU g) (DatV base g n cap (fun r L' => r = .tuple #[] ∧ Moved L L' a b ∧ Asc ltU L' a b)) w) := by
  obtain ⟨h, rfl⟩ : ∃ h, b = a + (h + 1) := ⟨b - a - 1, by omega⟩
  have e1 : ((a + (h + 1) : Nat) : Int) - (a : Int) = ((h + 1 : Nat) : Int) := by omega
  have e2 : ((h + 1 : Nat) : Int) - 1 = (h : Int) := by omega
  have e3 : (h : Int) / 2 = ((h / 2 + 1 : Nat) : Int) - 1 := by omega
  have e4 : (h : Int) = ((h + 1 : Nat) : Int) - 1 := by omega
  refine V_enter (vs := [_, _, _]) Try.func111 rfl Try.ntmps111 (Nat.le_of_ble_eq_true rfl) ?_
  repeat (first | refine Vx ?_ | (apply Ops_q; (case hon => exact Va); (case hd => rfl); (case hq => exact YlA)) | refine Vr ?_ | refine Vt ?_ | refine Vf ?_ | refine Vm ?_ | refine Ve ?_ | refine Vo ?_ | refine Vz ?_ | refine Vn ?_)
  rw [e1]
  repeat (first | refine Vx ?_ | (apply Ops_q; (case hon => exact Va); (case hd => rfl); (case hq => exact YlA)) | refine Vr ?_ | refine Vt ?_ | refine Vf ?_ | refine Vm ?_ | refine Ve ?_ | refine Vo ?_ | refine Vz ?_ | refine Vn ?_)
  rw [e2]
  repeat (first | refine Vx ?_ | (apply Ops_q; (case hon => exact Va); (case hd => rfl); (case hq => exact YlA)) | refine Vr ?_ | refine Vt ?_ | refine Vf ?_ | refine Vm ?_ | refine Ve ?_ | refine Vo ?_ | refine Vz ?_ | refine Vn ?_)
  rw [e3]
  refine V_loop (fun s : Nat × List Int => [(9, .int .i64 ((s.1 : Int) - 1)), (0, .slice (some ⟨g, 0, none⟩) n cap), (6, .int .i64 a), (7, .int .i64 0), (8, .int .i64 (h + 1 : Nat))])
    (fun s w' => s.1 ≤ h + 1 ∧ Mod (BlkU g) w w' ∧ DatU w' base g n cap s.2 ∧ Moved L s.2 a (a + (h + 1)) ∧ Heap ltU s.2 a s.1 (h + 1)) (fun s => s.1) (h / 2 + 1, L) (by repeat (first | exact trivial | refine ⟨rfl, ?_⟩))
    ⟨by dsimp only; omega, .of_ext (Ext.refl _), hD, Moved.refl .., Heap.none (by dsimp only; omega)⟩ ?_
  clear hD
  rintro ⟨i, M⟩ w3 ⟨h1, m3, D3, hM, hH⟩
  dsimp only at h1 D3 hM hH ⊢
  have hMl := D3.len
  by_cases hi : 0 < i
  · obtain ⟨i, rfl⟩ : ∃ k, i = k + 1 := ⟨i - 1, by omega⟩
    have hs1 : ((i + 1 : Nat) : Int) - 1 = (i : Int) := by omega
    rw [hs1]
    repeat (first | refine Vx ?_ | (apply Ops_q; (case hon => exact Va); (case hd => rfl); (case hq => exact YlA)) | refine Vr ?_ | refine Vt ?_ | refine Vf ?_ | refine Vm ?_ | refine Ve ?_ | refine Vo ?_ | refine Vz ?_ | refine Vn ?_)
    refine Ops_callM (S := BlkU g) (R := fun _ => DatV base g n cap (fun r L' => r = .tuple #[] ∧ Moved M L' a (a + (h+1)) ∧ Heap ltU L' a i (h+1))) (by exact Va) rfl rfl (fun w_ e_ => siftU_v M i (h+1) a w_ (D3.ext e_) hn (by omega) (by omega) hH.next) ?_
    intro r w6 w0_ e0 m6 hR
    obtain ⟨M6, D6, rfl, hM6, hH6⟩ := hR
    repeat (first | refine Vx ?_ | (apply Ops_q; (case hon => exact Va); (case hd => rfl); (case hq => exact YlA)) | refine Vr ?_ | refine Vt ?_ | refine Vf ?_ | refine Vm ?_ | refine Ve ?_ | refine Vo ?_ | refine Vz ?_ | refine Vn ?_)
    refine ⟨(i, M6), (by repeat (first | exact trivial | refine ⟨rfl, ?_⟩)), ⟨by dsimp only; omega, (m3.ext e0).trans m6, D6, hM.trans hM6, hH6⟩, by simp only; omega⟩
  obtain rfl : i = 0 := by omega
  repeat (first | refine Vx ?_ | (apply Ops_q; (case hon => exact Va); (case hd => rfl); (case hq => exact YlA)) | refine Vr ?_ | refine Vt ?_ | refine Vf ?_ | refine Vm ?_ | refine Ve ?_ | refine Vo ?_ | refine Vz ?_ | refine Vn ?_)
  rw [e2]
  have hS : HSt ltU M a (h + 1) (a + (h + 1)) := .start hH rfl
  clear hH h1 hi
  refine V_loop (fun s : Nat × List Int => [(10, .int .i64 ((s.1 : Int) - 1)), (0, .slice (some ⟨g, 0, none⟩) n cap), (6, .int .i64 a), (7, .int .i64 0), (8, .int .i64 (h + 1 : Nat))])
    (fun s w' => s.1 ≤ h + 1 ∧ Mod (BlkU g) w w' ∧ DatU w' base g n cap s.2 ∧ Moved L s.2 a (a + (h + 1)) ∧ HSt ltU s.2 a s.1 (a + (h + 1))) (fun s => s.1) (h + 1, M) ⟨by dsimp only; rw [← e4]; rfl, (by repeat (first | exact trivial | refine ⟨rfl, ?_⟩))⟩
    ⟨Nat.le_refl _, m3, D3, hM, hS⟩ ?_
  clear m3 D3 hM hS hMl
  rintro ⟨i, M⟩ w3 ⟨h1, m3, D3, hM, hS⟩
  dsimp only at h1 D3 hM hS ⊢
  have hMl := D3.len
  by_cases hi : 0 < i
  · obtain ⟨i, rfl⟩ : ∃ k, i = k + 1 := ⟨i - 1, by omega⟩
    have hs1 : ((i + 1 : Nat) : Int) - 1 = (i : Int) := by omega
    have e5 : (a : Int) + (i : Int) = ((a + i : Nat) : Int) := by omega
    obtain ⟨x, hx⟩ := D3.get (k := a) (by omega)
    obtain ⟨y, hy⟩ := D3.get (k := a + i) (by omega)
    have hcx := D3.at hx
    have hcy := D3.at hy
    obtain ⟨q1, q2, q3⟩ := hS.swap ordU (by omega) (by omega)
    rw [hs1]
    repeat (first | refine Vx ?_ | (apply Ops_q; (case hon => exact Va); (case hd => rfl); (case hq => exact YlA)) | refine Vr ?_ | refine Vt ?_ | refine Vf ?_ | refine Vm ?_ | refine Ve ?_ | refine Vo ?_ | refine Vz ?_ | refine Vn ?_)
    refine V_store (R := fun w' => DatU w' base g n cap (M.set a y) ∧ Mod (fun c => c = g) w3 w') 18 17 (fun _ _ he h => ⟨h.1.ext he, h.2.ext he⟩) (by kernel_rfl) rfl (by kernel_rfl) ?_
    repeat (first
      | (refine YsS.pure rfl rfl rfl rfl rfl (fun w_ => (by first | exact Yl_move rfl | exact Yl_pred rfl rfl (by omega) | exact Yl_arith_in rfl rfl rfl (by first | assumption | (simp only [InK]; omega)))) ?_)
      | (refine YsS.load rfl rfl rfl rfl rfl (by first | exact Yl_load rfl hcx | exact Yl_load rfl hcy) ?_))
    refine YsS.pure rfl rfl rfl rfl rfl (fun w_ => Yl_indexS (j := (a+i)) rfl rfl (by omega)) ?_
    repeat (first
      | (refine YsS.pure rfl rfl rfl rfl rfl (fun w_ => (by first | exact Yl_move rfl | exact Yl_pred rfl rfl (by omega) | exact Yl_arith_in rfl rfl rfl (by first | assumption | (simp only [InK]; omega)))) ?_)
      | (refine YsS.load rfl rfl rfl rfl rfl (by first | exact Yl_load rfl hcx | exact Yl_load rfl hcy) ?_))
    refine YsS.pure rfl rfl rfl rfl rfl (fun w_ => Yl_indexS (j := a) rfl rfl (by omega)) ?_
    repeat (first
      | (refine YsS.pure rfl rfl rfl rfl rfl (fun w_ => (by first | exact Yl_move rfl | exact Yl_pred rfl rfl (by omega) | exact Yl_arith_in rfl rfl rfl (by first | assumption | (simp only [InK]; omega)))) ?_)
      | (refine YsS.load rfl rfl rfl rfl rfl (by first | exact Yl_load rfl hcx | exact Yl_load rfl hcy) ?_))
    refine YsS.pure rfl rfl rfl rfl rfl (fun w_ => Yl_indexS (j := a) rfl rfl (by omega)) ?_
    refine YsS.nil rfl ⟨fun a_ ag_ w_ hw_ => storeDatU_run (i := a) (v := y) rfl rfl rfl D3 (by omega) a_ ag_ w_ hw_, ?_⟩
    repeat (first
      | (refine YsS.pure rfl rfl rfl rfl rfl (fun w_ => (by first | exact Yl_move rfl | exact Yl_pred rfl rfl (by omega) | exact Yl_arith_in rfl rfl rfl (by first | assumption | (simp only [InK]; omega)))) ?_)
      | (refine YsS.load rfl rfl rfl rfl rfl (by first | exact Yl_load rfl hcx | exact Yl_load rfl hcy) ?_))
    refine YsS.nil rfl ?_
    rintro w4 ⟨D4, m4⟩
    repeat (first | refine Vx ?_ | (apply Ops_q; (case hon => exact Va); (case hd => rfl); (case hq => exact YlA)) | refine Vr ?_ | refine Vt ?_ | refine Vf ?_ | refine Vm ?_ | refine Ve ?_ | refine Vo ?_ | refine Vz ?_ | refine Vn ?_)
    rw [e5]
    (apply Ops_q; (case hon => (exact Va)); (case hd => rfl); (case hq => exact Yl_indexS (j := (a + i)) rfl rfl (by omega)))
    repeat (first | refine Vx ?_ | (apply Ops_q; (case hon => exact Va); (case hd => rfl); (case hq => exact YlA)) | refine Vr ?_ | refine Vt ?_ | refine Vf ?_ | refine Vm ?_ | refine Ve ?_ | refine Vo ?_ | refine Vz ?_ | refine Vn ?_)
    refine Ops_storeDatU (i := a + i) (v := x) (by exact Va) rfl rfl rfl D4 (by omega) ?_
    intro w5 D5 g5
    have m5 : Mod (BlkU g) w w5 := (m3.trans m4).grow g5 (fun b hb => .inl (by cases hb; rfl))
    have hsw : (M.set a y).set (a + i) x = swp M a (a + i) := by unfold swp; rw [hx, hy]
    rw [hsw] at D5
    have hM5 : Moved L (swp M a (a + i)) a (a + (h + 1)) := hM.trans (Moved.swp (by omega) (by omega) (by omega))
    clear hx hy hcx hcy D3 m3 D4 m4 g5 hsw hM hMl hS
    generalize swp M a (a + i) = M5 at *
    repeat (first | refine Vx ?_ | (apply Ops_q; (case hon => exact Va); (case hd => rfl); (case hq => exact YlA)) | refine Vr ?_ | refine Vt ?_ | refine Vf ?_ | refine Vm ?_ | refine Ve ?_ | refine Vo ?_ | refine Vz ?_ | refine Vn ?_)
    refine Ops_callM (S := BlkU g) (R := fun _ => DatV base g n cap (fun r L' => r = .tuple #[] ∧ Moved M5 L' a (a + i) ∧ Heap ltU L' a 0 i)) (by exact Va) rfl rfl (fun w_ e_ => siftU_v M5 0 i a w_ (D5.ext e_) hn (by omega) (by omega) q1) ?_
    intro r w6 w0_ e0 m6 hR
    obtain ⟨M6, D6, rfl, hM6, hH6⟩ := hR
    repeat (first | refine Vx ?_ | (apply Ops_q; (case hon => exact Va); (case hd => rfl); (case hq => exact YlA)) | refine Vr ?_ | refine Vt ?_ | refine Vf ?_ | refine Vm ?_ | refine Ve ?_ | refine Vo ?_ | refine Vz ?_ | refine Vn ?_)
    refine ⟨(i, M6), (by repeat (first | exact trivial | refine ⟨rfl, ?_⟩)), ⟨by dsimp only; omega, (m5.ext e0).trans m6, D6, hM5.trans (hM6.wide (Nat.le_refl _) (by omega)), HSt.next hH6 q2 q3 hM6⟩, by simp only; omega⟩
  obtain rfl : i = 0 := by omega
  repeat (first | refine Vx ?_ | (apply Ops_q; (case hon => exact Va); (case hd => rfl); (case hq => exact YlA)) | refine Vr ?_ | refine Vt ?_ | refine Vf ?_ | refine Vm ?_ | refine Ve ?_ | refine Vo ?_ | refine Vz ?_ | refine Vn ?_)
  refine ret0 (by first | exact .inl rfl | exact .inr rfl) rfl ?_
  exact Does_mk (fun w' he => ⟨M, D3.ext he, rfl, hM, hS.asc⟩) m3
end
end Go.Proofs.Ytjpnaofoeeegeaa

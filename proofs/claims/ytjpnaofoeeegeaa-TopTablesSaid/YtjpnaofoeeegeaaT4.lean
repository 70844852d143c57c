/-
  Part 4 of the texts that the proof of this claim leans on: rules of a walk, contracts of functions, plain facts. Each piece says below what it proves.
  No conditions beyond those that each lemma states.
-/
import Derived.Test.YtjpnaofoeeegeaaT3
import Derived.Laws.MakeOwn
import Derived.Laws.BitsAllLaws

/-
  Tables (layer 7), in plain lists: what Trim leaves, that it agrees with the table, and that it loses a lookup with each entry.
  Conditions: addresses are below 2^32.
-/
namespace Go.Proofs.Ytjpnaofoeeegeaa
open Go.RowKit

/-! ### Prefixes that cover others -/
theorem covers_iff {p q : Pf} : p.covers q = true ↔ q.valid = true ∧ p.n ≤ q.n ∧ p.has q.a = true := by
  rw [Pf.covers, Bool.and_eq_true, Bool.and_eq_true, decide_eq_true_eq]
theorem has_self {q : Pf} (h : q.valid = true) : q.has q.a = true := by
  rw [Pf.has, h, Bool.true_and, decide_eq_true_eq]
  exact (Pf.valid_iff.1 h).2.2
theorem covers_refl {q : Pf} (h : q.valid = true) : q.covers q = true := covers_iff.2 ⟨h, Int.le_refl _, has_self h⟩
theorem covers_has {p q : Pf} {a : Nat} (h : p.covers q = true) (ha : q.has a = true) : p.has a = true := by
  obtain ⟨h1, h2, h3⟩ := covers_iff.1 h
  obtain ⟨q1, q2, q3⟩ := Pf.valid_iff.1 h1
  obtain ⟨p1, p2, p3⟩ := Pf.valid_iff.1 (has_valid h3)
  rw [Pf.has, Bool.and_eq_true, decide_eq_true_eq] at h3 ha ⊢
  refine ⟨h3.1, ?_⟩
  rw [← h3.2, ← ha.2, top_top a (by omega) (by omega)]
/-- Of two prefixes with a common address, the shorter covers the longer. -/
theorem covers_of {p q : Pf} {a : Nat} (hp : p.has a = true) (hq : q.has a = true) (hn : p.n ≤ q.n) : p.covers q = true := by
  refine covers_iff.2 ⟨has_valid hq, hn, ?_⟩
  obtain ⟨q1, q2, q3⟩ := Pf.valid_iff.1 (has_valid hq)
  obtain ⟨p1, p2, p3⟩ := Pf.valid_iff.1 (has_valid hp)
  rw [Pf.has, Bool.and_eq_true, decide_eq_true_eq] at hp hq ⊢
  refine ⟨hp.1, ?_⟩
  rw [← hq.2, top_top a (by omega) (by omega), hp.2]
theorem covers_trans {p q r : Pf} (h : p.covers q = true) (h2 : q.covers r = true) : p.covers r = true := by
  obtain ⟨h3, h4, h5⟩ := covers_iff.1 h2
  exact covers_iff.2 ⟨h3, Int.le_trans (covers_iff.1 h).2.1 h4, covers_has h h5⟩
theorem covers_lt {p q : Pf} (h : p.covers q = true) (hne : p ≠ q) : pLt p q := by
  obtain ⟨h1, h2, h3⟩ := covers_iff.1 h
  have h4 := ((has_iff (has_valid h3)).1 h3).1
  rcases Nat.lt_or_eq_of_le h4 with h5 | h5
  · exact .inl h5
  · exact .inr ⟨h5, by
      rcases Int.lt_or_eq_of_le h2 with h6 | h6
      · exact h6
      · exact absurd (pf_eq h5 h6) hne⟩
theorem has_lt {p q : Pf} {a : Nat} (hp : p.has a = true) (hq : q.has a = true) (h : pLt p q) : p.covers q = true := by
  rcases Int.le_total p.n q.n with c | c
  · exact covers_of hp hq c
  · have h2 := covers_of hq hp c
    by_cases e : q = p
    · rw [e] at h; exact absurd h (pLt_irrefl _)
    · exact absurd (pLt_trans h (covers_lt h2 e)) (pLt_irrefl _)
/-! ### A lookup is the last of the entries that have the address -/
def lastV (L : List En) : Int := match L.getLast? with
  | none => -1
  | some e => e.v
theorem lastV_snoc (L : List En) (e : En) : lastV (L ++ [e]) = e.v := by rw [lastV, List.getLast?_append]; rfl
theorem best_last (a : Nat) (L : List En) : Tb L → bestL a L = (L.filter fun e => e.p.has a).getLast? := by
  refine en_ind (P := fun L => Tb L → bestL a L = (L.filter fun e => e.p.has a).getLast?) (fun _ => rfl) (fun L x ih h => ?_) L
  have ih := ih (h.sub (List.sublist_append_left ..))
  rw [best_snoc, bestS, bestB, List.filter_append]
  cases hh : x.p.has a with
  | false => rw [Bool.false_and, if_neg (by decide), ih, List.filter_cons_of_neg (p := fun e : En => e.p.has a) (by simp [hh]), List.filter_nil, List.append_nil]
  | true =>
    rw [Bool.true_and, List.filter_cons_of_pos (p := fun e : En => e.p.has a) hh, List.filter_nil, List.getLast?_append]
    have : ((bestL a L).isNone || decide (((bestL a L).getD En.zero).p.n ≤ x.p.n)) = true := by
      cases hb : bestL a L with
      | none => rfl
      | some e =>
        obtain ⟨h1, h2⟩ := best_in hb
        have := (List.pairwise_append.1 h.srt).2.2 e h1 x (List.mem_singleton.2 rfl)
        exact decide_eq_true (covers_iff.1 (has_lt h2 hh this)).2.1
    rw [this]; rfl
theorem lk_last {L : List En} (h : Tb L) (a : Nat) : lk L a = lastV (L.filter fun e => e.p.has a) := by
  rw [lk_eq a h, best_last a L h]; rfl

/-! ### The entries above -/
/-- The entries whose prefixes cover p and are not p. -/
def sc (S : List En) (p : Pf) : List En := S.filter fun x => x.p.covers p && decide (x.p ≠ p)
def keepB (S : List En) (e : En) : Bool := decide (e.v ≠ lastV (sc S e.p))
/-- What is left where entries with the value above them go. -/
def trimS (S : List En) : List En := S.filter (keepB S)
theorem chain_last {S : List En} (C : List En) : (∀ A e B, C = A ++ e :: B → lastV (sc S e.p) = lastV A) → lastV (C.filter (keepB S)) = lastV C := by
  refine en_ind (P := fun C => (∀ A e B, C = A ++ e :: B → lastV (sc S e.p) = lastV A) → lastV (C.filter (keepB S)) = lastV C) (fun _ => rfl) (fun L x ih h => ?_) C
  have ih := ih fun A e B hh => h A e (B ++ [x]) (by rw [hh]; simp)
  rw [List.filter_append, lastV_snoc]
  have hx := h L x [] rfl
  cases hk : keepB S x with
  | true => rw [List.filter_cons_of_pos hk, List.filter_nil, lastV_snoc]
  | false =>
    rw [List.filter_cons_of_neg (by rw [hk]; decide), List.filter_nil, List.append_nil, ih, ← hx]
    have := of_decide_eq_false hk
    exact (Classical.not_not.1 this).symm
/-- What lies before an entry of a chain lies above it. -/
theorem chain_sc {S : List En} (hS : Tb S) (q : En → Bool) (a : Nat) (hq : ∀ x ∈ S, q x = true → x.p.has a = true) (hdown : ∀ x ∈ S, ∀ y ∈ S, q y = true → x.p.covers y.p = true → q x = true) {A B : List En} {e : En} (h : S.filter q = A ++ e :: B) : sc S e.p = A := by
  have hsr : Srt (A ++ e :: B) := h ▸ hS.srt.sublist List.filter_sublist
  obtain ⟨p1, p2, p3⟩ := List.pairwise_append.1 hsr
  obtain ⟨p4, p5⟩ := List.pairwise_cons.1 p2
  have hmem : ∀ x, x ∈ A ++ e :: B ↔ x ∈ S ∧ q x = true := fun x => by rw [← h, List.mem_filter]
  have heS := (hmem e).1 (by simp)
  refine srt_eq (hS.srt.sublist List.filter_sublist) p1 fun x => ?_
  rw [sc, List.mem_filter, Bool.and_eq_true, decide_eq_true_eq]
  constructor
  · rintro ⟨h1, h2, h3⟩
    have hqx := hdown x h1 e heS.1 heS.2 h2
    have hl := covers_lt h2 h3
    rcases List.mem_append.1 ((hmem x).2 ⟨h1, hqx⟩) with h4 | h4
    · exact h4
    · exfalso
      rcases List.mem_cons.1 h4 with rfl | h4
      · exact h3 rfl
      · exact pLt_irrefl _ (pLt_trans hl (p4 x h4))
  · intro hx
    have hxS := (hmem x).1 (List.mem_append.2 (.inl hx))
    have hl := p3 x hx e (List.mem_cons_self ..)
    exact ⟨hxS.1, has_lt (hq x hxS.1 hxS.2) (hq e heS.1 heS.2) hl, fun e1 => by rw [e1] at hl; exact pLt_irrefl _ hl⟩
theorem filter_comm {α : Type} (q r : α → Bool) (L : List α) : (L.filter q).filter r = (L.filter r).filter q := by
  rw [List.filter_filter, List.filter_filter]
  congr 1
  funext x
  exact Bool.and_comm ..
theorem trimS_lk {S : List En} (hS : Tb S) (a : Nat) : lk (trimS S) a = lk S a := by
  have hT : Tb (trimS S) := hS.sub List.filter_sublist
  rw [lk_last hT, lk_last hS, trimS, filter_comm]
  exact chain_last _ fun A e B h => by rw [chain_sc hS _ a (fun x _ h => h) (fun x _ y _ h1 h2 => covers_has h2 h1) h]
/-! ### Hidden entries -/
/-- All addresses of the prefix lie in longer prefixes of the table. -/
def hid (L : List En) (p : Pf) : Prop := ∀ a, p.has a = true → ∃ x ∈ L, x.p ≠ p ∧ p.covers x.p = true ∧ x.p.has a = true
noncomputable instance hidDec (L : List En) (p : Pf) : Decidable (hid L p) := Classical.propDecidable _
noncomputable def visP (L : List En) : List En := L.filter fun e => decide (¬hid L e.p)
theorem visP_mem {L : List En} {e : En} : e ∈ visP L ↔ e ∈ L ∧ ¬hid L e.p := by
  unfold visP; rw [List.mem_filter, decide_eq_true_eq]
theorem visP_tb {L : List En} (h : Tb L) : Tb (visP L) := h.sub List.filter_sublist
theorem last_keep {C : List En} (q : En → Bool) (h : ∀ A e, C = A ++ [e] → q e = true) : lastV (C.filter q) = lastV C := by
  rcases List.eq_nil_or_concat C with rfl | ⟨A, e, rfl⟩
  · rfl
  · rw [List.concat_eq_append] at *
    have hq := h A e rfl
    rw [List.filter_append, List.filter_cons_of_pos hq, List.filter_nil, lastV_snoc, lastV_snoc]
theorem visP_lk {L : List En} (h : Tb L) (a : Nat) : lk (visP L) a = lk L a := by
  rw [lk_last (visP_tb h), lk_last h, visP, filter_comm]
  refine last_keep _ fun A e hC => decide_eq_true fun hh => ?_
  have hm : ∀ x, x ∈ A ++ [e] ↔ x ∈ L ∧ x.p.has a = true := fun x => by rw [← hC, List.mem_filter]
  have he := (hm e).1 (by simp)
  obtain ⟨x, h1, h2, h3, h4⟩ := hh a he.2
  have hx := (hm x).2 ⟨h1, h4⟩
  have hs : Srt (A ++ [e]) := hC ▸ h.srt.sublist List.filter_sublist
  rcases List.mem_append.1 hx with hx | hx
  · have := (List.pairwise_append.1 hs).2.2 x hx e (List.mem_singleton.2 rfl)
    exact pLt_irrefl _ (pLt_trans this (covers_lt h3 (Ne.symm h2)))
  · exact h2 (by rw [List.mem_singleton.1 hx])
/-- What Trim leaves. -/
noncomputable def trimP (L : List En) : List En := trimS (visP L)
theorem trim_tb {L : List En} (h : Tb L) : Tb (trimP L) := (visP_tb h).sub List.filter_sublist
theorem trim_lk {L : List En} (h : Tb L) (a : Nat) : lk (trimP L) a = lk L a := by rw [trimP, trimS_lk (visP_tb h), visP_lk h]
theorem trim_sub {L : List En} {e : En} (h : e ∈ trimP L) : e ∈ L := (visP_mem.1 (List.mem_filter.1 h).1).1
/-! ### The program's way: entries above by index, and sums of sizes -/
def gp (L : List En) (j : Nat) : Pf := (L.getD j En.zero).p
def covB (L : List En) (i j : Nat) : Bool := (gp L j).covers (gp L i)
def covs (L : List En) (i : Nat) : List Nat := (List.range i).filter (covB L i)
def lastI (l : List Nat) : Int := match l.getLast? with
  | none => -1
  | some j => (j : Int)
def upI (L : List En) (i : Nat) : Int := lastI (covs L i)
def sizeN (p : Pf) : Nat := 2 ^ (32 - p.n.toNat)
def kidsL (L : List En) (m j : Nat) : List Nat := (List.range m).filter fun i => decide (upI L i = (j : Int))
def covN (L : List En) (m j : Nat) : Nat := ((kidsL L m j).map fun i => sizeN (gp L i)).sum
def visL (L : List En) : List En := ((List.range L.length).filter fun j => decide (covN L L.length j < sizeN (gp L j))).map fun j => L.getD j En.zero
def upV (S : List En) (i : Nat) : Int := match (covs S i).getLast? with
  | none => -1
  | some j => (S.getD j En.zero).v
def trimI (S : List En) : List En := ((List.range S.length).filter fun i => decide ((S.getD i En.zero).v ≠ upV S i)).map fun j => S.getD j En.zero
def trimL (L : List En) : List En := trimI (visL L)
theorem range_get (L : List En) : (List.range L.length).map (fun j => L.getD j En.zero) = L := by
  refine List.ext_getElem (by simp) fun i h1 h2 => ?_
  simp [List.getD_eq_getElem?_getD, List.getElem?_eq_getElem h2]
theorem filter_idx (L : List En) (q : En → Bool) : ((List.range L.length).filter fun j => q (L.getD j En.zero)).map (fun j => L.getD j En.zero) = L.filter q := by
  have := List.filter_map (f := fun j => L.getD j En.zero) (p := q) (l := List.range L.length)
  rw [range_get] at this
  rw [this]; rfl
theorem gp_at {L : List En} {i : Nat} {x : En} (h : L[i]? = some x) : gp L i = x.p := by rw [gp, List.getD_eq_getElem?_getD, h]; rfl
theorem gd_at {L : List En} {i : Nat} {x : En} (h : L[i]? = some x) : L.getD i En.zero = x := by rw [List.getD_eq_getElem?_getD, h]; rfl
theorem gp_lt {L : List En} (h : Srt L) {i j : Nat} (hij : i < j) (hj : j < L.length) : pLt (gp L i) (gp L j) := by
  have hi : i < L.length := Nat.lt_trans hij hj
  rw [gp_at (List.getElem?_eq_getElem hi), gp_at (List.getElem?_eq_getElem hj)]
  exact List.pairwise_iff_getElem.1 h i j hi hj hij
theorem gp_ok {L : List En} (h : Tb L) {i : Nat} (hi : i < L.length) : (gp L i).valid = true := by
  rw [gp_at (List.getElem?_eq_getElem hi)]
  exact (h.ok _ (List.getElem_mem _)).1
theorem filter_last {q : Nat → Bool} : ∀ (n : Nat), (((List.range n).filter q).getLast? = none → ∀ m, m < n → q m = false) ∧ ∀ j, ((List.range n).filter q).getLast? = some j → j < n ∧ q j = true ∧ ∀ m, j < m → m < n → q m = false
  | 0 => ⟨fun _ m hm => absurd hm (Nat.not_lt_zero _), fun j hj => nomatch hj⟩
  | n + 1 => by
    obtain ⟨h1, h2⟩ := filter_last (q := q) n
    rw [List.range_succ, List.filter_append]
    cases hq : q n with
    | true =>
      rw [List.filter_cons_of_pos hq, List.filter_nil, List.getLast?_append]
      refine ⟨(fun h => nomatch h), fun j hj => ?_⟩
      have : n = j := by simpa using hj
      subst this
      exact ⟨Nat.lt_succ_self _, hq, fun m hm1 hm2 => by omega⟩
    | false =>
      rw [List.filter_cons_of_neg (by rw [hq]; decide), List.filter_nil, List.append_nil]
      refine ⟨fun h m hm => ?_, fun j hj => ?_⟩
      · rcases Nat.lt_or_eq_of_le (Nat.le_of_lt_succ hm) with c | c
        · exact h1 h m c
        · rw [c]; exact hq
      · obtain ⟨a, b, c⟩ := h2 j hj
        refine ⟨by omega, b, fun m hm1 hm2 => ?_⟩
        rcases Nat.lt_or_eq_of_le (Nat.le_of_lt_succ hm2) with d | d
        · exact c m hm1 d
        · rw [d]; exact hq
theorem covs_sc {S : List En} (h : Tb S) {i : Nat} (hi : i < S.length) : (covs S i).map (fun j => S.getD j En.zero) = sc S (gp S i) := by
  rw [sc, ← filter_idx]
  congr 1
  obtain ⟨d, hd⟩ : ∃ d, S.length = i + d := ⟨S.length - i, by omega⟩
  rw [hd, List.range_add, List.filter_append, covs]
  have h2 : ((List.range d).map (i + ·)).filter (fun j => (S.getD j En.zero).p.covers (gp S i) && decide ((S.getD j En.zero).p ≠ gp S i)) = [] := by
    refine List.filter_eq_nil_iff.2 fun j hj => ?_
    obtain ⟨c, hc, rfl⟩ := List.mem_map.1 hj
    have hc := List.mem_range.1 hc
    rw [Bool.and_eq_true, decide_eq_true_eq]
    rintro ⟨h3, h4⟩
    have h5 := covers_lt h3 h4
    rcases Nat.eq_zero_or_pos c with rfl | hc0
    · exact h4 rfl
    · exact pLt_irrefl _ (pLt_trans h5 (gp_lt h.srt (show i < i + c by omega) (by omega)))
  rw [h2, List.append_nil]
  refine List.filter_congr fun j hj => ?_
  have hj := List.mem_range.1 hj
  have : (S.getD j En.zero).p ≠ gp S i := fun e => by
    have h1 := gp_lt h.srt hj hi
    unfold gp at h1 e
    rw [e] at h1; exact pLt_irrefl _ h1
  rw [decide_eq_true this, Bool.and_true]; rfl
theorem upV_eq {S : List En} (h : Tb S) {i : Nat} (hi : i < S.length) : upV S i = lastV (sc S (gp S i)) := by
  rw [← covs_sc h hi, upV, lastV, List.getLast?_map]
  cases (covs S i).getLast? <;> rfl
theorem trimI_eq {S : List En} (h : Tb S) : trimI S = trimS S := by
  rw [trimS, ← filter_idx, trimI]
  congr 1
  refine List.filter_congr fun i hi => ?_
  rw [upV_eq h (List.mem_range.1 hi)]; rfl
/-! sums of sizes -/
theorem last_size {p : Pf} (h : p.valid = true) : p.last + 1 = p.a + sizeN p := by
  rw [Pf.last, if_pos h, sizeN]
  have : 0 < 2 ^ (32 - p.n.toNat) := Nat.two_pow_pos _
  omega
theorem cover_sum {hi : Nat} : ∀ (K : List Pf) (lo : Nat), lo ≤ hi → (∀ p ∈ K, p.valid = true ∧ lo ≤ p.a ∧ p.last < hi) → K.Pairwise (fun p q => p.last < q.a) →
    (K.map sizeN).sum ≤ hi - lo ∧ ((K.map sizeN).sum = hi - lo ↔ ∀ x, lo ≤ x → x < hi → ∃ p ∈ K, p.has x = true)
  | [], lo, hl, _, _ => by
    refine ⟨Nat.zero_le _, fun h x h1 h2 => ?_, fun h => ?_⟩
    · have : (0 : Nat) = hi - lo := h
      omega
    · show 0 = hi - lo
      rcases Nat.lt_or_ge lo hi with c | c
      · obtain ⟨p, hp, _⟩ := h lo (Nat.le_refl _) c
        cases hp
      · omega
  | p :: K, lo, hl, hK, hd => by
    obtain ⟨h1, h2, h3⟩ := hK p (List.mem_cons_self ..)
    obtain ⟨d1, d2⟩ := List.pairwise_cons.1 hd
    have hs := last_size h1
    obtain ⟨i1, i2⟩ := cover_sum (hi := hi) K (p.last + 1) (by omega) (fun q hq => ⟨(hK q (List.mem_cons_of_mem _ hq)).1, d1 q hq, (hK q (List.mem_cons_of_mem _ hq)).2.2⟩) d2
    rw [List.map_cons, List.sum_cons]
    have hp0 : 0 < sizeN p := Nat.two_pow_pos _
    refine ⟨by omega, fun h x x1 x2 => ?_, fun h => ?_⟩
    · have e1 : p.a = lo := by omega
      have e2 : (K.map sizeN).sum = hi - (p.last + 1) := by omega
      rcases Nat.lt_or_ge p.last x with c | c
      · obtain ⟨q, hq, hx⟩ := i2.1 e2 x (by omega) x2
        exact ⟨q, List.mem_cons_of_mem _ hq, hx⟩
      · exact ⟨p, List.mem_cons_self .., (has_iff h1).2 ⟨by omega, c⟩⟩
    · have e1 : p.a = lo := by
        obtain ⟨q, hq, hx⟩ := h lo (Nat.le_refl _) (by omega)
        have hqv := (hK q hq).1
        have := (has_iff hqv).1 hx
        rcases List.mem_cons.1 hq with rfl | hq
        · omega
        · have := d1 q hq; omega
      have e2 := i2.2 fun x x1 x2 => by
        obtain ⟨q, hq, hx⟩ := h x (by omega) x2
        rcases List.mem_cons.1 hq with rfl | hq
        · have := (has_iff h1).1 hx; omega
        · exact ⟨q, hq, hx⟩
      omega
theorem upI_iff {L : List En} {i j : Nat} : upI L i = (j : Int) ↔ j < i ∧ covB L i j = true ∧ ∀ m, j < m → m < i → covB L i m = false := by
  obtain ⟨h1, h2⟩ := filter_last (q := covB L i) i
  unfold upI lastI covs
  cases hl : ((List.range i).filter (covB L i)).getLast? with
  | none =>
    have := h1 hl
    refine ⟨fun h => ?_, fun h => ?_⟩
    · have : (-1 : Int) = (j : Int) := h
      omega
    · rw [this j h.1] at h; exact absurd h.2.1 (by decide)
  | some c =>
    obtain ⟨a, b, d⟩ := h2 c hl
    refine ⟨fun h => ?_, fun h => ?_⟩
    · have : (c : Int) = (j : Int) := h
      obtain rfl : c = j := by omega
      exact ⟨a, b, d⟩
    · show (c : Int) = (j : Int)
      rcases Nat.lt_trichotomy c j with e | e | e
      · rw [d j e h.1] at h; exact absurd h.2.1 (by decide)
      · rw [e]
      · rw [h.2.2 c e a] at b; cases b
theorem upI_range {L : List En} {i : Nat} : upI L i = -1 ∨ ∃ j : Nat, upI L i = (j : Int) ∧ j < i := by
  cases hl : (covs L i).getLast? with
  | none => left; rw [upI, lastI, hl]
  | some c =>
    have : upI L i = (c : Int) := by rw [upI, lastI, hl]
    exact .inr ⟨c, this, (upI_iff.1 this).1⟩
/-- Below an entry there is a kid of it above each of those that it covers. -/
theorem kid_over {L : List En} (h : Tb L) {j : Nat} : ∀ (n i : Nat), i ≤ n → j < i → i < L.length → covB L i j = true → ∃ m, j < m ∧ m ≤ i ∧ upI L m = (j : Int) ∧ (gp L m).covers (gp L i) = true
  | 0, i, hn, hj, _, _ => by omega
  | n + 1, i, hn, hj, hi, hc => by
    rcases upI_range (L := L) (i := i) with h1 | ⟨c, h1, h2⟩
    · exfalso
      have := (filter_last (q := covB L i) i).1 (by
        unfold upI lastI covs at h1
        cases hl : ((List.range i).filter (covB L i)).getLast? with
        | none => rfl
        | some c => rw [hl] at h1; simp only at h1; omega) j hj
      rw [hc] at this; cases this
    · obtain ⟨u1, u2, u3⟩ := upI_iff.1 h1
      rcases Nat.lt_trichotomy c j with e | e | e
      · rw [u3 j e hj] at hc; cases hc
      · subst e; exact ⟨i, hj, Nat.le_refl _, h1, covers_refl (gp_ok h hi)⟩
      · have hcj : covB L c j = true := has_lt (covers_has hc (has_self (gp_ok h hi))) (covers_has u2 (has_self (gp_ok h hi))) (gp_lt h.srt e (by omega))
        obtain ⟨m, m1, m2, m3, m4⟩ := kid_over h n c (by omega) e (by omega) hcj
        exact ⟨m, m1, by omega, m3, covers_trans m4 u2⟩
theorem kids_cover {L : List En} (h : Tb L) {j : Nat} (hj : j < L.length) : covN L L.length j ≤ sizeN (gp L j) ∧ (covN L L.length j = sizeN (gp L j) ↔ hid L (gp L j)) := by
  have hv := gp_ok h hj
  have hs := last_size hv
  have hp0 : 0 < sizeN (gp L j) := Nat.two_pow_pos _
  have kin : ∀ i, i ∈ kidsL L L.length j ↔ i < L.length ∧ upI L i = (j : Int) := fun i => by
    unfold kidsL; rw [List.mem_filter, List.mem_range, decide_eq_true_eq]
  have hmem : ∀ p ∈ (kidsL L L.length j).map (gp L), p.valid = true ∧ (gp L j).a ≤ p.a ∧ p.last < (gp L j).last + 1 := fun p hp => by
    obtain ⟨i, hi, rfl⟩ := List.mem_map.1 hp
    obtain ⟨h1, h2⟩ := (kin i).1 hi
    obtain ⟨u1, u2, u3⟩ := upI_iff.1 h2
    have hvi := gp_ok h h1
    have ha := (has_iff hv).1 (covers_has u2 (has_self hvi))
    have hsi := last_size hvi
    have hpi : 0 < sizeN (gp L i) := Nat.two_pow_pos _
    have hb := (has_iff hv).1 (covers_has u2 ((has_iff hvi).2 ⟨by omega, Nat.le_refl _⟩))
    exact ⟨hvi, ha.1, by omega⟩
  have hdis : ((kidsL L L.length j).map (gp L)).Pairwise (fun p q => p.last < q.a) := by
    rw [List.pairwise_map]
    have hr : (kidsL L L.length j).Pairwise (· < ·) := List.pairwise_lt_range.sublist List.filter_sublist
    refine List.Pairwise.imp_of_mem (fun {i m} hi hm him => ?_) hr
    obtain ⟨h1, h2⟩ := (kin i).1 hi
    obtain ⟨h3, h4⟩ := (kin m).1 hm
    have hvi := gp_ok h h1
    have hvm := gp_ok h h3
    refine Nat.lt_of_not_le fun hc => ?_
    have hlt := gp_lt h.srt him h3
    have hia : (gp L i).has (gp L m).a = true := (has_iff hvi).2 ⟨by rcases hlt with h | h <;> omega, hc⟩
    have hcov := has_lt hia (has_self hvm) hlt
    have := (upI_iff.1 h4).2.2 i (upI_iff.1 h2).1 him
    unfold covB at this
    rw [hcov] at this; cases this
  obtain ⟨c1, c2⟩ := cover_sum (hi := (gp L j).last + 1) ((kidsL L L.length j).map (gp L)) (gp L j).a (by omega) hmem hdis
  have e1 : (((kidsL L L.length j).map (gp L)).map sizeN).sum = covN L L.length j := by rw [List.map_map]; rfl
  rw [e1] at c1 c2
  have e2 : (gp L j).last + 1 - (gp L j).a = sizeN (gp L j) := by omega
  rw [e2] at c1 c2
  refine ⟨c1, c2.trans ⟨fun hh a ha => ?_, fun hh x x1 x2 => ?_⟩⟩
  · obtain ⟨p, hp, hpa⟩ := hh a ((has_iff hv).1 ha).1 (by have := ((has_iff hv).1 ha).2; omega)
    obtain ⟨i, hi, rfl⟩ := List.mem_map.1 hp
    obtain ⟨h1, h2⟩ := (kin i).1 hi
    obtain ⟨u1, u2, u3⟩ := upI_iff.1 h2
    have hx := List.getElem?_eq_getElem h1
    have hg := gp_at hx
    refine ⟨L[i], List.getElem_mem _, fun e => ?_, by rw [← hg]; exact u2, by rw [← hg]; exact hpa⟩
    have := gp_lt h.srt u1 h1
    rw [hg, e] at this; exact pLt_irrefl _ this
  · obtain ⟨y, hy, y1, y2, y3⟩ := hh x ((has_iff hv).2 ⟨x1, by omega⟩)
    obtain ⟨i, hi, rfl⟩ := List.mem_iff_getElem.1 hy
    have hg := gp_at (List.getElem?_eq_getElem hi)
    have hji : j < i := by
      rcases Nat.lt_trichotomy j i with c | c | c
      · exact c
      · subst c; exact absurd hg.symm y1
      · have h3 := covers_lt y2 (Ne.symm y1)
        have h4 := gp_lt h.srt c hj
        rw [hg] at h4
        exact absurd (pLt_trans h3 h4) (pLt_irrefl _)
    obtain ⟨m, m1, m2, m3, m4⟩ := kid_over h i i (Nat.le_refl _) hji hi (by unfold covB; rw [hg]; exact y2)
    refine ⟨gp L m, List.mem_map.2 ⟨m, (kin m).2 ⟨by omega, m3⟩, rfl⟩, covers_has m4 (by rw [hg]; exact y3)⟩
theorem visL_eq {L : List En} (h : Tb L) : visL L = visP L := by
  unfold visP
  rw [← filter_idx, visL]
  congr 1
  refine List.filter_congr fun j hj => ?_
  have hj := List.mem_range.1 hj
  obtain ⟨h1, h2⟩ := kids_cover h hj
  rw [decide_eq_decide]
  show covN L L.length j < sizeN (gp L j) ↔ ¬hid L (gp L j)
  rw [← h2]; omega
theorem trimL_eq {L : List En} (h : Tb L) : trimL L = trimP L := by
  rw [trimL, visL_eq h, trimI_eq (visP_tb h)]; rfl
end Go.Proofs.Ytjpnaofoeeegeaa


/-
  Sets of addresses as intervals (the reference of layer 5): spans, outside, both.
  Conditions: the lists are not too long for a machine.
-/
namespace Go.Proofs.Ytjpnaofoeeegeaa
open Go.RowKit

theorem size_cast {p : Pf} (hv : p.valid = true) : (1 : Int) * 2 ^ ((32 : Int) - p.n).toNat = ((sizeN p : Nat) : Int) := by
  obtain ⟨v1, v2, v3⟩ := Pf.valid_iff.1 hv
  have : ((32 : Int) - p.n).toNat = 32 - p.n.toNat := by omega
  rw [this, Int.one_mul, sizeN]
  simp
theorem size_le (p : Pf) : 1 ≤ sizeN p ∧ sizeN p ≤ 4294967296 := by
  refine ⟨Nat.two_pow_pos _, ?_⟩
  have : sizeN p ≤ 2 ^ 32 := Nat.pow_le_pow_right (by decide) (Nat.sub_le ..)
  exact this
theorem inK_u64 (n : Nat) (h : n ≤ 8589934592) : InK .u64 (n : Int) := by simp only [InK]; omega
/-! ### outside -/
end Go.Proofs.Ytjpnaofoeeegeaa


/-
  Tables (layer 7): the reference's hidden, above and Trim.
  Conditions: the lists are not too long for a machine.
-/
namespace Go.Proofs.Ytjpnaofoeeegeaa
open Go.RowKit

theorem eqPf_dec (p q : Pf) : decide ((p.a : Int) = (q.a : Int) ∧ p.n = q.n) = decide (p = q) := by
  rw [decide_eq_decide]
  exact ⟨fun h => pf_eq (by omega) h.2, fun h => by rw [h]; exact ⟨rfl, rfl⟩⟩
/-! ### above -/
end Go.Proofs.Ytjpnaofoeeegeaa


/-
  Tables (layer 7): the tree of Minimal in memory: grow.
  Conditions: the lists are not too long for a machine.
-/
namespace Go.Proofs.Ytjpnaofoeeegeaa
open Go.RowKit

section
variable {P : Program} {N : Fr} {m : Env} {w : World} {ty : TypeId} {pos : String} {after : Array Edge} {g : Option (Nat × Bool)} {dst : Option Tmp}
theorem Yl_sliceHi {t e : TypeId} {x y : Operand} {k : IntKind} {i c n0 b0 n : Nat} {ao : Option Addr} [ht : TSlice P t e] [hs : TSize P e n0 b0] (hx : ev m x = some (.slice ao n c)) (hy : ev m y = some (.int k (i : Int))) (hi : i ≤ n) (_ : n ≤ c) :
    Yl P N m w ⟨dst, .slice t x none (some y) none, ty, pos, after, g⟩ (.slice ao i c) := by
  refine Yl_of_run fun ac w' ha _ => ?_
  obtain ⟨inf, h1, h2⟩ := Option.map_eq_some_iff.1 hs.h
  have he : P.elem t = e := by simp [Program.elem, ht.h]
  have hu : P.underlying t = some (.slice (P.elem t)) := by rw [he]; exact ht.h
  have h0 : ao.map (fun a => a.add 0) = ao := by cases ao <;> simp [Addr.add]
  have := run_slice_h (P := P) w' t ao n c hu k i (by omega) (by omega)
  simp only [execOp, Option.map_none, Option.map_some, ha.ev hx, ha.ev hy]
  simp only [Sem.run_bind, run_sliceAt_slice w' t _ _ _ _ hu, this, sizeOf, typeInfo, he]
  simp [sliced, h1, h0, Result.andThen]
def cutA (ao : Option Addr) (i c n0 : Nat) : Option Addr := if c = i then ao else ao.map (·.add (i * n0))
theorem Yl_sliceLo {t e : TypeId} {x y : Operand} {k : IntKind} {i c n0 b0 n : Nat} {ao : Option Addr} [ht : TSlice P t e] [hs : TSize P e n0 b0] (hx : ev m x = some (.slice ao n c)) (hy : ev m y = some (.int k (i : Int))) (hi : i ≤ n) (_ : n ≤ c) :
    Yl P N m w ⟨dst, .slice t x (some y) none none, ty, pos, after, g⟩ (.slice (cutA ao i c n0) (n - i) (c - i)) := by
  refine Yl_of_run fun ac w' ha _ => ?_
  obtain ⟨inf, h1, h2⟩ := Option.map_eq_some_iff.1 hs.h
  simp only [Prod.mk.injEq] at h2
  have he : P.elem t = e := by simp [Program.elem, ht.h]
  have hu : P.underlying t = some (.slice (P.elem t)) := by rw [he]; exact ht.h
  have := run_slice_l (P := P) w' t ao n c hu k i (by omega) (by omega)
  simp only [execOp, Option.map_none, Option.map_some, ha.ev hx, ha.ev hy]
  simp only [Sem.run_bind, run_sliceAt_slice w' t _ _ _ _ hu, this, sizeOf, typeInfo, he]
  simp [sliced, h1, h2.1, Result.andThen, cutA]
end
theorem built_kids (p q : Option Addr) : Try.prog.built 107 [(0, .pointer p), (1, .pointer q)] = some #[.pointer p, .pointer q] := by kernel_rfl
theorem Yl_kids {N : Fr} {m : Env} {w : World} {ty : TypeId} {pos : String} {after : Array Edge} {g : Option (Nat × Bool)} {dst : Option Tmp} {ps : Array (Nat × Operand)} {p q : Option Addr} (hp : evp m ps.toList = some [(0, .pointer p), (1, .pointer q)]) :
    Yl Try.prog N m w ⟨dst, .build 107 ps, ty, pos, after, g⟩ (.agg #[.pointer p, .pointer q]) :=
  Yl_of_run fun ac w' ha _ => by
    have e1 : ps.map (fun p => (p.1, ac.eval p.2)) = #[(0, .pointer p), (1, .pointer q)] := by
      have := ha.evp hp
      rw [← Array.toList_map] at this
      exact Array.toList_inj.1 this
    have := run_build (P := Try.prog) w' 107 #[(0, .pointer p), (1, .pointer q)] #[.pointer p, .pointer q] (built_kids p q)
    simp only [execOp, e1]
    simp [this]
/-- A slice of entries. -/
structure Sl (w : World) (ao : Option Addr) (n c : Nat) (l : List En) : Prop where
  len : n = l.length
  ens : Ens w ao l
  cap : n ≤ c
  nil : ao = none → c = 0
theorem Sl.ext {w w' : World} {ao : Option Addr} {n c : Nat} {l : List En} (h : Sl w ao n c l) (he : Ext w w') : Sl w' ao n c l := ⟨h.len, h.ens.ext he, h.cap, h.nil⟩
theorem Sl.hi {w : World} {ao : Option Addr} {n c : Nat} {A B : List En} (h : Sl w ao n c (A ++ B)) : Sl w ao A.length c A := by
  have h1 := h.len
  have h2 := h.cap
  rw [List.length_append] at h1
  have h3 : (A ++ B).take A.length = A := by simp
  have h4 := Arr.take h.ens A.length
  rw [← List.map_take, h3] at h4
  exact ⟨rfl, h4, by omega, h.nil⟩
theorem Sl.lo {w : World} {ao : Option Addr} {n c : Nat} {A B : List En} (h : Sl w ao n c (A ++ B)) : Sl w (cutA ao A.length c 3) (n - A.length) (c - A.length) B := by
  have h1 := h.len
  have h2 := h.cap
  rw [List.length_append] at h1
  have h3 : (A ++ B).drop A.length = B := by simp
  refine ⟨by omega, ?_, by omega, fun he => ?_⟩
  · unfold cutA
    split
    · have : B = [] := List.length_eq_zero_iff.1 (by omega)
      rw [this]; exact Arr.nil
    · cases ao with
      | none =>
        have := h.nil rfl
        have : B = [] := List.length_eq_zero_iff.1 (by omega)
        rw [this]; exact Arr.nil
      | some ad =>
        have h4 := Arr.drop h.ens A.length
        rw [← List.map_drop, h3] at h4
        exact h4
  · unfold cutA at he
    split at he
    · have := h.nil he; omega
    · have : ao = none := by cases ao <;> simp at he ⊢
      have := h.nil this; omega
theorem half_split {x k : Nat} {l : List En} (hk : k < 32) (h : Wi x k l) (hn : ∀ e ∈ l, ((k + 1 : Nat) : Int) ≤ e.p.n) : l = halfL x k 0 l ++ halfL x k 1 l := by
  unfold halfL
  induction l with
  | nil => rfl
  | cons e r ih =>
    obtain ⟨h1, h2⟩ := List.pairwise_cons.1 h.srt
    have ho := h.ok e (List.mem_cons_self ..)
    have hw : Wi x k r := ⟨fun y hy => h.ok y (List.mem_cons_of_mem _ hy), h2⟩
    have ih := ih hw fun y hy => hn y (List.mem_cons_of_mem _ hy)
    have hne := half_not hk ho.2.1 (hn e (List.mem_cons_self ..))
    cases hu : underB (kidA x k 0) (k + 1) e with
    | true =>
      rw [hu] at hne
      rw [List.filter_cons_of_pos hu, List.filter_cons_of_neg (by rw [hne]; decide), List.cons_append, ← ih]
    | false =>
      rw [hu] at hne
      have hz : r.filter (underB (kidA x k 0) (k + 1)) = [] := List.filter_eq_nil_iff.2 fun y hy hyu => by
        rw [underB, Bool.and_eq_true, decide_eq_true_eq] at hyu
        have he1 : top e.p.a (k + 1) = kidA x k 1 := by
          have hne2 : underB (kidA x k 1) (k + 1) e = true := hne
          rw [underB, Bool.and_eq_true, decide_eq_true_eq] at hne2
          exact hne2.1
        have hlt := h1 y hy
        have hle : e.p.a ≤ y.p.a := by rcases hlt with h | h <;> omega
        have := top_mono (c := k + 1) hle
        have hp : 0 < 2 ^ (31 - k) := Nat.two_pow_pos _
        rw [hyu.1, he1] at this
        unfold kidA at this; omega
      rw [List.filter_cons_of_neg (by rw [hu]; decide), List.filter_cons_of_pos hne, hz, List.nil_append]
      rw [hz, List.nil_append] at ih
      rw [← ih]
theorem half_addr {x k bit : Nat} {l : List En} {e : En} (he : e ∈ halfL x k bit l) : top e.p.a (k + 1) = kidA x k bit := by
  have := (List.mem_filter.1 he).2
  rw [underB, Bool.and_eq_true, decide_eq_true_eq] at this
  exact this.1
theorem half_lt {x k : Nat} {l : List En} (hk : k < 32) (hx : top x k = x) : ∀ e ∈ halfL x k 0 l, e.p.a < kidA x k 1 := fun e he => by
  have h1 := half_addr he
  refine Nat.lt_of_not_le fun h => ?_
  have h2 := top_mono (c := k + 1) h
  rw [h1, (kid_top hk hx (bit := 1) (by omega)).1] at h2
  have hp : 0 < 2 ^ (31 - k) := Nat.two_pow_pos _
  unfold kidA at h2; omega
theorem half_ge {x k : Nat} {l : List En} : ∀ e ∈ halfL x k 1 l, kidA x k 1 ≤ e.p.a := fun e he => by
  rw [← half_addr he]; exact top_le _ _
theorem halves_k {x k : Nat} (w : World) (hk : k < 32) (hx : top x k = x) (hl : x < 4294967296) : Calls Try.prog 66 #[(⟨x, (k : Int)⟩ : Pf).val] w (Ret (.tuple #[(⟨kidA x k 0, ((k + 1 : Nat) : Int)⟩ : Pf).val, (⟨kidA x k 1, ((k + 1 : Nat) : Int)⟩ : Pf).val, .bool true]) w) := by
  have hval : (⟨x, (k : Nat)⟩ : Pf).valid = true := Pf.valid_iff.2 ⟨by simp, by simp; omega, by simpa using hx⟩
  have hof0 : Pf.of x ((k : Int) + 1) = ⟨kidA x k 0, ((k + 1 : Nat) : Int)⟩ := by
    have h3 := (kid_top hk hx (bit := 0) (by omega)).1
    have h4 : kidA x k 0 = x := by unfold kidA; omega
    rw [h4] at h3
    rw [Pf.of, h4, show ((k : Int) + 1) = ((k + 1 : Nat) : Int) by omega, lowN_nat _ _ (by omega), h3]
  have hlast : (⟨x, (k : Int)⟩ : Pf).last = x + (2 ^ (32 - k) - 1) := by rw [Pf.last, if_pos hval]; simp
  have hof1 : Pf.of (⟨x, (k : Int)⟩ : Pf).last ((k : Int) + 1) = ⟨kidA x k 1, ((k + 1 : Nat) : Int)⟩ := by
    rw [Pf.of, hlast, show ((k : Int) + 1) = ((k + 1 : Nat) : Int) by omega, lowN_nat _ _ (by omega), last_kid hx hk hl]
  have hhalf := halves_v (⟨x, (k : Int)⟩ : Pf) w hl hval (by show (k : Int) < 32; omega)
  rw [hof0, hof1] at hhalf
  exact hhalf
/-! ### The tree -/
/-- Block b is the tree t. -/
def TrM (w : World) : Tr → Nat → Prop
  | .leaf v, b => ∃ ms, Blk w b 110 [.pointer none, .pointer none, .map (some ms)] ∧ SetJ w ms [v]
  | .node x y, b => ∃ bx by_ ms, Blk w b 110 [.pointer (some ⟨bx, 0, none⟩), .pointer (some ⟨by_, 0, none⟩), .map (some ms)] ∧ SetJ w ms (joinL x.set y.set) ∧ TrM w x bx ∧ TrM w y by_
theorem TrM.ext {w w' : World} : ∀ {t : Tr} {b : Nat}, TrM w t b → Ext w w' → TrM w' t b
  | .leaf _, _, ⟨ms, h1, h2⟩, he => ⟨ms, h1.ext he, h2.ext he⟩
  | .node _ _, _, ⟨bx, by_, ms, h1, h2, h3, h4⟩, he => ⟨bx, by_, ms, h1.ext he, h2.ext he, TrM.ext h3 he, TrM.ext h4 he⟩
/-- What every tree holds. -/
theorem TrM.set {w : World} : ∀ {t : Tr} {b : Nat}, TrM w t b → ∃ p q ms, Blk w b 110 [.pointer p, .pointer q, .map (some ms)] ∧ SetJ w ms t.set
  | .leaf _, _, ⟨ms, h1, h2⟩ => ⟨none, none, ms, h1, h2⟩
  | .node _ _, _, ⟨_, _, ms, h1, h2, _, _⟩ => ⟨_, _, ms, h1, h2⟩
def TrR (t : Tr) (r : Value) (w' : World) : Prop := ∃ b, r = .pointer (some ⟨b, 0, none⟩) ∧ TrM w' t b
theorem TrR.ext {t : Tr} {r : Value} {w w' : World} (h : TrR t r w) (he : Ext w w') : TrR t r w' := by
  obtain ⟨b, h1, h2⟩ := h
  exact ⟨b, h1, h2.ext he⟩
theorem setF_one (v : Int) : (fun y' => if y' = v then some (Value.bool true) else none) = setF [v] := by
  funext y
  unfold setF
  by_cases h : y = v
  · rw [if_pos h, if_pos (List.mem_singleton.2 h)]
  · rw [if_neg h, if_neg (fun h2 => h (List.mem_singleton.1 h2))]
def popB (x k : Nat) : List En → Bool
  | [] => false
  | e :: _ => decide (e.p = ⟨x, k⟩)
set_option maxHeartbeats 4000000 in
theorem grow_v : ∀ (f x k : Nat) (l : List En) (v : Int) (ao : Option Addr) (n c : Nat) (w : World), k + f = 32 → top x k = x → x < 4294967296 → Wi x k l → Sl w ao n c l → (∀ e ∈ l, e.p.a < 4294967296) → n ≤ 1000000 →
    Calls Try.prog 33 #[(⟨x, (k : Int)⟩ : Pf).val, .slice ao n c, .int .i64 v] w (Gives (TrR (grow f x k l v)) w) := by
  intro f
  induction f with
  | zero =>
    intro x k l v ao n c w hk hx hl hW hS hLa hn
    have hpm := pop_mem hW
    have hpw := pop_wi hW
    refine V_enter (vs := [_, _, _]) Try.func33 rfl Try.ntmps33 (Nat.le_of_ble_eq_true rfl) ?_
    repeat (first | refine Vx ?_ | (apply Ops_q; (case hon => exact Va); (case hd => rfl); (case hq => exact YlA)) | refine Vr ?_ | refine Vt ?_ | refine Vf ?_ | refine Vm ?_ | refine Ve ?_ | refine Vo ?_ | refine Vz ?_ | refine Vn ?_)
    (refine Ops_box (by exact Va) rfl rfl rfl ?_; intro w1 b3 n_b3; have k_b3 := n_b3.blk)
    have x1 := n_b3.ext
    have hcp : Cells w1 ⟨b3, 0, none⟩ [.int .u32 x, .int .i64 k] := k_b3.cells
    have hS1 := hS.ext x1
    clear n_b3 k_b3
    repeat (first | refine Vx ?_ | (apply Ops_q; (case hon => exact Va); (case hd => rfl); (case hq => exact YlA)) | refine Vr ?_ | refine Vt ?_ | refine Vf ?_ | refine Vm ?_ | refine Ve ?_ | refine Vo ?_ | refine Vz ?_ | refine Vn ?_)
    refine Ops_meet [(23, .bool (popB x k l)), (1, .slice ao n c), (2, .int .i64 v), (3, .pointer (some ⟨b3, 0, none⟩))] ?_ ?_
    · cases l with
      | nil =>
        have hn0 := hS.len
        have hd : decide ((0 : Int) < (n : Int)) = false := by rw [hn0]; rfl
        repeat (first | refine Vx ?_ | (apply Ops_q; (case hon => exact Va); (case hd => rfl); (case hq => exact YlA)) | refine Vr ?_ | refine Vt ?_ | refine Vf ?_ | refine Vm ?_ | refine Ve ?_ | refine Vo ?_ | refine Vz ?_ | refine Vn ?_)
        refine Ops_know rfl rfl hd ?_
        repeat (first | refine Vx ?_ | (apply Ops_q; (case hon => exact Va); (case hd => rfl); (case hq => exact YlA)) | refine Vr ?_ | refine Vt ?_ | refine Vf ?_ | refine Vm ?_ | refine Ve ?_ | refine Vo ?_ | refine Vz ?_ | refine Vn ?_)
        exact ⟨(by repeat (first | exact trivial | refine ⟨rfl, ?_⟩)), rfl⟩
      | cons e r =>
        have hn0 := hS.len
        rw [List.length_cons] at hn0
        have hd : decide ((0 : Int) < (n : Int)) = true := decide_eq_true (by omega)
        obtain ⟨ad, rfl, hce⟩ := hS1.ens.at (k := 0) (x := e) rfl
        have hce1 : Cells w1 (ad.add (0 * 3)) [.int .u32 e.p.a, .int .i64 e.p.n] := fun j u hj => hce j u (by
          match j, hj with
          | 0, hj => exact hj
          | 1, hj => exact hj)
        have hq := eqPf_dec e.p ⟨x, (k : Int)⟩
        dsimp only at hq
        have hn1 : 0 < n := by omega
        repeat (first | refine Vx ?_ | (apply Ops_q; (case hon => exact Va); (case hd => rfl); (case hq => exact YlA)) | refine Vr ?_ | refine Vt ?_ | refine Vf ?_ | refine Vm ?_ | refine Ve ?_ | refine Vo ?_ | refine Vz ?_ | refine Vn ?_)
        refine Ops_know rfl rfl hd ?_
        repeat (first | refine Vx ?_ | (apply Ops_q; (case hon => exact Va); (case hd => rfl); (case hq => exact YlA)) | refine Vr ?_ | refine Vt ?_ | refine Vf ?_ | refine Vm ?_ | refine Ve ?_ | refine Vo ?_ | refine Vz ?_ | refine Vn ?_)
        (apply Ops_q; (case hon => (exact Va)); (case hd => rfl); (case hq => exact Yl_indexS (j := 0) rfl rfl (by omega)))
        repeat (first | refine Vx ?_ | (apply Ops_q; (case hon => exact Va); (case hd => rfl); (case hq => exact YlA)) | refine Vr ?_ | refine Vt ?_ | refine Vf ?_ | refine Vm ?_ | refine Ve ?_ | refine Vo ?_ | refine Vz ?_ | refine Vn ?_)
        rw [hq]
        exact ⟨(by repeat (first | exact trivial | refine ⟨rfl, ?_⟩)), rfl⟩
    repeat (first | refine Vx ?_ | (apply Ops_q; (case hon => exact Va); (case hd => rfl); (case hq => exact YlA)) | refine Vr ?_ | refine Vt ?_ | refine Vf ?_ | refine Vm ?_ | refine Ve ?_ | refine Vo ?_ | refine Vz ?_ | refine Vn ?_)
    refine V_meet1 (fun s : Option Addr × Nat × Nat => [(1, .slice s.1 s.2.1 s.2.2), (2, .int .i64 (popV x k v l)), (3, .pointer (some ⟨b3, 0, none⟩))]) (fun s w' => w' = w1 ∧ Sl w1 s.1 s.2.1 s.2.2 (popL x k l)) ?_ ?_
    · refine V_cond rfl (fun hc => ?_) (fun hc => ?_)
      · cases l with
        | nil => cases hc
        | cons e r =>
          have he : e.p = ⟨x, k⟩ := of_decide_eq_true hc
          have hn0 := hS.len
          rw [List.length_cons] at hn0
          obtain ⟨ad, rfl, hce⟩ := hS1.ens.at (k := 0) (x := e) rfl
          have hcv : w1.cell? ((ad.add (0 * 3)).add 2) = some (.int .i64 e.v) := hce 2 _ rfl
          have hlo : Sl w1 (cutA (some ad) 1 c 3) (n - 1) (c - 1) r := Sl.lo (A := [e]) (B := r) hS1
          have hcap := hS.cap
          have hn1 : 0 < n := by omega
          repeat (first | refine Vx ?_ | (apply Ops_q; (case hon => exact Va); (case hd => rfl); (case hq => exact YlA)) | refine Vr ?_ | refine Vt ?_ | refine Vf ?_ | refine Vm ?_ | refine Ve ?_ | refine Vo ?_ | refine Vz ?_ | refine Vn ?_)
          (apply Ops_q; (case hon => (exact Va)); (case hd => rfl); (case hq => exact Yl_indexS (j := 0) rfl rfl (by omega)))
          repeat (first | refine Vx ?_ | (apply Ops_q; (case hon => exact Va); (case hd => rfl); (case hq => exact YlA)) | refine Vr ?_ | refine Vt ?_ | refine Vf ?_ | refine Vm ?_ | refine Ve ?_ | refine Vo ?_ | refine Vz ?_ | refine Vn ?_)
          (apply Ops_q; (case hon => (exact Va)); (case hd => rfl); (case hq => exact Yl_sliceLo (i := 1) rfl rfl (by omega) hcap))
          repeat (first | refine Vx ?_ | (apply Ops_q; (case hon => exact Va); (case hd => rfl); (case hq => exact YlA)) | refine Vr ?_ | refine Vt ?_ | refine Vf ?_ | refine Vm ?_ | refine Ve ?_ | refine Vo ?_ | refine Vz ?_ | refine Vn ?_)
          refine ⟨(cutA (some ad) 1 c 3, n - 1, c - 1), ?_, rfl, ?_⟩
          · dsimp only
            rw [popV, if_pos he]
            exact (by repeat (first | exact trivial | refine ⟨rfl, ?_⟩))
          · rw [popL, if_pos he]; exact hlo
      · have hpl : popL x k l = l ∧ popV x k v l = v := by
          cases l with
          | nil => exact ⟨rfl, rfl⟩
          | cons e r =>
            have he : ¬e.p = ⟨x, k⟩ := of_decide_eq_false hc
            rw [popL, popV, if_neg he, if_neg he]; exact ⟨rfl, rfl⟩
        repeat (first | refine Vx ?_ | (apply Ops_q; (case hon => exact Va); (case hd => rfl); (case hq => exact YlA)) | refine Vr ?_ | refine Vt ?_ | refine Vf ?_ | refine Vm ?_ | refine Ve ?_ | refine Vo ?_ | refine Vz ?_ | refine Vn ?_)
        refine ⟨(ao, n, c), ?_, rfl, by rw [hpl.1]; exact hS1⟩
        dsimp only
        rw [hpl.2]
        exact (by repeat (first | exact trivial | refine ⟨rfl, ?_⟩))
    rintro ⟨ao2, n2, c2⟩ w1' ⟨rfl, hS2⟩
    dsimp only at hS2 ⊢
    have hk' : k = 32 := by omega
    have hp0 : popL x k l = [] := by subst hk'; exact wi_full hW
    have hn2 := hS2.len
    rw [hp0, List.length_nil] at hn2
    subst hn2
    rw [grow]
    repeat (first | refine Vx ?_ | (apply Ops_q; (case hon => exact Va); (case hd => rfl); (case hq => exact YlA)) | refine Vr ?_ | refine Vt ?_ | refine Vf ?_ | refine Vm ?_ | refine Ve ?_ | refine Vo ?_ | refine Vz ?_ | refine Vn ?_)
    refine Ops_makeMapJ (k := .i64) (by exact Va) rfl ?_
    intro w2 bm x2 hbm hm
    repeat (first | refine Vx ?_ | (apply Ops_q; (case hon => exact Va); (case hd => rfl); (case hq => exact YlA)) | refine Vr ?_ | refine Vt ?_ | refine Vf ?_ | refine Vm ?_ | refine Ve ?_ | refine Vo ?_ | refine Vz ?_ | refine Vn ?_)
    refine Ops_insertJ (v := .bool true) (by exact Va) rfl rfl rfl hm ?_
    intro w3 g3 hm3
    have x3 : Ext w w3 := Mod.ext_of (x1.trans x2) ((Mod.of_ext (S := fun c => c = bm) (Ext.refl w2)).grow g3 (fun b hb => .inl (by cases hb; rfl))) (fun c hc => by rw [hc]; exact Nat.le_trans x1.size hbm)
    have hm4 : SetJ w3 bm [popV x k v l] := by
      unfold SetJ
      rw [setF_one] at hm3
      exact hm3
    repeat (first | refine Vx ?_ | (apply Ops_q; (case hon => exact Va); (case hd => rfl); (case hq => exact YlA)) | refine Vr ?_ | refine Vt ?_ | refine Vf ?_ | refine Vm ?_ | refine Ve ?_ | refine Vo ?_ | refine Vz ?_ | refine Vn ?_)
    (refine Ops_box (by exact Va) rfl rfl rfl ?_; intro w4 b4 n_b4; have k_b4 := n_b4.blk)
    repeat (first | refine Vx ?_ | (apply Ops_q; (case hon => exact Va); (case hd => rfl); (case hq => exact YlA)) | refine Vr ?_ | refine Vt ?_ | refine Vf ?_ | refine Vm ?_ | refine Ve ?_ | refine Vo ?_ | refine Vz ?_ | refine Vn ?_)
    refine ret1 (by first | exact .inl rfl | exact .inr rfl) rfl rfl ?_
    exact Gives_mk (fun w' he => ⟨b4, rfl, bm, (n_b4.blk).ext he, hm4.ext (n_b4.ext.trans he)⟩) (x3.trans n_b4.ext)
  | succ f ih =>
    intro x k l v ao n c w hk hx hl hW hS hLa hn
    have hpm := pop_mem hW
    have hpw := pop_wi hW
    refine V_enter (vs := [_, _, _]) Try.func33 rfl Try.ntmps33 (Nat.le_of_ble_eq_true rfl) ?_
    repeat (first | refine Vx ?_ | (apply Ops_q; (case hon => exact Va); (case hd => rfl); (case hq => exact YlA)) | refine Vr ?_ | refine Vt ?_ | refine Vf ?_ | refine Vm ?_ | refine Ve ?_ | refine Vo ?_ | refine Vz ?_ | refine Vn ?_)
    (refine Ops_box (by exact Va) rfl rfl rfl ?_; intro w1 b3 n_b3; have k_b3 := n_b3.blk)
    have x1 := n_b3.ext
    have hcp : Cells w1 ⟨b3, 0, none⟩ [.int .u32 x, .int .i64 k] := k_b3.cells
    have hS1 := hS.ext x1
    clear n_b3 k_b3
    repeat (first | refine Vx ?_ | (apply Ops_q; (case hon => exact Va); (case hd => rfl); (case hq => exact YlA)) | refine Vr ?_ | refine Vt ?_ | refine Vf ?_ | refine Vm ?_ | refine Ve ?_ | refine Vo ?_ | refine Vz ?_ | refine Vn ?_)
    refine Ops_meet [(23, .bool (popB x k l)), (1, .slice ao n c), (2, .int .i64 v), (3, .pointer (some ⟨b3, 0, none⟩))] ?_ ?_
    · cases l with
      | nil =>
        have hn0 := hS.len
        have hd : decide ((0 : Int) < (n : Int)) = false := by rw [hn0]; rfl
        repeat (first | refine Vx ?_ | (apply Ops_q; (case hon => exact Va); (case hd => rfl); (case hq => exact YlA)) | refine Vr ?_ | refine Vt ?_ | refine Vf ?_ | refine Vm ?_ | refine Ve ?_ | refine Vo ?_ | refine Vz ?_ | refine Vn ?_)
        refine Ops_know rfl rfl hd ?_
        repeat (first | refine Vx ?_ | (apply Ops_q; (case hon => exact Va); (case hd => rfl); (case hq => exact YlA)) | refine Vr ?_ | refine Vt ?_ | refine Vf ?_ | refine Vm ?_ | refine Ve ?_ | refine Vo ?_ | refine Vz ?_ | refine Vn ?_)
        exact ⟨(by repeat (first | exact trivial | refine ⟨rfl, ?_⟩)), rfl⟩
      | cons e r =>
        have hn0 := hS.len
        rw [List.length_cons] at hn0
        have hd : decide ((0 : Int) < (n : Int)) = true := decide_eq_true (by omega)
        obtain ⟨ad, rfl, hce⟩ := hS1.ens.at (k := 0) (x := e) rfl
        have hce1 : Cells w1 (ad.add (0 * 3)) [.int .u32 e.p.a, .int .i64 e.p.n] := fun j u hj => hce j u (by
          match j, hj with
          | 0, hj => exact hj
          | 1, hj => exact hj)
        have hq := eqPf_dec e.p ⟨x, (k : Int)⟩
        dsimp only at hq
        have hn1 : 0 < n := by omega
        repeat (first | refine Vx ?_ | (apply Ops_q; (case hon => exact Va); (case hd => rfl); (case hq => exact YlA)) | refine Vr ?_ | refine Vt ?_ | refine Vf ?_ | refine Vm ?_ | refine Ve ?_ | refine Vo ?_ | refine Vz ?_ | refine Vn ?_)
        refine Ops_know rfl rfl hd ?_
        repeat (first | refine Vx ?_ | (apply Ops_q; (case hon => exact Va); (case hd => rfl); (case hq => exact YlA)) | refine Vr ?_ | refine Vt ?_ | refine Vf ?_ | refine Vm ?_ | refine Ve ?_ | refine Vo ?_ | refine Vz ?_ | refine Vn ?_)
        (apply Ops_q; (case hon => (exact Va)); (case hd => rfl); (case hq => exact Yl_indexS (j := 0) rfl rfl (by omega)))
        repeat (first | refine Vx ?_ | (apply Ops_q; (case hon => exact Va); (case hd => rfl); (case hq => exact YlA)) | refine Vr ?_ | refine Vt ?_ | refine Vf ?_ | refine Vm ?_ | refine Ve ?_ | refine Vo ?_ | refine Vz ?_ | refine Vn ?_)
        rw [hq]
        exact ⟨(by repeat (first | exact trivial | refine ⟨rfl, ?_⟩)), rfl⟩
    repeat (first | refine Vx ?_ | (apply Ops_q; (case hon => exact Va); (case hd => rfl); (case hq => exact YlA)) | refine Vr ?_ | refine Vt ?_ | refine Vf ?_ | refine Vm ?_ | refine Ve ?_ | refine Vo ?_ | refine Vz ?_ | refine Vn ?_)
    refine V_meet1 (fun s : Option Addr × Nat × Nat => [(1, .slice s.1 s.2.1 s.2.2), (2, .int .i64 (popV x k v l)), (3, .pointer (some ⟨b3, 0, none⟩))]) (fun s w' => w' = w1 ∧ Sl w1 s.1 s.2.1 s.2.2 (popL x k l)) ?_ ?_
    · refine V_cond rfl (fun hc => ?_) (fun hc => ?_)
      · cases l with
        | nil => cases hc
        | cons e r =>
          have he : e.p = ⟨x, k⟩ := of_decide_eq_true hc
          have hn0 := hS.len
          rw [List.length_cons] at hn0
          obtain ⟨ad, rfl, hce⟩ := hS1.ens.at (k := 0) (x := e) rfl
          have hcv : w1.cell? ((ad.add (0 * 3)).add 2) = some (.int .i64 e.v) := hce 2 _ rfl
          have hlo : Sl w1 (cutA (some ad) 1 c 3) (n - 1) (c - 1) r := Sl.lo (A := [e]) (B := r) hS1
          have hcap := hS.cap
          have hn1 : 0 < n := by omega
          repeat (first | refine Vx ?_ | (apply Ops_q; (case hon => exact Va); (case hd => rfl); (case hq => exact YlA)) | refine Vr ?_ | refine Vt ?_ | refine Vf ?_ | refine Vm ?_ | refine Ve ?_ | refine Vo ?_ | refine Vz ?_ | refine Vn ?_)
          (apply Ops_q; (case hon => (exact Va)); (case hd => rfl); (case hq => exact Yl_indexS (j := 0) rfl rfl (by omega)))
          repeat (first | refine Vx ?_ | (apply Ops_q; (case hon => exact Va); (case hd => rfl); (case hq => exact YlA)) | refine Vr ?_ | refine Vt ?_ | refine Vf ?_ | refine Vm ?_ | refine Ve ?_ | refine Vo ?_ | refine Vz ?_ | refine Vn ?_)
          (apply Ops_q; (case hon => (exact Va)); (case hd => rfl); (case hq => exact Yl_sliceLo (i := 1) rfl rfl (by omega) hcap))
          repeat (first | refine Vx ?_ | (apply Ops_q; (case hon => exact Va); (case hd => rfl); (case hq => exact YlA)) | refine Vr ?_ | refine Vt ?_ | refine Vf ?_ | refine Vm ?_ | refine Ve ?_ | refine Vo ?_ | refine Vz ?_ | refine Vn ?_)
          refine ⟨(cutA (some ad) 1 c 3, n - 1, c - 1), ?_, rfl, ?_⟩
          · dsimp only
            rw [popV, if_pos he]
            exact (by repeat (first | exact trivial | refine ⟨rfl, ?_⟩))
          · rw [popL, if_pos he]; exact hlo
      · have hpl : popL x k l = l ∧ popV x k v l = v := by
          cases l with
          | nil => exact ⟨rfl, rfl⟩
          | cons e r =>
            have he : ¬e.p = ⟨x, k⟩ := of_decide_eq_false hc
            rw [popL, popV, if_neg he, if_neg he]; exact ⟨rfl, rfl⟩
        repeat (first | refine Vx ?_ | (apply Ops_q; (case hon => exact Va); (case hd => rfl); (case hq => exact YlA)) | refine Vr ?_ | refine Vt ?_ | refine Vf ?_ | refine Vm ?_ | refine Ve ?_ | refine Vo ?_ | refine Vz ?_ | refine Vn ?_)
        refine ⟨(ao, n, c), ?_, rfl, by rw [hpl.1]; exact hS1⟩
        dsimp only
        rw [hpl.2]
        exact (by repeat (first | exact trivial | refine ⟨rfl, ?_⟩))
    rintro ⟨ao2, n2, c2⟩ w1' ⟨rfl, hS2⟩
    dsimp only at hS2 ⊢
    have hk32 : k < 32 := by omega
    rw [grow]
    have hn2 := hS2.len
    have hn2n : n2 ≤ n := by
      have h1 := hS.len
      have : (popL x k l).length ≤ l.length := by
        cases l with
        | nil => exact Nat.le_refl _
        | cons e r => rw [popL]; split <;> simp
      omega
    by_cases hp0 : popL x k l = []
    · rw [hp0, List.length_nil] at hn2
      subst hn2
      rw [if_pos (by rw [hp0]; rfl)]
      repeat (first | refine Vx ?_ | (apply Ops_q; (case hon => exact Va); (case hd => rfl); (case hq => exact YlA)) | refine Vr ?_ | refine Vt ?_ | refine Vf ?_ | refine Vm ?_ | refine Ve ?_ | refine Vo ?_ | refine Vz ?_ | refine Vn ?_)
      refine Ops_makeMapJ (k := .i64) (by exact Va) rfl ?_
      intro w2 bm x2 hbm hm
      repeat (first | refine Vx ?_ | (apply Ops_q; (case hon => exact Va); (case hd => rfl); (case hq => exact YlA)) | refine Vr ?_ | refine Vt ?_ | refine Vf ?_ | refine Vm ?_ | refine Ve ?_ | refine Vo ?_ | refine Vz ?_ | refine Vn ?_)
      refine Ops_insertJ (v := .bool true) (by exact Va) rfl rfl rfl hm ?_
      intro w3 g3 hm3
      have x3 : Ext w w3 := Mod.ext_of (x1.trans x2) ((Mod.of_ext (S := fun c => c = bm) (Ext.refl w2)).grow g3 (fun b hb => .inl (by cases hb; rfl))) (fun c hc => by rw [hc]; exact Nat.le_trans x1.size hbm)
      have hm4 : SetJ w3 bm [popV x k v l] := by
        unfold SetJ
        rw [setF_one] at hm3
        exact hm3
      repeat (first | refine Vx ?_ | (apply Ops_q; (case hon => exact Va); (case hd => rfl); (case hq => exact YlA)) | refine Vr ?_ | refine Vt ?_ | refine Vf ?_ | refine Vm ?_ | refine Ve ?_ | refine Vo ?_ | refine Vz ?_ | refine Vn ?_)
      (refine Ops_box (by exact Va) rfl rfl rfl ?_; intro w4 b4 n_b4; have k_b4 := n_b4.blk)
      repeat (first | refine Vx ?_ | (apply Ops_q; (case hon => exact Va); (case hd => rfl); (case hq => exact YlA)) | refine Vr ?_ | refine Vt ?_ | refine Vf ?_ | refine Vm ?_ | refine Ve ?_ | refine Vo ?_ | refine Vz ?_ | refine Vn ?_)
      refine ret1 (by first | exact .inl rfl | exact .inr rfl) rfl rfl ?_
      exact Gives_mk (fun w' he => ⟨b4, rfl, bm, (n_b4.blk).ext he, hm4.ext (n_b4.ext.trans he)⟩) (x3.trans n_b4.ext)
    rw [if_neg (by rw [List.isEmpty_iff]; exact hp0)]
    have hnz : decide ((n2 : Int) = 0) = false := decide_eq_false (fun e => hp0 (List.length_eq_zero_iff.1 (by omega)))
    have hsp := half_split hk32 hpw (fun e he => (hpm e he).2)
    have hA1 := half_lt (l := popL x k l) hk32 hx
    have hB1 := half_ge (x := x) (k := k) (l := popL x k l)
    have hv' : ∀ e ∈ popL x k l, e.p.valid = true := fun e he => (hpw.ok e he).1
    have wA := half_wi (x := x) (k := k) (bit := 0) hpw.srt hv'
    have wB := half_wi (x := x) (k := k) (bit := 1) hpw.srt hv'
    have aA : ∀ e ∈ halfL x k 0 (popL x k l), e.p.a < 4294967296 := fun e he => hLa e (hpm e (half_sub he)).1
    have aB : ∀ e ∈ halfL x k 1 (popL x k l), e.p.a < 4294967296 := fun e he => hLa e (hpm e (half_sub he)).1
    have hh := fun w => halves_k (x := x) (k := k) w hk32 hx hl
    have t0 := (kid_top hk32 hx (bit := 0) (by omega)).1
    have t1 := (kid_top hk32 hx (bit := 1) (by omega)).1
    have l0 := kid_lt hk32 hx (bit := 0) (by omega) hl
    have l1 := kid_lt hk32 hx (bit := 1) (by omega) hl
    generalize halfL x k 0 (popL x k l) = A at *
    generalize halfL x k 1 (popL x k l) = B at *
    generalize popV x k v l = v' at *
    generalize kidA x k 0 = y0 at *
    generalize kidA x k 1 = y1 at *
    rw [hsp] at hS2 hn2
    have hAn : A.length ≤ 1000000 ∧ (A ++ B).length ≤ 1000000 := by rw [List.length_append] at hn2 ⊢; omega
    subst hn2
    have g0 := fun ao n c w => ih y0 (k + 1) A v' ao n c w (by omega) t0 l0 wA
    have g1 := fun ao n c w => ih y1 (k + 1) B v' ao n c w (by omega) t1 l1 wB
    generalize grow f y0 (k + 1) A v' = T0 at *
    generalize grow f y1 (k + 1) B v' = T1 at *
    have hsH := hS2.hi
    have hsL := hS2.lo
    have hcap := hS2.cap
    clear ih hpm hpw hv' hsp hp0 hS1 hS hW hLa
    repeat (first | refine Vx ?_ | (apply Ops_q; (case hon => exact Va); (case hd => rfl); (case hq => exact YlA)) | refine Vr ?_ | refine Vt ?_ | refine Vf ?_ | refine Vm ?_ | refine Ve ?_ | refine Vo ?_ | refine Vz ?_ | refine Vn ?_)
    refine V_no rfl hnz ?_
    repeat (first | refine Vx ?_ | (apply Ops_q; (case hon => exact Va); (case hd => rfl); (case hq => exact YlA)) | refine Vr ?_ | refine Vt ?_ | refine Vf ?_ | refine Vm ?_ | refine Ve ?_ | refine Vo ?_ | refine Vz ?_ | refine Vn ?_)
    (apply Ops_q; (case hon => (exact Va)); (case hd => rfl); (case hq => exact Yl_call rfl (fun w_ e_ => hh w_)))
    repeat (first | refine Vx ?_ | (apply Ops_q; (case hon => exact Va); (case hd => rfl); (case hq => exact YlA)) | refine Vr ?_ | refine Vt ?_ | refine Vf ?_ | refine Vm ?_ | refine Ve ?_ | refine Vo ?_ | refine Vz ?_ | refine Vn ?_)
    (refine Ops_alloc (by exact Va) rfl ?_; intro w2 b7 n_b7; have k_b7 := n_b7.blk)
    repeat (first | refine Vx ?_ | (apply Ops_q; (case hon => exact Va); (case hd => rfl); (case hq => exact YlA)) | refine Vr ?_ | refine Vt ?_ | refine Vf ?_ | refine Vm ?_ | refine Ve ?_ | refine Vo ?_ | refine Vz ?_ | refine Vn ?_)
    (refine Ops_alloc (by exact Va) rfl ?_; intro w3 b8 n_b8; have k_b8 := n_b8.blk)
    have ne_b7_b8 : b7 ≠ b8 := Nat.ne_of_lt (Nat.lt_of_lt_of_le k_b7.lt n_b8.ge)
    replace k_b7 := k_b7.ext n_b8.ext
    repeat (first | refine Vx ?_ | (apply Ops_q; (case hon => exact Va); (case hd => rfl); (case hq => exact YlA)) | refine Vr ?_ | refine Vt ?_ | refine Vf ?_ | refine Vm ?_ | refine Ve ?_ | refine Vo ?_ | refine Vz ?_ | refine Vn ?_)
    (refine Ops_store (by exact Va) rfl rfl (by assumption) (by first | rfl | exact OneAll.h) ?_; intro w4 u_w4; have k_b7 := u_w4.blk)
    replace k_b8 := u_w4.keep k_b8 (Ne.symm ne_b7_b8)
    repeat (first | refine Vx ?_ | (apply Ops_q; (case hon => exact Va); (case hd => rfl); (case hq => exact YlA)) | refine Vr ?_ | refine Vt ?_ | refine Vf ?_ | refine Vm ?_ | refine Ve ?_ | refine Vo ?_ | refine Vz ?_ | refine Vn ?_)
    (refine Ops_store (by exact Va) rfl rfl (by assumption) (by first | rfl | exact OneAll.h) ?_; intro w5 u_w5; have k_b8 := u_w5.blk)
    replace k_b7 := u_w5.keep k_b7 ne_b7_b8
    have x5 : Ext w1' w5 := u_w5.below (u_w4.below (n_b7.ext.trans n_b8.ext) n_b7.ge) (Nat.le_trans n_b7.ext.size n_b8.ge)
    have hS5 := hS2.ext x5
    have h50 : Cells w5 ⟨b7, 0, none⟩ [.int .u32 y0, .int .i64 ((k + 1 : Nat) : Int)] := k_b7.cells
    have h51 : Cells w5 ⟨b8, 0, none⟩ [.int .u32 y1, .int .i64 ((k + 1 : Nat) : Int)] := k_b8.cells
    have x15 := x5
    replace x5 := x1.trans x5
    clear u_w5 u_w4 n_b7 n_b8 k_b7 k_b8 hS2 hcp
    repeat (first | refine Vx ?_ | (apply Ops_q; (case hon => exact Va); (case hd => rfl); (case hq => exact YlA)) | refine Vr ?_ | refine Vt ?_ | refine Vf ?_ | refine Vm ?_ | refine Ve ?_ | refine Vo ?_ | refine Vz ?_ | refine Vn ?_)
    (apply Ops_q; (case hon => (exact Va)); (case hd => rfl); (case hq => exact Yl_call rfl (fun w_ e_ => bsearch_v ao2 A B c2 ⟨y1, ((k + 1 : Nat) : Int)⟩ w_ (hS5.ens.ext e_) hA1 hB1 hAn.2)))
    repeat (first | refine Vx ?_ | (apply Ops_q; (case hon => exact Va); (case hd => rfl); (case hq => exact YlA)) | refine Vt ?_ | refine Vf ?_ | refine Vm ?_ | refine Ve ?_ | refine Vo ?_ | refine Vz ?_ | refine Vn ?_)
    refine V_give2 12 5 11 (TrR T0) (TrR T1) (fun _ _ _ he h => h.ext he) (fun _ _ _ he h => h.ext he) (by kernel_rfl) rfl rfl rfl rfl rfl (by kernel_rfl) rfl rfl rfl ?_
    repeat (first | (apply YsG.q; (case h2 => rfl); (case h3 => rfl); (case hq => exact YlA)) | refine YsG.nil rfl ?_)
    (apply YsG.q; (case h2 => rfl); (case h3 => rfl); (case hq => exact Yl_sliceHi (i := A.length) rfl rfl (by rw [List.length_append]; omega) hcap))
    repeat (first | (apply YsG.q; (case h2 => rfl); (case h3 => rfl); (case hq => exact YlA)) | refine YsG.nil rfl ?_)
    refine ⟨Gvs_call rfl (fun w_ e_ => g0 ao2 A.length c2 w_ (hsH.ext (x15.trans e_)) aA hAn.1), ?_⟩
    repeat (first | (apply YsG.q; (case h2 => rfl); (case h3 => rfl); (case hq => exact YlA)) | refine YsG.nil rfl ?_)
    (apply YsG.q; (case h2 => rfl); (case h3 => rfl); (case hq => exact Yl_sliceLo (i := A.length) rfl rfl (by rw [List.length_append]; omega) hcap))
    repeat (first | (apply YsG.q; (case h2 => rfl); (case h3 => rfl); (case hq => exact YlA)) | refine YsG.nil rfl ?_)
    refine ⟨Gvs_call rfl (fun w_ e_ => g1 _ _ _ w_ (hsL.ext (x15.trans e_)) aB (by rw [List.length_append] at hAn ⊢; omega)), ?_⟩
    repeat (first | (apply YsG.q; (case h2 => rfl); (case h3 => rfl); (case hq => exact YlA)) | refine YsG.nil rfl ?_)
    rintro _ _ w6 x6 ⟨bx, rfl, hT0⟩ ⟨by_, rfl, hT1⟩
    have x16 := x5.trans x6
    clear h50 h51 hS5 hsH hsL g0 g1 x15 hh
    repeat (first | refine Vx ?_ | (apply Ops_q; (case hon => exact Va); (case hd => rfl); (case hq => exact YlA)) | refine Vr ?_ | refine Vt ?_ | refine Vf ?_ | refine Vm ?_ | refine Ve ?_ | refine Vo ?_ | refine Vz ?_ | refine Vn ?_)
    (apply Ops_q; (case hon => (exact Va)); (case hd => rfl); (case hq => exact Yl_kids rfl))
    repeat (first | refine Vx ?_ | (apply Ops_q; (case hon => exact Va); (case hd => rfl); (case hq => exact YlA)) | refine Vr ?_ | refine Vt ?_ | refine Vf ?_ | refine Vm ?_ | refine Ve ?_ | refine Vo ?_ | refine Vz ?_ | refine Vn ?_)
    (refine Ops_box (by exact Va) rfl rfl rfl ?_; intro w7 b12 n_b12; have k_b12 := n_b12.blk)
    have hU0 := hT0
    have hU1 := hT1
    replace hT0 := hT0.ext n_b12.ext
    replace hT1 := hT1.ext n_b12.ext
    have x7 := x16.trans n_b12.ext
    have hb12 := Nat.le_trans x16.size n_b12.ge
    obtain ⟨p0, q0, m0, k0, s0⟩ := hT0.set
    obtain ⟨p1, q1, m1, k1, s1⟩ := hT1.set
    repeat (first | refine Vx ?_ | (apply Ops_q; (case hon => exact Va); (case hd => rfl); (case hq => exact YlA)) | refine Vt ?_ | refine Vf ?_ | refine Vm ?_ | refine Ve ?_ | refine Vo ?_ | refine Vz ?_ | refine Vn ?_)
    refine V_give1 18 17 (fun r w' => ∃ b, r = .map (some b) ∧ SetJ w' b (joinL T0.set T1.set)) (fun _ _ _ he ⟨b, h1, h2⟩ => ⟨b, h1, h2.ext he⟩) (by kernel_rfl) rfl rfl rfl (by kernel_rfl) rfl ?_
    repeat (first | (apply YsG.q; (case h2 => rfl); (case h3 => rfl); (case hq => exact YlA)) | refine YsG.nil rfl ?_)
    (apply YsG.q; (case h2 => rfl); (case h3 => rfl); (case hq => exact Yl_indexA (j := 0) rfl rfl (by first | exact Nat.le_of_ble_eq_true rfl | omega)))
    repeat (first | (apply YsG.q; (case h2 => rfl); (case h3 => rfl); (case hq => exact YlA)) | refine YsG.nil rfl ?_)
    (apply YsG.q; (case h2 => rfl); (case h3 => rfl); (case hq => exact Yl_indexA (j := 1) rfl rfl (by first | exact Nat.le_of_ble_eq_true rfl | omega)))
    repeat (first | (apply YsG.q; (case h2 => rfl); (case h3 => rfl); (case hq => exact YlA)) | refine YsG.nil rfl ?_)
    refine ⟨Gvs_call rfl (fun w_ e_ => (joined_v m0 m1 T0.set T1.set w_ (s0.ext e_) (s1.ext e_)).mono fun e w' ⟨r, h1, h2, b, h3, h4, _⟩ => ⟨r, h1, h2, b, h3, h4⟩), ?_⟩
    repeat (first | (apply YsG.q; (case h2 => rfl); (case h3 => rfl); (case hq => exact YlA)) | refine YsG.nil rfl ?_)
    rintro _ w8 x8 ⟨bj, rfl, hJ⟩
    have k12 := k_b12.ext x8
    replace hT0 := hT0.ext x8
    replace hT1 := hT1.ext x8
    clear k0 k1 s0 s1
    repeat (first | refine Vx ?_ | (apply Ops_q; (case hon => exact Va); (case hd => rfl); (case hq => exact YlA)) | refine Vr ?_ | refine Vt ?_ | refine Vf ?_ | refine Vm ?_ | refine Ve ?_ | refine Vo ?_ | refine Vz ?_ | refine Vn ?_)
    refine Ops_store (by exact Va) rfl rfl k12 (by first | rfl | exact OneAll.h) ?_
    intro w9 u9
    have k12' := u9.blk
    have hb12' : w7.heap.size ≤ w8.heap.size := x8.size
    have hx9 : Ext w6 w9 := u9.below (n_b12.ext.trans x8) n_b12.ge
    have x9 : Ext w w9 := u9.below (x7.trans x8) hb12
    have hJ9 : SetJ w9 bj (joinL T0.set T1.set) := MapJ.same hJ (u9.other bj (fun e => by
      subst e
      obtain ⟨es, cl, hh, _⟩ := hJ
      have := k12
      unfold Blk at this
      rw [hh] at this; cases this))
    repeat (first | refine Vx ?_ | (apply Ops_q; (case hon => exact Va); (case hd => rfl); (case hq => exact YlA)) | refine Vr ?_ | refine Vt ?_ | refine Vf ?_ | refine Vm ?_ | refine Ve ?_ | refine Vo ?_ | refine Vz ?_ | refine Vn ?_)
    refine ret1 (by first | exact .inl rfl | exact .inr rfl) rfl rfl ?_
    exact Gives_mk (fun w' he => ⟨b12, rfl, bx, by_, bj, k12'.ext he, hJ9.ext he, (hU0.ext hx9).ext he, (hU1.ext hx9).ext he⟩) x9
end Go.Proofs.Ytjpnaofoeeegeaa


/-
  Tables (layer 7): choose and Minimal.
  Conditions: the lists are not too long for a machine.
-/
namespace Go.Proofs.Ytjpnaofoeeegeaa
open Go.RowKit

/-- What choose leaves. -/
def ChR (base : Nat) (out : Value) (M : List En) (w : World) (r : Value) (w' : World) : Prop := Own w' base 42 3 r (M.map En.cells) ∧ ∀ c, r.ownBlock = some c → out.ownBlock = some c ∨ w.heap.size ≤ c
set_option maxHeartbeats 4000000 in
theorem choose_v (w0 : World) (base : Nat) (h0 : w0.heap.size ≤ base) : ∀ (t : Tr) (x k : Nat) (v : Int) (b : Nat) (out : Value) (M : List En) (w : World), t.fits k → top x k = x → x < 4294967296 → k ≤ 32 → TrM w0 t b → Ext w0 w → Own w base 42 3 out (M.map En.cells) → base ≤ w.heap.size → M.length + (choose t x k v).length ≤ 1000000 →
    Calls Try.prog 32 #[out, (⟨x, (k : Int)⟩ : Pf).val, .pointer (some ⟨b, 0, none⟩), .int .i64 v] w (Does (fun c => out.ownBlock = some c) (ChR base out (M ++ choose t x k v) w) w) := by
  intro t
  induction t with
  | leaf u =>
    intro x k v b out M w hf hx hl hk hT e0 hO hb hM
    have hkid : ∃ ms, Blk w0 b 110 [.pointer none, .pointer none, .map (some ms)] := by
      obtain ⟨ms, h, _⟩ := hT; exact ⟨ms, h⟩
    rw [choose] at hM ⊢
    obtain ⟨p0, q0, ms, kb0, hs0⟩ := hT.set
    change SetJ w0 ms [u] at hs0
    refine V_enter (vs := [_, _, _, _]) Try.func32 rfl Try.ntmps32 (Nat.le_of_ble_eq_true rfl) ?_
    repeat (first | refine Vx ?_ | (apply Ops_q; (case hon => exact Va); (case hd => rfl); (case hq => exact YlA)) | refine Vr ?_ | refine Vt ?_ | refine Vf ?_ | refine Vm ?_ | refine Ve ?_ | refine Vo ?_ | refine Vz ?_ | refine Vn ?_)
    (refine Ops_box (by exact Va) rfl rfl rfl ?_; intro w1 b5 n_b5; have k_b5 := n_b5.blk)
    have x1 := n_b5.ext
    have kb1 := kb0.ext (e0.trans x1)
    have hs1 := hs0.ext (e0.trans x1)
    have o1 := hO.ext x1
    have hob5 : out.ownBlock ≠ some b5 := fun e => by have := hO.lt e; have := n_b5.ge; omega
    have hb5 := n_b5.ge
    clear n_b5
    repeat (first | refine Vx ?_ | (apply Ops_q; (case hon => exact Va); (case hd => rfl); (case hq => exact YlA)) | refine Vr ?_ | refine Vt ?_ | refine Vf ?_ | refine Vm ?_ | refine Ve ?_ | refine Vo ?_ | refine Vz ?_ | refine Vn ?_)
    (apply Ops_q; (case hon => (exact Va)); (case hd => rfl); (case hq => exact Yl_inSet rfl rfl (hs1)))
    repeat (first | refine Vx ?_ | (apply Ops_q; (case hon => exact Va); (case hd => rfl); (case hq => exact YlA)) | refine Vr ?_ | refine Vt ?_ | refine Vf ?_ | refine Vm ?_ | refine Ve ?_ | refine Vo ?_ | refine Vz ?_ | refine Vn ?_)
    refine V_meet1 (fun s : Value => [(0, s), (3, .int .i64 (pick [u] v)), (2, .pointer (some ⟨b, 0, none⟩)), (5, .pointer (some ⟨b5, 0, none⟩))])
      (fun s w' => Mod (fun c => out.ownBlock = some c) w w' ∧ Own w' base 42 3 s ((M ++ choose1 [u] x k v).map En.cells) ∧ (∀ c, s.ownBlock = some c → out.ownBlock = some c ∨ w.heap.size ≤ c) ∧ Blk w' b5 40 [.int .u32 x, .int .i64 k] ∧ s.ownBlock ≠ some b5) ?_ ?_
    · by_cases hv : v ∈ [u]
      · have hd : (!decide (v ∈ [u])) = false := by rw [decide_eq_true hv]; rfl
        refine V_no rfl hd ?_
        repeat (first | refine Vx ?_ | (apply Ops_q; (case hon => exact Va); (case hd => rfl); (case hq => exact YlA)) | refine Vr ?_ | refine Vt ?_ | refine Vf ?_ | refine Vm ?_ | refine Ve ?_ | refine Vo ?_ | refine Vz ?_ | refine Vn ?_)
        refine ⟨out, ?_, .of_ext x1, ?_, fun c hc => .inl hc, k_b5, hob5⟩
        · rw [pick, if_pos hv]; exact (by repeat (first | exact trivial | refine ⟨rfl, ?_⟩))
        · rw [choose1, if_pos hv, List.append_nil]; exact o1
      · have hd : (!decide (v ∈ [u])) = true := by rw [decide_eq_false hv]; rfl
        have hc1 : choose1 [u] x k v = [⟨⟨x, k⟩, leastL [u]⟩] := by rw [choose1, if_neg hv]
        have hroom : M.length + 1 ≤ 1000000 := by rw [hc1] at hM; exact hM
        rw [hc1]
        rw [show pick [u] v = leastL [u] from by rw [pick, if_neg hv]]
        refine V_yes rfl hd ?_
        repeat (first | refine Vx ?_ | (apply Ops_q; (case hon => exact Va); (case hd => rfl); (case hq => exact YlA)) | refine Vr ?_ | refine Vt ?_ | refine Vf ?_ | refine Vm ?_ | refine Ve ?_ | refine Vo ?_ | refine Vz ?_ | refine Vn ?_)
        (apply Ops_q; (case hon => (exact Va)); (case hd => rfl); (case hq => exact Yl_call rfl (fun w_ e_ => least_v ms [u] w_ (hs1.ext e_))))
        repeat (first | refine Vx ?_ | (apply Ops_q; (case hon => exact Va); (case hd => rfl); (case hq => exact YlA)) | refine Vr ?_ | refine Vt ?_ | refine Vf ?_ | refine Vm ?_ | refine Ve ?_ | refine Vo ?_ | refine Vz ?_ | refine Vn ?_)
        (refine Ops_lit (by exact Va) rfl rfl rfl ?_; intro w6 b6 n_b6; have k_b6 := n_b6.blk)
        have o6 := o1.ext n_b6.ext
        have hcs : Cells w6 ⟨b6, 0, none⟩ (En.cells ⟨⟨x, (k : Int)⟩, leastL [u]⟩) := n_b6.blk.cells
        repeat (first | refine Vx ?_ | (apply Ops_q; (case hon => exact Va); (case hd => rfl); (case hq => exact YlA)) | refine Vr ?_ | refine Vt ?_ | refine Vf ?_ | refine Vm ?_ | refine Ve ?_ | refine Vo ?_ | refine Vz ?_ | refine Vn ?_)
        refine Ops_append1 (u := En.cells ⟨⟨x, (k : Int)⟩, leastL [u]⟩) (by exact Va) rfl rfl rfl rfl o6 hcs ⟨rfl⟩ ⟨rfl⟩ (by rw [List.length_map]; omega) rfl (Nat.le_trans hb (x1.trans n_b6.ext).size) ?_
        intro v' w7 o7 g7 d7
        have m67 : Mod (fun c => out.ownBlock = some c) w6 w7 := (Mod.of_ext (Ext.refl w6)).grow g7 (fun b hb => .inl hb)
        have m7 : Mod (fun c => out.ownBlock = some c) w w7 := (Mod.of_ext (x1.trans n_b6.ext)).grow g7 (fun b hb => .inl hb)
        rw [show [En.cells ⟨⟨x, (k : Int)⟩, leastL [u]⟩] = [(⟨⟨x, (k : Int)⟩, leastL [u]⟩ : En)].map En.cells from rfl, ← List.map_append] at o7
        have k7 := m67.blk (k_b5.ext n_b6.ext) hob5
        have hb57 : v'.ownBlock ≠ some b5 := dis_app d7 hob5 ((k_b5.ext n_b6.ext).lt)
        repeat (first | refine Vx ?_ | (apply Ops_q; (case hon => exact Va); (case hd => rfl); (case hq => exact YlA)) | refine Vr ?_ | refine Vt ?_ | refine Vf ?_ | refine Vm ?_ | refine Ve ?_ | refine Vo ?_ | refine Vz ?_ | refine Vn ?_)
        refine ⟨v', (by repeat (first | exact trivial | refine ⟨rfl, ?_⟩)), m7, o7, fun c hc => ?_, k7, hb57⟩
        rcases d7 with h | ⟨d, h, h2⟩
        · left; rw [← h]; exact hc
        · right; rw [h] at hc; cases hc; exact Nat.le_trans (x1.trans n_b6.ext).size h2
    rintro s w2 ⟨m2, o2, d2, k5, hs5⟩
    have hExt : ∀ w', Mod (fun c => out.ownBlock = some c) w w' → Ext w0 w' := fun w' hm => Mod.ext_of e0 hm (fun c hc => Nat.le_trans h0 (hO.ge hc))
    have e2 := hExt w2 m2
    clear o1 k_b5 hob5 x1 hs1 kb1
    obtain ⟨ms2, hk0⟩ := hkid
    have hk2 := hk0.ext e2
    repeat (first | refine Vx ?_ | (apply Ops_q; (case hon => exact Va); (case hd => rfl); (case hq => exact YlA)) | refine Vr ?_ | refine Vt ?_ | refine Vf ?_ | refine Vm ?_ | refine Ve ?_ | refine Vo ?_ | refine Vz ?_ | refine Vn ?_)
    (apply Ops_q; (case hon => (exact Va)); (case hd => rfl); (case hq => exact Yl_indexA (j := 0) rfl rfl (by first | exact Nat.le_of_ble_eq_true rfl | omega)))
    repeat (first | refine Vx ?_ | (apply Ops_q; (case hon => exact Va); (case hd => rfl); (case hq => exact YlA)) | refine Vr ?_ | refine Vt ?_ | refine Vf ?_ | refine Vm ?_ | refine Ve ?_ | refine Vo ?_ | refine Vz ?_ | refine Vn ?_)
    refine ret1 (by first | exact .inl rfl | exact .inr rfl) rfl rfl ?_
    exact Does_mk (fun w' he => ⟨o2.ext he, d2⟩) m2
  | node ta tb iha ihb =>
    intro x k v b out M w hf hx hl hk hT e0 hO hb hM
    obtain ⟨hk32, fa, fb⟩ := hf
    have hkid : ∃ bx by_ ms, Blk w0 b 110 [.pointer (some ⟨bx, 0, none⟩), .pointer (some ⟨by_, 0, none⟩), .map (some ms)] ∧ TrM w0 ta bx ∧ TrM w0 tb by_ := by
      obtain ⟨bx, by_, ms, h1, _, h3, h4⟩ := hT; exact ⟨bx, by_, ms, h1, h3, h4⟩
    rw [choose] at hM ⊢
    obtain ⟨p0, q0, ms, kb0, hs0⟩ := hT.set
    (change SetJ w0 ms (joinL ta.set tb.set) at hs0; generalize joinL ta.set tb.set = S at *)
    refine V_enter (vs := [_, _, _, _]) Try.func32 rfl Try.ntmps32 (Nat.le_of_ble_eq_true rfl) ?_
    repeat (first | refine Vx ?_ | (apply Ops_q; (case hon => exact Va); (case hd => rfl); (case hq => exact YlA)) | refine Vr ?_ | refine Vt ?_ | refine Vf ?_ | refine Vm ?_ | refine Ve ?_ | refine Vo ?_ | refine Vz ?_ | refine Vn ?_)
    (refine Ops_box (by exact Va) rfl rfl rfl ?_; intro w1 b5 n_b5; have k_b5 := n_b5.blk)
    have x1 := n_b5.ext
    have kb1 := kb0.ext (e0.trans x1)
    have hs1 := hs0.ext (e0.trans x1)
    have o1 := hO.ext x1
    have hob5 : out.ownBlock ≠ some b5 := fun e => by have := hO.lt e; have := n_b5.ge; omega
    have hb5 := n_b5.ge
    clear n_b5
    repeat (first | refine Vx ?_ | (apply Ops_q; (case hon => exact Va); (case hd => rfl); (case hq => exact YlA)) | refine Vr ?_ | refine Vt ?_ | refine Vf ?_ | refine Vm ?_ | refine Ve ?_ | refine Vo ?_ | refine Vz ?_ | refine Vn ?_)
    (apply Ops_q; (case hon => (exact Va)); (case hd => rfl); (case hq => exact Yl_inSet rfl rfl (hs1)))
    repeat (first | refine Vx ?_ | (apply Ops_q; (case hon => exact Va); (case hd => rfl); (case hq => exact YlA)) | refine Vr ?_ | refine Vt ?_ | refine Vf ?_ | refine Vm ?_ | refine Ve ?_ | refine Vo ?_ | refine Vz ?_ | refine Vn ?_)
    refine V_meet1 (fun s : Value => [(0, s), (3, .int .i64 (pick S v)), (2, .pointer (some ⟨b, 0, none⟩)), (5, .pointer (some ⟨b5, 0, none⟩))])
      (fun s w' => Mod (fun c => out.ownBlock = some c) w w' ∧ Own w' base 42 3 s ((M ++ choose1 S x k v).map En.cells) ∧ (∀ c, s.ownBlock = some c → out.ownBlock = some c ∨ w.heap.size ≤ c) ∧ Blk w' b5 40 [.int .u32 x, .int .i64 k] ∧ s.ownBlock ≠ some b5) ?_ ?_
    · by_cases hv : v ∈ S
      · have hd : (!decide (v ∈ S)) = false := by rw [decide_eq_true hv]; rfl
        refine V_no rfl hd ?_
        repeat (first | refine Vx ?_ | (apply Ops_q; (case hon => exact Va); (case hd => rfl); (case hq => exact YlA)) | refine Vr ?_ | refine Vt ?_ | refine Vf ?_ | refine Vm ?_ | refine Ve ?_ | refine Vo ?_ | refine Vz ?_ | refine Vn ?_)
        refine ⟨out, ?_, .of_ext x1, ?_, fun c hc => .inl hc, k_b5, hob5⟩
        · rw [pick, if_pos hv]; exact (by repeat (first | exact trivial | refine ⟨rfl, ?_⟩))
        · rw [choose1, if_pos hv, List.append_nil]; exact o1
      · have hd : (!decide (v ∈ S)) = true := by rw [decide_eq_false hv]; rfl
        have hc1 : choose1 S x k v = [⟨⟨x, k⟩, leastL S⟩] := by rw [choose1, if_neg hv]
        have hroom : M.length + 1 ≤ 1000000 := by rw [hc1] at hM; simp at hM; omega
        rw [hc1]
        rw [show pick S v = leastL S from by rw [pick, if_neg hv]]
        refine V_yes rfl hd ?_
        repeat (first | refine Vx ?_ | (apply Ops_q; (case hon => exact Va); (case hd => rfl); (case hq => exact YlA)) | refine Vr ?_ | refine Vt ?_ | refine Vf ?_ | refine Vm ?_ | refine Ve ?_ | refine Vo ?_ | refine Vz ?_ | refine Vn ?_)
        (apply Ops_q; (case hon => (exact Va)); (case hd => rfl); (case hq => exact Yl_call rfl (fun w_ e_ => least_v ms S w_ (hs1.ext e_))))
        repeat (first | refine Vx ?_ | (apply Ops_q; (case hon => exact Va); (case hd => rfl); (case hq => exact YlA)) | refine Vr ?_ | refine Vt ?_ | refine Vf ?_ | refine Vm ?_ | refine Ve ?_ | refine Vo ?_ | refine Vz ?_ | refine Vn ?_)
        (refine Ops_lit (by exact Va) rfl rfl rfl ?_; intro w6 b6 n_b6; have k_b6 := n_b6.blk)
        have o6 := o1.ext n_b6.ext
        have hcs : Cells w6 ⟨b6, 0, none⟩ (En.cells ⟨⟨x, (k : Int)⟩, leastL S⟩) := n_b6.blk.cells
        repeat (first | refine Vx ?_ | (apply Ops_q; (case hon => exact Va); (case hd => rfl); (case hq => exact YlA)) | refine Vr ?_ | refine Vt ?_ | refine Vf ?_ | refine Vm ?_ | refine Ve ?_ | refine Vo ?_ | refine Vz ?_ | refine Vn ?_)
        refine Ops_append1 (u := En.cells ⟨⟨x, (k : Int)⟩, leastL S⟩) (by exact Va) rfl rfl rfl rfl o6 hcs ⟨rfl⟩ ⟨rfl⟩ (by rw [List.length_map]; omega) rfl (Nat.le_trans hb (x1.trans n_b6.ext).size) ?_
        intro v' w7 o7 g7 d7
        have m67 : Mod (fun c => out.ownBlock = some c) w6 w7 := (Mod.of_ext (Ext.refl w6)).grow g7 (fun b hb => .inl hb)
        have m7 : Mod (fun c => out.ownBlock = some c) w w7 := (Mod.of_ext (x1.trans n_b6.ext)).grow g7 (fun b hb => .inl hb)
        rw [show [En.cells ⟨⟨x, (k : Int)⟩, leastL S⟩] = [(⟨⟨x, (k : Int)⟩, leastL S⟩ : En)].map En.cells from rfl, ← List.map_append] at o7
        have k7 := m67.blk (k_b5.ext n_b6.ext) hob5
        have hb57 : v'.ownBlock ≠ some b5 := dis_app d7 hob5 ((k_b5.ext n_b6.ext).lt)
        repeat (first | refine Vx ?_ | (apply Ops_q; (case hon => exact Va); (case hd => rfl); (case hq => exact YlA)) | refine Vr ?_ | refine Vt ?_ | refine Vf ?_ | refine Vm ?_ | refine Ve ?_ | refine Vo ?_ | refine Vz ?_ | refine Vn ?_)
        refine ⟨v', (by repeat (first | exact trivial | refine ⟨rfl, ?_⟩)), m7, o7, fun c hc => ?_, k7, hb57⟩
        rcases d7 with h | ⟨d, h, h2⟩
        · left; rw [← h]; exact hc
        · right; rw [h] at hc; cases hc; exact Nat.le_trans (x1.trans n_b6.ext).size h2
    rintro s w2 ⟨m2, o2, d2, k5, hs5⟩
    have hExt : ∀ w', Mod (fun c => out.ownBlock = some c) w w' → Ext w0 w' := fun w' hm => Mod.ext_of e0 hm (fun c hc => Nat.le_trans h0 (hO.ge hc))
    have e2 := hExt w2 m2
    clear o1 k_b5 hob5 x1 hs1 kb1
    obtain ⟨bx, by_, ms2, hk0, hTa, hTb⟩ := hkid
    have hk2 := hk0.ext e2
    have t0 := (kid_top hk32 hx (bit := 0) (by omega)).1
    have t1 := (kid_top hk32 hx (bit := 1) (by omega)).1
    have l0 := kid_lt hk32 hx (bit := 0) (by omega) hl
    have l1 := kid_lt hk32 hx (bit := 1) (by omega) hl
    have hh := fun w => halves_k (x := x) (k := k) w hk32 hx hl
    have hcp : Cells w2 ⟨b5, 0, none⟩ [.int .u32 x, .int .i64 k] := k5.cells
    generalize kidA x k 0 = y0 at *
    generalize kidA x k 1 = y1 at *
    generalize pick S v = v' at *
    generalize hC1 : choose1 S x k v = C1 at *
    generalize hCa : choose ta y0 (k + 1) v' = Ca at *
    generalize hCb : choose tb y1 (k + 1) v' = Cb at *
    rw [List.length_append, List.length_append] at hM
    repeat (first | refine Vx ?_ | (apply Ops_q; (case hon => exact Va); (case hd => rfl); (case hq => exact YlA)) | refine Vr ?_ | refine Vt ?_ | refine Vf ?_ | refine Vm ?_ | refine Ve ?_ | refine Vo ?_ | refine Vz ?_ | refine Vn ?_)
    (apply Ops_q; (case hon => (exact Va)); (case hd => rfl); (case hq => exact Yl_indexA (j := 0) rfl rfl (by first | exact Nat.le_of_ble_eq_true rfl | omega)))
    repeat (first | refine Vx ?_ | (apply Ops_q; (case hon => exact Va); (case hd => rfl); (case hq => exact YlA)) | refine Vr ?_ | refine Vt ?_ | refine Vf ?_ | refine Vm ?_ | refine Ve ?_ | refine Vo ?_ | refine Vz ?_ | refine Vn ?_)
    (apply Ops_q; (case hon => (exact Va)); (case hd => rfl); (case hq => exact Yl_call rfl (fun w_ e_ => hh w_)))
    repeat (first | refine Vx ?_ | (apply Ops_q; (case hon => exact Va); (case hd => rfl); (case hq => exact YlA)) | refine Vr ?_ | refine Vt ?_ | refine Vf ?_ | refine Vm ?_ | refine Ve ?_ | refine Vo ?_ | refine Vz ?_ | refine Vn ?_)
    (refine Ops_alloc (by exact Va) rfl ?_; intro w3 b9 n_b9; have k_b9 := n_b9.blk)
    repeat (first | refine Vx ?_ | (apply Ops_q; (case hon => exact Va); (case hd => rfl); (case hq => exact YlA)) | refine Vr ?_ | refine Vt ?_ | refine Vf ?_ | refine Vm ?_ | refine Ve ?_ | refine Vo ?_ | refine Vz ?_ | refine Vn ?_)
    (refine Ops_alloc (by exact Va) rfl ?_; intro w4 b10 n_b10; have k_b10 := n_b10.blk)
    have ne_b9_b10 : b9 ≠ b10 := Nat.ne_of_lt (Nat.lt_of_lt_of_le k_b9.lt n_b10.ge)
    replace k_b9 := k_b9.ext n_b10.ext
    repeat (first | refine Vx ?_ | (apply Ops_q; (case hon => exact Va); (case hd => rfl); (case hq => exact YlA)) | refine Vr ?_ | refine Vt ?_ | refine Vf ?_ | refine Vm ?_ | refine Ve ?_ | refine Vo ?_ | refine Vz ?_ | refine Vn ?_)
    (refine Ops_store (by exact Va) rfl rfl (by assumption) (by first | rfl | exact OneAll.h) ?_; intro w5 u_w5; have k_b9 := u_w5.blk)
    replace k_b10 := u_w5.keep k_b10 (Ne.symm ne_b9_b10)
    repeat (first | refine Vx ?_ | (apply Ops_q; (case hon => exact Va); (case hd => rfl); (case hq => exact YlA)) | refine Vr ?_ | refine Vt ?_ | refine Vf ?_ | refine Vm ?_ | refine Ve ?_ | refine Vo ?_ | refine Vz ?_ | refine Vn ?_)
    (refine Ops_store (by exact Va) rfl rfl (by assumption) (by first | rfl | exact OneAll.h) ?_; intro w6 u_w6; have k_b10 := u_w6.blk)
    replace k_b9 := u_w6.keep k_b9 ne_b9_b10
    have x6 : Ext w2 w6 := u_w6.below (u_w5.below (n_b9.ext.trans n_b10.ext) n_b9.ge) (Nat.le_trans n_b9.ext.size n_b10.ge)
    have m6 := m2.ext x6
    have o6 := o2.ext x6
    have hk6 := hk2.ext x6
    have e6 := e2.trans x6
    have hs9 : s.ownBlock ≠ some b9 := fun e => by have := o2.lt e; have := n_b9.ge; omega
    have hs10 : s.ownBlock ≠ some b10 := fun e => by have := o2.lt e; have := n_b10.ge; have := n_b9.ext.size; omega
    have hb6 := Nat.le_trans hb m6.size
    have h50 : Cells w6 ⟨b9, 0, none⟩ [.int .u32 y0, .int .i64 ((k + 1 : Nat) : Int)] := k_b9.cells
    clear u_w6 u_w5 n_b9 n_b10 hk2 o2 m2 e2 hcp k5 hs5
    repeat (first | refine Vx ?_ | (apply Ops_q; (case hon => exact Va); (case hd => rfl); (case hq => exact YlA)) | refine Vt ?_ | refine Vf ?_ | refine Vm ?_ | refine Ve ?_ | refine Vo ?_ | refine Vz ?_ | refine Vn ?_)
    refine V_region_mixed 8 (by kernel_rfl) (by kernel_rfl) rfl ?_
    repeat (first | refine Vx ?_ | (apply Ops_q; (case hon => exact Va); (case hd => rfl); (case hq => exact YlA)) | refine Vr ?_ | refine Vt ?_ | refine Vf ?_ | refine Vm ?_ | refine Ve ?_ | refine Vo ?_ | refine Vz ?_ | refine Vn ?_)
    (apply Ops_q; (case hon => (exact Va)); (case hd => rfl); (case hq => exact Yl_indexA (j := 0) rfl rfl (by first | exact Nat.le_of_ble_eq_true rfl | omega)))
    repeat (first | refine Vx ?_ | (apply Ops_q; (case hon => exact Va); (case hd => rfl); (case hq => exact YlA)) | refine Vr ?_ | refine Vt ?_ | refine Vf ?_ | refine Vm ?_ | refine Ve ?_ | refine Vo ?_ | refine Vz ?_ | refine Vn ?_)
    refine Ops_callM (S := fun c => s.ownBlock = some c) (R := fun w0 => ChR base s (M ++ C1 ++ Ca) w0) (by exact Va) rfl rfl (fun w_ e_ => by rw [← hCa]; exact iha y0 (k + 1) v' bx s (M ++ C1) w_ fa t0 l0 (by omega) hTa (e6.trans e_) (o6.ext e_) (Nat.le_trans hb6 e_.size) (by rw [hCa, List.length_append]; omega)) ?_
    intro r w7 w0_ ex7 m7 hR
    obtain ⟨o7, d7⟩ := hR
    have m07 : Mod (fun c => out.ownBlock = some c) w w7 := (m6.ext ex7).trans' m7 d2
    have e7 := hExt w7 m07
    have k10 := m7.blk (k_b10.ext ex7) hs10
    have hk7 := hk0.ext e7
    have hr10 : r.ownBlock ≠ some b10 := fun e => by
      rcases d7 b10 e with h | h
      · exact hs10 h
      · have := (k_b10.ext ex7).lt; omega
    have d27 : ∀ c, r.ownBlock = some c → out.ownBlock = some c ∨ w.heap.size ≤ c := fun c hc => by
      rcases d7 c hc with h | h
      · exact d2 c h
      · exact .inr (Nat.le_trans (Nat.le_trans m6.size ex7.size) h)
    have hb7 := Nat.le_trans hb m07.size
    have h51 : Cells w7 ⟨b10, 0, none⟩ [.int .u32 y1, .int .i64 ((k + 1 : Nat) : Int)] := k10.cells
    clear m7 ex7 o6 k_b10 k_b9 h50 hk6 m6 hs9 hs10 d7
    repeat (first | refine Vx ?_ | (apply Ops_q; (case hon => exact Va); (case hd => rfl); (case hq => exact YlA)) | refine Vt ?_ | refine Vf ?_ | refine Vm ?_ | refine Ve ?_ | refine Vo ?_ | refine Vz ?_ | refine Vn ?_)
    refine V_region_mixed 8 (by kernel_rfl) (by kernel_rfl) rfl ?_
    repeat (first | refine Vx ?_ | (apply Ops_q; (case hon => exact Va); (case hd => rfl); (case hq => exact YlA)) | refine Vr ?_ | refine Vt ?_ | refine Vf ?_ | refine Vm ?_ | refine Ve ?_ | refine Vo ?_ | refine Vz ?_ | refine Vn ?_)
    (apply Ops_q; (case hon => (exact Va)); (case hd => rfl); (case hq => exact Yl_indexA (j := 1) rfl rfl (by first | exact Nat.le_of_ble_eq_true rfl | omega)))
    repeat (first | refine Vx ?_ | (apply Ops_q; (case hon => exact Va); (case hd => rfl); (case hq => exact YlA)) | refine Vr ?_ | refine Vt ?_ | refine Vf ?_ | refine Vm ?_ | refine Ve ?_ | refine Vo ?_ | refine Vz ?_ | refine Vn ?_)
    refine Ops_callM (S := fun c => r.ownBlock = some c) (R := fun w0 => ChR base r (M ++ C1 ++ Ca ++ Cb) w0) (by exact Va) rfl rfl (fun w_ e_ => by rw [← hCb]; exact ihb y1 (k + 1) v' by_ r (M ++ C1 ++ Ca) w_ fb t1 l1 (by omega) hTb (e7.trans e_) (o7.ext e_) (Nat.le_trans hb7 e_.size) (by rw [hCb, List.length_append, List.length_append]; omega)) ?_
    intro r2 w8 w0_ ex8 m8 hR
    obtain ⟨o8, d8⟩ := hR
    have m08 : Mod (fun c => out.ownBlock = some c) w w8 := (m07.ext ex8).trans' m8 d27
    have d28 : ∀ c, r2.ownBlock = some c → out.ownBlock = some c ∨ w.heap.size ≤ c := fun c hc => by
      rcases d8 c hc with h | h
      · exact d27 c h
      · exact .inr (Nat.le_trans (Nat.le_trans m07.size ex8.size) h)
    rw [List.append_assoc, List.append_assoc] at o8
    repeat (first | refine Vx ?_ | (apply Ops_q; (case hon => exact Va); (case hd => rfl); (case hq => exact YlA)) | refine Vr ?_ | refine Vt ?_ | refine Vf ?_ | refine Vm ?_ | refine Ve ?_ | refine Vo ?_ | refine Vz ?_ | refine Vn ?_)
    refine ret1 (by first | exact .inl rfl | exact .inr rfl) rfl rfl ?_
    exact Does_mk (fun w' he => ⟨o8.ext he, d28⟩) m08
/-- What Minimal returns. -/
def minT (L : List En) : List En := if chk L = 0 then minL L else []
def MinR (w : World) (L : List En) (r : Value) (w' : World) : Prop := ∃ v, r = .tuple #[v, .int .i64 (chk L)] ∧ Own w' w.heap.size 42 3 v ((minT L).map En.cells)
set_option maxHeartbeats 1000000 in
theorem minimal_v (ao : Option Addr) (L : List En) (c : Nat) (w : World) (hL : Sl w ao L.length c L) (hLa : ∀ e ∈ L, e.p.a < 4294967296) (hn : L.length ≤ 1000000) :
    Calls Try.prog 10 #[.slice ao L.length c] w (Gives (MinR w L) w) := by
  refine V_enter (vs := [_]) Try.func10 rfl Try.ntmps10 (Nat.le_of_ble_eq_true rfl) ?_
  repeat (first | refine Vx ?_ | (apply Ops_q; (case hon => exact Va); (case hd => rfl); (case hq => exact YlA)) | refine Vr ?_ | refine Vt ?_ | refine Vf ?_ | refine Vm ?_ | refine Ve ?_ | refine Vo ?_ | refine Vz ?_ | refine Vn ?_)
  (apply Ops_q; (case hon => (exact Va)); (case hd => rfl); (case hq => exact Yl_call rfl (fun w_ e_ => check_v ao L c w_ (hL.ens.ext e_) hLa hn)))
  repeat (first | refine Vx ?_ | (apply Ops_q; (case hon => exact Va); (case hd => rfl); (case hq => exact YlA)) | refine Vr ?_ | refine Vt ?_ | refine Vf ?_ | refine Vm ?_ | refine Ve ?_ | refine Vo ?_ | refine Vz ?_ | refine Vn ?_)
  refine V_cond rfl (fun h1 => ?_) (fun h1 => ?_)
  · have h0 : ¬chk L = 0 := by simpa using h1
    repeat (first | refine Vx ?_ | (apply Ops_q; (case hon => exact Va); (case hd => rfl); (case hq => exact YlA)) | refine Vr ?_ | refine Vt ?_ | refine Vf ?_ | refine Vm ?_ | refine Ve ?_ | refine Vo ?_ | refine Vz ?_ | refine Vn ?_)
    refine ret2 (by first | exact .inl rfl | exact .inr rfl) rfl rfl rfl ?_
    exact Gives_mk (fun w' he => ⟨_, rfl, by rw [minT, if_neg h0]; exact Own.nil⟩) (Ext.refl _)
  have h0 : chk L = 0 := by simpa using h1
  clear h1
  have hT := (chk_iff.1 h0).2
  have hml := (min_tb hT hLa).2.2
  have hm : minT L = choose (grow 32 0 0 L (-1)) 0 0 (-1) := by rw [minT, if_pos h0]; rfl
  unfold minL at hml
  have hg := fun w_ (e_ : Ext w w_) => grow_v 32 0 0 L (-1) ao L.length c w_ rfl (by decide) (by decide) (hT.wi hLa) (hL.ext e_) hLa hn
  have hf := grow_fits 32 0 0 L (-1) rfl
  generalize grow 32 0 0 L (-1) = T at *
  repeat (first | refine Vx ?_ | (apply Ops_q; (case hon => exact Va); (case hd => rfl); (case hq => exact YlA)) | refine Vr ?_ | refine Vt ?_ | refine Vf ?_ | refine Vm ?_ | refine Ve ?_ | refine Vo ?_ | refine Vz ?_ | refine Vn ?_)
  (refine Ops_callR (by exact Va) rfl rfl (fun w_ e_ => hg w_ e_) ?_; intro v w1 w0_ e0_ e1_ r_v; have e_w1 := e0_.trans e1_; have b_v := e0_.size; clear e0_ e1_)
  obtain ⟨b, rfl, hTr⟩ := r_v
  repeat (first | refine Vx ?_ | (apply Ops_q; (case hon => exact Va); (case hd => rfl); (case hq => exact YlA)) | refine Vr ?_ | refine Vt ?_ | refine Vf ?_ | refine Vm ?_ | refine Ve ?_ | refine Vo ?_ | refine Vz ?_ | refine Vn ?_)
  refine Ops_callM (S := fun c => (Value.slice none 0 0).ownBlock = some c) (R := fun w0 => ChR w1.heap.size (.slice none 0 0) ([] ++ choose T 0 0 (-1)) w0) (by exact Va) rfl rfl (fun w_ e_ => choose_v w1 w1.heap.size (Nat.le_refl _) T 0 0 (-1) b (.slice none 0 0) [] w_ hf (by decide) (by decide) (by decide) hTr e_ Own.nil e_.size (by simp; omega)) ?_
  intro r w2 w0_ ex2 m2 hR
  obtain ⟨o2, _⟩ := hR
  rw [List.nil_append] at o2
  have x2 : Ext w w2 := Mod.ext_of (e_w1.trans ex2) m2 (fun c hc => by cases hc)
  repeat (first | refine Vx ?_ | (apply Ops_q; (case hon => exact Va); (case hd => rfl); (case hq => exact YlA)) | refine Vr ?_ | refine Vt ?_ | refine Vf ?_ | refine Vm ?_ | refine Ve ?_ | refine Vo ?_ | refine Vz ?_ | refine Vn ?_)
  refine ret2 (by first | exact .inl rfl | exact .inr rfl) rfl rfl rfl ?_
  exact Gives_mk (fun w' he => ⟨r, by rw [h0], by rw [hm]; exact (o2.ext he).mono e_w1.size⟩) x2
end Go.Proofs.Ytjpnaofoeeegeaa


/-
  Tables (layer 7): Trim of the reference; above, visible and Trim of the program.
  Conditions: the lists are not too long for a machine.
-/
namespace Go.Proofs.Ytjpnaofoeeegeaa
open Go.RowKit

def trmT (L : List En) : List En := if chk L = 0 then trimL L else []
/-- What Trim returns. -/
def TrmR (w : World) (L : List En) (r : Value) (w' : World) : Prop := ∃ v, r = .tuple #[v, .int .i64 (chk L)] ∧ Own w' w.heap.size 42 3 v ((trmT L).map En.cells)
end Go.Proofs.Ytjpnaofoeeegeaa


/-
  More rules of the walk: make of a slice with one cell an element; a slice of one's own made shorter.
  No conditions beyond those that each rule states.
-/
namespace Go.Proofs.Ytjpnaofoeeegeaa
open Go.RowKit

section
variable {P : Program} {N : Fr} {ops : Array Oper} {K : Env → World → Prop} {m : Env} {w : World} {rest : List Oper} {ty : TypeId} {pos : String} {after : Array Edge} {g : Option (Nat × Bool)}
theorem flatten_rep (z : Value) : ∀ n : Nat, (List.replicate n [z]).flatten = List.replicate n z
  | 0 => rfl
  | n + 1 => by rw [List.replicate_succ, List.flatten_cons, flatten_rep z n]; rfl
theorem Ops_make1 {dst : Nat} {t e : TypeId} {x y : Operand} {k k' : IntKind} {n b0 : Nat} {z : Value} [ht : TSlice P t e] [hs : TSize P e 1 b0] [hz : TZero P e z [z]]
    (hon : On N ops m ⟨some dst, .makeSlice t x y, ty, pos, after, g⟩) (hd : Nat.ble (dst + 1) N.n = true) (hx : ev m x = some (.int k (n : Int))) (hy : ev m y = some (.int k' (n : Int))) (hb : n * b0 ≤ 140737488355328) (h63 : n ≤ maxLen)
    (h : ∀ w1 b, Ext w w1 → w.heap.size ≤ b → Own w1 w.heap.size e 1 (.slice (some ⟨b, 0, none⟩) n n) (List.replicate n [z]) → Ops P N ops false K rest ((dst, .slice (some ⟨b, 0, none⟩) n n) :: m) w1) :
    Ops P N ops false K (⟨some dst, .makeSlice t x y, ty, pos, after, g⟩ :: rest) m w := by
  refine ⟨fun a w' ha hw => ?_⟩
  unfold wpList
  rw [if_pos (hon.out a ha)]
  refine .inl ?_
  obtain ⟨inf, hi, hsz⟩ := Option.map_eq_some_iff.1 hs.h
  simp only [Prod.mk.injEq] at hsz
  obtain ⟨inf', hi', hz'⟩ := Option.bind_eq_some_iff.1 hz.h
  obtain rfl := Option.some.inj (hi.symm.trans hi')
  have h63' : (n : Int) ≤ 9223372036854775807 := by
    have h := h63
    simp [maxLen] at h
    omega
  have hb' : (inf.bytes : Int) * (n : Int) ≤ 281474976710656 := by
    rw [hsz.2, ← Int.natCast_mul, Nat.mul_comm]; omega
  have hmc : madeCells z.cells (n * 1) = (List.replicate n z).toArray := by
    rw [hz.cells, Nat.mul_one]
    apply Array.ext_getElem?
    intro j
    by_cases hj : j < n
    · simp [madeCells, hj, Nat.mod_one]
    · simp [madeCells, hj]
  have hr : (execOp a.eval ⟨some dst, .makeSlice t x y, ty, pos, after, g⟩).run P w' = .ok (.value (.slice (some ⟨w'.heap.size, 0, none⟩) n n)) (w'.alloc (.cells (List.replicate n z).toArray e)) := by
    have := run_make (P := P) w' t e inf z ht.h hi hz' k k' n n (by omega) (Int.le_refl _) hb' h63'
    simp only [Int.toNat_natCast, hsz.1] at this
    rw [hmc] at this
    simp [execOp, ha.ev hx, ha.ev hy, this]
  unfold Oper.wp
  rw [hr]
  have hn := New.of hw e (List.replicate n z)
  refine (h _ _ hn.ext hn.ge ⟨⟨?_, .inr ⟨w'.heap.size, n, _, by rw [List.length_replicate], hn.ge, hn.blk, ?_, h63, ?_, ?_⟩⟩, fun u hu => ?_⟩).out _ _ (ha.put (Nat.le_of_ble_eq_true hd) _) (Ext.refl _)
  · rw [flatten_rep, List.length_replicate, List.length_replicate, Nat.mul_one]
  · rw [List.length_replicate]; exact Nat.le_refl _
  · simp
  · rw [flatten_rep]; simp
  · rw [(List.mem_replicate.1 hu).2]; rfl
end
/-- A slice of one's own, cut behind its first i elements. -/
theorem Own.cut {w : World} {base n0 g n c : Nat} {e : TypeId} {L : List (List Value)} (h : Own w base e n0 (.slice (some ⟨g, 0, none⟩) n c) L) {i : Nat} (hi : i ≤ L.length) : Own w base e n0 (.slice (some ⟨g, 0, none⟩) i c) (L.take i) := by
  obtain ⟨⟨h1, h2⟩, h3⟩ := h
  rcases h2 with ⟨h2, _⟩ | ⟨g', cap, cur, h2, h4, h5, h6, h7, h8, h9⟩
  · cases h2
  cases h2
  have hlen : ∀ x ∈ L.take i, x.length = n0 := fun x hx => h3 x (List.mem_of_mem_take hx)
  have hfl : ∀ M : List (List Value), (∀ x ∈ M, x.length = n0) → M.flatten.length = M.length * n0 := fun M hM => by
    induction M with
    | nil => simp
    | cons a r ih => rw [List.flatten_cons, List.length_append, ih (fun u hu => hM u (List.mem_cons_of_mem _ hu)), hM a (List.mem_cons_self ..), List.length_cons, Nat.succ_mul, Nat.add_comm]
  have hti : (L.take i).length = i := by rw [List.length_take]; omega
  have ht : (L.take i).flatten = L.flatten.take (i * n0) := by
    have h10 : L.flatten = (L.take i).flatten ++ (L.drop i).flatten := by rw [← List.flatten_append, List.take_append_drop]
    rw [h10, List.take_left' (by rw [hfl _ hlen, hti])]
  refine ⟨⟨by rw [hfl _ hlen, hti], .inr ⟨g, c, cur, by rw [hti], h4, h5, by rw [hti]; omega, h7, h8, ?_⟩⟩, hlen⟩
  rw [ht, hti, ← h9, List.take_take, Nat.min_eq_left (Nat.mul_le_mul_right _ hi)]
end Go.Proofs.Ytjpnaofoeeegeaa


/-
  The cells of a number.
  No conditions.
-/
namespace Go.Proofs.Ytjpnaofoeeegeaa
open Go.RowKit

def ic (x : Int) : List Value := [.int .i64 x]
end Go.Proofs.Ytjpnaofoeeegeaa


/-
  Tables (layer 7): above of the program.
  Conditions: the lists are not too long for a machine.
-/
namespace Go.Proofs.Ytjpnaofoeeegeaa
open Go.RowKit

def nc (x : Nat) : List Value := [.int .i64 x]
def upsL (L : List En) : List Int := (List.range L.length).map (upI L)
/-- The stack before entry i. -/
def ancs (L : List En) : Nat → List Nat
  | 0 => []
  | i + 1 => covs L i ++ [i]
theorem covs_lt {L : List En} {i j : Nat} (h : j ∈ covs L i) : j < i ∧ covB L i j = true := by
  unfold covs at h
  obtain ⟨h1, h2⟩ := List.mem_filter.1 h
  exact ⟨List.mem_range.1 h1, h2⟩
theorem cov_mid {L : List En} (h : Tb L) {j i m : Nat} (hji : j < i) (him : i < m) (hm : m < L.length) (hc : covB L m j = true) : covB L i j = true := by
  have hv := has_valid (covers_iff.1 hc).2.2
  have h1 := gp_lt h.srt hji (Nat.lt_trans him hm)
  have h2 := gp_lt h.srt him hm
  have h3 := ((has_iff hv).1 (covers_iff.1 hc).2.2).2
  have ha : (gp L j).has (gp L i).a = true := (has_iff hv).2 ⟨by rcases h1 with h | h <;> omega, by rcases h2 with h | h <;> omega⟩
  exact has_lt ha (has_self (gp_ok h (Nat.lt_trans him hm))) h1
theorem ancs_filter {L : List En} (h : Tb L) : ∀ {i : Nat}, i < L.length → covs L i = (ancs L i).filter (covB L i)
  | 0, _ => rfl
  | i + 1, hi => by
    rw [ancs, List.filter_append, covs, List.range_succ, List.filter_append, covs, List.filter_filter]
    congr 1
    refine List.filter_congr fun j hj => ?_
    have hj := List.mem_range.1 hj
    cases hc : covB L (i + 1) j with
    | false => rfl
    | true => rw [cov_mid h hj (Nat.lt_succ_self i) hi hc]; rfl
theorem ancs_asc (L : List En) : ∀ (i : Nat), (ancs L i).Pairwise (· < ·)
  | 0 => List.Pairwise.nil
  | i + 1 => List.pairwise_append.2 ⟨List.pairwise_lt_range.sublist List.filter_sublist, List.pairwise_singleton .., fun a ha b hb => by rw [List.mem_singleton.1 hb]; exact (covs_lt ha).1⟩
theorem ancs_mem {L : List En} (h : Tb L) {i j : Nat} (hi : i < L.length) (hj : j ∈ ancs L (i + 1)) : j ≤ i ∧ (gp L j).has (gp L i).a = true := by
  rw [ancs] at hj
  rcases List.mem_append.1 hj with hj | hj
  · have := covs_lt hj
    exact ⟨Nat.le_of_lt this.1, (covers_iff.1 this.2).2.2⟩
  · rw [List.mem_singleton.1 hj]
    exact ⟨Nat.le_refl _, has_self (gp_ok h hi)⟩
/-- Where the popping stops. -/
theorem pop_stop {L : List En} (h : Tb L) {i : Nat} (hi : i < L.length) {S R : List Nat} (hsr : S ++ R = ancs L i) (hR : ∀ r ∈ R, covB L i r = false) (hS : ∀ S' j, S = S' ++ [j] → covB L i j = true) : S = covs L i := by
  have hRn : R.filter (covB L i) = [] := List.filter_eq_nil_iff.2 fun r hr => by rw [hR r hr]; decide
  rw [ancs_filter h hi, ← hsr, List.filter_append, hRn, List.append_nil]
  refine (List.filter_eq_self.2 fun j hj => ?_).symm
  rcases List.eq_nil_or_concat S with rfl | ⟨S', t, rfl⟩
  · cases hj
  · rw [List.concat_eq_append] at *
    have ht := hS S' t rfl
    rcases List.mem_append.1 hj with hj | hj
    · cases i with
      | zero => cases S' with
        | nil => cases hj
        | cons a b => simp [ancs] at hsr
      | succ i =>
        have hasc := ancs_asc L (i + 1)
        rw [← hsr] at hasc
        have hjt : j < t := (List.pairwise_append.1 (List.pairwise_append.1 hasc).1).2.2 j hj t (List.mem_singleton.2 rfl)
        have hjm := ancs_mem h (j := j) (i := i) (by omega) (by rw [← hsr]; simp [hj])
        have htm := ancs_mem h (j := t) (i := i) (by omega) (by rw [← hsr]; simp)
        have hlt := gp_lt h.srt hjt (show t < L.length by omega)
        exact covers_trans (has_lt hjm.2 htm.2 hlt) ht
    · rw [List.mem_singleton.1 hj]; exact ht
theorem covs_len (L : List En) (i : Nat) : (covs L i).length ≤ i := by
  unfold covs
  refine Nat.le_trans (List.length_filter_le ..) ?_
  rw [List.length_range]; exact Nat.le_refl _
theorem ups_snoc (L : List En) (k : Nat) : (List.range (k + 1)).map (upI L) = (List.range k).map (upI L) ++ [upI L k] := by
  rw [List.range_succ, List.map_append]; rfl
def topB (L : List En) (i : Nat) (S : List Nat) : Bool := match S.getLast? with
  | none => false
  | some t => !covB L i t
theorem topB_snoc (L : List En) (i : Nat) (S : List Nat) (t : Nat) : topB L i (S ++ [t]) = !covB L i t := by rw [topB, List.getLast?_append]; rfl
theorem upI_nil {L : List En} {i : Nat} (h : covs L i = []) : upI L i = -1 := by rw [upI, h]; rfl
theorem upI_snoc {L : List En} {i : Nat} {S : List Nat} {t : Nat} (h : covs L i = S ++ [t]) : upI L i = (t : Int) := by rw [upI, h, lastI, List.getLast?_append]; rfl
set_option maxHeartbeats 4000000 in
theorem aboveP_v (ao : Option Addr) (L : List En) (c : Nat) (w : World) (hL : Ens w ao L) (hLa : ∀ e ∈ L, e.p.a < 4294967296) (hT : Tb L) (hn : L.length ≤ 1000000) :
    Calls Try.prog 35 #[.slice ao L.length c] w (Gives (fun r w' => Own w' w.heap.size 3 1 r ((upsL L).map ic)) w) := by
  refine V_enter (vs := [_]) Try.func35 rfl Try.ntmps35 (Nat.le_of_ble_eq_true rfl) ?_
  repeat (first | refine Vx ?_ | (apply Ops_q; (case hon => exact Va); (case hd => rfl); (case hq => exact YlA)) | refine Vr ?_ | refine Vt ?_ | refine Vf ?_ | refine Vm ?_ | refine Ve ?_ | refine Vo ?_ | refine Vz ?_ | refine Vn ?_)
  refine V_loop (fun s : Nat × Value × Value => [(10, .int .i64 s.1), (9, .int .i64 L.length), (8, .slice ao L.length c), (0, .slice ao L.length c), (3, s.2.1), (4, s.2.2)])
    (fun s w' => s.1 ≤ L.length ∧ Ext w w' ∧ Own w' w.heap.size 3 1 s.2.1 ((ancs L s.1).map nc) ∧ Own w' w.heap.size 3 1 s.2.2 (((List.range s.1).map (upI L)).map ic) ∧ (∀ b, s.2.1.ownBlock = some b → s.2.2.ownBlock ≠ some b)) (fun s => L.length - s.1) (0, .slice none 0 0, .slice none 0 0) (by repeat (first | exact trivial | refine ⟨rfl, ?_⟩)) ⟨Nat.zero_le _, Ext.refl _, Own.nil, Own.nil, fun b hb => by cases hb⟩ ?_
  rintro ⟨i, vs, vo⟩ w1 ⟨hi, x1, os, oo, hne⟩
  dsimp only at hi os oo hne ⊢
  repeat (first | refine Vx ?_ | (apply Ops_q; (case hon => exact Va); (case hd => rfl); (case hq => exact YlA)) | refine Vr ?_ | refine Vt ?_ | refine Vf ?_ | refine Vm ?_ | refine Ve ?_ | refine Vo ?_ | refine Vz ?_ | refine Vn ?_)
  refine V_cond rfl (fun hg => ?_) (fun hg => ?_)
  · replace hg := of_decide_eq_true hg
    have hil : i < L.length := by omega
    obtain ⟨x, hx⟩ : ∃ x, L[i]? = some x := ⟨_, List.getElem?_eq_getElem hil⟩
    obtain ⟨ad, rfl, hc⟩ := hL.at hx
    have hxa := hLa x (List.mem_of_getElem? hx)
    have hgx := gp_at hx
    have hc1 : Cells w1 (ad.add (i * 3)) [.int .u32 x.p.a, .int .i64 x.p.n, .int .i64 x.v] := hc.ext x1
    repeat (first | refine Vx ?_ | (apply Ops_q; (case hon => exact Va); (case hd => rfl); (case hq => exact YlA)) | refine Vr ?_ | refine Vt ?_ | refine Vf ?_ | refine Vm ?_ | refine Ve ?_ | refine Vo ?_ | refine Vz ?_ | refine Vn ?_)
    (apply Ops_q; (case hon => (exact Va)); (case hd => rfl); (case hq => exact Yl_indexS (j := i) rfl rfl (by omega)))
    repeat (first | refine Vx ?_ | (apply Ops_q; (case hon => exact Va); (case hd => rfl); (case hq => exact YlA)) | refine Vr ?_ | refine Vt ?_ | refine Vf ?_ | refine Vm ?_ | refine Ve ?_ | refine Vo ?_ | refine Vz ?_ | refine Vn ?_)
    (refine Ops_alloc (by exact Va) rfl ?_; intro w2 b6 n_b6; have k_b6 := n_b6.blk)
    repeat (first | refine Vx ?_ | (apply Ops_q; (case hon => exact Va); (case hd => rfl); (case hq => exact YlA)) | refine Vr ?_ | refine Vt ?_ | refine Vf ?_ | refine Vm ?_ | refine Ve ?_ | refine Vo ?_ | refine Vz ?_ | refine Vn ?_)
    (refine Ops_store (by exact Va) rfl rfl (by assumption) (by first | rfl | exact OneAll.h) ?_; intro w3 u_w3; have k_b6 := u_w3.blk)
    have y3 := u_w3.below n_b6.ext n_b6.ge
    have x3 := x1.trans y3
    replace os := os.ext y3
    replace oo := oo.ext y3
    have hxp0 : Cells w3 ⟨b6, 0, none⟩ [.int .u32 x.p.a, .int .i64 x.p.n] := k_b6.part 0 2
    clear u_w3 n_b6 hc1 y3 x1
    repeat (first | refine Vx ?_ | (apply Ops_q; (case hon => exact Va); (case hd => rfl); (case hq => exact YlA)) | refine Vr ?_ | refine Vt ?_ | refine Vf ?_ | refine Vm ?_ | refine Ve ?_ | refine Vo ?_ | refine Vz ?_ | refine Vn ?_)
    refine V_loop (fun s : Value × List Nat × List Nat => [(3, s.1), (6, .pointer (some ⟨b6, 0, none⟩)), (10, .int .i64 i), (9, .int .i64 L.length), (8, .slice (some ad) L.length c), (0, .slice (some ad) L.length c), (4, vo)])
      (fun s w' => Ext w3 w' ∧ Own w' w.heap.size 3 1 s.1 (s.2.1.map nc) ∧ (∀ b, s.1.ownBlock = some b → vs.ownBlock = some b) ∧ s.2.1 ++ s.2.2 = ancs L i ∧ ∀ r ∈ s.2.2, covB L i r = false) (fun s => s.2.1.length) (vs, ancs L i, []) (by repeat (first | exact trivial | refine ⟨rfl, ?_⟩)) ⟨Ext.refl _, os, fun b hb => hb, by simp, fun r hr => nomatch hr⟩ ?_
    rintro ⟨v, S, R⟩ w4 ⟨x4, o4, hb4, hsr, hR⟩
    dsimp only at o4 hb4 hsr hR ⊢
    have hxp := hxp0.ext x4
    have x34 := x3.trans x4
    have hSl : S.length ≤ i := by
      have h1 := congrArg List.length hsr
      rw [List.length_append] at h1
      have : (ancs L i).length ≤ i := by
        cases i with
        | zero => exact Nat.le_refl _
        | succ i => rw [ancs, List.length_append]; have := covs_len L i; simp; omega
      omega
    repeat (first | refine Vx ?_ | (apply Ops_q; (case hon => exact Va); (case hd => rfl); (case hq => exact YlA)) | refine Vr ?_ | refine Vt ?_ | refine Vf ?_ | refine Vm ?_ | refine Ve ?_ | refine Vo ?_ | refine Vz ?_ | refine Vn ?_)
    refine Ops_meet [(32, .bool (topB L i S)), (3, v), (6, .pointer (some ⟨b6, 0, none⟩)), (10, .int .i64 i), (9, .int .i64 L.length), (8, .slice (some ad) L.length c), (0, .slice (some ad) L.length c), (4, vo)] ?_ ?_
    · rcases List.eq_nil_or_concat S with hS0 | ⟨S', t, hS1⟩
      · have hd : decide ((0 : Int) < ((S.length : Nat) : Int)) = false := by rw [hS0]; rfl
        have ht : topB L i S = false := by rw [hS0]; rfl
        rw [ht]
        obtain ⟨av, cv, rfl, _⟩ := o4.slice
        rw [List.length_map]
        repeat (first | refine Vx ?_ | (apply Ops_q; (case hon => exact Va); (case hd => rfl); (case hq => exact YlA)) | refine Vr ?_ | refine Vt ?_ | refine Vf ?_ | refine Vm ?_ | refine Ve ?_ | refine Vo ?_ | refine Vz ?_ | refine Vn ?_)
        refine Ops_know rfl rfl hd ?_
        repeat (first | refine Vx ?_ | (apply Ops_q; (case hon => exact Va); (case hd => rfl); (case hq => exact YlA)) | refine Vr ?_ | refine Vt ?_ | refine Vf ?_ | refine Vm ?_ | refine Ve ?_ | refine Vo ?_ | refine Vz ?_ | refine Vn ?_)
        exact ⟨(by repeat (first | exact trivial | refine ⟨rfl, ?_⟩)), rfl⟩
      · rw [List.concat_eq_append] at hS1
        have hol : S.length = S'.length + 1 := by rw [hS1]; simp
        have hd : decide ((0 : Int) < ((S.length : Nat) : Int)) = true := decide_eq_true (by omega)
        have ht : topB L i S = !covB L i t := by rw [hS1]; exact topB_snoc ..
        rw [ht]
        obtain ⟨g, cv, hve, _, _, _⟩ := o4.addr (by rw [hS1]; simp)
        obtain ⟨av, cv', hve', hAv⟩ := o4.slice
        subst hve
        cases hve'
        rw [List.length_map]
        have el : ((S.length : Nat) : Int) - 1 = ((S'.length : Nat) : Int) := by omega
        obtain ⟨_, e', hct⟩ := hAv S'.length (nc t) (by rw [hS1, List.getElem?_map]; simp)
        cases e'
        have hct1 : w4.cell? ((⟨g, 0, none⟩ : Addr).add (S'.length * 1)) = some (.int .i64 t) := by
          have := hct 0 _ rfl
          rw [add_add, Nat.add_zero] at this; exact this
        have hil2 : S'.length < S.length := by omega
        have htl : t < L.length := by
          have hm : t ∈ ancs L i := by rw [← hsr, hS1]; simp
          cases i with
          | zero => cases hm
          | succ i => have := (ancs_mem hT (by omega) hm).1; omega
        obtain ⟨y, hy⟩ : ∃ y, L[t]? = some y := ⟨_, List.getElem?_eq_getElem htl⟩
        obtain ⟨_, e', hcy⟩ := hL.at hy
        cases e'
        have hya := hLa y (List.mem_of_getElem? hy)
        have hcy1 : Cells w4 (ad.add (t * 3)) [.int .u32 y.p.a, .int .i64 y.p.n] := fun j u hj => (hcy.ext x34) j u (by
          match j, hj with
          | 0, hj => exact hj
          | 1, hj => exact hj)
        have hcov : covB L i t = y.p.covers x.p := by rw [covB, hgx, gp_at hy]
        repeat (first | refine Vx ?_ | (apply Ops_q; (case hon => exact Va); (case hd => rfl); (case hq => exact YlA)) | refine Vr ?_ | refine Vt ?_ | refine Vf ?_ | refine Vm ?_ | refine Ve ?_ | refine Vo ?_ | refine Vz ?_ | refine Vn ?_)
        refine Ops_know rfl rfl hd ?_
        repeat (first | refine Vx ?_ | (apply Ops_q; (case hon => exact Va); (case hd => rfl); (case hq => exact YlA)) | refine Vr ?_ | refine Vt ?_ | refine Vf ?_ | refine Vm ?_ | refine Ve ?_ | refine Vo ?_ | refine Vz ?_ | refine Vn ?_)
        rw [el]
        (apply Ops_q; (case hon => (exact Va)); (case hd => rfl); (case hq => exact Yl_indexS (j := S'.length) rfl rfl (by omega)))
        repeat (first | refine Vx ?_ | (apply Ops_q; (case hon => exact Va); (case hd => rfl); (case hq => exact YlA)) | refine Vr ?_ | refine Vt ?_ | refine Vf ?_ | refine Vm ?_ | refine Ve ?_ | refine Vo ?_ | refine Vz ?_ | refine Vn ?_)
        (apply Ops_q; (case hon => (exact Va)); (case hd => rfl); (case hq => exact Yl_indexS (j := t) rfl rfl (by omega)))
        repeat (first | refine Vx ?_ | (apply Ops_q; (case hon => exact Va); (case hd => rfl); (case hq => exact YlA)) | refine Vr ?_ | refine Vt ?_ | refine Vf ?_ | refine Vm ?_ | refine Ve ?_ | refine Vo ?_ | refine Vz ?_ | refine Vn ?_)
        (apply Ops_q; (case hon => (exact Va)); (case hd => rfl); (case hq => exact Yl_call rfl (fun w_ e_ => coversP_v y.p x.p w_ hya hxa)))
        rw [← hcov]
        repeat (first | refine Vx ?_ | (apply Ops_q; (case hon => exact Va); (case hd => rfl); (case hq => exact YlA)) | refine Vr ?_ | refine Vt ?_ | refine Vf ?_ | refine Vm ?_ | refine Ve ?_ | refine Vo ?_ | refine Vz ?_ | refine Vn ?_)
        exact ⟨(by repeat (first | exact trivial | refine ⟨rfl, ?_⟩)), rfl⟩
    repeat (first | refine Vx ?_ | (apply Ops_q; (case hon => exact Va); (case hd => rfl); (case hq => exact YlA)) | refine Vr ?_ | refine Vt ?_ | refine Vf ?_ | refine Vm ?_ | refine Ve ?_ | refine Vo ?_ | refine Vz ?_ | refine Vn ?_)
    refine V_cond rfl (fun hb => ?_) (fun hb => ?_)
    · rcases List.eq_nil_or_concat S with hS0 | ⟨S', t, hS1⟩
      · rw [hS0] at hb; cases hb
      rw [List.concat_eq_append] at hS1
      have hcf : covB L i t = false := by rw [hS1, topB_snoc] at hb; simpa using hb
      have hol : S.length = S'.length + 1 := by rw [hS1]; simp
      obtain ⟨g, cv, hve, _, _, _⟩ := o4.addr (by rw [hS1]; simp)
      subst hve
      have hcap := o4.slice2
      obtain ⟨_, _, hve, _, hcap, _⟩ := hcap
      cases hve
      rw [List.length_map] at hcap
      have o5 := o4.cut (i := S'.length) (by rw [List.length_map]; omega)
      rw [← List.map_take] at o5
      have htk : S.take S'.length = S' := by rw [hS1]; simp
      rw [htk] at o5
      have el : ((S.length : Nat) : Int) - 1 = ((S'.length : Nat) : Int) := by omega
      rw [List.length_map]
      repeat (first | refine Vx ?_ | (apply Ops_q; (case hon => exact Va); (case hd => rfl); (case hq => exact YlA)) | refine Vr ?_ | refine Vt ?_ | refine Vf ?_ | refine Vm ?_ | refine Ve ?_ | refine Vo ?_ | refine Vz ?_ | refine Vn ?_)
      rw [el]
      refine Ops_sliceHx (by exact Va) rfl rfl rfl (by omega) hcap ?_
      repeat (first | refine Vx ?_ | (apply Ops_q; (case hon => exact Va); (case hd => rfl); (case hq => exact YlA)) | refine Vr ?_ | refine Vt ?_ | refine Vf ?_ | refine Vm ?_ | refine Ve ?_ | refine Vo ?_ | refine Vz ?_ | refine Vn ?_)
      refine ⟨(_, S', t :: R), (by repeat (first | exact trivial | refine ⟨rfl, ?_⟩)), ⟨x4, o5, fun b hb => hb4 b hb, by rw [← hsr, hS1]; simp, fun r hr => ?_⟩, by rw [hS1]; simp⟩
      rcases List.mem_cons.1 hr with rfl | hr
      · exact hcf
      · exact hR r hr
    · have hS := pop_stop hT hil hsr hR fun S' j h => by
        rw [h, topB_snoc] at hb; simpa using hb
      subst hS
      have hbe : ∀ b, v.ownBlock = some b → vo.ownBlock ≠ some b := fun b h => hne b (hb4 b h)
      have oo4 := oo.ext x4
      obtain ⟨av, cv, hve, hAv⟩ := o4.slice
      subst hve
      rw [List.length_map] at o4 hbe ⊢
      have hcl := covs_len L i
      clear os oo hne hb4 hsr hR hSl hb
      repeat (first | refine Vx ?_ | (apply Ops_q; (case hon => exact Va); (case hd => rfl); (case hq => exact YlA)) | refine Vr ?_ | refine Vt ?_ | refine Vf ?_ | refine Vm ?_ | refine Ve ?_ | refine Vo ?_ | refine Vz ?_ | refine Vn ?_)
      refine V_meet1 (fun _ : Unit => [(7, .int .i64 (upI L i)), (3, .slice av (covs L i).length cv), (4, vo), (10, .int .i64 i), (9, .int .i64 L.length), (8, .slice (some ad) L.length c), (0, .slice (some ad) L.length c)]) (fun _ w' => w' = w4) ?_ ?_
      · refine V_cond rfl (fun h1 => ?_) (fun h1 => ?_)
        · have h1' : 0 < (covs L i).length := by have := of_decide_eq_true h1; omega
          clear h1
          obtain ⟨S', t, hS1⟩ : ∃ S' t, covs L i = S' ++ [t] := by
            rcases List.eq_nil_or_concat (covs L i) with h | ⟨S', t, h⟩
            · rw [h] at h1'; exact absurd h1' (by decide)
            · exact ⟨S', t, by rw [h, List.concat_eq_append]⟩
          have hol : (covs L i).length = S'.length + 1 := by rw [hS1]; simp
          have el : (((covs L i).length : Nat) : Int) - 1 = ((S'.length : Nat) : Int) := by omega
          obtain ⟨adv, rfl, hct⟩ := hAv S'.length (nc t) (by rw [hS1, List.getElem?_map]; simp)
          have hct1 : w4.cell? (adv.add (S'.length * 1)) = some (.int .i64 (upI L i)) := by
            have := hct 0 _ rfl
            rw [add_add, Nat.add_zero] at this; rw [upI_snoc hS1]; exact this
          have hil2 : S'.length < (covs L i).length := by omega
          repeat (first | refine Vx ?_ | (apply Ops_q; (case hon => exact Va); (case hd => rfl); (case hq => exact YlA)) | refine Vr ?_ | refine Vt ?_ | refine Vf ?_ | refine Vm ?_ | refine Ve ?_ | refine Vo ?_ | refine Vz ?_ | refine Vn ?_)
          rw [el]
          (apply Ops_q; (case hon => (exact Va)); (case hd => rfl); (case hq => exact Yl_indexS (j := S'.length) rfl rfl (by omega)))
          repeat (first | refine Vx ?_ | (apply Ops_q; (case hon => exact Va); (case hd => rfl); (case hq => exact YlA)) | refine Vr ?_ | refine Vt ?_ | refine Vf ?_ | refine Vm ?_ | refine Ve ?_ | refine Vo ?_ | refine Vz ?_ | refine Vn ?_)
          exact ⟨(), (by repeat (first | exact trivial | refine ⟨rfl, ?_⟩)), rfl⟩
        · have h1' : covs L i = [] := List.length_eq_zero_iff.1 (by have := of_decide_eq_false h1; omega)
          clear h1
          have hup := upI_nil h1'
          repeat (first | refine Vx ?_ | (apply Ops_q; (case hon => exact Va); (case hd => rfl); (case hq => exact YlA)) | refine Vr ?_ | refine Vt ?_ | refine Vf ?_ | refine Vm ?_ | refine Ve ?_ | refine Vo ?_ | refine Vz ?_ | refine Vn ?_)
          refine ⟨(), ?_, rfl⟩
          rw [hup]
          exact (by repeat (first | exact trivial | refine ⟨rfl, ?_⟩))
      · rintro _ w5 rfl
        have hrl : ((List.range i).map (upI L)).length = i := by simp
        repeat (first | refine Vx ?_ | (apply Ops_q; (case hon => exact Va); (case hd => rfl); (case hq => exact YlA)) | refine Vr ?_ | refine Vt ?_ | refine Vf ?_ | refine Vm ?_ | refine Ve ?_ | refine Vo ?_ | refine Vz ?_ | refine Vn ?_)
        (refine Ops_lit (by exact Va) rfl rfl rfl ?_; intro w6 c6 n_c6; have k_c6 := n_c6.blk)
        have os6 := o4.ext n_c6.ext
        have oo6 := oo4.ext n_c6.ext
        have x6 := x34.trans n_c6.ext
        have hcs : Cells w6 ⟨c6, 0, none⟩ (ic (upI L i)) := n_c6.blk.cells
        have hc6 : vo.ownBlock ≠ some c6 := fun e => by have := oo4.lt e; have := n_c6.ge; omega
        repeat (first | refine Vx ?_ | (apply Ops_q; (case hon => exact Va); (case hd => rfl); (case hq => exact YlA)) | refine Vr ?_ | refine Vt ?_ | refine Vf ?_ | refine Vm ?_ | refine Ve ?_ | refine Vo ?_ | refine Vz ?_ | refine Vn ?_)
        refine Ops_append1 (u := ic (upI L i)) (by exact Va) rfl rfl rfl rfl oo6 hcs ⟨rfl⟩ ⟨rfl⟩ (by rw [List.length_map, hrl]; omega) rfl x6.size ?_
        intro vo' w7 o7 g7 d7
        have m7 : Mod (fun c => vo.ownBlock = some c) w6 w7 := (Mod.of_ext (Ext.refl w6)).grow g7 (fun b hb => .inl hb)
        have x7 : Ext w w7 := Mod.ext_of x6 m7 (fun c hc => oo6.ge hc)
        rw [show [ic (upI L i)] = [upI L i].map ic from rfl, ← List.map_append, ← ups_snoc] at o7
        have os7 := m7.own os6 (fun b hb => hbe b hb)
        have hne7 : ∀ b, (Value.slice av (covs L i).length cv).ownBlock = some b → vo'.ownBlock ≠ some b := fun b hb => dis_app d7 (hbe b hb) (os6.lt hb)
        clear g7 hcs n_c6 k_c6 d7 m7 os6 oo6 o4 oo4 hbe
        obtain ⟨ov, oc, hoe, _⟩ := o7.slice
        have hol7 : ((List.range (i + 1)).map (upI L)).length = i + 1 := by simp
        rw [List.length_map, hol7] at hoe
        subst hoe
        have ei : ((i + 1 : Nat) : Int) - 1 = (i : Int) := by omega
        repeat (first | refine Vx ?_ | (apply Ops_q; (case hon => exact Va); (case hd => rfl); (case hq => exact YlA)) | refine Vr ?_ | refine Vt ?_ | refine Vf ?_ | refine Vm ?_ | refine Ve ?_ | refine Vo ?_ | refine Vz ?_ | refine Vn ?_)
        rw [ei]
        (refine Ops_lit (by exact Va) rfl rfl rfl ?_; intro w8 c8 n_c8; have k_c8 := n_c8.blk)
        have os8 := os7.ext n_c8.ext
        have oo8 := o7.ext n_c8.ext
        have x8 := x7.trans n_c8.ext
        have hcs : Cells w8 ⟨c8, 0, none⟩ (nc i) := n_c8.blk.cells
        repeat (first | refine Vx ?_ | (apply Ops_q; (case hon => exact Va); (case hd => rfl); (case hq => exact YlA)) | refine Vr ?_ | refine Vt ?_ | refine Vf ?_ | refine Vm ?_ | refine Ve ?_ | refine Vo ?_ | refine Vz ?_ | refine Vn ?_)
        refine Ops_append1 (u := nc i) (by exact Va) rfl rfl rfl rfl os8 hcs ⟨rfl⟩ ⟨rfl⟩ (by rw [List.length_map]; omega) rfl x8.size ?_
        intro vs' w9 o9 g9 d9
        have m9 : Mod (fun c => (Value.slice av (covs L i).length cv).ownBlock = some c) w8 w9 := (Mod.of_ext (Ext.refl w8)).grow g9 (fun b hb => .inl hb)
        have x9 : Ext w w9 := Mod.ext_of x8 m9 (fun c hc => os8.ge hc)
        rw [show [nc i] = [i].map nc from rfl, ← List.map_append] at o9
        have oo9 := m9.own oo8 (fun b hb e => hne7 b e hb)
        repeat (first | refine Vx ?_ | (apply Ops_q; (case hon => exact Va); (case hd => rfl); (case hq => exact YlA)) | refine Vr ?_ | refine Vt ?_ | refine Vf ?_ | refine Vm ?_ | refine Ve ?_ | refine Vo ?_ | refine Vz ?_ | refine Vn ?_)
        refine ⟨(i + 1, vs', _), (by repeat (first | exact trivial | refine ⟨rfl, ?_⟩)), ⟨hil, x9, o9, oo9, fun b hb hb2 => ?_⟩, by simp only; omega⟩
        rcases d9 with h | ⟨d, h, h2⟩
        · rw [h] at hb
          exact hne7 b hb hb2
        · rw [h] at hb; cases hb
          have := oo8.lt hb2; omega
  · replace hg := of_decide_eq_false hg
    obtain rfl : i = L.length := by omega
    repeat (first | refine Vx ?_ | (apply Ops_q; (case hon => exact Va); (case hd => rfl); (case hq => exact YlA)) | refine Vr ?_ | refine Vt ?_ | refine Vf ?_ | refine Vm ?_ | refine Ve ?_ | refine Vo ?_ | refine Vz ?_ | refine Vn ?_)
    refine ret1 (by first | exact .inl rfl | exact .inr rfl) rfl rfl ?_
    exact Gives_mk (fun w' he => oo.ext he) x1
end Go.Proofs.Ytjpnaofoeeegeaa


/-
  Tables (layer 7): size, visible and Trim of the program.
  Conditions: the lists are not too long for a machine.
-/
namespace Go.Proofs.Ytjpnaofoeeegeaa
open Go.RowKit

theorem size_v (p : Pf) (w : World) (hv : p.valid = true) : Calls Try.prog 70 #[p.val] w (Ret (.int .u64 (sizeN p)) w) := by
  obtain ⟨v1, v2, v3⟩ := Pf.valid_iff.1 hv
  have hsz := size_le p
  have i1 : InK .u64 (1 * 2 ^ ((32 : Int) - p.n).toNat) := by rw [size_cast hv]; exact inK_u64 _ (by omega)
  refine V_enter (vs := [_]) Try.func70 rfl Try.ntmps70 (Nat.le_of_ble_eq_true rfl) ?_
  repeat (first | refine Vx ?_ | (apply Ops_q; (case hon => exact Va); (case hd => rfl); (case hq => exact YlA)) | refine Vr ?_ | refine Vt ?_ | refine Vf ?_ | refine Vm ?_ | refine Ve ?_ | refine Vo ?_ | refine Vz ?_ | refine Vn ?_)
  (refine Ops_box (by exact Va) rfl rfl rfl ?_; intro w1 b1 n_b1; have k_b1 := n_b1.blk)
  repeat (first | refine Vx ?_ | (apply Ops_q; (case hon => exact Va); (case hd => rfl); (case hq => exact YlA)) | refine Vr ?_ | refine Vt ?_ | refine Vf ?_ | refine Vm ?_ | refine Ve ?_ | refine Vo ?_ | refine Vz ?_ | refine Vn ?_)
  refine ret1 (by first | exact .inl rfl | exact .inr rfl) rfl rfl ?_
  exact Ret_mk (by rw [size_cast hv]) n_b1.ext
theorem covN_succ (L : List En) (m j : Nat) : covN L (m + 1) j = covN L m j + if upI L m = (j : Int) then sizeN (gp L m) else 0 := by
  unfold covN kidsL
  rw [List.range_succ, List.filter_append, List.map_append, List.sum_append]
  congr 1
  by_cases h : upI L m = (j : Int)
  · rw [if_pos h, List.filter_cons_of_pos (by simpa using h)]; simp
  · rw [if_neg h, List.filter_cons_of_neg (by simpa using h)]; simp
theorem covN_mono (L : List En) (m j : Nat) : ∀ d, covN L m j ≤ covN L (m + d) j
  | 0 => Nat.le_refl _
  | d + 1 => by
    have := covN_mono L m j d
    rw [← Nat.add_assoc, covN_succ]; omega
theorem covN_le {L : List En} (h : Tb L) {m j : Nat} (hm : m ≤ L.length) (hj : j < L.length) : covN L m j ≤ 4294967296 := by
  have h1 := covN_mono L m j (L.length - m)
  rw [show m + (L.length - m) = L.length by omega] at h1
  have h2 := (kids_cover h hj).1
  have h3 := (size_le (gp L j)).2
  omega
def covD (L : List En) (m : Nat) : List Int := (List.range L.length).map fun j => (covN L m j : Int)
theorem covD_len (L : List En) (m : Nat) : (covD L m).length = L.length := by unfold covD; simp
theorem covD_at {L : List En} {m j : Nat} (hj : j < L.length) : (covD L m)[j]? = some (covN L m j : Int) := by unfold covD; rw [List.getElem?_map, List.getElem?_range hj]; rfl
theorem covD_set {L : List En} {m j : Nat} (hj : j < L.length) (hu : upI L m = (j : Int)) : (covD L m).set j ((covN L m j : Int) + (sizeN (gp L m) : Int)) = covD L (m + 1) := by
  refine List.ext_getElem? fun i => ?_
  by_cases hi : i < L.length
  · rw [covD_at hi, covN_succ]
    by_cases e : j = i
    · subst e
      rw [List.getElem?_set_self (by rw [covD_len]; exact hj), if_pos hu]; simp
    · rw [List.getElem?_set_ne e, covD_at hi, if_neg (fun h => e (by omega))]; rfl
  · rw [List.getElem?_eq_none (by rw [List.length_set, covD_len]; omega), List.getElem?_eq_none (by rw [covD_len]; omega)]
theorem covD_same {L : List En} {m : Nat} (hu : upI L m = -1) : covD L m = covD L (m + 1) := by
  unfold covD
  refine List.map_congr_left fun j _ => ?_
  rw [covN_succ, if_neg (fun h => by omega)]; simp
theorem rangeF_snoc (L : List En) (q : Nat → Bool) (k : Nat) : ((List.range (k + 1)).filter q).map (fun j => L.getD j En.zero) = ((List.range k).filter q).map (fun j => L.getD j En.zero) ++ if q k then [L.getD k En.zero] else [] := by
  rw [List.range_succ, List.filter_append, List.map_append]
  cases hv : q k with
  | true => rw [List.filter_cons_of_pos hv]; rfl
  | false => rw [List.filter_cons_of_neg (by rw [hv]; decide)]; rfl
theorem rangeF_len (L : List En) (q : Nat → Bool) (k : Nat) : (((List.range k).filter q).map (fun j => L.getD j En.zero)).length ≤ k := by
  rw [List.length_map]
  refine Nat.le_trans (List.length_filter_le ..) ?_
  rw [List.length_range]; exact Nat.le_refl _
theorem rep_uc (n : Nat) : List.replicate n [Value.int .u64 0] = (List.replicate n (0 : Int)).map uc := by rw [List.map_replicate]; rfl
theorem covD_zero (L : List En) : covD L 0 = List.replicate L.length (0 : Int) := by
  unfold covD
  refine List.ext_getElem? fun i => ?_
  by_cases hi : i < L.length
  · rw [List.getElem?_map, List.getElem?_range hi, List.getElem?_replicate, if_pos hi]; rfl
  · rw [List.getElem?_eq_none (by simp; omega), List.getElem?_eq_none (by simp; omega)]
set_option maxHeartbeats 4000000 in
theorem visible_v (ao : Option Addr) (L : List En) (c : Nat) (w : World) (hL : Ens w ao L) (hLa : ∀ e ∈ L, e.p.a < 4294967296) (hT : Tb L) (hn : L.length ≤ 1000000) :
    Calls Try.prog 34 #[.slice ao L.length c] w (Gives (fun r w' => Own w' w.heap.size 42 3 r ((visL L).map En.cells)) w) := by
  refine V_enter (vs := [_]) Try.func34 rfl Try.ntmps34 (Nat.le_of_ble_eq_true rfl) ?_
  repeat (first | refine Vx ?_ | (apply Ops_q; (case hon => exact Va); (case hd => rfl); (case hq => exact YlA)) | refine Vr ?_ | refine Vt ?_ | refine Vf ?_ | refine Vm ?_ | refine Ve ?_ | refine Vo ?_ | refine Vz ?_ | refine Vn ?_)
  refine Ops_make1 (by exact Va) rfl rfl rfl (by omega) (by unfold maxLen; omega) ?_
  intro w1 g x1 hg o1
  have D1 : DatU w1 w.heap.size g L.length L.length (covD L 0) := ⟨by rw [covD_zero, ← rep_uc]; exact o1, covD_len L 0⟩
  clear o1
  repeat (first | refine Vx ?_ | (apply Ops_q; (case hon => exact Va); (case hd => rfl); (case hq => exact YlA)) | refine Vr ?_ | refine Vt ?_ | refine Vf ?_ | refine Vm ?_ | refine Ve ?_ | refine Vo ?_ | refine Vz ?_ | refine Vn ?_)
  (refine Ops_callR (by exact Va) rfl rfl (fun w_ e_ => aboveP_v ao L c w_ (hL.ext (x1.trans e_)) hLa hT hn) ?_; intro v w2 w0_ e0_ e1_ r_v; have e_w2 := e0_.trans e1_; have b_v := e0_.size; clear e0_ e1_)
  have hgl : g < w1.heap.size := D1.own.lt rfl
  have D2 := D1.ext e_w2
  have x2 := x1.trans e_w2
  obtain ⟨ua, uc', rfl, hU⟩ := r_v.slice
  have hub : ∀ a, ua = some a → a.block ≠ g := fun a ha => by
    subst ha
    have : w0_.heap.size ≤ a.block := r_v.ge rfl
    omega
  have hul : (upsL L).length = L.length := by unfold upsL; simp
  rw [List.length_map, hul]
  clear r_v D1 e_w2 b_v
  repeat (first | refine Vx ?_ | (apply Ops_q; (case hon => exact Va); (case hd => rfl); (case hq => exact YlA)) | refine Vr ?_ | refine Vt ?_ | refine Vf ?_ | refine Vm ?_ | refine Ve ?_ | refine Vo ?_ | refine Vz ?_ | refine Vn ?_)
  refine V_loop (fun i : Nat => [(15, .int .i64 i), (14, .int .i64 L.length), (13, .slice ua L.length uc'), (3, .slice (some ⟨g, 0, none⟩) L.length L.length), (0, .slice ao L.length c)])
    (fun i w' => i ≤ L.length ∧ Ext w w' ∧ DatU w' w.heap.size g L.length L.length (covD L i) ∧ Arr w' 1 ua ((upsL L).map ic)) (fun i => L.length - i) 0 (by repeat (first | exact trivial | refine ⟨rfl, ?_⟩)) ⟨Nat.zero_le _, x2, D2, hU⟩ ?_
  clear D2 hU x2 x1
  rintro i w3 ⟨hi, x3, D3, hU⟩
  repeat (first | refine Vx ?_ | (apply Ops_q; (case hon => exact Va); (case hd => rfl); (case hq => exact YlA)) | refine Vr ?_ | refine Vt ?_ | refine Vf ?_ | refine Vm ?_ | refine Ve ?_ | refine Vo ?_ | refine Vz ?_ | refine Vn ?_)
  refine V_cond rfl (fun hg1 => ?_) (fun hg1 => ?_)
  · replace hg1 := of_decide_eq_true hg1
    have hil : i < L.length := by omega
    obtain ⟨x, hx⟩ : ∃ x, L[i]? = some x := ⟨_, List.getElem?_eq_getElem hil⟩
    obtain ⟨ad, rfl, hc⟩ := hL.at hx
    have hgx := gp_at hx
    have hxv := (hT.ok x (List.mem_of_getElem? hx)).1
    have hc1 : Cells w3 (ad.add (i * 3)) [.int .u32 x.p.a, .int .i64 x.p.n] := fun j u hj => (hc.ext x3) j u (by
      match j, hj with
      | 0, hj => exact hj
      | 1, hj => exact hj)
    obtain ⟨au, rfl, hcu⟩ := hU i (ic (upI L i)) (by rw [List.getElem?_map, upsL, List.getElem?_map, List.getElem?_range hil]; rfl)
    have hcu1 : w3.cell? (au.add (i * 1)) = some (.int .i64 (upI L i)) := by
      have := hcu 0 _ rfl
      rw [add_add, Nat.add_zero] at this; exact this
    repeat (first | refine Vx ?_ | (apply Ops_q; (case hon => exact Va); (case hd => rfl); (case hq => exact YlA)) | refine Vr ?_ | refine Vt ?_ | refine Vf ?_ | refine Vm ?_ | refine Ve ?_ | refine Vo ?_ | refine Vz ?_ | refine Vn ?_)
    (apply Ops_q; (case hon => (exact Va)); (case hd => rfl); (case hq => exact Yl_indexS (j := i) rfl rfl (by omega)))
    repeat (first | refine Vx ?_ | (apply Ops_q; (case hon => exact Va); (case hd => rfl); (case hq => exact YlA)) | refine Vr ?_ | refine Vt ?_ | refine Vf ?_ | refine Vm ?_ | refine Ve ?_ | refine Vo ?_ | refine Vz ?_ | refine Vn ?_)
    refine V_cond rfl (fun h2 => ?_) (fun h2 => ?_)
    · have h2' := of_decide_eq_true h2
      clear h2
      obtain ⟨j, hj, hji⟩ : ∃ j : Nat, upI L i = (j : Int) ∧ j < i := by
        rcases upI_range (L := L) (i := i) with h | h
        · omega
        · exact h
      have hset := covD_set (L := L) (m := i) (by omega) hj
      have hcell := D3.at (covD_at (L := L) (m := i) (show j < L.length by omega))
      have hle := covN_le hT (m := i + 1) (j := j) (by omega) (by omega)
      rw [covN_succ, if_pos hj, hgx] at hle
      rw [hgx] at hset
      have i1 : InK .u64 ((covN L i j : Int) + (sizeN x.p : Int)) := by rw [← Int.natCast_add]; exact inK_u64 _ (by omega)
      have hjl : j < L.length := by omega
      rw [hj] at hcu1 ⊢
      refine V_region_mixed 11 (by kernel_rfl) (by kernel_rfl) rfl ?_
      repeat (first | refine Vx ?_ | (apply Ops_q; (case hon => exact Va); (case hd => rfl); (case hq => exact YlA)) | refine Vr ?_ | refine Vt ?_ | refine Vf ?_ | refine Vm ?_ | refine Ve ?_ | refine Vo ?_ | refine Vz ?_ | refine Vn ?_)
      (apply Ops_q; (case hon => (exact Va)); (case hd => rfl); (case hq => exact Yl_indexS (j := j) rfl rfl (by omega)))
      repeat (first | refine Vx ?_ | (apply Ops_q; (case hon => exact Va); (case hd => rfl); (case hq => exact YlA)) | refine Vr ?_ | refine Vt ?_ | refine Vf ?_ | refine Vm ?_ | refine Ve ?_ | refine Vo ?_ | refine Vz ?_ | refine Vn ?_)
      (apply Ops_q; (case hon => (exact Va)); (case hd => rfl); (case hq => exact Yl_indexS (j := i) rfl rfl (by omega)))
      repeat (first | refine Vx ?_ | (apply Ops_q; (case hon => exact Va); (case hd => rfl); (case hq => exact YlA)) | refine Vr ?_ | refine Vt ?_ | refine Vf ?_ | refine Vm ?_ | refine Ve ?_ | refine Vo ?_ | refine Vz ?_ | refine Vn ?_)
      (apply Ops_q; (case hon => (exact Va)); (case hd => rfl); (case hq => exact Yl_call rfl (fun w_ e_ => size_v x.p w_ hxv)))
      repeat (first | refine Vx ?_ | (apply Ops_q; (case hon => exact Va); (case hd => rfl); (case hq => exact YlA)) | refine Vr ?_ | refine Vt ?_ | refine Vf ?_ | refine Vm ?_ | refine Ve ?_ | refine Vo ?_ | refine Vz ?_ | refine Vn ?_)
      (apply Ops_q; (case hon => (exact Va)); (case hd => rfl); (case hq => exact Yl_indexS (j := j) rfl rfl (by omega)))
      repeat (first | refine Vx ?_ | (apply Ops_q; (case hon => exact Va); (case hd => rfl); (case hq => exact YlA)) | refine Vr ?_ | refine Vt ?_ | refine Vf ?_ | refine Vm ?_ | refine Ve ?_ | refine Vo ?_ | refine Vz ?_ | refine Vn ?_)
      refine Ops_storeDatU (i := j) (by exact Va) rfl rfl rfl D3 hjl ?_
      intro w5 D5 g5
      rw [hset] at D5
      have m5 : Mod (fun c => c = g) w3 w5 := (Mod.of_ext (Ext.refl w3)).grow g5 (fun b hb => .inl (by cases hb; rfl))
      have x5 : Ext w w5 := Mod.ext_of x3 m5 (fun c hc => by rw [hc]; exact hg)
      have hU5 := m5.arr hU (fun a ha => hub a ha)
      repeat (first | refine Vx ?_ | (apply Ops_q; (case hon => exact Va); (case hd => rfl); (case hq => exact YlA)) | refine Vr ?_ | refine Vt ?_ | refine Vf ?_ | refine Vm ?_ | refine Ve ?_ | refine Vo ?_ | refine Vz ?_ | refine Vn ?_)
      exact ⟨i + 1, (by repeat (first | exact trivial | refine ⟨rfl, ?_⟩)), ⟨hil, x5, D5, hU5⟩, by omega⟩
    · have h2' := of_decide_eq_false h2
      clear h2
      have hj : upI L i = -1 := by
        rcases upI_range (L := L) (i := i) with h | ⟨j, h, _⟩
        · exact h
        · omega
      rw [covD_same hj] at D3
      repeat (first | refine Vx ?_ | (apply Ops_q; (case hon => exact Va); (case hd => rfl); (case hq => exact YlA)) | refine Vr ?_ | refine Vt ?_ | refine Vf ?_ | refine Vm ?_ | refine Ve ?_ | refine Vo ?_ | refine Vz ?_ | refine Vn ?_)
      exact ⟨i + 1, (by repeat (first | exact trivial | refine ⟨rfl, ?_⟩)), ⟨hil, x3, D3, hU⟩, by omega⟩
  replace hg1 := of_decide_eq_false hg1
  obtain rfl : i = L.length := by omega
  clear hU hub hul hg1
  repeat (first | refine Vx ?_ | (apply Ops_q; (case hon => exact Va); (case hd => rfl); (case hq => exact YlA)) | refine Vr ?_ | refine Vt ?_ | refine Vf ?_ | refine Vm ?_ | refine Ve ?_ | refine Vo ?_ | refine Vz ?_ | refine Vn ?_)
  refine V_loop (fun s : Nat × Value => [(37, .int .i64 s.1), (36, .int .i64 L.length), (35, .slice ao L.length c), (3, .slice (some ⟨g, 0, none⟩) L.length L.length), (6, s.2)])
    (fun s w' => s.1 ≤ L.length ∧ Ext w3 w' ∧ Own w' w3.heap.size 42 3 s.2 ((((List.range s.1).filter fun j => decide (covN L L.length j < sizeN (gp L j))).map fun j => L.getD j En.zero).map En.cells)) (fun s => L.length - s.1) (0, .slice none 0 0) (by repeat (first | exact trivial | refine ⟨rfl, ?_⟩)) ⟨Nat.zero_le _, Ext.refl _, Own.nil⟩ ?_
  rintro ⟨i, v⟩ w4 ⟨hi, x4, o4⟩
  dsimp only at hi o4 ⊢
  repeat (first | refine Vx ?_ | (apply Ops_q; (case hon => exact Va); (case hd => rfl); (case hq => exact YlA)) | refine Vr ?_ | refine Vt ?_ | refine Vf ?_ | refine Vm ?_ | refine Ve ?_ | refine Vo ?_ | refine Vz ?_ | refine Vn ?_)
  refine V_cond rfl (fun hg2 => ?_) (fun hg2 => ?_)
  · replace hg2 := of_decide_eq_true hg2
    have hil : i < L.length := by omega
    obtain ⟨x, hx⟩ : ∃ x, L[i]? = some x := ⟨_, List.getElem?_eq_getElem hil⟩
    obtain ⟨ad, rfl, hc⟩ := hL.at hx
    have hgx := gp_at hx
    have hgd := gd_at hx
    have hxv := (hT.ok x (List.mem_of_getElem? hx)).1
    have hc1 : Cells w4 (ad.add (i * 3)) [.int .u32 x.p.a, .int .i64 x.p.n, .int .i64 x.v] := (hc.ext x3).ext x4
    have hsn := rangeF_snoc L (fun j => decide (covN L L.length j < sizeN (gp L j))) i
    have hll := rangeF_len L (fun j => decide (covN L L.length j < sizeN (gp L j))) i
    rw [hgd] at hsn
    repeat (first | refine Vx ?_ | (apply Ops_q; (case hon => exact Va); (case hd => rfl); (case hq => exact YlA)) | refine Vr ?_ | refine Vt ?_ | refine Vf ?_ | refine Vm ?_ | refine Ve ?_ | refine Vo ?_ | refine Vz ?_ | refine Vn ?_)
    (apply Ops_q; (case hon => (exact Va)); (case hd => rfl); (case hq => exact Yl_indexS (j := i) rfl rfl (by omega)))
    repeat (first | refine Vx ?_ | (apply Ops_q; (case hon => exact Va); (case hd => rfl); (case hq => exact YlA)) | refine Vr ?_ | refine Vt ?_ | refine Vf ?_ | refine Vm ?_ | refine Ve ?_ | refine Vo ?_ | refine Vz ?_ | refine Vn ?_)
    (refine Ops_alloc (by exact Va) rfl ?_; intro w5 b8 n_b8; have k_b8 := n_b8.blk)
    repeat (first | refine Vx ?_ | (apply Ops_q; (case hon => exact Va); (case hd => rfl); (case hq => exact YlA)) | refine Vr ?_ | refine Vt ?_ | refine Vf ?_ | refine Vm ?_ | refine Ve ?_ | refine Vo ?_ | refine Vz ?_ | refine Vn ?_)
    (refine Ops_store (by exact Va) rfl rfl (by assumption) (by first | rfl | exact OneAll.h) ?_; intro w6 u_w6; have k_b8 := u_w6.blk)
    have y6 := u_w6.below n_b8.ext n_b8.ge
    have x6 := x4.trans y6
    have o6 := o4.ext y6
    have hcell := (D3.ext x6).at (covD_at (L := L) (m := L.length) hil)
    have hxp : Cells w6 ⟨b8, 0, none⟩ [.int .u32 x.p.a, .int .i64 x.p.n] := k_b8.part 0 2
    clear u_w6 n_b8 o4 hc1
    repeat (first | refine Vx ?_ | (apply Ops_q; (case hon => exact Va); (case hd => rfl); (case hq => exact YlA)) | refine Vr ?_ | refine Vt ?_ | refine Vf ?_ | refine Vm ?_ | refine Ve ?_ | refine Vo ?_ | refine Vz ?_ | refine Vn ?_)
    (apply Ops_q; (case hon => (exact Va)); (case hd => rfl); (case hq => exact Yl_indexS (j := i) rfl rfl (by omega)))
    repeat (first | refine Vx ?_ | (apply Ops_q; (case hon => exact Va); (case hd => rfl); (case hq => exact YlA)) | refine Vr ?_ | refine Vt ?_ | refine Vf ?_ | refine Vm ?_ | refine Ve ?_ | refine Vo ?_ | refine Vz ?_ | refine Vn ?_)
    (apply Ops_q; (case hon => (exact Va)); (case hd => rfl); (case hq => exact Yl_call rfl (fun w_ e_ => size_v x.p w_ hxv)))
    repeat (first | refine Vx ?_ | (apply Ops_q; (case hon => exact Va); (case hd => rfl); (case hq => exact YlA)) | refine Vr ?_ | refine Vt ?_ | refine Vf ?_ | refine Vm ?_ | refine Ve ?_ | refine Vo ?_ | refine Vz ?_ | refine Vn ?_)
    refine V_cond rfl (fun h2 => ?_) (fun h2 => ?_)
    · have h3 : covN L L.length i < sizeN (gp L i) := by have := of_decide_eq_true h2; rw [hgx]; omega
      clear h2
      rw [if_pos (decide_eq_true h3)] at hsn
      clear hxp
      repeat (first | refine Vx ?_ | (apply Ops_q; (case hon => exact Va); (case hd => rfl); (case hq => exact YlA)) | refine Vr ?_ | refine Vt ?_ | refine Vf ?_ | refine Vm ?_ | refine Ve ?_ | refine Vo ?_ | refine Vz ?_ | refine Vn ?_)
      (refine Ops_lit (by exact Va) rfl rfl rfl ?_; intro wq bq n_bq; have k_bq := n_bq.blk)
      have oq := o6.ext n_bq.ext
      have xq := x6.trans n_bq.ext
      have hcs : Cells wq ⟨bq, 0, none⟩ x.cells := n_bq.blk.cells
      repeat (first | refine Vx ?_ | (apply Ops_q; (case hon => exact Va); (case hd => rfl); (case hq => exact YlA)) | refine Vr ?_ | refine Vt ?_ | refine Vf ?_ | refine Vm ?_ | refine Ve ?_ | refine Vo ?_ | refine Vz ?_ | refine Vn ?_)
      refine Ops_append1 (u := x.cells) (by exact Va) rfl rfl rfl rfl oq hcs ⟨rfl⟩ ⟨rfl⟩ (by rw [List.length_map]; omega) rfl xq.size ?_
      intro v' wr or_ gr dr
      have mr : Mod (fun c => v.ownBlock = some c) w6 wr := (Mod.of_ext n_bq.ext).grow gr (fun b hb => .inl hb)
      have xr : Ext w3 wr := Mod.ext_of x6 mr (fun c hc => oq.ge hc)
      rw [show [x.cells] = [x].map En.cells from rfl, ← List.map_append] at or_
      clear gr hcs oq xq n_bq k_bq
      repeat (first | refine Vx ?_ | (apply Ops_q; (case hon => exact Va); (case hd => rfl); (case hq => exact YlA)) | refine Vr ?_ | refine Vt ?_ | refine Vf ?_ | refine Vm ?_ | refine Ve ?_ | refine Vo ?_ | refine Vz ?_ | refine Vn ?_)
      refine ⟨(i + 1, v'), (by repeat (first | exact trivial | refine ⟨rfl, ?_⟩)), ⟨hil, xr, ?_⟩, by simp only; omega⟩
      dsimp only
      rw [hsn]; exact or_
    · have h3 : ¬covN L L.length i < sizeN (gp L i) := by have := of_decide_eq_false h2; rw [hgx]; omega
      clear h2
      rw [if_neg (by simpa using h3), List.append_nil] at hsn
      repeat (first | refine Vx ?_ | (apply Ops_q; (case hon => exact Va); (case hd => rfl); (case hq => exact YlA)) | refine Vr ?_ | refine Vt ?_ | refine Vf ?_ | refine Vm ?_ | refine Ve ?_ | refine Vo ?_ | refine Vz ?_ | refine Vn ?_)
      refine ⟨(i + 1, v), (by repeat (first | exact trivial | refine ⟨rfl, ?_⟩)), ⟨hil, x6, ?_⟩, by simp only; omega⟩
      dsimp only
      rw [hsn]; exact o6
  replace hg2 := of_decide_eq_false hg2
  obtain rfl : i = L.length := by omega
  repeat (first | refine Vx ?_ | (apply Ops_q; (case hon => exact Va); (case hd => rfl); (case hq => exact YlA)) | refine Vr ?_ | refine Vt ?_ | refine Vf ?_ | refine Vm ?_ | refine Ve ?_ | refine Vo ?_ | refine Vz ?_ | refine Vn ?_)
  refine ret1 (by first | exact .inl rfl | exact .inr rfl) rfl rfl ?_
  exact Gives_mk (fun w' he => (o4.ext he).mono x3.size) (x3.trans x4)
theorem upV_upI {S : List En} {i : Nat} : (upI S i = -1 ∧ upV S i = -1) ∨ ∃ j : Nat, upI S i = (j : Int) ∧ j < i ∧ upV S i = (S.getD j En.zero).v := by
  cases hl : (covs S i).getLast? with
  | none => exact .inl ⟨by rw [upI, lastI, hl], by rw [upV, hl]⟩
  | some j =>
    have h1 : upI S i = (j : Int) := by rw [upI, lastI, hl]
    exact .inr ⟨j, h1, (upI_iff.1 h1).1, by rw [upV, hl]⟩
theorem visL_len (L : List En) : (visL L).length ≤ L.length := rangeF_len L _ L.length
set_option maxHeartbeats 4000000 in
theorem trim_v (ao : Option Addr) (L : List En) (c : Nat) (w : World) (hL : Ens w ao L) (hLa : ∀ e ∈ L, e.p.a < 4294967296) (hn : L.length ≤ 1000000) :
    Calls Try.prog 11 #[.slice ao L.length c] w (Gives (TrmR w L) w) := by
  refine V_enter (vs := [_]) Try.func11 rfl Try.ntmps11 (Nat.le_of_ble_eq_true rfl) ?_
  repeat (first | refine Vx ?_ | (apply Ops_q; (case hon => exact Va); (case hd => rfl); (case hq => exact YlA)) | refine Vr ?_ | refine Vt ?_ | refine Vf ?_ | refine Vm ?_ | refine Ve ?_ | refine Vo ?_ | refine Vz ?_ | refine Vn ?_)
  (apply Ops_q; (case hon => (exact Va)); (case hd => rfl); (case hq => exact Yl_call rfl (fun w_ e_ => check_v ao L c w_ (hL.ext e_) hLa hn)))
  repeat (first | refine Vx ?_ | (apply Ops_q; (case hon => exact Va); (case hd => rfl); (case hq => exact YlA)) | refine Vr ?_ | refine Vt ?_ | refine Vf ?_ | refine Vm ?_ | refine Ve ?_ | refine Vo ?_ | refine Vz ?_ | refine Vn ?_)
  refine V_cond rfl (fun h1 => ?_) (fun h1 => ?_)
  · have h0 : ¬chk L = 0 := by simpa using h1
    repeat (first | refine Vx ?_ | (apply Ops_q; (case hon => exact Va); (case hd => rfl); (case hq => exact YlA)) | refine Vr ?_ | refine Vt ?_ | refine Vf ?_ | refine Vm ?_ | refine Ve ?_ | refine Vo ?_ | refine Vz ?_ | refine Vn ?_)
    refine ret2 (by first | exact .inl rfl | exact .inr rfl) rfl rfl rfl ?_
    exact Gives_mk (fun w' he => ⟨_, rfl, by rw [trmT, if_neg h0]; exact Own.nil⟩) (Ext.refl _)
  have h0 : chk L = 0 := by simpa using h1
  clear h1
  have hTL := (chk_iff.1 h0).2
  have htr : trmT L = trimI (visL L) := by rw [trmT, if_pos h0]; rfl
  have hSl := visL_len L
  have hSt : Tb (visL L) := by rw [visL_eq hTL]; exact visP_tb hTL
  have hSa : ∀ e ∈ visL L, e.p.a < 4294967296 := fun e he => by rw [visL_eq hTL] at he; exact hLa e (visP_mem.1 he).1
  repeat (first | refine Vx ?_ | (apply Ops_q; (case hon => exact Va); (case hd => rfl); (case hq => exact YlA)) | refine Vr ?_ | refine Vt ?_ | refine Vf ?_ | refine Vm ?_ | refine Ve ?_ | refine Vo ?_ | refine Vz ?_ | refine Vn ?_)
  (refine Ops_callR (by exact Va) rfl rfl (fun w_ e_ => visible_v ao L c w_ (hL.ext e_) hLa hTL hn) ?_; intro v w1 w0_ e0_ e1_ r_v; have e_w1 := e0_.trans e1_; have b_v := e0_.size; clear e0_ e1_)
  obtain ⟨au, cu, rfl, hA⟩ := r_v.slice
  have x1 := e_w1
  rw [List.length_map]
  clear r_v b_v
  generalize visL L = S at *
  have hS : Ens w1 au S := hA
  repeat (first | refine Vx ?_ | (apply Ops_q; (case hon => exact Va); (case hd => rfl); (case hq => exact YlA)) | refine Vr ?_ | refine Vt ?_ | refine Vf ?_ | refine Vm ?_ | refine Ve ?_ | refine Vo ?_ | refine Vz ?_ | refine Vn ?_)
  (refine Ops_callR (by exact Va) rfl rfl (fun w_ e_ => aboveP_v au S cu w_ (hS.ext e_) hSa hSt (by omega)) ?_; intro v w2 w0_ e0_ e1_ r_v; have e_w2 := e0_.trans e1_; have b_v := e0_.size; clear e0_ e1_)
  obtain ⟨ua, uc', rfl, hU⟩ := r_v.slice
  have hul : (upsL S).length = S.length := by unfold upsL; simp
  rw [List.length_map, hul]
  have hS2 := hS.ext e_w2
  have x2 := x1.trans e_w2
  clear r_v b_v hul
  repeat (first | refine Vx ?_ | (apply Ops_q; (case hon => exact Va); (case hd => rfl); (case hq => exact YlA)) | refine Vr ?_ | refine Vt ?_ | refine Vf ?_ | refine Vm ?_ | refine Ve ?_ | refine Vo ?_ | refine Vz ?_ | refine Vn ?_)
  refine V_loop (fun s : Nat × Value => [(20, .int .i64 s.1), (19, .int .i64 S.length), (18, .slice ua S.length uc'), (5, .slice au S.length cu), (6, s.2)])
    (fun s w' => s.1 ≤ S.length ∧ Ext w2 w' ∧ Own w' w2.heap.size 42 3 s.2 ((((List.range s.1).filter fun i => decide ((S.getD i En.zero).v ≠ upV S i)).map fun j => S.getD j En.zero).map En.cells)) (fun s => S.length - s.1) (0, .slice none 0 0) (by repeat (first | exact trivial | refine ⟨rfl, ?_⟩)) ⟨Nat.zero_le _, Ext.refl _, Own.nil⟩ ?_
  rintro ⟨i, v⟩ w4 ⟨hi, x4, o4⟩
  dsimp only at hi o4 ⊢
  repeat (first | refine Vx ?_ | (apply Ops_q; (case hon => exact Va); (case hd => rfl); (case hq => exact YlA)) | refine Vr ?_ | refine Vt ?_ | refine Vf ?_ | refine Vm ?_ | refine Ve ?_ | refine Vo ?_ | refine Vz ?_ | refine Vn ?_)
  refine V_cond rfl (fun hg2 => ?_) (fun hg2 => ?_)
  · replace hg2 := of_decide_eq_true hg2
    have hil : i < S.length := by omega
    obtain ⟨x, hx⟩ : ∃ x, S[i]? = some x := ⟨_, List.getElem?_eq_getElem hil⟩
    obtain ⟨ad, rfl, hc⟩ := hS2.at hx
    have hgd := gd_at hx
    have hc1 : Cells w4 (ad.add (i * 3)) [.int .u32 x.p.a, .int .i64 x.p.n, .int .i64 x.v] := hc.ext x4
    have hxv : w4.cell? ((ad.add (i * 3)).add 2) = some (.int .i64 x.v) := hc1 2 _ rfl
    have hsn := rangeF_snoc S (fun i => decide ((S.getD i En.zero).v ≠ upV S i)) i
    have hll := rangeF_len S (fun i => decide ((S.getD i En.zero).v ≠ upV S i)) i
    rw [hgd] at hsn
    obtain ⟨adu, rfl, hcu⟩ := hU i (ic (upI S i)) (by rw [List.getElem?_map, upsL, List.getElem?_map, List.getElem?_range hil]; rfl)
    have hcu1 : w4.cell? (adu.add (i * 1)) = some (.int .i64 (upI S i)) := by
      have := (hcu.ext x4) 0 _ rfl
      rw [add_add, Nat.add_zero] at this; exact this
    have huv := upV_upI (S := S) (i := i)
    repeat (first | refine Vx ?_ | (apply Ops_q; (case hon => exact Va); (case hd => rfl); (case hq => exact YlA)) | refine Vr ?_ | refine Vt ?_ | refine Vf ?_ | refine Vm ?_ | refine Ve ?_ | refine Vo ?_ | refine Vz ?_ | refine Vn ?_)
    (apply Ops_q; (case hon => (exact Va)); (case hd => rfl); (case hq => exact Yl_indexS (j := i) rfl rfl (by omega)))
    repeat (first | refine Vx ?_ | (apply Ops_q; (case hon => exact Va); (case hd => rfl); (case hq => exact YlA)) | refine Vr ?_ | refine Vt ?_ | refine Vf ?_ | refine Vm ?_ | refine Ve ?_ | refine Vo ?_ | refine Vz ?_ | refine Vn ?_)
    refine V_meet1 (fun _ : Unit => [(9, .int .i64 (upV S i)), (7, .int .i64 i), (20, .int .i64 i), (19, .int .i64 S.length), (18, .slice (some adu) S.length uc'), (5, .slice (some ad) S.length cu), (6, v)]) (fun _ w' => w' = w4) ?_ ?_
    · refine V_cond rfl (fun h2 => ?_) (fun h2 => ?_)
      · have h2' := of_decide_eq_true h2
        clear h2
        obtain ⟨j, hj, hji, hjv⟩ : ∃ j : Nat, upI S i = (j : Int) ∧ j < i ∧ upV S i = (S.getD j En.zero).v := by
          rcases huv with h | h
          · omega
          · exact h
        have hjl : j < S.length := by omega
        obtain ⟨y, hy⟩ : ∃ y, S[j]? = some y := ⟨_, List.getElem?_eq_getElem hjl⟩
        obtain ⟨_, e', hcy⟩ := hS2.at hy
        cases e'
        rw [gd_at hy] at hjv
        have hyv : w4.cell? ((ad.add (j * 3)).add 2) = some (.int .i64 (upV S i)) := by rw [hjv]; exact (hcy.ext x4) 2 _ rfl
        rw [hj]
        repeat (first | refine Vx ?_ | (apply Ops_q; (case hon => exact Va); (case hd => rfl); (case hq => exact YlA)) | refine Vr ?_ | refine Vt ?_ | refine Vf ?_ | refine Vm ?_ | refine Ve ?_ | refine Vo ?_ | refine Vz ?_ | refine Vn ?_)
        (apply Ops_q; (case hon => (exact Va)); (case hd => rfl); (case hq => exact Yl_indexS (j := j) rfl rfl (by omega)))
        repeat (first | refine Vx ?_ | (apply Ops_q; (case hon => exact Va); (case hd => rfl); (case hq => exact YlA)) | refine Vr ?_ | refine Vt ?_ | refine Vf ?_ | refine Vm ?_ | refine Ve ?_ | refine Vo ?_ | refine Vz ?_ | refine Vn ?_)
        exact ⟨(), (by repeat (first | exact trivial | refine ⟨rfl, ?_⟩)), rfl⟩
      · have h2' := of_decide_eq_false h2
        clear h2
        have hjv : upV S i = -1 := by
          rcases huv with h | ⟨j, h, _⟩
          · exact h.2
          · omega
        repeat (first | refine Vx ?_ | (apply Ops_q; (case hon => exact Va); (case hd => rfl); (case hq => exact YlA)) | refine Vr ?_ | refine Vt ?_ | refine Vf ?_ | refine Vm ?_ | refine Ve ?_ | refine Vo ?_ | refine Vz ?_ | refine Vn ?_)
        refine ⟨(), ?_, rfl⟩
        rw [hjv]
        exact (by repeat (first | exact trivial | refine ⟨rfl, ?_⟩))
    · rintro _ w5 rfl
      repeat (first | refine Vx ?_ | (apply Ops_q; (case hon => exact Va); (case hd => rfl); (case hq => exact YlA)) | refine Vr ?_ | refine Vt ?_ | refine Vf ?_ | refine Vm ?_ | refine Ve ?_ | refine Vo ?_ | refine Vz ?_ | refine Vn ?_)
      (apply Ops_q; (case hon => (exact Va)); (case hd => rfl); (case hq => exact Yl_indexS (j := i) rfl rfl (by omega)))
      repeat (first | refine Vx ?_ | (apply Ops_q; (case hon => exact Va); (case hd => rfl); (case hq => exact YlA)) | refine Vr ?_ | refine Vt ?_ | refine Vf ?_ | refine Vm ?_ | refine Ve ?_ | refine Vo ?_ | refine Vz ?_ | refine Vn ?_)
      refine V_cond rfl (fun h2 => ?_) (fun h2 => ?_)
      · have h3 : x.v ≠ upV S i := by simpa using h2
        clear h2
        rw [if_pos (decide_eq_true h3)] at hsn
        clear hxv
        repeat (first | refine Vx ?_ | (apply Ops_q; (case hon => exact Va); (case hd => rfl); (case hq => exact YlA)) | refine Vr ?_ | refine Vt ?_ | refine Vf ?_ | refine Vm ?_ | refine Ve ?_ | refine Vo ?_ | refine Vz ?_ | refine Vn ?_)
        (apply Ops_q; (case hon => (exact Va)); (case hd => rfl); (case hq => exact Yl_indexS (j := i) rfl rfl (by omega)))
        repeat (first | refine Vx ?_ | (apply Ops_q; (case hon => exact Va); (case hd => rfl); (case hq => exact YlA)) | refine Vr ?_ | refine Vt ?_ | refine Vf ?_ | refine Vm ?_ | refine Ve ?_ | refine Vo ?_ | refine Vz ?_ | refine Vn ?_)
        (refine Ops_lit (by exact Va) rfl rfl rfl ?_; intro wq bq n_bq; have k_bq := n_bq.blk)
        have oq := o4.ext n_bq.ext
        have xq := x4.trans n_bq.ext
        have hcs : Cells wq ⟨bq, 0, none⟩ x.cells := n_bq.blk.cells
        repeat (first | refine Vx ?_ | (apply Ops_q; (case hon => exact Va); (case hd => rfl); (case hq => exact YlA)) | refine Vr ?_ | refine Vt ?_ | refine Vf ?_ | refine Vm ?_ | refine Ve ?_ | refine Vo ?_ | refine Vz ?_ | refine Vn ?_)
        refine Ops_append1 (u := x.cells) (by exact Va) rfl rfl rfl rfl oq hcs ⟨rfl⟩ ⟨rfl⟩ (by rw [List.length_map]; omega) rfl xq.size ?_
        intro v' wr or_ gr dr
        have mr : Mod (fun c => v.ownBlock = some c) w5 wr := (Mod.of_ext n_bq.ext).grow gr (fun b hb => .inl hb)
        have xr : Ext w2 wr := Mod.ext_of x4 mr (fun c hc => oq.ge hc)
        rw [show [x.cells] = [x].map En.cells from rfl, ← List.map_append] at or_
        clear gr hcs oq xq n_bq k_bq
        repeat (first | refine Vx ?_ | (apply Ops_q; (case hon => exact Va); (case hd => rfl); (case hq => exact YlA)) | refine Vr ?_ | refine Vt ?_ | refine Vf ?_ | refine Vm ?_ | refine Ve ?_ | refine Vo ?_ | refine Vz ?_ | refine Vn ?_)
        refine ⟨(i + 1, v'), (by repeat (first | exact trivial | refine ⟨rfl, ?_⟩)), ⟨hil, xr, ?_⟩, by simp only; omega⟩
        dsimp only
        rw [hsn]; exact or_
      · have h3 : x.v = upV S i := by simpa using h2
        clear h2
        rw [if_neg (by simpa using h3), List.append_nil] at hsn
        repeat (first | refine Vx ?_ | (apply Ops_q; (case hon => exact Va); (case hd => rfl); (case hq => exact YlA)) | refine Vr ?_ | refine Vt ?_ | refine Vf ?_ | refine Vm ?_ | refine Ve ?_ | refine Vo ?_ | refine Vz ?_ | refine Vn ?_)
        refine ⟨(i + 1, v), (by repeat (first | exact trivial | refine ⟨rfl, ?_⟩)), ⟨hil, x4, ?_⟩, by simp only; omega⟩
        dsimp only
        rw [hsn]; exact o4
  replace hg2 := of_decide_eq_false hg2
  obtain rfl : i = S.length := by omega
  repeat (first | refine Vx ?_ | (apply Ops_q; (case hon => exact Va); (case hd => rfl); (case hq => exact YlA)) | refine Vr ?_ | refine Vt ?_ | refine Vf ?_ | refine Vm ?_ | refine Ve ?_ | refine Vo ?_ | refine Vz ?_ | refine Vn ?_)
  refine ret2 (by first | exact .inl rfl | exact .inr rfl) rfl rfl rfl ?_
  exact Gives_mk (fun w' he => ⟨_, by rw [h0], by rw [htr]; exact (o4.ext he).mono x2.size⟩) (x2.trans x4)
end Go.Proofs.Ytjpnaofoeeegeaa


/-
  Tables (layer 7): the chapter's examples.
  No conditions.
-/
namespace Go.Proofs.Ytjpnaofoeeegeaa
open Go.RowKit

theorem own_sl {w : World} {base : Nat} {v : Value} {M : List En} (h : Own w base 42 3 v (M.map En.cells)) : ∃ ao c, v = .slice ao M.length c ∧ Sl w ao M.length c M := by
  obtain ⟨ao, c, h1, h2, h3, h4⟩ := h.slice2
  rw [List.length_map] at h1 h3
  exact ⟨ao, c, h1, rfl, h2, h3, h4⟩
def lH : List En := [⟨⟨0, 0⟩, 1⟩, ⟨⟨167772160, 9⟩, 2⟩, ⟨⟨176160768, 9⟩, 2⟩]
def mH : List En := [⟨⟨0, 0⟩, 1⟩, ⟨⟨167772160, 8⟩, 2⟩]
theorem kH : minT lH = mH := by kernel_rfl
theorem cH : chk lH = 0 := by kernel_rfl
theorem k1 : lkT lH 167772160 = 2 := by kernel_rfl
theorem k2 : lkT lH 0 = 1 := by kernel_rfl
theorem Ens.of_blk' {w : World} {b : Nat} {t : TypeId} {cs : List Value} {L : List En} (h : Blk w b t cs) (e : (L.map En.cells).flatten = cs) : Ens w (some ⟨b, 0, none⟩) L := by
  refine fun k x hk => ⟨_, rfl, cells_flat (n0 := 3) ?_ (fun x hx => ?_) k x hk⟩
  · rw [e]; exact h.cells
  · obtain ⟨y, _, rfl⟩ := List.mem_map.1 hx
    rfl
end Go.Proofs.Ytjpnaofoeeegeaa


/-
  Stride tables (layer 8), plain: the compressed form of a function on addresses, place by place.
  No conditions beyond those that each lemma states.
-/
namespace Go.Proofs.Ytjpnaofoeeegeaa

/-! ### Blocks of digits -/
/-- The number of addresses of a node's block at a depth. -/
def nsz (d : Nat) : Nat := 2 ^ (32 - 6 * d)
/-- The first address of digit x of a node that begins at base. -/
def digLo (d base x : Nat) : Nat := if d < 5 then base + x * nsz (d + 1) else base + x / 16
/-- A digit has addresses. -/
def digOk (d x : Nat) : Bool := decide (d < 5) || decide (x % 16 = 0)
/-- The first address behind digit x. -/
def digHi (d base x : Nat) : Nat := if digOk d x then digLo d base x + nsz (d + 1) else digLo d base x
theorem nsz_pos (d : Nat) : 0 < nsz d := Nat.two_pow_pos _
theorem nsz_zero : nsz 0 = 4294967296 := rfl
theorem nsz_five : nsz 5 = 4 := rfl
theorem nsz_six : nsz 6 = 1 := rfl
theorem nsz_step {d : Nat} (h : d < 5) : nsz d = 64 * nsz (d + 1) := by
  match d, h with
  | 0, _ => rfl
  | 1, _ => rfl
  | 2, _ => rfl
  | 3, _ => rfl
  | 4, _ => rfl
/-- Each address of a node's block lies in the block of just one digit that has addresses. -/
theorem dig_of {d base a : Nat} (hd : d ≤ 5) (h1 : base ≤ a) (h2 : a < base + nsz d) : ∃ x, x < 64 ∧ digOk d x = true ∧ digLo d base x ≤ a ∧ a < digLo d base x + nsz (d + 1) := by
  rcases Nat.lt_or_ge d 5 with h | h
  · have hp := nsz_pos (d + 1)
    have hs := nsz_step h
    refine ⟨(a - base) / nsz (d + 1), ?_, ?_, ?_, ?_⟩
    · refine Nat.div_lt_of_lt_mul ?_
      rw [Nat.mul_comm]; omega
    · rw [digOk, decide_eq_true h]; rfl
    · rw [digLo, if_pos h]
      have := Nat.div_mul_le_self (a - base) (nsz (d + 1))
      omega
    · rw [digLo, if_pos h]
      have := Nat.lt_div_mul_add (a := a - base) hp
      omega
  · obtain rfl : d = 5 := by omega
    have e : nsz 5 = 4 := rfl
    have e6 : nsz (5 + 1) = 1 := rfl
    refine ⟨(a - base) * 16, by omega, ?_, ?_, ?_⟩
    · rw [digOk, decide_eq_true (show (a - base) * 16 % 16 = 0 by omega), Bool.or_true]
    · rw [digLo, if_neg (by omega)]; omega
    · rw [digLo, if_neg (by omega)]; omega
/-- A digit's block lies in the node's. -/
theorem dig_in {d base x : Nat} (hd : d ≤ 5) (hx : x < 64) : base ≤ digLo d base x ∧ digLo d base x + nsz (d + 1) ≤ base + nsz d := by
  rcases Nat.lt_or_ge d 5 with h | h
  · rw [digLo, if_pos h, nsz_step h]
    have : (x + 1) * nsz (d + 1) ≤ 64 * nsz (d + 1) := Nat.mul_le_mul_right _ (by omega)
    rw [Nat.succ_mul] at this
    omega
  · obtain rfl : d = 5 := by omega
    have e : nsz 5 = 4 := rfl
    have e6 : nsz (5 + 1) = 1 := rfl
    rw [digLo, if_neg (by omega)]; omega
/-- The first address of a digit is the first behind the digits before it. -/
theorem dig_next {d base x : Nat} (hd : d ≤ 5) (hok : digOk d (x + 1) = true) : digLo d base (x + 1) = digHi d base x ∨ digLo d base (x + 1) = digLo d base x + 1 := by
  rcases Nat.lt_or_ge d 5 with h | h
  · left
    have : digOk d x = true := by unfold digOk; rw [decide_eq_true h]; rfl
    rw [digHi, if_pos this, digLo, digLo, if_pos h, if_pos h, Nat.succ_mul]; omega
  · right
    obtain rfl : d = 5 := by omega
    have : (x + 1) % 16 = 0 := by unfold digOk at hok; simpa using hok
    unfold digLo; rw [if_neg (by omega), if_neg (by omega)]; omega
/-- What lies before digit x: the addresses of the digits before it. -/
def digTo (d base x : Nat) : Nat := if d < 5 then base + x * nsz (d + 1) else base + (x + 15) / 16
theorem digTo_zero (d base : Nat) : digTo d base 0 = base := by unfold digTo; split <;> simp
theorem digTo_end {d : Nat} (base : Nat) (hd : d ≤ 5) : digTo d base 64 = base + nsz d := by
  rcases Nat.lt_or_ge d 5 with h | h
  · rw [digTo, if_pos h, nsz_step h]
  · obtain rfl : d = 5 := by omega
    rw [digTo, if_neg (by omega), nsz_five]
theorem digTo_ok {d base x : Nat} (hd : d ≤ 5) (h : digOk d x = true) : digTo d base x = digLo d base x ∧ digTo d base (x + 1) = digLo d base x + nsz (d + 1) := by
  rcases Nat.lt_or_ge d 5 with h5 | h5
  · unfold digTo digLo; rw [if_pos h5, if_pos h5, if_pos h5, Nat.succ_mul]; omega
  · obtain rfl : d = 5 := by omega
    have : x % 16 = 0 := by unfold digOk at h; simpa using h
    unfold digTo digLo
    rw [if_neg (by omega), if_neg (by omega), if_neg (by omega), nsz_six]; omega
theorem digTo_skip {d base x : Nat} (hd : d ≤ 5) (h : digOk d x = false) : d = 5 ∧ digTo d base (x + 1) = digTo d base x := by
  have h5 : ¬d < 5 := fun h5 => by unfold digOk at h; rw [decide_eq_true h5] at h; cases h
  obtain rfl : d = 5 := by omega
  have : ¬x % 16 = 0 := by unfold digOk at h; simpa using h
  refine ⟨rfl, ?_⟩
  unfold digTo
  rw [if_neg (by omega), if_neg (by omega)]; omega
/-! ### Flatness -/
/-- A function on addresses has one value from lo on, below hi. -/
def Flat (f : Nat → Int) (lo hi : Nat) : Prop := ∀ a, lo ≤ a → a < hi → f a = f lo
def flat (f : Nat → Int) (lo hi : Nat) : Bool := (List.range (hi - lo)).all fun k => decide (f (lo + k) = f lo)
theorem flat_iff {f : Nat → Int} {lo hi : Nat} : flat f lo hi = true ↔ Flat f lo hi := by
  rw [flat, List.all_eq_true]
  constructor
  · intro h a h1 h2
    have := of_decide_eq_true (h (a - lo) (List.mem_range.2 (by omega)))
    rwa [show lo + (a - lo) = a by omega] at this
  · intro h k hk
    rw [List.mem_range] at hk
    exact decide_eq_true (h (lo + k) (by omega) (by omega))
theorem flat_one (f : Nat → Int) (lo : Nat) : flat f lo (lo + 1) = true := flat_iff.2 fun a h1 h2 => by rw [show a = lo by omega]
/-! ### Words of bits -/
def mkW (P : Nat → Bool) : Nat → Nat
  | 0 => 0
  | x + 1 => if P x then mkW P x + 2 ^ x else mkW P x
def cntW (P : Nat → Bool) : Nat → Nat
  | 0 => 0
  | x + 1 => if P x then cntW P x + 1 else cntW P x
theorem mkW_lt (P : Nat → Bool) : ∀ k, mkW P k < 2 ^ k
  | 0 => by simp [mkW]
  | k + 1 => by
    have := mkW_lt P k
    rw [mkW, Nat.pow_succ]
    split <;> omega
theorem cntW_le (P : Nat → Bool) : ∀ k, cntW P k ≤ k
  | 0 => Nat.le_refl _
  | k + 1 => by
    have := cntW_le P k
    rw [cntW]
    split <;> omega
theorem cntW_mono (P : Nat → Bool) {k : Nat} : ∀ {n}, k ≤ n → cntW P k ≤ cntW P n
  | 0, h => by rw [Nat.le_zero.1 h]; exact Nat.le_refl _
  | n + 1, h => by
    rcases Nat.lt_or_ge k (n + 1) with h1 | h1
    · refine Nat.le_trans (cntW_mono P (Nat.le_of_lt_succ h1)) ?_
      rw [cntW]; split <;> omega
    · rw [show k = n + 1 by omega]; exact Nat.le_refl _
theorem mkW_or (P : Nat → Bool) (k : Nat) : mkW P k ||| 2 ^ k = mkW P k + 2 ^ k := by
  have := nat_disjoint k 1 (mkW P k) (mkW_lt P k)
  rw [Nat.one_mul] at this
  rw [Nat.or_comm, this, Nat.add_comm]
theorem mkW_bit (P : Nat → Bool) (i : Nat) : ∀ k, mkW P k / 2 ^ i % 2 = if i < k && P i then 1 else 0
  | 0 => by simp [mkW]
  | k + 1 => by
    have ih := mkW_bit P i k
    have hlt := mkW_lt P k
    rw [mkW]
    rcases Nat.lt_trichotomy i k with h | h | h
    · have e : 2 ^ k = 2 ^ i * (2 * 2 ^ (k - i - 1)) := by rw [← Nat.mul_assoc, ← Nat.pow_succ, ← Nat.pow_add]; congr 1; omega
      have h1 : decide (i < k + 1) = decide (i < k) := by rw [decide_eq_true h, decide_eq_true (by omega)]
      rw [h1, ← ih]
      split
      · rw [e, Nat.add_mul_div_left _ _ (Nat.two_pow_pos _), Nat.add_mul_mod_self_left]
      · rfl
    · subst h
      rw [decide_eq_true (show i < i + 1 by omega), Bool.true_and]
      split
      · rw [Nat.add_div_right _ (Nat.two_pow_pos _), Nat.div_eq_of_lt hlt]
      · rw [Nat.div_eq_of_lt hlt]
    · have h1 : decide (i < k + 1) = false := decide_eq_false (by omega)
      rw [h1]
      have h2 : 2 ^ (k + 1) ≤ 2 ^ i := Nat.pow_le_pow_right (by omega) h
      rw [Nat.pow_succ] at h2
      split
      · rw [Nat.div_eq_of_lt (by omega)]; rfl
      · rw [Nat.div_eq_of_lt (by omega)]; rfl
theorem mkW_rank (P : Nat → Bool) (n : Nat) : ∀ k, k ≤ n → rankN (mkW P n) k = cntW P k
  | 0, _ => rfl
  | k + 1, h => by
    rw [rankN, mkW_rank P n k (by omega), mkW_bit, decide_eq_true (show k < n by omega), Bool.true_and, cntW]
    split <;> rfl
theorem mkW_congr {P Q : Nat → Bool} : ∀ {k : Nat}, (∀ x, x < k → P x = Q x) → mkW P k = mkW Q k
  | 0, _ => rfl
  | k + 1, h => by
    rw [mkW, mkW, mkW_congr (fun x hx => h x (by omega)), h k (by omega)]
/-! ### The compressed form -/
/-- What digit x of place p is: without addresses (none), inner (some none), or a leaf with its value. -/
def digK (f : Nat → Int) (p : Nat × Nat) (x : Nat) : Option (Option Int) :=
  if digOk p.2 x then some (if flat f (digLo p.2 p.1 x) (digLo p.2 p.1 x + nsz (p.2 + 1)) then some (f (digLo p.2 p.1 x)) else none) else none
def inB (f : Nat → Int) (p : Nat × Nat) (x : Nat) : Bool := match digK f p x with
  | some none => true
  | _ => false
/-- The leaves of the digits below x of a place. -/
def lvP (f : Nat → Int) (p : Nat × Nat) : Nat → List Int
  | 0 => []
  | x + 1 => match digK f p x with
    | some (some v) => if (lvP f p x).getLast? = some v then lvP f p x else lvP f p x ++ [v]
    | _ => lvP f p x
def stB (f : Nat → Int) (p : Nat × Nat) (x : Nat) : Bool := match digK f p x with
  | some (some v) => !decide ((lvP f p x).getLast? = some v)
  | _ => false
/-- The places of the inner digits below x. -/
def kdP (f : Nat → Int) (p : Nat × Nat) : Nat → List (Nat × Nat)
  | 0 => []
  | x + 1 => if inB f p x then kdP f p x ++ [(digLo p.2 p.1 x, p.2 + 1)] else kdP f p x
theorem lvP_len (f : Nat → Int) (p : Nat × Nat) : ∀ x, (lvP f p x).length = cntW (stB f p) x
  | 0 => rfl
  | x + 1 => by
    have ih := lvP_len f p x
    rw [cntW, stB, lvP]
    split
    · rename_i v hv
      by_cases h : (lvP f p x).getLast? = some v
      · simp [h, ih]
      · simp [h, ih]
    · simpa using ih
theorem kdP_len (f : Nat → Int) (p : Nat × Nat) : ∀ x, (kdP f p x).length = cntW (inB f p) x
  | 0 => rfl
  | x + 1 => by
    rw [cntW, kdP, ← kdP_len f p x]
    split <;> simp
theorem kdP_pre (f : Nat → Int) (p : Nat × Nat) {x : Nat} : ∀ {n}, x ≤ n → kdP f p x <+: kdP f p n
  | 0, h => by rw [Nat.le_zero.1 h]; exact List.prefix_refl _
  | n + 1, h => by
    rcases Nat.lt_or_ge x (n + 1) with h1 | h1
    · refine (kdP_pre f p (Nat.le_of_lt_succ h1)).trans ?_
      rw [kdP]; split
      · exact List.prefix_append ..
      · exact List.prefix_refl _
    · rw [show x = n + 1 by omega]; exact List.prefix_refl _
theorem lvP_pre (f : Nat → Int) (p : Nat × Nat) {x : Nat} : ∀ {n}, x ≤ n → lvP f p x <+: lvP f p n
  | 0, h => by rw [Nat.le_zero.1 h]; exact List.prefix_refl _
  | n + 1, h => by
    rcases Nat.lt_or_ge x (n + 1) with h1 | h1
    · refine (lvP_pre f p (Nat.le_of_lt_succ h1)).trans ?_
      rw [lvP]; split
      · split
        · exact List.prefix_refl _
        · exact List.prefix_append ..
      · exact List.prefix_refl _
    · rw [show x = n + 1 by omega]; exact List.prefix_refl _
theorem get_prefix {α : Type} {l m : List α} (h : l <+: m) {i : Nat} {a : α} (hi : l[i]? = some a) : m[i]? = some a := by
  obtain ⟨t, rfl⟩ := h
  rw [List.getElem?_append_left (List.getElem?_eq_some_iff.1 hi).1]; exact hi
/-- The place of an inner digit among the places of its node's inner digits. -/
theorem kdP_at {f : Nat → Int} {p : Nat × Nat} {x n : Nat} (h : inB f p x = true) (hx : x < n) : (kdP f p n)[cntW (inB f p) x]? = some (digLo p.2 p.1 x, p.2 + 1) := by
  refine get_prefix (kdP_pre f p (show x + 1 ≤ n from hx)) ?_
  rw [kdP, if_pos h, List.getElem?_append_right (by rw [kdP_len]; exact Nat.le_refl _), kdP_len, Nat.sub_self]; rfl
/-- A leaf's value is the last one so far. -/
theorem lvP_last {f : Nat → Int} {p : Nat × Nat} {x : Nat} {v : Int} (h : digK f p x = some (some v)) : (lvP f p (x + 1)).getLast? = some v := by
  rw [lvP, h]; dsimp only
  split
  · assumption
  · simp
theorem lvP_at {f : Nat → Int} {p : Nat × Nat} {x n : Nat} {v : Int} (h : digK f p x = some (some v)) (hx : x < n) : 0 < cntW (stB f p) (x + 1) ∧ (lvP f p n)[cntW (stB f p) (x + 1) - 1]? = some v := by
  have h1 := lvP_last h
  have hl := lvP_len f p (x + 1)
  rw [List.getLast?_eq_getElem?, hl] at h1
  have h2 := (List.getElem?_eq_some_iff.1 h1).1
  rw [hl] at h2
  exact ⟨by omega, get_prefix (lvP_pre f p hx) h1⟩
/-- A digit without addresses leaves the leaves as they are, and counts with the digit before it. -/
theorem inB_five (f : Nat → Int) (base x : Nat) : inB f (base, 5) x = false := by
  unfold inB digK
  dsimp only
  rw [show nsz (5 + 1) = 1 from rfl, flat_one]
  split <;> rename_i h <;> split at h <;> first | cases h | rfl
/-- The places that wait, after i of them were built. -/
def rowF (f : Nat → Int) : Nat → List (Nat × Nat)
  | 0 => [(0, 0)]
  | i + 1 => match (rowF f i)[i]? with
    | some p => rowF f i ++ kdP f p 64
    | none => rowF f i
def lvF (f : Nat → Int) : Nat → List Int
  | 0 => []
  | i + 1 => match (rowF f i)[i]? with
    | some p => lvF f i ++ lvP f p 64
    | none => lvF f i
structure Nd where
  inner : Nat
  leaf : Nat
  nodes : Int
  first : Int
deriving DecidableEq
def ndF (f : Nat → Int) (i : Nat) (p : Nat × Nat) : Nd := ⟨mkW (inB f p) 64, mkW (stB f p) 64, (rowF f i).length, (lvF f i).length⟩
def ndsF (f : Nat → Int) : Nat → List Nd
  | 0 => []
  | i + 1 => match (rowF f i)[i]? with
    | some p => ndsF f i ++ [ndF f i p]
    | none => ndsF f i
/-- A compressed table is the one of f. -/
structure IsCf (f : Nat → Int) (N : List Nd) (L : List Int) : Prop where
  ex : ∃ n, n = (rowF f n).length ∧ N = ndsF f n ∧ L = lvF f n
theorem row_pre (f : Nat → Int) {i : Nat} : ∀ {n}, i ≤ n → rowF f i <+: rowF f n
  | 0, h => by rw [Nat.le_zero.1 h]; exact List.prefix_refl _
  | n + 1, h => by
    rcases Nat.lt_or_ge i (n + 1) with h1 | h1
    · refine (row_pre f (Nat.le_of_lt_succ h1)).trans ?_
      rw [rowF]; split
      · exact List.prefix_append ..
      · exact List.prefix_refl _
    · rw [show i = n + 1 by omega]; exact List.prefix_refl _
theorem lv_pre (f : Nat → Int) {i : Nat} : ∀ {n}, i ≤ n → lvF f i <+: lvF f n
  | 0, h => by rw [Nat.le_zero.1 h]; exact List.prefix_refl _
  | n + 1, h => by
    rcases Nat.lt_or_ge i (n + 1) with h1 | h1
    · refine (lv_pre f (Nat.le_of_lt_succ h1)).trans ?_
      rw [lvF]; split
      · exact List.prefix_append ..
      · exact List.prefix_refl _
    · rw [show i = n + 1 by omega]; exact List.prefix_refl _
theorem nds_pre (f : Nat → Int) {i : Nat} : ∀ {n}, i ≤ n → ndsF f i <+: ndsF f n
  | 0, h => by rw [Nat.le_zero.1 h]; exact List.prefix_refl _
  | n + 1, h => by
    rcases Nat.lt_or_ge i (n + 1) with h1 | h1
    · refine (nds_pre f (Nat.le_of_lt_succ h1)).trans ?_
      rw [ndsF]; split
      · exact List.prefix_append ..
      · exact List.prefix_refl _
    · rw [show i = n + 1 by omega]; exact List.prefix_refl _
theorem row_step {f : Nat → Int} {i : Nat} {p : Nat × Nat} (h : (rowF f i)[i]? = some p) : rowF f (i + 1) = rowF f i ++ kdP f p 64 := by rw [rowF, h]
theorem lv_step {f : Nat → Int} {i : Nat} {p : Nat × Nat} (h : (rowF f i)[i]? = some p) : lvF f (i + 1) = lvF f i ++ lvP f p 64 := by rw [lvF, h]
theorem nds_step {f : Nat → Int} {i : Nat} {p : Nat × Nat} (h : (rowF f i)[i]? = some p) : ndsF f (i + 1) = ndsF f i ++ [ndF f i p] := by rw [ndsF, h]
theorem row_stop {f : Nat → Int} {i : Nat} (h : (rowF f i).length ≤ i) : ∀ n, i ≤ n → rowF f n = rowF f i ∧ lvF f n = lvF f i ∧ ndsF f n = ndsF f i
  | 0, hn => by rw [Nat.le_zero.1 hn]; exact ⟨rfl, rfl, rfl⟩
  | n + 1, hn => by
    rcases Nat.lt_or_ge i (n + 1) with h1 | h1
    · obtain ⟨e1, e2, e3⟩ := row_stop h n (by omega)
      have : (rowF f n)[n]? = none := by rw [e1]; exact List.getElem?_eq_none (by omega)
      rw [rowF, lvF, ndsF, this]; exact ⟨e1, e2, e3⟩
    · rw [show i = n + 1 by omega]; exact ⟨rfl, rfl, rfl⟩
/-- Before the end there is always a place to build. -/
theorem row_lt {f : Nat → Int} {n i : Nat} (hn : n ≤ (rowF f n).length) (hi : i < n) : ∃ p, (rowF f i)[i]? = some p := by
  rcases Nat.lt_or_ge i (rowF f i).length with h | h
  · exact ⟨_, List.getElem?_eq_getElem h⟩
  · have := (row_stop h n (by omega)).1
    rw [this] at hn; omega
theorem nds_len {f : Nat → Int} : ∀ {n}, n ≤ (rowF f n).length → (ndsF f n).length = n
  | 0, _ => rfl
  | n + 1, hn => by
    obtain ⟨p, hp⟩ := row_lt hn (Nat.lt_succ_self n)
    have h1 : n < (rowF f n).length := (List.getElem?_eq_some_iff.1 hp).1
    rw [nds_step hp, List.length_append, nds_len (by omega)]; rfl
theorem row_mono_len {f : Nat → Int} {n i : Nat} (hn : n ≤ (rowF f n).length) (hi : i ≤ n) : i ≤ (rowF f i).length := by
  rcases Nat.lt_or_ge i n with h | h
  · obtain ⟨p, hp⟩ := row_lt hn h
    exact Nat.le_of_lt (List.getElem?_eq_some_iff.1 hp).1
  · rw [show i = n by omega]; exact hn
theorem nds_at {f : Nat → Int} {n i : Nat} {p : Nat × Nat} (hn : n ≤ (rowF f n).length) (hi : i < n) (hp : (rowF f i)[i]? = some p) : (ndsF f n)[i]? = some (ndF f i p) := by
  refine get_prefix (nds_pre f (show i + 1 ≤ n from hi)) ?_
  rw [nds_step hp]
  have h1 := nds_len (row_mono_len hn (Nat.le_of_lt hi))
  rw [List.getElem?_append_right (by omega), h1, Nat.sub_self]; rfl
theorem isCf_unique {f : Nat → Int} {N N' : List Nd} {L L' : List Int} (h : IsCf f N L) (h' : IsCf f N' L') : N = N' ∧ L = L' := by
  obtain ⟨n, hn, rfl, rfl⟩ := h.ex
  obtain ⟨m, hm, rfl, rfl⟩ := h'.ex
  rcases Nat.le_total n m with hle | hle
  · have e := row_stop (f := f) (i := n) (by omega) m hle
    exact ⟨e.2.2.symm, e.2.1.symm⟩
  · have e := row_stop (f := f) (i := m) (by omega) n hle
    exact ⟨e.2.2, e.2.1⟩
/-! ### Functions with the same values have the same form -/
section
variable {f g : Nat → Int} (h : ∀ a, a < 4294967296 → f a = g a)
include h
theorem flat_congr {lo hi : Nat} (hi32 : hi ≤ 4294967296) : flat f lo hi = flat g lo hi := by
  rw [Bool.eq_iff_iff, flat_iff, flat_iff]
  constructor
  · intro hf a h1 h2; rw [← h a (by omega), ← h lo (by omega)]; exact hf a h1 h2
  · intro hf a h1 h2; rw [h a (by omega), h lo (by omega)]; exact hf a h1 h2
end
/-- A place that may occur. -/
def PlOk (p : Nat × Nat) : Prop := p.2 ≤ 5 ∧ p.1 + nsz p.2 ≤ 4294967296
theorem plOk_kd {f : Nat → Int} {p : Nat × Nat} (hp : PlOk p) : ∀ x, x ≤ 64 → ∀ q ∈ kdP f p x, PlOk q ∧ q.2 = p.2 + 1
  | 0, _, q, hq => by cases hq
  | x + 1, hx, q, hq => by
    rw [kdP] at hq
    split at hq
    · rename_i hin
      rcases List.mem_append.1 hq with hq | hq
      · exact plOk_kd hp x (by omega) q hq
      · rw [List.mem_singleton.1 hq]
        have h5 : p.2 ≠ 5 := fun e => by
          obtain ⟨b, d⟩ := p
          dsimp only at e; subst e
          rw [inB_five] at hin; cases hin
        have := dig_in (base := p.1) hp.1 (show x < 64 by omega)
        have h1 := hp.1
        have h2 := hp.2
        refine ⟨⟨?_, ?_⟩, rfl⟩
        · dsimp only; omega
        · dsimp only; omega
    · exact plOk_kd hp x (by omega) q hq
theorem plOk_row (f : Nat → Int) : ∀ i, ∀ p ∈ rowF f i, PlOk p
  | 0, p, hp => by rw [List.mem_singleton.1 hp]; exact ⟨by decide, by decide⟩
  | i + 1, p, hp => by
    rw [rowF] at hp
    split at hp
    · rename_i q hq
      rcases List.mem_append.1 hp with hp | hp
      · exact plOk_row f i p hp
      · exact (plOk_kd (plOk_row f i q (List.mem_of_getElem? hq)) 64 (Nat.le_refl _) p hp).1
    · exact plOk_row f i p hp
section
variable {f g : Nat → Int} (h : ∀ a, a < 4294967296 → f a = g a)
include h
theorem digK_congr {p : Nat × Nat} (hp : PlOk p) {x : Nat} (hx : x < 64) : digK f p x = digK g p x := by
  have h1 := dig_in (base := p.1) hp.1 hx
  have h2 := hp.2
  have h3 := nsz_pos (p.2 + 1)
  unfold digK
  rw [flat_congr h (by omega), h _ (by omega)]
theorem inB_congr {p : Nat × Nat} (hp : PlOk p) {x : Nat} (hx : x < 64) : inB f p x = inB g p x := by
  unfold inB; rw [digK_congr h hp hx]
theorem lvP_congr {p : Nat × Nat} (hp : PlOk p) : ∀ x, x ≤ 64 → lvP f p x = lvP g p x
  | 0, _ => rfl
  | x + 1, hx => by
    rw [lvP, lvP, lvP_congr hp x (by omega), digK_congr h hp (by omega)]
theorem stB_congr {p : Nat × Nat} (hp : PlOk p) {x : Nat} (hx : x < 64) : stB f p x = stB g p x := by
  unfold stB; rw [digK_congr h hp hx, lvP_congr h hp x (by omega)]
theorem kdP_congr {p : Nat × Nat} (hp : PlOk p) : ∀ x, x ≤ 64 → kdP f p x = kdP g p x
  | 0, _ => rfl
  | x + 1, hx => by
    rw [kdP, kdP, kdP_congr hp x (by omega), inB_congr h hp (by omega)]
theorem row_congr : ∀ i, rowF f i = rowF g i
  | 0 => rfl
  | i + 1 => by
    rw [rowF, rowF, ← row_congr i]
    split
    · rename_i p hp
      rw [kdP_congr h (plOk_row f i p (List.mem_of_getElem? hp)) 64 (Nat.le_refl _)]
    · rfl
theorem lv_congr : ∀ i, lvF f i = lvF g i
  | 0 => rfl
  | i + 1 => by
    rw [lvF, lvF, ← row_congr h i, ← lv_congr i]
    split
    · rename_i p hp
      rw [lvP_congr h (plOk_row f i p (List.mem_of_getElem? hp)) 64 (Nat.le_refl _)]
    · rfl
theorem nds_congr : ∀ i, ndsF f i = ndsF g i
  | 0 => rfl
  | i + 1 => by
    rw [ndsF, ndsF, ← row_congr h i, ← nds_congr i]
    split
    · rename_i p hp
      have hk := plOk_row f i p (List.mem_of_getElem? hp)
      rw [ndF, ndF, ← row_congr h i, ← lv_congr h i, mkW_congr (fun x hx => inB_congr h hk hx), mkW_congr (fun x hx => stB_congr h hk hx)]
    · rfl
theorem isCf_congr {N : List Nd} {L : List Int} (hc : IsCf f N L) : IsCf g N L := by
  obtain ⟨n, h1, h2, h3⟩ := hc.ex
  exact ⟨n, by rw [← row_congr h]; exact h1, by rw [← nds_congr h]; exact h2, by rw [← lv_congr h]; exact h3⟩
end
/-! ### Sizes: what a place may still cost -/
def plW (d : Nat) : Nat := 65 ^ (6 - d)
theorem plW_step {d : Nat} (h : d ≤ 5) : 64 * plW (d + 1) < plW d := by
  have : 65 ^ (6 - d) = 65 ^ (6 - (d + 1)) * 65 := by rw [← Nat.pow_succ]; congr 1; omega
  have h0 : 0 < 65 ^ (6 - (d + 1)) := Nat.pow_pos (by decide)
  unfold plW
  omega
theorem plW_pos (d : Nat) : 0 < plW d := Nat.pow_pos (by decide)
/-- The cost of the places that wait. -/
def plS : List (Nat × Nat) → Nat
  | [] => 0
  | p :: r => plW p.2 + plS r
theorem plS_append : ∀ l m, plS (l ++ m) = plS l + plS m
  | [], m => by simp [plS]
  | p :: r, m => by rw [List.cons_append, plS, plS, plS_append r m, Nat.add_assoc]
theorem plS_kd {f : Nat → Int} {p : Nat × Nat} : ∀ x, plS (kdP f p x) ≤ x * plW (p.2 + 1)
  | 0 => by simp [kdP, plS]
  | x + 1 => by
    have := plS_kd (f := f) (p := p) x
    rw [kdP, Nat.succ_mul]
    split
    · rw [plS_append, plS, plS]; dsimp only; omega
    · omega
theorem plS_ge : ∀ l, l.length ≤ plS l
  | [] => Nat.le_refl _
  | p :: r => by
    have := plS_ge r
    have := plW_pos p.2
    rw [plS, List.length_cons]; omega
/-- The places that wait, with those built: never more than the root's cost. -/
theorem row_cost {f : Nat → Int} : ∀ {n}, n ≤ (rowF f n).length → n + plS ((rowF f n).drop n) ≤ plW 0
  | 0, _ => by simp [rowF, plS]
  | n + 1, hn => by
    obtain ⟨p, hp⟩ := row_lt hn (Nat.lt_succ_self n)
    have h1 : n < (rowF f n).length := (List.getElem?_eq_some_iff.1 hp).1
    have ih := row_cost (f := f) (n := n) (by omega)
    have hk := plOk_row f n p (List.mem_of_getElem? hp)
    have h2 := plS_kd (f := f) (p := p) 64
    have h3 := plW_step hk.1
    rw [row_step hp, List.drop_append_of_le_length (by omega), plS_append]
    have h4 : (rowF f n).drop n = p :: (rowF f n).drop (n + 1) := by
      rw [List.drop_eq_getElem_cons h1]
      congr 1
      exact (List.getElem?_eq_some_iff.1 hp).2
    rw [h4, plS] at ih
    omega
theorem row_len_le {f : Nat → Int} {n : Nat} (hn : n ≤ (rowF f n).length) : (rowF f n).length ≤ plW 0 := by
  have h1 := row_cost hn
  have h2 := plS_ge ((rowF f n).drop n)
  rw [List.length_drop] at h2
  omega
theorem plW_zero : plW 0 = 75418890625 := by decide
theorem lvP_le (f : Nat → Int) (p : Nat × Nat) (x : Nat) : (lvP f p x).length ≤ x := by rw [lvP_len]; exact cntW_le _ _
theorem kdP_le (f : Nat → Int) (p : Nat × Nat) (x : Nat) : (kdP f p x).length ≤ x := by rw [kdP_len]; exact cntW_le _ _
theorem lv_le (f : Nat → Int) : ∀ n, (lvF f n).length ≤ n * 64
  | 0 => Nat.le_refl _
  | n + 1 => by
    have := lv_le f n
    rw [lvF, Nat.succ_mul]
    split
    · rename_i p hp
      have := lvP_le f p 64
      rw [List.length_append]; omega
    · omega
end Go.Proofs.Ytjpnaofoeeegeaa


/-
  Stride tables (layer 8), plain: runs of addresses with one value.
  No conditions beyond those that each lemma states.
-/
namespace Go.Proofs.Ytjpnaofoeeegeaa

abbrev Rn := Nat × Int
/-- Where run i ends. -/
def nxtR (R : List Rn) (i hi : Nat) : Nat := match R[i + 1]? with
  | some s => s.1
  | none => hi
/-- The runs of g below hi. -/
structure Canon (g : Nat → Int) (R : List Rn) (hi : Nat) : Prop where
  srt : R.Pairwise (fun r s => r.1 < s.1)
  lt : ∀ r ∈ R, r.1 < hi
  alt : ∀ i r s, R[i]? = some r → R[i + 1]? = some s → r.2 ≠ s.2
  head : 0 < hi → ∃ v, R[0]? = some (0, v)
  val : ∀ i r a, R[i]? = some r → r.1 ≤ a → a < nxtR R i hi → g a = r.2
theorem Canon.zero (g : Nat → Int) : Canon g [] 0 :=
  ⟨List.Pairwise.nil, (fun _ h => nomatch h), (fun i r s h => by simp at h), (fun h => absurd h (Nat.lt_irrefl 0)), (fun i r a h => by simp at h)⟩
theorem srt_at {R : List Rn} (h : R.Pairwise (fun r s => r.1 < s.1)) {i j : Nat} {r s : Rn} (hi : R[i]? = some r) (hj : R[j]? = some s) (hij : i < j) : r.1 < s.1 := by
  obtain ⟨h1, rfl⟩ := List.getElem?_eq_some_iff.1 hi
  obtain ⟨h2, rfl⟩ := List.getElem?_eq_some_iff.1 hj
  exact List.pairwise_iff_getElem.1 h i j h1 h2 hij
section
variable {g g' : Nat → Int} {R R' : List Rn} {lo hi : Nat} {v : Int}
theorem Canon.nxt (h : Canon g R hi) {i : Nat} {r : Rn} (hr : R[i]? = some r) : r.1 < nxtR R i hi ∧ nxtR R i hi ≤ hi := by
  unfold nxtR
  split
  · rename_i s hs
    exact ⟨srt_at h.srt hr hs (Nat.lt_succ_self i), Nat.le_of_lt (h.lt s (List.mem_of_getElem? hs))⟩
  · exact ⟨h.lt r (List.mem_of_getElem? hr), Nat.le_refl _⟩
theorem Canon.at_ (h : Canon g R hi) {i : Nat} {r : Rn} (hr : R[i]? = some r) : g r.1 = r.2 := h.val i r r.1 hr (Nat.le_refl _) (h.nxt hr).1
/-- extend. -/
def extR (R : List Rn) (lo : Nat) (v : Int) : List Rn := match R.getLast? with
  | some r => if r.2 = v then R else R ++ [(lo, v)]
  | none => R ++ [(lo, v)]
theorem Canon.grow (h : Canon g R lo) (hlt : lo < hi) (hne : R ≠ []) (hg : ∀ a, a < lo → g' a = g a) (hv : ∀ r, R.getLast? = some r → ∀ a, lo ≤ a → a < hi → g' a = r.2) : Canon g' R hi := by
  have h0 : 0 < lo := by
    obtain ⟨r, hr⟩ := List.exists_mem_of_ne_nil R hne
    have := h.lt r hr; omega
  refine ⟨h.srt, fun r hr => Nat.lt_trans (h.lt r hr) hlt, h.alt, fun _ => h.head h0, fun i r a h1 h2 h3 => ?_⟩
  rcases Nat.lt_or_ge a lo with ha | ha
  · rw [hg a ha]
    refine h.val i r a h1 h2 ?_
    unfold nxtR at h3 ⊢
    split
    · rename_i s hs; simp only [hs] at h3; exact h3
    · exact ha
  · unfold nxtR at h3
    split at h3
    · rename_i s hs
      have := h.lt s (List.mem_of_getElem? hs); omega
    · rename_i hn
      refine hv r ?_ a ha h3
      have hl := (List.getElem?_eq_some_iff.1 h1).1
      rw [List.getElem?_eq_none_iff] at hn
      rw [List.getLast?_eq_getElem?, show R.length - 1 = i by omega]; exact h1
theorem Canon.snoc (h : Canon g R lo) (hlt : lo < hi) (hl : ∀ r, R.getLast? = some r → r.2 ≠ v) (hg : ∀ a, a < lo → g' a = g a) (hv : ∀ a, lo ≤ a → a < hi → g' a = v) : Canon g' (R ++ [(lo, v)]) hi := by
  have happ : ∀ i r, (R ++ [(lo, v)])[i]? = some r → (R[i]? = some r ∧ i < R.length) ∨ (i = R.length ∧ r = (lo, v)) := fun i r hr => by
    rcases Nat.lt_or_ge i R.length with h1 | h1
    · rw [List.getElem?_append_left h1] at hr; exact .inl ⟨hr, h1⟩
    · rw [List.getElem?_append_right h1] at hr
      have h2 := (List.getElem?_eq_some_iff.1 hr).1
      have h3 : i - R.length = 0 := by simp at h2; omega
      rw [h3] at hr
      simp at hr
      exact .inr ⟨by omega, hr.symm⟩
  refine ⟨?_, ?_, ?_, ?_, ?_⟩
  · rw [List.pairwise_append]
    exact ⟨h.srt, by simp, fun r hr s hs => by rw [List.mem_singleton.1 hs]; exact h.lt r hr⟩
  · intro r hr
    rcases List.mem_append.1 hr with hr | hr
    · exact Nat.lt_trans (h.lt r hr) hlt
    · rw [List.mem_singleton.1 hr]; exact hlt
  · intro i r s hr hs
    rcases happ _ _ hr with ⟨h1, h1l⟩ | ⟨h1, rfl⟩ <;> rcases happ _ _ hs with ⟨h2, h2l⟩ | ⟨h2, rfl⟩
    · exact h.alt i r s h1 h2
    · refine hl r ?_
      rw [List.getLast?_eq_getElem?, show R.length - 1 = i by omega]; exact h1
    · omega
    · omega
  · intro _
    rcases Nat.eq_zero_or_pos lo with e | e
    · subst e
      have : R = [] := by
        cases hR : R with
        | nil => rfl
        | cons r t => have := h.lt r (by rw [hR]; exact List.mem_cons_self ..); omega
      subst this
      exact ⟨v, rfl⟩
    · obtain ⟨u, hu⟩ := h.head e
      refine ⟨u, ?_⟩
      rw [List.getElem?_append_left (List.getElem?_eq_some_iff.1 hu).1]; exact hu
  · intro i r a hr h2 h3
    rcases happ _ _ hr with ⟨h1, h1l⟩ | ⟨h1, rfl⟩
    · have hn : nxtR (R ++ [(lo, v)]) i hi = nxtR R i lo := by
        unfold nxtR
        rcases Nat.lt_or_ge (i + 1) R.length with h4 | h4
        · rw [List.getElem?_append_left h4]
          rw [List.getElem?_eq_getElem h4]
        · rw [List.getElem?_append_right h4, show i + 1 - R.length = 0 by omega, List.getElem?_eq_none h4]; rfl
      rw [hn] at h3
      have := (h.nxt h1).2
      rw [hg a (by omega)]
      exact h.val i r a h1 h2 h3
    · have hn : nxtR (R ++ [(lo, v)]) i hi = hi := by
        unfold nxtR
        rw [List.getElem?_eq_none (by simp; omega)]
      rw [hn] at h3
      exact hv a h2 h3
theorem Canon.ext (h : Canon g R lo) (hlt : lo < hi) (hg : ∀ a, a < lo → g' a = g a) (hv : ∀ a, lo ≤ a → a < hi → g' a = v) : Canon g' (extR R lo v) hi := by
  unfold extR
  split
  · rename_i r hr
    split
    · rename_i e
      refine h.grow hlt (fun e => by rw [e] at hr; simp at hr) hg (fun s hs a h1 h2 => ?_)
      rw [hr] at hs
      cases hs
      rw [e]; exact hv a h1 h2
    · rename_i e
      exact h.snoc hlt (fun s hs => by rw [hr] at hs; cases hs; exact e) hg hv
  · rename_i hr
    exact h.snoc hlt (fun s hs => by rw [hr] at hs; cases hs) hg hv
/-! ### find -/
def cntR (R : List Rn) (a : Nat) : Nat := (R.filter fun r => decide (r.1 ≤ a)).length
theorem cntR_split {R : List Rn} {a k : Nat} (hk : k ≤ R.length) (h1 : ∀ i r, i < k → R[i]? = some r → r.1 ≤ a) (h2 : ∀ i r, k ≤ i → R[i]? = some r → a < r.1) : cntR R a = k := by
  have e : R = R.take k ++ R.drop k := (List.take_append_drop k R).symm
  unfold cntR
  rw [e, List.filter_append, List.filter_eq_self.2, List.filter_eq_nil_iff.2]
  · simp [hk]
  · intro r hr
    obtain ⟨i, hi⟩ := List.getElem?_of_mem hr
    rw [List.getElem?_drop] at hi
    have := h2 _ r (by omega) hi
    simp; omega
  · intro r hr
    obtain ⟨i, hi⟩ := List.getElem?_of_mem hr
    rw [List.getElem?_take] at hi
    split at hi
    · rename_i hlt
      exact decide_eq_true (h1 i r hlt hi)
    · cases hi
theorem cntR_le (R : List Rn) (a : Nat) : cntR R a ≤ R.length := List.length_filter_le ..
/-- In a sorted list the runs that begin at a or before it are the first ones. -/
theorem cntR_iff {R : List Rn} (hs : R.Pairwise (fun r s => r.1 < s.1)) {a i : Nat} {r : Rn} (hr : R[i]? = some r) : i < cntR R a ↔ r.1 ≤ a := by
  induction R generalizing i with
  | nil => simp at hr
  | cons t l ih =>
    rw [List.pairwise_cons] at hs
    have h0 : t.1 ≤ a ∨ a < t.1 := by omega
    rcases h0 with h0 | h0
    · have e : cntR (t :: l) a = cntR l a + 1 := by unfold cntR; rw [List.filter_cons, if_pos (by simpa using h0)]; rfl
      rw [e]
      cases i with
      | zero => simp at hr; subst hr; omega
      | succ i =>
        simp at hr
        have := ih hs.2 hr
        omega
    · have e : cntR (t :: l) a = 0 := by
        unfold cntR
        rw [List.length_eq_zero_iff, List.filter_eq_nil_iff]
        intro s hs'
        rcases List.mem_cons.1 hs' with rfl | h
        · simp; omega
        · have := hs.1 s h; simp; omega
      rw [e]
      have : a < r.1 := by
        cases i with
        | zero => simp at hr; subst hr; exact h0
        | succ i => simp at hr; have := hs.1 r (List.mem_of_getElem? hr); omega
      omega
theorem Canon.cnt_pos (h : Canon g R hi) (hp : 0 < hi) (a : Nat) : 1 ≤ cntR R a := by
  obtain ⟨v, hv⟩ := h.head hp
  have := (cntR_iff h.srt (a := a) hv).2 (Nat.zero_le _)
  omega
theorem Canon.find (h : Canon g R hi) {a : Nat} (ha : a < hi) : ∃ r, R[cntR R a - 1]? = some r ∧ r.2 = g a ∧ r.1 ≤ a ∧ a < nxtR R (cntR R a - 1) hi := by
  have hp := h.cnt_pos (by omega) a
  have hl := cntR_le R a
  have hr : R[cntR R a - 1]? = some R[cntR R a - 1] := List.getElem?_eq_getElem (by omega)
  have h1 := (cntR_iff h.srt (a := a) hr).1 (by omega)
  have h2 : a < nxtR R (cntR R a - 1) hi := by
    unfold nxtR
    split
    · rename_i s hs
      have := (cntR_iff h.srt (a := a) hs)
      omega
    · exact ha
  exact ⟨_, hr, (h.val _ _ a hr h1 h2).symm, h1, h2⟩
theorem Canon.find_flat (h : Canon g R hi) {lo up : Nat} (hlo : lo < up) (hup : up ≤ hi) : cntR R lo = cntR R (up - 1) ↔ Flat g lo up := by
  obtain ⟨r, hr, hr2, hr1, hrn⟩ := h.find (show lo < hi by omega)
  have hp := h.cnt_pos (by omega) lo
  constructor
  · intro e a h1 h2
    obtain ⟨s, hs, hs2, hs1, hsn⟩ := h.find (show up - 1 < hi by omega)
    rw [← e] at hs hsn
    rw [hr] at hs
    cases hs
    rw [← hr2]
    exact h.val _ r a hr (by omega) (by omega)
  · intro hf
    have hle : cntR R lo ≤ cntR R (up - 1) := by
      rcases Nat.lt_or_ge (cntR R (up - 1)) (cntR R lo) with h1 | h1
      · have := (cntR_iff h.srt (a := up - 1) hr).2 (by omega)
        omega
      · exact h1
    rcases Nat.lt_or_ge (cntR R lo) (cntR R (up - 1)) with h1 | h1
    · exfalso
      obtain ⟨s, hs⟩ : ∃ s, R[cntR R lo]? = some s := ⟨_, List.getElem?_eq_getElem (Nat.lt_of_lt_of_le h1 (cntR_le ..))⟩
      have h2 := (cntR_iff h.srt (a := up - 1) hs).1 h1
      have h3 := (cntR_iff h.srt (a := lo) hs)
      have h4 := h.alt (cntR R lo - 1) r s hr (by rw [show cntR R lo - 1 + 1 = cntR R lo by omega]; exact hs)
      have h5 := h.at_ hs
      have h6 := hf _ (show lo ≤ s.1 by omega) (by omega)
      rw [h5] at h6
      rw [h6] at h4
      exact h4 hr2
    · omega
end
end Go.Proofs.Ytjpnaofoeeegeaa


/-
  Loops over an iterator: the rule for the statement, for a round's body, for the iterator's call of yield; functions that hold such loops (each leaves a mark among the deferred calls).
  No conditions beyond those that each rule states.
-/
namespace Go.Proofs.Ytjpnaofoeeegeaa
open Go.RowKit

/-! ### Book-keeping -/
def mark (D : Nat) : Deferred := { target := .collected D, args := #[] }
/-- The loop's record is block l, the block for the rounds' deferred calls is D. -/
structure Rec (w : World) (l D : Nat) (r : Loop) : Prop where
  lp : w.heap[l]? = some (.loop r)
  dfr : w.heap[D]? = some (.deferred (some []))
/-- Block l, which was a loop's record, has turned; whatever else there was stays. -/
def Turn (l : Nat) (w w' : World) : Prop := (∃ r, w.heap[l]? = some (.loop r)) ∧ Mod (fun c => c = l) w w'
section
variable {w w0 w1 w' : World} {l D b : Nat} {r : Loop} {t : TypeId} {cs : List Value} {S : Nat → Prop}
theorem Rec.ext (h : Rec w l D r) (he : Ext w w') : Rec w' l D r := ⟨he.blk h.lp, he.blk h.dfr⟩
theorem lt_some {o : Obj} {b : Nat} (h : w.heap[b]? = some o) : b < w.heap.size := (Array.getElem?_eq_some_iff.1 h).1
theorem Rec.mod (h : Rec w l D r) (hm : Mod S w w') (h1 : ¬S l) (h2 : ¬S D) : Rec w' l D r :=
  ⟨(hm.other l (lt_some h.lp) h1).trans h.lp, (hm.other D (lt_some h.dfr) h2).trans h.dfr⟩
theorem Rec.ne (h : Rec w l D r) (hB : Blk w b t cs) : l ≠ b ∧ D ≠ b := by
  unfold Blk at hB
  exact ⟨(fun e => by subst e; rw [h.lp] at hB; cases hB), (fun e => by subst e; rw [h.dfr] at hB; cases hB)⟩
theorem Rec.upd {cs' : List Value} (h : Rec w l D r) (hu : Upd w w1 b t cs) (hB : Blk w b t cs') : Rec w1 l D r :=
  ⟨(hu.other l (h.ne hB).1).trans h.lp, (hu.other D (h.ne hB).2).trans h.dfr⟩
theorem own_cells_at {base n0 : Nat} {e : TypeId} {v : Value} {L : List (List Value)} (ho : Own w base e n0 v L) (hb : v.ownBlock = some b) : ∃ cur, w.heap[b]? = some (.cells cur e) := by
  obtain ⟨_, ⟨h1, _⟩ | ⟨g, cap, cur, h1, h2, h3, _⟩⟩ := ho.row
  · subst h1; cases hb
  · subst h1; cases hb; exact ⟨cur, h3⟩
theorem Rec.grow {row : Option Nat} (h : Rec w l D r) (hg : w.grownBy w1 row) (hr : ∀ b, row = some b → ∃ cur t, w.heap[b]? = some (.cells cur t)) : Rec w1 l D r :=
  ⟨(hg.block l (lt_some h.lp) (fun e => by obtain ⟨cur, t, hc⟩ := hr l e.symm; rw [h.lp] at hc; cases hc)).trans h.lp,
   (hg.block D (lt_some h.dfr) (fun e => by obtain ⟨cur, t, hc⟩ := hr D e.symm; rw [h.dfr] at hc; cases hc)).trans h.dfr⟩
theorem Rec.own {base n0 : Nat} {e : TypeId} {v : Value} {L : List (List Value)} (h : Rec w l D r) (ho : Own w base e n0 v L) (hg : w.grownBy w1 v.ownBlock) : Rec w1 l D r :=
  h.grow hg (fun b hb => by obtain ⟨cur, hc⟩ := own_cells_at ho hb; exact ⟨cur, e, hc⟩)
theorem Turn.blk (h : Turn l w w') (hB : Blk w b t cs) : Blk w' b t cs := by
  obtain ⟨⟨r, hr⟩, hm⟩ := h
  exact hm.blk hB (fun e => by subst e; unfold Blk at hB; rw [hr] at hB; cases hB)
theorem Turn.own {base n0 : Nat} {e : TypeId} {v : Value} {L : List (List Value)} (h : Turn l w w') (ho : Own w base e n0 v L) : Own w' base e n0 v L := by
  obtain ⟨⟨r, hr⟩, hm⟩ := h
  exact hm.own ho (fun b hb e => by obtain ⟨cur, hc⟩ := own_cells_at ho hb; rw [e, hr] at hc; cases hc)
theorem Turn.ext (h : Turn l w w') (he : Ext w0 w) (hl : w0.heap.size ≤ l) : Ext w0 w' := h.2.ext_of he (fun c hc => by subst hc; exact hl)
theorem Turn.mod (h : Turn l w w') (hm : Mod S w0 w) (hl : w0.heap.size ≤ l) : Mod S w0 w' := hm.trans' h.2 (fun c hc => .inr (by omega))
theorem Turn.of_putObj {r : Loop} (h : w.heap[l]? = some (.loop r)) (o : Obj) : Turn l w (w.putObj l o) :=
  ⟨⟨r, h⟩, rfl, rfl, rfl, by simp, fun c _ hn => World.putObj_heap_other hn⟩
end

/-! ### Code that leaves marks -/
def liftD (n : Nat) (Q : Exit → List Nat → Env → World → Prop) : Exit → Act → World → Prop := fun e a w => ∃ Ds m w1, Q e Ds m w1 ∧ Agree ⟨n, Ds.map mark, none⟩ m a ∧ Ext w1 w
structure VD (P : Program) (n : Nat) (c : Code) (Q : Exit → List Nat → Env → World → Prop) (Ds : List Nat) (m : Env) (w : World) : Prop where
  out : ∀ a w', Agree ⟨n, Ds.map mark, none⟩ m a → Ext w w' → WpR none P c (liftD n Q) a w'
def thenD (K : List Nat → Env → World → Prop) (Q : Exit → List Nat → Env → World → Prop) : Exit → List Nat → Env → World → Prop
  | .normal, Ds, m, w => K Ds m w
  | e, Ds, m, w => Q e Ds m w
def blockD (id : Nat) (Q : Exit → List Nat → Env → World → Prop) : Exit → List Nat → Env → World → Prop
  | .exit id', Ds, m, w => if id' = id then Q .normal Ds m w else Q (.exit id') Ds m w
  | e, Ds, m, w => Q e Ds m w
section
variable {P : Program} {n : Nat} {Q : Exit → List Nat → Env → World → Prop} {Ds : List Nat} {m : Env} {w : World}
theorem VD_of {c : Code} (h : V P ⟨n, Ds.map mark, none⟩ c (fun e m w => Q e Ds m w) m w) : VD P n c Q Ds m w :=
  ⟨fun a w' ha hw => wpR_mono (fun _ _ _ ⟨m1, w1, q, ag, ex⟩ => ⟨Ds, m1, w1, q, ag, ex⟩) (h.out a w' ha hw)⟩
theorem VD_sub {c : Code} {m1 : Env} (hs : Sub m1 m) (h : VD P n c Q Ds m1 w) : VD P n c Q Ds m w := ⟨fun a w' ha hw => h.out a w' (ha.sub hs) hw⟩
theorem VD_seq {x y : Code} (h : V P ⟨n, Ds.map mark, none⟩ x (thenV (fun m w => VD P n y Q Ds m w) (fun e m w => Q e Ds m w)) m w) : VD P n (.seq x y) Q Ds m w :=
  ⟨fun a w' ha hw => wpIn_seq (wpR_mono (fun e a1 w1 hl => by
    obtain ⟨m1, w2, q, ag, ex⟩ := hl
    cases e with
    | normal => exact q.out a1 w1 ag ex
    | _ => exact ⟨Ds, m1, w2, q, ag, ex⟩) (h.out a w' ha hw))⟩
theorem VD_seqD {x y : Code} (h : VD P n x (thenD (fun Ds m w => VD P n y Q Ds m w) Q) Ds m w) : VD P n (.seq x y) Q Ds m w :=
  ⟨fun a w' ha hw => wpIn_seq (wpR_mono (fun e a1 w1 hl => by
    obtain ⟨Ds1, m1, w2, q, ag, ex⟩ := hl
    cases e with
    | normal => exact q.out a1 w1 ag ex
    | _ => exact ⟨Ds1, m1, w2, q, ag, ex⟩) (h.out a w' ha hw))⟩
theorem VD_block {id : Nat} {c : Code} (h : VD P n c (blockD id Q) Ds m w) : VD P n (.block id c) Q Ds m w :=
  ⟨fun a w' ha hw => wpIn_block (wpR_mono (fun e a1 w1 hl => by
    obtain ⟨Ds1, m1, w2, q, ag, ex⟩ := hl
    cases e with
    | exit id' =>
      by_cases e : id' = id
      · subst e; simp only [blockD, if_true] at q; simp only [Exit.inBlock, if_true]; exact ⟨Ds1, m1, w2, q, ag, ex⟩
      · simp only [blockD, e, if_false] at q; simp only [Exit.inBlock, e, if_false]; exact ⟨Ds1, m1, w2, q, ag, ex⟩
    | _ => exact ⟨Ds1, m1, w2, q, ag, ex⟩) (h.out a w' ha hw))⟩
theorem VD_loop {c : Code} {σ : Type} (e : σ → Env) (I : σ → List Nat → World → Prop) (μ : σ → Nat) (s0 : σ) (hs : Sub (e s0) m) (h0 : I s0 Ds w)
    (round : ∀ s Ds w, I s Ds w → VD P n c (thenD (fun Ds' m' w' => ∃ s', Sub (e s') m' ∧ I s' Ds' w' ∧ μ s' < μ s) Q) Ds (e s) w) : VD P n (.loop c) Q Ds m w := by
  refine ⟨fun a w' ha hw => ?_⟩
  refine wpIn_loop_ghost (fun k a1 w1 => ∃ s Ds w0, μ s = k ∧ Agree ⟨n, Ds.map mark, none⟩ (e s) a1 ∧ I s Ds w0 ∧ Ext w0 w1) (μ s0) ⟨s0, Ds, w, rfl, ha.sub hs, h0, hw⟩ ?_
  rintro k a1 w1 ⟨s, Ds1, w0, rfl, ag, hI, hE⟩
  refine wpR_mono (fun ex a2 w2 hl => ?_) ((round s Ds1 w0 hI).out a1 w1 ag hE)
  obtain ⟨Ds2, m2, w3, q, ag2, ex2⟩ := hl
  cases ex with
  | normal =>
    obtain ⟨s', hs', hI', hμ⟩ := q
    exact ⟨μ s', hμ, s', Ds2, w3, rfl, ag2.sub hs', hI', ex2⟩
  | _ => exact ⟨Ds2, m2, w3, q, ag2, ex2⟩
theorem thenD_normal {K : List Nat → Env → World → Prop} (h : K Ds m w) : thenD K Q .normal Ds m w := h
theorem thenD_exit {K : List Nat → Env → World → Prop} {id : Nat} (h : Q (.exit id) Ds m w) : thenD K Q (.exit id) Ds m w := h
theorem blockD_normal {id : Nat} (h : Q .normal Ds m w) : blockD id Q .normal Ds m w := h
theorem blockD_hit {id : Nat} (h : Q .normal Ds m w) : blockD id Q (.exit id) Ds m w := by simp only [blockD, if_true]; exact h
/-- The marks' blocks are as they were laid, and differ. -/
structure Marks (Ds : List Nat) (w : World) : Prop where
  nodup : Ds.Nodup
  at_ : ∀ D ∈ Ds, w.heap[D]? = some (.deferred (some []))
theorem Marks.nil : Marks [] w := ⟨List.nodup_nil, fun _ h => nomatch h⟩
theorem Marks.ext {w' : World} (h : Marks Ds w) (he : Ext w w') : Marks Ds w' := ⟨h.nodup, fun D hD => he.blk (h.at_ D hD)⟩
theorem Marks.mod {S : Nat → Prop} {w' : World} (h : Marks Ds w) (hm : Mod S w w') (hs : ∀ D ∈ Ds, ¬S D) : Marks Ds w' :=
  ⟨h.nodup, fun D hD => (hm.other D (lt_some (h.at_ D hD)) (hs D hD)).trans (h.at_ D hD)⟩
theorem Marks.upd {w1 : World} {b : Nat} {t : TypeId} {cs cs' : List Value} (h : Marks Ds w) (hu : Upd w w1 b t cs) (hB : Blk w b t cs') : Marks Ds w1 :=
  ⟨h.nodup, fun D hD => (hu.other D (fun e => by subst e; unfold Blk at hB; rw [h.at_ D hD] at hB; cases hB)).trans (h.at_ D hD)⟩
theorem Marks.grow {w1 : World} {row : Option Nat} (h : Marks Ds w) (hg : w.grownBy w1 row) (hr : ∀ b, row = some b → ∃ cur t, w.heap[b]? = some (.cells cur t)) : Marks Ds w1 :=
  ⟨h.nodup, fun D hD => (hg.block D (lt_some (h.at_ D hD)) (fun e => by obtain ⟨cur, t, hc⟩ := hr D e.symm; rw [h.at_ D hD] at hc; cases hc)).trans (h.at_ D hD)⟩
theorem Marks.own {w1 : World} {base n0 : Nat} {e : TypeId} {v : Value} {L : List (List Value)} (h : Marks Ds w) (ho : Own w base e n0 v L) (hg : w.grownBy w1 v.ownBlock) : Marks Ds w1 :=
  h.grow hg (fun b hb => by obtain ⟨cur, hc⟩ := own_cells_at ho hb; exact ⟨cur, e, hc⟩)
theorem Marks.turn {w1 : World} {l : Nat} (h : Marks Ds w) (ht : Turn l w w1) : Marks Ds w1 := by
  obtain ⟨⟨r, hr⟩, hm⟩ := ht
  exact h.mod hm (fun D hD e => by subst e; have := h.at_ D hD; rw [hr] at this; cases this)
theorem Marks.cons {D : Nat} (h : Marks Ds w) (hD : w.heap[D]? = some (.deferred (some []))) (hn : D ∉ Ds) : Marks (D :: Ds) w :=
  ⟨List.nodup_cons.2 ⟨hn, h.nodup⟩, fun E hE => by
    rcases List.mem_cons.1 hE with rfl | hE
    · exact hD
    · exact h.at_ E hE⟩

/-- Leaving: the marks are spent. -/
theorem leaves_marks {fn : Func} {tmps : Array Value} {R : Ending → World → Prop} : ∀ (Ds : List Nat) (w : World), Marks Ds w →
    (∀ w', Mod (fun c => c ∈ Ds) w w' → ∃ v, (results fn tmps).run P w' = .ok v w' ∧ R (.returned v) w') → LeavesInM (fenceR none) 0 P fn tmps R (Ds.map mark) .returning w
  | [], w, _, h => h w (Mod.of_ext (Ext.refl w))
  | D :: Ds, w, hM, h => by
    refine ⟨by simp, .inl ⟨D, _, rfl, run_takeDeferred (hM.at_ D (List.mem_cons_self ..)), ?_⟩⟩
    have hlt := lt_some (hM.at_ D (List.mem_cons_self ..))
    have hm : Mod (fun c => c ∈ D :: Ds) w (w.putObj D (.deferred none)) := ⟨rfl, rfl, rfl, by simp, fun c _ hn => World.putObj_heap_other (fun e => hn (by rw [e]; exact List.mem_cons_self ..))⟩
    refine leaves_marks Ds _ ⟨(List.nodup_cons.1 hM.nodup).2, fun E hE => ?_⟩ (fun w' hw' => h w' (hm.trans (hw'.mono (fun c hc => List.mem_cons_of_mem _ hc))))
    rw [World.putObj_heap_other (fun e => (List.nodup_cons.1 hM.nodup).1 (by rw [← e]; exact hE))]
    exact hM.at_ E (List.mem_cons_of_mem _ hE)
def retD (P : Program) (fn : Func) (n : Nat) (R : Ending → World → Prop) : Exit → List Nat → Env → World → Prop
  | .normal, Ds, m, w | .ret, Ds, m, w => Marks Ds w ∧ ∀ w', Mod (fun c => c ∈ Ds) w w' → ∃ v, (∀ a, Agree ⟨n, Ds.map mark, none⟩ m a → (results fn a.tmps).run P w' = .ok v w') ∧ R (.returned v) w'
  | _, _, _, _ => False
theorem VD_enter {f : FuncId} {fn : Func} {c : Code} {vs : List Value} {R : Ending → World → Prop} (hf : P.funcs[f]? = some fn) (hb : fn.body = some c) (hn : fn.ntmps = n) (hl : vs.length ≤ n)
    (h : VD P n c (retD P fn n R) [] (paramsFrom 0 vs) w) : Calls P f vs.toArray w R := by
  refine callsR_iff.1 (callsIn_of_wp_marks (F := fenceR none) (n := 0) hf hb trivial (wpR_mono (ro := none) (fun e a w' hq => ?_) (h.out _ w ⟨rfl, by simp [hn]; omega, fun i v hi => ?_⟩ (Ext.refl _))))
  · obtain ⟨Ds, m1, w1, q, ag, ex⟩ := hq
    have hd : a.defers = Ds.map mark := ag.defers
    have fin : (Marks Ds w1 ∧ ∀ w', Mod (fun c => c ∈ Ds) w1 w' → ∃ v, (∀ a, Agree ⟨n, Ds.map mark, none⟩ m1 a → (results fn a.tmps).run P w' = .ok v w') ∧ R (.returned v) w') → LeavesInM (fenceR none) 0 P fn a.tmps R a.defers .returning w' := fun ⟨h1, h2⟩ => by
      rw [hd]
      exact leaves_marks Ds w' (h1.ext ex) (fun w2 hw2 => by
        obtain ⟨v, h3, h4⟩ := h2 w2 ((Mod.of_ext ex).trans hw2)
        exact ⟨v, h3 a ag, h4⟩)
    cases e with
    | normal => exact fin q
    | ret => exact fin q
    | _ => exact q.elim
  · obtain ⟨_, h2⟩ := look_params vs 0 i v hi
    simp only [Nat.sub_zero] at h2
    have hlt : i < vs.length := by
      rcases Nat.lt_or_ge i vs.length with h3 | h3
      · exact h3
      · rw [List.getElem?_eq_none h3] at h2; cases h2
    rw [Array.getElem?_append_left (by simpa using hlt)]
    simpa using h2
end

/-! ### A round, out of the walk of its body -/
/-- How a round's body is left: off its end (I), or by a return of the function around it (Ix). -/
def roundV (l D : Nat) (r : Loop) (I Ix : World → Prop) : Exit → Env → World → Prop
  | .normal, _, w => Rec w l D r ∧ I w
  | .ret, _, w => Rec w l D r ∧ Ix w
  | _, _, _ => False
/-- What the iterator is told of a round. -/
def Rounds (K : Nat) (J : Nat → World → Prop) (Jx : World → Prop) (k : Nat) (e : Ending) (w' : World) : Prop := (e = .returned (.bool true) ∧ k < K ∧ J (k + 1) w') ∨ (e = .returned (.bool false) ∧ Jx w')
/-- An iterator that gives K elements: whatever invariant its caller keeps. -/
def Iter (P : Program) (gf : Nat) (lb : Array Value) (K : Nat) (vs : Nat → List Value) (B : World → Prop) : Prop :=
  ∀ (l : Nat) (J : Nat → World → Prop) (Jx : World → Prop) (W : World), (∀ k w w', J k w → Ext w w' → J k w') → (∀ w w', Jx w → Ext w w' → Jx w') → (∀ k w, J k w → B w) →
    (∀ k w, k < K → J k w → YieldAt (fenceR none) 0 P l (vs k).toArray w (Rounds K J Jx k)) → J 0 W →
    CallsIn (fenceR none) 0 P gf (#[.func (.yield l) #[] #[]] ++ lb) W (fun e w' => (∃ v, e = .returned v) ∧ (J K w' ∨ Jx w'))
/-- Slots filled, in order. -/
def fillP : List Tmp → List Value → Env → Env
  | p :: ps, v :: vs, m => fillP ps vs ((p, v) :: m)
  | _, _, m => m
theorem agree_fill {n : Nat} {ds : List Deferred} {ro : Option Nat} : ∀ (ps : List Tmp) (vs : List Value) (m : Env) (a : Act), Agree ⟨n, ds, ro⟩ m a → (∀ p ∈ ps, p < n) →
    Agree ⟨n, ds, ro⟩ (fillP ps vs m) { tmps := (ps.zip vs).foldl (fun t (p, v) => t.setIfInBounds p v) a.tmps, defers := a.defers }
  | [], _, _, _, h, _ => h
  | p :: ps, [], _, _, h, _ => h
  | p :: ps, v :: vs, m, a, h, hp => by
    have h1 : Agree ⟨n, ds, ro⟩ ((p, v) :: m) (a.put (some p) v) := h.put (hp p (List.mem_cons_self ..)) v
    exact agree_fill ps vs ((p, v) :: m) (a.put (some p) v) h1 (fun q hq => hp q (List.mem_cons_of_mem _ hq))

section
variable {P : Program} {n : Nat} {Q : Exit → List Nat → Env → World → Prop} {Ds : List Nat} {m : Env} {w : World}
/-- **The statement.** I k: what holds when k rounds are over; Ix: when a round has returned; s: what the assignment to the loop's variables has left (its slots e s, A k s of the world). -/
theorem VD_range {g : Operand} {ps : List Tmp} {assign body : Code} {gf : Nat} {lb : Array Value} {K : Nat} {vs : Nat → List Value} {B : World → Prop} {σ : Type}
    (hg : ev m g = some (.func (.func gf) #[] lb)) (eg : ∀ args w, (callFunc gf args).run P w = .ok (.enter gf args) w) (hit : Iter P gf lb K vs B)
    (hps : ∀ k, (vs k).length = ps.length) (hpn : ps.all (fun p => Nat.ble (p + 1) n) = true)
    (I : Nat → World → Prop) (Ix : World → Prop) (e : σ → Env) (A : Nat → σ → World → Prop)
    (hIe : ∀ k w1 w2, I k w1 → Ext w1 w2 → I k w2) (hIxe : ∀ w1 w2, Ix w1 → Ext w1 w2 → Ix w2) (hAe : ∀ k s w1 w2, A k s w1 → Ext w1 w2 → A k s w2)
    (hIt : ∀ l k w1 w2, w.heap.size ≤ l → I k w1 → Turn l w1 w2 → I k w2) (hIxt : ∀ l w1 w2, w.heap.size ≤ l → Ix w1 → Turn l w1 w2 → Ix w2) (hAt : ∀ l k s w1 w2, w.heap.size ≤ l → A k s w1 → Turn l w1 w2 → A k s w2)
    (hB : ∀ k w1, I k w1 → B w1) (h0 : I 0 w)
    (hassign : ∀ l D r k w1, k < K → w.heap.size ≤ l → I k w1 → Rec w1 l D r → V P ⟨n, [], some l⟩ assign (fun ex m2 w2 => ex = .normal ∧ Rec w2 l D r ∧ ∃ s, Sub (e s) m2 ∧ A k s w2) (fillP ps (vs k) m) w1)
    (hbody : ∀ l D r k s w1, k < K → w.heap.size ≤ l → A k s w1 → Rec w1 l D r → V P ⟨n, [], some l⟩ body (roundV l D r (I (k + 1)) Ix) (e s) w1)
    (hdone : ∀ D w1, w.heap.size ≤ D → I K w1 → w1.heap[D]? = some (.deferred (some [])) → Q .normal (D :: Ds) m w1)
    (hstop : ∀ D w1, w.heap.size ≤ D → Ix w1 → w1.heap[D]? = some (.deferred (some [])) → Q .ret (D :: Ds) m w1) :
    VD P n (.rangeFunc g ps.toArray assign body) Q Ds m w := by
  refine ⟨fun a w0 ha hw => ?_⟩
  have hle := hw.size
  refine wpIn_rangeFunc ?_
  intro fn hfn
  obtain ⟨rec, hrec⟩ : ∃ rec : LoopState → Option Code → Loop, rec = fun st pe => { state := st, pending := pe, fn, tmps := a.tmps, params := ps.toArray, assign, body, defers := w0.heap.size } := ⟨_, rfl⟩
  obtain ⟨W1, hW1⟩ : ∃ W1, (w0.alloc (.deferred (some []))).alloc (.loop (rec .ready none)) = W1 := ⟨_, rfl⟩
  have hx1 : Ext w0 W1 := by rw [← hW1]; exact ((Ext.refl w0).alloc _).alloc _
  have hL1 : W1.heap[w0.heap.size + 1]? = some (.loop (rec .ready none)) := by
    rw [← hW1]; have := alloc_heap (w0.alloc (.deferred (some []))) (.loop (rec .ready none)); rwa [alloc_size] at this
  have hK1 : W1.heap[w0.heap.size]? = some (.deferred (some [])) := by
    rw [← hW1]; exact ((Ext.refl (w0.alloc (.deferred (some [])))).alloc _).blk (alloc_heap w0 _)
  have hI1 : I 0 W1 := hIe 0 w W1 h0 (hw.trans hx1)
  have hll : w.heap.size ≤ w0.heap.size + 1 := by omega
  refine ⟨w0.heap.size + 1, [mark w0.heap.size], W1, { target := .fn (.func gf) lb, args := #[.func (.yield (w0.heap.size + 1)) #[] #[]] }, W1, gf,
    #[.func (.yield (w0.heap.size + 1)) #[] #[]] ++ lb, W1, ?_, ?_, fun _ _ => trivial, ?_, (fun h => by cases h), ?_⟩
  · rw [← hW1, hrec]; exact run_enterLoop_outer _ _ _ _ _
  · simp only [resolve, ha.ev hg]
    simp [go_sem]
  · simp [invoke, go_sem, eg]
  · have key := hit (w0.heap.size + 1) (fun k W => I k W ∧ Rec W (w0.heap.size + 1) w0.heap.size (rec .ready none)) (fun W => Ix W ∧ Rec W (w0.heap.size + 1) w0.heap.size (rec .done (some .ret))) W1
      (fun k w1 w2 h he => ⟨hIe k w1 w2 h.1 he, h.2.ext he⟩) (fun w1 w2 h he => ⟨hIxe w1 w2 h.1 he, h.2.ext he⟩) (fun k w1 h => hB k w1 h.1) ?_ ⟨hI1, hL1, hK1⟩
    · refine CallsIn.mono key ?_
      rintro ex W2 ⟨⟨v, rfl⟩, ⟨hi, hr⟩ | ⟨hi, hr⟩⟩
      · have hpl := run_endLoop (P := P) hr.lp (by rw [hrec]; simp)
        have ht := Turn.of_putObj hr.lp (.loop { rec .ready none with state := .exhausted })
        refine ⟨none, _, by rw [hrec] at hpl ⊢; exact hpl, w0.heap.size :: Ds, m, _, hdone w0.heap.size _ hle (hIt _ _ _ _ hll hi ht) ?_, ⟨?_, ha.size, ha.slot⟩, Ext.refl _⟩
        · rw [World.putObj_heap_other (by omega)]; exact hr.dfr
        · show [mark w0.heap.size] ++ a.defers = _
          rw [ha.defers]; rfl
      · have hpl := run_endLoop (P := P) hr.lp (by rw [hrec]; simp)
        have ht := Turn.of_putObj hr.lp (.loop { rec .done (some .ret) with state := .exhausted })
        refine ⟨some .ret, _, by rw [hrec] at hpl ⊢; exact hpl, wpIn_ret ⟨w0.heap.size :: Ds, m, _, hstop w0.heap.size _ hle (hIxt _ _ _ hll hi ht) ?_, ⟨?_, ha.size, ha.slot⟩, Ext.refl _⟩⟩
        · rw [World.putObj_heap_other (by omega)]; exact hr.dfr
        · show [mark w0.heap.size] ++ a.defers = _
          rw [ha.defers]; rfl
    · -- one round
      rintro k W hk ⟨hi, hr⟩
      have hy := run_yield (P := P) (args := (vs k).toArray) hr.lp (by rw [hrec]; simp [hps k])
      refine ⟨fn, (ps.zip (vs k)).foldl (fun t (p, v) => t.setIfInBounds p v) a.tmps, assign, body, ?_, roundIn_of_wpIn (F := fenceR none) trivial ?_⟩
      · rw [hrec] at hy
        rw [hy]
        simp
      have ag0 : Agree ⟨n, [], some (w0.heap.size + 1)⟩ (fillP ps (vs k) m) { tmps := (ps.zip (vs k)).foldl (fun t (p, v) => t.setIfInBounds p v) a.tmps, defers := [] } :=
        agree_fill (a := { tmps := a.tmps, defers := [] }) ps (vs k) m ⟨rfl, ha.size, ha.slot⟩ (fun p hp => Nat.le_of_ble_eq_true (List.all_eq_true.1 hpn p hp))
      refine wpIn_mono ((hassign _ _ _ k W hk hll hi hr).out _ W ag0 (Ext.refl W)) ?_
      rintro ex a1 w1 ⟨m1, w1', ⟨rfl, hr1, s, hs, hA⟩, ag1, hx⟩
      replace hr1 := hr1.ext hx
      replace hA := hAe _ _ _ _ hA hx
      have ht1 := Turn.of_putObj hr1.lp (.loop { rec .ready none with state := .busy })
      refine ⟨_, run_beginRound hr1.lp (by rw [hrec]), ?_⟩
      have hr2 : Rec (w1.putObj (w0.heap.size + 1) (.loop { rec .ready none with state := .busy })) (w0.heap.size + 1) w0.heap.size { rec .ready none with state := .busy } :=
        ⟨World.putObj_heap_same (lt_some hr1.lp), by rw [World.putObj_heap_other (by omega)]; exact hr1.dfr⟩
      refine wpIn_mono ((hbody _ _ _ k s _ hk hll (hAt _ _ _ _ _ hll hA ht1) hr2).out a1 _ (ag1.sub hs) (Ext.refl _)) ?_
      rintro ex a2 w2 ⟨m2, w2', hq, ag2, hx2⟩
      have fin : ∀ (jump : Option Code), Rec w2' (w0.heap.size + 1) w0.heap.size { rec .ready none with state := .busy } →
          (Instr.endRound (w0.heap.size + 1) jump).run P w2 = .ok (.bool jump.isNone) (w2.putObj (w0.heap.size + 1) (.loop (rec (if jump.isNone then .ready else .done) jump))) ∧
          Turn (w0.heap.size + 1) w2 (w2.putObj (w0.heap.size + 1) (.loop (rec (if jump.isNone then .ready else .done) jump))) ∧
          Rec (w2.putObj (w0.heap.size + 1) (.loop (rec (if jump.isNone then .ready else .done) jump))) (w0.heap.size + 1) w0.heap.size (rec (if jump.isNone then .ready else .done) jump) := fun jump hr3 => by
        have hr4 := hr3.ext hx2
        have h1 := run_endRound (P := P) jump hr4.lp
        rw [hrec] at h1 hr4 ⊢
        exact ⟨h1, Turn.of_putObj hr4.lp _, World.putObj_heap_same (lt_some hr4.lp), by rw [World.putObj_heap_other (by omega)]; exact hr4.dfr⟩
      cases ex with
      | normal =>
        obtain ⟨hr3, hi3⟩ := hq
        obtain ⟨h1, h2, h3⟩ := fin none hr3
        exact ⟨_, _, h1, .inl ⟨rfl, hk, hIt _ _ _ _ hll (hIe _ _ _ hi3 hx2) h2, h3⟩⟩
      | ret =>
        obtain ⟨hr3, hi3⟩ := hq
        obtain ⟨h1, h2, h3⟩ := fin (some .ret) hr3
        exact ⟨_, _, h1, .inr ⟨rfl, hIxt _ _ _ hll (hIxe _ _ hi3 hx2) h2, h3⟩⟩
      | _ => exact hq.elim
end

/-! ### The iterator's call of yield -/
section
variable {P : Program} {N : Fr} {Q : Exit → Env → World → Prop} {m : Env} {w : World}
theorem listIn_app {F : Fence} {n : Nat} {ops : Array Oper} {Q1 Q2 : Exit → Act → World → Prop} : ∀ (l1 l2 : List Oper) (a : Act) (w : World), wpListIn F n P ops (fun e a w => e = .normal ∧ Q1 .normal a w) l1 a w →
    (∀ a w, Q1 .normal a w → wpListIn F n P ops Q2 l2 a w) → wpListIn F n P ops Q2 (l1 ++ l2) a w
  | [], l2, a, w, h, k => k a w h.2
  | o :: r, l2, a, w, h, k => by
    rw [List.cons_append]
    unfold wpListIn at h ⊢
    split
    · rename_i hw
      rw [if_pos hw] at h
      obtain ⟨h1, h2⟩ := h
      refine ⟨h1, ?_⟩
      generalize (o.semAt F.round a.eval).run P w = res at *
      cases res with
      | ok x w' =>
        cases x <;> simp only [Oper.uponIn] at h2 ⊢
        case value => exact listIn_app r l2 _ _ h2 k
        case skip => exact listIn_app r l2 _ _ h2 k
        case defer => exact listIn_app r l2 _ _ h2 k
        case enter f args =>
          exact ⟨h2.1, h2.2.mono (fun e w'' he => by
            cases e with
            | returned v => exact listIn_app r l2 _ _ he k
            | panicked c => exact absurd he.1 (by simp)
            | outgrown => obtain ⟨_, _, he, _⟩ := he; cases he)⟩
        case row => exact ⟨h2.1, h2.2.mono (fun _ _ he => listIn_app r l2 _ _ he k)⟩
        case round =>
          exact ⟨h2.1, h2.2.mono (fun e w'' he => by
            cases e with
            | returned v => exact listIn_app r l2 _ _ he k
            | panicked c => exact absurd he.1 (by simp)
            | outgrown => obtain ⟨_, _, he, _⟩ := he; cases he)⟩
      | halt x w' => cases x <;> simp only [Oper.uponIn] at h2 ⊢ <;> first | exact absurd h2.1 (by simp) | exact h2
    · rename_i hw
      rw [if_neg hw] at h
      exact ⟨h.1, listIn_app r l2 _ _ h.2 k⟩
/-- A row of operations, the n-th of which calls yield; the first n are of the text's order. -/
theorem V_yield (n0 : Nat) {id : Nat} {l : List Oper} {dst : Nat} {t : Operand} {xs : Array Operand} {ats : Array TypeId} {ty : TypeId} {pos : String} {after : Array Edge} {ly : Nat} {vs : List Value} {R : Ending → World → Prop}
    (hl : l = l.take n0 ++ ⟨some dst, .call { callee := .value t, args := xs, argTypes := ats }, ty, pos, after, none⟩ :: l.drop (n0 + 1)) (hd : Nat.ble (dst + 1) N.n = true)
    (h : Ops P N l.toArray false (fun m1 w1 => ev m1 t = some (.func (.yield ly) #[] #[]) ∧ evs m1 xs.toList = some vs ∧ (∀ w2, Ext w1 w2 → YieldAt (fenceR none) 0 P ly vs.toArray w2 R) ∧
      (∀ e w2, R e w2 → ∃ v, e = .returned v ∧ Ops P N l.toArray false (fun m w => Q .normal m w) (l.drop (n0 + 1)) ((dst, v) :: m1) w2)) (l.take n0) m w)
    (hnd : NoDef N.ro l := by first | exact .inl rfl | exact .inr (by kernel_rfl)) : V P N (.region id l.toArray false) Q m w := by
  refine ⟨fun a w' ha hw => wpR_mono (Q := fun e a w => e = .normal ∧ lift N Q .normal a w) (fun e a w ⟨h1, h2⟩ => by rw [h1]; exact h2) ?_⟩
  refine wpIn_region_lit ?_
  have h1 : NoDef N.ro (l.take n0) := by
    rcases hnd with h | h
    · exact .inl h
    · exact .inr (List.all_eq_true.2 fun o ho => List.all_eq_true.1 h o (List.mem_of_mem_take ho))
  have h2 := listR (ops := l.toArray) noLet _ _ _ h1 (h.out a w' ha hw)
  generalize hL : l.toArray = A at *
  rw [hl]
  refine listIn_app (Q1 := fun _ a' w'' => ∃ m' w1, (ev m' t = some (.func (.yield ly) #[] #[]) ∧ evs m' xs.toList = some vs ∧ (∀ w2, Ext w1 w2 → YieldAt (fenceR none) 0 P ly vs.toArray w2 R) ∧
      (∀ e w2, R e w2 → ∃ v, e = .returned v ∧ Ops P N A false (fun m w => Q .normal m w) (l.drop (n0 + 1)) ((dst, v) :: m') w2)) ∧ Agree N m' a' ∧ Ext w1 w'') _ _ _ _ h2 ?_
  rintro a1 w1 ⟨m1, w0, ⟨ht, hx, hy, hk⟩, ag, ex⟩
  unfold wpListIn
  rw [if_pos (show Region.wanted _ _ = true from rfl)]
  refine ⟨fun _ _ => trivial, ?_⟩
  obtain ⟨fn, tmps, assign, body, hy1, hy2⟩ := hy w1 ex
  have e1 : xs.map a1.eval = vs.toArray := map_evs ag hx
  have hr : (execOp a1.eval ⟨some dst, .call { callee := .value t, args := xs, argTypes := ats }, ty, pos, after, none⟩).run P w1 = .ok (.round ly fn tmps assign body) w1 := by
    simp only [execOp, resolve, e1, ag.ev ht, Deferred.ofValue, invoke]
    simpa using hy1
  rw [show (fenceR N.ro).round = N.ro from rfl, Oper.semAt_eq _ _ _ (by simp), hr, Oper.uponIn_round]
  refine ⟨(fun h => by cases h), ?_⟩
  have hy3 : RoundIn (fenceR N.ro) 0 P ly fn tmps assign body w1 R := hy2
  refine hy3.mono (fun e w2 hR => ?_)
  obtain ⟨v, rfl, hO⟩ := hk e w2 hR
  have ho := hO.out (a1.put (some dst) v) w2 (ag.put (Nat.le_of_ble_eq_true hd) v) (Ext.refl _)
  have h3 := listR (ro := N.ro) (ops := A) noLet _ _ _ (hnd.drop _) ho
  have key : ∀ (l' : List Oper) (a : Act) (w0 : World), wpListIn (fenceR N.ro) 0 P A (fun e a' w'' => e = .normal ∧ ∃ m' w1, Q .normal m' w1 ∧ Agree N m' a' ∧ Ext w1 w'') l' a w0 → wpListIn (fenceR N.ro) 0 P A (fun e a w => e = .normal ∧ lift N Q .normal a w) l' a w0 := fun _ _ _ h => h
  exact key _ _ _ h3
end
end Go.Proofs.Ytjpnaofoeeegeaa


/-
  Stride tables (layer 8): extend, find, size, and the iterator over a block's digits.
  Conditions: lists of runs are sorted and begin below 2^32.
-/
namespace Go.Proofs.Ytjpnaofoeeegeaa
open Go.RowKit

def rnC (r : Rn) : List Value := [.int .u64 r.1, .int .i64 r.2]
def Rns (w : World) (ao : Option Addr) (R : List Rn) : Prop := Arr w 2 ao (R.map rnC)
theorem Rns.ext {w w' : World} {ao : Option Addr} {R : List Rn} (h : Rns w ao R) (he : Ext w w') : Rns w' ao R := Arr.ext h he
theorem Rns.at {w : World} {ao : Option Addr} {R : List Rn} (h : Rns w ao R) {k : Nat} {x : Rn} (hk : R[k]? = some x) : ∃ ad, ao = some ad ∧ Cells w (ad.add (k * 2)) [.int .u64 x.1, .int .i64 x.2] := h k (rnC x) (by rw [List.getElem?_map, hk]; rfl)
/-- What extend leaves. -/
def ExtR (base : Nat) (R : List Rn) (v : Value) (w0 : World) (r : Value) (w' : World) : Prop :=
  Own w' base 94 2 r (R.map rnC) ∧ ∀ c, r.ownBlock = some c → v.ownBlock = some c ∨ w0.heap.size ≤ c
set_option maxHeartbeats 1000000 in
theorem extend_v {base : Nat} {v : Value} (R : List Rn) (first : Nat) (value : Int) (w : World) (hO : Own w base 94 2 v (R.map rnC)) (hb : base ≤ w.heap.size) (hn : R.length ≤ 4294967296) :
    Calls Try.prog 78 #[v, .int .u64 first, .int .i64 value] w (Does (fun c => v.ownBlock = some c) (ExtR base (extR R first value) v w) w) := by
  have happ : ∀ (w1 : World), Ext w w1 → (extR R first value = R ++ [((first : Nat), value)]) → ∀ (v' : Value) (w2 : World), Own w2 base 94 2 v' (R.map rnC ++ [rnC (first, value)]) → ((∃ b, v'.ownBlock = some b ∧ w1.heap.size ≤ b) ∨ v'.ownBlock = v.ownBlock) → ∀ w3, Ext w2 w3 → ExtR base (extR R first value) v w v' w3 := fun w1 x1 e v' w2 o2 hd w3 x3 => by
    refine ⟨?_, fun c hc => ?_⟩
    · rw [e, List.map_append]; exact o2.ext x3
    · rcases hd with ⟨b, h1, h2⟩ | h
      · rw [h1] at hc; cases hc; exact .inr (Nat.le_trans x1.size h2)
      · rw [← h]; exact .inl hc
  obtain ⟨ao, c, rfl, hA⟩ := hO.slice
  rw [List.length_map] at *
  refine V_enter (vs := [_, _, _]) Try.func78 rfl Try.ntmps78 (Nat.le_of_ble_eq_true rfl) ?_
  cases R with
  | nil =>
    repeat (first | refine Vx ?_ | (apply Ops_q; (case hon => exact Va); (case hd => rfl); (case hq => exact YlA)) | refine Vr ?_ | refine Vt ?_ | refine Vf ?_ | refine Vm ?_ | refine Ve ?_ | refine Vo ?_ | refine Vz ?_ | refine Vn ?_)
    (refine Ops_lit (by exact Va) rfl rfl rfl ?_; intro w1 b1 n_b1; have k_b1 := n_b1.blk)
    repeat (first | refine Vx ?_ | (apply Ops_q; (case hon => exact Va); (case hd => rfl); (case hq => exact YlA)) | refine Vr ?_ | refine Vt ?_ | refine Vf ?_ | refine Vm ?_ | refine Ve ?_ | refine Vo ?_ | refine Vz ?_ | refine Vn ?_)
    (refine Ops_append1 (by exact Va) rfl rfl rfl rfl (hO.ext n_b1.ext) k_b1.cells inferInstance inferInstance (by first | omega | (rw [List.length_map]; omega)) rfl (Nat.le_trans hb n_b1.ext.size) ?_; intro v2 w2 o_v2 g_w2 d_v2)
    repeat (first | refine Vx ?_ | (apply Ops_q; (case hon => exact Va); (case hd => rfl); (case hq => exact YlA)) | refine Vr ?_ | refine Vt ?_ | refine Vf ?_ | refine Vm ?_ | refine Ve ?_ | refine Vo ?_ | refine Vz ?_ | refine Vn ?_)
    refine ret1 (by first | exact .inl rfl | exact .inr rfl) rfl rfl ?_
    exact Does_mk (happ w1 n_b1.ext rfl v2 w2 o_v2 (d_v2.symm.imp id id)) ((Mod.of_ext n_b1.ext).grow g_w2 (fun b hb => .inl hb))
  | cons r0 R0 =>
    generalize hR : r0 :: R0 = R at *
    have hne : 0 < R.length := by rw [← hR]; simp
    obtain ⟨x, hx⟩ : ∃ x, R[R.length - 1]? = some x := ⟨_, List.getElem?_eq_getElem (by omega)⟩
    have hlast : R.getLast? = some x := by rw [List.getLast?_eq_getElem?]; exact hx
    have hA' : Rns w ao R := hA
    obtain ⟨ad, rfl, hc⟩ := hA'.at hx
    clear hA hR
    have e1 : ((R.length : Int) - 1) = ((R.length - 1 : Nat) : Int) := by omega
    have hd : decide ((0 : Int) < (R.length : Int)) = true := decide_eq_true (by omega)
    repeat (first | refine Vx ?_ | (apply Ops_q; (case hon => exact Va); (case hd => rfl); (case hq => exact YlA)) | refine Vr ?_ | refine Vt ?_ | refine Vf ?_ | refine Vm ?_ | refine Ve ?_ | refine Vo ?_ | refine Vz ?_ | refine Vn ?_)
    refine Ops_know rfl rfl hd ?_
    repeat (first | refine Vx ?_ | (apply Ops_q; (case hon => exact Va); (case hd => rfl); (case hq => exact YlA)) | refine Vr ?_ | refine Vt ?_ | refine Vf ?_ | refine Vm ?_ | refine Ve ?_ | refine Vo ?_ | refine Vz ?_ | refine Vn ?_)
    rw [e1]
    (apply Ops_q; (case hon => (exact Va)); (case hd => rfl); (case hq => exact Yl_indexS (j := R.length - 1) rfl rfl (by omega)))
    repeat (first | refine Vx ?_ | (apply Ops_q; (case hon => exact Va); (case hd => rfl); (case hq => exact YlA)) | refine Vr ?_ | refine Vt ?_ | refine Vf ?_ | refine Vm ?_ | refine Ve ?_ | refine Vo ?_ | refine Vz ?_ | refine Vn ?_)
    have hc2 : w.cell? ((ad.add ((R.length - 1) * 2)).add 1) = some (.int .i64 x.2) := hc 1 _ rfl
    repeat (first | refine Vx ?_ | (apply Ops_q; (case hon => exact Va); (case hd => rfl); (case hq => exact YlA)) | refine Vr ?_ | refine Vt ?_ | refine Vf ?_ | refine Vm ?_ | refine Ve ?_ | refine Vo ?_ | refine Vz ?_ | refine Vn ?_)
    refine V_cond rfl (fun he => ?_) (fun he => ?_)
    · replace he := of_decide_eq_true he
      repeat (first | refine Vx ?_ | (apply Ops_q; (case hon => exact Va); (case hd => rfl); (case hq => exact YlA)) | refine Vr ?_ | refine Vt ?_ | refine Vf ?_ | refine Vm ?_ | refine Ve ?_ | refine Vo ?_ | refine Vz ?_ | refine Vn ?_)
      refine ret1 (by first | exact .inl rfl | exact .inr rfl) rfl rfl ?_
      refine Does_mk (fun w' hw => ⟨?_, fun c hc => .inl hc⟩) (.of_ext (Ext.refl _))
      unfold extR
      rw [hlast]
      dsimp only
      rw [if_pos he]; exact hO.ext hw
    · replace he := of_decide_eq_false he
      repeat (first | refine Vx ?_ | (apply Ops_q; (case hon => exact Va); (case hd => rfl); (case hq => exact YlA)) | refine Vr ?_ | refine Vt ?_ | refine Vf ?_ | refine Vm ?_ | refine Ve ?_ | refine Vo ?_ | refine Vz ?_ | refine Vn ?_)
      (refine Ops_lit (by exact Va) rfl rfl rfl ?_; intro w1 b1 n_b1; have k_b1 := n_b1.blk)
      repeat (first | refine Vx ?_ | (apply Ops_q; (case hon => exact Va); (case hd => rfl); (case hq => exact YlA)) | refine Vr ?_ | refine Vt ?_ | refine Vf ?_ | refine Vm ?_ | refine Ve ?_ | refine Vo ?_ | refine Vz ?_ | refine Vn ?_)
      (refine Ops_append1 (by exact Va) rfl rfl rfl rfl (hO.ext n_b1.ext) k_b1.cells inferInstance inferInstance (by first | omega | (rw [List.length_map]; omega)) rfl (Nat.le_trans hb n_b1.ext.size) ?_; intro v2 w2 o_v2 g_w2 d_v2)
      repeat (first | refine Vx ?_ | (apply Ops_q; (case hon => exact Va); (case hd => rfl); (case hq => exact YlA)) | refine Vr ?_ | refine Vt ?_ | refine Vf ?_ | refine Vm ?_ | refine Ve ?_ | refine Vo ?_ | refine Vz ?_ | refine Vn ?_)
      refine ret1 (by first | exact .inl rfl | exact .inr rfl) rfl rfl ?_
      exact Does_mk (happ w1 n_b1.ext (by unfold extR; rw [hlast]; dsimp only; rw [if_neg he]) v2 w2 o_v2 (d_v2.symm.imp id id)) ((Mod.of_ext n_b1.ext).grow g_w2 (fun b hb => .inl hb))
/-! ### find -/
theorem findCmp_v (r : Rn) (a : Nat) (w : World) : Calls Try.prog 95 #[.agg #[.int .u64 r.1, .int .i64 r.2], .int .u64 a] w (Ret (.int .i64 (if r.1 < a then -1 else if r.1 = a then 0 else 1)) w) := by
  refine V_enter (vs := [_, _]) Try.func95 rfl Try.ntmps95 (Nat.le_of_ble_eq_true rfl) ?_
  repeat (first | refine Vx ?_ | (apply Ops_q; (case hon => exact Va); (case hd => rfl); (case hq => exact YlA)) | refine Vr ?_ | refine Vt ?_ | refine Vf ?_ | refine Vm ?_ | refine Ve ?_ | refine Vo ?_ | refine Vz ?_ | refine Vn ?_)
  (refine Ops_box (by exact Va) rfl rfl rfl ?_; intro w1 b1 n_b1; have k_b1 := n_b1.blk)
  repeat (first | refine Vx ?_ | (apply Ops_q; (case hon => exact Va); (case hd => rfl); (case hq => exact YlA)) | refine Vr ?_ | refine Vt ?_ | refine Vf ?_ | refine Vm ?_ | refine Ve ?_ | refine Vo ?_ | refine Vz ?_ | refine Vn ?_)
  refine V_cond rfl (fun h => ?_) (fun h => ?_)
  · have h' : r.1 < a := by have := of_decide_eq_true h; omega
    repeat (first | refine Vx ?_ | (apply Ops_q; (case hon => exact Va); (case hd => rfl); (case hq => exact YlA)) | refine Vr ?_ | refine Vt ?_ | refine Vf ?_ | refine Vm ?_ | refine Ve ?_ | refine Vo ?_ | refine Vz ?_ | refine Vn ?_)
    refine ret1 (by first | exact .inl rfl | exact .inr rfl) rfl rfl ?_
    exact Ret_mk (by rw [if_pos h']) n_b1.ext
  · have h' : ¬r.1 < a := by have := of_decide_eq_false h; omega
    clear h
    repeat (first | refine Vx ?_ | (apply Ops_q; (case hon => exact Va); (case hd => rfl); (case hq => exact YlA)) | refine Vr ?_ | refine Vt ?_ | refine Vf ?_ | refine Vm ?_ | refine Ve ?_ | refine Vo ?_ | refine Vz ?_ | refine Vn ?_)
    refine V_cond rfl (fun h2 => ?_) (fun h2 => ?_)
    · have h2' : ¬r.1 = a := by have := of_decide_eq_true h2; omega
      repeat (first | refine Vx ?_ | (apply Ops_q; (case hon => exact Va); (case hd => rfl); (case hq => exact YlA)) | refine Vr ?_ | refine Vt ?_ | refine Vf ?_ | refine Vm ?_ | refine Ve ?_ | refine Vo ?_ | refine Vz ?_ | refine Vn ?_)
      refine ret1 (by first | exact .inl rfl | exact .inr rfl) rfl rfl ?_
      exact Ret_mk (by rw [if_neg h', if_neg h2']) n_b1.ext
    · have h2' : r.1 = a := by have := of_decide_eq_false h2; omega
      repeat (first | refine Vx ?_ | (apply Ops_q; (case hon => exact Va); (case hd => rfl); (case hq => exact YlA)) | refine Vr ?_ | refine Vt ?_ | refine Vf ?_ | refine Vm ?_ | refine Ve ?_ | refine Vo ?_ | refine Vz ?_ | refine Vn ?_)
      refine ret1 (by first | exact .inl rfl | exact .inr rfl) rfl rfl ?_
      exact Ret_mk (by rw [if_neg h', if_pos h2']) n_b1.ext
set_option maxHeartbeats 1000000 in
theorem bsearchR_v (ao : Option Addr) (R : List Rn) (c a k : Nat) (w : World) (hL : Rns w ao R) (hk : k ≤ R.length) (hs : ∀ i r, R[i]? = some r → (r.1 < a ↔ i < k)) (hn : R.length ≤ 4294967296) :
    Calls Try.prog 94 #[.slice ao R.length c, .int .u64 a, .func (.func 95) #[] #[]] w (Ret (.tuple #[.int .i64 k, .bool (decide (R[k]?.map (·.1) = some a))]) w) := by
  refine V_enter (vs := [_, _, _]) Try.func94 rfl Try.ntmps94 (Nat.le_of_ble_eq_true rfl) ?_
  repeat (first | refine Vx ?_ | (apply Ops_q; (case hon => exact Va); (case hd => rfl); (case hq => exact YlA)) | refine Vr ?_ | refine Vt ?_ | refine Vf ?_ | refine Vm ?_ | refine Ve ?_ | refine Vo ?_ | refine Vz ?_ | refine Vn ?_)
  refine V_loop (fun s : Nat × Nat => [(9, .int .i64 s.1), (10, .int .i64 s.2), (8, .int .i64 R.length), (0, .slice ao R.length c), (1, .int .u64 a), (2, .func (.func 95) #[] #[])])
    (fun s w' => Ext w w' ∧ s.1 ≤ k ∧ k ≤ s.2 ∧ s.2 ≤ R.length) (fun s => s.2 - s.1) (0, R.length) (by repeat (first | exact trivial | refine ⟨rfl, ?_⟩)) ⟨Ext.refl _, Nat.zero_le _, hk, Nat.le_refl _⟩ ?_
  rintro ⟨i, j⟩ w2 ⟨x2, hi, hj, hjl⟩
  dsimp only at hi hj hjl ⊢
  repeat (first | refine Vx ?_ | (apply Ops_q; (case hon => exact Va); (case hd => rfl); (case hq => exact YlA)) | refine Vr ?_ | refine Vt ?_ | refine Vf ?_ | refine Vm ?_ | refine Ve ?_ | refine Vo ?_ | refine Vz ?_ | refine Vn ?_)
  refine V_cond rfl (fun hg => ?_) (fun hg => ?_)
  · replace hg := of_decide_eq_true hg
    obtain ⟨h, hh⟩ : ∃ h : Nat, h = (i + j) / 2 := ⟨_, rfl⟩
    have hhl : h < R.length := by omega
    have eh : ((i : Int) + (j : Int)) / 2 = (h : Int) := by rw [hh]; omega
    obtain ⟨x, hx⟩ : ∃ x, R[h]? = some x := ⟨_, List.getElem?_eq_getElem hhl⟩
    obtain ⟨ad, rfl, hc⟩ := hL.at hx
    have hc1 : Cells w2 (ad.add (h * 2)) [.int .u64 x.1, .int .i64 x.2] := hc.ext x2
    have hxa := hs h x hx
    repeat (first | refine Vx ?_ | (apply Ops_q; (case hon => exact Va); (case hd => rfl); (case hq => exact YlA)) | refine Vr ?_ | refine Vt ?_ | refine Vf ?_ | refine Vm ?_ | refine Ve ?_ | refine Vo ?_ | refine Vz ?_ | refine Vn ?_)
    rw [eh]
    (apply Ops_q; (case hon => (exact Va)); (case hd => rfl); (case hq => exact Yl_indexS (j := h) rfl rfl (by omega)))
    repeat (first | refine Vx ?_ | (apply Ops_q; (case hon => exact Va); (case hd => rfl); (case hq => exact YlA)) | refine Vr ?_ | refine Vt ?_ | refine Vf ?_ | refine Vm ?_ | refine Ve ?_ | refine Vo ?_ | refine Vz ?_ | refine Vn ?_)
    (apply Ops_q; (case hon => (exact Va)); (case hd => rfl); (case hq => exact Yl_callv rfl rfl (fun w_ e_ => findCmp_v x a w_)))
    repeat (first | refine Vx ?_ | (apply Ops_q; (case hon => exact Va); (case hd => rfl); (case hq => exact YlA)) | refine Vr ?_ | refine Vt ?_ | refine Vf ?_ | refine Vm ?_ | refine Ve ?_ | refine Vo ?_ | refine Vz ?_ | refine Vn ?_)
    by_cases hlt : x.1 < a
    · have hd : decide ((if x.1 < a then (-1 : Int) else if x.1 = a then 0 else 1) < 0) = true := by rw [if_pos hlt]; rfl
      have hhA := hxa.1 hlt
      refine V_yes rfl hd ?_
      repeat (first | refine Vx ?_ | (apply Ops_q; (case hon => exact Va); (case hd => rfl); (case hq => exact YlA)) | refine Vr ?_ | refine Vt ?_ | refine Vf ?_ | refine Vm ?_ | refine Ve ?_ | refine Vo ?_ | refine Vz ?_ | refine Vn ?_)
      refine ⟨(h + 1, j), (by repeat (first | exact trivial | refine ⟨rfl, ?_⟩)), ⟨x2, hhA, hj, hjl⟩, by simp only; omega⟩
    · have hd : decide ((if x.1 < a then (-1 : Int) else if x.1 = a then 0 else 1) < 0) = false := by rw [if_neg hlt]; split <;> rfl
      have hhA : ¬h < k := fun hc => hlt (hxa.2 hc)
      refine V_no rfl hd ?_
      repeat (first | refine Vx ?_ | (apply Ops_q; (case hon => exact Va); (case hd => rfl); (case hq => exact YlA)) | refine Vr ?_ | refine Vt ?_ | refine Vf ?_ | refine Vm ?_ | refine Ve ?_ | refine Vo ?_ | refine Vz ?_ | refine Vn ?_)
      refine ⟨(i, h), (by repeat (first | exact trivial | refine ⟨rfl, ?_⟩)), ⟨x2, hi, by dsimp only; omega, by dsimp only; omega⟩, by simp only; omega⟩
  · replace hg := of_decide_eq_false hg
    obtain rfl : i = k := by omega
    repeat (first | refine Vx ?_ | (apply Ops_q; (case hon => exact Va); (case hd => rfl); (case hq => exact YlA)) | refine Vr ?_ | refine Vt ?_ | refine Vf ?_ | refine Vm ?_ | refine Ve ?_ | refine Vo ?_ | refine Vz ?_ | refine Vn ?_)
    refine Ops_split rfl rfl (fun h2 => ?_) (fun h2 => ?_)
    · have hil : i < R.length := by have := of_decide_eq_true h2; omega
      clear h2
      obtain ⟨x, hx⟩ : ∃ x, R[i]? = some x := ⟨_, List.getElem?_eq_getElem hil⟩
      obtain ⟨ad, rfl, hc⟩ := hL.at hx
      have hc1 : Cells w2 (ad.add (i * 2)) [.int .u64 x.1, .int .i64 x.2] := hc.ext x2
      have hnot : ¬x.1 < a := fun h => by have := (hs i x hx).1 h; omega
      rw [hx]
      repeat (first | refine Vx ?_ | (apply Ops_q; (case hon => exact Va); (case hd => rfl); (case hq => exact YlA)) | refine Vr ?_ | refine Vt ?_ | refine Vf ?_ | refine Vm ?_ | refine Ve ?_ | refine Vo ?_ | refine Vz ?_ | refine Vn ?_)
      (apply Ops_q; (case hon => (exact Va)); (case hd => rfl); (case hq => exact Yl_indexS (j := i) rfl rfl (by omega)))
      repeat (first | refine Vx ?_ | (apply Ops_q; (case hon => exact Va); (case hd => rfl); (case hq => exact YlA)) | refine Vr ?_ | refine Vt ?_ | refine Vf ?_ | refine Vm ?_ | refine Ve ?_ | refine Vo ?_ | refine Vz ?_ | refine Vn ?_)
      (apply Ops_q; (case hon => (exact Va)); (case hd => rfl); (case hq => exact Yl_callv rfl rfl (fun w_ e_ => findCmp_v x a w_)))
      rw [if_neg hnot]
      by_cases he : x.1 = a
      · rw [if_pos he]
        repeat (first | refine Vx ?_ | (apply Ops_q; (case hon => exact Va); (case hd => rfl); (case hq => exact YlA)) | refine Vr ?_ | refine Vt ?_ | refine Vf ?_ | refine Vm ?_ | refine Ve ?_ | refine Vo ?_ | refine Vz ?_ | refine Vn ?_)
        refine ret2 (by first | exact .inl rfl | exact .inr rfl) rfl rfl rfl ?_
        exact Ret_mk (by simp [he]) x2
      · rw [if_neg he]
        repeat (first | refine Vx ?_ | (apply Ops_q; (case hon => exact Va); (case hd => rfl); (case hq => exact YlA)) | refine Vr ?_ | refine Vt ?_ | refine Vf ?_ | refine Vm ?_ | refine Ve ?_ | refine Vo ?_ | refine Vz ?_ | refine Vn ?_)
        refine ret2 (by first | exact .inl rfl | exact .inr rfl) rfl rfl rfl ?_
        exact Ret_mk (by simp [he]) x2
    · have hil : R.length ≤ i := by have := of_decide_eq_false h2; omega
      rw [List.getElem?_eq_none hil]
      repeat (first | refine Vx ?_ | (apply Ops_q; (case hon => exact Va); (case hd => rfl); (case hq => exact YlA)) | refine Vr ?_ | refine Vt ?_ | refine Vf ?_ | refine Vm ?_ | refine Ve ?_ | refine Vo ?_ | refine Vz ?_ | refine Vn ?_)
      refine ret2 (by first | exact .inl rfl | exact .inr rfl) rfl rfl rfl ?_
      exact Ret_mk (by simp) x2
theorem findS_v {g : Nat → Int} {hi : Nat} (ao : Option Addr) (R : List Rn) (c a : Nat) (w : World) (hL : Rns w ao R) (hR : Canon g R hi) (hp : 0 < hi) (hn : R.length ≤ 4294967296) :
    Calls Try.prog 73 #[.slice ao R.length c, .int .u64 a] w (Ret (.int .i64 ((cntR R a - 1 : Nat) : Int)) w) := by
  obtain ⟨k, hk, hs⟩ : ∃ k, k ≤ R.length ∧ ∀ i r, R[i]? = some r → (r.1 < a ↔ i < k) := by
    rcases Nat.eq_zero_or_pos a with e | e
    · exact ⟨0, Nat.zero_le _, fun i r _ => by omega⟩
    · refine ⟨cntR R (a - 1), cntR_le .., fun i r hr => ?_⟩
      rw [cntR_iff hR.srt hr]; omega
  have hpos := hR.cnt_pos hp a
  have hk2 : decide (R[k]?.map (·.1) = some a) = true → cntR R a - 1 = k := fun h => by
    have h := of_decide_eq_true h
    obtain ⟨x, hx, hxa⟩ := Option.map_eq_some_iff.1 h
    have hkl := (List.getElem?_eq_some_iff.1 hx).1
    have : cntR R a = k + 1 := by
      refine cntR_split hkl (fun i r hi hr => ?_) (fun i r hi hr => ?_)
      · rcases Nat.lt_or_ge i k with h1 | h1
        · have := (hs i r hr).2 h1; omega
        · rw [show i = k by omega, hx] at hr; cases hr; omega
      · have := srt_at hR.srt hx hr (show k < i by omega)
        omega
    omega
  have hk3 : decide (R[k]?.map (·.1) = some a) = false → cntR R a = k := fun h => by
    have h := of_decide_eq_false h
    refine cntR_split hk (fun i r hi hr => ?_) (fun i r hi hr => ?_)
    · have := (hs i r hr).2 hi; omega
    · have h1 : ¬r.1 < a := fun h1 => by have := (hs i r hr).1 h1; omega
      have h2 : r.1 ≠ a := fun h2 => by
        rcases Nat.lt_or_ge k i with h3 | h3
        · obtain ⟨y, hy⟩ : ∃ y, R[k]? = some y := ⟨_, List.getElem?_eq_getElem (by have := (List.getElem?_eq_some_iff.1 hr).1; omega)⟩
          have h4 := srt_at hR.srt hy hr h3
          have h5 := (hs k y hy).1 (by omega)
          omega
        · obtain rfl : i = k := by omega
          rw [hr] at h
          exact h (by rw [Option.map_some, h2])
      omega
  refine V_enter (vs := [_, _]) Try.func73 rfl Try.ntmps73 (Nat.le_of_ble_eq_true rfl) ?_
  repeat (first | refine Vx ?_ | (apply Ops_q; (case hon => exact Va); (case hd => rfl); (case hq => exact YlA)) | refine Vr ?_ | refine Vt ?_ | refine Vf ?_ | refine Vm ?_ | refine Ve ?_ | refine Vo ?_ | refine Vz ?_ | refine Vn ?_)
  (apply Ops_q; (case hon => (exact Va)); (case hd => rfl); (case hq => exact Yl_call rfl (fun w_ e_ => bsearchR_v ao R c a k w_ (hL.ext e_) hk hs hn)))
  generalize decide (R[k]?.map (·.1) = some a) = fnd at *
  repeat (first | refine Vx ?_ | (apply Ops_q; (case hon => exact Va); (case hd => rfl); (case hq => exact YlA)) | refine Vr ?_ | refine Vt ?_ | refine Vf ?_ | refine Vm ?_ | refine Ve ?_ | refine Vo ?_ | refine Vz ?_ | refine Vn ?_)
  refine V_cond rfl (fun hf => ?_) (fun hf => ?_)
  · have e := hk2 hf
    repeat (first | refine Vx ?_ | (apply Ops_q; (case hon => exact Va); (case hd => rfl); (case hq => exact YlA)) | refine Vr ?_ | refine Vt ?_ | refine Vf ?_ | refine Vm ?_ | refine Ve ?_ | refine Vo ?_ | refine Vz ?_ | refine Vn ?_)
    refine ret1 (by first | exact .inl rfl | exact .inr rfl) rfl rfl ?_
    exact Ret_mk (by rw [e]) (Ext.refl _)
  · have e := hk3 hf
    have e2 : ((k : Int) - 1) = ((cntR R a - 1 : Nat) : Int) := by omega
    have hkk : k ≤ 4294967296 := by omega
    clear hk2 hk3 hs
    repeat (first | refine Vx ?_ | (apply Ops_q; (case hon => exact Va); (case hd => rfl); (case hq => exact YlA)) | refine Vr ?_ | refine Vt ?_ | refine Vf ?_ | refine Vm ?_ | refine Ve ?_ | refine Vo ?_ | refine Vz ?_ | refine Vn ?_)
    refine ret1 (by first | exact .inl rfl | exact .inr rfl) rfl rfl ?_
    exact Ret_mk (by rw [← e2]) (Ext.refl _)
/-! ### The digits of a block -/
theorem sizeS_v (a : Int) (d : Nat) (w : World) (hd : d ≤ 6) : Calls Try.prog 74 #[.agg #[.int .u64 a, .int .i64 d]] w (Ret (.int .u64 ((nsz d : Nat) : Int)) w) := by
  have e : max (32 - 6 * (d : Int)) 0 = ((32 - 6 * d : Nat) : Int) := by omega
  have e2 : (1 : Int) * 2 ^ (((32 - 6 * d : Nat) : Int)).toNat = ((nsz d : Nat) : Int) := by rw [Int.toNat_natCast, Int.one_mul]; unfold nsz; simp
  have h32 : nsz d ≤ 4294967296 := by
    have : nsz d ≤ 2 ^ 32 := Nat.pow_le_pow_right (by omega) (by omega)
    omega
  have hk : InK .u64 ((1 : Int) * 2 ^ (max (32 - 6 * (d : Int)) 0).toNat) := by rw [e, e2]; simp only [InK]; omega
  clear h32
  refine V_enter (vs := [_]) Try.func74 rfl Try.ntmps74 (Nat.le_of_ble_eq_true rfl) ?_
  repeat (first | refine Vx ?_ | (apply Ops_q; (case hon => exact Va); (case hd => rfl); (case hq => exact YlA)) | refine Vr ?_ | refine Vt ?_ | refine Vf ?_ | refine Vm ?_ | refine Ve ?_ | refine Vo ?_ | refine Vz ?_ | refine Vn ?_)
  (refine Ops_box (by exact Va) rfl rfl rfl ?_; intro w1 b1 n_b1; have k_b1 := n_b1.blk)
  repeat (first | refine Vx ?_ | (apply Ops_q; (case hon => exact Va); (case hd => rfl); (case hq => exact YlA)) | refine Vr ?_ | refine Vt ?_ | refine Vf ?_ | refine Vm ?_ | refine Ve ?_ | refine Vo ?_ | refine Vz ?_ | refine Vn ?_)
  rw [e, e2]
  refine ret1 (by first | exact .inl rfl | exact .inr rfl) rfl rfl ?_
  exact Ret_mk rfl n_b1.ext
/-- What the iterator yields of digit x. -/
abbrev partV (p : Nat × Nat) (x : Nat) : Value := .agg #[.int .u64 (digLo p.2 p.1 x), .int .i64 ((p.2 : Int) + 1), .bool (digOk p.2 x)]
set_option maxHeartbeats 2000000 in
theorem below_iter (b : Nat) (p : Nat × Nat) (hp : PlOk p) : Iter Try.prog 93 #[.pointer (some ⟨b, 0, none⟩)] 64 (fun k => [.int .i64 k, partV p k]) (fun w => Blk w b 120 [.int .u64 p.1, .int .i64 p.2]) := by
  obtain ⟨base, d⟩ := p
  obtain ⟨hd, h32⟩ := hp
  dsimp only at hd h32 ⊢
  intro l J Jx W hJ hJx hB hy h0
  refine callsR_iff.2 ?_
  show Calls _ _ #[_, _] _ _
  refine V_enter (vs := [_, _]) Try.func93 rfl Try.ntmps93 (Nat.le_of_ble_eq_true rfl) ?_
  repeat (first | refine Vx ?_ | (apply Ops_q; (case hon => exact Va); (case hd => rfl); (case hq => exact YlA)) | refine Vr ?_ | refine Vt ?_ | refine Vf ?_ | refine Vm ?_ | refine Ve ?_ | refine Vo ?_ | refine Vz ?_ | refine Vn ?_)
  refine V_loop (fun k : Nat => [(5, .int .i64 k), (0, .func (.yield l) #[] #[]), (1, .pointer (some ⟨b, 0, none⟩))]) (fun k w' => k ≤ 64 ∧ J k w') (fun k => 64 - k) 0 (by repeat (first | exact trivial | refine ⟨rfl, ?_⟩)) ⟨Nat.zero_le _, h0⟩ ?_
  rintro k w1 ⟨hk, hJk⟩
  have k_b := hB k w1 hJk
  repeat (first | refine Vx ?_ | (apply Ops_q; (case hon => exact Va); (case hd => rfl); (case hq => exact YlA)) | refine Vr ?_ | refine Vt ?_ | refine Vf ?_ | refine Vm ?_ | refine Ve ?_ | refine Vo ?_ | refine Vz ?_ | refine Vn ?_)
  refine V_cond rfl (fun hg => ?_) (fun hg => ?_)
  · replace hg := of_decide_eq_true hg
    have hk64 : k < 64 := by omega
    clear hg
    repeat (first | refine Vx ?_ | (apply Ops_q; (case hon => exact Va); (case hd => rfl); (case hq => exact YlA)) | refine Vr ?_ | refine Vt ?_ | refine Vf ?_ | refine Vm ?_ | refine Ve ?_ | refine Vo ?_ | refine Vz ?_ | refine Vn ?_)
    (refine Ops_alloc (by exact Va) rfl ?_; intro w2 b2 n_b2; have k_b2 := n_b2.blk)
    repeat (first | refine Vx ?_ | (apply Ops_q; (case hon => exact Va); (case hd => rfl); (case hq => exact YlA)) | refine Vr ?_ | refine Vt ?_ | refine Vf ?_ | refine Vm ?_ | refine Ve ?_ | refine Vo ?_ | refine Vz ?_ | refine Vn ?_)
    (refine Ops_store (by exact Va) rfl rfl (by assumption) (by first | rfl | exact OneAll.h) ?_; intro w3 u_w3; have k_b2 := u_w3.blk)
    have x3 := u_w3.below n_b2.ext n_b2.ge
    have hJ3 := hJ k w1 w3 hJk x3
    replace k_b := hB k w3 hJ3
    have hb2 : w1.heap.size ≤ b2 := n_b2.ge
    have hlo := dig_in (base := base) hd hk64
    clear n_b2 u_w3
    repeat (first | refine Vx ?_ | (apply Ops_q; (case hon => exact Va); (case hd => rfl); (case hq => exact YlA)) | refine Vr ?_ | refine Vt ?_ | refine Vf ?_ | refine Vm ?_ | refine Ve ?_ | refine Vo ?_ | refine Vz ?_ | refine Vn ?_)
    refine V_meet1 (fun _ : Unit => [(5, .int .i64 k), (3, .int .i64 k), (4, .pointer (some ⟨b2, 0, none⟩)), (0, .func (.yield l) #[] #[]), (1, .pointer (some ⟨b, 0, none⟩))])
      (fun _ w' => J k w' ∧ Blk w' b2 125 [.int .u64 (digLo d base k), .int .i64 ((d : Int) + 1), .bool (digOk d k)]) ?_ ?_
    · refine V_cond rfl (fun hd5 => ?_) (fun hd5 => ?_)
      · have hd5' : d < 5 := by have := of_decide_eq_true hd5; omega
        clear hd5
        have hm : InK .u64 ((k : Int) * ((nsz (d + 1) : Nat) : Int)) := by
          rw [← Int.natCast_mul]; unfold digLo at hlo; rw [if_pos hd5'] at hlo; simp only [InK]; omega
        have hs : InK .u64 ((base : Int) + (k : Int) * ((nsz (d + 1) : Nat) : Int)) := by
          rw [← Int.natCast_mul]; unfold digLo at hlo; rw [if_pos hd5'] at hlo; simp only [InK]; omega
        have e : (base : Int) + (k : Int) * ((nsz (d + 1) : Nat) : Int) = ((digLo d base k : Nat) : Int) := by unfold digLo; rw [if_pos hd5']; simp
        have eo : digOk d k = true := by unfold digOk; rw [decide_eq_true hd5']; rfl
        have ed : ((d : Int) + 1) = ((d + 1 : Nat) : Int) := by omega
        have hd6 : d + 1 ≤ 6 := by omega
        have hpart : Cells w3 ⟨b2, 0, none⟩ [.int .u64 base, .int .i64 ((d : Int) + 1)] := k_b2.part 0 2
        clear hlo h32
        refine V_region_mixed 12 (by kernel_rfl) (by kernel_rfl) rfl ?_
        repeat (first | refine Vx ?_ | (apply Ops_q; (case hon => exact Va); (case hd => rfl); (case hq => exact YlA)) | refine Vr ?_ | refine Vt ?_ | refine Vf ?_ | refine Vm ?_ | refine Ve ?_ | refine Vo ?_ | refine Vz ?_ | refine Vn ?_)
        rw [ed]
        (apply Ops_q; (case hon => (exact Va)); (case hd => rfl); (case hq => exact Yl_call rfl (fun w_ e_ => sizeS_v base (d + 1) w_ hd6)))
        repeat (first | refine Vx ?_ | (apply Ops_q; (case hon => exact Va); (case hd => rfl); (case hq => exact YlA)) | refine Vr ?_ | refine Vt ?_ | refine Vf ?_ | refine Vm ?_ | refine Ve ?_ | refine Vo ?_ | refine Vz ?_ | refine Vn ?_)
        rw [← ed]
        repeat (first | refine Vx ?_ | (apply Ops_q; (case hon => exact Va); (case hd => rfl); (case hq => exact YlA)) | refine Vr ?_ | refine Vt ?_ | refine Vf ?_ | refine Vm ?_ | refine Ve ?_ | refine Vo ?_ | refine Vz ?_ | refine Vn ?_)
        (refine Ops_store (by exact Va) rfl rfl (by assumption) (by first | rfl | exact OneAll.h) ?_; intro w4 u_w4; have k_b2 := u_w4.blk)
        have x4 : Ext w1 w4 := u_w4.below x3 hb2
        repeat (first | refine Vx ?_ | (apply Ops_q; (case hon => exact Va); (case hd => rfl); (case hq => exact YlA)) | refine Vr ?_ | refine Vt ?_ | refine Vf ?_ | refine Vm ?_ | refine Ve ?_ | refine Vo ?_ | refine Vz ?_ | refine Vn ?_)
        refine ⟨(), (by repeat (first | exact trivial | refine ⟨rfl, ?_⟩)), hJ k w1 w4 hJk x4, ?_⟩
        rw [eo, ← e]; exact k_b2
      · have hd5' : d = 5 := by have := of_decide_eq_false hd5; omega
        clear hd5
        subst hd5'
        have e : (base : Int) + (((k / 16 : Nat) : Nat) : Int) = ((digLo 5 base k : Nat) : Int) := by unfold digLo; rw [if_neg (by omega)]; simp
        have eo : digOk 5 k = decide ((k : Int) % 16 = 0) := by
          unfold digOk
          rw [decide_eq_false (show ¬(5 : Nat) < 5 by omega), Bool.false_or]
          by_cases h : k % 16 = 0
          · rw [decide_eq_true h, decide_eq_true (by omega)]
          · rw [decide_eq_false h, decide_eq_false (by omega)]
        have eq : (k : Int) / 16 = ((k / 16 : Nat) : Int) := by omega
        clear hlo
        repeat (first | refine Vx ?_ | (apply Ops_q; (case hon => exact Va); (case hd => rfl); (case hq => exact YlA)) | refine Vr ?_ | refine Vt ?_ | refine Vf ?_ | refine Vm ?_ | refine Ve ?_ | refine Vo ?_ | refine Vz ?_ | refine Vn ?_)
        rw [eq]
        repeat (first | refine Vx ?_ | (apply Ops_q; (case hon => exact Va); (case hd => rfl); (case hq => exact YlA)) | refine Vr ?_ | refine Vt ?_ | refine Vf ?_ | refine Vm ?_ | refine Ve ?_ | refine Vo ?_ | refine Vz ?_ | refine Vn ?_)
        (refine Ops_store (by exact Va) rfl rfl (by assumption) (by first | rfl | exact OneAll.h) ?_; intro w4 u_w4; have k_b2 := u_w4.blk)
        have x4 : Ext w1 w4 := u_w4.below x3 hb2
        clear u_w4
        repeat (first | refine Vx ?_ | (apply Ops_q; (case hon => exact Va); (case hd => rfl); (case hq => exact YlA)) | refine Vr ?_ | refine Vt ?_ | refine Vf ?_ | refine Vm ?_ | refine Ve ?_ | refine Vo ?_ | refine Vz ?_ | refine Vn ?_)
        (refine Ops_store (by exact Va) rfl rfl (by assumption) (by first | rfl | exact OneAll.h) ?_; intro w5 u_w5; have k_b2 := u_w5.blk)
        have x5 : Ext w1 w5 := u_w5.below x4 hb2
        repeat (first | refine Vx ?_ | (apply Ops_q; (case hon => exact Va); (case hd => rfl); (case hq => exact YlA)) | refine Vr ?_ | refine Vt ?_ | refine Vf ?_ | refine Vm ?_ | refine Ve ?_ | refine Vo ?_ | refine Vz ?_ | refine Vn ?_)
        refine ⟨(), (by repeat (first | exact trivial | refine ⟨rfl, ?_⟩)), hJ k w1 w5 hJk x5, ?_⟩
        rw [eo, ← e]; exact k_b2
    · rintro _ w4 ⟨hJ4, k_b2⟩
      refine V_seq ?_
      refine V_yield 3 (ly := l) (vs := [.int .i64 k, partV (base, d) k]) (R := Rounds 64 J Jx k) rfl rfl ?_
      repeat (first | refine Vx ?_ | (apply Ops_q; (case hon => exact Va); (case hd => rfl); (case hq => exact YlA)) | refine Vr ?_ | refine Vt ?_ | refine Vf ?_ | refine Vm ?_ | refine Ve ?_ | refine Vo ?_ | refine Vz ?_ | refine Vn ?_)
      refine ⟨rfl, rfl, fun w5 x5 => hy k w5 hk64 (hJ k w4 w5 hJ4 x5), ?_⟩
      rintro e w5 (⟨rfl, _, hJ5⟩ | ⟨rfl, hJ5⟩)
      · refine ⟨_, rfl, ?_⟩
        repeat (first | refine Vx ?_ | (apply Ops_q; (case hon => exact Va); (case hd => rfl); (case hq => exact YlA)) | refine Vr ?_ | refine Vt ?_ | refine Vf ?_ | refine Vm ?_ | refine Ve ?_ | refine Vo ?_ | refine Vz ?_ | refine Vn ?_)
        refine ⟨k + 1, (by repeat (first | exact trivial | refine ⟨rfl, ?_⟩)), ⟨hk64, hJ5⟩, by omega⟩
      · refine ⟨_, rfl, ?_⟩
        repeat (first | refine Vx ?_ | (apply Ops_q; (case hon => exact Va); (case hd => rfl); (case hq => exact YlA)) | refine Vr ?_ | refine Vt ?_ | refine Vf ?_ | refine Vm ?_ | refine Ve ?_ | refine Vo ?_ | refine Vz ?_ | refine Vn ?_)
        refine ret0 (by first | exact .inl rfl | exact .inr rfl) rfl ?_
        exact fun w' hw => ⟨⟨_, rfl⟩, .inr (hJx _ _ hJ5 hw)⟩
  · replace hg := of_decide_eq_false hg
    obtain rfl : k = 64 := by omega
    repeat (first | refine Vx ?_ | (apply Ops_q; (case hon => exact Va); (case hd => rfl); (case hq => exact YlA)) | refine Vr ?_ | refine Vt ?_ | refine Vf ?_ | refine Vm ?_ | refine Ve ?_ | refine Vo ?_ | refine Vz ?_ | refine Vn ?_)
    refine ret0 (by first | exact .inl rfl | exact .inr rfl) rfl ?_
    exact fun w' hw => ⟨⟨_, rfl⟩, .inl (hJ 64 _ _ hJk hw)⟩
end Go.Proofs.Ytjpnaofoeeegeaa


/-
  Functions that hold loops over iterators: leaving with results; blocks told apart by their types; loops and tests at the level of marks.
  No conditions beyond those that each rule states.
-/
namespace Go.Proofs.Ytjpnaofoeeegeaa
open Go.RowKit

section
variable {w w1 : World} {b b' base base' n n' : Nat} {t t' e e' : TypeId} {cs cs' : List Value} {v v' : Value} {L L' : List (List Value)}
theorem blk_ne (h : Blk w b t cs) (h' : Blk w b' t' cs') (ht : Nat.beq t t' = false) : b ≠ b' := fun eb => by
  subst eb
  unfold Blk at h h'
  rw [h] at h'
  injection h' with h1
  injection h1 with h2 h3
  rw [h3, Nat.beq_refl] at ht; cases ht
theorem own_blk_ne (h : Own w base e n v L) (h' : Blk w b t cs) (ht : Nat.beq e t = false) : v.ownBlock ≠ some b := fun eb => by
  obtain ⟨cur, hc⟩ := own_cells_at h eb
  unfold Blk at h'
  rw [hc] at h'
  injection h' with h1
  injection h1 with h2 h3
  rw [h3, Nat.beq_refl] at ht; cases ht
theorem own_own_ne (h : Own w base e n v L) (h' : Own w base' e' n' v' L') (ht : Nat.beq e e' = false) : v.ownBlock ≠ v'.ownBlock ∨ v.ownBlock = none := by
  cases hv : v.ownBlock with
  | none => exact .inr rfl
  | some b =>
    left
    intro eb
    obtain ⟨cur, hc⟩ := own_cells_at h hv
    obtain ⟨cur', hc'⟩ := own_cells_at h' eb.symm
    rw [hc] at hc'
    injection hc' with h1
    injection h1 with h2 h3
    rw [h3, Nat.beq_refl] at ht; cases ht
end
section
variable {P : Program} {n : Nat} {Q : Exit → List Nat → Env → World → Prop} {Ds : List Nat} {m : Env} {w : World}
theorem retR1D {fn : Func} {R : Ending → World → Prop} {e : Exit} {r : ResultVar} {v : Value} (he : e = .ret ∨ e = .normal) (hr : fn.results = #[r]) (hM : Marks Ds w)
    (hv : ∀ w', Mod (fun c => c ∈ Ds) w w' → Res P ⟨n, Ds.map mark, none⟩ m w' r v ∧ R (.returned v) w') : retD P fn n R e Ds m w := by
  have : Marks Ds w ∧ ∀ w', Mod (fun c => c ∈ Ds) w w' → ∃ v, (∀ a, Agree ⟨n, Ds.map mark, none⟩ m a → (results fn a.tmps).run P w' = .ok v w') ∧ R (.returned v) w' :=
    ⟨hM, fun w' hw => ⟨v, fun a ha => by
      rw [results_eq, hr]
      simp [run_res (hv w' hw).1 ha (Ext.refl w')], (hv w' hw).2⟩⟩
  rcases he with rfl | rfl <;> exact this
theorem retR2D {fn : Func} {R : Ending → World → Prop} {e : Exit} {r s : ResultVar} {v x : Value} (he : e = .ret ∨ e = .normal) (hr : fn.results = #[r, s]) (hM : Marks Ds w)
    (hv : ∀ w', Mod (fun c => c ∈ Ds) w w' → Res P ⟨n, Ds.map mark, none⟩ m w' r v ∧ Res P ⟨n, Ds.map mark, none⟩ m w' s x ∧ R (.returned (.tuple #[v, x])) w') : retD P fn n R e Ds m w := by
  have : Marks Ds w ∧ ∀ w', Mod (fun c => c ∈ Ds) w w' → ∃ v, (∀ a, Agree ⟨n, Ds.map mark, none⟩ m a → (results fn a.tmps).run P w' = .ok v w') ∧ R (.returned v) w' :=
    ⟨hM, fun w' hw => ⟨_, fun a ha => by
      rw [results_eq, hr]
      simp [run_res (hv w' hw).1 ha (Ext.refl w'), run_res (hv w' hw).2.1 ha (Ext.refl w')], (hv w' hw).2.2⟩⟩
  rcases he with rfl | rfl <;> exact this
/-- A marked block is no block of cells, and no slice's row. -/
theorem Marks.blk {b : Nat} {t : TypeId} {cs : List Value} {w' : World} (h : Marks Ds w) (hm : Mod (fun c => c ∈ Ds) w w') (hB : Blk w b t cs) : Blk w' b t cs :=
  hm.blk hB (fun hb => by have := h.at_ b hb; unfold Blk at hB; rw [this] at hB; cases hB)
theorem Marks.own_mod {base n0 : Nat} {e : TypeId} {v : Value} {L : List (List Value)} {w' : World} (h : Marks Ds w) (hm : Mod (fun c => c ∈ Ds) w w') (ho : Own w base e n0 v L) : Own w' base e n0 v L :=
  hm.own ho (fun b hb hc => by obtain ⟨cur, h1⟩ := own_cells_at ho hb; have := h.at_ b hc; rw [this] at h1; cases h1)
theorem Marks.ge_mod {w0 w' : World} (h : ∀ D ∈ Ds, w0.heap.size ≤ D) (he : Ext w0 w) (hm : Mod (fun c => c ∈ Ds) w w') : Ext w0 w' := hm.ext_of he (fun c hc => h c hc)
end
end Go.Proofs.Ytjpnaofoeeegeaa


/-
  Stride tables (layer 8): compress.
  Conditions: the runs are those of some function, in order.
-/
namespace Go.Proofs.Ytjpnaofoeeegeaa
open Go.RowKit

def Nd.cells (n : Nd) : List Value := [.int .u64 n.inner, .int .u64 n.leaf, .int .i64 n.nodes, .int .i64 n.first]
def plC (p : Nat × Nat) : List Value := [.int .u64 p.1, .int .i64 p.2]
theorem Canon.len {g : Nat → Int} {R : List Rn} {hi : Nat} (h : Canon g R hi) : R.length ≤ hi := by
  have aux : ∀ (i : Nat) (r : Rn), R[i]? = some r → i ≤ r.1 := by
    intro i
    induction i with
    | zero => intro r _; exact Nat.zero_le _
    | succ i ih =>
      intro r hr
      have hl := (List.getElem?_eq_some_iff.1 hr).1
      have hs : R[i]? = some R[i] := List.getElem?_eq_getElem (by omega)
      have h1 := ih _ hs
      have h2 := srt_at h.srt hs hr (Nat.lt_succ_self i)
      omega
  rcases Nat.eq_zero_or_pos R.length with e | e
  · omega
  · have hs : R[R.length - 1]? = some R[R.length - 1] := List.getElem?_eq_getElem (by omega)
    have h1 := aux _ _ hs
    have h2 := h.lt _ (List.mem_of_getElem? hs)
    omega
theorem or_step {P : Nat → Bool} {k : Nat} (hk : k < 64) (hp : P k = true) : bits .or .u64 ((mkW P k : Nat) : Int) (1 * 2 ^ ((k : Nat) : Int).toNat) = ((mkW P (k + 1) : Nat) : Int) := by
  have h1 : mkW P k < 18446744073709551616 := Nat.lt_of_lt_of_le (mkW_lt P k) (Nat.pow_le_pow_right (n := 2) (j := 64) (by omega) (by omega))
  have h2 : 2 ^ k < 18446744073709551616 := Nat.pow_lt_pow_right (a := 2) (n := 64) (by omega) (by omega)
  have e : (1 : Int) * 2 ^ ((k : Nat) : Int).toNat = ((2 ^ k : Nat) : Int) := by rw [Int.toNat_natCast, Int.one_mul]; simp
  rw [e, u64_or_nat _ _ h1 h2, mkW_or, mkW, if_pos hp]
theorem pow_in {k : Nat} (hk : k < 64) : InK .u64 ((1 : Int) * 2 ^ ((k : Nat) : Int).toNat) := by
  have h2 : 2 ^ k < 18446744073709551616 := Nat.pow_lt_pow_right (a := 2) (n := 64) (by omega) (by omega)
  have e : (1 : Int) * 2 ^ ((k : Nat) : Int).toNat = ((2 ^ k : Nat) : Int) := by rw [Int.toNat_natCast, Int.one_mul]; simp
  have h3 : 0 < 2 ^ k := Nat.two_pow_pos k
  rw [e]; simp only [InK]; generalize 2 ^ k = q at *; omega
theorem own_litN {w w1 : World} {b n0 : Nat} {e : TypeId} {u : List Value} (h : New w w1 b e u) (hu : u.length = n0) : Own w1 w.heap.size e n0 (.slice (some ⟨b, 0, none⟩) 1 1) [u] :=
  ⟨⟨by simp [hu], .inr ⟨b, 1, u.toArray, rfl, h.ge, h.blk, Nat.le_refl _, by unfold maxLen; omega, by simp [hu], by simp [← hu]⟩⟩, by simp [hu]⟩
/-! ### What a digit changes -/
section
variable {f : Nat → Int} {p : Nat × Nat} {x : Nat}
theorem inB_of (hd : p.2 ≤ 5) (h : inB f p x = true) : digOk p.2 x = true ∧ p.2 < 5 ∧ ¬Flat f (digLo p.2 p.1 x) (digLo p.2 p.1 x + nsz (p.2 + 1)) ∧ digK f p x = some none := by
  have hK : digK f p x = some none := by
    unfold inB at h
    split at h
    · assumption
    · cases h
  have h5 : p.2 ≠ 5 := fun e => by
    obtain ⟨b, d⟩ := p
    dsimp only at e; subst e
    rw [inB_five] at h; cases h
  have hK' := hK
  unfold digK at hK'
  split at hK'
  · rename_i hok
    split at hK'
    · cases hK'
    · rename_i hf
      exact ⟨hok, by omega, fun hc => hf (flat_iff.2 hc), hK⟩
  · cases hK'
theorem leaf_of (h : inB f p x = false) (hok : digOk p.2 x = true) : digK f p x = some (some (f (digLo p.2 p.1 x))) ∧ Flat f (digLo p.2 p.1 x) (digLo p.2 p.1 x + nsz (p.2 + 1)) := by
  have hK : digK f p x ≠ some none := fun e => by unfold inB at h; rw [e] at h; cases h
  unfold digK at hK ⊢
  rw [if_pos hok] at hK ⊢
  split at hK
  · rename_i hf
    rw [if_pos hf]; exact ⟨rfl, flat_iff.1 hf⟩
  · exact absurd rfl hK
theorem dnone_of (hok : digOk p.2 x = false) : digK f p x = none ∧ inB f p x = false := by
  have : digK f p x = none := by unfold digK; rw [hok]; rfl
  exact ⟨this, by unfold inB; rw [this]⟩
theorem step_in (h : inB f p x = true) (hK : digK f p x = some none) : kdP f p (x + 1) = kdP f p x ++ [(digLo p.2 p.1 x, p.2 + 1)] ∧ lvP f p (x + 1) = lvP f p x ∧ mkW (stB f p) (x + 1) = mkW (stB f p) x := by
  have hs : stB f p x = false := by unfold stB; rw [hK]
  exact ⟨by rw [kdP, if_pos h], by rw [lvP, hK], by rw [mkW, hs]; rfl⟩
theorem step_out (h : inB f p x = false) : kdP f p (x + 1) = kdP f p x ∧ mkW (inB f p) (x + 1) = mkW (inB f p) x := by
  exact ⟨by rw [kdP, h]; rfl, by rw [mkW, h]; rfl⟩
theorem step_none (hK : digK f p x = none) : lvP f p (x + 1) = lvP f p x ∧ mkW (stB f p) (x + 1) = mkW (stB f p) x := by
  have hs : stB f p x = false := by unfold stB; rw [hK]
  exact ⟨by rw [lvP, hK], by rw [mkW, hs]; rfl⟩
theorem step_same {v : Int} (hK : digK f p x = some (some v)) (hl : (lvP f p x).getLast? = some v) : lvP f p (x + 1) = lvP f p x ∧ stB f p x = false := by
  exact ⟨by rw [lvP, hK]; dsimp only; rw [if_pos hl], by unfold stB; rw [hK]; simp [hl]⟩
theorem step_new {v : Int} (hK : digK f p x = some (some v)) (hl : (lvP f p x).getLast? ≠ some v) : lvP f p (x + 1) = lvP f p x ++ [v] ∧ stB f p x = true := by
  exact ⟨by rw [lvP, hK]; dsimp only; rw [if_neg hl], by unfold stB; rw [hK]; simp [hl]⟩
/-- Behind the first digit of a lowest place there is a leaf. -/
theorem lvP_five (f : Nat → Int) (base : Nat) (hx : 0 < x) : lvP f (base, 5) x ≠ [] := fun e => by
  have h1 : digK f (base, 5) 0 = some (some (f (digLo 5 base 0))) := (leaf_of (inB_five f base 0) rfl).1
  have h2 := lvP_last h1
  obtain ⟨t, ht⟩ := lvP_pre f (base, 5) (show 0 + 1 ≤ x from hx)
  rw [e] at ht
  have h3 := (List.append_eq_nil_iff.1 ht).1
  rw [h3] at h2; cases h2
end
/-- What compress leaves of its own, between rounds. -/
structure CS (w0 : World) (ao : Option Addr) (R : List Rn) (c b1 b2 b3 b4 : Nat) (vN vL vR : Value) (N : List Nd) (L : List Int) (Q : List (Nat × Nat)) (w : World) : Prop where
  ext : Ext w0 w
  k1 : Blk w b1 64 [.slice ao R.length c]
  k2 : Blk w b2 32 [.slice none 0 0, .slice none 0 0]
  k3 : Blk w b3 32 [vN, vL]
  k4 : Blk w b4 121 [vR]
  n23 : b2 ≠ b3
  g3 : w0.heap.size ≤ b3
  g4 : w0.heap.size ≤ b4
  g2 : w0.heap.size ≤ b2
  oN : Own w w0.heap.size 73 4 vN (N.map Nd.cells)
  oL : Own w w0.heap.size 3 1 vL (L.map ic)
  oR : Own w w0.heap.size 120 2 vR (Q.map plC)
section
variable {w0 w w1 : World} {ao : Option Addr} {R : List Rn} {c b1 b2 b3 b4 : Nat} {vN vL vR : Value} {N : List Nd} {L : List Int} {Q : List (Nat × Nat)}
theorem CS.mono (h : CS w0 ao R c b1 b2 b3 b4 vN vL vR N L Q w) (he : Ext w w1) : CS w0 ao R c b1 b2 b3 b4 vN vL vR N L Q w1 :=
  ⟨h.ext.trans he, h.k1.ext he, h.k2.ext he, h.k3.ext he, h.k4.ext he, h.n23, h.g3, h.g4, h.g2, h.oN.ext he, h.oL.ext he, h.oR.ext he⟩
theorem CS.turn {l : Nat} (h : CS w0 ao R c b1 b2 b3 b4 vN vL vR N L Q w) (ht : Turn l w w1) (hl : w0.heap.size ≤ l) : CS w0 ao R c b1 b2 b3 b4 vN vL vR N L Q w1 :=
  ⟨ht.ext h.ext hl, ht.blk h.k1, ht.blk h.k2, ht.blk h.k3, ht.blk h.k4, h.n23, h.g3, h.g4, h.g2, ht.own h.oN, ht.own h.oL, ht.own h.oR⟩
/-- A store into another block. -/
theorem CS.upd {b : Nat} {t : TypeId} {cs cs' : List Value} (h : CS w0 ao R c b1 b2 b3 b4 vN vL vR N L Q w) (u : Upd w w1 b t cs) (hB : Blk w b t cs') (hb : w0.heap.size ≤ b)
    (h1 : Nat.beq 64 t = false) (h2 : Nat.beq 32 t = false) (h4 : Nat.beq 121 t = false) (hN : vN.ownBlock ≠ some b) (hL : vL.ownBlock ≠ some b) (hR : Nat.beq 120 t = false) :
    CS w0 ao R c b1 b2 b3 b4 vN vL vR N L Q w1 :=
  ⟨u.below h.ext hb, u.keep h.k1 (blk_ne h.k1 hB h1), u.keep h.k2 (blk_ne h.k2 hB h2), u.keep h.k3 (blk_ne h.k3 hB h2), u.keep h.k4 (blk_ne h.k4 hB h4), h.n23, h.g3, h.g4, h.g2, h.oN.upd u hN, h.oL.upd u hL, h.oR.upd u (own_blk_ne h.oR hB hR)⟩
/-- A place more. -/
theorem CS.pushR {w2 : World} {vR' : Value} {Q' : List (Nat × Nat)} (h : CS w0 ao R c b1 b2 b3 b4 vN vL vR N L Q w) (gr : w.grownBy w1 vR.ownBlock) (o' : Own w1 w0.heap.size 120 2 vR' (Q'.map plC)) (u : Upd w1 w2 b4 121 [vR']) :
    CS w0 ao R c b1 b2 b3 b4 vN vL vR' N L Q' w2 := by
  have ext1 : Ext w0 w1 := grow_below h.ext gr (fun k hk => h.oR.ge hk)
  have kp : ∀ {b : Nat} {t : TypeId} {cs : List Value}, Blk w b t cs → Nat.beq 120 t = false → Blk w1 b t cs := fun hB ht => grow_blk gr hB (fun e => own_blk_ne h.oR hB ht e.symm)
  have k1' := kp h.k1 rfl
  have k2' := kp h.k2 rfl
  have k3' := kp h.k3 rfl
  have k4' := kp h.k4 rfl
  have oN' := h.oN.grow gr (own_own_ne h.oN h.oR rfl)
  have oL' := h.oL.grow gr (own_own_ne h.oL h.oR rfl)
  exact ⟨u.below ext1 h.g4, u.keep k1' (blk_ne k1' k4' rfl), u.keep k2' (blk_ne k2' k4' rfl), u.keep k3' (blk_ne k3' k4' rfl), u.blk, h.n23, h.g3, h.g4, h.g2, oN'.upd u (own_blk_ne oN' k4' rfl), oL'.upd u (own_blk_ne oL' k4' rfl), o'.upd u (own_blk_ne o' k4' rfl)⟩
/-- A leaf more. -/
theorem CS.pushL {w2 : World} {vL' : Value} {L' : List Int} (h : CS w0 ao R c b1 b2 b3 b4 vN vL vR N L Q w) (gr : w.grownBy w1 vL.ownBlock) (o' : Own w1 w0.heap.size 3 1 vL' (L'.map ic)) (u : Upd w1 w2 b3 32 [vN, vL']) :
    CS w0 ao R c b1 b2 b3 b4 vN vL' vR N L' Q w2 := by
  have ext1 : Ext w0 w1 := grow_below h.ext gr (fun k hk => h.oL.ge hk)
  have kp : ∀ {b : Nat} {t : TypeId} {cs : List Value}, Blk w b t cs → Nat.beq 3 t = false → Blk w1 b t cs := fun hB ht => grow_blk gr hB (fun e => own_blk_ne h.oL hB ht e.symm)
  have k1' := kp h.k1 rfl
  have k2' := kp h.k2 rfl
  have k3' := kp h.k3 rfl
  have k4' := kp h.k4 rfl
  have oN' := h.oN.grow gr (own_own_ne h.oN h.oL rfl)
  have oR' := h.oR.grow gr (own_own_ne h.oR h.oL rfl)
  exact ⟨u.below ext1 h.g3, u.keep k1' (blk_ne k1' k3' rfl), u.keep k2' h.n23, u.blk, u.keep k4' (blk_ne k4' k3' rfl), h.n23, h.g3, h.g4, h.g2, oN'.upd u (own_blk_ne oN' k3' rfl), o'.upd u (own_blk_ne o' k3' rfl), oR'.upd u (own_blk_ne oR' k3' rfl)⟩
/-- A node more. -/
theorem CS.pushN {w2 : World} {vN' : Value} {N' : List Nd} (h : CS w0 ao R c b1 b2 b3 b4 vN vL vR N L Q w) (gr : w.grownBy w1 vN.ownBlock) (o' : Own w1 w0.heap.size 73 4 vN' (N'.map Nd.cells)) (u : Upd w1 w2 b3 32 [vN', vL]) :
    CS w0 ao R c b1 b2 b3 b4 vN' vL vR N' L Q w2 := by
  have ext1 : Ext w0 w1 := grow_below h.ext gr (fun k hk => h.oN.ge hk)
  have kp : ∀ {b : Nat} {t : TypeId} {cs : List Value}, Blk w b t cs → Nat.beq 73 t = false → Blk w1 b t cs := fun hB ht => grow_blk gr hB (fun e => own_blk_ne h.oN hB ht e.symm)
  have k1' := kp h.k1 rfl
  have k2' := kp h.k2 rfl
  have k3' := kp h.k3 rfl
  have k4' := kp h.k4 rfl
  have oL' := h.oL.grow gr (own_own_ne h.oL h.oN rfl)
  have oR' := h.oR.grow gr (own_own_ne h.oR h.oN rfl)
  exact ⟨u.below ext1 h.g3, u.keep k1' (blk_ne k1' k3' rfl), u.keep k2' h.n23, u.blk, u.keep k4' (blk_ne k4' k3' rfl), h.n23, h.g3, h.g4, h.g2, o'.upd u (own_blk_ne o' k3' rfl), oL'.upd u (own_blk_ne oL' k3' rfl), oR'.upd u (own_blk_ne oR' k3' rfl)⟩
end
/-- The last leaf's value, if there is one. -/
def lstOk (g : Nat → Int) (p : Nat × Nat) (k : Nat) (last : Int) (any : Bool) : Prop := (lvP g p k).getLast? = if any then some last else none
/-- The state of a round: what is known of the node under way. -/
structure CR (g : Nat → Int) (w0 : World) (ao : Option Addr) (R : List Rn) (c b1 b2 b3 b4 b6 b7 b8 bb : Nat) (Ds : List Nat) (vN : Value) (i : Nat) (p : Nat × Nat) (k : Nat) (vL vR : Value) (last : Int) (any : Bool) (w : World) : Prop where
  cs : CS w0 ao R c b1 b2 b3 b4 vN vL vR (ndsF g i) (lvF g i ++ lvP g p k) (rowF g i ++ kdP g p k) w
  k6 : Blk w b6 73 [.int .u64 (mkW (inB g p) k), .int .u64 (mkW (stB g p) k), .int .i64 (rowF g i).length, .int .i64 (lvF g i).length]
  k7 : Blk w b7 3 [.int .i64 last]
  k8 : Blk w b8 4 [.bool any]
  kb : Blk w bb 120 [.int .u64 p.1, .int .i64 p.2]
  g6 : w0.heap.size ≤ b6
  g7 : w0.heap.size ≤ b7
  g8 : w0.heap.size ≤ b8
  nN : vN.ownBlock ≠ some b6
  nL : vL.ownBlock ≠ some b7
  nR : vR.ownBlock ≠ some bb
  mks : Marks Ds w
section
variable {g : Nat → Int} {w0 w w1 : World} {ao : Option Addr} {R : List Rn} {c b1 b2 b3 b4 b6 b7 b8 bb : Nat} {Ds : List Nat} {vN vL vR : Value} {i : Nat} {p : Nat × Nat} {k : Nat} {last : Int} {any : Bool}
theorem CR.ext (h : CR g w0 ao R c b1 b2 b3 b4 b6 b7 b8 bb Ds vN i p k vL vR last any w) (he : Ext w w1) : CR g w0 ao R c b1 b2 b3 b4 b6 b7 b8 bb Ds vN i p k vL vR last any w1 :=
  ⟨h.cs.mono he, h.k6.ext he, h.k7.ext he, h.k8.ext he, h.kb.ext he, h.g6, h.g7, h.g8, h.nN, h.nL, h.nR, h.mks.ext he⟩
theorem CR.turn {l : Nat} (h : CR g w0 ao R c b1 b2 b3 b4 b6 b7 b8 bb Ds vN i p k vL vR last any w) (ht : Turn l w w1) (hl : w0.heap.size ≤ l) : CR g w0 ao R c b1 b2 b3 b4 b6 b7 b8 bb Ds vN i p k vL vR last any w1 :=
  ⟨h.cs.turn ht hl, ht.blk h.k6, ht.blk h.k7, ht.blk h.k8, ht.blk h.kb, h.g6, h.g7, h.g8, h.nN, h.nL, h.nR, h.mks.turn ht⟩
/-- The last value is set. -/
theorem CR.setLast {w2 : World} {last' : Int} (h : CR g w0 ao R c b1 b2 b3 b4 b6 b7 b8 bb Ds vN i p k vL vR last any w) (u7 : Upd w w1 b7 3 [.int .i64 last']) (u8 : Upd w1 w2 b8 4 [.bool true]) (hN : vN.ownBlock ≠ some b7) :
    CR g w0 ao R c b1 b2 b3 b4 b6 b7 b8 bb Ds vN i p k vL vR last' true w2 := by
  have cs1 := h.cs.upd u7 h.k7 h.g7 rfl rfl rfl hN h.nL rfl
  have k8 := u7.keep h.k8 (blk_ne h.k8 h.k7 rfl)
  have cs2 := cs1.upd u8 k8 h.g8 rfl rfl rfl (own_blk_ne cs1.oN k8 rfl) (own_blk_ne cs1.oL k8 rfl) rfl
  have k6 := u7.keep h.k6 (blk_ne h.k6 h.k7 rfl)
  have kb := u7.keep h.kb (blk_ne h.kb h.k7 rfl)
  exact ⟨cs2, u8.keep k6 (blk_ne k6 k8 rfl), u8.keep u7.blk (blk_ne u7.blk k8 rfl), u8.blk, u8.keep kb (blk_ne kb k8 rfl), h.g6, h.g7, h.g8, h.nN, h.nL, h.nR, (h.mks.upd u7 h.k7).upd u8 k8⟩
theorem CR.same (h : CR g w0 ao R c b1 b2 b3 b4 b6 b7 b8 bb Ds vN i p k vL vR last any w) (e1 : kdP g p (k + 1) = kdP g p k) (e2 : lvP g p (k + 1) = lvP g p k) (e3 : mkW (inB g p) (k + 1) = mkW (inB g p) k) (e4 : mkW (stB g p) (k + 1) = mkW (stB g p) k) :
    CR g w0 ao R c b1 b2 b3 b4 b6 b7 b8 bb Ds vN i p (k + 1) vL vR last any w :=
  ⟨by rw [e1, e2]; exact h.cs, by rw [e3, e4]; exact h.k6, h.k7, h.k8, h.kb, h.g6, h.g7, h.g8, h.nN, h.nL, h.nR, h.mks⟩
/-- An inner digit is noted. -/
theorem CR.inner {wa wb wc wd : World} {vR' : Value} (h : CR g w0 ao R c b1 b2 b3 b4 b6 b7 b8 bb Ds vN i p k vL vR last any w) (hin : inB g p k = true) (hK : digK g p k = some none)
    (ua : Upd w wa b6 73 [.int .u64 (mkW (inB g p) (k + 1)), .int .u64 (mkW (stB g p) k), .int .i64 (rowF g i).length, .int .i64 (lvF g i).length]) (eb : Ext wa wb) (gc : wb.grownBy wc vR.ownBlock)
    (oc : Own wc w0.heap.size 120 2 vR' ((rowF g i ++ kdP g p k).map plC ++ [plC (digLo p.2 p.1 k, p.2 + 1)])) (dc : vR'.ownBlock = vR.ownBlock ∨ ∃ b, vR'.ownBlock = some b ∧ wb.heap.size ≤ b) (ud : Upd wc wd b4 121 [vR']) :
    CR g w0 ao R c b1 b2 b3 b4 b6 b7 b8 bb Ds vN i p (k + 1) vL vR' last any wd := by
  obtain ⟨s1, s2, s3⟩ := step_in hin hK
  have csa := (h.cs.upd ua h.k6 h.g6 rfl rfl rfl h.nN (own_blk_ne h.cs.oL h.k6 rfl) rfl).mono eb
  have kp : ∀ {b : Nat} {t : TypeId} {cs : List Value}, Blk wb b t cs → vR.ownBlock ≠ some b → b ≠ b4 → Blk wd b t cs := fun hB hn h4 => ud.keep (grow_blk gc hB (fun e => hn e.symm)) h4
  have k6 := ua.blk.ext eb
  have k7 := (ua.keep h.k7 (blk_ne h.k7 h.k6 rfl)).ext eb
  have k8 := (ua.keep h.k8 (blk_ne h.k8 h.k6 rfl)).ext eb
  have kb := (ua.keep h.kb (blk_ne h.kb h.k6 rfl)).ext eb
  have mkb := (h.mks.upd ua h.k6).ext eb
  have k4c := grow_blk gc csa.k4 (fun e => own_blk_ne csa.oR csa.k4 rfl e.symm)
  have csd := csa.pushR (Q' := rowF g i ++ kdP g p (k + 1)) gc (by rw [s1, ← List.append_assoc, List.map_append]; exact oc) ud
  refine ⟨by rw [s2]; exact csd, by rw [s3]; exact kp k6 (own_blk_ne csa.oR k6 rfl) (blk_ne k6 csa.k4 rfl), kp k7 (own_blk_ne csa.oR k7 rfl) (blk_ne k7 csa.k4 rfl), kp k8 (own_blk_ne csa.oR k8 rfl) (blk_ne k8 csa.k4 rfl), kp kb h.nR (blk_ne kb csa.k4 rfl),
    h.g6, h.g7, h.g8, h.nN, h.nL, dis_app dc h.nR kb.lt, (mkb.own csa.oR gc).upd ud k4c⟩
/-- A new leaf is noted. -/
theorem CR.newLeaf {wa wb wc wd : World} {vL' : Value} {v : Int} (h : CR g w0 ao R c b1 b2 b3 b4 b6 b7 b8 bb Ds vN i p k vL vR last any w) (e1 : kdP g p (k + 1) = kdP g p k) (e2 : lvP g p (k + 1) = lvP g p k ++ [v]) (e3 : mkW (inB g p) (k + 1) = mkW (inB g p) k)
    (ua : Upd w wa b6 73 [.int .u64 (mkW (inB g p) k), .int .u64 (mkW (stB g p) (k + 1)), .int .i64 (rowF g i).length, .int .i64 (lvF g i).length]) (eb : Ext wa wb) (gc : wb.grownBy wc vL.ownBlock)
    (oc : Own wc w0.heap.size 3 1 vL' ((lvF g i ++ lvP g p k).map ic ++ [ic v])) (dc : vL'.ownBlock = vL.ownBlock ∨ ∃ b, vL'.ownBlock = some b ∧ wb.heap.size ≤ b) (ud : Upd wc wd b3 32 [vN, vL']) :
    CR g w0 ao R c b1 b2 b3 b4 b6 b7 b8 bb Ds vN i p (k + 1) vL' vR last any wd := by
  have csa := (h.cs.upd ua h.k6 h.g6 rfl rfl rfl h.nN (own_blk_ne h.cs.oL h.k6 rfl) rfl).mono eb
  have kp : ∀ {b : Nat} {t : TypeId} {cs : List Value}, Blk wb b t cs → vL.ownBlock ≠ some b → b ≠ b3 → Blk wd b t cs := fun hB hn h4 => ud.keep (grow_blk gc hB (fun e => hn e.symm)) h4
  have k6 := ua.blk.ext eb
  have k7 := (ua.keep h.k7 (blk_ne h.k7 h.k6 rfl)).ext eb
  have k8 := (ua.keep h.k8 (blk_ne h.k8 h.k6 rfl)).ext eb
  have kb := (ua.keep h.kb (blk_ne h.kb h.k6 rfl)).ext eb
  have mkb := (h.mks.upd ua h.k6).ext eb
  have k3c := grow_blk gc csa.k3 (fun e => own_blk_ne csa.oL csa.k3 rfl e.symm)
  have csd := csa.pushL (L' := lvF g i ++ lvP g p (k + 1)) gc (by rw [e2, ← List.append_assoc, List.map_append]; exact oc) ud
  refine ⟨by rw [e1]; exact csd, by rw [e3]; exact kp k6 (own_blk_ne csa.oL k6 rfl) (blk_ne k6 csa.k3 rfl), kp k7 h.nL (blk_ne k7 csa.k3 rfl), kp k8 (own_blk_ne csa.oL k8 rfl) (blk_ne k8 csa.k3 rfl), kp kb (own_blk_ne csa.oL kb rfl) (blk_ne kb csa.k3 rfl),
    h.g6, h.g7, h.g8, h.nN, dis_app dc h.nL k7.lt, h.nR, (mkb.own csa.oL gc).upd ud k3c⟩
end
theorem below_v (p : Nat × Nat) (w : World) : Calls Try.prog 72 #[.agg #[.int .u64 p.1, .int .i64 p.2]] w
    (Gives (fun v w' => ∃ b, v = .func (.func 93) #[] #[.pointer (some ⟨b, 0, none⟩)] ∧ Blk w' b 120 [.int .u64 p.1, .int .i64 p.2] ∧ w.heap.size ≤ b) w) := by
  refine V_enter (vs := [_]) Try.func72 rfl Try.ntmps72 (Nat.le_of_ble_eq_true rfl) ?_
  repeat (first | refine Vx ?_ | (apply Ops_q; (case hon => exact Va); (case hd => rfl); (case hq => exact YlA)) | refine Vr ?_ | refine Vt ?_ | refine Vf ?_ | refine Vm ?_ | refine Ve ?_ | refine Vo ?_ | refine Vz ?_ | refine Vn ?_)
  (refine Ops_box (by exact Va) rfl rfl rfl ?_; intro w1 b1 n_b1; have k_b1 := n_b1.blk)
  repeat (first | refine Vx ?_ | (apply Ops_q; (case hon => exact Va); (case hd => rfl); (case hq => exact YlA)) | refine Vr ?_ | refine Vt ?_ | refine Vf ?_ | refine Vm ?_ | refine Ve ?_ | refine Vo ?_ | refine Vz ?_ | refine Vn ?_)
  refine ret1 (by first | exact .inl rfl | exact .inr rfl) rfl rfl ?_
  exact Gives_mk (fun w' hw => ⟨b1, rfl, k_b1.ext hw, n_b1.ge⟩) n_b1.ext
/-- What compress returns. -/
def CfR (g : Nat → Int) (w0 : World) (r : Value) (w' : World) : Prop := ∃ (vN vL : Value) (N : List Nd) (L : List Int), r = .agg #[vN, vL] ∧ IsCf g N L ∧
  Own w' w0.heap.size 73 4 vN (N.map Nd.cells) ∧ Own w' w0.heap.size 3 1 vL (L.map ic)
end Go.Proofs.Ytjpnaofoeeegeaa


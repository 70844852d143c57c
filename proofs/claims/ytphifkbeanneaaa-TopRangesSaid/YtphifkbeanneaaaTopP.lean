/-
  Layer 5 (cover): the prefixes of a range, in plain lists.
  Conditions: addresses are below 2^32.
-/
import Derived.Test.YtphifkbeanneaaaTop
import Derived.Test.YtphifkbeanneaaaTrO
namespace Go.Proofs.Ytphifkbeanneaaa
open Go.RowKit

theorem top_hi (a k : Nat) : a ≤ top a k + (2 ^ (32 - k) - 1) := by
  have hp : 0 < 2 ^ (32 - k) := Nat.two_pow_pos _
  have := Nat.lt_div_mul_add (a := a) hp
  unfold top
  omega
theorem rng_mem (lo hi : Nat) : ∀ (f x k : Nat), k + f = 32 → top x k = x → x < 4294967296 → ∀ p ∈ rng lo hi f x k, p.valid = true ∧ p.a < 4294967296 ∧ top p.a k = x ∧ (k : Int) ≤ p.n ∧ lo ≤ p.a ∧ p.a + (2 ^ (32 - p.n.toNat) - 1) ≤ hi := by
  have base : ∀ (x k : Nat), k ≤ 32 → top x k = x → x < 4294967296 → lo ≤ x ∧ x + (2 ^ (32 - k) - 1) ≤ hi → ∀ p ∈ [(⟨x, k⟩ : Pf)], p.valid = true ∧ p.a < 4294967296 ∧ top p.a k = x ∧ (k : Int) ≤ p.n ∧ lo ≤ p.a ∧ p.a + (2 ^ (32 - p.n.toNat) - 1) ≤ hi := fun x k hk hx hl h p hp => by
    obtain rfl := List.mem_singleton.1 hp
    exact ⟨Pf.valid_iff.2 ⟨by simp, by simp; omega, by simpa using hx⟩, hl, hx, by simp, h.1, by simpa using h.2⟩
  intro f
  induction f with
  | zero =>
    intro x k hk hx hl p hp
    rw [rng] at hp
    split at hp
    · cases hp
    · split at hp
      · rename_i h; exact base x k (by omega) hx hl h p hp
      · cases hp
  | succ f ih =>
    intro x k hk hx hl p hp
    rw [rng] at hp
    split at hp
    · cases hp
    · split at hp
      · rename_i h; exact base x k (by omega) hx hl h p hp
      · have hk32 : k < 32 := by omega
        have key : ∀ bit, bit < 2 → p ∈ rng lo hi f (kidA x k bit) (k + 1) → p.valid = true ∧ p.a < 4294967296 ∧ top p.a k = x ∧ (k : Int) ≤ p.n ∧ lo ≤ p.a ∧ p.a + (2 ^ (32 - p.n.toNat) - 1) ≤ hi := fun bit hb h => by
          obtain ⟨h1, h2, h3, h4, h5⟩ := ih _ _ (by omega) (kid_top hk32 hx hb).1 (kid_lt hk32 hx hb hl) p h
          exact ⟨h1, h2, by rw [← top_top p.a (j := k) (k := k + 1) (by omega) (by omega), h3, (kid_top hk32 hx hb).2], by omega, h5⟩
        rcases List.mem_append.1 hp with h | h
        · exact key 0 (by omega) h
        · exact key 1 (by omega) h
theorem rng_srt (lo hi : Nat) : ∀ (f x k : Nat), k + f = 32 → top x k = x → x < 4294967296 → (rng lo hi f x k).Pairwise pLt
  | 0, x, k, _, _, _ => by rw [rng]; split <;> (try split) <;> simp
  | f + 1, x, k, hk, hx, hl => by
    have hk32 : k < 32 := by omega
    have t0 := kid_top hk32 hx (bit := 0) (by omega)
    have t1 := kid_top hk32 hx (bit := 1) (by omega)
    have l0 := kid_lt hk32 hx (bit := 0) (by omega) hl
    have l1 := kid_lt hk32 hx (bit := 1) (by omega) hl
    have hp : 0 < 2 ^ (31 - k) := Nat.two_pow_pos _
    have hlt : kidA x k 0 < kidA x k 1 := by unfold kidA; omega
    rw [rng]
    split
    · exact List.Pairwise.nil
    · split
      · exact List.pairwise_singleton ..
      · refine List.pairwise_append.2 ⟨rng_srt lo hi f _ _ (by omega) t0.1 l0, rng_srt lo hi f _ _ (by omega) t1.1 l1, fun a ha b hb => ?_⟩
        obtain ⟨_, _, a3, _⟩ := rng_mem lo hi f _ _ (by omega) t0.1 l0 a ha
        obtain ⟨_, _, b3, _⟩ := rng_mem lo hi f _ _ (by omega) t1.1 l1 b hb
        refine .inl ?_
        rcases Nat.lt_or_ge a.a b.a with h | h
        · exact h
        · have := top_mono (c := k + 1) h
          omega
theorem rng_cover (lo hi : Nat) {a : Nat} (h1 : lo ≤ a) (h2 : a ≤ hi) : ∀ (f x k : Nat), k + f = 32 → top x k = x → x < 4294967296 → top a k = x → ∃ p ∈ rng lo hi f x k, p.has a = true := by
  have base : ∀ (x k : Nat), k ≤ 32 → top x k = x → top a k = x → ∃ p ∈ [(⟨x, k⟩ : Pf)], p.has a = true := fun x k hk hx ht => by
    refine ⟨_, List.mem_singleton.2 rfl, ?_⟩
    rw [Pf.has, Pf.valid_iff.2 ⟨by simp, by simp; omega, by simpa using hx⟩]
    simpa using ht
  intro f
  induction f with
  | zero =>
    intro x k hk hx hl ht
    obtain rfl : k = 32 := by omega
    rw [top_full] at ht
    subst ht
    rw [rng, if_neg (by simp; omega), if_pos (by simp; omega)]
    exact base a 32 (by omega) hx (top_full a)
  | succ f ih =>
    intro x k hk hx hl ht
    have hk32 : k < 32 := by omega
    have e1 := top_le a k
    have e2 := top_hi a k
    rw [ht] at e1 e2
    rw [rng, if_neg (by omega)]
    split
    · exact base x k (by omega) hx ht
    · rcases top_split hk32 ht with h | h
      · obtain ⟨p, hp, hh⟩ := ih _ _ (by omega) (kid_top hk32 hx (bit := 0) (by omega)).1 (kid_lt hk32 hx (by omega) hl) h
        exact ⟨p, List.mem_append_left _ hp, hh⟩
      · obtain ⟨p, hp, hh⟩ := ih _ _ (by omega) (kid_top hk32 hx (bit := 1) (by omega)).1 (kid_lt hk32 hx (by omega) hl) h
        exact ⟨p, List.mem_append_right _ hp, hh⟩
theorem has_in {p : Pf} {a : Nat} (h : p.has a = true) : p.a ≤ a ∧ a ≤ p.a + (2 ^ (32 - p.n.toNat) - 1) := by
  rw [Pf.has, Bool.and_eq_true, decide_eq_true_eq] at h
  rw [← h.2]
  exact ⟨top_le _ _, top_hi _ _⟩
/-- The prefixes of a range. -/
def rngL (lo hi : Nat) : List Pf := rng lo hi 32 0 0
theorem rngL_mem {lo hi : Nat} {p : Pf} (h : p ∈ rngL lo hi) : p.valid = true ∧ p.a < 4294967296 ∧ lo ≤ p.a ∧ p.a + (2 ^ (32 - p.n.toNat) - 1) ≤ hi := by
  obtain ⟨h1, h2, _, _, h3⟩ := rng_mem lo hi 32 0 0 rfl (by decide) (by decide) p h
  exact ⟨h1, h2, h3⟩
theorem rngL_has {lo hi a : Nat} (ha : a < 4294967296) : (∃ p ∈ rngL lo hi, p.has a = true) ↔ lo ≤ a ∧ a ≤ hi := by
  constructor
  · rintro ⟨p, hp, h⟩
    obtain ⟨_, _, h1, h2⟩ := rngL_mem hp
    have := has_in h
    omega
  · rintro ⟨h1, h2⟩
    exact rng_cover lo hi h1 h2 32 0 0 rfl (by decide) (by decide) (top_zero a ha)
/-- The entries that the law puts. -/
def numb : Nat → List Pf → List En
  | _, [] => []
  | i, p :: r => ⟨p, i⟩ :: numb (i + 1) r
theorem numb_get : ∀ (R : List Pf) (i k : Nat), (numb i R)[k]? = (R[k]?).map (fun p => ⟨p, ((i + k : Nat) : Int)⟩)
  | [], i, k => by simp [numb]
  | p :: r, i, 0 => by simp [numb]
  | p :: r, i, k + 1 => by
    simp only [numb, List.getElem?_cons_succ]
    rw [numb_get r (i + 1) k]
    congr 2
    funext q
    congr 1
    omega
theorem numb_len : ∀ (R : List Pf) (i : Nat), (numb i R).length = R.length
  | [], _ => rfl
  | p :: r, i => by simp [numb, numb_len r]
theorem numb_mem {R : List Pf} {i : Nat} {e : En} (h : e ∈ numb i R) : ∃ k : Nat, R[k]? = some e.p ∧ e.v = ((i + k : Nat) : Int) := by
  obtain ⟨k, hk, rfl⟩ := List.getElem_of_mem h
  have h2 := numb_get R i k
  rw [List.getElem?_eq_getElem hk] at h2
  rw [numb_len] at hk
  rw [List.getElem?_eq_getElem hk] at h2
  simp only [Option.map_some, Option.some.injEq] at h2
  rw [h2]
  exact ⟨k, List.getElem?_eq_getElem hk, rfl⟩
theorem insL_last {e : En} : ∀ {A : List En}, (∀ x ∈ A, pLt x.p e.p) → insL e A = A ++ [e]
  | [], _ => rfl
  | x :: r, h => by
    have h1 := h x (List.mem_cons_self ..)
    unfold insL
    rw [if_neg (fun e2 => by rw [e2] at h1; exact pLt_irrefl _ h1), if_neg (fun h2 => pLt_irrefl _ (pLt_trans h1 h2)), insL_last fun y hy => h y (List.mem_cons_of_mem _ hy)]
    rfl
theorem srtL_srt (L : List En) : Srt L → srtL L = L := by
  induction L using en_ind with
  | h0 => exact fun _ => rfl
  | h1 A e ih =>
    intro h
    obtain ⟨h1, _, h3⟩ := List.pairwise_append.1 h
    have : srtL (A ++ [e]) = insL e (srtL A) := by unfold srtL; rw [List.foldl_append]; rfl
    rw [this, ih h1, insL_last fun x hx => h3 x hx e (List.mem_singleton.2 rfl)]
theorem numb_srt : ∀ (R : List Pf) (i : Nat), R.Pairwise pLt → Srt (numb i R)
  | [], _, _ => List.Pairwise.nil
  | p :: r, i, h => by
    obtain ⟨h1, h2⟩ := List.pairwise_cons.1 h
    refine List.pairwise_cons.2 ⟨fun e he => ?_, numb_srt r (i + 1) h2⟩
    obtain ⟨k, hk, _⟩ := numb_mem he
    exact h1 e.p (List.mem_of_getElem? hk)
theorem best_mem {a : Nat} (L : List En) : (∀ x, bestL a L = some x → x ∈ L ∧ x.p.has a = true) ∧ (bestL a L = none → ∀ x ∈ L, x.p.has a = false) := by
  induction L using en_ind with
  | h0 => exact ⟨fun x h => (by cases h), fun _ x h => (by cases h)⟩
  | h1 A e ih =>
    have : bestL a (A ++ [e]) = bestS a (bestL a A) e := by unfold bestL; rw [List.foldl_append]; rfl
    rw [this, bestS]
    cases hb : bestB a (bestL a A) e with
    | true =>
      simp only [if_true]
      refine ⟨fun x h => ?_, fun h => nomatch h⟩
      cases h
      rw [bestB, Bool.and_eq_true] at hb
      exact ⟨by simp, hb.1⟩
    | false =>
      simp only [Bool.false_eq_true, if_false]
      refine ⟨fun x h => ⟨List.mem_append_left _ (ih.1 x h).1, (ih.1 x h).2⟩, fun h x hx => ?_⟩
      rcases List.mem_append.1 hx with hx | hx
      · exact ih.2 h x hx
      · obtain rfl := List.mem_singleton.1 hx
        rw [bestB, h] at hb
        simpa using hb
end Go.Proofs.Ytphifkbeanneaaa
